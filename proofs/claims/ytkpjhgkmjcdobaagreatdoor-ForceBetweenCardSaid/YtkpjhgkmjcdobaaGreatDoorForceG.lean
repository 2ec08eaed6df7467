import Derived.Test.YtkpjhgkmjcdobaaGreatDoorForceF
/-
  force: what holds at a second, and an occurrence's instant.
-/
namespace Go.Proofs.YtkpjhgkmjcdobaaGreatDoor
open Go.RowKit NB Nxt
namespace Frc
theorem last_all {l : List RuleV} {e : EraV} {t : Int} {o : OccV} (h : lastP l e t = some o) : Occ.All l e.rules l.length o := by
  unfold lastP at h
  cases hm : Chn.may e.off
  · unfold Chn.lastO at h
    rw [hm] at h
    cases h
  · have hs := Chn.last_spec (l := l) (name := e.rules) (off := e.off) (t := t) hm
    rw [h] at hs
    exact hs.1
theorem boxS1 (X : World) (o : Obj) (cs : Array Value) (t : TypeId) : Box ((X.alloc o).alloc (.cells cs t)) (X.heap.size + 1) cs t := by
  have := Box.new (X.alloc o) cs t
  rwa [World.size_alloc] at this
theorem boxS2 (X : World) (o o' : Obj) (cs : Array Value) (t : TypeId) : Box (((X.alloc o).alloc o').alloc (.cells cs t)) (X.heap.size + 1 + 1) cs t := by
  have := Box.new ((X.alloc o).alloc o') cs t
  rwa [World.size_alloc, World.size_alloc] at this
set_option maxHeartbeats 3200000 in
set_option maxRecDepth 100000 in
theorem atK {w : World} {b g : Nat} {l : List RuleV} {e : EraV} {r : Value} (hv : View w b l e r g) (he : e.Fit) (ht : Tab w) (t : Int) (hk : ¬ e.kind = 2) :
    Calls Tryz.prog 56 #[.pointer (some ⟨b, 0, none⟩), .int .i64 t] w fun x w' => x = .returned (.tuple #[.agg (valR e e.save ⟨#[]⟩).cells.toArray, .agg #[.int .i64 0, .int .i64 0, .int .i64 0], .bool false]) ∧ Below w.heap.size w w' := by
  obtain ⟨y, hy⟩ : ∃ y, y = valR e e.save ⟨#[]⟩ := ⟨_, rfl⟩
  have cval : ∀ W, Box W b (viewC e r g l.length) 126 → Tab W → Calls Tryz.prog 98 #[.pointer (some ⟨b, 0, none⟩), .int .i64 e.save, .string ⟨#[]⟩] W fun z w' => z = .returned (.agg #[.int .i64 y.off, .int .i64 y.save, .string y.abbr]) ∧ Below W.heap.size W w' := fun W h h' => by rw [hy]; exact value e he.f r g l.length b e.save ⟨#[]⟩ (by decide) W h h'
  rw [← hy]
  have Cv := Lib.hid cval
  have HT := Lib.hid ht
  have HB := Lib.hid hv.box
  have bV := hv.box
  unfold viewC at bV
  have cV := bV.cell
  have lV := bV.lt
  clear cval hy hv ht bV
  go_enter Tryz.func56, Tryz.ntmps56
  go_wp2_with (go_at_call 98; (with_reducible refine (Cv.out _ ?_ ?_).mono ?_); (· have bV := HB.out; repeat (first | (with_reducible assumption) | (with_reducible exact Box.new _ _ _) | (with_reducible refine Box.old ?_) | (with_reducible refine Box.drew ?_) | (with_reducible refine Box.drewN ?_ _) | (with_reducible refine Box.other ?_ (by first | assumption | omega | (simp; omega))) | (with_reducible refine Box.later ?_ (by with_reducible assumption)))); (· exact HT.out.later (by repeat (first | (with_reducible exact Below.refl _ _) | (with_reducible assumption) | (with_reducible refine ba ?_) | (with_reducible refine bd ?_) | (with_reducible refine bdn ?_ _) | (with_reducible refine bset ?_ (by first | exact Nat.le_refl _ | omega | (simp; done) | (simp; omega))) | (with_reducible refine bt ?_ (by with_reducible assumption))))); rintro e2 w2 ⟨rfl, hb2⟩; obtain ⟨hc2, hf2⟩ := bcell hb2; have hc2_0 := fun o => hc2 (w.heap.size) o (by first | assumption | omega | (simp; done) | (simp; omega)); have hf2_0 := fun o => hf2 (w.heap.size) o (by first | assumption | omega | (simp; done) | (simp; omega)); have hc2_1 := fun o => hc2 (w.heap.size + 1) o (by first | assumption | omega | (simp; done) | (simp; omega)); have hf2_1 := fun o => hf2 (w.heap.size + 1) o (by first | assumption | omega | (simp; done) | (simp; omega)); clear hc2 hf2; have hz2_0 : w.heap.size < w2.heap.size := (by first | exact sz1 hb2 | exact sz2 hb2 | exact sz3 hb2 | (have := hb2.size; (try simp only [World.size_alloc] at this); omega)); have hz2_1 : w.heap.size + 1 < w2.heap.size := (by first | exact sz1 hb2 | exact sz2 hb2 | exact sz3 hb2 | (have := hb2.size; (try simp only [World.size_alloc, World.size_drew] at this); omega)))
  refine bodyPost_ret (v := .tuple #[.agg #[.int .i64 y.off, .int .i64 y.save, .string y.abbr], .agg #[.int .i64 0, .int .i64 0, .int .i64 0], .bool false]) ?_ rfl ⟨rfl, ?_⟩
  · simp only [results, Tryz.results56]
    go_simp
  · repeat (first | (with_reducible exact Below.refl _ _) | (with_reducible assumption) | (with_reducible refine ba ?_) | (with_reducible refine bd ?_) | (with_reducible refine bdn ?_ _) | (with_reducible refine bset ?_ (by first | exact Nat.le_refl _ | omega | (simp; done) | (simp; omega))) | (with_reducible refine bt ?_ (by with_reducible assumption)))
set_option maxHeartbeats 3200000 in
set_option maxRecDepth 100000 in
theorem atN {w : World} {b g : Nat} {l : List RuleV} {e : EraV} {r : Value} (hv : View w b l e r g) (he : e.Fit) (ht : Tab w) (t : Int) (hk : e.kind = 2) (hn : l.length ≤ 100000) (hlast : lastP l e t = none) :
    Calls Tryz.prog 56 #[.pointer (some ⟨b, 0, none⟩), .int .i64 t] w fun x w' => x = .returned (.tuple #[.agg (stateV l e t).cells.toArray, .agg #[.int .i64 0, .int .i64 0, .int .i64 0], .bool false]) ∧ Below w.heap.size w w' := by
  obtain ⟨y, hy⟩ : ∃ y, y = stateV l e t := ⟨_, rfl⟩
  have hf : y = firstV l e := by rw [hy]; unfold stateV; rw [hlast]
  have cf : ∀ W, View W b l e r g → Tab W → Calls Tryz.prog 67 #[.pointer (some ⟨b, 0, none⟩)] W fun z w' => z = .returned (.agg #[.int .i64 y.off, .int .i64 y.save, .string y.abbr]) ∧ Below W.heap.size W w' := fun W h h' => by rw [hf]; exact first h he h' hn
  have cl := fun W (h : Holds W r l) => ChW.Last h e.rules e.off t
  unfold lastP at hlast
  rw [hlast] at cl
  unfold optV at cl
  simp only at cl
  rw [← hy]
  have Cf := Lib.hid cf
  have Cl := Lib.hid cl
  have HT := Lib.hid ht
  have HV := Lib.hid hv
  have bV := hv.box
  unfold viewC at bV
  rw [hk] at bV
  have cV := bV.cell
  have lV := bV.lt
  obtain ⟨rp, rc, rfl⟩ := hv.rules.form
  clear cf cl hy hf hlast hv ht bV
  generalize l.length = n at *
  have hS : ∀ u : World, Below w.heap.size w u → ∀ o, u.cell? ⟨b, o, none⟩ = (#[.int .i64 e.off, .int .i64 2, .int .i64 e.save, .string e.rules, .string e.format, .bool e.u.has, .int .i64 e.u.year, .int .i64 e.u.month, .int .i64 e.u.kind, .int .i64 e.u.week, .int .i64 e.u.day, .int .i64 e.u.sec, .int .i64 e.u.base, .slice rp n rc, .slice (some ⟨g, 0, none⟩) n n] : Array Value)[o]? := fun u hu o => (hu.cell (p := ⟨b, o, none⟩) lV).trans (cV o)
  have HS := Lib.hid hS
  clear hS
  go_enter Tryz.func56, Tryz.ntmps56
  go_upto_region 3 with fail
  go_cut [7, 8] from 23 to 41 (fun s7 s8 wx => ∃ p7 : Nat, s7 = .pointer (some ⟨p7, 0, none⟩) ∧ s8 = .bool false ∧ w.heap.size + 1 < p7 ∧ Box wx p7 #[.int .i64 0, .int .i64 0, .int .i64 0] 53 ∧ Box wx w.heap.size #[.int .i64 0, .int .i64 0, .string ⟨#[]⟩] 58 ∧ Box wx (w.heap.size + 1) #[.int .i64 0, .int .i64 0, .int .i64 0] 53 ∧ Below w.heap.size w wx)
  case first =>
    go_region_held3 (fun w' => ∀ o, w'.cell? ⟨b, o, none⟩ = (#[.int .i64 e.off, .int .i64 2, .int .i64 e.save, .string e.rules, .string e.format, .bool e.u.has, .int .i64 e.u.year, .int .i64 e.u.month, .int .i64 e.u.kind, .int .i64 e.u.week, .int .i64 e.u.day, .int .i64 e.u.sec, .int .i64 e.u.base, .slice rp n rc, .slice (some ⟨g, 0, none⟩) n n] : Array Value)[o]?) ((refine HS.out _ ?_; repeat (first | (with_reducible exact Below.refl _ _) | (with_reducible assumption) | (with_reducible refine ba ?_) | (with_reducible refine bd ?_) | (with_reducible refine bdn ?_ _) | (with_reducible refine bset ?_ (by first | exact Nat.le_refl _ | omega | (simp; done) | (simp; omega))) | (with_reducible refine bt ?_ (by with_reducible assumption))))) (first | (go_at_call 99; (with_reducible refine (Cl.out _ ?_).mono ?_); (· exact HV.out.rules.later (by repeat (first | (with_reducible exact Below.refl _ _) | (with_reducible assumption) | (with_reducible refine ba ?_) | (with_reducible refine bd ?_) | (with_reducible refine bdn ?_ _) | (with_reducible refine bset ?_ (by first | exact Nat.le_refl _ | omega | (simp; done) | (simp; omega))) | (with_reducible refine bt ?_ (by with_reducible assumption))))); rintro e2 w2 ⟨rfl, hb2⟩; obtain ⟨hcq2, hfq2⟩ := bcell hb2; obtain ⟨hc2, hf2⟩ := bcell hb2; have hc2_0 := fun o => hc2 (w.heap.size) o (by first | assumption | omega | (simp; done) | (simp; omega)); have hf2_0 := fun o => hf2 (w.heap.size) o (by first | assumption | omega | (simp; done) | (simp; omega)); have hc2_1 := fun o => hc2 (w.heap.size + 1) o (by first | assumption | omega | (simp; done) | (simp; omega)); have hf2_1 := fun o => hf2 (w.heap.size + 1) o (by first | assumption | omega | (simp; done) | (simp; omega)); have hc2_2 := fun o => hc2 (b) o (by first | assumption | omega | (simp; done) | (simp; omega)); have hf2_2 := fun o => hf2 (b) o (by first | assumption | omega | (simp; done) | (simp; omega)); clear hc2 hf2; have hz2_0 : w.heap.size < w2.heap.size := (by first | exact sz1 hb2 | exact sz2 hb2 | exact sz3 hb2 | (have := hb2.size; (try simp only [World.size_alloc, World.size_drew] at this); omega)); have hz2_1 : w.heap.size + 1 < w2.heap.size := (by first | exact sz1 hb2 | exact sz2 hb2 | exact sz3 hb2 | (have := hb2.size; (try simp only [World.size_alloc, World.size_drew] at this); omega)); have hz2_2 : b < w2.heap.size := (by first | exact sz1 hb2 | exact sz2 hb2 | exact sz3 hb2 | (have := hb2.size; (try simp only [World.size_alloc, World.size_drew] at this); omega)); (try have hc2_t0 := fun o => hcq2 (w.heap.size + 1 + 1) o (by first | assumption | omega | (simp; done) | (simp; omega))); (try have hf2_t0 := fun o => hfq2 (w.heap.size + 1 + 1) o (by first | assumption | omega | (simp; done) | (simp; omega))); clear hcq2 hfq2))
    all_goals
      go_wp2
      go_meet
      first
        | exact ⟨w2.heap.size, rfl, rfl, by omega, Box.new _ _ _, by repeat (first | (with_reducible assumption) | (with_reducible exact Box.new _ _ _) | (with_reducible refine Box.old ?_) | (with_reducible refine Box.drew ?_) | (with_reducible refine Box.drewN ?_ _) | (with_reducible refine Box.other ?_ (by first | assumption | omega | (simp; omega))) | (with_reducible refine Box.later ?_ (by with_reducible assumption))), by (repeat (first | exact boxS1 _ _ _ _ | refine Box.old ?_ | refine Box.later ?_ hb2 | refine Box.drew ?_)), by repeat (first | (with_reducible exact Below.refl _ _) | (with_reducible assumption) | (with_reducible refine ba ?_) | (with_reducible refine bd ?_) | (with_reducible refine bdn ?_ _) | (with_reducible refine bset ?_ (by first | exact Nat.le_refl _ | omega | (simp; done) | (simp; omega))) | (with_reducible refine bt ?_ (by with_reducible assumption)))⟩
        | exact ⟨w.heap.size + 1 + 1, rfl, rfl, by omega, by (refine Box.set3 (x := .int .i64 0) (y := .int .i64 0) (z := .int .i64 0) ?_; refine Box.later ?_ hb2; refine Box.drew ?_; exact boxS2 _ _ _ _ _), by repeat (first | (with_reducible assumption) | (with_reducible exact Box.new _ _ _) | (with_reducible refine Box.old ?_) | (with_reducible refine Box.drew ?_) | (with_reducible refine Box.drewN ?_ _) | (with_reducible refine Box.other ?_ (by first | assumption | omega | (simp; omega))) | (with_reducible refine Box.later ?_ (by with_reducible assumption))), by (repeat (first | exact boxS1 _ _ _ _ | refine Box.old ?_ | refine Box.other ?_ (by omega) | refine Box.later ?_ hb2 | refine Box.drew ?_)), by repeat (first | (with_reducible exact Below.refl _ _) | (with_reducible assumption) | (with_reducible refine ba ?_) | (with_reducible refine bd ?_) | (with_reducible refine bdn ?_ _) | (with_reducible refine bset ?_ (by first | exact Nat.le_refl _ | omega | (simp; done) | (simp; omega))) | (with_reducible refine bt ?_ (by with_reducible assumption)))⟩
  case rest =>
    obtain ⟨p7, rfl, rfl, hp7, b7, b4, b5, hbel⟩ := hcut
    have k7 := b7.cell
    have l7 := b7.lt
    have k4 := b4.cell
    have l4 := b4.lt
    have f4 := b4.free
    have k5 := b5.cell
    have l5 := b5.lt
    have f5 := b5.free
    have HBL := Lib.hid hbel
    clear b7 b4 b5 hbel cV
    go_upto_region 5 with fail
    go_region_with ((go_at_call 67; (with_reducible refine (Cf.out _ ?_ ?_).mono ?_); (· exact HV.out.later (bt HBL.out (by repeat (first | (with_reducible exact Below.refl _ _) | (with_reducible assumption) | (with_reducible refine ba ?_) | (with_reducible refine bd ?_) | (with_reducible refine bdn ?_ _) | (with_reducible refine bset ?_ (by first | exact Nat.le_refl _ | omega | (simp; done) | (simp; omega))) | (with_reducible refine bt ?_ (by with_reducible assumption)))))); (· exact HT.out.later (bt HBL.out (by repeat (first | (with_reducible exact Below.refl _ _) | (with_reducible assumption) | (with_reducible refine ba ?_) | (with_reducible refine bd ?_) | (with_reducible refine bdn ?_ _) | (with_reducible refine bset ?_ (by first | exact Nat.le_refl _ | omega | (simp; done) | (simp; omega))) | (with_reducible refine bt ?_ (by with_reducible assumption)))))); rintro e3 w3 ⟨rfl, hb3⟩; obtain ⟨hc3, hf3⟩ := bcell hb3; have hc3_0 := fun o => hc3 (p7) o (by first | assumption | omega | (simp; done) | (simp; omega)); have hf3_0 := fun o => hf3 (p7) o (by first | assumption | omega | (simp; done) | (simp; omega)); have hc3_1 := fun o => hc3 (w.heap.size) o (by first | assumption | omega | (simp; done) | (simp; omega)); have hf3_1 := fun o => hf3 (w.heap.size) o (by first | assumption | omega | (simp; done) | (simp; omega)); have hc3_2 := fun o => hc3 (w.heap.size + 1) o (by first | assumption | omega | (simp; done) | (simp; omega)); have hf3_2 := fun o => hf3 (w.heap.size + 1) o (by first | assumption | omega | (simp; done) | (simp; omega)); clear hc3 hf3; have hz3_0 : p7 < w3.heap.size := (by first | exact sz1 hb3 | exact sz2 hb3 | exact sz3 hb3 | (have := hb3.size; (try simp only [World.size_drew] at this); omega)); have hz3_1 : w.heap.size < w3.heap.size := (by first | exact sz1 hb3 | exact sz2 hb3 | exact sz3 hb3 | (have := hb3.size; (try simp only [World.size_drew] at this); omega)); have hz3_2 : w.heap.size + 1 < w3.heap.size := (by first | exact sz1 hb3 | exact sz2 hb3 | exact sz3 hb3 | (have := hb3.size; (try simp only [World.size_drew] at this); omega))))
    all_goals
      go_wp2
      have hbel := HBL.out
      refine bodyPost_ret (v := .tuple #[.agg #[.int .i64 y.off, .int .i64 y.save, .string y.abbr], .agg #[.int .i64 0, .int .i64 0, .int .i64 0], .bool false]) ?_ rfl ⟨rfl, ?_⟩
      · simp only [results, Tryz.results56]
        go_simp
      · repeat (first | (with_reducible exact Below.refl _ _) | (with_reducible assumption) | (with_reducible refine ba ?_) | (with_reducible refine bd ?_) | (with_reducible refine bdn ?_ _) | (with_reducible refine bset ?_ (by first | exact Nat.le_refl _ | omega | (simp; done) | (simp; omega))) | (with_reducible refine bt ?_ (by with_reducible assumption)))
set_option maxHeartbeats 3200000 in
set_option maxRecDepth 100000 in
theorem atS {w : World} {b g : Nat} {l : List RuleV} {e : EraV} {r : Value} (hv : View w b l e r g) (_he : e.Fit) (ht : Tab w) (t : Int) (hk : e.kind = 2) (_hn : l.length ≤ 100000) (o : OccV) (hlast : lastP l e t = some o) :
    Calls Tryz.prog 56 #[.pointer (some ⟨b, 0, none⟩), .int .i64 t] w fun x w' => x = .returned (.tuple #[.agg (stateV l e t).cells.toArray, .agg #[.int .i64 o.rule, .int .i64 o.year, .int .i64 o.nom], .bool true]) ∧ Below w.heap.size w w' := by
  obtain ⟨y, hy⟩ : ∃ y, y = stateV l e t := ⟨_, rfl⟩
  have hA := last_all hlast
  obtain ⟨i, x, hoi, hil, hxi, hxn, _⟩ := rule_of hA
  have hyx : y = valX e x := by
    rw [hy]
    unfold stateV
    rw [hlast]
    show valAt l e o.rule = _
    rw [hoi, val_rule hxi]
    unfold valX
    rw [if_pos hxn]
  have hvv : ∀ (j : Nat) (u : Value), y.cells[j]? = some u → w.cell? ⟨g, i * 3 + j, none⟩ = some u := fun j u hu => hv.vals i x hxi j u (by rw [← hyx]; exact hu)
  have lg := hv.lt
  have cl := fun W (h : Holds W r l) => ChW.Last h e.rules e.off t
  unfold lastP at hlast
  rw [hlast] at cl
  unfold optV at cl
  simp only at cl
  rw [← hy]
  have HT := Lib.hid ht
  have HV := Lib.hid hv
  have bV := hv.box
  unfold viewC at bV
  rw [hk] at bV
  have cV := bV.cell
  have lV := bV.lt
  obtain ⟨rp, rc, rfl⟩ := hv.rules.form
  obtain ⟨orl, oyr, onm⟩ := o
  simp only at hoi
  subst hoi
  unfold OccV.cells at cl
  have Cl := Lib.hid cl
  have Hvv := Lib.hid hvv
  clear cl hy hyx hvv hlast hv ht bV hA hxi hxn
  generalize l.length = n at *
  have hS : ∀ u : World, Below w.heap.size w u → ∀ o, u.cell? ⟨b, o, none⟩ = (#[.int .i64 e.off, .int .i64 2, .int .i64 e.save, .string e.rules, .string e.format, .bool e.u.has, .int .i64 e.u.year, .int .i64 e.u.month, .int .i64 e.u.kind, .int .i64 e.u.week, .int .i64 e.u.day, .int .i64 e.u.sec, .int .i64 e.u.base, .slice rp n rc, .slice (some ⟨g, 0, none⟩) n n] : Array Value)[o]? := fun u hu o => (hu.cell (p := ⟨b, o, none⟩) lV).trans (cV o)
  have HS := Lib.hid hS
  clear hS
  go_enter Tryz.func56, Tryz.ntmps56
  go_upto_region 3 with fail
  go_cut [7, 8] from 23 to 41 (fun s7 s8 wx => ∃ p7 : Nat, s7 = .pointer (some ⟨p7, 0, none⟩) ∧ s8 = .bool true ∧ w.heap.size + 1 < p7 ∧ Box wx p7 #[.int .i64 (i : Int), .int .i64 oyr, .int .i64 onm] 53 ∧ Box wx w.heap.size #[.int .i64 0, .int .i64 0, .string ⟨#[]⟩] 58 ∧ Box wx (w.heap.size + 1) #[.int .i64 0, .int .i64 0, .int .i64 0] 53 ∧ Below w.heap.size w wx)
  case first =>
    go_region_held3 (fun w' => ∀ o, w'.cell? ⟨b, o, none⟩ = (#[.int .i64 e.off, .int .i64 2, .int .i64 e.save, .string e.rules, .string e.format, .bool e.u.has, .int .i64 e.u.year, .int .i64 e.u.month, .int .i64 e.u.kind, .int .i64 e.u.week, .int .i64 e.u.day, .int .i64 e.u.sec, .int .i64 e.u.base, .slice rp n rc, .slice (some ⟨g, 0, none⟩) n n] : Array Value)[o]?) ((refine HS.out _ ?_; repeat (first | (with_reducible exact Below.refl _ _) | (with_reducible assumption) | (with_reducible refine ba ?_) | (with_reducible refine bd ?_) | (with_reducible refine bdn ?_ _) | (with_reducible refine bset ?_ (by first | exact Nat.le_refl _ | omega | (simp; done) | (simp; omega))) | (with_reducible refine bt ?_ (by with_reducible assumption))))) (first | (go_at_call 99; (with_reducible refine (Cl.out _ ?_).mono ?_); (· exact HV.out.rules.later (by repeat (first | (with_reducible exact Below.refl _ _) | (with_reducible assumption) | (with_reducible refine ba ?_) | (with_reducible refine bd ?_) | (with_reducible refine bdn ?_ _) | (with_reducible refine bset ?_ (by first | exact Nat.le_refl _ | omega | (simp; done) | (simp; omega))) | (with_reducible refine bt ?_ (by with_reducible assumption))))); rintro e2 w2 ⟨rfl, hb2⟩; obtain ⟨hcq2, hfq2⟩ := bcell hb2; obtain ⟨hc2, hf2⟩ := bcell hb2; have hc2_0 := fun o => hc2 (w.heap.size) o (by first | assumption | omega | (simp; done) | (simp; omega)); have hf2_0 := fun o => hf2 (w.heap.size) o (by first | assumption | omega | (simp; done) | (simp; omega)); have hc2_1 := fun o => hc2 (w.heap.size + 1) o (by first | assumption | omega | (simp; done) | (simp; omega)); have hf2_1 := fun o => hf2 (w.heap.size + 1) o (by first | assumption | omega | (simp; done) | (simp; omega)); have hc2_2 := fun o => hc2 (b) o (by first | assumption | omega | (simp; done) | (simp; omega)); have hf2_2 := fun o => hf2 (b) o (by first | assumption | omega | (simp; done) | (simp; omega)); clear hc2 hf2; have hz2_0 : w.heap.size < w2.heap.size := (by first | exact sz1 hb2 | exact sz2 hb2 | exact sz3 hb2 | (have := hb2.size; (try simp only [World.size_alloc, World.size_drew] at this); omega)); have hz2_1 : w.heap.size + 1 < w2.heap.size := (by first | exact sz1 hb2 | exact sz2 hb2 | exact sz3 hb2 | (have := hb2.size; (try simp only [World.size_alloc, World.size_drew] at this); omega)); have hz2_2 : b < w2.heap.size := (by first | exact sz1 hb2 | exact sz2 hb2 | exact sz3 hb2 | (have := hb2.size; (try simp only [World.size_alloc, World.size_drew] at this); omega)); (try have hc2_t0 := fun o => hcq2 (w.heap.size + 1 + 1) o (by first | assumption | omega | (simp; done) | (simp; omega))); (try have hf2_t0 := fun o => hfq2 (w.heap.size + 1 + 1) o (by first | assumption | omega | (simp; done) | (simp; omega))); clear hcq2 hfq2))
    all_goals
      go_wp2
      go_meet
      first
        | exact ⟨w2.heap.size, rfl, rfl, by omega, Box.new _ _ _, by repeat (first | (with_reducible assumption) | (with_reducible exact Box.new _ _ _) | (with_reducible refine Box.old ?_) | (with_reducible refine Box.drew ?_) | (with_reducible refine Box.drewN ?_ _) | (with_reducible refine Box.other ?_ (by first | assumption | omega | (simp; omega))) | (with_reducible refine Box.later ?_ (by with_reducible assumption))), by (repeat (first | exact boxS1 _ _ _ _ | refine Box.old ?_ | refine Box.later ?_ hb2 | refine Box.drew ?_)), by repeat (first | (with_reducible exact Below.refl _ _) | (with_reducible assumption) | (with_reducible refine ba ?_) | (with_reducible refine bd ?_) | (with_reducible refine bdn ?_ _) | (with_reducible refine bset ?_ (by first | exact Nat.le_refl _ | omega | (simp; done) | (simp; omega))) | (with_reducible refine bt ?_ (by with_reducible assumption)))⟩
        | exact ⟨w.heap.size + 1 + 1, rfl, rfl, by omega, by (refine Box.set3 (x := .int .i64 0) (y := .int .i64 0) (z := .int .i64 0) ?_; refine Box.later ?_ hb2; refine Box.drew ?_; exact boxS2 _ _ _ _ _), by repeat (first | (with_reducible assumption) | (with_reducible exact Box.new _ _ _) | (with_reducible refine Box.old ?_) | (with_reducible refine Box.drew ?_) | (with_reducible refine Box.drewN ?_ _) | (with_reducible refine Box.other ?_ (by first | assumption | omega | (simp; omega))) | (with_reducible refine Box.later ?_ (by with_reducible assumption))), by (repeat (first | exact boxS1 _ _ _ _ | refine Box.old ?_ | refine Box.other ?_ (by omega) | refine Box.later ?_ hb2 | refine Box.drew ?_)), by repeat (first | (with_reducible exact Below.refl _ _) | (with_reducible assumption) | (with_reducible refine ba ?_) | (with_reducible refine bd ?_) | (with_reducible refine bdn ?_ _) | (with_reducible refine bset ?_ (by first | exact Nat.le_refl _ | omega | (simp; done) | (simp; omega))) | (with_reducible refine bt ?_ (by with_reducible assumption)))⟩
  case rest =>
    obtain ⟨p7, rfl, rfl, hp7, b7, b4, b5, hbel⟩ := hcut
    have k7 := b7.cell
    have l7 := b7.lt
    have k4 := b4.cell
    have l4 := b4.lt
    have f4 := b4.free
    have k5 := b5.cell
    have l5 := b5.lt
    have f5 := b5.free
    have HBL := Lib.hid hbel
    clear b7 b4 b5 hbel cV
    have y0 := (HBL.out.cell (p := ⟨g, i * 3 + 0, none⟩) lg).trans (Hvv.out 0 _ rfl)
    have y1 := (HBL.out.cell (p := ⟨g, i * 3 + 1, none⟩) lg).trans (Hvv.out 1 _ rfl)
    have y2 := (HBL.out.cell (p := ⟨g, i * 3 + 2, none⟩) lg).trans (Hvv.out 2 _ rfl)
    simp only [Nat.add_zero] at y0
    have hgc : g < wc.heap.size := Nat.lt_of_lt_of_le lg HBL.out.size
    have hbc : b < wc.heap.size := Nat.lt_of_lt_of_le lV HBL.out.size
    have cb := HS.out wc HBL.out
    go_upto_region 6 with fail
    go_region
    go_wp2
    have hbel := HBL.out
    refine bodyPost_ret (v := .tuple #[.agg #[.int .i64 y.off, .int .i64 y.save, .string y.abbr], .agg #[.int .i64 (i : Int), .int .i64 oyr, .int .i64 onm], .bool true]) ?_ rfl ⟨rfl, ?_⟩
    · simp only [results, Tryz.results56]
      go_simp
    · repeat (first | (with_reducible exact Below.refl _ _) | (with_reducible assumption) | (with_reducible refine ba ?_) | (with_reducible refine bd ?_) | (with_reducible refine bdn ?_ _) | (with_reducible refine bset ?_ (by first | exact Nat.le_refl _ | omega | (simp; done) | (simp; omega))) | (with_reducible refine bt ?_ (by with_reducible assumption)))
end Frc
end Go.Proofs.YtkpjhgkmjcdobaaGreatDoor
