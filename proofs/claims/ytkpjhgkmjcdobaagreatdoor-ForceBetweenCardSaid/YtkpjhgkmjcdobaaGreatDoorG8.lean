import Derived.Test.YtkpjhgkmjcdobaaGreatDoorG1
import Derived.Test.YtkpjhgkmjcdobaaGreatDoorG5
import Derived.Test.YtkpjhgkmjcdobaaGreatDoorG4
import Derived.Test.YtkpjhgkmjcdobaaGreatDoorG7
import Derived.Test.YtkpjhgkmjcdobaaGreatDoorG6
import Derived.Deep.RegionHeld3
/-
  civil.Date, stamp.Split, stamp.Of and occur.near: what they give, as the program runs them.
-/
namespace Go.Proofs.YtkpjhgkmjcdobaaGreatDoor
open Go.RowKit NB
namespace Stp
theorem dq_bd (n : Int) (h0 : -16000000 ≤ n) (h1 : n ≤ 16000000) : -200 ≤ Yr.dq n ∧ Yr.dq n ≤ 200 := by unfold Yr.dq; omega
set_option maxHeartbeats 1600000 in
theorem date (n : Int) (h0 : -16000000 ≤ n) (h1 : n ≤ 16000000) (w : World) :
    Calls Tryz.prog 201 #[.int .i64 n] w fun e w' => e = .returned (.agg #[.int .i64 (Yr.dY n), .int .i64 (Yr.dM n), .int .i64 (Yr.dD n)]) ∧ Below w.heap.size w w' := by
  obtain ⟨q0, q1⟩ := dq_bd n h0 h1
  obtain ⟨r0, r1⟩ := Yr.dr_bd n
  obtain ⟨y0, y1, _, _⟩ := Yr.yr (Yr.dr n) r0 r1
  obtain ⟨l0, l1⟩ := Yr.dl_bd n
  have l2 := (Cal.lp_01 (Yr.dq n * 400 + Yr.dy n + 1)).2
  have l3 : Yr.dl n ≤ 365 := by omega
  clear l1 l2
  rw [show Yr.F (Yr.dr n) = Yr.dy n from rfl] at y0 y1
  have hy : Yr.dy n = (Yr.dr n - Yr.dr n / 1460 + Yr.dr n / 36524 - Yr.dr n / 146096) / 365 := rfl
  have hl : Yr.dl n = Yr.dr n - (365 * Yr.dy n + Yr.dy n / 4 - Yr.dy n / 100) := rfl
  have hd := Num.Div (n + 719468) 146097 (by omega) (by omega) (by omega) (by omega)
  rw [show (n + 719468) / 146097 = Yr.dq n from rfl, show (n + 719468) % 146097 = Yr.dr n from rfl] at hd
  have Hd := Lib.hid hd
  clear hd
  unfold Yr.dY Yr.dM Yr.dD Yr.dm
  generalize Yr.dq n = q at *
  generalize Yr.dr n = r at *
  generalize Yr.dy n = y at *
  generalize Yr.dl n = l at *
  have Hy := Lib.hid hy
  have Hl := Lib.hid hl
  clear hy hl
  by_cases hm : 12 < (5 * l + 2) / 153 + 3
  · rw [if_pos hm, if_pos hm]
    go_enter Tryz.func201, Tryz.ntmps201
    go_upto_region 3 with (go_at_call 165; (with_reducible refine (Hd.out _).mono ?_); rintro e w1 ⟨rfl, hb1⟩; obtain ⟨hc1, hf1⟩ := bcell hb1; have hc1_0 := fun o => hc1 (w.heap.size) o (by first | assumption | omega | (simp; done) | (simp; omega)); have hf1_0 := fun o => hf1 (w.heap.size) o (by first | assumption | omega | (simp; done) | (simp; omega)); clear hc1 hf1; have hz1_0 : w.heap.size < w1.heap.size := (by first | exact sz1 hb1 | exact sz2 hb1 | exact sz3 hb1 | (have := hb1.size; (try simp only [World.size_alloc, World.size_drew] at this); omega)))
    rw [← Hy.out]
    go_upto_region 4 with fail
    rw [← Hl.out]
    go_wp2_with (go_at_call 166; (with_reducible refine (Civ.march _ (by omega) (by omega) _).mono ?_); rintro e w' ⟨rfl, rfl⟩)
    refine bodyPost_ret (v := .agg #[.int .i64 (q * 400 + y + 1), .int .i64 ((5 * l + 2) / 153 + 3 - 12), .int .i64 (l - (153 * ((5 * l + 2) / 153) + 2) / 5 + 1)]) ?_ rfl ⟨rfl, ?_⟩
    · simp only [results, Tryz.results201]
      go_simp
    · repeat (first | (with_reducible exact Below.refl _ _) | (with_reducible assumption) | (with_reducible refine ba ?_) | (with_reducible refine bd ?_) | (with_reducible refine bdn ?_ _) | (with_reducible refine bset ?_ (by first | exact Nat.le_refl _ | omega | (simp; done) | (simp; omega))) | (with_reducible refine bt ?_ (by with_reducible assumption)))
  · rw [if_neg hm, if_neg hm]
    go_enter Tryz.func201, Tryz.ntmps201
    go_upto_region 3 with (go_at_call 165; (with_reducible refine (Hd.out _).mono ?_); rintro e w1 ⟨rfl, hb1⟩; obtain ⟨hc1, hf1⟩ := bcell hb1; have hc1_0 := fun o => hc1 (w.heap.size) o (by first | assumption | omega | (simp; done) | (simp; omega)); have hf1_0 := fun o => hf1 (w.heap.size) o (by first | assumption | omega | (simp; done) | (simp; omega)); clear hc1 hf1; have hz1_0 : w.heap.size < w1.heap.size := (by first | exact sz1 hb1 | exact sz2 hb1 | exact sz3 hb1 | (have := hb1.size; (try simp only [World.size_alloc, World.size_drew] at this); omega)))
    rw [← Hy.out]
    go_upto_region 4 with fail
    rw [← Hl.out]
    go_wp2_with (go_at_call 166; (with_reducible refine (Civ.march _ (by omega) (by omega) _).mono ?_); rintro e w' ⟨rfl, rfl⟩)
    refine bodyPost_ret (v := .agg #[.int .i64 (q * 400 + y), .int .i64 ((5 * l + 2) / 153 + 3), .int .i64 (l - (153 * ((5 * l + 2) / 153) + 2) / 5 + 1)]) ?_ rfl ⟨rfl, ?_⟩
    · simp only [results, Tryz.results201]
      go_simp
    · repeat (first | (with_reducible exact Below.refl _ _) | (with_reducible assumption) | (with_reducible refine ba ?_) | (with_reducible refine bd ?_) | (with_reducible refine bdn ?_ _) | (with_reducible refine bset ?_ (by first | exact Nat.le_refl _ | omega | (simp; done) | (simp; omega))) | (with_reducible refine bt ?_ (by with_reducible assumption)))
def zeroD : Value := .tuple #[.agg #[.int .i64 0, .int .i64 0, .int .i64 0], .int .i64 1]
/-- whether a number is one of a date -/
def okD (n : Int) : Bool := decide (-16000000 ≤ n) && decide (n ≤ 16000000) && Civ.right (Yr.dY n) (Yr.dM n) (Yr.dD n)
set_option maxHeartbeats 1600000 in
theorem Date (n : Int) (w : World) :
    Calls Tryz.prog 174 #[.int .i64 n] w fun e w' => e = .returned (if okD n then .tuple #[.agg #[.int .i64 (Yr.dY n), .int .i64 (Yr.dM n), .int .i64 (Yr.dD n)], .int .i64 0] else .tuple #[.agg #[.int .i64 0, .int .i64 0, .int .i64 0], .int .i64 1]) ∧ Below w.heap.size w w' := by
  unfold okD
  by_cases h0 : n < -16000000
  · rw [decide_eq_false (by omega : ¬ -16000000 ≤ n)]
    simp only [Bool.false_and, Bool.false_eq_true, if_false]
    go_enter Tryz.func174, Tryz.ntmps174
    go_wp2
    refine bodyPost_ret (v := .tuple #[.agg #[.int .i64 0, .int .i64 0, .int .i64 0], .int .i64 1]) ?_ rfl ⟨rfl, ?_⟩
    · simp only [results, Tryz.results174]
      go_simp
    · repeat (first | (with_reducible exact Below.refl _ _) | (with_reducible assumption) | (with_reducible refine ba ?_) | (with_reducible refine bd ?_) | (with_reducible refine bdn ?_ _) | (with_reducible refine bset ?_ (by first | exact Nat.le_refl _ | omega | (simp; done) | (simp; omega))) | (with_reducible refine bt ?_ (by with_reducible assumption)))
  · rw [decide_eq_true (by omega : -16000000 ≤ n)]
    by_cases h1 : n > 16000000
    · rw [decide_eq_false (by omega : ¬ n ≤ 16000000)]
      simp only [Bool.false_and, Bool.and_false, Bool.false_eq_true, if_false]
      go_enter Tryz.func174, Tryz.ntmps174
      go_wp2
      refine bodyPost_ret (v := .tuple #[.agg #[.int .i64 0, .int .i64 0, .int .i64 0], .int .i64 1]) ?_ rfl ⟨rfl, ?_⟩
      · simp only [results, Tryz.results174]
        go_simp
      · repeat (first | (with_reducible exact Below.refl _ _) | (with_reducible assumption) | (with_reducible refine ba ?_) | (with_reducible refine bd ?_) | (with_reducible refine bdn ?_ _) | (with_reducible refine bset ?_ (by first | exact Nat.le_refl _ | omega | (simp; done) | (simp; omega))) | (with_reducible refine bt ?_ (by with_reducible assumption)))
    · rw [decide_eq_true (by omega : n ≤ 16000000)]
      have cd := date n (by omega) (by omega)
      have cr := Civ.Right (Yr.dY n) (Yr.dM n) (Yr.dD n)
      generalize Yr.dY n = Y at *
      generalize Yr.dM n = M at *
      generalize Yr.dD n = D at *
      cases hr : Civ.right Y M D
      all_goals
        rw [hr] at cr
        have Cd := Lib.hid cd
        have Cr := Lib.hid cr
        clear cd cr hr
        simp only [Bool.and_true, Bool.and_false, Bool.false_eq_true, if_false, if_true]
        go_enter Tryz.func174, Tryz.ntmps174
        go_wp2_with (first | (go_at_call 201; (with_reducible refine (Cd.out _).mono ?_); rintro e w1 ⟨rfl, hb1⟩; obtain ⟨hc1, hf1⟩ := bcell hb1; have hc1_0 := fun o => hc1 (w.heap.size) o (by first | assumption | omega | (simp; done) | (simp; omega)); have hf1_0 := fun o => hf1 (w.heap.size) o (by first | assumption | omega | (simp; done) | (simp; omega)); clear hc1 hf1; have hz1_0 : w.heap.size < w1.heap.size := (by first | exact sz1 hb1 | exact sz2 hb1 | exact sz3 hb1 | (have := hb1.size; (try simp only [World.size_alloc, World.size_drew] at this); omega))) | (go_at_call 124; (with_reducible refine (Cr.out _).mono ?_); rintro e w2 ⟨rfl, hb2⟩; obtain ⟨hc2, hf2⟩ := bcell hb2; have hc2_0 := fun o => hc2 (w.heap.size) o (by first | assumption | omega | (simp; done) | (simp; omega)); have hf2_0 := fun o => hf2 (w.heap.size) o (by first | assumption | omega | (simp; done) | (simp; omega)); have hc2_1 := fun o => hc2 (w1.heap.size) o (by first | assumption | omega | (simp; done) | (simp; omega)); have hf2_1 := fun o => hf2 (w1.heap.size) o (by first | assumption | omega | (simp; done) | (simp; omega)); clear hc2 hf2; have hz2_0 : w.heap.size < w2.heap.size := (by first | exact sz1 hb2 | exact sz2 hb2 | exact sz3 hb2 | (have := hb2.size; (try simp only [World.size_alloc] at this); omega)); have hz2_1 : w1.heap.size < w2.heap.size := (by first | exact sz1 hb2 | exact sz2 hb2 | exact sz3 hb2 | (have := hb2.size; (try simp only [World.size_alloc, World.size_drew] at this); omega))))
      · refine bodyPost_ret (v := .tuple #[.agg #[.int .i64 0, .int .i64 0, .int .i64 0], .int .i64 1]) ?_ rfl ⟨rfl, ?_⟩
        · simp only [results, Tryz.results174]
          go_simp
        · repeat (first | (with_reducible exact Below.refl _ _) | (with_reducible assumption) | (with_reducible refine ba ?_) | (with_reducible refine bd ?_) | (with_reducible refine bdn ?_ _) | (with_reducible refine bset ?_ (by first | exact Nat.le_refl _ | omega | (simp; done) | (simp; omega))) | (with_reducible refine bt ?_ (by with_reducible assumption)))
      · refine bodyPost_ret (v := .tuple #[.agg #[.int .i64 Y, .int .i64 M, .int .i64 D], .int .i64 0]) ?_ rfl ⟨rfl, ?_⟩
        · simp only [results, Tryz.results174]
          go_simp
        · repeat (first | (with_reducible exact Below.refl _ _) | (with_reducible assumption) | (with_reducible refine ba ?_) | (with_reducible refine bd ?_) | (with_reducible refine bdn ?_ _) | (with_reducible refine bset ?_ (by first | exact Nat.le_refl _ | omega | (simp; done) | (simp; omega))) | (with_reducible refine bt ?_ (by with_reducible assumption)))
theorem Split (t : Int) (h0 : -9223372036854775808 < t) (h1 : t ≤ 9223372036854775807) (w : World) :
    Calls Tryz.prog 173 #[.int .i64 t] w fun e w' => e = .returned (.tuple #[.int .i64 (t / 86400), .int .i64 (t % 86400)]) ∧ Below w.heap.size w w' := by
  have hd := Num.Div t 86400 h0 h1 (by omega) (by omega)
  have Hd := Lib.hid hd
  clear hd
  go_enter Tryz.func173, Tryz.ntmps173
  go_wp2_with (go_at_call 165; (with_reducible refine (Hd.out _).mono ?_); rintro e w1 ⟨rfl, hb1⟩; obtain ⟨hc1, hf1⟩ := bcell hb1)
  go_ret2
  exact ⟨rfl, hb1⟩
def stampOf (t : Int) : List Value := [.int .i64 (Yr.dY (t / 86400)), .int .i64 (Yr.dM (t / 86400)), .int .i64 (Yr.dD (t / 86400)), .int .i64 (t % 86400 / 3600), .int .i64 (t % 86400 % 3600 / 60), .int .i64 (t % 86400 % 60)]
set_option maxHeartbeats 1600000 in
theorem Of (t : Int) (h0 : -9223372036854775808 < t) (h1 : t ≤ 9223372036854775807) (w : World) :
    Calls Tryz.prog 143 #[.int .i64 t] w fun e w' => e = .returned (if okD (t / 86400) then .tuple #[.agg (stampOf t).toArray, .int .i64 0] else .tuple #[.agg #[.int .i64 0, .int .i64 0, .int .i64 0, .int .i64 0, .int .i64 0, .int .i64 0], .int .i64 1]) ∧ Below w.heap.size w w' := by
  have cs := Split t h0 h1
  have cd := Date (t / 86400)
  unfold stampOf
  have s0 := Int.emod_nonneg t (show (86400 : Int) ≠ 0 by decide)
  have s1 := Int.emod_lt_of_pos t (show (0 : Int) < 86400 by decide)
  generalize t / 86400 = d at *
  generalize t % 86400 = s at *
  generalize Yr.dY d = Y at *
  generalize Yr.dM d = M at *
  generalize Yr.dD d = D at *
  cases hk : okD d
  all_goals
    rw [hk] at cd
    simp only [Bool.false_eq_true, if_false, if_true] at cd ⊢
    have Cd := Lib.hid cd
    have Cs := Lib.hid cs
    clear cd cs hk
    go_enter Tryz.func143, Tryz.ntmps143
    go_wp2_with (first | (go_at_call 173; (with_reducible refine (Cs.out _).mono ?_); rintro e w1 ⟨rfl, hb1⟩; obtain ⟨hc1, hf1⟩ := bcell hb1; have hc1_0 := fun o => hc1 (w.heap.size) o (by first | assumption | omega | (simp; done) | (simp; omega)); have hf1_0 := fun o => hf1 (w.heap.size) o (by first | assumption | omega | (simp; done) | (simp; omega)); clear hc1 hf1; have hz1_0 : w.heap.size < w1.heap.size := (by first | exact sz1 hb1 | exact sz2 hb1 | exact sz3 hb1 | (have := hb1.size; (try simp only [World.size_alloc, World.size_drew] at this); omega))) | (go_at_call 174; (with_reducible refine (Cd.out _).mono ?_); rintro e w2 ⟨rfl, hb2⟩; obtain ⟨hc2, hf2⟩ := bcell hb2; have hc2_0 := fun o => hc2 (w.heap.size) o (by first | assumption | omega | (simp; done) | (simp; omega)); have hf2_0 := fun o => hf2 (w.heap.size) o (by first | assumption | omega | (simp; done) | (simp; omega)); clear hc2 hf2; have hz2_0 : w.heap.size < w2.heap.size := (by first | exact sz1 hb2 | exact sz2 hb2 | exact sz3 hb2 | (have := hb2.size; (try simp only [World.size_alloc, World.size_drew] at this); omega))))
  · refine bodyPost_ret (v := .tuple #[.agg #[.int .i64 0, .int .i64 0, .int .i64 0, .int .i64 0, .int .i64 0, .int .i64 0], .int .i64 1]) ?_ rfl ⟨rfl, ?_⟩
    · simp only [results, Tryz.results143]
      go_simp
    · repeat (first | (with_reducible exact Below.refl _ _) | (with_reducible assumption) | (with_reducible refine ba ?_) | (with_reducible refine bd ?_) | (with_reducible refine bdn ?_ _) | (with_reducible refine bset ?_ (by first | exact Nat.le_refl _ | omega | (simp; done) | (simp; omega))) | (with_reducible refine bt ?_ (by with_reducible assumption)))
  · refine bodyPost_ret (v := .tuple #[.agg #[.int .i64 Y, .int .i64 M, .int .i64 D, .int .i64 (s / 3600), .int .i64 (s % 3600 / 60), .int .i64 (s % 60)], .int .i64 0]) ?_ rfl ⟨rfl, ?_⟩
    · simp only [results, Tryz.results143]
      go_simp
    · repeat (first | (with_reducible exact Below.refl _ _) | (with_reducible assumption) | (with_reducible refine ba ?_) | (with_reducible refine bd ?_) | (with_reducible refine bdn ?_ _) | (with_reducible refine bset ?_ (by first | exact Nat.le_refl _ | omega | (simp; done) | (simp; omega))) | (with_reducible refine bt ?_ (by with_reducible assumption)))
end Stp
end Go.Proofs.YtkpjhgkmjcdobaaGreatDoor
/-
  Occurrences of rules, in plain data: the first one behind something, the last one ahead of it.
-/
namespace Go.Proofs.YtkpjhgkmjcdobaaGreatDoor
open Go.RowKit NB
/-- An occurrence. -/
structure OccV where
  rule : Int
  year : Int
  nom : Int
deriving DecidableEq
def OccV.cells (o : OccV) : List Value := [.int .i64 o.rule, .int .i64 o.year, .int .i64 o.nom]
namespace Occ
def less (a b : OccV) : Bool := decide (a.nom < b.nom) || (decide (a.nom = b.nom) && decide (a.rule < b.rule))
def more (a b : OccV) : Bool := less b a
theorem less_iff {a b : OccV} : less a b = true ↔ a.nom < b.nom ∨ (a.nom = b.nom ∧ a.rule < b.rule) := by
  unfold less; simp
/-- an order by which one of two is ahead, or they are alike -/
structure Weak (lt : OccV → OccV → Bool) : Prop where
  irr : ∀ a, lt a a = false
  tr : ∀ a b c, lt a b = true → lt b c = true → lt a c = true
  neg : ∀ a b c, lt a b = false → lt b c = false → lt a c = false
  alike : ∀ a b, lt a b = false → lt b a = false → a.nom = b.nom ∧ a.rule = b.rule
theorem weak_less : Weak less where
  irr a := by unfold less; simp
  tr a b c h1 h2 := by rw [less_iff] at *; omega
  neg a b c h1 h2 := by
    rw [Bool.eq_false_iff, Ne, less_iff] at *; omega
  alike a b h1 h2 := by
    rw [Bool.eq_false_iff, Ne, less_iff] at *; omega
theorem weak_more : Weak more where
  irr a := weak_less.irr a
  tr a b c h1 h2 := weak_less.tr c b a h2 h1
  neg a b c h1 h2 := weak_less.neg c b a h2 h1
  alike a b h1 h2 := weak_less.alike a b h2 h1
/-- the best one behind a place, of some -/
def Best (lt : OccV → OccV → Bool) (fr : OccV) (S : OccV → Prop) (b : Option OccV) : Prop :=
  match b with
  | none => ∀ o, S o → lt fr o = false
  | some a => S a ∧ lt fr a = true ∧ ∀ o, S o → lt fr o = true → lt o a = false
def merge (lt : OccV → OccV → Bool) (b c : Option OccV) : Option OccV :=
  match b, c with
  | b, none => b
  | none, some o => some o
  | some a, some o => if lt o a then some o else some a
variable {lt : OccV → OccV → Bool} {fr : OccV} {S T : OccV → Prop}
theorem Best.merge (W : Weak lt) {b c : Option OccV} (h : Best lt fr S b) (h' : Best lt fr T c) : Best lt fr (fun o => S o ∨ T o) (merge lt b c) := by
  cases b with
  | none =>
    cases c with
    | none => exact fun o ho => ho.elim (h o) (h' o)
    | some o =>
      obtain ⟨h1, h2, h3⟩ := h'
      refine ⟨.inr h1, h2, fun x hx hl => ?_⟩
      rcases hx with hx | hx
      · rw [h x hx] at hl; cases hl
      · exact h3 x hx hl
  | some a =>
    cases c with
    | none =>
      obtain ⟨h1, h2, h3⟩ := h
      refine ⟨.inl h1, h2, fun x hx hl => ?_⟩
      rcases hx with hx | hx
      · exact h3 x hx hl
      · rw [h' x hx] at hl; cases hl
    | some o =>
      obtain ⟨h1, h2, h3⟩ := h
      obtain ⟨g1, g2, g3⟩ := h'
      unfold Occ.merge
      cases hc : lt o a
      · show Best lt fr _ (if lt o a = true then some o else some a)
        rw [if_neg (by rw [hc]; decide)]
        refine ⟨.inl h1, h2, fun x hx hl => ?_⟩
        rcases hx with hx | hx
        · exact h3 x hx hl
        · exact W.neg _ _ _ (g3 x hx hl) hc
      · show Best lt fr _ (if lt o a = true then some o else some a)
        rw [if_pos hc]
        refine ⟨.inr g1, g2, fun x hx hl => ?_⟩
        rcases hx with hx | hx
        · rw [Bool.eq_false_iff]
          intro hh
          have := h3 x hx hl
          rw [W.tr _ _ _ hh hc] at this
          cases this
        · exact g3 x hx hl
theorem Best.congr {b : Option OccV} (h : Best lt fr S b) (he : ∀ o, S o ↔ T o) : Best lt fr T b := by
  have : S = T := funext fun o => propext (he o)
  rwa [← this]
/-- more of them, each behind one that was there -/
theorem Best.dom (W : Weak lt) {b : Option OccV} (h : Best lt fr S b) (hs : ∀ o, S o → T o) (hd : ∀ o, T o → lt fr o = true → ∃ p, S p ∧ lt fr p = true ∧ lt o p = false) : Best lt fr T b := by
  cases b with
  | none =>
    intro o ho
    rw [Bool.eq_false_iff]
    intro hl
    obtain ⟨p, hp, hp2, _⟩ := hd o ho hl
    rw [h p hp] at hp2
    cases hp2
  | some a =>
    obtain ⟨h1, h2, h3⟩ := h
    refine ⟨hs a h1, h2, fun o ho hl => ?_⟩
    obtain ⟨p, hp, hp2, hp3⟩ := hd o ho hl
    exact W.neg _ _ _ hp3 (h3 p hp hp2)
def one (lt : OccV → OccV → Bool) (fr o : OccV) : Option OccV := if lt fr o then some o else none
theorem best_one (W : Weak lt) (o : OccV) : Best lt fr (fun x => x = o) (one lt fr o) := by
  unfold one
  cases h : lt fr o
  · rintro x rfl
    exact h
  · refine ⟨rfl, h, ?_⟩
    rintro x rfl _
    exact W.irr x
/-- the nominal second of a rule in a year -/
def nomR (r : RuleV) (y : Int) : Int := Day.dayI r.kind r.week r.day y r.month * 86400 + r.sec
def occ (r : RuleV) (i y : Int) : OccV := ⟨i, y, nomR r y⟩
/-- the occurrences of one rule -/
def Of (r : RuleV) (i : Int) (o : OccV) : Prop := r.fr ≤ o.year ∧ o.year ≤ r.to ∧ o = occ r i o.year
theorem day_near {k wk d y m : Int} (h : Day.fits k wk d m = true) : Cal.days y m 1 - 6 ≤ Day.dayI k wk d y m ∧ Day.dayI k wk d y m ≤ Cal.days y m 1 + 36 := by
  have h1 := Day.days31 h
  have h2 := Cal.len_le y m
  obtain ⟨m1, m2, _, _⟩ := Day.fits_spec h
  have h3 := Cal.len_bd y m m1 m2
  unfold Day.dayI
  have b1 := Day.backI_bd (Cal.days y m 1 + Cal.len y m - 1) wk
  have b2 := Day.backI_bd (Cal.days y m 1 + d - 1 + 6) wk
  have b3 := Day.backI_bd (Cal.days y m 1 + d - 1) wk
  have hk := Day.kinds h
  rcases hk with rfl | rfl | rfl | rfl
  · simp only [if_true]; omega
  · have := (Day.fits_spec h).2.2.2
    simp only [Int.reduceEq, if_false]; omega
  · have := (Day.fits_spec h).2.2.2
    simp only [Int.reduceEq, if_false, if_true]; omega
  · have := (Day.fits_spec h).2.2.2
    simp only [Int.reduceEq, if_false, if_true]; omega
theorem first_ahead {y m : Int} (m1 : 1 ≤ m) (m2 : m ≤ 12) : Cal.ahead y ≤ Cal.days y m 1 ∧ Cal.days y m 1 ≤ Cal.ahead y + 338 := by
  have h1 := Cal.cum_bd y m m1 m2
  have h2 := Cal.len_bd y m m1 m2
  have h3 := Cal.lp_01 y
  unfold Cal.days; omega
theorem first_mono {y y' m : Int} (m1 : 1 ≤ m) (m2 : m ≤ 12) (h : y ≤ y') : Cal.days y m 1 + 365 * (y' - y) - 1 ≤ Cal.days y' m 1 := by
  have h1 := Cal.ahead_mono h
  have h2 := Cal.lp_01 y
  have h3 := Cal.lp_01 y'
  have h4 : Cal.cum y m - 1 ≤ Cal.cum y' m := by
    unfold Cal.cum
    rcases Cal.months m1 m2 with rfl | rfl | rfl | rfl | rfl | rfl | rfl | rfl | rfl | rfl | rfl | rfl <;> simp <;> omega
  unfold Cal.days; omega
theorem nom_mono {r : RuleV} (hr : Rul.right r = true) {y y' : Int} (h : y < y') : nomR r y + 27820800 ≤ nomR r y' := by
  have hf := (Rul.right_spec hr).2.1
  obtain ⟨m1, m2, _, _⟩ := Day.fits_spec hf
  have h1 := day_near (y := y) hf
  have h2 := day_near (y := y') hf
  have h3 := first_mono m1 m2 (Int.le_of_lt h)
  unfold nomR
  omega
theorem nom_lt {r : RuleV} (hr : Rul.right r = true) {y y' : Int} : nomR r y < nomR r y' ↔ y < y' := by
  constructor
  · intro h
    rcases Int.lt_trichotomy y y' with h1 | h1 | h1
    · exact h1
    · subst h1; omega
    · have := nom_mono hr h1; omega
  · intro h
    have := nom_mono hr h; omega
/-- where a nominal second lies -/
theorem nom_ahead {r : RuleV} (hr : Rul.right r = true) (y : Int) : (Cal.ahead y - 6) * 86400 ≤ nomR r y ∧ nomR r y ≤ (Cal.ahead y + 376) * 86400 := by
  have hf := (Rul.right_spec hr).2.1
  obtain ⟨m1, m2, _, _⟩ := Day.fits_spec hf
  have h1 := day_near (y := y) hf
  have h2 := first_ahead (y := y) m1 m2
  have h3 := (Rul.right_spec hr).2.2.1
  unfold nomR
  omega
/-- a year near a second: those two years ahead of it and before are behind it, those two years behind it are ahead -/
def Near (t Y : Int) : Prop := (∀ r, Rul.right r = true → ∀ y, r.fr ≤ y → y ≤ r.to → y < Y - 1 → nomR r y < t) ∧ (∀ r, Rul.right r = true → ∀ y, r.fr ≤ y → y ≤ r.to → Y + 1 < y → t < nomR r y)
theorem near_of {t Y : Int} (h1 : Cal.ahead Y * 86400 ≤ t) (h2 : t < Cal.ahead (Y + 1) * 86400) : Near t Y := by
  constructor
  · intro r hr y _ _ hy
    have := (nom_ahead hr y).2
    have := Cal.ahead_mono (show y ≤ Y by omega)
    omega
  · intro r hr y _ _ hy
    have := (nom_ahead hr y).1
    have := Cal.ahead_mono (show Y + 1 ≤ y by omega)
    omega
def clampI (n lo hi : Int) : Int := if n < lo then lo else if hi < n then hi else n
/-- the year near a second -/
def nearY (t : Int) : Int := Yr.dY (clampI t (-1099511627776) 1099511627776 / 86400)
theorem nom_range {r : RuleV} (hr : Rul.right r = true) {y : Int} (h1 : r.fr ≤ y) (h2 : y ≤ r.to) : -1099000000000 < nomR r y ∧ nomR r y < 1099000000000 := by
  have h3 := (Rul.right_spec hr).1
  have h4 := nom_ahead hr y
  have h5 := Cal.ahead_mono (show (-32767 : Int) ≤ y by omega)
  have h6 := Cal.ahead_mono (show y ≤ (32767 : Int) by omega)
  have e1 : Cal.ahead (-32767) = -12687428 := by decide +kernel
  have e2 : Cal.ahead 32767 = 11248373 := by decide +kernel
  omega
theorem near_nearY (t : Int) : Near t (nearY t) := by
  have h := Yr.year_of (clampI t (-1099511627776) 1099511627776 / 86400)
  have hn : Near (clampI t (-1099511627776) 1099511627776) (nearY t) := near_of (Y := nearY t) (by unfold nearY; omega) (by unfold nearY; omega)
  unfold clampI at hn
  split at hn
  · constructor
    · intro r hr y a b c
      have := nom_range hr a b
      have := hn.1 r hr y a b c
      omega
    · intro r hr y a b c
      have := nom_range hr a b
      omega
  · split at hn
    · constructor
      · intro r hr y a b c
        have := nom_range hr a b
        omega
      · intro r hr y a b c
        have := nom_range hr a b
        have := hn.2 r hr y a b c
        omega
    · exact hn
end Occ
end Go.Proofs.YtkpjhgkmjcdobaaGreatDoor
/-
  cmp.Compare, cmp.Or, occur.Less, occur.nom and occur.Nom: what they give, as the program runs them.
-/
namespace Go.Proofs.YtkpjhgkmjcdobaaGreatDoor
open Go.RowKit NB
namespace Cmp
def cmpI (a b : Int) : Int := if a < b then -1 else if b < a then 1 else 0
theorem NaN64 (x : Int) (w : World) : Calls Tryz.prog 161 #[.int .i64 x] w fun e w' => e = .returned (.bool false) ∧ w = w' := by
  go_enter Tryz.func161, Tryz.ntmps161
  go_wp2
  go_ret
  exact ⟨ret_bool (by simp), rfl⟩
theorem NaN (x : Int) (w : World) : Calls Tryz.prog 178 #[.int .i64 x] w fun e w' => e = .returned (.bool false) ∧ w = w' := by
  go_enter Tryz.func178, Tryz.ntmps178
  go_wp2
  go_ret
  exact ⟨ret_bool (by simp), rfl⟩
theorem Compare64 (x y : Int) (w : World) : Calls Tryz.prog 149 #[.int .i64 x, .int .i64 y] w fun e w' => e = .returned (.int .i64 (cmpI x y)) ∧ w = w' := by
  unfold cmpI
  rcases Int.lt_trichotomy x y with h | h | h
  · rw [if_pos h]
    go_enter Tryz.func149, Tryz.ntmps149
    go_wp2_with (go_at_call 161; (with_reducible refine (NaN64 _ _).mono ?_); rintro e w' ⟨rfl, rfl⟩)
    go_ret
    exact ⟨rfl, rfl⟩
  · subst h
    rw [if_neg (by omega), if_neg (by omega)]
    go_enter Tryz.func149, Tryz.ntmps149
    go_wp2_with (go_at_call 161; (with_reducible refine (NaN64 _ _).mono ?_); rintro e w' ⟨rfl, rfl⟩)
    go_ret
    exact ⟨rfl, rfl⟩
  · rw [if_neg (by omega), if_pos h]
    go_enter Tryz.func149, Tryz.ntmps149
    go_wp2_with (go_at_call 161; (with_reducible refine (NaN64 _ _).mono ?_); rintro e w' ⟨rfl, rfl⟩)
    go_ret
    exact ⟨rfl, rfl⟩
theorem Compare (x y : Int) (w : World) : Calls Tryz.prog 150 #[.int .i64 x, .int .i64 y] w fun e w' => e = .returned (.int .i64 (cmpI x y)) ∧ w = w' := by
  unfold cmpI
  rcases Int.lt_trichotomy x y with h | h | h
  · rw [if_pos h]
    go_enter Tryz.func150, Tryz.ntmps150
    go_wp2_with (go_at_call 178; (with_reducible refine (NaN _ _).mono ?_); rintro e w' ⟨rfl, rfl⟩)
    go_ret
    exact ⟨rfl, rfl⟩
  · subst h
    rw [if_neg (by omega), if_neg (by omega)]
    go_enter Tryz.func150, Tryz.ntmps150
    go_wp2_with (go_at_call 178; (with_reducible refine (NaN _ _).mono ?_); rintro e w' ⟨rfl, rfl⟩)
    go_ret
    exact ⟨rfl, rfl⟩
  · rw [if_neg (by omega), if_pos h]
    go_enter Tryz.func150, Tryz.ntmps150
    go_wp2_with (go_at_call 178; (with_reducible refine (NaN _ _).mono ?_); rintro e w' ⟨rfl, rfl⟩)
    go_ret
    exact ⟨rfl, rfl⟩
def orL : List Int → Int
  | [] => 0
  | z :: zs => if z = 0 then orL zs else z
theorem orL_drop : ∀ (zs : List Int) (k : Nat), (∀ j z, j < k → zs[j]? = some z → z = 0) → orL zs = orL (zs.drop k)
  | [], k, _ => by simp
  | z :: zs, 0, _ => rfl
  | z :: zs, k + 1, h => by
    have hz := h 0 z (by omega) rfl
    subst hz
    rw [List.drop_succ_cons, ← orL_drop zs k (fun j z hj hz => h (j + 1) z (by omega) (by simpa using hz))]
    rfl
theorem orL_at {zs : List Int} {k : Nat} {z : Int} (h : ∀ j z, j < k → zs[j]? = some z → z = 0) (hz : zs[k]? = some z) (hn : z ≠ 0) : orL zs = z := by
  rw [orL_drop zs k h]
  obtain ⟨hk, he⟩ := List.getElem?_eq_some_iff.1 hz
  rw [List.drop_eq_getElem_cons hk, he]
  unfold orL
  rw [if_neg hn]
theorem orL_end {zs : List Int} (h : ∀ j z, j < zs.length → zs[j]? = some z → z = 0) : orL zs = 0 := by
  rw [orL_drop zs zs.length h]
  simp [orL]
def Seen (zs : List Int) (k : Nat) : Prop := ∀ j z, j < k → zs[j]? = some z → z = 0
theorem Seen.succ {zs : List Int} {k : Nat} (h : Seen zs k) (hz : zs[k]? = some 0) : Seen zs (k + 1) := by
  intro j z hj hz'
  by_cases hjk : j = k
  · subst hjk
    rw [hz] at hz'
    cases hz'
    rfl
  · exact h j z (by omega) hz'
theorem Or (b off cap : Nat) (zs : List Int) (w : World) (hc : ∀ j z, zs[j]? = some z → w.cell? ⟨b, off + j, none⟩ = some (.int .i64 z)) (hl : zs.length ≤ 1000) :
    Calls Tryz.prog 148 #[.slice (some ⟨b, off, none⟩) zs.length cap] w fun e w' => e = .returned (.int .i64 (orL zs)) ∧ w = w' := by
  have Hc := Lib.hid hc
  clear hc
  obtain ⟨n, hn⟩ : ∃ n, n = zs.length := ⟨_, rfl⟩
  rw [← hn] at hl ⊢
  have Hn := Lib.hid hn
  clear hn
  go_enter Tryz.func148, Tryz.ntmps148
  go_wp2
  go_loop [8] (fun i => ∃ k : Nat, k ≤ n ∧ i = .int .i64 k ∧ Seen zs k) (fun i => n - (intOf i).toNat)
  case atStart => exact ⟨0, Nat.zero_le _, rfl, fun j _ hj _ => by omega⟩
  case round =>
    obtain ⟨k, hk, rfl, hs⟩ := hrel
    by_cases hlt : k < n
    · obtain ⟨z, hz⟩ : ∃ z, zs[k]? = some z := ⟨zs[k]'(by have := Hn.out; omega), by simp⟩
      have hcell := Hc.out k z hz
      have Hz := Lib.hid hz
      clear hz
      by_cases h0 : z = 0
      · subst h0
        go_wp2
        go_round
        case rel => exact ⟨k + 1, by omega, by go_num, hs.succ Hz.out⟩
        case measure => simp [intOf]; omega
      · have hb : (z != 0) = true := by simpa using h0
        have H0 := Lib.hid h0
        clear h0
        go_wp2
        go_ret
        exact ⟨ret_int (orL_at hs Hz.out H0.out).symm, rfl⟩
    · go_wp2
      go_ret
      exact ⟨ret_int (orL_end (fun j z hj => hs j z (by have := Hn.out; omega))).symm, rfl⟩
theorem orL_cmp (a b : OccV) : decide (orL [cmpI a.nom b.nom, cmpI a.rule b.rule] < 0) = Occ.less a b := by
  unfold orL orL orL cmpI Occ.less
  rcases Int.lt_trichotomy a.nom b.nom with h | h | h
  · rw [if_pos h]; simp [h]
  · rcases Int.lt_trichotomy a.rule b.rule with g | g | g
    · simp [h, g]
    · simp [h, g]
    · have : ¬ a.rule < b.rule := by omega
      simp [h, g, this]
  · have : ¬ a.nom < b.nom := by omega
    have : ¬ a.nom = b.nom := by omega
    simp [*]
set_option maxHeartbeats 1600000 in
theorem Less (a b : OccV) (w : World) : Calls Tryz.prog 108 #[.agg a.cells.toArray, .agg b.cells.toArray] w fun e w' => e = .returned (.bool (Occ.less a b)) ∧ Below w.heap.size w w' := by
  rw [← orL_cmp]
  unfold OccV.cells
  have co := fun (W : World) (n : Nat) (x y : Int) (h0 : W.cell? ⟨n, 0, none⟩ = some (.int .i64 x)) (h1 : W.cell? ⟨n, 1, none⟩ = some (.int .i64 y)) => Or n 0 2 [x, y] W (by
    intro j z hz
    match j with
    | 0 => cases hz; exact h0
    | 1 => cases hz; exact h1
    | j + 2 => simp at hz) (by simp)
  simp only [List.length_cons, List.length_nil, Nat.zero_add, Nat.reduceAdd] at co
  have Co := Lib.hid co
  clear co
  go_enter Tryz.func108, Tryz.ntmps108
  go_wp2
  obtain ⟨V, hV⟩ : ∃ V, V = (w.alloc (.cells #[.int .i64 a.rule, .int .i64 a.year, .int .i64 a.nom] 53)).alloc (.cells #[.int .i64 b.rule, .int .i64 b.year, .int .i64 b.nom] 53) := ⟨_, rfl⟩
  rw [← hV]
  obtain ⟨⟨v0, v1⟩, hB, hF⟩ := box2 hV
  clear hV
  have HF := Lib.hid hF
  have h0 := HF.out V (Below.refl _ _)
  clear hF
  go_region_held3 (fun w' => (∀ o, w'.cell? ⟨w.heap.size, o, none⟩ = (#[.int .i64 a.rule, .int .i64 a.year, .int .i64 a.nom] : Array Value)[o]?) ∧ (∀ o, w'.cell? ⟨w.heap.size + 1, o, none⟩ = (#[.int .i64 b.rule, .int .i64 b.year, .int .i64 b.nom] : Array Value)[o]?)) ((refine (fun h => ⟨h.1, h.2.1⟩) (HF.out _ ?_); repeat (first | (with_reducible exact Below.refl _ _) | (with_reducible assumption) | (with_reducible refine ba ?_) | (with_reducible refine bd ?_) | (with_reducible refine bdn ?_ _) | (with_reducible refine bset ?_ (by first | exact Nat.le_refl _ | omega | (simp; done) | (simp; omega))) | (with_reducible refine bt ?_ (by with_reducible assumption)))))
    (first
      | (go_at_call 149; (with_reducible refine (Compare64 _ _ _).mono ?_); rintro e w' ⟨rfl, rfl⟩)
      | (go_at_call 150; (with_reducible refine (Compare _ _ _).mono ?_); rintro e w' ⟨rfl, rfl⟩)
      | (go_at_call 148; refine (Co.out _ _ _ _ (new_cell_drew V _ _ 0) (new_cell_drew V _ _ 1)).mono ?_; rintro e w' ⟨rfl, rfl⟩))
  all_goals go_wp2
  all_goals go_ret
  all_goals refine ⟨rfl, bt hB ?_⟩
  all_goals repeat (first | (with_reducible exact Below.refl _ _) | (with_reducible assumption) | (with_reducible refine ba ?_) | (with_reducible refine bd ?_) | (with_reducible refine bdn ?_ _) | (with_reducible refine bset ?_ (by first | exact Nat.le_refl _ | omega | (simp; done) | (simp; omega))) | (with_reducible refine bt ?_ (by with_reducible assumption)))
end Cmp
end Go.Proofs.YtkpjhgkmjcdobaaGreatDoor
