import Derived.Test.YtkpjhgkmjcdobaaGreatDoorG13
import Derived.Test.YtkpjhgkmjcdobaaGreatDoorChain
import Derived.Test.YtkpjhgkmjcdobaaGreatDoorG3
import Derived.Test.YtkpjhgkmjcdobaaGreatDoorG11
import Derived.Test.YtkpjhgkmjcdobaaGreatDoorG12
/-
  until.Nom and until.Instant: what they give, as the program runs them.
-/
namespace Go.Proofs.YtkpjhgkmjcdobaaGreatDoor
open Go.RowKit NB Nxt
structure UntilV.Fit (u : UntilV) : Prop where
  year : I64 u.year
  sec : I64 u.sec
theorem EraV.Fit.u {e : EraV} (h : e.Fit) : e.u.Fit := ⟨h.year, h.sec⟩
namespace Unt
def nomV (u : UntilV) : Int := Day.dayI u.kind u.week u.day u.year u.month * 86400 + u.sec
/-- an end's nominal second, and what is wrong -/
def nomU (u : UntilV) : Int × Int := if u.has then (if Er.endB u then (nomV u, 0) else (0, 4)) else (0, 12)
theorem end_spec {u : UntilV} (hh : u.has = true) (h : Er.endB u = true) : (-32767 < u.year ∧ u.year < 32767) ∧ Day.fits u.kind u.week u.day u.month = true ∧ (0 ≤ u.sec ∧ u.sec ≤ 172800) ∧ (0 ≤ u.base ∧ u.base ≤ 2) ∧ -2000000000000 ≤ nomV u ∧ nomV u ≤ 2000000000000 := by
  unfold Er.endB Er.yearB Rul.clockRight at h
  rw [if_pos hh] at h
  simp only [Bool.and_eq_true, decide_eq_true_eq] at h
  obtain ⟨⟨⟨h1, h2⟩, h3⟩, h4⟩ := h
  have hb := Nom.day_bd h3 (y := u.year) (by omega) (by omega)
  have hs : (0 ≤ u.sec ∧ u.sec ≤ 172800) ∧ (0 ≤ u.base ∧ u.base ≤ 2) := by omega
  unfold nomV
  exact ⟨⟨h1, h2⟩, h3, hs.1, hs.2, by omega, by omega⟩
def savedE (l : List RuleV) (e : EraV) (n : Int) : Int := if e.kind = 2 then Chn.saved l e.rules ⟨-1, 0, n⟩ else e.save
/-- the instant of an era's end, and what is wrong -/
def instU (l : List RuleV) (e : EraV) : Int × Int := if Er.rightB e then (if e.u.has then (nomV e.u - Chn.shift e.off e.u.base (savedE l e (nomV e.u)), 0) else (0, 12)) else (0, 4)
theorem right_spec {e : EraV} (h : Er.rightB e = true) : (-54000 ≤ e.off ∧ e.off ≤ 54000) ∧ Er.endB e.u = true ∧ (-10800 ≤ e.save ∧ e.save ≤ 10800) ∧ (0 ≤ e.kind ∧ e.kind ≤ 2) := by
  unfold Er.rightB at h
  split at h
  · rename_i h1
    obtain ⟨h1, h2, h3⟩ := h1
    simp only [Bool.and_eq_true, decide_eq_true_eq] at h1
    refine ⟨h1, h3, ?_⟩
    split at h
    · rename_i hk
      simp only [Bool.and_eq_true, decide_eq_true_eq] at h
      omega
    · split at h
      · rename_i hk
        simp only [Bool.and_eq_true, decide_eq_true_eq] at h
        omega
      · split at h
        · rename_i hk
          simp only [Bool.and_eq_true, decide_eq_true_eq] at h
          omega
        · cases h
  · cases h
theorem saved_bd {l : List RuleV} {e : EraV} (h : Er.rightB e = true) (n : Int) : -10800 ≤ savedE l e n ∧ savedE l e n ≤ 10800 := by
  unfold savedE
  split
  · exact Chn.saved_bd _ _ _
  · exact (right_spec h).2.2.1
def exU (u : UntilV) : EraV := ⟨0, 0, 0, ⟨#[]⟩, ⟨#[88]⟩, u⟩
theorem fit_ex {u : UntilV} (hu : u.Fit) : (exU u).Fit := ⟨by show (⟨#[]⟩ : ByteArray).size ≤ _; decide, by show (⟨#[88]⟩ : ByteArray).size ≤ _; decide, by show I64 0; unfold I64; decide, by show I64 0; unfold I64; decide, hu.year, hu.sec⟩
theorem checkX : Fmt.checkE ⟨#[88]⟩ = 0 := by decide +kernel
theorem right_ex (u : UntilV) : Er.rightB (exU u) = Er.endB u := by
  unfold Er.rightB exU
  simp only [checkX]
  cases Er.endB u <;> simp
set_option maxHeartbeats 1600000 in
theorem Nom (u : UntilV) (hu : u.Fit) (w : World) (ht : Tab w) : Calls Tryz.prog 12 #[.agg u.cells.toArray] w fun x w' => x = .returned (.tuple #[.int .i64 (nomU u).1, .int .i64 (nomU u).2]) ∧ Below w.heap.size w w' := by
  have cr := fun W h => Er.Right (exU u) (fit_ex hu) W h
  rw [right_ex] at cr
  have cd := fun W => Day.Days u.kind u.week u.day u.year u.month W
  unfold nomU UntilV.cells
  unfold exU EraV.cells at cr
  simp only at cr
  cases hh : u.has
  · rw [if_neg (by decide)]
    clear cr cd ht hh
    go_enter Tryz.func12, Tryz.ntmps12
    go_wp2
    go_ret2
    exact ⟨rfl, by repeat (first | (with_reducible exact Below.refl _ _) | (with_reducible assumption) | (with_reducible refine ba ?_) | (with_reducible refine bd ?_) | (with_reducible refine bdn ?_ _) | (with_reducible refine bset ?_ (by first | exact Nat.le_refl _ | omega | (simp; done) | (simp; omega))) | (with_reducible refine bt ?_ (by with_reducible assumption)))⟩
  rw [hh] at cr
  rw [if_pos rfl]
  have HT := Lib.hid ht
  clear ht
  cases he : Er.endB u
  · rw [if_neg (by decide)]
    rw [he] at cr
    have Cr := Lib.hid cr
    clear cr cd hh he
    go_enter Tryz.func12, Tryz.ntmps12
    go_wp2_with (go_at_call 38; (with_reducible refine (Cr.out _ ?_).mono ?_); (· exact HT.out.later (by repeat (first | (with_reducible exact Below.refl _ _) | (with_reducible assumption) | (with_reducible refine ba ?_) | (with_reducible refine bd ?_) | (with_reducible refine bdn ?_ _) | (with_reducible refine bset ?_ (by first | exact Nat.le_refl _ | omega | (simp; done) | (simp; omega))) | (with_reducible refine bt ?_ (by with_reducible assumption))))); rintro e w1 ⟨rfl, hb1⟩; obtain ⟨hc1, hf1⟩ := bcell hb1; have hc1_0 := fun o => hc1 (w.heap.size) o (by first | assumption | omega | (simp; done) | (simp; omega)); have hf1_0 := fun o => hf1 (w.heap.size) o (by first | assumption | omega | (simp; done) | (simp; omega)); clear hc1 hf1; have hz1_0 : w.heap.size < w1.heap.size := (by first | exact sz1 hb1 | exact sz2 hb1 | exact sz3 hb1 | (have := hb1.size; (try simp only [World.size_alloc, World.size_drew] at this); omega)))
    go_ret2
    exact ⟨rfl, by repeat (first | (with_reducible exact Below.refl _ _) | (with_reducible assumption) | (with_reducible refine ba ?_) | (with_reducible refine bd ?_) | (with_reducible refine bdn ?_ _) | (with_reducible refine bset ?_ (by first | exact Nat.le_refl _ | omega | (simp; done) | (simp; omega))) | (with_reducible refine bt ?_ (by with_reducible assumption)))⟩
  · rw [if_pos rfl]
    obtain ⟨s1, s2, s3, s4, s5, s6⟩ := end_spec hh he
    rw [he] at cr
    rw [s2, if_pos rfl, if_pos (by omega)] at cd
    unfold nomV at *
    generalize Day.dayI u.kind u.week u.day u.year u.month = d at *
    have Cr := Lib.hid cr
    have Cd := Lib.hid cd
    clear cr cd hh he s2
    go_enter Tryz.func12, Tryz.ntmps12
    go_wp2_with (first
      | (go_at_call 38; (with_reducible refine (Cr.out _ ?_).mono ?_); (· exact HT.out.later (by repeat (first | (with_reducible exact Below.refl _ _) | (with_reducible assumption) | (with_reducible refine ba ?_) | (with_reducible refine bd ?_) | (with_reducible refine bdn ?_ _) | (with_reducible refine bset ?_ (by first | exact Nat.le_refl _ | omega | (simp; done) | (simp; omega))) | (with_reducible refine bt ?_ (by with_reducible assumption))))); rintro e w1 ⟨rfl, hb1⟩; obtain ⟨hc1, hf1⟩ := bcell hb1; have hc1_0 := fun o => hc1 (w.heap.size) o (by first | assumption | omega | (simp; done) | (simp; omega)); have hf1_0 := fun o => hf1 (w.heap.size) o (by first | assumption | omega | (simp; done) | (simp; omega)); clear hc1 hf1; have hz1_0 : w.heap.size < w1.heap.size := (by first | exact sz1 hb1 | exact sz2 hb1 | exact sz3 hb1 | (have := hb1.size; (try simp only [World.size_alloc, World.size_drew] at this); omega)))
      | (go_at_call 39; (with_reducible refine (Cd.out _).mono ?_); rintro e w2 ⟨rfl, hb2⟩; obtain ⟨hc2, hf2⟩ := bcell hb2; have hc2_0 := fun o => hc2 (w.heap.size) o (by first | assumption | omega | (simp; done) | (simp; omega)); have hf2_0 := fun o => hf2 (w.heap.size) o (by first | assumption | omega | (simp; done) | (simp; omega)); clear hc2 hf2; have hz2_0 : w.heap.size < w2.heap.size := (by first | exact sz1 hb2 | exact sz2 hb2 | exact sz3 hb2 | (have := hb2.size; (try simp only [World.size_alloc, World.size_drew] at this); omega))))
    go_ret2
    exact ⟨rfl, by repeat (first | (with_reducible exact Below.refl _ _) | (with_reducible assumption) | (with_reducible refine ba ?_) | (with_reducible refine bd ?_) | (with_reducible refine bdn ?_ _) | (with_reducible refine bset ?_ (by first | exact Nat.le_refl _ | omega | (simp; done) | (simp; omega))) | (with_reducible refine bt ?_ (by with_reducible assumption)))⟩
set_option maxRecDepth 100000 in
set_option maxHeartbeats 3200000 in
theorem Instant {w : World} {v : Value} {l : List RuleV} (h : Holds w v l) (e : EraV) (he : e.Fit) (ht : Tab w) : Calls Tryz.prog 14 #[v, .agg e.cells.toArray] w fun x w' => x = .returned (.tuple #[.int .i64 (instU l e).1, .int .i64 (instU l e).2]) ∧ Below w.heap.size w w' := by
  have cr := fun W h => Er.Right e he W h
  have cn := fun W h => Nom e.u he.u W h
  have ck := fun W (h : Holds W v l) => ChW.Clock h e.rules e.off (nomV e.u) e.u.base
  unfold instU
  cases hR : Er.rightB e
  · rw [hR] at cr
    rw [if_neg (by decide)]
    unfold EraV.cells at *
    have Cr := Lib.hid cr
    have HT := Lib.hid ht
    obtain ⟨q, cap, rfl⟩ := h.form
    clear cr cn ck ht h hR
    generalize l.length = n at *
    go_enter Tryz.func14, Tryz.ntmps14
    go_wp2_with (go_at_call 38; (with_reducible refine (Cr.out _ ?_).mono ?_); (· exact HT.out.later (by repeat (first | (with_reducible exact Below.refl _ _) | (with_reducible assumption) | (with_reducible refine ba ?_) | (with_reducible refine bd ?_) | (with_reducible refine bdn ?_ _) | (with_reducible refine bset ?_ (by first | exact Nat.le_refl _ | omega | (simp; done) | (simp; omega))) | (with_reducible refine bt ?_ (by with_reducible assumption))))); rintro e w1 ⟨rfl, hb1⟩; obtain ⟨hc1, hf1⟩ := bcell hb1; have hc1_0 := fun o => hc1 (w.heap.size) o (by first | assumption | omega | (simp; done) | (simp; omega)); have hf1_0 := fun o => hf1 (w.heap.size) o (by first | assumption | omega | (simp; done) | (simp; omega)); clear hc1 hf1; have hz1_0 : w.heap.size < w1.heap.size := (by first | exact sz1 hb1 | exact sz2 hb1 | exact sz3 hb1 | (have := hb1.size; (try simp only [World.size_alloc, World.size_drew] at this); omega)))
    go_ret2
    exact ⟨rfl, by repeat (first | (with_reducible exact Below.refl _ _) | (with_reducible assumption) | (with_reducible refine ba ?_) | (with_reducible refine bd ?_) | (with_reducible refine bdn ?_ _) | (with_reducible refine bset ?_ (by first | exact Nat.le_refl _ | omega | (simp; done) | (simp; omega))) | (with_reducible refine bt ?_ (by with_reducible assumption)))⟩
  obtain ⟨r1, r2, r3, r4⟩ := right_spec hR
  have sb := saved_bd (l := l) hR (nomV e.u)
  rw [hR] at cr
  rw [if_pos rfl]
  unfold nomU at cn
  obtain ⟨q, cap, rfl⟩ := h.form
  obtain ⟨off, kind, save, rules, format, u⟩ := e
  simp only at *
  unfold EraV.cells at *
  unfold UntilV.cells at *
  simp only at *
  cases hh : u.has
  · rw [hh] at cr cn
    rw [if_neg (by decide)] at cn ⊢
    have Cr := Lib.hid cr
    have Cn := Lib.hid cn
    have HT := Lib.hid ht
    clear cr cn ck ht h hR he
    generalize l.length = n at *
    go_enter Tryz.func14, Tryz.ntmps14
    go_wp2_with (first
      | (go_at_call 38; (with_reducible refine (Cr.out _ ?_).mono ?_); (· exact HT.out.later (by repeat (first | (with_reducible exact Below.refl _ _) | (with_reducible assumption) | (with_reducible refine ba ?_) | (with_reducible refine bd ?_) | (with_reducible refine bdn ?_ _) | (with_reducible refine bset ?_ (by first | exact Nat.le_refl _ | omega | (simp; done) | (simp; omega))) | (with_reducible refine bt ?_ (by with_reducible assumption))))); rintro e w1 ⟨rfl, hb1⟩; obtain ⟨hc1, hf1⟩ := bcell hb1; have hc1_0 := fun o => hc1 (w.heap.size) o (by first | assumption | omega | (simp; done) | (simp; omega)); have hf1_0 := fun o => hf1 (w.heap.size) o (by first | assumption | omega | (simp; done) | (simp; omega)); clear hc1 hf1; have hz1_0 : w.heap.size < w1.heap.size := (by first | exact sz1 hb1 | exact sz2 hb1 | exact sz3 hb1 | (have := hb1.size; (try simp only [World.size_alloc, World.size_drew] at this); omega)))
      | (go_at_call 12; (with_reducible refine (Cn.out _ ?_).mono ?_); (· exact HT.out.later (by repeat (first | (with_reducible exact Below.refl _ _) | (with_reducible assumption) | (with_reducible refine ba ?_) | (with_reducible refine bd ?_) | (with_reducible refine bdn ?_ _) | (with_reducible refine bset ?_ (by first | exact Nat.le_refl _ | omega | (simp; done) | (simp; omega))) | (with_reducible refine bt ?_ (by with_reducible assumption))))); rintro e w2 ⟨rfl, hb2⟩; obtain ⟨hc2, hf2⟩ := bcell hb2; have hc2_0 := fun o => hc2 (w.heap.size) o (by first | assumption | omega | (simp; done) | (simp; omega)); have hf2_0 := fun o => hf2 (w.heap.size) o (by first | assumption | omega | (simp; done) | (simp; omega)); clear hc2 hf2; have hz2_0 : w.heap.size < w2.heap.size := (by first | exact sz1 hb2 | exact sz2 hb2 | exact sz3 hb2 | (have := hb2.size; (try simp only [World.size_alloc, World.size_drew] at this); omega))))
    go_ret2
    exact ⟨rfl, by repeat (first | (with_reducible exact Below.refl _ _) | (with_reducible assumption) | (with_reducible refine ba ?_) | (with_reducible refine bd ?_) | (with_reducible refine bdn ?_ _) | (with_reducible refine bset ?_ (by first | exact Nat.le_refl _ | omega | (simp; done) | (simp; omega))) | (with_reducible refine bt ?_ (by with_reducible assumption)))⟩
  obtain ⟨s1, s2, s3, s4, s5, s6⟩ := end_spec hh r2
  rw [hh] at cr cn
  rw [if_pos rfl, if_pos r2] at cn
  rw [if_pos rfl]
  have hck : kind = 2 → Chn.clockE l rules off (nomV u) u.base = (nomV u - Chn.shift off u.base (Chn.saved l rules ⟨-1, 0, nomV u⟩), 0) := by
    intro _
    unfold Chn.clockE
    rw [if_neg (by rw [Chn.may_iff.2 r1]; simp; omega), if_neg (by omega)]
  unfold savedE at *
  simp only at *
  generalize nomV u = n at *
  by_cases hk : kind = 2
  · subst hk
    rw [hck rfl] at ck
    rw [if_pos rfl] at sb ⊢
    generalize Chn.shift off u.base (Chn.saved l rules ⟨-1, 0, n⟩) = s at *
    simp only at ck
    have HH := Lib.hid h
    have Cr := Lib.hid cr
    have Cn := Lib.hid cn
    have Ck := Lib.hid ck
    have HT := Lib.hid ht
    clear cr cn ck ht h hR he hck r2 s2 hh
    generalize l.length = m at *
    go_enter Tryz.func14, Tryz.ntmps14
    go_wp2_with (first
      | (go_at_call 38; (with_reducible refine (Cr.out _ ?_).mono ?_); (· exact HT.out.later (by repeat (first | (with_reducible exact Below.refl _ _) | (with_reducible assumption) | (with_reducible refine ba ?_) | (with_reducible refine bd ?_) | (with_reducible refine bdn ?_ _) | (with_reducible refine bset ?_ (by first | exact Nat.le_refl _ | omega | (simp; done) | (simp; omega))) | (with_reducible refine bt ?_ (by with_reducible assumption))))); rintro e w1 ⟨rfl, hb1⟩; obtain ⟨hc1, hf1⟩ := bcell hb1; have hc1_0 := fun o => hc1 (w.heap.size) o (by first | assumption | omega | (simp; done) | (simp; omega)); have hf1_0 := fun o => hf1 (w.heap.size) o (by first | assumption | omega | (simp; done) | (simp; omega)); clear hc1 hf1; have hz1_0 : w.heap.size < w1.heap.size := (by first | exact sz1 hb1 | exact sz2 hb1 | exact sz3 hb1 | (have := hb1.size; (try simp only [World.size_alloc, World.size_drew] at this); omega)))
      | (go_at_call 12; (with_reducible refine (Cn.out _ ?_).mono ?_); (· exact HT.out.later (by repeat (first | (with_reducible exact Below.refl _ _) | (with_reducible assumption) | (with_reducible refine ba ?_) | (with_reducible refine bd ?_) | (with_reducible refine bdn ?_ _) | (with_reducible refine bset ?_ (by first | exact Nat.le_refl _ | omega | (simp; done) | (simp; omega))) | (with_reducible refine bt ?_ (by with_reducible assumption))))); rintro e w2 ⟨rfl, hb2⟩; obtain ⟨hc2, hf2⟩ := bcell hb2; have hc2_0 := fun o => hc2 (w.heap.size) o (by first | assumption | omega | (simp; done) | (simp; omega)); have hf2_0 := fun o => hf2 (w.heap.size) o (by first | assumption | omega | (simp; done) | (simp; omega)); clear hc2 hf2; have hz2_0 : w.heap.size < w2.heap.size := (by first | exact sz1 hb2 | exact sz2 hb2 | exact sz3 hb2 | (have := hb2.size; (try simp only [World.size_alloc, World.size_drew] at this); omega)))
      | (go_at_call 42; (with_reducible refine (Ck.out _ ?_).mono ?_); (· exact HH.out.later (by repeat (first | (with_reducible exact Below.refl _ _) | (with_reducible assumption) | (with_reducible refine ba ?_) | (with_reducible refine bd ?_) | (with_reducible refine bdn ?_ _) | (with_reducible refine bset ?_ (by first | exact Nat.le_refl _ | omega | (simp; done) | (simp; omega))) | (with_reducible refine bt ?_ (by with_reducible assumption))))); rintro e w3 ⟨rfl, hb3⟩; obtain ⟨hc3, hf3⟩ := bcell hb3; have hc3_0 := fun o => hc3 (w.heap.size) o (by first | assumption | omega | (simp; done) | (simp; omega)); have hf3_0 := fun o => hf3 (w.heap.size) o (by first | assumption | omega | (simp; done) | (simp; omega)); clear hc3 hf3; have hz3_0 : w.heap.size < w3.heap.size := (by first | exact sz1 hb3 | exact sz2 hb3 | exact sz3 hb3 | (have := hb3.size; (try simp only [World.size_alloc, World.size_drew] at this); omega))))
    go_ret2
    exact ⟨rfl, by repeat (first | (with_reducible exact Below.refl _ _) | (with_reducible assumption) | (with_reducible refine ba ?_) | (with_reducible refine bd ?_) | (with_reducible refine bdn ?_ _) | (with_reducible refine bset ?_ (by first | exact Nat.le_refl _ | omega | (simp; done) | (simp; omega))) | (with_reducible refine bt ?_ (by with_reducible assumption)))⟩
  · rw [if_neg hk] at sb ⊢
    unfold Chn.shift
    have Cr := Lib.hid cr
    have Cn := Lib.hid cn
    have HT := Lib.hid ht
    clear cr cn ck ht h hR he hck r2 s2 hh
    generalize l.length = m at *
    have hb : u.base = 0 ∨ u.base = 1 ∨ u.base = 2 := by omega
    obtain ⟨has, year, month, uk, week, day, sec, base⟩ := u
    simp only at *
    rcases hb with rfl | rfl | rfl
    all_goals
      go_enter Tryz.func14, Tryz.ntmps14
      go_wp2_with (first
        | (go_at_call 38; (with_reducible refine (Cr.out _ ?_).mono ?_); (· exact HT.out.later (by repeat (first | (with_reducible exact Below.refl _ _) | (with_reducible assumption) | (with_reducible refine ba ?_) | (with_reducible refine bd ?_) | (with_reducible refine bdn ?_ _) | (with_reducible refine bset ?_ (by first | exact Nat.le_refl _ | omega | (simp; done) | (simp; omega))) | (with_reducible refine bt ?_ (by with_reducible assumption))))); rintro e w1 ⟨rfl, hb1⟩; obtain ⟨hc1, hf1⟩ := bcell hb1; have hc1_0 := fun o => hc1 (w.heap.size) o (by first | assumption | omega | (simp; done) | (simp; omega)); have hf1_0 := fun o => hf1 (w.heap.size) o (by first | assumption | omega | (simp; done) | (simp; omega)); clear hc1 hf1; have hz1_0 : w.heap.size < w1.heap.size := (by first | exact sz1 hb1 | exact sz2 hb1 | exact sz3 hb1 | (have := hb1.size; (try simp only [World.size_alloc, World.size_drew] at this); omega)))
        | (go_at_call 12; (with_reducible refine (Cn.out _ ?_).mono ?_); (· exact HT.out.later (by repeat (first | (with_reducible exact Below.refl _ _) | (with_reducible assumption) | (with_reducible refine ba ?_) | (with_reducible refine bd ?_) | (with_reducible refine bdn ?_ _) | (with_reducible refine bset ?_ (by first | exact Nat.le_refl _ | omega | (simp; done) | (simp; omega))) | (with_reducible refine bt ?_ (by with_reducible assumption))))); rintro e w2 ⟨rfl, hb2⟩; obtain ⟨hc2, hf2⟩ := bcell hb2; have hc2_0 := fun o => hc2 (w.heap.size) o (by first | assumption | omega | (simp; done) | (simp; omega)); have hf2_0 := fun o => hf2 (w.heap.size) o (by first | assumption | omega | (simp; done) | (simp; omega)); clear hc2 hf2; have hz2_0 : w.heap.size < w2.heap.size := (by first | exact sz1 hb2 | exact sz2 hb2 | exact sz3 hb2 | (have := hb2.size; (try simp only [World.size_alloc, World.size_drew] at this); omega))))
      go_ret2
      exact ⟨ret_ii (by first | rfl | omega | (simp; done) | (simp; omega)) rfl, by repeat (first | (with_reducible exact Below.refl _ _) | (with_reducible assumption) | (with_reducible refine ba ?_) | (with_reducible refine bd ?_) | (with_reducible refine bdn ?_ _) | (with_reducible refine bset ?_ (by first | exact Nat.le_refl _ | omega | (simp; done) | (simp; omega))) | (with_reducible refine bt ?_ (by with_reducible assumption)))⟩
end Unt
end Go.Proofs.YtkpjhgkmjcdobaaGreatDoor
/-
  What holds in an era, and where something else does, in plain data.
-/
namespace Go.Proofs.YtkpjhgkmjcdobaaGreatDoor
open Go.RowKit
structure ValV where
  off : Int
  save : Int
  abbr : ByteArray
deriving DecidableEq
def ValV.cells (v : ValV) : List Value := [.int .i64 v.off, .int .i64 v.save, .string v.abbr]
namespace Frc
/-- what holds with so much saved, and such letters -/
def valR (e : EraV) (save : Int) (letter : ByteArray) : ValV := ⟨wrap64 (e.off + save), save, (Fmt.abbrF e.format (wrap64 (e.off + save)) save letter).1⟩
def valO (e : EraV) (r : RuleV) : ValV := valR e r.save r.letter
def valAt (l : List RuleV) (e : EraV) (i : Int) : ValV := match Chn.ruleAt l i with | some r => valO e r | none => ⟨0, 0, ⟨#[]⟩⟩
/-- what holds ahead of all occurrences -/
def firstV (l : List RuleV) (e : EraV) : ValV := match l.find? (fun r => decide (r.name = e.rules) && decide (r.save = 0)) with | some r => valR e 0 r.letter | none => valR e 0 ⟨#[]⟩
noncomputable def lastP (l : List RuleV) (e : EraV) (t : Int) : Option OccV := Chn.lastO l e.rules e.off t
noncomputable def stateV (l : List RuleV) (e : EraV) (t : Int) : ValV := match lastP l e t with | some o => valAt l e o.rule | none => firstV l e
noncomputable def atV (l : List RuleV) (e : EraV) (t : Int) : ValV × Int := if Er.rightB e then (if e.kind = 2 then (stateV l e t, 0) else (valR e e.save ⟨#[]⟩, 0)) else (⟨0, 0, ⟨#[]⟩⟩, 4)
/-- rules of which those that make something hold have no name any more -/
def othV (l : List RuleV) (e : EraV) (v : ValV) : List RuleV := l.map fun r => if r.name = e.rules ∧ valO e r = v then { r with name := ⟨#[]⟩ } else r
def startO : OccV := ⟨-1, 0, -2192387558400⟩
noncomputable def nextF (l : List RuleV) (e : EraV) (t : Int) : Option OccV := Occ.nextO (othV l e (stateV l e t)) e.rules ((lastP l e t).getD startO)
noncomputable def prevF (l : List RuleV) (e : EraV) (t : Int) : Option OccV := match lastP l e t with
  | none => none
  | some o => match Occ.prevO (othV l e (stateV l e t)) e.rules o with
    | some x => Occ.nextO l e.rules x
    | none => if firstV l e = stateV l e t then none else Occ.nextO l e.rules startO
def tell (l : List RuleV) (e : EraV) : Option OccV → Int × Bool | some o => (Chn.inst l e.rules e.off o, true) | none => (0, false)
noncomputable def nextV (l : List RuleV) (e : EraV) (t : Int) : Int × Bool := if Er.rightB e = true ∧ e.kind = 2 then tell l e (nextF l e t) else (0, false)
noncomputable def prevV (l : List RuleV) (e : EraV) (t : Int) : Int × Bool := if Er.rightB e = true ∧ e.kind = 2 then tell l e (prevF l e t) else (0, false)
theorem oth_len (l : List RuleV) (e : EraV) (v : ValV) : (othV l e v).length = l.length := by unfold othV; simp
theorem rule_of {l : List RuleV} {name : ByteArray} {n : Nat} {o : OccV} (h : Occ.All l name n o) : ∃ (i : Nat) (r : RuleV), o.rule = i ∧ i < n ∧ l[i]? = some r ∧ r.name = name ∧ Rul.right r = true := by
  obtain ⟨i, r, hi, hr, hn, hR, _, _, e⟩ := h
  exact ⟨i, r, by rw [e]; rfl, hi, hr, hn, hR⟩
theorem val_rule {l : List RuleV} {e : EraV} {i : Nat} {r : RuleV} (h : l[i]? = some r) : valAt l e (i : Int) = valO e r := by
  unfold valAt
  rw [Chn.rule_at h]
/-- what is left of a name's occurrences -/
theorem all_oth {l : List RuleV} {e : EraV} {v : ValV} {n : Nat} {o : OccV} (hn : e.rules ≠ ⟨#[]⟩) : Occ.All (othV l e v) e.rules n o ↔ Occ.All l e.rules n o ∧ valAt l e o.rule ≠ v := by
  constructor
  · rintro ⟨i, r, hi, hr, hnm, hR, hof⟩
    unfold othV at hr
    rw [List.getElem?_map] at hr
    cases h0 : l[i]? with
    | none => rw [h0] at hr; cases hr
    | some r0 =>
      rw [h0] at hr
      simp only [Option.map_some, Option.some.injEq] at hr
      by_cases hc : r0.name = e.rules ∧ valO e r0 = v
      · rw [if_pos hc] at hr
        subst hr
        exact absurd hnm.symm hn
      · rw [if_neg hc] at hr
        subst hr
        refine ⟨⟨i, r0, hi, h0, hnm, hR, hof⟩, fun hv => hc ⟨hnm, ?_⟩⟩
        rw [← hv, show o.rule = (i : Int) by rw [hof.2.2]; rfl, val_rule h0]
  · rintro ⟨⟨i, r, hi, hr, hnm, hR, hof⟩, hv⟩
    rw [show o.rule = (i : Int) by rw [hof.2.2]; rfl, val_rule hr] at hv
    refine ⟨i, r, hi, ?_, hnm, hR, hof⟩
    unfold othV
    rw [List.getElem?_map, hr]
    simp only [Option.map_some, Option.some.injEq]
    rw [if_neg (fun h => hv h.2)]
def SA (l : List RuleV) (e : EraV) : OccV → Prop := Occ.All l e.rules l.length
def IA (l : List RuleV) (e : EraV) : OccV → Int := Chn.inst l e.rules e.off
def VA (l : List RuleV) (e : EraV) : OccV → ValV := fun o => valAt l e o.rule
theorem line {l : List RuleV} {e : EraV} (hc : (Chk.check l).2 = 0) (hm : Chn.may e.off = true) : Line (SA l e) (IA l e) where
  mono x y hx hy hl := by
    have h1 := Far.far hc hx hy hl
    have h2 := (Chn.inst_bd (l := l) (name := e.rules) hm x).2
    have h3 := (Chn.inst_bd (l := l) (name := e.rules) hm y).1
    unfold IA
    omega
  tri x y hx hy := Occ.less_tri hx hy
theorem last_is {l : List RuleV} {e : EraV} (hm : Chn.may e.off = true) {t : Int} (h0 : -2000000000000 ≤ t) (h1 : t ≤ 2000000000000) : Last (SA l e) (IA l e) t (lastP l e t) := by
  have h := Chn.last_spec (l := l) (name := e.rules) (off := e.off) (t := t) hm
  have hcl : Chn.clampE t = t := by
    unfold Chn.clampE Occ.clampI
    rw [if_neg (by omega), if_neg (by omega)]
  rw [hcl] at h
  unfold lastP
  cases hp : Chn.lastO l e.rules e.off t with
  | none => rw [hp] at h; exact h
  | some o => rw [hp] at h; exact h
theorem state_is (l : List RuleV) (e : EraV) (t : Int) : stateV l e t = state (VA l e) (firstV l e) (lastP l e t) := by
  unfold stateV state VA
  cases lastP l e t <;> rfl
theorem start_less {l : List RuleV} {e : EraV} {x : OccV} (h : SA l e x) : Occ.less startO x = true := by
  have := Chn.all_range h
  exact Occ.less_iff.2 (.inl (by show (-2192387558400 : Int) < x.nom; omega))
theorem after_is {l : List RuleV} {e : EraV} {c : Option OccV} {x : OccV} (h : SA l e x) : Occ.less (c.getD startO) x = true ↔ After c x := by
  cases c with
  | none => exact ⟨fun _ => trivial, fun _ => start_less h⟩
  | some o => exact Iff.rfl
theorem nextF_is {l : List RuleV} {e : EraV} {t : Int} (hn : e.rules ≠ ⟨#[]⟩) : Nxt (SA l e) (VA l e) (lastP l e t) (stateV l e t) (nextF l e t) := by
  unfold nextF
  have hb := Occ.best_next (othV l e (stateV l e t)) e.rules ((lastP l e t).getD startO)
  rw [oth_len] at hb
  generalize stateV l e t = v at *
  generalize lastP l e t = c at *
  cases hy : Occ.nextO (othV l e v) e.rules (c.getD startO) with
  | none =>
    rw [hy] at hb
    intro x hx ha
    by_cases hv : VA l e x = v
    · exact hv
    · have := hb x ((all_oth hn).2 ⟨hx, hv⟩)
      rw [(after_is hx).2 ha] at this
      cases this
  | some y =>
    rw [hy] at hb
    obtain ⟨h1, h2, h3⟩ := hb
    obtain ⟨g1, g2⟩ := (all_oth hn).1 h1
    refine ⟨g1, (after_is g1).1 h2, g2, fun x hx ha hl => ?_⟩
    by_cases hv : VA l e x = v
    · exact hv
    · have := h3 x ((all_oth hn).2 ⟨hx, hv⟩) ((after_is hx).2 ha)
      rw [hl] at this
      cases this
theorem suc_is (l : List RuleV) (e : EraV) (c : Option OccV) : Suc (SA l e) c (Occ.nextO l e.rules (c.getD startO)) := by
  have hb := Occ.best_next l e.rules (c.getD startO)
  cases hy : Occ.nextO l e.rules (c.getD startO) with
  | none =>
    rw [hy] at hb
    intro x hx ha
    have := hb x hx
    rw [(after_is hx).2 ha] at this
    cases this
  | some y =>
    rw [hy] at hb
    exact ⟨hb.1, (after_is hb.1).1 hb.2.1, fun x hx ha => hb.2.2 x hx ((after_is hx).2 ha)⟩
theorem prevF_is {l : List RuleV} {e : EraV} {t : Int} (hn : e.rules ≠ ⟨#[]⟩) : Began (SA l e) (VA l e) (firstV l e) (lastP l e t) (prevF l e t) := by
  unfold prevF
  have hs := state_is l e t
  cases hc : lastP l e t with
  | none => rfl
  | some o =>
    rw [hc] at hs
    replace hs : stateV l e t = VA l e o := hs
    rw [hs]
    simp only
    have hb := Occ.best_prev (othV l e (VA l e o)) e.rules o
    rw [oth_len] at hb
    cases hy : Occ.prevO (othV l e (VA l e o)) e.rules o with
    | none =>
      rw [hy] at hb
      have hp : Prv (SA l e) (VA l e) o (VA l e o) none := by
        intro x hx hl
        by_cases hv : VA l e x = VA l e o
        · exact hv
        · have := hb x ((all_oth hn).2 ⟨hx, hv⟩)
          rw [show Occ.more o x = true from hl] at this
          cases this
      simp only
      by_cases hf : firstV l e = VA l e o
      · rw [if_pos hf]; exact .inr (.inl ⟨hp, hf, rfl⟩)
      · rw [if_neg hf]; exact .inr (.inr ⟨hp, hf, suc_is l e none⟩)
    | some x =>
      rw [hy] at hb
      obtain ⟨h1, h2, h3⟩ := hb
      obtain ⟨g1, g2⟩ := (all_oth hn).1 h1
      refine .inl ⟨x, ⟨g1, h2, g2, fun z hz hl hl2 => ?_⟩, suc_is l e (some x)⟩
      by_cases hv : VA l e z = VA l e o
      · exact hv
      · have := h3 z ((all_oth hn).2 ⟨hz, hv⟩) hl
        rw [show Occ.more z x = true from hl2] at this
        cases this
theorem began_none {S : OccV → Prop} {I : OccV → Int} {val : OccV → ValV} {fst : ValV} {t : Int} {c : Option OccV} (hc : Last S I t c) (h : Began S val fst c none) : ∀ o, c = some o → Prv S val o (val o) none ∧ fst = val o := by
  rintro o rfl
  rcases h with ⟨x, hp, hq⟩ | ⟨hp, hf, _⟩ | ⟨_, _, hq⟩
  · exact absurd hp.2.1 (hq o hc.1)
  · exact ⟨hp, hf⟩
  · exact absurd trivial (hq o hc.1)
theorem inst_range {l : List RuleV} {e : EraV} (hm : Chn.may e.off = true) {x : OccV} (h : SA l e x) : -1100000000000 < IA l e x ∧ IA l e x < 1100000000000 := by
  have h1 := Chn.all_range h
  have h2 := Chn.inst_bd (l := l) (name := e.rules) hm x
  unfold IA
  omega
theorem tell_some {l : List RuleV} {e : EraV} {r : Option OccV} {n : Int} (h : tell l e r = (n, true)) : ∃ y, r = some y ∧ n = IA l e y := by
  cases r with
  | none => simp [tell] at h
  | some y => simp only [tell, Prod.mk.injEq, and_true] at h; exact ⟨y, rfl, h.symm⟩
theorem tell_none {l : List RuleV} {e : EraV} {r : Option OccV} {n : Int} (h : tell l e r = (n, false)) : r = none := by
  cases r with
  | none => rfl
  | some y => simp [tell] at h
section
variable {l : List RuleV} {e : EraV} (hc : (Chk.check l).2 = 0) (hm : Chn.may e.off = true) (hn : e.rules ≠ ⟨#[]⟩) {t : Int} (h0 : -1999000000000 ≤ t) (h1 : t ≤ 1999000000000)
include hc hm hn h0 h1
theorem next_law {n : Int} (h : tell l e (nextF l e t) = (n, true)) : (-1100000000000 < n ∧ n < 1100000000000) ∧ t < n ∧ stateV l e n ≠ stateV l e t ∧ stateV l e (n - 1) = stateV l e t ∧ tell l e (prevF l e n) = (n, true) := by
  obtain ⟨y, hy, rfl⟩ := tell_some h
  have L := line hc hm
  have hN := nextF_is (l := l) (t := t) hn
  rw [hy] at hN
  have hr := inst_range hm hN.1
  have hL := last_is (l := l) hm (t := t) (by omega) (by omega)
  have hLn := last_is (l := l) hm (t := IA l e y) (by omega) (by omega)
  have hLp := last_is (l := l) hm (t := IA l e y - 1) (by omega) (by omega)
  have hy2 : lastP l e (IA l e y) = some y := hLn.eq L (Last.at L hN.1)
  have hN' := hN
  rw [state_is] at hN'
  refine ⟨hr, next_gt hL hN, ?_, ?_, ?_⟩
  · rw [state_is l e (IA l e y), hy2]
    exact hN.2.2.1
  · rw [state_is l e (IA l e y - 1), state_is l e t]
    exact next_ahead L hL hN' hLp
  · have hB := prevF_is (l := l) (t := IA l e y) hn
    rw [hy2] at hB
    rw [next_back L hL hN' hLp hB]
    rfl
theorem prev_law {p : Int} (h : tell l e (prevF l e t) = (p, true)) : (-1100000000000 < p ∧ p < 1100000000000) ∧ p ≤ t ∧ stateV l e (p - 1) ≠ stateV l e t ∧ stateV l e p = stateV l e t ∧ tell l e (nextF l e (p - 1)) = (p, true) := by
  obtain ⟨q, hq, rfl⟩ := tell_some h
  have L := line hc hm
  have hB := prevF_is (l := l) (t := t) hn
  rw [hq] at hB
  have hL := last_is (l := l) hm (t := t) (by omega) (by omega)
  obtain ⟨o, ho, g1, g2, g3, g4, g5, g6⟩ := began_le L hL hB
  have hr := inst_range hm g1
  have hLn := last_is (l := l) hm (t := IA l e q) (by omega) (by omega)
  have hLp := last_is (l := l) hm (t := IA l e q - 1) (by omega) (by omega)
  have hy2 : lastP l e (IA l e q) = some q := hLn.eq L (Last.at L g1)
  have hst : stateV l e t = VA l e o := by rw [state_is, ho]; rfl
  refine ⟨hr, g3, ?_, ?_, ?_⟩
  · rw [hst, state_is]
    exact (g6 _ hLp).1
  · rw [hst, state_is, hy2]
    exact g4
  · have hN := nextF_is (l := l) (t := IA l e q - 1) hn
    rw [state_is] at hN
    rw [began_next L hL hB hLp hN]
    rfl
theorem else_law {s : Int} (s0 : -1999000000000 ≤ s) (s1 : s ≤ 1999000000000) (hk : ∀ n, tell l e (nextF l e t) = (n, true) → s < n) (hp : ∀ p, tell l e (prevF l e t) = (p, true) → p ≤ s) : stateV l e s = stateV l e t := by
  have L := line hc hm
  have hL := last_is (l := l) hm (t := t) (by omega) (by omega)
  have hS := last_is (l := l) hm (t := s) (by omega) (by omega)
  rw [state_is l e s, state_is l e t]
  by_cases hst : t ≤ s
  · have hN := nextF_is (l := l) (t := t) hn
    rw [state_is] at hN
    exact on L hL hS hst hN (fun y hy => hk (IA l e y) (by rw [hy]; rfl))
  · have hB := prevF_is (l := l) (t := t) hn
    refine back L hL hS (by omega) hB (fun q hq => hp (IA l e q) (by rw [hq]; rfl)) (fun hr o ho => ?_)
    rw [hr] at hB
    exact began_none hL hB o ho
end
end Frc
end Go.Proofs.YtkpjhgkmjcdobaaGreatDoor
