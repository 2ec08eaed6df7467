/-
  noontidelaw27.ApartEither: the walk.
-/
import Derived.Test.YtopdjebnfhfpcaaDoorLive
namespace Go.Proofs.YtopdjebnfhfpcaaDoor
open Go.RowKit NB
namespace L27
theorem meet0 (a b : RuleV) : Apt.meetB a b 0 = Apt.meetB b a 0 := by
  unfold Apt.meetB
  rw [Bool.eq_iff_iff]
  simp
  omega
theorem nearB_comm (a b : RuleV) : Apt.nearB a b = Apt.nearB b a := by
  unfold Apt.nearB
  rw [meet0 b a]
  generalize Apt.meetB a b 0 = m0
  generalize Apt.meetB a b 1 = m1
  generalize Apt.meetB b a 1 = m2
  generalize Apt.clearB (Apt.wHigh a) (Apt.wLow b) 0 = c0
  generalize Apt.clearB (Apt.wHigh b) (Apt.wLow a) 0 = c1
  generalize Apt.clearB (Apt.wHigh a) (Apt.wLow b) 31536000 = c2
  generalize Apt.clearB (Apt.wHigh b) (Apt.wLow a) 31536000 = c3
  revert m0 m1 m2 c0 c1 c2 c3
  decide
theorem pairE_comm (a b : RuleV) : Apt.pairE a b = Apt.pairE b a := by
  unfold Apt.pairE
  rw [nearB_comm, Bool.and_comm]
def els (a : RuleV) : RuleV := ⟨⟨#[69, 108, 115, 101]⟩, a.fr, a.to, a.month, a.kind, a.week, a.day, a.sec, a.base, a.save, a.letter⟩
theorem right_els {a : RuleV} (h : Rul.right a = true) : Rul.right (els a) = true := by
  unfold Rul.right at h ⊢
  simp only [Bool.and_eq_true] at h ⊢
  obtain ⟨⟨⟨⟨h1, _⟩, h3⟩, h4⟩, h5⟩ := h
  exact ⟨⟨⟨⟨h1, (by decide +kernel : (Nam.nameE ⟨#[69, 108, 115, 101]⟩ == 0) = true)⟩, h3⟩, h4⟩, h5⟩
theorem pair_els {a b : RuleV} (h : Rul.right a = true) : Apt.pairE (els a) b = Apt.pairE a b := by
  unfold Apt.pairE
  rw [h, right_els h]
  rfl
theorem els_fit {a : RuleV} (h : a.Fit) : (els a).Fit := ⟨by show (4 : Nat) ≤ _; decide, h.l, h.fr, h.to, h.sec, h.save⟩
def Fin (w : World) (e : Ending) (w' : World) : Prop := e = .returned (.bool true) ∧ Below w.heap.size w w'
set_option maxRecDepth 100000 in
set_option maxHeartbeats 6400000 in
theorem either (a b : RuleV) (ha : a.Fit) (hb : b.Fit) (w : World) : Calls Tryd.prog 4 #[.agg a.cells.toArray, .agg b.cells.toArray] w (Fin w) := by
  have cl := fun (X : World) => Lgt.Light X.heap.size 0 2 [a, b] (X.alloc (.cells (a.cells ++ b.cells).toArray 27)) (lies_new X [a, b] (a.cells ++ b.cells).toArray _ (by simp)) (by simp) (by simp) (by intro r hr; simp only [List.mem_cons, List.not_mem_nil, or_false] at hr; rcases hr with rfl | rfl <;> assumption)
  unfold Lgt.Post at cl
  have cab := fun W => Apt.Pair a b ha hb W
  have cba := fun W => Apt.Pair b a hb ha W
  have cra := fun W => Rul.Right a ha W
  have crb := fun W => Rul.Right b hb W
  rw [← pairE_comm a b] at cba
  unfold RuleV.cells at *
  simp only [List.cons_append, List.nil_append] at cl
  have Cab := Lib.hid cab
  have Cba := Lib.hid cba
  have Cra := Lib.hid cra
  have Crb := Lib.hid crb
  clear cab cba cra crb
  cases hl : Lgt.light [a, b]
  · rw [hl] at cl
    have Cl := Lib.hid cl
    clear cl hl
    go_enter Tryd.func4, Tryd.ntmps4
    go_wp2_with (first
      | (go_at_call 11; refine (lives _).mono ?_; rintro e w1 ⟨rfl, hb1⟩; obtain ⟨hc1, hf1⟩ := bcell hb1; have hz1 : w.heap.size + 1 < w1.heap.size := sz2 hb1; have hy1 : w.heap.size < w1.heap.size := (by omega))
      | (go_at_call 10; refine (Cl.out _).mono ?_; rintro e w2 ⟨rfl, hb2⟩))
    go_ret
    exact ⟨rfl, ((((((Below.refl _ _).alloc (Nat.le_refl _) _).alloc (by simp) _).trans (hb1.mono (by simp; omega))).alloc (by omega) _).trans (hb2.mono (by simp; omega)))⟩
  · rw [hl] at cl
    have Cl := Lib.hid cl
    clear cl hl
    have h4 : (Rul.right a = false ∧ Apt.pairE a b = 4) ∨ (Rul.right a = true ∧ Rul.right b = false ∧ Apt.pairE a b = 4) ∨ (Rul.right a = true ∧ Rul.right b = true ∧ Apt.pairE a b = 0) ∨
        (Rul.right a = true ∧ Rul.right b = true ∧ Apt.pairE a b = 15 ∧ a.fr ≤ b.to + 1 ∧ b.fr ≤ a.to + 1 ∧ (-32767 ≤ a.to ∧ a.to ≤ 32767) ∧ (-32767 ≤ b.to ∧ b.to ≤ 32767)) := by
      unfold Apt.pairE
      cases h1 : Rul.right a
      · exact .inl ⟨rfl, by simp⟩
      · cases h2 : Rul.right b
        · exact .inr (.inl ⟨rfl, rfl, by simp⟩)
        · cases h3 : Apt.nearB a b
          · exact .inr (.inr (.inl ⟨rfl, rfl, by simp⟩))
          · refine .inr (.inr (.inr ⟨rfl, rfl, by simp, ?_⟩))
            have r1 := (Rul.right_spec h1).1
            have r2 := (Rul.right_spec h2).1
            unfold Apt.nearB Apt.meetB at h3
            simp only [Bool.or_eq_true, Bool.and_eq_true, decide_eq_true_eq] at h3
            omega
    go_enter Tryd.func4, Tryd.ntmps4
    go_upto_region 3 with (first
      | (go_at_call 11; refine (lives _).mono ?_; rintro e w1 ⟨rfl, hb1⟩))
    obtain ⟨V, hV, hz0, hz1, gA, gB, hBV⟩ : ∃ V : World, V = w1 ∧ w.heap.size < V.heap.size ∧ w.heap.size + 1 < V.heap.size ∧ (∀ o, V.cell? ⟨w.heap.size, o, none⟩ = (#[.string a.name, .int .i64 a.fr, .int .i64 a.to, .int .i64 a.month, .int .i64 a.kind, .int .i64 a.week, .int .i64 a.day, .int .i64 a.sec, .int .i64 a.base, .int .i64 a.save, .string a.letter] : Array Value)[o]?) ∧ (∀ o, V.cell? ⟨w.heap.size + 1, o, none⟩ = (#[.string b.name, .int .i64 b.fr, .int .i64 b.to, .int .i64 b.month, .int .i64 b.kind, .int .i64 b.week, .int .i64 b.day, .int .i64 b.sec, .int .i64 b.base, .int .i64 b.save, .string b.letter] : Array Value)[o]?) ∧ Below w.heap.size w V := by
      have q1 : w.heap.size + 1 < w1.heap.size := sz2 hb1
      refine ⟨w1, rfl, by omega, q1, fun o => ?_, fun o => ?_, (((Below.refl _ _).alloc (Nat.le_refl _) _).alloc (by simp) _).trans (hb1.mono (by simp; omega))⟩
      · rw [hb1.cell (p := ⟨w.heap.size, o, none⟩) (by simp; omega)]
        exact cell_of_row _ _ _ _ _ _ (heap_alloc2_old w _ _)
      · rw [hb1.cell (p := ⟨w.heap.size + 1, o, none⟩) (by simp)]
        exact cell_of_row _ _ _ _ _ _ (heap_alloc2_new w _ _)
    rw [← hV]
    clear hV hb1
    have hF : ∀ u : World, Below V.heap.size V u → V.heap.size ≤ u.heap.size ∧ (∀ o, u.cell? ⟨w.heap.size, o, none⟩ = (#[.string a.name, .int .i64 a.fr, .int .i64 a.to, .int .i64 a.month, .int .i64 a.kind, .int .i64 a.week, .int .i64 a.day, .int .i64 a.sec, .int .i64 a.base, .int .i64 a.save, .string a.letter] : Array Value)[o]?) ∧ (∀ o, u.cell? ⟨w.heap.size + 1, o, none⟩ = (#[.string b.name, .int .i64 b.fr, .int .i64 b.to, .int .i64 b.month, .int .i64 b.kind, .int .i64 b.week, .int .i64 b.day, .int .i64 b.sec, .int .i64 b.base, .int .i64 b.save, .string b.letter] : Array Value)[o]?) := fun u hu => ⟨hu.size, fun o => (hu.cell (p := ⟨w.heap.size, o, none⟩) hz0).trans (gA o), fun o => (hu.cell (p := ⟨w.heap.size + 1, o, none⟩) hz1).trans (gB o)⟩
    have HF := Lib.hid hF
    have HBV := Lib.hid hBV
    clear hF gA gB hBV
    have hI : Below V.heap.size V V := Below.refl _ _
    obtain ⟨s0, f1, f2⟩ := HF.out _ hI
    rcases h4 with ⟨h1, h3⟩ | ⟨h1, h2, h3⟩ | ⟨h1, h2, h3⟩ | ⟨h1, h2, h3, h5, h6, h7, h8⟩
    all_goals
      have kab := Cab.out
      have kba := Cba.out
      have kra := Cra.out
      have krb := Crb.out
      rw [h3] at kab kba
      rw [h1] at kra
      try rw [h2] at krb
      have Kab := Lib.hid kab
      have Kba := Lib.hid kba
      have Kra := Lib.hid kra
      have Krb := Lib.hid krb
      clear kab kba kra krb Cab Cba Cra Crb
      have l0 : w.heap.size < V.heap.size := hz0
      have l1 : w.heap.size + 1 < V.heap.size := hz1
    · clear ha hb h1 h3
      go_wp2_with (first
        | (go_at_call 10; refine (Cl.out _).mono ?_; rintro e wn ⟨rfl, hbn⟩; replace hI := (by first | exact hI.trans (hbn.mono hI.size) | exact (hI.alloc hI.size _).trans (hbn.mono (Nat.le_trans hI.size (by simp))) : Below V.heap.size V wn); clear s0 f1 f2 hbn; obtain ⟨s0, f1, f2⟩ := HF.out _ hI; have l0 : w.heap.size < wn.heap.size := (by omega); have l1 : w.heap.size + 1 < wn.heap.size := (by omega))
        | (go_at_call 16; (with_reducible first | refine (Kab.out _).mono ?_ | refine (Kba.out _).mono ?_); rintro e wn ⟨rfl, hbn⟩; replace hI := (by first | exact hI.trans (hbn.mono hI.size) | exact (hI.alloc hI.size _).trans (hbn.mono (Nat.le_trans hI.size (by simp))) : Below V.heap.size V wn); clear s0 f1 f2 hbn; obtain ⟨s0, f1, f2⟩ := HF.out _ hI; have l0 : w.heap.size < wn.heap.size := (by omega); have l1 : w.heap.size + 1 < wn.heap.size := (by omega))
        | (go_at_call 18; (with_reducible first | refine (Kra.out _).mono ?_ | refine (Krb.out _).mono ?_); rintro e wn ⟨rfl, hbn⟩; replace hI := (by first | exact hI.trans (hbn.mono hI.size) | exact (hI.alloc hI.size _).trans (hbn.mono (Nat.le_trans hI.size (by simp))) : Below V.heap.size V wn); clear s0 f1 f2 hbn; obtain ⟨s0, f1, f2⟩ := HF.out _ hI; have l0 : w.heap.size < wn.heap.size := (by omega); have l1 : w.heap.size + 1 < wn.heap.size := (by omega)))
      go_ret
      exact ⟨rfl, HBV.out.trans (Below.mono (by first | exact hI | exact hI.alloc hI.size _) HBV.out.size)⟩
    · clear ha hb h1 h2 h3
      go_wp2_with (first
        | (go_at_call 10; refine (Cl.out _).mono ?_; rintro e wn ⟨rfl, hbn⟩; replace hI := (by first | exact hI.trans (hbn.mono hI.size) | exact (hI.alloc hI.size _).trans (hbn.mono (Nat.le_trans hI.size (by simp))) : Below V.heap.size V wn); clear s0 f1 f2 hbn; obtain ⟨s0, f1, f2⟩ := HF.out _ hI; have l0 : w.heap.size < wn.heap.size := (by omega); have l1 : w.heap.size + 1 < wn.heap.size := (by omega))
        | (go_at_call 16; (with_reducible first | refine (Kab.out _).mono ?_ | refine (Kba.out _).mono ?_); rintro e wn ⟨rfl, hbn⟩; replace hI := (by first | exact hI.trans (hbn.mono hI.size) | exact (hI.alloc hI.size _).trans (hbn.mono (Nat.le_trans hI.size (by simp))) : Below V.heap.size V wn); clear s0 f1 f2 hbn; obtain ⟨s0, f1, f2⟩ := HF.out _ hI; have l0 : w.heap.size < wn.heap.size := (by omega); have l1 : w.heap.size + 1 < wn.heap.size := (by omega))
        | (go_at_call 18; (with_reducible first | refine (Kra.out _).mono ?_ | refine (Krb.out _).mono ?_); rintro e wn ⟨rfl, hbn⟩; replace hI := (by first | exact hI.trans (hbn.mono hI.size) | exact (hI.alloc hI.size _).trans (hbn.mono (Nat.le_trans hI.size (by simp))) : Below V.heap.size V wn); clear s0 f1 f2 hbn; obtain ⟨s0, f1, f2⟩ := HF.out _ hI; have l0 : w.heap.size < wn.heap.size := (by omega); have l1 : w.heap.size + 1 < wn.heap.size := (by omega)))
      go_ret
      exact ⟨rfl, HBV.out.trans (Below.mono (by first | exact hI | exact hI.alloc hI.size _) HBV.out.size)⟩
    · have kxb := fun W => Apt.Pair (els a) b (els_fit ha) hb W
      rw [pair_els h1, h3] at kxb
      unfold els RuleV.cells at kxb
      have Kxb := Lib.hid kxb
      clear kxb ha hb h1 h2 h3
      go_wp2_with (first
        | (go_at_call 10; refine (Cl.out _).mono ?_; rintro e wn ⟨rfl, hbn⟩; replace hI := (by first | exact hI.trans (hbn.mono hI.size) | exact (hI.alloc hI.size _).trans (hbn.mono (Nat.le_trans hI.size (by simp))) : Below V.heap.size V wn); clear s0 f1 f2 hbn; obtain ⟨s0, f1, f2⟩ := HF.out _ hI; have l0 : w.heap.size < wn.heap.size := (by omega); have l1 : w.heap.size + 1 < wn.heap.size := (by omega))
        | (go_at_call 16; (with_reducible first | refine (Kab.out _).mono ?_ | refine (Kba.out _).mono ?_ | refine (Kxb.out _).mono ?_); rintro e wn ⟨rfl, hbn⟩; replace hI := (by first | exact hI.trans (hbn.mono hI.size) | exact (hI.alloc hI.size _).trans (hbn.mono (Nat.le_trans hI.size (by simp))) : Below V.heap.size V wn); clear s0 f1 f2 hbn; obtain ⟨s0, f1, f2⟩ := HF.out _ hI; have l0 : w.heap.size < wn.heap.size := (by omega); have l1 : w.heap.size + 1 < wn.heap.size := (by omega))
        | (go_at_call 18; (with_reducible first | refine (Kra.out _).mono ?_ | refine (Krb.out _).mono ?_); rintro e wn ⟨rfl, hbn⟩; replace hI := (by first | exact hI.trans (hbn.mono hI.size) | exact (hI.alloc hI.size _).trans (hbn.mono (Nat.le_trans hI.size (by simp))) : Below V.heap.size V wn); clear s0 f1 f2 hbn; obtain ⟨s0, f1, f2⟩ := HF.out _ hI; have l0 : w.heap.size < wn.heap.size := (by omega); have l1 : w.heap.size + 1 < wn.heap.size := (by omega)))
      go_ret
      exact ⟨rfl, HBV.out.trans (Below.mono (by first | exact hI | exact hI.alloc hI.size _) HBV.out.size)⟩
    · have kxb := fun W => Apt.Pair (els a) b (els_fit ha) hb W
      rw [pair_els h1, h3] at kxb
      unfold els RuleV.cells at kxb
      have Kxb := Lib.hid kxb
      clear kxb ha hb h1 h2 h3
      go_wp2_with (first
        | (go_at_call 10; refine (Cl.out _).mono ?_; rintro e wn ⟨rfl, hbn⟩; replace hI := (by first | exact hI.trans (hbn.mono hI.size) | exact (hI.alloc hI.size _).trans (hbn.mono (Nat.le_trans hI.size (by simp))) : Below V.heap.size V wn); clear s0 f1 f2 hbn; obtain ⟨s0, f1, f2⟩ := HF.out _ hI; have l0 : w.heap.size < wn.heap.size := (by omega); have l1 : w.heap.size + 1 < wn.heap.size := (by omega))
        | (go_at_call 16; (with_reducible first | refine (Kab.out _).mono ?_ | refine (Kba.out _).mono ?_ | refine (Kxb.out _).mono ?_); rintro e wn ⟨rfl, hbn⟩; replace hI := (by first | exact hI.trans (hbn.mono hI.size) | exact (hI.alloc hI.size _).trans (hbn.mono (Nat.le_trans hI.size (by simp))) : Below V.heap.size V wn); clear s0 f1 f2 hbn; obtain ⟨s0, f1, f2⟩ := HF.out _ hI; have l0 : w.heap.size < wn.heap.size := (by omega); have l1 : w.heap.size + 1 < wn.heap.size := (by omega))
        | (go_at_call 18; (with_reducible first | refine (Kra.out _).mono ?_ | refine (Krb.out _).mono ?_); rintro e wn ⟨rfl, hbn⟩; replace hI := (by first | exact hI.trans (hbn.mono hI.size) | exact (hI.alloc hI.size _).trans (hbn.mono (Nat.le_trans hI.size (by simp))) : Below V.heap.size V wn); clear s0 f1 f2 hbn; obtain ⟨s0, f1, f2⟩ := HF.out _ hI; have l0 : w.heap.size < wn.heap.size := (by omega); have l1 : w.heap.size + 1 < wn.heap.size := (by omega)))
      go_ret
      exact ⟨rfl, HBV.out.trans (Below.mono (by first | exact hI | exact hI.alloc hI.size _) HBV.out.size)⟩
end L27
end Go.Proofs.YtopdjebnfhfpcaaDoor
