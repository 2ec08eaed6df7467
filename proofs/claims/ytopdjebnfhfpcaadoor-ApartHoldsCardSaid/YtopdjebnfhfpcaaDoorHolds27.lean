/-
  noontidelaw27.ApartHolds: the walk.
-/
import Derived.Test.YtopdjebnfhfpcaaDoorLive
import Derived.Test.YtopdjebnfhfpcaaDoorHoldB
import Derived.Test.YtopdjebnfhfpcaaDoorNextH
import Derived.Test.YtopdjebnfhfpcaaDoorFar
namespace Go.Proofs.YtopdjebnfhfpcaaDoor
open Go.RowKit NB Nxt
namespace L27
theorem best_some {lt : OccV → OccV → Bool} {fr a : OccV} {S : OccV → Prop} {b : Option OccV} (h : Occ.Best lt fr S b) (hb : b = some a) : S a ∧ lt fr a = true := by
  subst hb
  exact ⟨h.1, h.2.1⟩
theorem nom_all {l : List RuleV} {name : ByteArray} {k : Nat} {o : OccV} (h : Occ.All l name k o) : -2000000000000 ≤ o.nom ∧ o.nom ≤ 2000000000000 := by
  obtain ⟨i, r, _, _, _, hr, h1, h2, h3⟩ := h
  have e : o.nom = Occ.nomR r o.year := by rw [h3]; rfl
  have := (Rul.right_spec hr).1
  rw [e]
  exact Nom.nom_bd hr (by omega) (by omega)
set_option maxRecDepth 100000 in
set_option maxHeartbeats 6400000 in
theorem holds0 (v : Value) (l : List RuleV) (name : ByteArray) (fr : OccV) (w : World) (h : Holds w v l) (hlen : l.length * 104 ≤ 140737488355328) (hq : Lgt.light l = false ∨ (Chk.check l).2 ≠ 0) :
    Calls Tryd.prog 7 #[v, .string name, .agg fr.cells.toArray] w fun e w' => e = .returned (.bool true) ∧ Below w.heap.size w w' := by
  have clv := fun W => lives W
  have cc := fun W (h : Holds W v l) => Chk.CheckB h hlen
  have cl := fun W (h : Holds W v l) => Lgt.LightH h
  generalize Chk.check l = X at *
  obtain ⟨x1, x2⟩ := X
  simp only at cc hq
  have HH := Lib.hid h
  have Clv := Lib.hid clv
  have Cc := Lib.hid cc
  unfold OccV.cells
  clear h clv cc
  cases hl : Lgt.light l
  · rw [hl] at cl
    have Cl := Lib.hid cl
    clear cl hl hq
    go_enter Tryd.func7, Tryd.ntmps7
    go_wp2_with (first
      | (go_at_call 11; (with_reducible refine (Clv.out _).mono ?_); rintro e w1 ⟨rfl, hb1⟩; obtain ⟨hc1, hf1⟩ := bcell hb1)
      | (go_at_call 14; (with_reducible refine (Cc.out _ ?_).mono ?_); (· exact HH.out.later (by repeat (first | (with_reducible exact Below.refl _ _) | (with_reducible assumption) | (with_reducible refine ba ?_) | (with_reducible refine bd ?_) | (with_reducible refine bdn ?_ _) | (with_reducible refine bset ?_ (by first | exact Nat.le_refl _ | omega | (simp; done) | (simp; omega))) | (with_reducible refine bt ?_ (by with_reducible assumption))))); rintro e w2 ⟨rfl, hb2⟩; obtain ⟨hc2, hf2⟩ := bcell hb2)
      | (go_at_call 10; (with_reducible refine (Cl.out _ ?_).mono ?_); (· exact HH.out.later (by repeat (first | (with_reducible exact Below.refl _ _) | (with_reducible assumption) | (with_reducible refine ba ?_) | (with_reducible refine bd ?_) | (with_reducible refine bdn ?_ _) | (with_reducible refine bset ?_ (by first | exact Nat.le_refl _ | omega | (simp; done) | (simp; omega))) | (with_reducible refine bt ?_ (by with_reducible assumption))))); rintro e w3 ⟨rfl, hb3⟩; obtain ⟨hc3, hf3⟩ := bcell hb3))
    go_ret
    exact ⟨rfl, by repeat (first | (with_reducible exact Below.refl _ _) | (with_reducible assumption) | (with_reducible refine ba ?_) | (with_reducible refine bd ?_) | (with_reducible refine bdn ?_ _) | (with_reducible refine bset ?_ (by first | exact Nat.le_refl _ | omega | (simp; done) | (simp; omega))) | (with_reducible refine bt ?_ (by with_reducible assumption)))⟩
  · rw [hl] at cl
    have hx : x2 ≠ 0 := by
      rcases hq with h | h
      · rw [hl] at h; cases h
      · exact h
    have e1 : (x2 == 0) = false := by rw [beq_eq_false_iff_ne]; exact hx
    have e2 : (x2 != 0) = true := by rw [bne, e1]; rfl
    have Cl := Lib.hid cl
    clear cl hl hq hx
    go_enter Tryd.func7, Tryd.ntmps7
    go_wp2_with (first
      | (go_at_call 11; (with_reducible refine (Clv.out _).mono ?_); rintro e w1 ⟨rfl, hb1⟩; obtain ⟨hc1, hf1⟩ := bcell hb1)
      | (go_at_call 14; (with_reducible refine (Cc.out _ ?_).mono ?_); (· exact HH.out.later (by repeat (first | (with_reducible exact Below.refl _ _) | (with_reducible assumption) | (with_reducible refine ba ?_) | (with_reducible refine bd ?_) | (with_reducible refine bdn ?_ _) | (with_reducible refine bset ?_ (by first | exact Nat.le_refl _ | omega | (simp; done) | (simp; omega))) | (with_reducible refine bt ?_ (by with_reducible assumption))))); rintro e w2 ⟨rfl, hb2⟩; obtain ⟨hc2, hf2⟩ := bcell hb2)
      | (go_at_call 10; (with_reducible refine (Cl.out _ ?_).mono ?_); (· exact HH.out.later (by repeat (first | (with_reducible exact Below.refl _ _) | (with_reducible assumption) | (with_reducible refine ba ?_) | (with_reducible refine bd ?_) | (with_reducible refine bdn ?_ _) | (with_reducible refine bset ?_ (by first | exact Nat.le_refl _ | omega | (simp; done) | (simp; omega))) | (with_reducible refine bt ?_ (by with_reducible assumption))))); rintro e w3 ⟨rfl, hb3⟩; obtain ⟨hc3, hf3⟩ := bcell hb3))
    go_ret
    exact ⟨rfl, by repeat (first | (with_reducible exact Below.refl _ _) | (with_reducible assumption) | (with_reducible refine ba ?_) | (with_reducible refine bd ?_) | (with_reducible refine bdn ?_ _) | (with_reducible refine bset ?_ (by first | exact Nat.le_refl _ | omega | (simp; done) | (simp; omega))) | (with_reducible refine bt ?_ (by with_reducible assumption)))⟩
end L27
end Go.Proofs.YtopdjebnfhfpcaaDoor
