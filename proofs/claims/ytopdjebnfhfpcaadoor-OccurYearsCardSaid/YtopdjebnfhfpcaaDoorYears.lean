/-
  noontidelaw25.OccurYears: the walk.
-/
import Derived.Test.YtopdjebnfhfpcaaDoorLive25
import Derived.Test.YtopdjebnfhfpcaaDoorOccOne
namespace Go.Proofs.YtopdjebnfhfpcaaDoor
open Go.RowKit NB Nxt
namespace L25
set_option maxRecDepth 100000 in
set_option maxHeartbeats 6400000 in
theorem years0 (r : RuleV) (hr : r.Fit) (y : Int) (w : World) (h : Rul.right r = false ∨ 200 < r.name.size ∨ y < r.fr ∨ r.to < y) :
    Calls Tryd.prog 6 #[.agg r.cells.toArray, .int .i64 y] w fun e w' => e = .returned (.bool true) ∧ Below w.heap.size w w' := by
  have clv := fun W => lives W
  have cr := fun W => Rul.Right r hr W
  have cn := fun W => Nom.Nom r hr y W
  have hsz := hr.1
  unfold Nom.nomE at cn
  unfold RuleV.cells at *
  have Clv := Lib.hid clv
  cases hR : Rul.right r
  · rw [hR] at cr
    have Cr := Lib.hid cr
    clear clv cr cn h hR
    go_enter Tryd.func6, Tryd.ntmps6
    go_wp2_with (first
      | (go_at_call 19; (with_reducible refine (Clv.out _).mono ?_); rintro e w1 ⟨rfl, hb1⟩; obtain ⟨hc1, hf1⟩ := bcell hb1; have hc1_0 := fun o => hc1 (w.heap.size) o (by first | assumption | omega | (simp; done) | (simp; omega)); have hf1_0 := fun o => hf1 (w.heap.size) o (by first | assumption | omega | (simp; done) | (simp; omega)); clear hc1 hf1; have hz1_0 : w.heap.size < w1.heap.size := (by first | exact sz1 hb1 | exact sz2 hb1 | exact sz3 hb1 | (have := hb1.size; (try simp only [World.size_alloc, World.size_drew] at this); omega)))
      | (go_at_call 18; (with_reducible refine (Cr.out _).mono ?_); rintro e w2 ⟨rfl, hb2⟩; obtain ⟨hc2, hf2⟩ := bcell hb2; have hc2_0 := fun o => hc2 (w.heap.size) o (by first | assumption | omega | (simp; done) | (simp; omega)); have hf2_0 := fun o => hf2 (w.heap.size) o (by first | assumption | omega | (simp; done) | (simp; omega)); clear hc2 hf2; have hz2_0 : w.heap.size < w2.heap.size := (by first | exact sz1 hb2 | exact sz2 hb2 | exact sz3 hb2 | (have := hb2.size; (try simp only [World.size_alloc, World.size_drew] at this); omega))))
    go_ret
    exact ⟨rfl, by repeat (first | (with_reducible exact Below.refl _ _) | (with_reducible assumption) | (with_reducible refine ba ?_) | (with_reducible refine bd ?_) | (with_reducible refine bdn ?_ _) | (with_reducible refine bset ?_ (by first | exact Nat.le_refl _ | omega | (simp; done) | (simp; omega))) | (with_reducible refine bt ?_ (by with_reducible assumption)))⟩
  · rw [hR] at cr cn
    rw [if_pos rfl] at cn
    have Cr := Lib.hid cr
    by_cases hs : 200 < r.name.size
    · clear clv cr cn h hR
      go_enter Tryd.func6, Tryd.ntmps6
      go_wp2_with (first
        | (go_at_call 19; (with_reducible refine (Clv.out _).mono ?_); rintro e w1 ⟨rfl, hb1⟩; obtain ⟨hc1, hf1⟩ := bcell hb1; have hc1_0 := fun o => hc1 (w.heap.size) o (by first | assumption | omega | (simp; done) | (simp; omega)); have hf1_0 := fun o => hf1 (w.heap.size) o (by first | assumption | omega | (simp; done) | (simp; omega)); clear hc1 hf1; have hz1_0 : w.heap.size < w1.heap.size := (by first | exact sz1 hb1 | exact sz2 hb1 | exact sz3 hb1 | (have := hb1.size; (try simp only [World.size_alloc, World.size_drew] at this); omega)))
        | (go_at_call 18; (with_reducible refine (Cr.out _).mono ?_); rintro e w2 ⟨rfl, hb2⟩; obtain ⟨hc2, hf2⟩ := bcell hb2; have hc2_0 := fun o => hc2 (w.heap.size) o (by first | assumption | omega | (simp; done) | (simp; omega)); have hf2_0 := fun o => hf2 (w.heap.size) o (by first | assumption | omega | (simp; done) | (simp; omega)); clear hc2 hf2; have hz2_0 : w.heap.size < w2.heap.size := (by first | exact sz1 hb2 | exact sz2 hb2 | exact sz3 hb2 | (have := hb2.size; (try simp only [World.size_alloc, World.size_drew] at this); omega))))
      go_ret
      exact ⟨rfl, by repeat (first | (with_reducible exact Below.refl _ _) | (with_reducible assumption) | (with_reducible refine ba ?_) | (with_reducible refine bd ?_) | (with_reducible refine bdn ?_ _) | (with_reducible refine bset ?_ (by first | exact Nat.le_refl _ | omega | (simp; done) | (simp; omega))) | (with_reducible refine bt ?_ (by with_reducible assumption)))⟩
    · have hy : y < r.fr ∨ r.to < y := by
        rcases h with h | h | h
        · rw [hR] at h; cases h
        · exact (hs h).elim
        · exact h
      rw [if_pos hy] at cn
      have Cn := Lib.hid cn
      clear clv cr cn h hR
      rcases hy with hy | hy
      all_goals
        go_enter Tryd.func6, Tryd.ntmps6
        go_wp2_with (first
          | (go_at_call 19; (with_reducible refine (Clv.out _).mono ?_); rintro e w1 ⟨rfl, hb1⟩; obtain ⟨hc1, hf1⟩ := bcell hb1; have hc1_0 := fun o => hc1 (w.heap.size) o (by first | assumption | omega | (simp; done) | (simp; omega)); have hf1_0 := fun o => hf1 (w.heap.size) o (by first | assumption | omega | (simp; done) | (simp; omega)); clear hc1 hf1; have hz1_0 : w.heap.size < w1.heap.size := (by first | exact sz1 hb1 | exact sz2 hb1 | exact sz3 hb1 | (have := hb1.size; (try simp only [World.size_alloc, World.size_drew] at this); omega)))
          | (go_at_call 18; (with_reducible refine (Cr.out _).mono ?_); rintro e w2 ⟨rfl, hb2⟩; obtain ⟨hc2, hf2⟩ := bcell hb2; have hc2_0 := fun o => hc2 (w.heap.size) o (by first | assumption | omega | (simp; done) | (simp; omega)); have hf2_0 := fun o => hf2 (w.heap.size) o (by first | assumption | omega | (simp; done) | (simp; omega)); clear hc2 hf2; have hz2_0 : w.heap.size < w2.heap.size := (by first | exact sz1 hb2 | exact sz2 hb2 | exact sz3 hb2 | (have := hb2.size; (try simp only [World.size_alloc, World.size_drew] at this); omega)))
          | (go_at_call 23; (with_reducible refine (Cn.out _).mono ?_); rintro e w3 ⟨rfl, hb3⟩; obtain ⟨hc3, hf3⟩ := bcell hb3; have hc3_0 := fun o => hc3 (w.heap.size) o (by first | assumption | omega | (simp; done) | (simp; omega)); have hf3_0 := fun o => hf3 (w.heap.size) o (by first | assumption | omega | (simp; done) | (simp; omega)); clear hc3 hf3; have hz3_0 : w.heap.size < w3.heap.size := (by first | exact sz1 hb3 | exact sz2 hb3 | exact sz3 hb3 | (have := hb3.size; (try simp only [World.size_alloc, World.size_drew] at this); omega))))
        all_goals
          go_ret
          exact ⟨by simp, by repeat (first | (with_reducible exact Below.refl _ _) | (with_reducible assumption) | (with_reducible refine ba ?_) | (with_reducible refine bd ?_) | (with_reducible refine bdn ?_ _) | (with_reducible refine bset ?_ (by first | exact Nat.le_refl _ | omega | (simp; done) | (simp; omega))) | (with_reducible refine bt ?_ (by with_reducible assumption)))⟩
set_option maxRecDepth 100000 in
set_option maxHeartbeats 12800000 in
theorem years1 (r : RuleV) (hr : r.Fit) (y : Int) (w : World) (hR : Rul.right r = true) (hs : r.name.size ≤ 200) (h1 : r.fr ≤ y) (h2 : y ≤ r.to) :
    Calls Tryd.prog 6 #[.agg r.cells.toArray, .int .i64 y] w fun e w' => e = .returned (.bool true) ∧ Below w.heap.size w w' := by
  have clv := fun W => lives W
  have cr := fun W => Rul.Right r hr W
  have cn := fun W => Nom.Nom r hr y W
  have hyb := (Rul.right_spec hR).1
  rw [hR] at cr
  unfold Nom.nomE at cn
  rw [if_pos hR, if_neg (by omega)] at cn
  have hh : ∀ (X : World) (b : Nat), b = X.heap.size → Holds (X.alloc (.cells r.cells.toArray 27)) (.slice (some ⟨b, 0, none⟩) 1 1) [r] := by
    intro X b hb
    rw [hb]
    exact Nw.holds_new X [r] r.cells.toArray 27 1 1 rfl (by simp) (fun x hx => by rw [List.mem_singleton] at hx; subst hx; exact hr) (by simp)
  have cnx := fun (X : World) (b : Nat) (hb : b = X.heap.size) => NxH.Next (hh X b hb) r.name (Occ.occ r 0 y)
  have cpv := fun (X : World) (b : Nat) (hb : b = X.heap.size) => NxH.Prev (hh X b hb) r.name (Occ.occ r 0 y)
  have e1 := Occ.next_one hR h1 h2
  have e2 := Occ.prev_one hR h1 h2
  have g1 := (Occ.nom_lt hR (y := y) (y' := y + 1)).2 (by omega)
  have g2 := (Occ.nom_lt hR (y := y - 1) (y' := y)).2 (by omega)
  clear hh
  unfold Occ.occ OccV.cells at cnx cpv
  unfold Occ.occ at e1 e2
  unfold RuleV.cells at *
  simp only at cnx cpv cn
  generalize Occ.nomR r y = n at *
  generalize Occ.nomR r (y + 1) = n1 at *
  generalize Occ.nomR r (y - 1) = n2 at *
  have Clv := Lib.hid clv
  have Cr := Lib.hid cr
  have Cn := Lib.hid cn
  by_cases h3 : y < r.to <;> by_cases h4 : r.fr < y
  all_goals
    simp only [h3, h4, if_true, if_false] at e1 e2
    rw [e1] at cnx
    rw [e2] at cpv
    unfold optV at cnx cpv
    try unfold OccV.cells at cnx
    try unfold OccV.cells at cpv
    simp only at cnx cpv
    have Cnx := Lib.hid cnx
    have Cpv := Lib.hid cpv
    clear cnx cpv e1 e2 clv cr cn hR
    go_enter Tryd.func6, Tryd.ntmps6
    go_wp2_with (first
      | (go_at_call 19; (with_reducible refine (Clv.out _).mono ?_); rintro e w1 ⟨rfl, hb1⟩; obtain ⟨hc1, hf1⟩ := bcell hb1; have hc1_0 := fun o => hc1 (w.heap.size) o (by first | assumption | omega | (simp; done) | (simp; omega)); have hf1_0 := fun o => hf1 (w.heap.size) o (by first | assumption | omega | (simp; done) | (simp; omega)); clear hc1 hf1; have hz1_0 : w.heap.size < w1.heap.size := (by first | exact sz1 hb1 | exact sz2 hb1 | exact sz3 hb1 | (have := hb1.size; (try simp only [World.size_alloc, World.size_drew] at this); omega)))
      | (go_at_call 18; (with_reducible refine (Cr.out _).mono ?_); rintro e w2 ⟨rfl, hb2⟩; obtain ⟨hc2, hf2⟩ := bcell hb2; have hc2_0 := fun o => hc2 (w.heap.size) o (by first | assumption | omega | (simp; done) | (simp; omega)); have hf2_0 := fun o => hf2 (w.heap.size) o (by first | assumption | omega | (simp; done) | (simp; omega)); clear hc2 hf2; have hz2_0 : w.heap.size < w2.heap.size := (by first | exact sz1 hb2 | exact sz2 hb2 | exact sz3 hb2 | (have := hb2.size; (try simp only [World.size_alloc, World.size_drew] at this); omega)))
      | (go_at_call 23; (with_reducible refine (Cn.out _).mono ?_); rintro e w3 ⟨rfl, hb3⟩; obtain ⟨hc3, hf3⟩ := bcell hb3; have hc3_0 := fun o => hc3 (w.heap.size) o (by first | assumption | omega | (simp; done) | (simp; omega)); have hf3_0 := fun o => hf3 (w.heap.size) o (by first | assumption | omega | (simp; done) | (simp; omega)); clear hc3 hf3; have hz3_0 : w.heap.size < w3.heap.size := (by first | exact sz1 hb3 | exact sz2 hb3 | exact sz3 hb3 | (have := hb3.size; (try simp only [World.size_alloc, World.size_drew] at this); omega)))
      | (go_at_call 20; (with_reducible refine (Cnx.out _ _ ?_).mono ?_); (· simp); rintro e w4 ⟨rfl, hb4⟩; obtain ⟨hc4, hf4⟩ := bcell hb4; have hc4_0 := fun o => hc4 (w.heap.size) o (by first | assumption | omega | (simp; done) | (simp; omega)); have hf4_0 := fun o => hf4 (w.heap.size) o (by first | assumption | omega | (simp; done) | (simp; omega)); have hc4_1 := fun o => hc4 (w3.heap.size) o (by first | assumption | omega | (simp; done) | (simp; omega)); have hf4_1 := fun o => hf4 (w3.heap.size) o (by first | assumption | omega | (simp; done) | (simp; omega)); clear hc4 hf4; have hz4_0 : w.heap.size < w4.heap.size := (by first | exact sz1 hb4 | exact sz2 hb4 | exact sz3 hb4 | (have := hb4.size; (try simp only [World.size_alloc, World.size_drew] at this); omega)); have hz4_1 : w3.heap.size < w4.heap.size := (by first | exact sz1 hb4 | exact sz2 hb4 | exact sz3 hb4 | (have := hb4.size; (try simp only [World.size_alloc, World.size_drew] at this); omega)))
      | (go_at_call 21; (with_reducible refine (Cpv.out _ _ ?_).mono ?_); (· simp); rintro e w5 ⟨rfl, hb5⟩; obtain ⟨hc5, hf5⟩ := bcell hb5; have hc5_0 := fun o => hc5 (w.heap.size) o (by first | assumption | omega | (simp; done) | (simp; omega)); have hf5_0 := fun o => hf5 (w.heap.size) o (by first | assumption | omega | (simp; done) | (simp; omega)); have hc5_1 := fun o => hc5 (w3.heap.size) o (by first | assumption | omega | (simp; done) | (simp; omega)); have hf5_1 := fun o => hf5 (w3.heap.size) o (by first | assumption | omega | (simp; done) | (simp; omega)); have hc5_2 := fun o => hc5 (w4.heap.size) o (by first | assumption | omega | (simp; done) | (simp; omega)); have hf5_2 := fun o => hf5 (w4.heap.size) o (by first | assumption | omega | (simp; done) | (simp; omega)); clear hc5 hf5; have hz5_0 : w.heap.size < w5.heap.size := (by first | exact sz1 hb5 | exact sz2 hb5 | exact sz3 hb5 | (have := hb5.size; (try simp only [World.size_alloc, World.size_drew] at this); omega)); have hz5_1 : w3.heap.size < w5.heap.size := (by first | exact sz1 hb5 | exact sz2 hb5 | exact sz3 hb5 | (have := hb5.size; (try simp only [World.size_alloc, World.size_drew] at this); omega)); have hz5_2 : w4.heap.size < w5.heap.size := (by first | exact sz1 hb5 | exact sz2 hb5 | exact sz3 hb5 | (have := hb5.size; (try simp only [World.size_alloc, World.size_drew] at this); omega))))
    all_goals
      go_ret
      exact ⟨by simp; try omega, by repeat (first | (with_reducible exact Below.refl _ _) | (with_reducible assumption) | (with_reducible refine ba ?_) | (with_reducible refine bd ?_) | (with_reducible refine bdn ?_ _) | (with_reducible refine bset ?_ (by first | exact Nat.le_refl _ | omega | (simp; done) | (simp; omega))) | (with_reducible refine bt ?_ (by with_reducible assumption)))⟩
theorem years (r : RuleV) (y : Int) (w : World) (hr : r.Fit) (_ : I64 y) :
    Calls Tryd.prog 6 #[.agg r.cells.toArray, .int .i64 y] w fun e w' => e = .returned (.bool true) ∧ Below w.heap.size w w' := by
  by_cases h : Rul.right r = false ∨ 200 < r.name.size ∨ y < r.fr ∨ r.to < y
  · exact years0 r hr y w h
  · have hR : Rul.right r = true := by
      cases hR : Rul.right r
      · exact (h (.inl hR)).elim
      · rfl
    exact years1 r hr y w hR (by omega) (by omega) (by omega)
end L25
end Go.Proofs.YtopdjebnfhfpcaaDoor
