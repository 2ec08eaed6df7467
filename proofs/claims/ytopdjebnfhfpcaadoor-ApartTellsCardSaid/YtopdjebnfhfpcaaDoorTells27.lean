/-
  noontidelaw27.ApartTells: the walk.
-/
import Derived.Test.YtopdjebnfhfpcaaDoorLive
import Derived.Test.YtopdjebnfhfpcaaDoorHoldB
namespace Go.Proofs.YtopdjebnfhfpcaaDoor
open Go.RowKit NB
namespace L27
theorem winV_form (r : RuleV) : ∃ p q e : Int, R27.winV r = .tuple #[.int .i64 p, .int .i64 q, .int .i64 e] := by
  unfold R27.winV
  split
  · exact ⟨_, _, _, rfl⟩
  · exact ⟨_, _, _, rfl⟩
set_option maxRecDepth 100000 in
set_option maxHeartbeats 6400000 in
theorem tells (a b : RuleV) (v : Value) (l : List RuleV) (w : World) (ha : a.Fit) (hb : b.Fit) (h : Holds w v l) : Calls Tryd.prog 3 #[.agg a.cells.toArray, .agg b.cells.toArray, v] w fun e w' => e = .returned (.bool true) ∧ Below w.heap.size w w' := by
  have cl := fun (X : World) => Lgt.Light X.heap.size 0 2 [a, b] (X.alloc (.cells (a.cells ++ b.cells).toArray 27)) (lies_new X [a, b] (a.cells ++ b.cells).toArray _ (by simp)) (by simp) (by simp) (by intro r hr; simp only [List.mem_cons, List.not_mem_nil, or_false] at hr; rcases hr with rfl | rfl <;> assumption)
  unfold Lgt.Post at cl
  have cab := fun W => Apt.Pair a b ha hb W
  have cab2 := fun W => R27.Pair a b ha hb W
  have cw1 : ∀ W, Calls Tryd.prog 12 #[.agg a.cells.toArray] W fun e w' => e = .returned (R27.winV a) ∧ Below W.heap.size W w' := fun W => Apt.Window a ha W
  have cw2 := fun W => R27.Window a ha W
  obtain ⟨p, q, e0, hw⟩ := winV_form a
  rw [hw] at cw1 cw2
  clear hw
  generalize Apt.pairE a b = pe at *
  unfold RuleV.cells at *
  simp only [List.cons_append, List.nil_append, List.length_cons, List.length_nil, Nat.zero_add, Nat.reduceAdd] at cl
  have Cab := Lib.hid cab
  have Cab2 := Lib.hid cab2
  have Cw1 := Lib.hid cw1
  have Cw2 := Lib.hid cw2
  have HH := Lib.hid h
  have clv := fun W => lives W
  have Clv := Lib.hid clv
  clear cab cab2 cw1 cw2 h clv
  cases hl : Lgt.light [a, b]
  · rw [hl] at cl
    have Cl := Lib.hid cl
    clear cl hl
    go_enter Tryd.func3, Tryd.ntmps3
    go_upto_region 1 with fail
    obtain ⟨V, hV⟩ : ∃ V, V = (w.alloc (.cells #[.string a.name, .int .i64 a.fr, .int .i64 a.to, .int .i64 a.month, .int .i64 a.kind, .int .i64 a.week, .int .i64 a.day, .int .i64 a.sec, .int .i64 a.base, .int .i64 a.save, .string a.letter] 27)).alloc (.cells #[.string b.name, .int .i64 b.fr, .int .i64 b.to, .int .i64 b.month, .int .i64 b.kind, .int .i64 b.week, .int .i64 b.day, .int .i64 b.sec, .int .i64 b.base, .int .i64 b.save, .string b.letter] 27) := ⟨_, rfl⟩
    rw [← hV]
    obtain ⟨⟨v0, v1⟩, hB, hF⟩ := box2 hV
    clear hV
    obtain ⟨f0, f1, -⟩ := hF V (Below.refl _ _)
    clear hF
    go_wp2_with (first
      | (go_at_call 10; (with_reducible refine (Cl.out _).mono ?_); rintro e w1 ⟨rfl, hb1⟩; obtain ⟨hc1, hf1⟩ := bcell hb1)
      | (go_at_call 11; (with_reducible refine (Clv.out _).mono ?_); rintro e w2 ⟨rfl, hb2⟩; obtain ⟨hc2, hf2⟩ := bcell hb2))
    go_ret
    exact ⟨rfl, by repeat (first | (with_reducible exact Below.refl _ _) | (with_reducible assumption) | (with_reducible refine ba ?_) | (with_reducible refine bd ?_) | (with_reducible refine bdn ?_ _) | (with_reducible refine bset ?_ (by first | exact Nat.le_refl _ | omega | (simp; done) | (simp; omega))) | (with_reducible refine bt ?_ (by with_reducible assumption)))⟩
  rw [hl] at cl
  have Cl := Lib.hid cl
  clear cl hl
  cases hl : Lgt.light l
  · have Hl := Lib.hid hl
    clear hl
    go_enter Tryd.func3, Tryd.ntmps3
    go_upto_region 1 with fail
    obtain ⟨V, hV⟩ : ∃ V, V = (w.alloc (.cells #[.string a.name, .int .i64 a.fr, .int .i64 a.to, .int .i64 a.month, .int .i64 a.kind, .int .i64 a.week, .int .i64 a.day, .int .i64 a.sec, .int .i64 a.base, .int .i64 a.save, .string a.letter] 27)).alloc (.cells #[.string b.name, .int .i64 b.fr, .int .i64 b.to, .int .i64 b.month, .int .i64 b.kind, .int .i64 b.week, .int .i64 b.day, .int .i64 b.sec, .int .i64 b.base, .int .i64 b.save, .string b.letter] 27) := ⟨_, rfl⟩
    rw [← hV]
    obtain ⟨⟨v0, v1⟩, hB, hF⟩ := box2 hV
    clear hV
    obtain ⟨f0, f1, -⟩ := hF V (Below.refl _ _)
    clear hF
    go_wp2_with (first
      | (go_at_call 10; (with_reducible refine (Cl.out _).mono ?_); rintro e w1 ⟨rfl, hb1⟩; obtain ⟨hc1, hf1⟩ := bcell hb1)
      | (go_at_call 10; (with_reducible refine (Lgt.LightH (l := l) ?_).mono ?_); (· exact HH.out.later (by repeat (first | (with_reducible exact Below.refl _ _) | (with_reducible assumption) | (with_reducible refine ba ?_) | (with_reducible refine bd ?_) | (with_reducible refine bdn ?_ _) | (with_reducible refine bset ?_ (by first | exact Nat.le_refl _ | omega | (simp; done) | (simp; omega))) | (with_reducible refine bt ?_ (by with_reducible assumption))))); rw [Hl.out]; rintro e w3 ⟨rfl, hb3⟩)
      | (go_at_call 11; (with_reducible refine (Clv.out _).mono ?_); rintro e w2 ⟨rfl, hb2⟩; obtain ⟨hc2, hf2⟩ := bcell hb2))
    go_ret
    exact ⟨rfl, by repeat (first | (with_reducible exact Below.refl _ _) | (with_reducible assumption) | (with_reducible refine ba ?_) | (with_reducible refine bd ?_) | (with_reducible refine bdn ?_ _) | (with_reducible refine bset ?_ (by first | exact Nat.le_refl _ | omega | (simp; done) | (simp; omega))) | (with_reducible refine bt ?_ (by with_reducible assumption)))⟩
  · have hlen := Lgt.light_len hl
    have Hl := Lib.hid hl
    clear hl
    obtain ⟨X, hX⟩ : ∃ X, X = Chk.check l := ⟨_, rfl⟩
    have cc1 := fun W (h : Holds W v l) => Chk.CheckH h hlen
    have cc2 := fun W (h : Holds W v l) => R27.CheckH h
    rw [← hX] at cc1 cc2
    have Cc1 := Lib.hid cc1
    have Cc2 := Lib.hid cc2
    clear cc1 cc2 hX hlen
    go_enter Tryd.func3, Tryd.ntmps3
    go_upto_region 1 with fail
    obtain ⟨V, hV⟩ : ∃ V, V = (w.alloc (.cells #[.string a.name, .int .i64 a.fr, .int .i64 a.to, .int .i64 a.month, .int .i64 a.kind, .int .i64 a.week, .int .i64 a.day, .int .i64 a.sec, .int .i64 a.base, .int .i64 a.save, .string a.letter] 27)).alloc (.cells #[.string b.name, .int .i64 b.fr, .int .i64 b.to, .int .i64 b.month, .int .i64 b.kind, .int .i64 b.week, .int .i64 b.day, .int .i64 b.sec, .int .i64 b.base, .int .i64 b.save, .string b.letter] 27) := ⟨_, rfl⟩
    rw [← hV]
    obtain ⟨⟨v0, v1⟩, hB, hF⟩ := box2 hV
    clear hV
    obtain ⟨f0, f1, -⟩ := hF V (Below.refl _ _)
    clear hF
    go_upto_region 7 with (first
      | (go_at_call 10; (with_reducible refine (Cl.out _).mono ?_); rintro e w1 ⟨rfl, hb1⟩; obtain ⟨hc1, hf1⟩ := bcell hb1; have hc1_0 := fun o => hc1 (w.heap.size) o (by first | assumption | omega | (simp; done) | (simp; omega)); have hf1_0 := fun o => hf1 (w.heap.size) o (by first | assumption | omega | (simp; done) | (simp; omega)); have hc1_1 := fun o => hc1 (w.heap.size + 1) o (by first | assumption | omega | (simp; done) | (simp; omega)); have hf1_1 := fun o => hf1 (w.heap.size + 1) o (by first | assumption | omega | (simp; done) | (simp; omega)); clear hc1 hf1; have hz1_0 : w.heap.size < w1.heap.size := (by first | exact sz1 hb1 | exact sz2 hb1 | exact sz3 hb1 | (have := hb1.size; (try simp only [World.size_alloc, World.size_drew] at this); omega)); have hz1_1 : w.heap.size + 1 < w1.heap.size := (by first | exact sz1 hb1 | exact sz2 hb1 | exact sz3 hb1 | (have := hb1.size; (try simp only [World.size_alloc, World.size_drew] at this); omega)))
      | (go_at_call 10; (with_reducible refine (Lgt.LightH (l := l) ?_).mono ?_); (· exact HH.out.later (by repeat (first | (with_reducible exact Below.refl _ _) | (with_reducible assumption) | (with_reducible refine ba ?_) | (with_reducible refine bd ?_) | (with_reducible refine bdn ?_ _) | (with_reducible refine bset ?_ (by first | exact Nat.le_refl _ | omega | (simp; done) | (simp; omega))) | (with_reducible refine bt ?_ (by with_reducible assumption))))); rw [Hl.out]; rintro e w3 ⟨rfl, hb3⟩; obtain ⟨hc3, hf3⟩ := bcell hb3; have hc3_0 := fun o => hc3 (w.heap.size) o (by first | assumption | omega | (simp; done) | (simp; omega)); have hf3_0 := fun o => hf3 (w.heap.size) o (by first | assumption | omega | (simp; done) | (simp; omega)); have hc3_1 := fun o => hc3 (w.heap.size + 1) o (by first | assumption | omega | (simp; done) | (simp; omega)); have hf3_1 := fun o => hf3 (w.heap.size + 1) o (by first | assumption | omega | (simp; done) | (simp; omega)); clear hc3 hf3; have hz3_0 : w.heap.size < w3.heap.size := (by first | exact sz1 hb3 | exact sz2 hb3 | exact sz3 hb3 | (have := hb3.size; (try simp only [World.size_alloc, World.size_drew] at this); omega)); have hz3_1 : w.heap.size + 1 < w3.heap.size := (by first | exact sz1 hb3 | exact sz2 hb3 | exact sz3 hb3 | (have := hb3.size; (try simp only [World.size_alloc, World.size_drew] at this); omega)))
      | (go_at_call 12; (with_reducible refine (Cw1.out _).mono ?_); rintro e w4 ⟨rfl, hb4⟩; obtain ⟨hc4, hf4⟩ := bcell hb4; have hc4_0 := fun o => hc4 (w.heap.size) o (by first | assumption | omega | (simp; done) | (simp; omega)); have hf4_0 := fun o => hf4 (w.heap.size) o (by first | assumption | omega | (simp; done) | (simp; omega)); have hc4_1 := fun o => hc4 (w.heap.size + 1) o (by first | assumption | omega | (simp; done) | (simp; omega)); have hf4_1 := fun o => hf4 (w.heap.size + 1) o (by first | assumption | omega | (simp; done) | (simp; omega)); clear hc4 hf4; have hz4_0 : w.heap.size < w4.heap.size := (by first | exact sz1 hb4 | exact sz2 hb4 | exact sz3 hb4 | (have := hb4.size; (try simp only [World.size_alloc, World.size_drew] at this); omega)); have hz4_1 : w.heap.size + 1 < w4.heap.size := (by first | exact sz1 hb4 | exact sz2 hb4 | exact sz3 hb4 | (have := hb4.size; (try simp only [World.size_alloc, World.size_drew] at this); omega)))
      | (go_at_call 13; (with_reducible refine (Cw2.out _).mono ?_); rintro e w5 ⟨rfl, hb5⟩; obtain ⟨hc5, hf5⟩ := bcell hb5; have hc5_0 := fun o => hc5 (w.heap.size) o (by first | assumption | omega | (simp; done) | (simp; omega)); have hf5_0 := fun o => hf5 (w.heap.size) o (by first | assumption | omega | (simp; done) | (simp; omega)); have hc5_1 := fun o => hc5 (w.heap.size + 1) o (by first | assumption | omega | (simp; done) | (simp; omega)); have hf5_1 := fun o => hf5 (w.heap.size + 1) o (by first | assumption | omega | (simp; done) | (simp; omega)); clear hc5 hf5; have hz5_0 : w.heap.size < w5.heap.size := (by first | exact sz1 hb5 | exact sz2 hb5 | exact sz3 hb5 | (have := hb5.size; (try simp only [World.size_alloc, World.size_drew] at this); omega)); have hz5_1 : w.heap.size + 1 < w5.heap.size := (by first | exact sz1 hb5 | exact sz2 hb5 | exact sz3 hb5 | (have := hb5.size; (try simp only [World.size_alloc, World.size_drew] at this); omega)))
      | (go_at_call 14; (with_reducible refine (Cc1.out _ ?_).mono ?_); (· exact HH.out.later (by repeat (first | (with_reducible exact Below.refl _ _) | (with_reducible assumption) | (with_reducible refine ba ?_) | (with_reducible refine bd ?_) | (with_reducible refine bdn ?_ _) | (with_reducible refine bset ?_ (by first | exact Nat.le_refl _ | omega | (simp; done) | (simp; omega))) | (with_reducible refine bt ?_ (by with_reducible assumption))))); rintro e w6 ⟨rfl, hb6⟩; obtain ⟨hc6, hf6⟩ := bcell hb6; have hc6_0 := fun o => hc6 (w.heap.size) o (by first | assumption | omega | (simp; done) | (simp; omega)); have hf6_0 := fun o => hf6 (w.heap.size) o (by first | assumption | omega | (simp; done) | (simp; omega)); have hc6_1 := fun o => hc6 (w.heap.size + 1) o (by first | assumption | omega | (simp; done) | (simp; omega)); have hf6_1 := fun o => hf6 (w.heap.size + 1) o (by first | assumption | omega | (simp; done) | (simp; omega)); clear hc6 hf6; have hz6_0 : w.heap.size < w6.heap.size := (by first | exact sz1 hb6 | exact sz2 hb6 | exact sz3 hb6 | (have := hb6.size; (try simp only [World.size_alloc, World.size_drew] at this); omega)); have hz6_1 : w.heap.size + 1 < w6.heap.size := (by first | exact sz1 hb6 | exact sz2 hb6 | exact sz3 hb6 | (have := hb6.size; (try simp only [World.size_alloc, World.size_drew] at this); omega)))
      | (go_at_call 15; (with_reducible refine (Cc2.out _ ?_).mono ?_); (· exact HH.out.later (by repeat (first | (with_reducible exact Below.refl _ _) | (with_reducible assumption) | (with_reducible refine ba ?_) | (with_reducible refine bd ?_) | (with_reducible refine bdn ?_ _) | (with_reducible refine bset ?_ (by first | exact Nat.le_refl _ | omega | (simp; done) | (simp; omega))) | (with_reducible refine bt ?_ (by with_reducible assumption))))); rintro e w7 ⟨rfl, hb7⟩; obtain ⟨hc7, hf7⟩ := bcell hb7; have hc7_0 := fun o => hc7 (w.heap.size) o (by first | assumption | omega | (simp; done) | (simp; omega)); have hf7_0 := fun o => hf7 (w.heap.size) o (by first | assumption | omega | (simp; done) | (simp; omega)); have hc7_1 := fun o => hc7 (w.heap.size + 1) o (by first | assumption | omega | (simp; done) | (simp; omega)); have hf7_1 := fun o => hf7 (w.heap.size + 1) o (by first | assumption | omega | (simp; done) | (simp; omega)); clear hc7 hf7; have hz7_0 : w.heap.size < w7.heap.size := (by first | exact sz1 hb7 | exact sz2 hb7 | exact sz3 hb7 | (have := hb7.size; (try simp only [World.size_alloc, World.size_drew] at this); omega)); have hz7_1 : w.heap.size + 1 < w7.heap.size := (by first | exact sz1 hb7 | exact sz2 hb7 | exact sz3 hb7 | (have := hb7.size; (try simp only [World.size_alloc, World.size_drew] at this); omega))))
    (refine region_later (by kernel_rfl) (by kernel_rfl) ?_; (repeat (go_big_quiet_step (first | (go_at_call 16; rename_i xL; apply calls_later xL (Nat.le_refl _); exact (Cab.out _)) | (go_at_call 17; rename_i xL; apply calls_later xL (Nat.le_refl _); exact (Cab2.out _)) | (go_at_call 11; rename_i xL; apply calls_later xL (Nat.le_refl _); exact (Clv.out _))))); refine wpQuiet_nil ?_; rintro _ ⟨⟨u8, hu8⟩, rfl⟩)
    go_wp2
    go_ret
    exact ⟨rfl, by repeat (first | (with_reducible exact Below.refl _ _) | (with_reducible assumption) | (with_reducible refine ba ?_) | (with_reducible refine bd ?_) | (with_reducible refine bdn ?_ _) | (with_reducible refine bset ?_ (by first | exact Nat.le_refl _ | omega | (simp; done) | (simp; omega))) | (with_reducible refine bt ?_ (by with_reducible assumption)))⟩
end L27
end Go.Proofs.YtopdjebnfhfpcaaDoor
