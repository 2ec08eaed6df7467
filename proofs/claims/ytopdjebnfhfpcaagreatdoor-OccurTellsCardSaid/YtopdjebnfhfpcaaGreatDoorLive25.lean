/-
  noontidelaw25.lives.
-/
import Derived.Test.YtopdjebnfhfpcaaGreatDoorIn
import Derived.Test.YtopdjebnfhfpcaaGreatDoorUsB
import Derived.Test.YtopdjebnfhfpcaaGreatDoorNew
import Derived.Test.YtopdjebnfhfpcaaGreatDoorLex

namespace Go.Proofs.YtopdjebnfhfpcaaGreatDoor
open Go.RowKit NB Nxt
namespace L25
theorem n1 : Occ.nextO [Us.eu] ⟨#[69, 85]⟩ ⟨0, 0, 1711846800⟩ = some ⟨0, 2025, 1743296400⟩ := by decide +kernel
theorem p1 : Occ.prevO [Us.eu] ⟨#[69, 85]⟩ ⟨0, 2025, 1743296400⟩ = some ⟨0, 2024, 1711846800⟩ := by decide +kernel
theorem p2 : Occ.prevO [Us.eu] ⟨#[69, 85]⟩ ⟨0, 0, 0⟩ = none := by decide +kernel
theorem n2 : Occ.nextO [Us.eu] ⟨#[85, 83]⟩ ⟨0, 0, 0⟩ = none := by decide +kernel
theorem n3 : Occ.nextO [Us.eu] ⟨#[69, 85]⟩ ⟨0, 0, -9223372036854775808⟩ = some ⟨0, 1981, 354675600⟩ := by decide +kernel
theorem p3 : Occ.prevO [Us.eu] ⟨#[69, 85]⟩ ⟨0, 0, 9223372036854775807⟩ = some ⟨0, 32767, 971866688400⟩ := by decide +kernel
theorem i1 : All.inO [Us.eu] ⟨#[69, 85]⟩ 1711846800 1900000000 2 = [⟨0, 2024, 1711846800⟩, ⟨0, 2025, 1743296400⟩] := by decide +kernel
theorem m1 : Nom.nomE Us.eu 2024 = (1711846800, 0) := by decide +kernel
theorem m2 : Nom.nomE Us.eu 1980 = (0, 1) := by decide +kernel
theorem m3 : Nom.nomE Us.zero 0 = (0, 4) := by decide +kernel
set_option maxRecDepth 100000 in
set_option maxHeartbeats 3200000 in
theorem lives (w : World) : Calls Tryz.prog 6 #[] w fun e w' => e = .returned (.bool true) ∧ Below w.heap.size w w' := by
  have ceu := fun W => Us.Eu W
  have cm1 := fun W => Nom.Nom Us.eu Us.fit_eu 2024 W
  have cm2 := fun W => Nom.Nom Us.eu Us.fit_eu 1980 W
  have cm3 := fun W => Nom.Nom Us.zero Us.fit_zero 0 W
  rw [m1] at cm1
  rw [m2] at cm2
  rw [m3] at cm3
  unfold Us.eu RuleV.cells at ceu cm1 cm2
  unfold Us.zero RuleV.cells at cm3
  have Ceu := Lib.hid ceu
  have Cm1 := Lib.hid cm1
  have Cm2 := Lib.hid cm2
  have Cm3 := Lib.hid cm3
  clear ceu cm1 cm2 cm3
  go_enter Tryz.func6, Tryz.ntmps6
  go_upto_region 2 with (go_at_call 29; refine (Ceu.out _).mono ?_; rintro e w1 ⟨rfl, hb1⟩)
  obtain ⟨p, hp⟩ : ∃ p, p = w1.heap.size := ⟨_, rfl⟩
  obtain ⟨V, hV⟩ : ∃ V, V = w1.alloc (.cells #[.string ⟨#[69, 85]⟩, .int .i64 1981, .int .i64 32767, .int .i64 3, .int .i64 1, .int .i64 0, .int .i64 0, .int .i64 3600, .int .i64 2, .int .i64 3600, .string ⟨#[83]⟩] 34) := ⟨_, rfl⟩
  have hH : Holds V (.slice (some ⟨p, 0, none⟩) 1 1) [Us.eu] := by
    rw [hV, hp]
    exact Nw.holds_new w1 [Us.eu] _ _ 1 1 rfl rfl (fun r hr => by rw [List.mem_singleton] at hr; subst hr; exact Us.fit_eu) (by simp)
  have hpV : p < V.heap.size := by rw [hV, hp]; simp
  have hcV : ∀ o, V.cell? ⟨p, o, none⟩ = (#[.string ⟨#[69, 85]⟩, .int .i64 1981, .int .i64 32767, .int .i64 3, .int .i64 1, .int .i64 0, .int .i64 0, .int .i64 3600, .int .i64 2, .int .i64 3600, .string ⟨#[83]⟩] : Array Value)[o]? := by rw [hV, hp]; exact new_cell _ _ _
  have hB0 : Below w.heap.size w V := by rw [hV]; exact ba hb1
  rw [← hp, ← hV]
  clear hV hp hb1
  have HB0 := Lib.hid hB0
  clear hB0
  have HH := Lib.hid hH
  clear hH
  have cn1 := fun W (h : Holds W (.slice (some ⟨p, 0, none⟩) 1 1) [Us.eu]) => NxH.Next h ⟨#[69, 85]⟩ ⟨0, 0, 1711846800⟩
  have cn2 := fun W (h : Holds W (.slice (some ⟨p, 0, none⟩) 1 1) [Us.eu]) => NxH.Next h ⟨#[85, 83]⟩ ⟨0, 0, 0⟩
  have cn3 := fun W (h : Holds W (.slice (some ⟨p, 0, none⟩) 1 1) [Us.eu]) => NxH.Next h ⟨#[69, 85]⟩ ⟨0, 0, -9223372036854775808⟩
  have cp1 := fun W (h : Holds W (.slice (some ⟨p, 0, none⟩) 1 1) [Us.eu]) => NxH.Prev h ⟨#[69, 85]⟩ ⟨0, 2025, 1743296400⟩
  have cp2 := fun W (h : Holds W (.slice (some ⟨p, 0, none⟩) 1 1) [Us.eu]) => NxH.Prev h ⟨#[69, 85]⟩ ⟨0, 0, 0⟩
  have cp3 := fun W (h : Holds W (.slice (some ⟨p, 0, none⟩) 1 1) [Us.eu]) => NxH.Prev h ⟨#[69, 85]⟩ ⟨0, 0, 9223372036854775807⟩
  rw [n1] at cn1
  rw [n2] at cn2
  rw [n3] at cn3
  rw [p1] at cp1
  rw [p2] at cp2
  rw [p3] at cp3
  unfold optV OccV.cells at cn1 cn2 cn3 cp1 cp2 cp3
  simp only at cn1 cn2 cn3 cp1 cp2 cp3
  have Cn1 := Lib.hid cn1
  have Cn2 := Lib.hid cn2
  have Cn3 := Lib.hid cn3
  have Cp1 := Lib.hid cp1
  have Cp2 := Lib.hid cp2
  have Cp3 := Lib.hid cp3
  clear cn1 cn2 cn3 cp1 cp2 cp3
  go_upto_region 11 with (first
    | (go_at_call 7; (with_reducible refine (Cm1.out _).mono ?_); rintro e w2 ⟨rfl, hb2⟩; obtain ⟨hc2, hf2⟩ := bcell hb2; have hc2_0 := fun o => hc2 (p) o (by first | assumption | omega | (simp; done) | (simp; omega)); have hf2_0 := fun o => hf2 (p) o (by first | assumption | omega | (simp; done) | (simp; omega)); clear hc2 hf2; have hz2_0 : p < w2.heap.size := (by first | exact sz1 hb2 | exact sz2 hb2 | exact sz3 hb2 | (have := hb2.size; (try simp only [World.size_alloc, World.size_drew] at this); omega)))
    | (go_at_call 7; (with_reducible refine (Cm2.out _).mono ?_); rintro e w3 ⟨rfl, hb3⟩; obtain ⟨hc3, hf3⟩ := bcell hb3; have hc3_0 := fun o => hc3 (p) o (by first | assumption | omega | (simp; done) | (simp; omega)); have hf3_0 := fun o => hf3 (p) o (by first | assumption | omega | (simp; done) | (simp; omega)); clear hc3 hf3; have hz3_0 : p < w3.heap.size := (by first | exact sz1 hb3 | exact sz2 hb3 | exact sz3 hb3 | (have := hb3.size; (try simp only [World.size_alloc, World.size_drew] at this); omega)))
    | (go_at_call 7; (with_reducible refine (Cm3.out _).mono ?_); rintro e w4 ⟨rfl, hb4⟩; obtain ⟨hc4, hf4⟩ := bcell hb4; have hc4_0 := fun o => hc4 (p) o (by first | assumption | omega | (simp; done) | (simp; omega)); have hf4_0 := fun o => hf4 (p) o (by first | assumption | omega | (simp; done) | (simp; omega)); clear hc4 hf4; have hz4_0 : p < w4.heap.size := (by first | exact sz1 hb4 | exact sz2 hb4 | exact sz3 hb4 | (have := hb4.size; (try simp only [World.size_alloc, World.size_drew] at this); omega)))
    | (go_at_call 9; (with_reducible refine (Cn1.out _ ?_).mono ?_); (· exact HH.out.later (by repeat (first | (with_reducible exact Below.refl _ _) | (with_reducible assumption) | (with_reducible refine ba ?_) | (with_reducible refine bd ?_) | (with_reducible refine bdn ?_ _) | (with_reducible refine bset ?_ (by first | exact Nat.le_refl _ | omega | (simp; done) | (simp; omega))) | (with_reducible refine bt ?_ (by with_reducible assumption))))); rintro e w5 ⟨rfl, hb5⟩; obtain ⟨hc5, hf5⟩ := bcell hb5; have hc5_0 := fun o => hc5 (p) o (by first | assumption | omega | (simp; done) | (simp; omega)); have hf5_0 := fun o => hf5 (p) o (by first | assumption | omega | (simp; done) | (simp; omega)); clear hc5 hf5; have hz5_0 : p < w5.heap.size := (by first | exact sz1 hb5 | exact sz2 hb5 | exact sz3 hb5 | (have := hb5.size; (try simp only [World.size_alloc, World.size_drew] at this); omega)))
    | (go_at_call 11; (with_reducible refine (Cp1.out _ ?_).mono ?_); (· exact HH.out.later (by repeat (first | (with_reducible exact Below.refl _ _) | (with_reducible assumption) | (with_reducible refine ba ?_) | (with_reducible refine bd ?_) | (with_reducible refine bdn ?_ _) | (with_reducible refine bset ?_ (by first | exact Nat.le_refl _ | omega | (simp; done) | (simp; omega))) | (with_reducible refine bt ?_ (by with_reducible assumption))))); rintro e w6 ⟨rfl, hb6⟩; obtain ⟨hc6, hf6⟩ := bcell hb6; have hc6_0 := fun o => hc6 (p) o (by first | assumption | omega | (simp; done) | (simp; omega)); have hf6_0 := fun o => hf6 (p) o (by first | assumption | omega | (simp; done) | (simp; omega)); have hc6_1 := fun o => hc6 (w5.heap.size) o (by first | assumption | omega | (simp; done) | (simp; omega)); have hf6_1 := fun o => hf6 (w5.heap.size) o (by first | assumption | omega | (simp; done) | (simp; omega)); clear hc6 hf6; have hz6_0 : p < w6.heap.size := (by first | exact sz1 hb6 | exact sz2 hb6 | exact sz3 hb6 | (have := hb6.size; (try simp only [World.size_alloc, World.size_drew] at this); omega)); have hz6_1 : w5.heap.size < w6.heap.size := (by first | exact sz1 hb6 | exact sz2 hb6 | exact sz3 hb6 | (have := hb6.size; (try simp only [World.size_alloc, World.size_drew] at this); omega)))
    | (go_at_call 11; (with_reducible refine (Cp2.out _ ?_).mono ?_); (· exact HH.out.later (by repeat (first | (with_reducible exact Below.refl _ _) | (with_reducible assumption) | (with_reducible refine ba ?_) | (with_reducible refine bd ?_) | (with_reducible refine bdn ?_ _) | (with_reducible refine bset ?_ (by first | exact Nat.le_refl _ | omega | (simp; done) | (simp; omega))) | (with_reducible refine bt ?_ (by with_reducible assumption))))); rintro e w7 ⟨rfl, hb7⟩; obtain ⟨hc7, hf7⟩ := bcell hb7; have hc7_0 := fun o => hc7 (p) o (by first | assumption | omega | (simp; done) | (simp; omega)); have hf7_0 := fun o => hf7 (p) o (by first | assumption | omega | (simp; done) | (simp; omega)); have hc7_1 := fun o => hc7 (w5.heap.size) o (by first | assumption | omega | (simp; done) | (simp; omega)); have hf7_1 := fun o => hf7 (w5.heap.size) o (by first | assumption | omega | (simp; done) | (simp; omega)); have hc7_2 := fun o => hc7 (w6.heap.size) o (by first | assumption | omega | (simp; done) | (simp; omega)); have hf7_2 := fun o => hf7 (w6.heap.size) o (by first | assumption | omega | (simp; done) | (simp; omega)); clear hc7 hf7; have hz7_0 : p < w7.heap.size := (by first | exact sz1 hb7 | exact sz2 hb7 | exact sz3 hb7 | (have := hb7.size; (try simp only [World.size_alloc, World.size_drew] at this); omega)); have hz7_1 : w5.heap.size < w7.heap.size := (by first | exact sz1 hb7 | exact sz2 hb7 | exact sz3 hb7 | (have := hb7.size; (try simp only [World.size_alloc, World.size_drew] at this); omega)); have hz7_2 : w6.heap.size < w7.heap.size := (by first | exact sz1 hb7 | exact sz2 hb7 | exact sz3 hb7 | (have := hb7.size; (try simp only [World.size_alloc, World.size_drew] at this); omega)))
    | (go_at_call 9; (with_reducible refine (Cn2.out _ ?_).mono ?_); (· exact HH.out.later (by repeat (first | (with_reducible exact Below.refl _ _) | (with_reducible assumption) | (with_reducible refine ba ?_) | (with_reducible refine bd ?_) | (with_reducible refine bdn ?_ _) | (with_reducible refine bset ?_ (by first | exact Nat.le_refl _ | omega | (simp; done) | (simp; omega))) | (with_reducible refine bt ?_ (by with_reducible assumption))))); rintro e w8 ⟨rfl, hb8⟩; obtain ⟨hc8, hf8⟩ := bcell hb8; have hc8_0 := fun o => hc8 (p) o (by first | assumption | omega | (simp; done) | (simp; omega)); have hf8_0 := fun o => hf8 (p) o (by first | assumption | omega | (simp; done) | (simp; omega)); have hc8_1 := fun o => hc8 (w5.heap.size) o (by first | assumption | omega | (simp; done) | (simp; omega)); have hf8_1 := fun o => hf8 (w5.heap.size) o (by first | assumption | omega | (simp; done) | (simp; omega)); have hc8_2 := fun o => hc8 (w6.heap.size) o (by first | assumption | omega | (simp; done) | (simp; omega)); have hf8_2 := fun o => hf8 (w6.heap.size) o (by first | assumption | omega | (simp; done) | (simp; omega)); clear hc8 hf8; have hz8_0 : p < w8.heap.size := (by first | exact sz1 hb8 | exact sz2 hb8 | exact sz3 hb8 | (have := hb8.size; (try simp only [World.size_alloc, World.size_drew] at this); omega)); have hz8_1 : w5.heap.size < w8.heap.size := (by first | exact sz1 hb8 | exact sz2 hb8 | exact sz3 hb8 | (have := hb8.size; (try simp only [World.size_alloc, World.size_drew] at this); omega)); have hz8_2 : w6.heap.size < w8.heap.size := (by first | exact sz1 hb8 | exact sz2 hb8 | exact sz3 hb8 | (have := hb8.size; (try simp only [World.size_alloc, World.size_drew] at this); omega)))
    | (go_at_call 9; (with_reducible refine (Cn3.out _ ?_).mono ?_); (· exact HH.out.later (by repeat (first | (with_reducible exact Below.refl _ _) | (with_reducible assumption) | (with_reducible refine ba ?_) | (with_reducible refine bd ?_) | (with_reducible refine bdn ?_ _) | (with_reducible refine bset ?_ (by first | exact Nat.le_refl _ | omega | (simp; done) | (simp; omega))) | (with_reducible refine bt ?_ (by with_reducible assumption))))); rintro e w9 ⟨rfl, hb9⟩; obtain ⟨hc9, hf9⟩ := bcell hb9; have hc9_0 := fun o => hc9 (p) o (by first | assumption | omega | (simp; done) | (simp; omega)); have hf9_0 := fun o => hf9 (p) o (by first | assumption | omega | (simp; done) | (simp; omega)); have hc9_1 := fun o => hc9 (w5.heap.size) o (by first | assumption | omega | (simp; done) | (simp; omega)); have hf9_1 := fun o => hf9 (w5.heap.size) o (by first | assumption | omega | (simp; done) | (simp; omega)); have hc9_2 := fun o => hc9 (w6.heap.size) o (by first | assumption | omega | (simp; done) | (simp; omega)); have hf9_2 := fun o => hf9 (w6.heap.size) o (by first | assumption | omega | (simp; done) | (simp; omega)); clear hc9 hf9; have hz9_0 : p < w9.heap.size := (by first | exact sz1 hb9 | exact sz2 hb9 | exact sz3 hb9 | (have := hb9.size; (try simp only [World.size_alloc, World.size_drew] at this); omega)); have hz9_1 : w5.heap.size < w9.heap.size := (by first | exact sz1 hb9 | exact sz2 hb9 | exact sz3 hb9 | (have := hb9.size; (try simp only [World.size_alloc, World.size_drew] at this); omega)); have hz9_2 : w6.heap.size < w9.heap.size := (by first | exact sz1 hb9 | exact sz2 hb9 | exact sz3 hb9 | (have := hb9.size; (try simp only [World.size_alloc, World.size_drew] at this); omega)))
    | (go_at_call 11; (with_reducible refine (Cp3.out _ ?_).mono ?_); (· exact HH.out.later (by repeat (first | (with_reducible exact Below.refl _ _) | (with_reducible assumption) | (with_reducible refine ba ?_) | (with_reducible refine bd ?_) | (with_reducible refine bdn ?_ _) | (with_reducible refine bset ?_ (by first | exact Nat.le_refl _ | omega | (simp; done) | (simp; omega))) | (with_reducible refine bt ?_ (by with_reducible assumption))))); rintro e w10 ⟨rfl, hb10⟩; obtain ⟨hc10, hf10⟩ := bcell hb10; have hc10_0 := fun o => hc10 (p) o (by first | assumption | omega | (simp; done) | (simp; omega)); have hf10_0 := fun o => hf10 (p) o (by first | assumption | omega | (simp; done) | (simp; omega)); have hc10_1 := fun o => hc10 (w5.heap.size) o (by first | assumption | omega | (simp; done) | (simp; omega)); have hf10_1 := fun o => hf10 (w5.heap.size) o (by first | assumption | omega | (simp; done) | (simp; omega)); have hc10_2 := fun o => hc10 (w6.heap.size) o (by first | assumption | omega | (simp; done) | (simp; omega)); have hf10_2 := fun o => hf10 (w6.heap.size) o (by first | assumption | omega | (simp; done) | (simp; omega)); have hc10_3 := fun o => hc10 (w9.heap.size) o (by first | assumption | omega | (simp; done) | (simp; omega)); have hf10_3 := fun o => hf10 (w9.heap.size) o (by first | assumption | omega | (simp; done) | (simp; omega)); clear hc10 hf10; have hz10_0 : p < w10.heap.size := (by first | exact sz1 hb10 | exact sz2 hb10 | exact sz3 hb10 | (have := hb10.size; (try simp only [World.size_alloc, World.size_drew] at this); omega)); have hz10_1 : w5.heap.size < w10.heap.size := (by first | exact sz1 hb10 | exact sz2 hb10 | exact sz3 hb10 | (have := hb10.size; (try simp only [World.size_alloc, World.size_drew] at this); omega)); have hz10_2 : w6.heap.size < w10.heap.size := (by first | exact sz1 hb10 | exact sz2 hb10 | exact sz3 hb10 | (have := hb10.size; (try simp only [World.size_alloc, World.size_drew] at this); omega)); have hz10_3 : w9.heap.size < w10.heap.size := (by first | exact sz1 hb10 | exact sz2 hb10 | exact sz3 hb10 | (have := hb10.size; (try simp only [World.size_alloc, World.size_drew] at this); omega))))
  have S5 : w5.heap.size < w6.heap.size := sz1 hb6
  have S6 : w6.heap.size < w7.heap.size := sz1 hb7
  have S7 : w7.heap.size < w8.heap.size := sz1 hb8
  have S8 : w8.heap.size < w9.heap.size := sz1 hb9
  have S9 : w9.heap.size < w10.heap.size := sz1 hb10
  obtain ⟨X, hX⟩ : ∃ X, X = w10.alloc (.cells #[.int .i64 0, .int .i64 32767, .int .i64 971866688400] 24) := ⟨_, rfl⟩
  have hXs : X.heap.size = w10.heap.size + 1 := by rw [hX]; simp
  have hBX : Below V.heap.size V X := by rw [hX]; repeat (first | (with_reducible exact Below.refl _ _) | (with_reducible assumption) | (with_reducible refine ba ?_) | (with_reducible refine bd ?_) | (with_reducible refine bdn ?_ _) | (with_reducible refine bset ?_ (by first | exact Nat.le_refl _ | omega | (simp; done) | (simp; omega))) | (with_reducible refine bt ?_ (by with_reducible assumption)))
  have bA : Box X w5.heap.size #[.int .i64 0, .int .i64 2025, .int .i64 1743296400] 24 := by rw [hX]; repeat (first | (with_reducible assumption) | (with_reducible exact Box.new _ _ _) | (with_reducible refine Box.old ?_) | (with_reducible refine Box.drew ?_) | (with_reducible refine Box.drewN ?_ _) | (with_reducible refine Box.other ?_ (by first | assumption | omega | (simp; omega))) | (with_reducible refine Box.later ?_ (by with_reducible assumption)))
  have bB : Box X w6.heap.size #[.int .i64 0, .int .i64 2024, .int .i64 1711846800] 24 := by rw [hX]; repeat (first | (with_reducible assumption) | (with_reducible exact Box.new _ _ _) | (with_reducible refine Box.old ?_) | (with_reducible refine Box.drew ?_) | (with_reducible refine Box.drewN ?_ _) | (with_reducible refine Box.other ?_ (by first | assumption | omega | (simp; omega))) | (with_reducible refine Box.later ?_ (by with_reducible assumption)))
  have bC : Box X w9.heap.size #[.int .i64 0, .int .i64 1981, .int .i64 354675600] 24 := by rw [hX]; repeat (first | (with_reducible assumption) | (with_reducible exact Box.new _ _ _) | (with_reducible refine Box.old ?_) | (with_reducible refine Box.drew ?_) | (with_reducible refine Box.drewN ?_ _) | (with_reducible refine Box.other ?_ (by first | assumption | omega | (simp; omega))) | (with_reducible refine Box.later ?_ (by with_reducible assumption)))
  have bD : Box X w10.heap.size #[.int .i64 0, .int .i64 32767, .int .i64 971866688400] 24 := by rw [hX]; repeat (first | (with_reducible assumption) | (with_reducible exact Box.new _ _ _) | (with_reducible refine Box.old ?_) | (with_reducible refine Box.drew ?_) | (with_reducible refine Box.drewN ?_ _) | (with_reducible refine Box.other ?_ (by first | assumption | omega | (simp; omega))) | (with_reducible refine Box.later ?_ (by with_reducible assumption)))
  rw [← hX]
  generalize w5.heap.size = q5 at *
  generalize w6.heap.size = q6 at *
  generalize w7.heap.size = q7 at *
  generalize w8.heap.size = q8 at *
  generalize w9.heap.size = q9 at *
  generalize w10.heap.size = q10 at *
  have hHX := HH.out.later hBX
  have HB1 := Lib.hid (HB0.out.trans (hBX.mono HB0.out.size))
  have ci := All.In hHX ⟨#[69, 85]⟩ 1711846800 1900000000 2 (by omega)
  rw [i1] at ci
  clear hc2_0 hf2_0 hb2 hc3_0 hf3_0 hb3 hc4_0 hf4_0 hb4 hc5_0 hf5_0 hb5 hc6_0 hf6_0 hc6_1 hf6_1 hb6 hc7_0 hf7_0 hc7_1 hf7_1 hc7_2 hf7_2 hb7 hc8_0 hf8_0 hc8_1 hf8_1 hc8_2 hf8_2 hb8 hc9_0 hf9_0 hc9_1 hf9_1 hc9_2 hf9_2 hb9 hc10_0 hf10_0 hc10_1 hf10_1 hc10_2 hf10_2 hc10_3 hf10_3 hb10
  have g5 := bA.lt
  have g6 := bB.lt
  have g9 := bC.lt
  have g10 := bD.lt
  have HA := Lib.hid bA
  have HB := Lib.hid bB
  have HC := Lib.hid bC
  have HD := Lib.hid bD
  clear bA bB bC bD hX
  go_upto_region 12 with (go_at_call 16; refine ci.mono ?_; rintro e w11 ⟨ev, rfl, hrow, hb11⟩)
  obtain ⟨g, ⟨cap, rfl⟩, hg1, hg2, hgc⟩ := Grp.own_cell (j := 0) hrow (by decide)
  have a0 := (HA.out.later hb11).cell 0
  have a1 := (HA.out.later hb11).cell 1
  have a2 := (HA.out.later hb11).cell 2
  have b0 := (HB.out.later hb11).cell 0
  have b1 := (HB.out.later hb11).cell 1
  have b2 := (HB.out.later hb11).cell 2
  have d0 := (HC.out.later hb11).cell 1
  have d1 := (HD.out.later hb11).cell 1
  have x0 := hgc 0 _ rfl
  have x1 := hgc 1 _ rfl
  have x2 := hgc 2 _ rfl
  have x3 := hgc 3 _ rfl
  have x4 := hgc 4 _ rfl
  have x5 := hgc 5 _ rfl
  have z := hb11.size
  have k5 : q5 < w11.heap.size := Nat.lt_of_lt_of_le g5 z
  have k6 : q6 < w11.heap.size := Nat.lt_of_lt_of_le g6 z
  have k9 : q9 < w11.heap.size := Nat.lt_of_lt_of_le g9 z
  have k10 : q10 < w11.heap.size := Nat.lt_of_lt_of_le g10 z
  have HB2 := Lib.hid (HB1.out.trans (hb11.mono HB1.out.size))
  have zw := HB2.out.size
  have cl1 := fun W => Cmp.Less ⟨1, 0, 0⟩ ⟨2, 0, 0⟩ W
  have cl2 := fun W => Cmp.Less ⟨5, 0, 1⟩ ⟨0, 0, 2⟩ W
  have cl3 := fun W => Cmp.Less ⟨0, 2025, 1743296400⟩ ⟨0, 2025, 1743296400⟩ W
  rw [show Occ.less ⟨1, 0, 0⟩ ⟨2, 0, 0⟩ = true by decide] at cl1
  rw [show Occ.less ⟨5, 0, 1⟩ ⟨0, 0, 2⟩ = true by decide] at cl2
  rw [show Occ.less ⟨0, 2025, 1743296400⟩ ⟨0, 2025, 1743296400⟩ = false by decide] at cl3
  unfold OccV.cells at cl1 cl2 cl3
  have ci0 : ∀ W : World, Calls Tryz.prog 16 #[.slice (some ⟨p, 0, none⟩) 1 1, .string ⟨#[69, 85]⟩, .agg #[.int .i64 0, .int .i64 0], .int .i64 9] W fun e w' => e = .returned (.slice none 0 0) ∧ Below W.heap.size W w' := fun W => All.inNil (some ⟨p, 0, none⟩) 1 1 ⟨#[69, 85]⟩ 0 0 9 W (Or.inl (by decide))
  have Ci0 := Lib.hid ci0
  have Cl1 := Lib.hid cl1
  have Cl2 := Lib.hid cl2
  have Cl3 := Lib.hid cl3
  clear cl1 cl2 cl3 ci0 hb11 hrow hgc ci HA HB HC HD HB1 hHX hBX HH
  (dsimp only [List.append_eq, List.cons_append, List.nil_append]; refine region_later (by kernel_rfl) (Lex.lexB_of (by kernel_rfl) (by kernel_rfl)) ?_; (repeat (go_big_quiet_step (first | (go_at_call 16; rename_i xL; apply calls_later xL (Nat.le_refl _); exact (Ci0.out _)) | (go_at_call 13; rename_i xL; with_reducible first | exact calls_later xL (Nat.le_refl _) (Cl1.out _) | exact calls_later xL (Nat.le_refl _) (Cl2.out _) | exact calls_later xL (Nat.le_refl _) (Cl3.out _))))); refine wpQuiet_nil ?_; rintro _ ⟨⟨u12, hu12⟩, rfl⟩)
  go_wp2
  go_ret
  exact ⟨rfl, HB2.out.trans (hu12.mono zw)⟩
end L25
end Go.Proofs.YtopdjebnfhfpcaaGreatDoor
