/-
  noontidelaw26.ChainTells: the walk.
-/
import Derived.Test.YtopdjebnfhfpcaaGreatDoorLive26
import Derived.Test.YtopdjebnfhfpcaaGreatDoorRChain
import Derived.Test.YtopdjebnfhfpcaaGreatDoorOpenO
namespace Go.Proofs.YtopdjebnfhfpcaaGreatDoor
open Go.RowKit NB Nxt
namespace L26
set_option maxRecDepth 100000 in
theorem tells0 {w : World} {v : Value} {l : List RuleV} (h : Holds w v l) (name : ByteArray) (off : Int) (o : OccV) (t base : Int) (hl : Lgt.light l = false) :
    Calls Tryz.prog 4 #[v, .string name, .int .i64 off, .agg o.cells.toArray, .int .i64 t, .int .i64 base] w fun e w' => e = .returned (.bool true) ∧ Below w.heap.size w w' := by
  have clv := fun W => lives W
  have cl := fun W (h : Holds W v l) => Lgt.LightH h
  rw [hl] at cl
  have HH := Lib.hid h
  have Clv := Lib.hid clv
  have Cl := Lib.hid cl
  unfold OccV.cells
  clear h clv cl
  go_enter Tryz.func4, Tryz.ntmps4
  go_wp2_with (first
    | (go_at_call 18; (with_reducible refine (Clv.out _).mono ?_); rintro e w1 ⟨rfl, hb1⟩; obtain ⟨hc1, hf1⟩ := bcell hb1; have hc1_0 := fun o => hc1 (w.heap.size) o (by first | assumption | omega | (simp; done) | (simp; omega)); have hf1_0 := fun o => hf1 (w.heap.size) o (by first | assumption | omega | (simp; done) | (simp; omega)); clear hc1 hf1; have hz1_0 : w.heap.size < w1.heap.size := (by first | exact sz1 hb1 | exact sz2 hb1 | exact sz3 hb1 | (have := hb1.size; (try simp only [World.size_alloc, World.size_drew] at this); omega)))
    | (go_at_call 5; (with_reducible refine (Cl.out _ ?_).mono ?_); (· exact HH.out.later (by repeat (first | (with_reducible exact Below.refl _ _) | (with_reducible assumption) | (with_reducible refine ba ?_) | (with_reducible refine bd ?_) | (with_reducible refine bdn ?_ _) | (with_reducible refine bset ?_ (by first | exact Nat.le_refl _ | omega | (simp; done) | (simp; omega))) | (with_reducible refine bt ?_ (by with_reducible assumption))))); rintro e w2 ⟨rfl, hb2⟩; obtain ⟨hc2, hf2⟩ := bcell hb2; have hc2_0 := fun o => hc2 (w.heap.size) o (by first | assumption | omega | (simp; done) | (simp; omega)); have hf2_0 := fun o => hf2 (w.heap.size) o (by first | assumption | omega | (simp; done) | (simp; omega)); clear hc2 hf2; have hz2_0 : w.heap.size < w2.heap.size := (by first | exact sz1 hb2 | exact sz2 hb2 | exact sz3 hb2 | (have := hb2.size; (try simp only [World.size_alloc, World.size_drew] at this); omega))))
  go_ret
  exact ⟨rfl, by repeat (first | (with_reducible exact Below.refl _ _) | (with_reducible assumption) | (with_reducible refine ba ?_) | (with_reducible refine bd ?_) | (with_reducible refine bdn ?_ _) | (with_reducible refine bset ?_ (by first | exact Nat.le_refl _ | omega | (simp; done) | (simp; omega))) | (with_reducible refine bt ?_ (by with_reducible assumption)))⟩
set_option maxRecDepth 100000 in
set_option maxHeartbeats 6400000 in
theorem tells1 {w : World} {v : Value} {l : List RuleV} (h : Holds w v l) (name : ByteArray) (off : Int) (o : OccV) (ho : I64 o.nom) (t base : Int) (hl : Lgt.light l = true) :
    Calls Tryz.prog 4 #[v, .string name, .int .i64 off, .agg o.cells.toArray, .int .i64 t, .int .i64 base] w fun e w' => e = .returned (.bool true) ∧ Below w.heap.size w w' := by
  have clv := fun W => lives W
  have cl := fun W (h : Holds W v l) => Lgt.LightH h
  rw [hl] at cl
  have ci := fun W (h : Holds W v l) => ChW.Instant h name off o
  have ri := fun W (h : Holds W v l) => RCh.Instant h name off o
  have ca := fun W (h : Holds W v l) => ChW.Last h name off t
  have ra := fun W (h : Holds W v l) => RCh.Last h name off t
  have cb := fun W (h : Holds W v l) => ChW.After h name off t
  have rb := fun W (h : Holds W v l) => RCh.After h name off t
  have ck := fun W (h : Holds W v l) => ChW.Clock h name off t base
  have rk := fun W (h : Holds W v l) => RCh.Clock h name off t base
  have cs := fun W (h : Holds W v l) => ChW.Saved h name o
  have rs := fun W (h : Holds W v l) => RCh.Saved h name o ho
  obtain ⟨x1, hx1⟩ : ∃ x, x = (Chn.instE l name off o).1 := ⟨_, rfl⟩
  obtain ⟨x2, hx2⟩ : ∃ x, x = (Chn.instE l name off o).2 := ⟨_, rfl⟩
  obtain ⟨k1, hk1⟩ : ∃ x, x = (Chn.clockE l name off t base).1 := ⟨_, rfl⟩
  obtain ⟨k2, hk2⟩ : ∃ x, x = (Chn.clockE l name off t base).2 := ⟨_, rfl⟩
  obtain ⟨s, hs⟩ : ∃ x, x = Chn.saved l name o := ⟨_, rfl⟩
  obtain ⟨i0, y0, n0, eA, _⟩ := All.opt_parts (Chn.lastO l name off t)
  obtain ⟨i1, y1, n1, eB, _⟩ := All.opt_parts (Chn.afterO l name off t)
  obtain ⟨g0, hg0⟩ : ∃ g, g = (Chn.lastO l name off t).isSome := ⟨_, rfl⟩
  obtain ⟨g1, hg1⟩ : ∃ g, g = (Chn.afterO l name off t).isSome := ⟨_, rfl⟩
  rw [← hx1, ← hx2] at ci ri
  rw [← hk1, ← hk2] at ck rk
  rw [← hs] at cs rs
  rw [eA, ← hg0] at ca ra
  rw [eB, ← hg1] at cb rb
  unfold OccV.cells at *
  have HH := Lib.hid h
  have Clv := Lib.hid clv
  have Cl := Lib.hid cl
  have Ci := Lib.hid ci
  have Ri := Lib.hid ri
  have Ca := Lib.hid ca
  have Ra := Lib.hid ra
  have Cb := Lib.hid cb
  have Rb := Lib.hid rb
  have Ck := Lib.hid ck
  have Rk := Lib.hid rk
  have Cs := Lib.hid cs
  have Rs := Lib.hid rs
  clear h clv cl ci ri ca ra cb rb ck rk cs rs hx1 hx2 hk1 hk2 hs hg0 hg1 eA eB hl ho
  go_enter Tryz.func4, Tryz.ntmps4
  go_upto_region 11 with (first
    | (go_at_call 5; (with_reducible refine (Cl.out _ ?_).mono ?_); (· exact HH.out.later (by repeat (first | (with_reducible exact Below.refl _ _) | (with_reducible assumption) | (with_reducible refine ba ?_) | (with_reducible refine bd ?_) | (with_reducible refine bdn ?_ _) | (with_reducible refine bset ?_ (by first | exact Nat.le_refl _ | omega | (simp; done) | (simp; omega))) | (with_reducible refine bt ?_ (by with_reducible assumption))))); rintro e w2 ⟨rfl, hb2⟩; obtain ⟨hc2, hf2⟩ := bcell hb2; have hc2_0 := fun o => hc2 (w.heap.size) o (by first | assumption | omega | (simp; done) | (simp; omega)); have hf2_0 := fun o => hf2 (w.heap.size) o (by first | assumption | omega | (simp; done) | (simp; omega)); clear hc2 hf2; have hz2_0 : w.heap.size < w2.heap.size := (by first | exact sz1 hb2 | exact sz2 hb2 | exact sz3 hb2 | (have := hb2.size; (try simp only [World.size_alloc, World.size_drew] at this); omega)))
    | (go_at_call 19; (with_reducible refine (Ci.out _ ?_).mono ?_); (· exact HH.out.later (by repeat (first | (with_reducible exact Below.refl _ _) | (with_reducible assumption) | (with_reducible refine ba ?_) | (with_reducible refine bd ?_) | (with_reducible refine bdn ?_ _) | (with_reducible refine bset ?_ (by first | exact Nat.le_refl _ | omega | (simp; done) | (simp; omega))) | (with_reducible refine bt ?_ (by with_reducible assumption))))); rintro e w3 ⟨rfl, hb3⟩; obtain ⟨hc3, hf3⟩ := bcell hb3; have hc3_0 := fun o => hc3 (w.heap.size) o (by first | assumption | omega | (simp; done) | (simp; omega)); have hf3_0 := fun o => hf3 (w.heap.size) o (by first | assumption | omega | (simp; done) | (simp; omega)); clear hc3 hf3; have hz3_0 : w.heap.size < w3.heap.size := (by first | exact sz1 hb3 | exact sz2 hb3 | exact sz3 hb3 | (have := hb3.size; (try simp only [World.size_alloc, World.size_drew] at this); omega)))
    | (go_at_call 20; (with_reducible refine (Ri.out _ ?_).mono ?_); (· exact HH.out.later (by repeat (first | (with_reducible exact Below.refl _ _) | (with_reducible assumption) | (with_reducible refine ba ?_) | (with_reducible refine bd ?_) | (with_reducible refine bdn ?_ _) | (with_reducible refine bset ?_ (by first | exact Nat.le_refl _ | omega | (simp; done) | (simp; omega))) | (with_reducible refine bt ?_ (by with_reducible assumption))))); rintro e w4 ⟨rfl, hb4⟩; obtain ⟨hc4, hf4⟩ := bcell hb4; have hc4_0 := fun o => hc4 (w.heap.size) o (by first | assumption | omega | (simp; done) | (simp; omega)); have hf4_0 := fun o => hf4 (w.heap.size) o (by first | assumption | omega | (simp; done) | (simp; omega)); clear hc4 hf4; have hz4_0 : w.heap.size < w4.heap.size := (by first | exact sz1 hb4 | exact sz2 hb4 | exact sz3 hb4 | (have := hb4.size; (try simp only [World.size_alloc, World.size_drew] at this); omega)))
    | (go_at_call 21; (with_reducible refine (Ca.out _ ?_).mono ?_); (· exact HH.out.later (by repeat (first | (with_reducible exact Below.refl _ _) | (with_reducible assumption) | (with_reducible refine ba ?_) | (with_reducible refine bd ?_) | (with_reducible refine bdn ?_ _) | (with_reducible refine bset ?_ (by first | exact Nat.le_refl _ | omega | (simp; done) | (simp; omega))) | (with_reducible refine bt ?_ (by with_reducible assumption))))); rintro e w5 ⟨rfl, hb5⟩; obtain ⟨hc5, hf5⟩ := bcell hb5; have hc5_0 := fun o => hc5 (w.heap.size) o (by first | assumption | omega | (simp; done) | (simp; omega)); have hf5_0 := fun o => hf5 (w.heap.size) o (by first | assumption | omega | (simp; done) | (simp; omega)); clear hc5 hf5; have hz5_0 : w.heap.size < w5.heap.size := (by first | exact sz1 hb5 | exact sz2 hb5 | exact sz3 hb5 | (have := hb5.size; (try simp only [World.size_alloc, World.size_drew] at this); omega)))
    | (go_at_call 22; (with_reducible refine (Ra.out _ ?_).mono ?_); (· exact HH.out.later (by repeat (first | (with_reducible exact Below.refl _ _) | (with_reducible assumption) | (with_reducible refine ba ?_) | (with_reducible refine bd ?_) | (with_reducible refine bdn ?_ _) | (with_reducible refine bset ?_ (by first | exact Nat.le_refl _ | omega | (simp; done) | (simp; omega))) | (with_reducible refine bt ?_ (by with_reducible assumption))))); rintro e w6 ⟨rfl, hb6⟩; obtain ⟨hc6, hf6⟩ := bcell hb6; have hc6_0 := fun o => hc6 (w.heap.size) o (by first | assumption | omega | (simp; done) | (simp; omega)); have hf6_0 := fun o => hf6 (w.heap.size) o (by first | assumption | omega | (simp; done) | (simp; omega)); have hc6_1 := fun o => hc6 (w5.heap.size) o (by first | assumption | omega | (simp; done) | (simp; omega)); have hf6_1 := fun o => hf6 (w5.heap.size) o (by first | assumption | omega | (simp; done) | (simp; omega)); clear hc6 hf6; have hz6_0 : w.heap.size < w6.heap.size := (by first | exact sz1 hb6 | exact sz2 hb6 | exact sz3 hb6 | (have := hb6.size; (try simp only [World.size_alloc, World.size_drew] at this); omega)); have hz6_1 : w5.heap.size < w6.heap.size := (by first | exact sz1 hb6 | exact sz2 hb6 | exact sz3 hb6 | (have := hb6.size; (try simp only [World.size_alloc, World.size_drew] at this); omega)))
    | (go_at_call 23; (with_reducible refine (Cb.out _ ?_).mono ?_); (· exact HH.out.later (by repeat (first | (with_reducible exact Below.refl _ _) | (with_reducible assumption) | (with_reducible refine ba ?_) | (with_reducible refine bd ?_) | (with_reducible refine bdn ?_ _) | (with_reducible refine bset ?_ (by first | exact Nat.le_refl _ | omega | (simp; done) | (simp; omega))) | (with_reducible refine bt ?_ (by with_reducible assumption))))); rintro e w7 ⟨rfl, hb7⟩; obtain ⟨hc7, hf7⟩ := bcell hb7; have hc7_0 := fun o => hc7 (w.heap.size) o (by first | assumption | omega | (simp; done) | (simp; omega)); have hf7_0 := fun o => hf7 (w.heap.size) o (by first | assumption | omega | (simp; done) | (simp; omega)); have hc7_1 := fun o => hc7 (w5.heap.size) o (by first | assumption | omega | (simp; done) | (simp; omega)); have hf7_1 := fun o => hf7 (w5.heap.size) o (by first | assumption | omega | (simp; done) | (simp; omega)); have hc7_2 := fun o => hc7 (w6.heap.size) o (by first | assumption | omega | (simp; done) | (simp; omega)); have hf7_2 := fun o => hf7 (w6.heap.size) o (by first | assumption | omega | (simp; done) | (simp; omega)); clear hc7 hf7; have hz7_0 : w.heap.size < w7.heap.size := (by first | exact sz1 hb7 | exact sz2 hb7 | exact sz3 hb7 | (have := hb7.size; (try simp only [World.size_alloc, World.size_drew] at this); omega)); have hz7_1 : w5.heap.size < w7.heap.size := (by first | exact sz1 hb7 | exact sz2 hb7 | exact sz3 hb7 | (have := hb7.size; (try simp only [World.size_alloc, World.size_drew] at this); omega)); have hz7_2 : w6.heap.size < w7.heap.size := (by first | exact sz1 hb7 | exact sz2 hb7 | exact sz3 hb7 | (have := hb7.size; (try simp only [World.size_alloc, World.size_drew] at this); omega)))
    | (go_at_call 24; (with_reducible refine (Rb.out _ ?_).mono ?_); (· exact HH.out.later (by repeat (first | (with_reducible exact Below.refl _ _) | (with_reducible assumption) | (with_reducible refine ba ?_) | (with_reducible refine bd ?_) | (with_reducible refine bdn ?_ _) | (with_reducible refine bset ?_ (by first | exact Nat.le_refl _ | omega | (simp; done) | (simp; omega))) | (with_reducible refine bt ?_ (by with_reducible assumption))))); rintro e w8 ⟨rfl, hb8⟩; obtain ⟨hc8, hf8⟩ := bcell hb8; have hc8_0 := fun o => hc8 (w.heap.size) o (by first | assumption | omega | (simp; done) | (simp; omega)); have hf8_0 := fun o => hf8 (w.heap.size) o (by first | assumption | omega | (simp; done) | (simp; omega)); have hc8_1 := fun o => hc8 (w5.heap.size) o (by first | assumption | omega | (simp; done) | (simp; omega)); have hf8_1 := fun o => hf8 (w5.heap.size) o (by first | assumption | omega | (simp; done) | (simp; omega)); have hc8_2 := fun o => hc8 (w6.heap.size) o (by first | assumption | omega | (simp; done) | (simp; omega)); have hf8_2 := fun o => hf8 (w6.heap.size) o (by first | assumption | omega | (simp; done) | (simp; omega)); have hc8_3 := fun o => hc8 (w7.heap.size) o (by first | assumption | omega | (simp; done) | (simp; omega)); have hf8_3 := fun o => hf8 (w7.heap.size) o (by first | assumption | omega | (simp; done) | (simp; omega)); clear hc8 hf8; have hz8_0 : w.heap.size < w8.heap.size := (by first | exact sz1 hb8 | exact sz2 hb8 | exact sz3 hb8 | (have := hb8.size; (try simp only [World.size_alloc, World.size_drew] at this); omega)); have hz8_1 : w5.heap.size < w8.heap.size := (by first | exact sz1 hb8 | exact sz2 hb8 | exact sz3 hb8 | (have := hb8.size; (try simp only [World.size_alloc, World.size_drew] at this); omega)); have hz8_2 : w6.heap.size < w8.heap.size := (by first | exact sz1 hb8 | exact sz2 hb8 | exact sz3 hb8 | (have := hb8.size; (try simp only [World.size_alloc, World.size_drew] at this); omega)); have hz8_3 : w7.heap.size < w8.heap.size := (by first | exact sz1 hb8 | exact sz2 hb8 | exact sz3 hb8 | (have := hb8.size; (try simp only [World.size_alloc, World.size_drew] at this); omega)))
    | (go_at_call 25; (with_reducible refine (Ck.out _ ?_).mono ?_); (· exact HH.out.later (by repeat (first | (with_reducible exact Below.refl _ _) | (with_reducible assumption) | (with_reducible refine ba ?_) | (with_reducible refine bd ?_) | (with_reducible refine bdn ?_ _) | (with_reducible refine bset ?_ (by first | exact Nat.le_refl _ | omega | (simp; done) | (simp; omega))) | (with_reducible refine bt ?_ (by with_reducible assumption))))); rintro e w9 ⟨rfl, hb9⟩; obtain ⟨hc9, hf9⟩ := bcell hb9; have hc9_0 := fun o => hc9 (w.heap.size) o (by first | assumption | omega | (simp; done) | (simp; omega)); have hf9_0 := fun o => hf9 (w.heap.size) o (by first | assumption | omega | (simp; done) | (simp; omega)); have hc9_1 := fun o => hc9 (w5.heap.size) o (by first | assumption | omega | (simp; done) | (simp; omega)); have hf9_1 := fun o => hf9 (w5.heap.size) o (by first | assumption | omega | (simp; done) | (simp; omega)); have hc9_2 := fun o => hc9 (w6.heap.size) o (by first | assumption | omega | (simp; done) | (simp; omega)); have hf9_2 := fun o => hf9 (w6.heap.size) o (by first | assumption | omega | (simp; done) | (simp; omega)); have hc9_3 := fun o => hc9 (w7.heap.size) o (by first | assumption | omega | (simp; done) | (simp; omega)); have hf9_3 := fun o => hf9 (w7.heap.size) o (by first | assumption | omega | (simp; done) | (simp; omega)); have hc9_4 := fun o => hc9 (w8.heap.size) o (by first | assumption | omega | (simp; done) | (simp; omega)); have hf9_4 := fun o => hf9 (w8.heap.size) o (by first | assumption | omega | (simp; done) | (simp; omega)); clear hc9 hf9; have hz9_0 : w.heap.size < w9.heap.size := (by first | exact sz1 hb9 | exact sz2 hb9 | exact sz3 hb9 | (have := hb9.size; (try simp only [World.size_alloc, World.size_drew] at this); omega)); have hz9_1 : w5.heap.size < w9.heap.size := (by first | exact sz1 hb9 | exact sz2 hb9 | exact sz3 hb9 | (have := hb9.size; (try simp only [World.size_alloc, World.size_drew] at this); omega)); have hz9_2 : w6.heap.size < w9.heap.size := (by first | exact sz1 hb9 | exact sz2 hb9 | exact sz3 hb9 | (have := hb9.size; (try simp only [World.size_alloc, World.size_drew] at this); omega)); have hz9_3 : w7.heap.size < w9.heap.size := (by first | exact sz1 hb9 | exact sz2 hb9 | exact sz3 hb9 | (have := hb9.size; (try simp only [World.size_alloc, World.size_drew] at this); omega)); have hz9_4 : w8.heap.size < w9.heap.size := (by first | exact sz1 hb9 | exact sz2 hb9 | exact sz3 hb9 | (have := hb9.size; (try simp only [World.size_alloc, World.size_drew] at this); omega)))
    | (go_at_call 26; (with_reducible refine (Rk.out _ ?_).mono ?_); (· exact HH.out.later (by repeat (first | (with_reducible exact Below.refl _ _) | (with_reducible assumption) | (with_reducible refine ba ?_) | (with_reducible refine bd ?_) | (with_reducible refine bdn ?_ _) | (with_reducible refine bset ?_ (by first | exact Nat.le_refl _ | omega | (simp; done) | (simp; omega))) | (with_reducible refine bt ?_ (by with_reducible assumption))))); rintro e w10 ⟨rfl, hb10⟩; obtain ⟨hc10, hf10⟩ := bcell hb10; have hc10_0 := fun o => hc10 (w.heap.size) o (by first | assumption | omega | (simp; done) | (simp; omega)); have hf10_0 := fun o => hf10 (w.heap.size) o (by first | assumption | omega | (simp; done) | (simp; omega)); have hc10_1 := fun o => hc10 (w5.heap.size) o (by first | assumption | omega | (simp; done) | (simp; omega)); have hf10_1 := fun o => hf10 (w5.heap.size) o (by first | assumption | omega | (simp; done) | (simp; omega)); have hc10_2 := fun o => hc10 (w6.heap.size) o (by first | assumption | omega | (simp; done) | (simp; omega)); have hf10_2 := fun o => hf10 (w6.heap.size) o (by first | assumption | omega | (simp; done) | (simp; omega)); have hc10_3 := fun o => hc10 (w7.heap.size) o (by first | assumption | omega | (simp; done) | (simp; omega)); have hf10_3 := fun o => hf10 (w7.heap.size) o (by first | assumption | omega | (simp; done) | (simp; omega)); have hc10_4 := fun o => hc10 (w8.heap.size) o (by first | assumption | omega | (simp; done) | (simp; omega)); have hf10_4 := fun o => hf10 (w8.heap.size) o (by first | assumption | omega | (simp; done) | (simp; omega)); clear hc10 hf10; have hz10_0 : w.heap.size < w10.heap.size := (by first | exact sz1 hb10 | exact sz2 hb10 | exact sz3 hb10 | (have := hb10.size; (try simp only [World.size_alloc, World.size_drew] at this); omega)); have hz10_1 : w5.heap.size < w10.heap.size := (by first | exact sz1 hb10 | exact sz2 hb10 | exact sz3 hb10 | (have := hb10.size; (try simp only [World.size_alloc, World.size_drew] at this); omega)); have hz10_2 : w6.heap.size < w10.heap.size := (by first | exact sz1 hb10 | exact sz2 hb10 | exact sz3 hb10 | (have := hb10.size; (try simp only [World.size_alloc, World.size_drew] at this); omega)); have hz10_3 : w7.heap.size < w10.heap.size := (by first | exact sz1 hb10 | exact sz2 hb10 | exact sz3 hb10 | (have := hb10.size; (try simp only [World.size_alloc, World.size_drew] at this); omega)); have hz10_4 : w8.heap.size < w10.heap.size := (by first | exact sz1 hb10 | exact sz2 hb10 | exact sz3 hb10 | (have := hb10.size; (try simp only [World.size_alloc, World.size_drew] at this); omega))))
  have S5 : w5.heap.size < w6.heap.size := sz1 hb6
  have S6 : w6.heap.size < w7.heap.size := sz1 hb7
  have S7 : w7.heap.size < w8.heap.size := sz1 hb8
  have b0 : Box w10 w.heap.size #[.int .i64 o.rule, .int .i64 o.year, .int .i64 o.nom] 24 := by repeat (first | (with_reducible assumption) | (with_reducible exact Box.new _ _ _) | (with_reducible refine Box.old ?_) | (with_reducible refine Box.drew ?_) | (with_reducible refine Box.drewN ?_ _) | (with_reducible refine Box.other ?_ (by first | assumption | omega | (simp; omega))) | (with_reducible refine Box.later ?_ (by with_reducible assumption)))
  have b5 : Box w10 w5.heap.size #[.int .i64 i0, .int .i64 y0, .int .i64 n0] 24 := by repeat (first | (with_reducible assumption) | (with_reducible exact Box.new _ _ _) | (with_reducible refine Box.old ?_) | (with_reducible refine Box.drew ?_) | (with_reducible refine Box.drewN ?_ _) | (with_reducible refine Box.other ?_ (by first | assumption | omega | (simp; omega))) | (with_reducible refine Box.later ?_ (by with_reducible assumption)))
  have b6 : Box w10 w6.heap.size #[.int .i64 i0, .int .i64 y0, .int .i64 n0] 24 := by repeat (first | (with_reducible assumption) | (with_reducible exact Box.new _ _ _) | (with_reducible refine Box.old ?_) | (with_reducible refine Box.drew ?_) | (with_reducible refine Box.drewN ?_ _) | (with_reducible refine Box.other ?_ (by first | assumption | omega | (simp; omega))) | (with_reducible refine Box.later ?_ (by with_reducible assumption)))
  have b7 : Box w10 w7.heap.size #[.int .i64 i1, .int .i64 y1, .int .i64 n1] 24 := by repeat (first | (with_reducible assumption) | (with_reducible exact Box.new _ _ _) | (with_reducible refine Box.old ?_) | (with_reducible refine Box.drew ?_) | (with_reducible refine Box.drewN ?_ _) | (with_reducible refine Box.other ?_ (by first | assumption | omega | (simp; omega))) | (with_reducible refine Box.later ?_ (by with_reducible assumption)))
  have b8 : Box w10 w8.heap.size #[.int .i64 i1, .int .i64 y1, .int .i64 n1] 24 := by repeat (first | (with_reducible assumption) | (with_reducible exact Box.new _ _ _) | (with_reducible refine Box.old ?_) | (with_reducible refine Box.drew ?_) | (with_reducible refine Box.drewN ?_ _) | (with_reducible refine Box.other ?_ (by first | assumption | omega | (simp; omega))) | (with_reducible refine Box.later ?_ (by with_reducible assumption)))
  have hBX : Below w.heap.size w w10 := by repeat (first | (with_reducible exact Below.refl _ _) | (with_reducible assumption) | (with_reducible refine ba ?_) | (with_reducible refine bd ?_) | (with_reducible refine bdn ?_ _) | (with_reducible refine bset ?_ (by first | exact Nat.le_refl _ | omega | (simp; done) | (simp; omega))) | (with_reducible refine bt ?_ (by with_reducible assumption)))
  have HX := Lib.hid (HH.out.later hBX)
  have g2 := b0.lt
  have g5 := b5.lt
  have g6 := b6.lt
  have g7 := b7.lt
  have g8 := b8.lt
  have a0 := b0.cell
  have a5 := b5.cell
  have a6 := b6.cell
  have a7 := b7.cell
  have a8 := b8.cell
  have HBX := Lib.hid hBX
  clear hBX b0 b5 b6 b7 b8 hb2 hb3 hb4 hb5 hb6 hb7 hb8 hb9 hb10
  generalize w5.heap.size = q5 at *
  generalize w6.heap.size = q6 at *
  generalize w7.heap.size = q7 at *
  generalize w8.heap.size = q8 at *
  clear hc2_0 hf2_0 hc3_0 hf3_0 hc4_0 hf4_0 hc5_0 hf5_0 hc6_0 hf6_0 hc6_1 hf6_1 hc7_0 hf7_0 hc7_1 hf7_1 hc7_2 hf7_2 hc8_0 hf8_0 hc8_1 hf8_1 hc8_2 hf8_2 hc8_3 hf8_3 hc9_0 hf9_0 hc9_1 hf9_1 hc9_2 hf9_2 hc9_3 hf9_3 hc9_4 hf9_4 hc10_0 hf10_0 hc10_1 hf10_1 hc10_2 hf10_2 hc10_3 hf10_3 hc10_4 hf10_4
  (refine region_later (by kernel_rfl) (by kernel_rfl) ?_; (repeat (go_big_quiet_step (first | (go_at_call 27; rename_i xL; apply calls_later xL (Nat.le_refl _); exact (Cs.out _ (HX.out.later xL.h))) | (go_at_call 28; rename_i xL; apply calls_later xL (Nat.le_refl _); exact (Rs.out _ (HX.out.later xL.h))) | (go_at_call 18; rename_i xL; apply calls_later xL (Nat.le_refl _); exact (Clv.out _))))); refine wpQuiet_nil ?_; rintro _ ⟨⟨u11, hu11⟩, rfl⟩)
  go_wp2
  go_ret
  exact ⟨rfl, bt HBX.out hu11⟩
theorem ChainTells {w : World} {v : Value} {l : List RuleV} (h : Holds w v l) (name : ByteArray) (off : Int) (o : OccV) (ho : I64 o.nom) (t base : Int) :
    Calls Tryz.prog 4 #[v, .string name, .int .i64 off, .agg o.cells.toArray, .int .i64 t, .int .i64 base] w fun e w' => e = .returned (.bool true) ∧ Below w.heap.size w w' := by
  cases hl : Lgt.light l
  · exact tells0 h name off o t base hl
  · exact tells1 h name off o ho t base hl
theorem tellsW (v : Value) (l : List RuleV) (name : ByteArray) (off : Int) (o : OccV) (t base : Int) (w : World) (h : Holds w v l) (_ : name.size ≤ 9223372036854775807) (_ : I64 off) (ho : o.Fit) (_ : I64 t) (_ : I64 base) :
    Calls Tryz.prog 4 #[v, .string name, .int .i64 off, .agg o.cells.toArray, .int .i64 t, .int .i64 base] w fun e w' => e = .returned (.bool true) ∧ Below w.heap.size w w' :=
  ChainTells h name off o ho.n t base
end L26
end Go.Proofs.YtopdjebnfhfpcaaGreatDoor
