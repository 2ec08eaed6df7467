/-
  Next and Prev, the program's and the document's, of a slice of rules, whole.
-/
import Derived.Test.YtopdjebnfhfpcaaDoorHold
import Derived.Test.YtopdjebnfhfpcaaDoorNextB
namespace Go.Proofs.YtopdjebnfhfpcaaDoor
open Go.RowKit NB Nxt
namespace NxH
theorem NextE (p : Option Addr) (cap : Nat) (name : ByteArray) (fr : OccV) (w : World) : Calls Tryd.prog 20 #[.slice p 0 cap, .string name, .agg fr.cells.toArray] w fun e w' => e = .returned (.tuple #[.agg #[.int .i64 0, .int .i64 0, .int .i64 0], .bool false]) ∧ Below w.heap.size w w' := by
  have cn := fun W => Nom.near fr.nom W
  generalize Occ.nearY fr.nom = Y at *
  have Cn := Lib.hid cn
  clear cn
  unfold OccV.cells
  go_enter Tryd.func20, Tryd.ntmps20
  go_wp2_with (go_at_call 46; (with_reducible refine (Cn.out _).mono ?_); rintro e w1 ⟨rfl, hb1⟩; obtain ⟨hc1, hf1⟩ := bcell hb1; have hc1_0 := fun o => hc1 (w.heap.size) o (by first | assumption | omega | (simp; done) | (simp; omega)); have hf1_0 := fun o => hf1 (w.heap.size) o (by first | assumption | omega | (simp; done) | (simp; omega)); have hc1_1 := fun o => hc1 (w.heap.size + 1) o (by first | assumption | omega | (simp; done) | (simp; omega)); have hf1_1 := fun o => hf1 (w.heap.size + 1) o (by first | assumption | omega | (simp; done) | (simp; omega)); clear hc1 hf1; have hz1_0 : w.heap.size < w1.heap.size := (by first | exact sz1 hb1 | exact sz2 hb1 | exact sz3 hb1 | (have := hb1.size; (try simp only [World.size_alloc, World.size_drew] at this); omega)); have hz1_1 : w.heap.size + 1 < w1.heap.size := (by first | exact sz1 hb1 | exact sz2 hb1 | exact sz3 hb1 | (have := hb1.size; (try simp only [World.size_alloc, World.size_drew] at this); omega)))
  go_loopw [18, 7] (fun i is wr => i = .int .i64 0 ∧ is = .bool false ∧ wr = w1) (fun i _ _ => 0)
  case atStart => exact ⟨rfl, rfl, rfl⟩
  case round =>
    obtain ⟨rfl, rfl, hwr⟩ := hrel
    subst hwr
    go_wp2
    refine bodyPost_ret (v := .tuple #[.agg #[.int .i64 0, .int .i64 0, .int .i64 0], .bool false]) ?_ rfl ⟨rfl, ?_⟩
    · simp only [results, Tryd.results20]
      go_simp
    · repeat (first | (with_reducible exact Below.refl _ _) | (with_reducible assumption) | (with_reducible refine ba ?_) | (with_reducible refine bd ?_) | (with_reducible refine bdn ?_ _) | (with_reducible refine bset ?_ (by first | exact Nat.le_refl _ | omega | (simp; done) | (simp; omega))) | (with_reducible refine bt ?_ (by with_reducible assumption)))
theorem Next {w : World} {v : Value} {l : List RuleV} (h : Holds w v l) (name : ByteArray) (fr : OccV) : Calls Tryd.prog 20 #[v, .string name, .agg fr.cells.toArray] w fun e w' => e = .returned (optV (Occ.nextO l name fr)) ∧ Below w.heap.size w w' := by
  rcases h.lies with ⟨p, cap, rfl, rfl⟩ | ⟨b, off, cap, rfl, h2, h3⟩
  · exact NextE p cap name fr w
  · exact Nxt.Next b off cap l name fr w h3 h2 h.len h.fit
theorem PrevE (p : Option Addr) (cap : Nat) (name : ByteArray) (fr : OccV) (w : World) : Calls Tryd.prog 21 #[.slice p 0 cap, .string name, .agg fr.cells.toArray] w fun e w' => e = .returned (.tuple #[.agg #[.int .i64 0, .int .i64 0, .int .i64 0], .bool false]) ∧ Below w.heap.size w w' := by
  have cn := fun W => Nom.near fr.nom W
  generalize Occ.nearY fr.nom = Y at *
  have Cn := Lib.hid cn
  clear cn
  unfold OccV.cells
  go_enter Tryd.func21, Tryd.ntmps21
  go_wp2_with (go_at_call 46; (with_reducible refine (Cn.out _).mono ?_); rintro e w1 ⟨rfl, hb1⟩; obtain ⟨hc1, hf1⟩ := bcell hb1; have hc1_0 := fun o => hc1 (w.heap.size) o (by first | assumption | omega | (simp; done) | (simp; omega)); have hf1_0 := fun o => hf1 (w.heap.size) o (by first | assumption | omega | (simp; done) | (simp; omega)); have hc1_1 := fun o => hc1 (w.heap.size + 1) o (by first | assumption | omega | (simp; done) | (simp; omega)); have hf1_1 := fun o => hf1 (w.heap.size + 1) o (by first | assumption | omega | (simp; done) | (simp; omega)); clear hc1 hf1; have hz1_0 : w.heap.size < w1.heap.size := (by first | exact sz1 hb1 | exact sz2 hb1 | exact sz3 hb1 | (have := hb1.size; (try simp only [World.size_alloc, World.size_drew] at this); omega)); have hz1_1 : w.heap.size + 1 < w1.heap.size := (by first | exact sz1 hb1 | exact sz2 hb1 | exact sz3 hb1 | (have := hb1.size; (try simp only [World.size_alloc, World.size_drew] at this); omega)))
  go_loopw [18, 7] (fun i is wr => i = .int .i64 0 ∧ is = .bool false ∧ wr = w1) (fun i _ _ => 0)
  case atStart => exact ⟨rfl, rfl, rfl⟩
  case round =>
    obtain ⟨rfl, rfl, hwr⟩ := hrel
    subst hwr
    go_wp2
    refine bodyPost_ret (v := .tuple #[.agg #[.int .i64 0, .int .i64 0, .int .i64 0], .bool false]) ?_ rfl ⟨rfl, ?_⟩
    · simp only [results, Tryd.results21]
      go_simp
    · repeat (first | (with_reducible exact Below.refl _ _) | (with_reducible assumption) | (with_reducible refine ba ?_) | (with_reducible refine bd ?_) | (with_reducible refine bdn ?_ _) | (with_reducible refine bset ?_ (by first | exact Nat.le_refl _ | omega | (simp; done) | (simp; omega))) | (with_reducible refine bt ?_ (by with_reducible assumption)))
theorem Prev {w : World} {v : Value} {l : List RuleV} (h : Holds w v l) (name : ByteArray) (fr : OccV) : Calls Tryd.prog 21 #[v, .string name, .agg fr.cells.toArray] w fun e w' => e = .returned (optV (Occ.prevO l name fr)) ∧ Below w.heap.size w w' := by
  rcases h.lies with ⟨p, cap, rfl, rfl⟩ | ⟨b, off, cap, rfl, h2, h3⟩
  · exact PrevE p cap name fr w
  · exact Nxt.Prev b off cap l name fr w h3 h2 h.len h.fit
end NxH
end Go.Proofs.YtopdjebnfhfpcaaDoor
