import Derived.Test.YtkpjhgkmjcdobaaGreatDoorG14
import Derived.Test.YtkpjhgkmjcdobaaGreatDoorRNext
/-
  The document's Next and Prev of a slice of rules, whole.
-/
namespace Go.Proofs.YtkpjhgkmjcdobaaGreatDoor
open Go.RowKit NB Nxt
namespace RNxH
theorem NextE (p : Option Addr) (cap : Nat) (name : ByteArray) (fr : OccV) (w : World) : Calls Tryz.prog 63 #[.slice p 0 cap, .string name, .agg fr.cells.toArray] w fun e w' => e = .returned (.tuple #[.agg #[.int .i64 0, .int .i64 0, .int .i64 0], .bool false]) ∧ Below w.heap.size w w' := by
  unfold OccV.cells
  go_enter Tryz.func63, Tryz.ntmps63
  go_wp2
  go_loopw [17, 9] (fun i is wr => i = .int .i64 0 ∧ is = .bool false ∧ Below w.heap.size w wr ∧ Box wr (w.heap.size + 1) #[.int .i64 0, .int .i64 0, .int .i64 0] 53 ∧ Box wr (w.heap.size + 2) #[.int .i64 0, .int .i64 0, .int .i64 0] 53) (fun i _ _ => 0)
  case atStart => exact ⟨rfl, rfl, by repeat (first | (with_reducible exact Below.refl _ _) | (with_reducible assumption) | (with_reducible refine ba ?_) | (with_reducible refine bd ?_) | (with_reducible refine bdn ?_ _) | (with_reducible refine bset ?_ (by first | exact Nat.le_refl _ | omega | (simp; done) | (simp; omega))) | (with_reducible refine bt ?_ (by with_reducible assumption))), Box.old (ROcc.Box.new' (by simp)), ROcc.Box.new' (by simp)⟩
  case round =>
    obtain ⟨rfl, rfl, hbel, h1, h2⟩ := hrel
    have u1 := h1.lt
    have u2 := h2.lt
    have f1 := h1.cell
    have f1f := h1.free
    have f2 := h2.cell
    go_wp2
    refine bodyPost_ret (v := .tuple #[.agg #[.int .i64 0, .int .i64 0, .int .i64 0], .bool false]) ?_ rfl ⟨rfl, ?_⟩
    · simp only [results, Tryz.results63]
      go_simp
    · repeat (first | (with_reducible exact Below.refl _ _) | (with_reducible assumption) | (with_reducible refine ba ?_) | (with_reducible refine bd ?_) | (with_reducible refine bdn ?_ _) | (with_reducible refine bset ?_ (by first | exact Nat.le_refl _ | omega | (simp; done) | (simp; omega))) | (with_reducible refine bt ?_ (by with_reducible assumption)))
theorem Next {w : World} {v : Value} {l : List RuleV} (h : Holds w v l) (name : ByteArray) (fr : OccV) (hf : I64 fr.nom) : Calls Tryz.prog 63 #[v, .string name, .agg fr.cells.toArray] w fun e w' => e = .returned (optV (Occ.nextO l name fr)) ∧ Below w.heap.size w w' := by
  rcases h.lies with ⟨p, cap, rfl, rfl⟩ | ⟨b, off, cap, rfl, h2, h3⟩
  · exact NextE p cap name fr w
  · exact ROcc.Next b off cap l name fr w hf h3 h2 h.len h.fit
theorem PrevE (p : Option Addr) (cap : Nat) (name : ByteArray) (fr : OccV) (w : World) : Calls Tryz.prog 68 #[.slice p 0 cap, .string name, .agg fr.cells.toArray] w fun e w' => e = .returned (.tuple #[.agg #[.int .i64 0, .int .i64 0, .int .i64 0], .bool false]) ∧ Below w.heap.size w w' := by
  unfold OccV.cells
  go_enter Tryz.func68, Tryz.ntmps68
  go_wp2
  go_loopw [17, 9] (fun i is wr => i = .int .i64 0 ∧ is = .bool false ∧ Below w.heap.size w wr ∧ Box wr (w.heap.size + 1) #[.int .i64 0, .int .i64 0, .int .i64 0] 53 ∧ Box wr (w.heap.size + 2) #[.int .i64 0, .int .i64 0, .int .i64 0] 53) (fun i _ _ => 0)
  case atStart => exact ⟨rfl, rfl, by repeat (first | (with_reducible exact Below.refl _ _) | (with_reducible assumption) | (with_reducible refine ba ?_) | (with_reducible refine bd ?_) | (with_reducible refine bdn ?_ _) | (with_reducible refine bset ?_ (by first | exact Nat.le_refl _ | omega | (simp; done) | (simp; omega))) | (with_reducible refine bt ?_ (by with_reducible assumption))), Box.old (ROcc.Box.new' (by simp)), ROcc.Box.new' (by simp)⟩
  case round =>
    obtain ⟨rfl, rfl, hbel, h1, h2⟩ := hrel
    have u1 := h1.lt
    have u2 := h2.lt
    have f1 := h1.cell
    have f1f := h1.free
    have f2 := h2.cell
    go_wp2
    refine bodyPost_ret (v := .tuple #[.agg #[.int .i64 0, .int .i64 0, .int .i64 0], .bool false]) ?_ rfl ⟨rfl, ?_⟩
    · simp only [results, Tryz.results68]
      go_simp
    · repeat (first | (with_reducible exact Below.refl _ _) | (with_reducible assumption) | (with_reducible refine ba ?_) | (with_reducible refine bd ?_) | (with_reducible refine bdn ?_ _) | (with_reducible refine bset ?_ (by first | exact Nat.le_refl _ | omega | (simp; done) | (simp; omega))) | (with_reducible refine bt ?_ (by with_reducible assumption)))
theorem Prev {w : World} {v : Value} {l : List RuleV} (h : Holds w v l) (name : ByteArray) (fr : OccV) (hf : I64 fr.nom) : Calls Tryz.prog 68 #[v, .string name, .agg fr.cells.toArray] w fun e w' => e = .returned (optV (Occ.prevO l name fr)) ∧ Below w.heap.size w w' := by
  rcases h.lies with ⟨p, cap, rfl, rfl⟩ | ⟨b, off, cap, rfl, h2, h3⟩
  · exact PrevE p cap name fr w
  · exact ROcc.Prev b off cap l name fr w hf h3 h2 h.len h.fit
end RNxH
end Go.Proofs.YtkpjhgkmjcdobaaGreatDoor
