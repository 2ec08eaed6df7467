/-
  apart.Check and noontideref27.Check of a slice, whole.
-/
import Derived.Test.YtopdjebnfhfpcaaDoorHold
import Derived.Test.YtopdjebnfhfpcaaDoorR27B
namespace Go.Proofs.YtopdjebnfhfpcaaDoor
open Go.RowKit NB
namespace Chk
theorem CheckE (p : Option Addr) (cap : Nat) (w : World) : Calls Tryd.prog 14 #[.slice p 0 cap] w (Post (check []) w) := by
  have hmm := @run_makeMap Tryd.prog
  go_enter Tryd.func14, Tryd.ntmps14
  go_wp2
  go_loopw [13] (fun i wr => i = .int .i64 0 ∧ Below w.heap.size w wr) (fun i _ => 0)
  case atStart => exact ⟨rfl, (Below.refl _ _).alloc (Nat.le_refl _) _⟩
  case round =>
    obtain ⟨rfl, hbel⟩ := hrel
    go_wp2
    go_ret2
    exact ⟨rfl, hbel⟩
theorem CheckH {w : World} {v : Value} {l : List RuleV} (h : Holds w v l) (hl : l.length ≤ 12) : Calls Tryd.prog 14 #[v] w fun e w' => e = .returned (.tuple #[.int .i64 (check l).1, .int .i64 (check l).2]) ∧ Below w.heap.size w w' := by
  rcases h.lies with ⟨p, cap, rfl, rfl⟩ | ⟨b, off, cap, rfl, h2, h3⟩
  · exact CheckE p cap w
  · exact Check b off cap l w h3 h2 (by omega) h.fit
theorem CheckB {w : World} {v : Value} {l : List RuleV} (h : Holds w v l) (hl : l.length * 104 ≤ 140737488355328) : Calls Tryd.prog 14 #[v] w fun e w' => e = .returned (.tuple #[.int .i64 (check l).1, .int .i64 (check l).2]) ∧ Below w.heap.size w w' := by
  rcases h.lies with ⟨p, cap, rfl, rfl⟩ | ⟨b, off, cap, rfl, h2, h3⟩
  · exact CheckE p cap w
  · exact Check b off cap l w h3 h2 hl h.fit
end Chk
namespace R27
theorem CheckE (p : Option Addr) (cap : Nat) (w : World) : Calls Tryd.prog 15 #[.slice p 0 cap] w (Chk.Post (Chk.check []) w) := by
  have h : Chk.check [] = (-1, 0) := rfl
  rw [h]
  unfold Chk.Post
  go_enter Tryd.func15, Tryd.ntmps15
  go_wp2
  go_loopw [9] (fun i wr => i = .int .i64 0 ∧ Below w.heap.size w wr) (fun i _ => 0)
  case atStart => exact ⟨rfl, Below.refl _ _⟩
  case round =>
    obtain ⟨rfl, hbel⟩ := hrel
    go_wp2
    go_ret2
    exact ⟨rfl, hbel⟩
theorem CheckH {w : World} {v : Value} {l : List RuleV} (h : Holds w v l) : Calls Tryd.prog 15 #[v] w fun e w' => e = .returned (.tuple #[.int .i64 (Chk.check l).1, .int .i64 (Chk.check l).2]) ∧ Below w.heap.size w w' := by
  rcases h.lies with ⟨p, cap, rfl, rfl⟩ | ⟨b, off, cap, rfl, h2, h3⟩
  · exact CheckE p cap w
  · exact Check b off cap l w h3 h2 h.len h.fit
end R27
end Go.Proofs.YtopdjebnfhfpcaaDoor
