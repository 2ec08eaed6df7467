/-
  Slices of rules and of occurrences in blocks that were just laid.
-/
import Derived.Test.YtopdjebnfhfpcaaGreatDoorHold
import Derived.Test.YtopdjebnfhfpcaaGreatDoorGrp
import Derived.Test.YtopdjebnfhfpcaaGreatDoorOcc
namespace Go.Proofs.YtopdjebnfhfpcaaGreatDoor
open Go.RowKit NB
namespace Nw
theorem rule_len (r : RuleV) : r.cells.length = 11 := rfl
theorem lies_new (X : World) (l : List RuleV) (cs : Array Value) (t : TypeId) (h : cs.toList = l.flatMap RuleV.cells) : Lies (X.alloc (.cells cs t)) X.heap.size 0 11 (l.map RuleV.cells) := by
  intro i j c v hi hj
  rw [List.getElem?_map] at hi
  cases hx : l[i]? with
  | none => rw [hx] at hi; cases hi
  | some x =>
    rw [hx] at hi
    cases hi
    rw [cell_of_row _ _ _ _ _ _ (heap_alloc_new X _), Nat.zero_add]
    have := Grp.flat_at rule_len l i j x v hx hj
    rw [← h] at this
    simpa using this
theorem holds_new (X : World) (l : List RuleV) (cs : Array Value) (t : TypeId) (cap n : Nat) (hn : n = l.length) (h : cs.toList = l.flatMap RuleV.cells) (hf : ∀ r ∈ l, r.Fit) (hl : l.length ≤ 9223372036854775807) : Holds (X.alloc (.cells cs t)) (.slice (some ⟨X.heap.size, 0, none⟩) n cap) l := by
  subst hn
  exact ⟨.inr ⟨X.heap.size, 0, cap, rfl, by simp, lies_new X l cs t h⟩, hf, hl⟩
end Nw
end Go.Proofs.YtopdjebnfhfpcaaGreatDoor
