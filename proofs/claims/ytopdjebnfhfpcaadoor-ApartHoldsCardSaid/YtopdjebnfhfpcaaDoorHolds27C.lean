/-
  noontidelaw27.ApartHolds: the walk, joined.
-/
import Derived.Test.YtopdjebnfhfpcaaDoorHolds27B
import Derived.Test.YtopdjebnfhfpcaaDoorOpenO
namespace Go.Proofs.YtopdjebnfhfpcaaDoor
open Go.RowKit NB Nxt
namespace L27
theorem next_nil (name : ByteArray) (fr : OccV) : Occ.nextO [] name fr = none := rfl
theorem holds (v : Value) (l : List RuleV) (name : ByteArray) (fr : OccV) (w : World) (h : Holds w v l) (hlen : l.length * 104 ≤ 140737488355328) (_ : name.size ≤ 9223372036854775807) (_ : fr.Fit) :
    Calls Tryd.prog 7 #[v, .string name, .agg fr.cells.toArray] w fun e w' => e = .returned (.bool true) ∧ Below w.heap.size w w' := by
  cases hl : Lgt.light l
  · exact holds0 v l name fr w h hlen (.inl hl)
  by_cases hx : (Chk.check l).2 = 0
  · cases hk : Occ.nextO l name fr with
    | none => exact holds1 v l name fr w h hlen hl hx hk
    | some A =>
      have h' := h
      rcases h.lies with ⟨p, cap, rfl, rfl⟩ | ⟨b, off, cap, rfl, h2, h3⟩
      · rw [next_nil] at hk; cases hk
      · exact holds2 b off cap l name fr A w h' h2 h3 hlen hl hx hk
  · exact holds0 v l name fr w h hlen (.inr hx)
end L27
end Go.Proofs.YtopdjebnfhfpcaaDoor
