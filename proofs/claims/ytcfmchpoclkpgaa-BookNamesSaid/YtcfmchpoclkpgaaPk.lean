/-
  A slice of structs, taken apart: the one form that serves nil, empty and filled slices; two lists held side by side.
-/
import Derived.Test.YtcfmchpoclkpgaaSlc
import Derived.Test.YtcfmchpoclkpgaaEraV
namespace Go.Proofs.Ytcfmchpoclkpgaa
open Go.RowKit NB
theorem HoldsG.pk {α : Type} {k : Nat} {f : α → List Value} {w : World} {v : Value} {l : List α} (h : HoldsG k f w v l) : ∃ p cap, v = .slice p l.length cap ∧ ∀ i x, l[i]? = some x → ∃ b off, p = some ⟨b, off, none⟩ ∧ b < w.heap.size ∧ ∀ j u, (f x)[j]? = some u → w.cell? ⟨b, off + i * k + j, none⟩ = some u := by
  rcases h.lies with ⟨p, cap, rfl, rfl⟩ | ⟨b, off, cap, rfl, hb, hl⟩
  · exact ⟨p, cap, rfl, fun i x hx => by simp at hx⟩
  · refine ⟨_, cap, rfl, fun i x hx => ⟨b, off, rfl, hb, fun j u hu => hl i j (f x) u ?_ hu⟩⟩
    rw [List.getElem?_map, hx]; rfl
theorem HoldsE.g {w : World} {v : Value} {es : List EraV} (h : HoldsE w v es) : HoldsG 13 EraV.cells w v es := ⟨h.lies, h.len⟩
theorem Holds.g {w : World} {v : Value} {l : List RuleV} (h : Holds w v l) : HoldsG 11 RuleV.cells w v l := ⟨h.lies, h.len⟩
namespace Eqs
theorem list_all {α : Type} {l m : List α} (hl : l.length = m.length) (h : ∀ k x y, k < l.length → l[k]? = some x → m[k]? = some y → x = y) : l = m := by
  apply List.ext_getElem hl
  intro k h1 h2
  exact h k _ _ h1 (List.getElem?_eq_getElem h1) (List.getElem?_eq_getElem h2)
theorem list_no {α : Type} {l m : List α} {k : Nat} {x y : α} (hx : l[k]? = some x) (hy : m[k]? = some y) (h : ¬ x = y) : ¬ l = m := by
  rintro rfl
  rw [hx] at hy
  exact h (Option.some.inj hy)
theorem boxU0 (X : World) (o : Obj) (cs : Array Value) (t : TypeId) : Box ((X.alloc o).alloc (.cells cs t)) (X.heap.size + 1) cs t := by
  have := Box.new (X.alloc o) cs t
  rwa [World.size_alloc] at this
end Eqs
end Go.Proofs.Ytcfmchpoclkpgaa
