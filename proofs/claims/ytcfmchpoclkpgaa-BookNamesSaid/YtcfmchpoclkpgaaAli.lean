/-
  A row of slices of strings, each of which the call owns: one of them appended to.
-/
import Derived.Test.YtcfmchpoclkpgaaStrs
import Derived.Laws.MakeOwn
namespace Go.Proofs.Ytcfmchpoclkpgaa
open Go.RowKit NB
/-- block ab holds n slices; number i holds G i; no two lie in one row -/
def Ali (W : World) (ab n base : Nat) (G : Nat → List ByteArray) : Prop :=
  ∃ vs : List Value, vs.length = n ∧ Box W ab vs.toArray 48 ∧ (∀ i v, vs[i]? = some v → OwnS W base v (G i)) ∧
    (∀ (i j : Nat) (v u : Value), i ≠ j → vs[i]? = some v → vs[j]? = some u → v.ownBlock = none ∨ v.ownBlock ≠ u.ownBlock)
namespace Ali
theorem made {W : World} {ab n base : Nat} (h : Box W ab (madeCells #[.slice none 0 0] n) 48) : Ali W ab n base (fun _ => []) := by
  refine ⟨List.replicate n (.slice none 0 0), by simp, ?_, fun i v hv => ?_, fun i j v u _ hv _ => ?_⟩
  · have e : madeCells #[Value.slice none 0 0] n = (List.replicate n (Value.slice none 0 0)).toArray := by
      apply Array.ext
      · simp [madeCells]
      · intro i h1 h2
        simp [madeCells, Nat.mod_one]
    rw [← e]
    exact h
  · rw [List.getElem?_replicate] at hv
    split at hv
    · cases hv
      exact World.ownsRow_nil _ _ _ _
    · cases hv
  · rw [List.getElem?_replicate] at hv
    split at hv
    · cases hv
      exact .inl rfl
    · cases hv
theorem grown_set (w : World) (b j : Nat) (v : Value) : w.grownBy (w.setCell ⟨b, j, none⟩ v) (some b) := by
  refine ⟨rfl, rfl, rfl, by simp, fun k _ hk => Below.heap_setCell w ⟨b, j, none⟩ v k (fun e => hk (by rw [e]))⟩
theorem set {W w1 : World} {ab n base i m : Nat} {G : Nat → List ByteArray} {vs : List Value} {v v' : Value} {s : ByteArray} (hl : vs.length = n) (hb : Box W ab vs.toArray 48) (ho : ∀ (i : Nat) (v : Value), vs[i]? = some v → OwnS W base v (G i))
    (hd : ∀ (i j : Nat) (v u : Value), i ≠ j → vs[i]? = some v → vs[j]? = some u → v.ownBlock = none ∨ v.ownBlock ≠ u.ownBlock) (hab : ab < base) (hv : vs[i]? = some v)
    (hg : W.grownBy w1 v.ownBlock) (hown : OwnR w1 base v' m (G i ++ [s])) (hloc : v'.ownBlock = v.ownBlock ∨ ∃ g, v'.ownBlock = some g ∧ W.heap.size ≤ g) :
    Ali (w1.setCell ⟨ab, i, none⟩ v') ab n base (fun j => if j = i then G i ++ [s] else G j) := by
  have hil := (List.getElem?_eq_some_iff.1 hv).1
  have habo : ∀ u l, OwnS W base u l → u.ownBlock ≠ some ab := fun u l h e => by have := (h.lt ab e).1; omega
  have habo' : ∀ u l, OwnS w1 base u l → u.ownBlock ≠ some ab := fun u l h e => by have := (h.lt ab e).1; omega
  have hb1 : Box w1 ab vs.toArray 48 := (hg.block ab hb.lt (fun e => habo v _ (ho i v hv) e.symm)).trans hb
  refine ⟨vs.set i v', by simp [hl], ?_, fun j u hu => ?_, fun j k u x hjk hu hx => ?_⟩
  · have := hb1.set (j := i) (v := v')
    simpa using this
  · dsimp only
    rw [List.getElem?_set] at hu
    by_cases hij : i = j
    · subst hij
      rw [if_pos rfl, if_pos hil] at hu
      cases hu
      rw [if_pos rfl]
      exact OwnR.s (hown.kept (grown_set _ _ _ _) (.inr (fun e => by have := (hown.lt ab e).1; omega)))
    · rw [if_neg hij] at hu
      rw [if_neg (Ne.symm hij)]
      have h1 := ho j u hu
      have h2 : OwnS w1 base u (G j) := h1.kept hg (hd j i u v (Ne.symm hij) hu hv)
      exact h2.kept (grown_set _ _ _ _) (.inr (habo' u _ h2))
  · have old : ∀ (j : Nat) (u : Value), j ≠ i → vs[j]? = some u → u.ownBlock = none ∨ u.ownBlock ≠ v'.ownBlock := fun j u hj hu => by
      rcases hloc with h | ⟨g, h, hgs⟩
      · rw [h]
        exact hd j i u v hj hu hv
      · cases hub : u.ownBlock with
        | none => exact .inl rfl
        | some q =>
          refine .inr (fun e => ?_)
          rw [h] at e
          cases e
          have := ((ho j u hu).lt g hub).2
          omega
    rw [List.getElem?_set] at hu hx
    by_cases hij : i = j
    · subst hij
      rw [if_pos rfl, if_pos hil] at hu
      rw [if_neg hjk] at hx
      cases hu
      cases hvb : v'.ownBlock with
      | none => exact .inl rfl
      | some q =>
        refine .inr (fun e => ?_)
        rcases old k x (Ne.symm hjk) hx with h | h
        · rw [h] at e
          cases e
        · exact h (e.symm.trans hvb.symm)
    · rw [if_neg hij] at hu
      by_cases hik : i = k
      · subst hik
        rw [if_pos rfl, if_pos hil] at hx
        cases hx
        exact old j u (Ne.symm hij) hu
      · rw [if_neg hik] at hx
        exact hd j k u x hjk hu hx
end Ali
end Go.Proofs.Ytcfmchpoclkpgaa
