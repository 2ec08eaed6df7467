/-
  A check of regions that draw their order, by lists: cheap where a region is long.
-/
import Derived.Test.YtopdjebnfhfpcaaDoorNB
namespace Go.Proofs.YtopdjebnfhfpcaaDoor
open Go.RowKit
namespace Lex
def freeL (ops : Array Oper) (k : Nat) (o : Oper) : List Oper → Bool
  | [] => true
  | y :: ys => (o.apart ops y || y.after.toList.any fun e => Region.binds .any e && e.on == k) && freeL ops k o ys
def lexL (ops : Array Oper) : Nat → List Oper → Bool
  | _, [] => true
  | k, o :: rest => (o.after.toList.all fun e => !Region.binds .any e || Nat.ble (e.on + 1) k) && freeL ops k o rest && lexL ops (k + 1) rest
def noSel (l : List Oper) : Bool := l.all fun o => match o.op with | .select .. => false | _ => true
theorem freeL_spec {ops : Array Oper} {k : Nat} {o : Oper} : ∀ {l : List Oper}, freeL ops k o l = true → ∀ (j : Nat) (y : Oper), l[j]? = some y → (y.after.any fun e => Region.binds .any e && e.on == k) = true ∨ o.apart ops y = true
  | [], _, j, y, hy => by simp at hy
  | z :: zs, h, j, y, hy => by
    unfold freeL at h
    rw [Bool.and_eq_true, Bool.or_eq_true] at h
    cases j with
    | zero =>
      simp only [List.getElem?_cons_zero, Option.some.injEq] at hy
      subst hy
      rcases h.1 with h1 | h1
      · exact .inr h1
      · refine .inl ?_
        rw [← Array.any_toList]
        exact h1
    | succ j =>
      simp only [List.getElem?_cons_succ] at hy
      exact freeL_spec h.2 j y hy
theorem lexFrom_of {ops : Array Oper} : ∀ (l : List Oper) (k : Nat) (listed : Array Bool), (∀ j : Nat, l[j]? = ops[k + j]?) → k + l.length = ops.size → listed.size = ops.size → (∀ j : Nat, j < ops.size → listed[j]? = some (decide (j < k))) →
    lexL ops k l = true → Region.lexFrom .any ops l.length k listed = true
  | [], k, listed, hl, hk, hs, hd, _ => by
    simp only [List.length_nil, Nat.add_zero] at hk
    show (Region.ready .any ops listed).isEmpty = true
    rw [List.isEmpty_iff]
    refine List.eq_nil_iff_forall_not_mem.2 fun j hj => ?_
    obtain ⟨h0, o, ho, _⟩ := mem_ready.1 hj
    have hlt := (Array.getElem?_eq_some_iff.1 ho).1
    rw [Array.getD_eq_getD_getElem?, hd j hlt] at h0
    simp only [Option.getD_some, decide_eq_false_iff_not] at h0
    omega
  | o :: rest, k, listed, hl, hk, hs, hd, h => by
    simp only [List.length_cons] at hk
    unfold lexL at h
    rw [Bool.and_eq_true, Bool.and_eq_true] at h
    obtain ⟨⟨h1, h2⟩, h3⟩ := h
    have h0 : ops[k]? = some o := by simpa using (hl 0).symm
    have hlt : k < ops.size := by omega
    unfold Region.lexFrom
    simp only [List.length_cons]
    rw [Bool.and_eq_true, Bool.and_eq_true]
    refine ⟨⟨?_, ?_⟩, ?_⟩
    · rw [List.contains_iff_mem]
      refine mem_ready.2 ⟨?_, o, h0, fun e he hb => ?_⟩
      · rw [Array.getD_eq_getD_getElem?, hd k hlt]
        simp
      · have := List.all_eq_true.1 h1 e (Array.mem_toList_iff.2 he)
        rw [hb] at this
        simp only [Bool.not_true, Bool.false_or, Nat.ble_eq] at this
        rw [Array.getD_eq_getD_getElem?, hd e.on (by omega)]
        simp only [Option.getD_some, decide_eq_true_eq]
        omega
    · unfold Region.free
      rw [h0]
      simp only
      rw [List.all_eq_true]
      intro j hj
      rw [List.mem_range] at hj
      rw [Array.getD_eq_getD_getElem?, hd j hj]
      simp only [Option.getD_some]
      by_cases hjk : j ≤ k
      · rcases Nat.lt_or_ge j k with h' | h'
        · simp [h']
        · obtain rfl : j = k := by omega
          simp
      · obtain ⟨y, hy⟩ : ∃ y, ops[j]? = some y := ⟨ops[j], by simp⟩
        have hr : rest[j - k - 1]? = some y := by
          have := hl (j - k - 1 + 1)
          rw [show k + (j - k - 1 + 1) = j by omega, hy] at this
          simpa using this
        rw [hy]
        simp only
        rcases freeL_spec h2 _ y hr with g | g
        · rw [g]; simp
        · rw [g]; simp
    · refine lexFrom_of rest (k + 1) _ (fun j => ?_) (by omega) (by simp [hs]) (fun j hj => ?_) h3
      · have := hl (j + 1)
        simpa [Nat.add_assoc, Nat.add_comm 1 j] using this
      · rw [Array.getElem?_setIfInBounds]
        by_cases hkj : k = j
        · subst hkj
          simp [hs, hlt]
        · rw [if_neg hkj, hd j hj]
          congr 1
          simp only [decide_eq_decide]
          omega
theorem lexB_of {l : List Oper} (h1 : noSel l = true) (h : lexL l.toArray 0 l = true) : Region.lexB .any l.toArray = true := by
  unfold Region.lexB
  rw [Bool.and_eq_true]
  refine ⟨?_, ?_⟩
  · unfold Region.noSelect
    rw [← Array.all_toList]
    exact h1
  · have := lexFrom_of (ops := l.toArray) l 0 (Array.replicate l.toArray.size false) (fun j => by simp) (by simp) (by simp) (fun j hj => by
      simp only [List.size_toArray] at hj
      simp [Array.getElem?_replicate, hj]) h
    simpa using this
end Lex
end Go.Proofs.YtopdjebnfhfpcaaDoor
