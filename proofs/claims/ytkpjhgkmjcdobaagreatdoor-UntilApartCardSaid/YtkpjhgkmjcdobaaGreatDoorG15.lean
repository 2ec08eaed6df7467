import Derived.Test.YtkpjhgkmjcdobaaGreatDoorG6
import Derived.Test.YtkpjhgkmjcdobaaGreatDoorG9
import Derived.Test.YtkpjhgkmjcdobaaGreatDoorGrp
import Derived.Test.YtkpjhgkmjcdobaaGreatDoorG8
import Derived.Test.YtkpjhgkmjcdobaaGreatDoorG1
import Derived.Test.YtkpjhgkmjcdobaaGreatDoorChain
/-
  The rules that the statements name: noontidelaw26.Us, noontidelaw21.Eu.
-/
namespace Go.Proofs.YtkpjhgkmjcdobaaGreatDoor
open Go.RowKit NB
namespace Us
def us0 : RuleV := ⟨⟨#[85, 83]⟩, 2007, 32767, 3, 2, 0, 8, 7200, 0, 3600, ⟨#[68]⟩⟩
def us1 : RuleV := ⟨⟨#[85, 83]⟩, 2007, 32767, 11, 2, 0, 1, 7200, 0, 0, ⟨#[83]⟩⟩
def eu : RuleV := ⟨⟨#[69, 85]⟩, 1981, 32767, 3, 1, 0, 0, 3600, 2, 3600, ⟨#[83]⟩⟩
theorem Us (w : World) : Calls Tryz.prog 37 #[] w fun e w' => e = .returned (.slice (some ⟨w.heap.size, 0, none⟩) 2 2) ∧ w' = w.alloc (.cells (us0.cells ++ us1.cells).toArray 75) := by
  unfold us0 us1 RuleV.cells
  go_enter Tryz.func37, Tryz.ntmps37
  go_wp2
  go_ret
  exact ⟨rfl, rfl⟩
def zero : RuleV := ⟨⟨#[]⟩, 0, 0, 0, 0, 0, 0, 0, 0, 0, ⟨#[]⟩⟩
def enn : RuleV := ⟨⟨#[69, 85]⟩, 1981, 32767, 4, 0, 0, 1, 3600, 2, 3600, ⟨#[83]⟩⟩
def emm : RuleV := ⟨⟨#[69, 85]⟩, 1992, 32767, 4, 0, 0, 1, 3600, 2, 3600, ⟨#[83]⟩⟩
def eoo : RuleV := ⟨⟨#[69, 85]⟩, 1981, 1990, 3, 1, 0, 0, 3600, 2, 3600, ⟨#[83]⟩⟩
theorem fit_us0 : us0.Fit := ⟨by decide, by decide, by unfold I64; decide, by unfold I64; decide, by unfold I64; decide, by unfold I64; decide⟩
theorem fit_us1 : us1.Fit := ⟨by decide, by decide, by unfold I64; decide, by unfold I64; decide, by unfold I64; decide, by unfold I64; decide⟩
theorem fit_eu : eu.Fit := ⟨by decide, by decide, by unfold I64; decide, by unfold I64; decide, by unfold I64; decide, by unfold I64; decide⟩
theorem fit_zero : zero.Fit := ⟨by decide, by decide, by unfold I64; decide, by unfold I64; decide, by unfold I64; decide, by unfold I64; decide⟩
theorem fit_enn : enn.Fit := ⟨by decide, by decide, by unfold I64; decide, by unfold I64; decide, by unfold I64; decide, by unfold I64; decide⟩
theorem fit_emm : emm.Fit := ⟨by decide, by decide, by unfold I64; decide, by unfold I64; decide, by unfold I64; decide, by unfold I64; decide⟩
theorem fit_eoo : eoo.Fit := ⟨by decide, by decide, by unfold I64; decide, by unfold I64; decide, by unfold I64; decide, by unfold I64; decide⟩
end Us
end Go.Proofs.YtkpjhgkmjcdobaaGreatDoor
/-
  Slices of rules and of occurrences in blocks that were just laid.
-/
namespace Go.Proofs.YtkpjhgkmjcdobaaGreatDoor
open Go.RowKit NB
namespace Nw
theorem rule_len (r : RuleV) : r.cells.length = 11 := rfl
theorem lies_new (X : World) (l : List RuleV) (cs : Array Value) (t : TypeId) (h : cs.toList = l.flatMap RuleV.cells) : Lies (X.alloc (.cells cs t)) X.heap.size 0 11 (l.map RuleV.cells) := by
  intro i j c v hi hj
  rw [List.getElem?_map] at hi
  cases hx : l[i]? with
  | none => rw [hx] at hi; cases hi
  | some x =>
    rw [hx] at hi
    cases hi
    rw [cell_of_row _ _ _ _ _ _ (heap_alloc_new X _), Nat.zero_add]
    have := Grp.flat_at rule_len l i j x v hx hj
    rw [← h] at this
    simpa using this
theorem holds_new (X : World) (l : List RuleV) (cs : Array Value) (t : TypeId) (cap n : Nat) (hn : n = l.length) (h : cs.toList = l.flatMap RuleV.cells) (hf : ∀ r ∈ l, r.Fit) (hl : l.length ≤ 9223372036854775807) : Holds (X.alloc (.cells cs t)) (.slice (some ⟨X.heap.size, 0, none⟩) n cap) l := by
  subst hn
  exact ⟨.inr ⟨X.heap.size, 0, cap, rfl, by simp, lies_new X l cs t h⟩, hf, hl⟩
end Nw
end Go.Proofs.YtkpjhgkmjcdobaaGreatDoor
/-
  A check of regions that draw their order, by lists: cheap where a region is long.
-/
namespace Go.Proofs.YtkpjhgkmjcdobaaGreatDoor
open Go.RowKit
namespace Lex
def freeL (ops : Array Oper) (k : Nat) (o : Oper) : List Oper → Bool
  | [] => true
  | y :: ys => (o.apart ops y || y.after.toList.any fun e => Region.binds .any e && e.on == k) && freeL ops k o ys
def lexL (ops : Array Oper) : Nat → List Oper → Bool
  | _, [] => true
  | k, o :: rest => (o.after.toList.all fun e => !Region.binds .any e || Nat.ble (e.on + 1) k) && freeL ops k o rest && lexL ops (k + 1) rest
def noSel (l : List Oper) : Bool := l.all fun o => match o.op with | .select .. => false | _ => true
theorem freeL_spec {ops : Array Oper} {k : Nat} {o : Oper} : ∀ {l : List Oper}, freeL ops k o l = true → ∀ (j : Nat) (y : Oper), l[j]? = some y → (y.after.any fun e => Region.binds .any e && e.on == k) = true ∨ o.apart ops y = true
  | [], _, j, y, hy => by simp at hy
  | z :: zs, h, j, y, hy => by
    unfold freeL at h
    rw [Bool.and_eq_true, Bool.or_eq_true] at h
    cases j with
    | zero =>
      simp only [List.getElem?_cons_zero, Option.some.injEq] at hy
      subst hy
      rcases h.1 with h1 | h1
      · exact .inr h1
      · refine .inl ?_
        rw [← Array.any_toList]
        exact h1
    | succ j =>
      simp only [List.getElem?_cons_succ] at hy
      exact freeL_spec h.2 j y hy
theorem lexFrom_of {ops : Array Oper} : ∀ (l : List Oper) (k : Nat) (listed : Array Bool), (∀ j : Nat, l[j]? = ops[k + j]?) → k + l.length = ops.size → listed.size = ops.size → (∀ j : Nat, j < ops.size → listed[j]? = some (decide (j < k))) →
    lexL ops k l = true → Region.lexFrom .any ops l.length k listed = true
  | [], k, listed, hl, hk, hs, hd, _ => by
    simp only [List.length_nil, Nat.add_zero] at hk
    show (Region.ready .any ops listed).isEmpty = true
    rw [List.isEmpty_iff]
    refine List.eq_nil_iff_forall_not_mem.2 fun j hj => ?_
    obtain ⟨h0, o, ho, _⟩ := mem_ready.1 hj
    have hlt := (Array.getElem?_eq_some_iff.1 ho).1
    rw [Array.getD_eq_getD_getElem?, hd j hlt] at h0
    simp only [Option.getD_some, decide_eq_false_iff_not] at h0
    omega
  | o :: rest, k, listed, hl, hk, hs, hd, h => by
    simp only [List.length_cons] at hk
    unfold lexL at h
    rw [Bool.and_eq_true, Bool.and_eq_true] at h
    obtain ⟨⟨h1, h2⟩, h3⟩ := h
    have h0 : ops[k]? = some o := by simpa using (hl 0).symm
    have hlt : k < ops.size := by omega
    unfold Region.lexFrom
    simp only [List.length_cons]
    rw [Bool.and_eq_true, Bool.and_eq_true]
    refine ⟨⟨?_, ?_⟩, ?_⟩
    · rw [List.contains_iff_mem]
      refine mem_ready.2 ⟨?_, o, h0, fun e he hb => ?_⟩
      · rw [Array.getD_eq_getD_getElem?, hd k hlt]
        simp
      · have := List.all_eq_true.1 h1 e (Array.mem_toList_iff.2 he)
        rw [hb] at this
        simp only [Bool.not_true, Bool.false_or, Nat.ble_eq] at this
        rw [Array.getD_eq_getD_getElem?, hd e.on (by omega)]
        simp only [Option.getD_some, decide_eq_true_eq]
        omega
    · unfold Region.free
      rw [h0]
      simp only
      rw [List.all_eq_true]
      intro j hj
      rw [List.mem_range] at hj
      rw [Array.getD_eq_getD_getElem?, hd j hj]
      simp only [Option.getD_some]
      by_cases hjk : j ≤ k
      · rcases Nat.lt_or_ge j k with h' | h'
        · simp [h']
        · obtain rfl : j = k := by omega
          simp
      · obtain ⟨y, hy⟩ : ∃ y, ops[j]? = some y := ⟨ops[j], by simp⟩
        have hr : rest[j - k - 1]? = some y := by
          have := hl (j - k - 1 + 1)
          rw [show k + (j - k - 1 + 1) = j by omega, hy] at this
          simpa using this
        rw [hy]
        simp only
        rcases freeL_spec h2 _ y hr with g | g
        · rw [g]; simp
        · rw [g]; simp
    · refine lexFrom_of rest (k + 1) _ (fun j => ?_) (by omega) (by simp [hs]) (fun j hj => ?_) h3
      · have := hl (j + 1)
        simpa [Nat.add_assoc, Nat.add_comm 1 j] using this
      · rw [Array.getElem?_setIfInBounds]
        by_cases hkj : k = j
        · subst hkj
          simp [hs, hlt]
        · rw [if_neg hkj, hd j hj]
          congr 1
          simp only [decide_eq_decide]
          omega
theorem lexB_of {l : List Oper} (h1 : noSel l = true) (h : lexL l.toArray 0 l = true) : Region.lexB .any l.toArray = true := by
  unfold Region.lexB
  rw [Bool.and_eq_true]
  refine ⟨?_, ?_⟩
  · unfold Region.noSelect
    rw [← Array.all_toList]
    exact h1
  · have := lexFrom_of (ops := l.toArray) l 0 (Array.replicate l.toArray.size false) (fun j => by simp) (by simp) (by simp) (fun j hj => by
      simp only [List.size_toArray] at hj
      simp [hj]) h
    simpa using this
end Lex
end Go.Proofs.YtkpjhgkmjcdobaaGreatDoor
/-
  noontidelaw26.lives.
-/
namespace Go.Proofs.YtkpjhgkmjcdobaaGreatDoor
open Go.RowKit NB Nxt
namespace L26
theorem n1 : Occ.nextO [Us.us0, Us.us1] ⟨#[85, 83]⟩ ⟨0, 0, 1720000000⟩ = some ⟨1, 2024, 1730599200⟩ := by decide +kernel
theorem i1 : Chn.instE [Us.us0, Us.us1] ⟨#[85, 83]⟩ (-18000) ⟨1, 2024, 1730599200⟩ = (1730613600, 0) := by decide +kernel
theorem i2 : Chn.instE [Us.us0, Us.us1] ⟨#[85, 83]⟩ 54001 ⟨1, 2024, 1730599200⟩ = (0, 1) := by decide +kernel
theorem i3 : Chn.instE [Us.us0, Us.us1] ⟨#[85, 83]⟩ 0 ⟨0, 0, 5⟩ = (0, 12) := by decide +kernel
theorem k1 : Chn.clockE [Us.us0, Us.us1] ⟨#[85, 83]⟩ (-18000) 1720000000 0 = (1720014400, 0) := by decide +kernel
theorem k2 : Chn.clockE [Us.us0, Us.us1] ⟨#[85, 83]⟩ (-18000) 1720000000 3 = (0, 4) := by decide +kernel
theorem k3 : Chn.clockE [Us.us0, Us.us1] ⟨#[85, 83]⟩ (-18000) 1125899906842624 3 = (0, 1) := by decide +kernel
theorem s1 : Chn.saved [Us.us0, Us.us1] ⟨#[85, 83]⟩ ⟨1, 2024, 1730599200⟩ = 3600 := by decide +kernel
theorem s2 : Chn.saved [Us.us0, Us.us1] ⟨#[85, 83]⟩ ⟨0, 0, 0⟩ = 0 := by decide +kernel
theorem l1 : Chn.lastO [Us.us0, Us.us1] ⟨#[85, 83]⟩ (-18000) 1730613600 = some ⟨1, 2024, 1730599200⟩ := by
  unfold Chn.lastO
  rw [if_pos (by decide +kernel), show Occ.prevO [Us.us0, Us.us1] ⟨#[85, 83]⟩ ⟨-1, 0, Chn.clampE 1730613600 + 64800 + 1⟩ = some ⟨1, 2024, 1730599200⟩ by decide +kernel]
  exact Occ.pick_here (by decide +kernel)
theorem l2 : Chn.lastO [Us.us0, Us.us1] ⟨#[85, 83]⟩ (-18000) 1730613599 = some ⟨0, 2024, 1710036000⟩ := by
  unfold Chn.lastO
  rw [if_pos (by decide +kernel), show Occ.prevO [Us.us0, Us.us1] ⟨#[85, 83]⟩ ⟨-1, 0, Chn.clampE 1730613599 + 64800 + 1⟩ = some ⟨1, 2024, 1730599200⟩ by decide +kernel]
  rw [Occ.step_prev (by decide +kernel), show Occ.prevO [Us.us0, Us.us1] ⟨#[85, 83]⟩ ⟨1, 2024, 1730599200⟩ = some ⟨0, 2024, 1710036000⟩ by decide +kernel]
  exact Occ.pick_here (by decide +kernel)
theorem l3 : Chn.lastO [Us.us0, Us.us1] ⟨#[85, 83]⟩ 0 0 = none := by
  unfold Chn.lastO
  rw [if_pos (by decide +kernel), show Occ.prevO [Us.us0, Us.us1] ⟨#[85, 83]⟩ ⟨-1, 0, Chn.clampE 0 + 64800 + 1⟩ = none by decide +kernel]
  exact Occ.pick_none
theorem a1 : Chn.afterO [Us.us0, Us.us1] ⟨#[85, 83]⟩ (-18000) 1730613599 = some ⟨1, 2024, 1730599200⟩ := by
  unfold Chn.afterO
  rw [if_pos (by decide +kernel), show Occ.nextO [Us.us0, Us.us1] ⟨#[85, 83]⟩ ⟨-1, 0, Chn.clampE 1730613599 - 64800⟩ = some ⟨1, 2024, 1730599200⟩ by decide +kernel]
  exact Occ.pick_here (by decide +kernel)
theorem a2 : Chn.afterO [Us.us0, Us.us1] ⟨#[85, 83]⟩ 54001 0 = none := by
  unfold Chn.afterO
  rw [if_neg (by decide +kernel)]
end L26
end Go.Proofs.YtkpjhgkmjcdobaaGreatDoor
