/-
  The store in plain data: what is found, and what is around a second. No program stands in this text.
-/
import Derived.Test.YtjgodnakhbkgeaaStoreP
namespace Go.Proofs.Ytjgodnakhbkgeaa
open Go.RowKit NB
namespace Sto
theorem findR_mem : ∀ {l : List InfoV} {t : Int} {x : InfoV}, findR l t = (x, true) → x ∈ l ∧ x.fr ≤ t ∧ t < x.th
  | [], t, x, h => by cases h
  | y :: r, t, x, h => by
    unfold findR at h
    by_cases hy : has y t = true
    · rw [if_pos hy] at h
      cases h
      unfold has at hy
      simp only [Bool.and_eq_true, decide_eq_true_eq] at hy
      exact ⟨by simp, hy⟩
    · rw [if_neg hy] at h
      have := findR_mem h
      exact ⟨List.mem_cons_of_mem _ this.1, this.2⟩
theorem findR_in : ∀ {l : List InfoV} {t : Int} {i : InfoV}, Ord l → i ∈ l → i.fr ≤ t → t < i.th → findR l t = (i, true)
  | [], t, i, _, h, _, _ => by cases h
  | y :: r, t, i, ho, h, h1, h2 => by
    unfold findR
    rcases List.mem_cons.1 h with rfl | h
    · rw [if_pos (by unfold has; simp only [Bool.and_eq_true, decide_eq_true_eq]; exact ⟨h1, h2⟩)]
    · have := ho.2.1 i h
      rw [if_neg (by unfold has; simp only [Bool.and_eq_true, decide_eq_true_eq]; omega)]
      exact findR_in ho.2.2 h h1 h2
theorem find_mem {l : List InfoV} {t : Int} {x : InfoV} (ho : Ord l) (h : findP l t = (x, true)) : x ∈ l ∧ x.fr ≤ t ∧ t < x.th := by
  rw [find_eq l t ho] at h; exact findR_mem h
theorem find_in {l : List InfoV} {t : Int} {i : InfoV} (ho : Ord l) (h : i ∈ l) (h1 : i.fr ≤ t) (h2 : t < i.th) : findP l t = (i, true) := by
  rw [find_eq l t ho]; exact findR_in ho h h1 h2
theorem put_facts (room : Int) (l : List InfoV) (i : InfoV) (ho : Ord l) : ((putP room l i).1 = 0 ∧ (putP room l i).2.length = l.length + 1 ∨ ¬ (putP room l i).1 = 0 ∧ (putP room l i).2 = l) ∧ (∀ x ∈ (putP room l i).2, x ∈ l ∨ x = i) ∧ ∀ x ∈ l, x ∈ (putP room l i).2 := by
  have hp := place_le l i.fr
  have same : ∀ q : Int, ¬ q = 0 → ((q, l).1 = 0 ∧ (q, l).2.length = l.length + 1 ∨ ¬ (q, l).1 = 0 ∧ (q, l).2 = l) ∧ (∀ x ∈ (q, l).2, x ∈ l ∨ x = i) ∧ ∀ x ∈ l, x ∈ (q, l).2 :=
    fun q hq => ⟨.inr ⟨hq, rfl⟩, fun x hx => .inl hx, fun x hx => hx⟩
  have new : putP room l i = (0, l.take (place l i.fr) ++ i :: l.drop (place l i.fr)) → ((putP room l i).1 = 0 ∧ (putP room l i).2.length = l.length + 1 ∨ ¬ (putP room l i).1 = 0 ∧ (putP room l i).2 = l) ∧ (∀ x ∈ (putP room l i).2, x ∈ l ∨ x = i) ∧ ∀ x ∈ l, x ∈ (putP room l i).2 := by
    intro e
    rw [e]
    refine ⟨.inl ⟨rfl, ?_⟩, fun x hx => ?_, fun x hx => ?_⟩
    · simp only [List.length_append, List.length_take, List.length_cons, List.length_drop]; omega
    · rcases List.mem_append.1 hx with h | h
      · exact .inl (List.mem_of_mem_take h)
      · rcases List.mem_cons.1 h with h | h
        · exact .inr h
        · exact .inl (List.mem_of_mem_drop h)
    · rw [← List.take_append_drop (place l i.fr) l] at hx
      rcases List.mem_append.1 hx with h | h
      · exact List.mem_append_left _ h
      · exact List.mem_append_right _ (List.mem_cons_of_mem _ h)
  rcases put_ways room l i ho with ⟨h1, e⟩ | ⟨h1, h2, e⟩ | ⟨x, h1, h2, h3, h4, e⟩ | ⟨x, h1, h2, h3, h4, ⟨h5, e⟩ | ⟨h5, h6, e⟩⟩ | ⟨h1, h2, ⟨h5, e⟩ | ⟨h5, h6, e⟩⟩
  · rw [e]; exact same 4 (by decide)
  · rw [e]; exact same 11 (by decide)
  · rw [e]; exact same 21 (by decide)
  · rw [e]; exact same 17 (by decide)
  · exact new e
  · rw [e]; exact same 17 (by decide)
  · exact new e
theorem near_facts {l : List InfoV} {t : Int} (ho : Ord l) {a b : InfoV} {k m : Bool} (h : nearP l t = (a, b, k, m)) : (k = true → a.th ≤ t) ∧ (m = true → t < b.fr) := by
  unfold nearP at h
  simp only [Prod.mk.injEq] at h
  obtain ⟨h1, h2, h3, h4⟩ := h
  constructor
  · intro hk
    rw [hk] at h3
    have hp : 0 < place l t := of_decide_eq_true h3
    rw [if_pos hp] at h1
    have hle := place_le l t
    obtain ⟨x, hx⟩ : ∃ x, l[place l t - 1]? = some x := ⟨_, List.getElem?_eq_getElem (by omega)⟩
    rw [List.getD_eq_getElem?_getD, hx] at h1
    simp only [Option.getD_some] at h1
    subst h1
    exact place_lt l t _ _ (by omega) hx
  · intro hm
    rw [hm] at h4
    unfold nextP at h2 h4
    cases hx : l[place l t]? with
    | none => simp only [hx] at h4; cases h4
    | some x =>
      by_cases hf : x.fr ≤ t
      · simp only [hx, hf, if_true] at h2 h4
        cases hy : l[place l t + 1]? with
        | none => rw [hy] at h4; cases h4
        | some y =>
          rw [hy] at h2
          simp only at h2
          subst h2
          have := Ord.step ho _ _ _ _ (Nat.lt_succ_self _) hx hy
          have := place_at l t x hx
          omega
      · simp only [hx, hf, if_false] at h2 h4
        subst h2
        omega
theorem any_take {l : List InfoV} {k : Nat} {x : InfoV} (hx : l[k]? = some x) (p : InfoV → Bool) : (l.take (k + 1)).any p = ((l.take k).any p || p x) := by
  rw [List.take_add_one, hx, List.any_append]; simp
end Sto
end Go.Proofs.Ytjgodnakhbkgeaa
