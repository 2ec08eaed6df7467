/-
  The store in plain data: infos in order; what putting, finding, dropping and looking around give, by halves and by the document's way. No program stands in this text.
-/
import Derived.Test.YtjgodnakhbkgeaaNC
namespace Go.Proofs.Ytjgodnakhbkgeaa
open Go.RowKit NB
/-- An info in plain data: from, to (th), offset, saved, name. -/
structure InfoV where
  fr : Int
  th : Int
  off : Int
  save : Int
  abbr : ByteArray
deriving DecidableEq
def InfoV.cells (v : InfoV) : List Value := [.int .i64 v.fr, .int .i64 v.th, .int .i64 v.off, .int .i64 v.save, .string v.abbr]
namespace Sto
/-- infos in order -/
def Ord : List InfoV → Prop
  | [] => True
  | x :: r => x.fr < x.th ∧ (∀ y ∈ r, x.th ≤ y.fr) ∧ Ord r
/-- where the first one is that ends behind a second -/
def place : List InfoV → Int → Nat
  | [], _ => 0
  | x :: r, t => if x.th ≤ t then place r t + 1 else 0
theorem place_le : ∀ (l : List InfoV) (t : Int), place l t ≤ l.length
  | [], _ => Nat.le_refl _
  | x :: r, t => by
    have := place_le r t
    unfold place
    split <;> simp <;> omega
def has (x : InfoV) (t : Int) : Bool := decide (x.fr ≤ t) && decide (t < x.th)
def meet (a b : InfoV) : Bool := decide (a.fr < a.th) && (decide (b.fr < b.th) && (has a b.fr || has b a.fr))
def none0 : InfoV := ⟨0, 0, 0, 0, ⟨#[]⟩⟩
/-- putting, by the place: the error, and what is kept -/
def putP (room : Int) (l : List InfoV) (i : InfoV) : Int × List InfoV :=
  if ¬ i.fr < i.th then (4, l)
  else if l[place l i.fr]? = some i then (11, l)
  else if (match l[place l i.fr]? with | some x => decide (x.fr < i.th) | none => false) = true then (21, l)
  else if (l.length : Int) = room then (17, l)
  else (0, l.take (place l i.fr) ++ i :: l.drop (place l i.fr))
/-- putting, the document's way -/
def firsts : List InfoV → Int → Nat
  | [], _ => 0
  | x :: r, t => if x.fr < t then firsts r t + 1 else 0
theorem firsts_le : ∀ (l : List InfoV) (t : Int), firsts l t ≤ l.length
  | [], _ => Nat.le_refl _
  | x :: r, t => by
    have := firsts_le r t
    unfold firsts
    split <;> simp <;> omega
def putR (room : Int) (l : List InfoV) (i : InfoV) : Int × List InfoV :=
  if ¬ i.fr < i.th then (4, l)
  else if l.any (fun x => decide (x = i)) = true then (11, l)
  else if l.any (fun x => meet x i) = true then (21, l)
  else if room ≤ (l.length : Int) then (17, l)
  else (0, l.take (firsts l i.fr) ++ i :: l.drop (firsts l i.fr))
theorem any_eq : ∀ (l : List InfoV) (i : InfoV), Ord l → i.fr < i.th → (l.any (fun x => decide (x = i)) = true ↔ l[place l i.fr]? = some i)
  | [], i, _, _ => by simp [place]
  | x :: r, i, h, hi => by
    obtain ⟨h1, h2, h3⟩ := h
    have ih := any_eq r i h3 hi
    unfold place
    by_cases hx : x.th ≤ i.fr
    · rw [if_pos hx, List.getElem?_cons_succ, ← ih, List.any_cons]
      have : ¬ x = i := by rintro rfl; omega
      simp [this]
    · rw [if_neg hx]
      simp only [List.any_cons, List.getElem?_cons_zero, Option.some.injEq, Bool.or_eq_true, decide_eq_true_eq, List.any_eq_true]
      refine ⟨fun h => h.elim id fun ⟨y, hy, e⟩ => ?_, .inl⟩
      have := h2 y hy
      subst e
      omega
theorem any_meet : ∀ (l : List InfoV) (i : InfoV), Ord l → i.fr < i.th → (l.any (fun x => meet x i) = true ↔ (match l[place l i.fr]? with | some x => decide (x.fr < i.th) | none => false) = true)
  | [], i, _, _ => by simp [place]
  | x :: r, i, h, hi => by
    obtain ⟨h1, h2, h3⟩ := h
    have ih := any_meet r i h3 hi
    unfold place
    by_cases hx : x.th ≤ i.fr
    · rw [if_pos hx, List.getElem?_cons_succ, ← ih, List.any_cons]
      have : meet x i = false := by
        unfold meet has
        simp only [Bool.and_eq_false_iff, Bool.or_eq_false_iff, decide_eq_false_iff_not]
        omega
      simp [this]
    · rw [if_neg hx]
      simp only [List.any_cons, List.getElem?_cons_zero, Bool.or_eq_true, decide_eq_true_eq, List.any_eq_true]
      have hm : ∀ y, meet y i = true → y.fr < i.th := by
        intro y hy
        unfold meet has at hy
        simp only [Bool.and_eq_true, Bool.or_eq_true, decide_eq_true_eq] at hy
        omega
      constructor
      · rintro (h | ⟨y, hy, e⟩)
        · exact hm x h
        · have := h2 y hy
          have := hm y e
          omega
      · intro h
        left
        unfold meet has
        simp only [Bool.and_eq_true, Bool.or_eq_true, decide_eq_true_eq]
        omega
theorem firsts_eq : ∀ (l : List InfoV) (i : InfoV), Ord l → i.fr < i.th → ¬ (match l[place l i.fr]? with | some x => decide (x.fr < i.th) | none => false) = true → firsts l i.fr = place l i.fr
  | [], i, _, _, _ => rfl
  | x :: r, i, h, hi, hm => by
    obtain ⟨h1, h2, h3⟩ := h
    unfold place at hm ⊢
    unfold firsts
    by_cases hx : x.th ≤ i.fr
    · rw [if_pos hx, List.getElem?_cons_succ] at hm
      rw [if_pos hx, if_pos (by omega), firsts_eq r i h3 hi hm]
    · rw [if_neg hx, List.getElem?_cons_zero] at hm
      simp only [decide_eq_true_eq] at hm
      rw [if_neg hx, if_neg (by omega)]
theorem put_eq (room : Int) (l : List InfoV) (i : InfoV) (h : Ord l) (hr : (l.length : Int) ≤ room) : putP room l i = putR room l i := by
  unfold putP putR
  by_cases hi : i.fr < i.th
  · have hn : ¬ ¬ i.fr < i.th := by simpa using hi
    rw [if_neg hn, if_neg hn]
    by_cases h1 : l[place l i.fr]? = some i
    · rw [if_pos h1, if_pos ((any_eq l i h hi).2 h1)]
    · rw [if_neg h1, if_neg (fun e => h1 ((any_eq l i h hi).1 e))]
      by_cases h2 : (match l[place l i.fr]? with | some x => decide (x.fr < i.th) | none => false) = true
      · rw [if_pos h2, if_pos ((any_meet l i h hi).2 h2)]
      · rw [if_neg h2, if_neg (fun e => h2 ((any_meet l i h hi).1 e)), firsts_eq l i h hi h2]
        by_cases h3 : (l.length : Int) = room
        · rw [if_pos h3, if_pos (by omega)]
        · rw [if_neg h3, if_neg (by omega)]
  · rw [if_pos hi, if_pos hi]
theorem place_lt : ∀ (l : List InfoV) (t : Int) (j : Nat) (x : InfoV), j < place l t → l[j]? = some x → x.th ≤ t
  | [], _, j, x, h, _ => by simp [place] at h
  | y :: r, t, j, x, h, hx => by
    unfold place at h
    by_cases hy : y.th ≤ t
    · rw [if_pos hy] at h
      cases j with
      | zero => simp at hx; subst hx; exact hy
      | succ j => exact place_lt r t j x (by omega) (by simpa using hx)
    · rw [if_neg hy] at h; omega
theorem place_at : ∀ (l : List InfoV) (t : Int) (x : InfoV), l[place l t]? = some x → t < x.th
  | [], t, x, h => by simp at h
  | y :: r, t, x, h => by
    unfold place at h
    by_cases hy : y.th ≤ t
    · rw [if_pos hy, List.getElem?_cons_succ] at h
      exact place_at r t x h
    · rw [if_neg hy] at h; simp at h; subst h; omega
theorem Ord.right : ∀ {l : List InfoV}, Ord l → ∀ x ∈ l, x.fr < x.th
  | y :: r, h, x, hx => by
    rcases List.mem_cons.1 hx with rfl | hx
    · exact h.1
    · exact Ord.right h.2.2 x hx
theorem Ord.step : ∀ {l : List InfoV}, Ord l → ∀ (i j : Nat) (x y : InfoV), i < j → l[i]? = some x → l[j]? = some y → x.th ≤ y.fr
  | [], _, i, j, x, y, _, hx, _ => by simp at hx
  | z :: r, h, i, j, x, y, hij, hx, hy => by
    cases j with
    | zero => omega
    | succ j =>
      cases i with
      | zero =>
        simp at hx hy; subst hx
        exact h.2.1 y (List.mem_of_getElem? hy)
      | succ i => exact Ord.step h.2.2 i j x y (by omega) (by simpa using hx) (by simpa using hy)
theorem Ord.insert : ∀ (l : List InfoV) (i : InfoV), Ord l → i.fr < i.th → ¬ (match l[place l i.fr]? with | some x => decide (x.fr < i.th) | none => false) = true → Ord (l.take (place l i.fr) ++ i :: l.drop (place l i.fr))
  | [], i, _, hi, _ => ⟨hi, by simp, trivial⟩
  | x :: r, i, h, hi, hm => by
    obtain ⟨h1, h2, h3⟩ := h
    unfold place at hm ⊢
    by_cases hx : x.th ≤ i.fr
    · rw [if_pos hx, List.getElem?_cons_succ] at hm
      rw [if_pos hx]
      simp only [List.take_succ_cons, List.drop_succ_cons, List.cons_append]
      refine ⟨h1, fun y hy => ?_, Ord.insert r i h3 hi hm⟩
      rcases List.mem_append.1 hy with hy | hy
      · exact h2 y (List.mem_of_mem_take hy)
      · rcases List.mem_cons.1 hy with rfl | hy
        · exact hx
        · exact h2 y (List.mem_of_mem_drop hy)
    · rw [if_neg hx, List.getElem?_cons_zero] at hm
      simp only [decide_eq_true_eq] at hm
      rw [if_neg hx]
      refine ⟨hi, fun y hy => ?_, h1, h2, h3⟩
      rcases List.mem_cons.1 hy with rfl | hy
      · omega
      · have := h2 y hy; omega
theorem put_ord (room : Int) (l : List InfoV) (i : InfoV) (h : Ord l) : Ord (putP room l i).2 := by
  unfold putP
  by_cases hi : i.fr < i.th
  · have hn : ¬ ¬ i.fr < i.th := by simpa using hi
    rw [if_neg hn]
    by_cases h1 : l[place l i.fr]? = some i
    · rw [if_pos h1]; exact h
    · rw [if_neg h1]
      by_cases h2 : (match l[place l i.fr]? with | some x => decide (x.fr < i.th) | none => false) = true
      · rw [if_pos h2]; exact h
      · rw [if_neg h2]
        split
        · exact h
        · exact Ord.insert l i h hi h2
  · rw [if_pos hi]; exact h
theorem put_len (room : Int) (l : List InfoV) (i : InfoV) (hr : (l.length : Int) ≤ room) : ((putP room l i).2.length : Int) ≤ room := by
  have hp := place_le l i.fr
  unfold putP
  by_cases hi : i.fr < i.th
  · have hn : ¬ ¬ i.fr < i.th := by simpa using hi
    rw [if_neg hn]
    by_cases h1 : l[place l i.fr]? = some i
    · rw [if_pos h1]; exact hr
    · rw [if_neg h1]
      by_cases h2 : (match l[place l i.fr]? with | some x => decide (x.fr < i.th) | none => false) = true
      · rw [if_pos h2]; exact hr
      · rw [if_neg h2]
        by_cases h3 : (l.length : Int) = room
        · rw [if_pos h3]; exact hr
        · rw [if_neg h3]
          simp only [List.length_append, List.length_take, List.length_cons, List.length_drop]
          omega
  · rw [if_pos hi]; exact hr
theorem put_ways (room : Int) (l : List InfoV) (i : InfoV) (h : Ord l) :
    (¬ i.fr < i.th ∧ putP room l i = (4, l)) ∨ (i.fr < i.th ∧ l[place l i.fr]? = some i ∧ putP room l i = (11, l)) ∨
    (∃ x, i.fr < i.th ∧ l[place l i.fr]? = some x ∧ ¬ x = i ∧ x.fr < i.th ∧ putP room l i = (21, l)) ∨
    (∃ x, i.fr < i.th ∧ l[place l i.fr]? = some x ∧ ¬ x = i ∧ ¬ x.fr < i.th ∧ (((l.length : Int) = room ∧ putP room l i = (17, l)) ∨ (¬ (l.length : Int) = room ∧ Ord (l.take (place l i.fr) ++ i :: l.drop (place l i.fr)) ∧ putP room l i = (0, l.take (place l i.fr) ++ i :: l.drop (place l i.fr))))) ∨
    (i.fr < i.th ∧ l[place l i.fr]? = none ∧ (((l.length : Int) = room ∧ putP room l i = (17, l)) ∨ (¬ (l.length : Int) = room ∧ Ord (l.take (place l i.fr) ++ i :: l.drop (place l i.fr)) ∧ putP room l i = (0, l.take (place l i.fr) ++ i :: l.drop (place l i.fr))))) := by
  unfold putP
  by_cases hi : i.fr < i.th
  · have hn : ¬ ¬ i.fr < i.th := by simpa using hi
    rw [if_neg hn]
    right
    by_cases h1 : l[place l i.fr]? = some i
    · rw [if_pos h1]
      exact .inl ⟨hi, h1, rfl⟩
    · rw [if_neg h1]
      right
      by_cases h2 : (match l[place l i.fr]? with | some x => decide (x.fr < i.th) | none => false) = true
      · rw [if_pos h2]
        left
        cases hx : l[place l i.fr]? with
        | none => rw [hx] at h2; cases h2
        | some x =>
          rw [hx] at h1 h2
          exact ⟨x, hi, rfl, fun e => h1 (by rw [e]), by simpa using h2, rfl⟩
      · have hord := Ord.insert l i h hi h2
        rw [if_neg h2]
        right
        cases hx : l[place l i.fr]? with
        | none =>
          right
          refine ⟨hi, rfl, ?_⟩
          by_cases h3 : (l.length : Int) = room
          · rw [if_pos h3]; exact .inl ⟨h3, rfl⟩
          · rw [if_neg h3]; exact .inr ⟨h3, hord, rfl⟩
        | some x =>
          left
          rw [hx] at h1 h2
          refine ⟨x, hi, rfl, fun e => h1 (by rw [e]), by simpa using h2, ?_⟩
          by_cases h3 : (l.length : Int) = room
          · rw [if_pos h3]; exact .inl ⟨h3, rfl⟩
          · rw [if_neg h3]; exact .inr ⟨h3, hord, rfl⟩
  · rw [if_pos hi]
    exact .inl ⟨hi, rfl⟩
/-- finding, by the place -/
def findP (l : List InfoV) (t : Int) : InfoV × Bool :=
  match l[place l t]? with
  | some x => if x.fr ≤ t then (x, true) else (none0, false)
  | none => (none0, false)
def findR : List InfoV → Int → InfoV × Bool
  | [], _ => (none0, false)
  | x :: r, t => if has x t = true then (x, true) else findR r t
theorem findR_none : ∀ (l : List InfoV) (t : Int), (∀ y ∈ l, t < y.fr) → findR l t = (none0, false)
  | [], _, _ => rfl
  | x :: r, t, h => by
    have hx : ¬ has x t = true := by
      have := h x (by simp)
      unfold has
      simp only [Bool.and_eq_true, decide_eq_true_eq]
      omega
    unfold findR
    rw [if_neg hx]
    exact findR_none r t fun y hy => h y (List.mem_cons_of_mem _ hy)
theorem find_eq : ∀ (l : List InfoV) (t : Int), Ord l → findP l t = findR l t
  | [], t, _ => rfl
  | x :: r, t, h => by
    obtain ⟨h1, h2, h3⟩ := h
    have ih := find_eq r t h3
    unfold findP at ih ⊢
    unfold place findR
    by_cases hx : x.th ≤ t
    · rw [if_pos hx, List.getElem?_cons_succ, ih, if_neg (by unfold has; simp only [Bool.and_eq_true, decide_eq_true_eq]; omega)]
    · rw [if_neg hx, List.getElem?_cons_zero]
      by_cases hy : x.fr ≤ t
      · rw [if_pos (by unfold has; simp only [Bool.and_eq_true, decide_eq_true_eq]; omega)]
        simp only [hy, if_true]
      · rw [if_neg (by unfold has; simp only [Bool.and_eq_true, decide_eq_true_eq]; omega)]
        simp only [hy, if_false]
        exact (findR_none r t fun y hy => by have := h2 y hy; omega).symm
/-- dropping -/
def dropP (l : List InfoV) (t : Int) : Int × List InfoV :=
  match l[place l t]? with
  | some x => if x.fr ≤ t then (0, l.take (place l t) ++ l.drop (place l t + 1)) else (12, l)
  | none => (12, l)
def dropR (l : List InfoV) (t : Int) : Int × List InfoV :=
  if (l.filter fun x => !has x t).length = l.length then (12, l) else (0, l.filter fun x => !has x t)
theorem filter_all (l : List InfoV) (t : Int) (h : ∀ y ∈ l, t < y.fr) : (l.filter fun x => !has x t) = l := by
  rw [List.filter_eq_self]
  intro y hy
  have := h y hy
  unfold has
  simp only [Bool.not_eq_true', Bool.and_eq_false_iff, decide_eq_false_iff_not]
  omega
theorem filter_eq : ∀ (l : List InfoV) (t : Int), Ord l → (l.filter fun x => !has x t) = (dropP l t).2 ∧ ((dropP l t).1 = 12 ∧ (dropP l t).2 = l ∨ (dropP l t).1 = 0 ∧ (dropP l t).2.length + 1 = l.length)
  | [], t, _ => ⟨rfl, .inl ⟨rfl, rfl⟩⟩
  | x :: r, t, h => by
    obtain ⟨h1, h2, h3⟩ := h
    obtain ⟨ih1, ih2⟩ := filter_eq r t h3
    unfold dropP at ih1 ih2 ⊢
    unfold place
    by_cases hx : x.th ≤ t
    · have e : (!has x t) = true := by unfold has; simp only [Bool.not_eq_true', Bool.and_eq_false_iff, decide_eq_false_iff_not]; omega
      rw [if_pos hx, List.getElem?_cons_succ, List.filter_cons_of_pos (by simpa using e), ih1]
      cases hg : r[place r t]? with
      | none => simp [hg] at ih2 ⊢
      | some y =>
        rw [hg] at ih2
        by_cases hy : y.fr ≤ t
        · simp only [hy, if_true] at ih2 ⊢
          simp at ih2 ⊢
          exact ih2
        · simp [hy]
    · rw [if_neg hx, List.getElem?_cons_zero]
      by_cases hy : x.fr ≤ t
      · have e : ¬ (!has x t) = true := by unfold has; simp; omega
        rw [List.filter_cons_of_neg (by simpa using e), filter_all r t fun y hy => by have := h2 y hy; omega]
        simp [hy]
      · have e : (!has x t) = true := by unfold has; simp only [Bool.not_eq_true', Bool.and_eq_false_iff, decide_eq_false_iff_not]; omega
        rw [List.filter_cons_of_pos (by simpa using e), filter_all r t fun y hy => by have := h2 y hy; omega]
        simp [hy]
theorem drop_eq (l : List InfoV) (t : Int) (h : Ord l) : dropP l t = dropR l t := by
  obtain ⟨h1, h2⟩ := filter_eq l t h
  unfold dropR
  rw [h1]
  rcases h2 with ⟨a, b⟩ | ⟨a, b⟩
  · rw [if_pos (by rw [b])]
    exact Prod.ext a b
  · rw [if_neg (by omega)]
    exact Prod.ext a rfl
theorem Ord.drop : ∀ (l : List InfoV) (p : InfoV → Bool), Ord l → Ord (l.filter p)
  | [], _, _ => trivial
  | x :: r, p, h => by
    by_cases hp : p x = true
    · rw [List.filter_cons_of_pos hp]
      exact ⟨h.1, fun y hy => h.2.1 y (List.mem_filter.1 hy).1, Ord.drop r p h.2.2⟩
    · rw [List.filter_cons_of_neg hp]
      exact Ord.drop r p h.2.2
theorem drop_ord (l : List InfoV) (t : Int) (h : Ord l) : Ord (dropP l t).2 := by
  rw [← (filter_eq l t h).1]
  exact Ord.drop l _ h
theorem drop_len (l : List InfoV) (t : Int) (h : Ord l) : (dropP l t).2.length ≤ l.length := by
  rw [← (filter_eq l t h).1]
  exact List.length_filter_le _ _
/-- .. the document's way: what came so far -/
def nearR (t : Int) : List InfoV → InfoV × InfoV × Bool × Bool → InfoV × InfoV × Bool × Bool
  | [], s => s
  | x :: r, (a, b, k, m) =>
    let a' := if x.th ≤ t then x else a
    let k' := if x.th ≤ t then true else k
    if t < x.fr ∧ m = false then nearR t r (a', x, k', true) else nearR t r (a', b, k', m)
def near0 : InfoV × InfoV × Bool × Bool := (none0, none0, false, false)
theorem nearR_cons (t : Int) (x : InfoV) (r : List InfoV) (a b : InfoV) (k m : Bool) : nearR t (x :: r) (a, b, k, m) =
    if t < x.fr ∧ m = false then nearR t r ((if x.th ≤ t then x else a), x, (if x.th ≤ t then true else k), true) else nearR t r ((if x.th ≤ t then x else a), b, (if x.th ≤ t then true else k), m) := rfl
theorem nearR_behind : ∀ (l : List InfoV) (t : Int) (a b : InfoV) (k : Bool), Ord l → (∀ y ∈ l, t < y.fr) → nearR t l (a, b, k, true) = (a, b, k, true)
  | [], _, _, _, _, _, _ => rfl
  | x :: r, t, a, b, k, h, hl => by
    have hx := hl x (by simp)
    have h1 := h.1
    rw [nearR_cons, if_neg (by simp), if_neg (by omega), if_neg (by omega)]
    exact nearR_behind r t a b k h.2.2 fun y hy => hl y (List.mem_cons_of_mem _ hy)
theorem nearR_first (l : List InfoV) (t : Int) (a : InfoV) (k : Bool) (h : Ord l) (hl : ∀ y ∈ l, t < y.fr) : nearR t l (a, none0, k, false) = (a, (match l[0]? with | some x => x | none => none0), k, (match l[0]? with | some _ => true | none => false)) := by
  cases l with
  | nil => rfl
  | cons x r =>
    have hx := hl x (by simp)
    have h1 := h.1
    rw [nearR_cons, if_pos ⟨hx, rfl⟩, if_neg (by omega), if_neg (by omega)]
    exact nearR_behind r t a x k h.2.2 fun y hy => hl y (List.mem_cons_of_mem _ hy)
/-- what is behind a place -/
def nextP (l : List InfoV) (t : Int) : InfoV × Bool :=
  match l[(match l[place l t]? with | some x => if x.fr ≤ t then place l t + 1 else place l t | none => place l t)]? with | some x => (x, true) | none => (none0, false)
theorem nextP_cons (x : InfoV) (r : List InfoV) (t : Int) (hx : x.th ≤ t) : nextP (x :: r) t = nextP r t := by
  unfold nextP
  have e : place (x :: r) t = place r t + 1 := by conv => lhs; unfold place
                                                  rw [if_pos hx]
  rw [e, List.getElem?_cons_succ]
  cases hg : r[place r t]? with
  | none => simp only [List.getElem?_cons_succ]
  | some y => by_cases hy : y.fr ≤ t <;> simp only [hy, if_true, if_false, List.getElem?_cons_succ]
theorem near_gen : ∀ (l : List InfoV) (t : Int) (a : InfoV) (k : Bool), Ord l → nearR t l (a, none0, k, false) =
    ((if 0 < place l t then l.getD (place l t - 1) none0 else a), (nextP l t).1, (if 0 < place l t then true else k), (nextP l t).2)
  | [], t, a, k, _ => rfl
  | x :: r, t, a, k, h => by
    obtain ⟨h1, h2, h3⟩ := h
    by_cases hx : x.th ≤ t
    · have ih := near_gen r t x true h3
      have e : place (x :: r) t = place r t + 1 := by conv => lhs; unfold place
                                                      rw [if_pos hx]
      rw [nearR_cons, if_neg (by omega), if_pos hx, if_pos hx, ih, nextP_cons x r t hx, e, if_pos (Nat.succ_pos _), if_pos (Nat.succ_pos _), Nat.add_sub_cancel]
      cases hp : place r t with
      | zero => simp
      | succ p => simp
    · have e : place (x :: r) t = 0 := by conv => lhs; unfold place
                                          rw [if_neg hx]
      rw [e, if_neg (by omega), if_neg (by omega)]
      unfold nextP
      rw [e, List.getElem?_cons_zero]
      by_cases hy : x.fr ≤ t
      · rw [nearR_cons, if_neg (by omega), if_neg hx, if_neg hx, nearR_first r t a k h3 fun y hy => by have := h2 y hy; omega]
        simp only [hy, if_true, List.getElem?_cons_succ, Nat.zero_add]
        cases hg : r[0]? <;> rfl
      · rw [nearR_cons, if_pos ⟨by omega, rfl⟩, if_neg hx, if_neg hx, nearR_behind r t a x k h3 fun y hy => by have := h2 y hy; omega]
        simp only [hy, if_false, List.getElem?_cons_zero]
/-- around a second, by the place -/
def nearP (l : List InfoV) (t : Int) : InfoV × InfoV × Bool × Bool :=
  ((if 0 < place l t then l.getD (place l t - 1) none0 else none0), (nextP l t).1, decide (0 < place l t), (nextP l t).2)
theorem near_eq (l : List InfoV) (t : Int) (h : Ord l) : nearP l t = nearR t l near0 := by
  unfold near0 nearP
  rw [near_gen l t none0 false h]
  by_cases hp : 0 < place l t <;> simp [hp]
end Sto
end Go.Proofs.Ytjgodnakhbkgeaa
