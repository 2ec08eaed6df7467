import Derived.Test.YtkpjhgkmjcdobaaGreatDoorNom
import Derived.Test.YtkpjhgkmjcdobaaGreatDoorOccB
/-
  Occurrences one behind the other, in plain data.
-/
namespace Go.Proofs.YtkpjhgkmjcdobaaGreatDoor
open Go.RowKit NB
namespace Occ
/-- those behind something, one by one, up to a second, so many at most -/
def inL (l : List RuleV) (name : ByteArray) (T : Int) : OccV → Nat → List OccV
  | _, 0 => []
  | fr, n + 1 => match nextO l name fr with
    | none => []
    | some o => if o.nom < T then o :: inL l name T o n else []
/-- all behind something, one by one -/
def Run (nx : OccV → Option OccV) : OccV → List OccV → Prop
  | fr, [] => nx fr = none
  | fr, o :: os => nx fr = some o ∧ Run nx o os
theorem next_all {l : List RuleV} {name : ByteArray} {fr o : OccV} (h : nextO l name fr = some o) : All l name l.length o ∧ less fr o = true := by
  have := best_next l name fr
  rw [h] at this
  exact ⟨this.1, this.2.1⟩
theorem prev_all {l : List RuleV} {name : ByteArray} {fr o : OccV} (h : prevO l name fr = some o) : All l name l.length o ∧ less o fr = true := by
  have := best_prev l name fr
  rw [h] at this
  exact ⟨this.1, this.2.1⟩
theorem all_bd {l : List RuleV} {name : ByteArray} {o : OccV} (h : All l name l.length o) : -2000000000000 ≤ o.nom ∧ o.nom ≤ 2000000000000 ∧ 0 ≤ o.rule ∧ o.rule < l.length := by
  obtain ⟨i, r, hi, hr, hn, hR, h1, h2, he⟩ := h
  have hy := (Rul.right_spec hR).1
  have hb := Nom.nom_bd hR (y := o.year) (by omega) (by omega)
  rw [he]
  exact ⟨hb.1, hb.2, by show (0 : Int) ≤ (i : Int); omega, by show (i : Int) < _; omega⟩
theorem run_ex1 (l : List RuleV) (name : ByteArray) : ∀ a : Nat, ∀ b : Nat, ∀ fr : OccV, All l name l.length fr → (2000000000000 - fr.nom).toNat = a → (l.length - fr.rule).toNat = b → ∃ os, Run (nextO l name) fr os := by
  intro a
  induction a using Nat.strongRecOn with
  | ind a iha =>
    intro b
    induction b using Nat.strongRecOn with
    | ind b ihb =>
      intro fr hf ha hb
      cases hn : nextO l name fr with
      | none => exact ⟨[], hn⟩
      | some o =>
        obtain ⟨h1, h2⟩ := next_all hn
        have b1 := all_bd h1
        have b0 := all_bd hf
        rw [less_iff] at h2
        have : ∃ os, Run (nextO l name) o os := by
          rcases h2 with h2 | ⟨h2, h3⟩
          · exact iha _ (by omega) _ o h1 rfl rfl
          · exact ihb _ (by omega) o h1 (by omega) rfl
        obtain ⟨os, hos⟩ := this
        exact ⟨o :: os, hn, hos⟩
theorem run_next (l : List RuleV) (name : ByteArray) (fr : OccV) : ∃ os, Run (nextO l name) fr os := by
  cases hn : nextO l name fr with
  | none => exact ⟨[], hn⟩
  | some o =>
    obtain ⟨os, hos⟩ := run_ex1 l name _ _ o (next_all hn).1 rfl rfl
    exact ⟨o :: os, hn, hos⟩
theorem run_ex2 (l : List RuleV) (name : ByteArray) : ∀ a : Nat, ∀ b : Nat, ∀ fr : OccV, All l name l.length fr → (fr.nom + 2000000000000).toNat = a → fr.rule.toNat = b → ∃ os, Run (prevO l name) fr os := by
  intro a
  induction a using Nat.strongRecOn with
  | ind a iha =>
    intro b
    induction b using Nat.strongRecOn with
    | ind b ihb =>
      intro fr hf ha hb
      cases hn : prevO l name fr with
      | none => exact ⟨[], hn⟩
      | some o =>
        obtain ⟨h1, h2⟩ := prev_all hn
        have b1 := all_bd h1
        have b0 := all_bd hf
        rw [less_iff] at h2
        have : ∃ os, Run (prevO l name) o os := by
          rcases h2 with h2 | ⟨h2, h3⟩
          · exact iha _ (by omega) _ o h1 rfl rfl
          · exact ihb _ (by omega) o h1 (by omega) rfl
        obtain ⟨os, hos⟩ := this
        exact ⟨o :: os, hn, hos⟩
theorem run_prev (l : List RuleV) (name : ByteArray) (fr : OccV) : ∃ os, Run (prevO l name) fr os := by
  cases hn : prevO l name fr with
  | none => exact ⟨[], hn⟩
  | some o =>
    obtain ⟨os, hos⟩ := run_ex2 l name _ _ o (prev_all hn).1 rfl rfl
    exact ⟨o :: os, hn, hos⟩
theorem run_unique {nx : OccV → Option OccV} : ∀ {fr : OccV} {a b : List OccV}, Run nx fr a → Run nx fr b → a = b
  | _, [], [], _, _ => rfl
  | fr, [], _ :: _, h, h' => by
    have := (show nx fr = none from h).symm.trans h'.1
    cases this
  | fr, _ :: _, [], h, h' => by
    have := (show nx fr = none from h').symm.trans h.1
    cases this
  | _, x :: a, y :: b, h, h' => by
    have := h.1.symm.trans h'.1
    cases this
    rw [run_unique h.2 h'.2]
open Classical in
/-- how many are still to come -/
noncomputable def leftN (nx : OccV → Option OccV) (fr : OccV) : Nat := if h : ∃ os, Run nx fr os then (Classical.choose h).length else 0
theorem leftN_eq {nx : OccV → Option OccV} {fr : OccV} {os : List OccV} (h : Run nx fr os) : leftN nx fr = os.length := by
  unfold leftN
  rw [dif_pos ⟨os, h⟩, run_unique (Classical.choose_spec (⟨os, h⟩ : ∃ os, Run nx fr os)) h]
/-- of one that is, or is not -/
noncomputable def leftO (nx : OccV → Option OccV) (c : Option OccV) : Nat := match c with
  | none => 0
  | some o => leftN nx o + 1
theorem leftO_next {l : List RuleV} {name : ByteArray} (o : OccV) : leftO (nextO l name) (nextO l name o) < leftO (nextO l name) (some o) := by
  obtain ⟨os, h⟩ := run_next l name o
  show _ < leftN _ o + 1
  rw [leftN_eq h]
  cases os with
  | nil => rw [show nextO l name o = none from h]; exact Nat.succ_pos _
  | cons x xs => rw [h.1]; show leftN _ x + 1 < _; rw [leftN_eq h.2]; simp
theorem leftO_prev {l : List RuleV} {name : ByteArray} (o : OccV) : leftO (prevO l name) (prevO l name o) < leftO (prevO l name) (some o) := by
  obtain ⟨os, h⟩ := run_prev l name o
  show _ < leftN _ o + 1
  rw [leftN_eq h]
  cases os with
  | nil => rw [show prevO l name o = none from h]; exact Nat.succ_pos _
  | cons x xs => rw [h.1]; show leftN _ x + 1 < _; rw [leftN_eq h.2]; simp
theorem inL_run {l : List RuleV} {name : ByteArray} {T : Int} : ∀ {n : Nat} {fr : OccV} {os : List OccV}, Run (nextO l name) fr os → inL l name T fr n = (os.takeWhile (fun o => decide (o.nom < T))).take n
  | 0, _, _, _ => by unfold inL; simp
  | n + 1, fr, [], h => by
    unfold inL
    rw [show nextO l name fr = none from h]
    simp
  | n + 1, fr, o :: os, h => by
    unfold inL
    rw [h.1]
    simp only
    by_cases ho : o.nom < T
    · rw [if_pos ho, List.takeWhile_cons_of_pos (by simpa using ho), List.take_succ_cons, inL_run h.2]
    · rw [if_neg ho, List.takeWhile_cons_of_neg (by simpa using ho)]
      simp
theorem take_all {xs : List OccV} {T : Int} {n : Nat} (h : ∀ o ∈ xs, o.nom < T) (hn : xs.length ≤ n) : (xs.takeWhile (fun o => decide (o.nom < T))).take n = xs := by
  have := List.takeWhile_append_of_pos (p := fun o : OccV => decide (o.nom < T)) (l₁ := xs) (l₂ := []) (by simpa using h)
  simp only [List.append_nil, List.takeWhile_nil] at this
  rw [this, List.take_of_length_le hn]
theorem take_full {xs pre : List OccV} {T : Int} (hp : pre <+: xs) (h : ∀ o ∈ pre, o.nom < T) : (xs.takeWhile (fun o => decide (o.nom < T))).take pre.length = pre := by
  obtain ⟨t, rfl⟩ := hp
  rw [List.takeWhile_append_of_pos (by simpa using h)]
  simp
theorem take_cut {xs pre : List OccV} {x : OccV} {T : Int} {n : Nat} (hp : pre ++ [x] <+: xs) (h : ∀ o ∈ pre, o.nom < T) (hx : T ≤ x.nom) (hn : pre.length ≤ n) : (xs.takeWhile (fun o => decide (o.nom < T))).take n = pre := by
  obtain ⟨t, rfl⟩ := hp
  rw [List.append_assoc, List.takeWhile_append_of_pos (by simpa using h)]
  simp [show ¬ x.nom < T by omega, List.take_of_length_le hn]
theorem inL_len (l : List RuleV) (name : ByteArray) (T : Int) : ∀ (n : Nat) (fr : OccV), (inL l name T fr n).length ≤ n
  | 0, _ => by unfold inL; simp
  | n + 1, fr => by
    unfold inL
    split
    · simp
    · split
      · have := inL_len l name T n; simp only [List.length_cons]; have := this ‹_›; omega
      · simp
/-- what a search along a way finds -/
inductive Hit (nx : OccV → Option OccV) (ok : OccV → Bool) : Option OccV → Option OccV → Prop
  | none : Hit nx ok none none
  | here {o : OccV} : ok o = true → Hit nx ok (some o) (some o)
  | go {o : OccV} {R : Option OccV} : ok o = false → Hit nx ok (nx o) R → Hit nx ok (some o) R
theorem hit_run {nx : OccV → Option OccV} (ok : OccV → Bool) : ∀ {os : List OccV} {fr : OccV}, Run nx fr os → ∃ R, Hit nx ok (nx fr) R
  | [], fr, h => ⟨_, by rw [show nx fr = none from h]; exact .none⟩
  | o :: os, fr, h => by
    rw [h.1]
    cases ho : ok o
    · obtain ⟨R, hR⟩ := hit_run ok h.2
      exact ⟨R, .go ho hR⟩
    · exact ⟨_, .here ho⟩
theorem hit_next (l : List RuleV) (name : ByteArray) (ok : OccV → Bool) (fr : OccV) : ∃ R, Hit (nextO l name) ok (nextO l name fr) R := by
  obtain ⟨os, h⟩ := run_next l name fr
  exact hit_run ok h
theorem hit_prev (l : List RuleV) (name : ByteArray) (ok : OccV → Bool) (fr : OccV) : ∃ R, Hit (prevO l name) ok (prevO l name fr) R := by
  obtain ⟨os, h⟩ := run_prev l name fr
  exact hit_run ok h
/-- what a search found, said of all -/
def Found (lt : OccV → OccV → Bool) (fr : OccV) (S : OccV → Prop) (ok : OccV → Bool) (R : Option OccV) : Prop :=
  match R with
  | none => ∀ x, S x → lt fr x = true → ok x = false
  | some o => S o ∧ lt fr o = true ∧ ok o = true ∧ ∀ x, S x → lt fr x = true → lt x o = true → ok x = false
theorem hit_spec {lt : OccV → OccV → Bool} (W : Weak lt) {S : OccV → Prop} {nx : OccV → Option OccV} {ok : OccV → Bool} (hb : ∀ fr, Best lt fr S (nx fr)) (al : ∀ a b, S a → S b → lt a b = false → lt b a = false → a = b) :
    ∀ {c R : Option OccV}, Hit nx ok c R → ∀ {fr : OccV}, nx fr = c → Found lt fr S ok R := by
  intro c R h
  induction h with
  | none =>
    intro fr hc x hx hl
    have := hb fr
    rw [hc] at this
    rw [this x hx] at hl
    cases hl
  | here ho =>
    intro fr hc
    have := hb fr
    rw [hc] at this
    refine ⟨this.1, this.2.1, ho, fun x hx hl hl2 => ?_⟩
    rw [this.2.2 x hx hl] at hl2
    cases hl2
  | @go o R ho _ ih =>
    intro fr hc
    have hB := hb fr
    rw [hc] at hB
    have step : ∀ x, S x → lt fr x = true → lt o x = true ∨ x = o := by
      intro x hx hl
      cases ho2 : lt o x
      · exact .inr (al x o hx hB.1 (hB.2.2 x hx hl) ho2)
      · exact .inl rfl
    have := ih rfl
    cases R with
    | none =>
      intro x hx hl
      rcases step x hx hl with h | rfl
      · exact this x hx h
      · exact ho
    | some p =>
      obtain ⟨h1, h2, h3, h4⟩ := this
      refine ⟨h1, W.tr _ _ _ hB.2.1 h2, h3, fun x hx hl hl2 => ?_⟩
      rcases step x hx hl with h | rfl
      · exact h4 x hx h hl2
      · exact ho
theorem found_next {l : List RuleV} {name : ByteArray} {ok : OccV → Bool} {fr : OccV} {R : Option OccV} (h : Hit (nextO l name) ok (nextO l name fr) R) : Found less fr (All l name l.length) ok R :=
  hit_spec weak_less (best_next l name) (fun a b ha hb h1 h2 => by
    obtain ⟨e1, e2⟩ := weak_less.alike a b h1 h2
    exact All_alike ha hb e1 e2) h rfl
theorem found_prev {l : List RuleV} {name : ByteArray} {ok : OccV → Bool} {fr : OccV} {R : Option OccV} (h : Hit (prevO l name) ok (prevO l name fr) R) : Found more fr (All l name l.length) ok R :=
  hit_spec weak_more (best_prev l name) (fun a b ha hb h1 h2 => by
    obtain ⟨e1, e2⟩ := weak_more.alike a b h1 h2
    exact All_alike ha hb e1 e2) h rfl
end Occ
end Go.Proofs.YtkpjhgkmjcdobaaGreatDoor
namespace Go.Proofs.YtkpjhgkmjcdobaaGreatDoor
open Go.RowKit NB
namespace Occ
theorem all_one {r : RuleV} (hR : Rul.right r = true) {o : OccV} : All [r] r.name 1 o ↔ Of r 0 o := by
  constructor
  · rintro ⟨i, r', h1, h2, h3, h4, h5⟩
    obtain rfl : i = 0 := by omega
    cases h2
    exact h5
  · intro h
    exact ⟨0, r, by omega, rfl, rfl, hR, h⟩
theorem next_one {r : RuleV} (hR : Rul.right r = true) {y : Int} (h1 : r.fr ≤ y) (h2 : y ≤ r.to) : nextO [r] r.name (occ r 0 y) = if y < r.to then some (occ r 0 (y + 1)) else none := by
  refine Best.unique weak_less (best_next _ _ _) ?_
  show Best less (occ r 0 y) (All [r] r.name 1) _
  split
  · refine ⟨(all_one hR).2 ⟨by show r.fr ≤ y + 1; omega, by show y + 1 ≤ r.to; omega, rfl⟩, by rw [less_same r hR]; simp; omega, fun o ho hl => ?_⟩
    obtain ⟨_, _, e⟩ := (all_one hR).1 ho
    rw [e, less_same r hR] at hl ⊢
    simp only [decide_eq_true_eq] at hl
    simp only [decide_eq_false_iff_not]
    omega
  · intro o ho
    obtain ⟨g1, g2, e⟩ := (all_one hR).1 ho
    rw [e, less_same r hR]
    simp only [decide_eq_false_iff_not]
    omega
theorem prev_one {r : RuleV} (hR : Rul.right r = true) {y : Int} (h1 : r.fr ≤ y) (h2 : y ≤ r.to) : prevO [r] r.name (occ r 0 y) = if r.fr < y then some (occ r 0 (y - 1)) else none := by
  refine Best.unique weak_more (best_prev _ _ _) ?_
  show Best more (occ r 0 y) (All [r] r.name 1) _
  split
  · refine ⟨(all_one hR).2 ⟨by show r.fr ≤ y - 1; omega, by show y - 1 ≤ r.to; omega, rfl⟩, by unfold more; rw [less_same r hR]; simp; omega, fun o ho hl => ?_⟩
    obtain ⟨_, _, e⟩ := (all_one hR).1 ho
    unfold more at hl ⊢
    rw [e, less_same r hR] at hl ⊢
    simp only [decide_eq_true_eq] at hl
    simp only [decide_eq_false_iff_not]
    omega
  · intro o ho
    obtain ⟨g1, g2, e⟩ := (all_one hR).1 ho
    unfold more
    rw [e, less_same r hR]
    simp only [decide_eq_false_iff_not]
    omega
/-- what is behind, and is ahead of what is next, is no occurrence -/
theorem next_gap {l : List RuleV} {name : ByteArray} {fr a o : OccV} (h : nextO l name fr = some a) (ho : All l name l.length o) (h1 : less fr o = true) (h2 : less o a = true) : False := by
  have := best_next l name fr
  rw [h] at this
  rw [this.2.2 o ho h1] at h2
  cases h2
theorem next_prev {l : List RuleV} {name : ByteArray} {fr a c : OccV} (h : nextO l name fr = some a) (hc : prevO l name a = some c) : less fr c = false := by
  cases hl : less fr c
  · rfl
  · have := best_prev l name a
    rw [hc] at this
    exact (next_gap h this.1 hl this.2.1).elim
theorem prev_there {l : List RuleV} {name : ByteArray} {fr a b : OccV} (h : nextO l name fr = some a) (hb : prevO l name fr = some b) : prevO l name a ≠ none := by
  intro hn
  have h1 := best_prev l name fr
  have h2 := best_prev l name a
  rw [hb] at h1
  rw [hn] at h2
  have h3 := h2 b h1.1
  have h4 := weak_less.tr b fr a h1.2.1 (next_all h).2
  unfold more at h3
  rw [h4] at h3
  cases h3
end Occ
end Go.Proofs.YtkpjhgkmjcdobaaGreatDoor
