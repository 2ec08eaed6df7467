import Derived.Test.YtkpjhgkmjcdobaaGreatDoorG9
/-
  Occurrences one behind the other, in plain data.
-/
namespace Go.Proofs.YtkpjhgkmjcdobaaGreatDoor
open Go.RowKit NB
namespace Occ
/-- those behind something, one by one, up to a second, so many at most -/
def inL (l : List RuleV) (name : ByteArray) (T : Int) : OccV → Nat → List OccV
  | _, 0 => []
  | fr, n + 1 => match nextO l name fr with
    | none => []
    | some o => if o.nom < T then o :: inL l name T o n else []
/-- all behind something, one by one -/
def Run (nx : OccV → Option OccV) : OccV → List OccV → Prop
  | fr, [] => nx fr = none
  | fr, o :: os => nx fr = some o ∧ Run nx o os
theorem next_all {l : List RuleV} {name : ByteArray} {fr o : OccV} (h : nextO l name fr = some o) : All l name l.length o ∧ less fr o = true := by
  have := best_next l name fr
  rw [h] at this
  exact ⟨this.1, this.2.1⟩
theorem prev_all {l : List RuleV} {name : ByteArray} {fr o : OccV} (h : prevO l name fr = some o) : All l name l.length o ∧ less o fr = true := by
  have := best_prev l name fr
  rw [h] at this
  exact ⟨this.1, this.2.1⟩
theorem all_bd {l : List RuleV} {name : ByteArray} {o : OccV} (h : All l name l.length o) : -2000000000000 ≤ o.nom ∧ o.nom ≤ 2000000000000 ∧ 0 ≤ o.rule ∧ o.rule < l.length := by
  obtain ⟨i, r, hi, hr, hn, hR, h1, h2, he⟩ := h
  have hy := (Rul.right_spec hR).1
  have hb := Nom.nom_bd hR (y := o.year) (by omega) (by omega)
  rw [he]
  exact ⟨hb.1, hb.2, by show (0 : Int) ≤ (i : Int); omega, by show (i : Int) < _; omega⟩
theorem run_ex1 (l : List RuleV) (name : ByteArray) : ∀ a : Nat, ∀ b : Nat, ∀ fr : OccV, All l name l.length fr → (2000000000000 - fr.nom).toNat = a → (l.length - fr.rule).toNat = b → ∃ os, Run (nextO l name) fr os := by
  intro a
  induction a using Nat.strongRecOn with
  | ind a iha =>
    intro b
    induction b using Nat.strongRecOn with
    | ind b ihb =>
      intro fr hf ha hb
      cases hn : nextO l name fr with
      | none => exact ⟨[], hn⟩
      | some o =>
        obtain ⟨h1, h2⟩ := next_all hn
        have b1 := all_bd h1
        have b0 := all_bd hf
        rw [less_iff] at h2
        have : ∃ os, Run (nextO l name) o os := by
          rcases h2 with h2 | ⟨h2, h3⟩
          · exact iha _ (by omega) _ o h1 rfl rfl
          · exact ihb _ (by omega) o h1 (by omega) rfl
        obtain ⟨os, hos⟩ := this
        exact ⟨o :: os, hn, hos⟩
theorem run_next (l : List RuleV) (name : ByteArray) (fr : OccV) : ∃ os, Run (nextO l name) fr os := by
  cases hn : nextO l name fr with
  | none => exact ⟨[], hn⟩
  | some o =>
    obtain ⟨os, hos⟩ := run_ex1 l name _ _ o (next_all hn).1 rfl rfl
    exact ⟨o :: os, hn, hos⟩
theorem run_ex2 (l : List RuleV) (name : ByteArray) : ∀ a : Nat, ∀ b : Nat, ∀ fr : OccV, All l name l.length fr → (fr.nom + 2000000000000).toNat = a → fr.rule.toNat = b → ∃ os, Run (prevO l name) fr os := by
  intro a
  induction a using Nat.strongRecOn with
  | ind a iha =>
    intro b
    induction b using Nat.strongRecOn with
    | ind b ihb =>
      intro fr hf ha hb
      cases hn : prevO l name fr with
      | none => exact ⟨[], hn⟩
      | some o =>
        obtain ⟨h1, h2⟩ := prev_all hn
        have b1 := all_bd h1
        have b0 := all_bd hf
        rw [less_iff] at h2
        have : ∃ os, Run (prevO l name) o os := by
          rcases h2 with h2 | ⟨h2, h3⟩
          · exact iha _ (by omega) _ o h1 rfl rfl
          · exact ihb _ (by omega) o h1 (by omega) rfl
        obtain ⟨os, hos⟩ := this
        exact ⟨o :: os, hn, hos⟩
theorem run_prev (l : List RuleV) (name : ByteArray) (fr : OccV) : ∃ os, Run (prevO l name) fr os := by
  cases hn : prevO l name fr with
  | none => exact ⟨[], hn⟩
  | some o =>
    obtain ⟨os, hos⟩ := run_ex2 l name _ _ o (prev_all hn).1 rfl rfl
    exact ⟨o :: os, hn, hos⟩
theorem run_unique {nx : OccV → Option OccV} : ∀ {fr : OccV} {a b : List OccV}, Run nx fr a → Run nx fr b → a = b
  | _, [], [], _, _ => rfl
  | fr, [], _ :: _, h, h' => by
    have := (show nx fr = none from h).symm.trans h'.1
    cases this
  | fr, _ :: _, [], h, h' => by
    have := (show nx fr = none from h').symm.trans h.1
    cases this
  | _, x :: a, y :: b, h, h' => by
    have := h.1.symm.trans h'.1
    cases this
    rw [run_unique h.2 h'.2]
open Classical in
/-- how many are still to come -/
noncomputable def leftN (nx : OccV → Option OccV) (fr : OccV) : Nat := if h : ∃ os, Run nx fr os then (Classical.choose h).length else 0
theorem leftN_eq {nx : OccV → Option OccV} {fr : OccV} {os : List OccV} (h : Run nx fr os) : leftN nx fr = os.length := by
  unfold leftN
  rw [dif_pos ⟨os, h⟩, run_unique (Classical.choose_spec (⟨os, h⟩ : ∃ os, Run nx fr os)) h]
/-- of one that is, or is not -/
noncomputable def leftO (nx : OccV → Option OccV) (c : Option OccV) : Nat := match c with
  | none => 0
  | some o => leftN nx o + 1
theorem leftO_next {l : List RuleV} {name : ByteArray} (o : OccV) : leftO (nextO l name) (nextO l name o) < leftO (nextO l name) (some o) := by
  obtain ⟨os, h⟩ := run_next l name o
  show _ < leftN _ o + 1
  rw [leftN_eq h]
  cases os with
  | nil => rw [show nextO l name o = none from h]; exact Nat.succ_pos _
  | cons x xs => rw [h.1]; show leftN _ x + 1 < _; rw [leftN_eq h.2]; simp
theorem leftO_prev {l : List RuleV} {name : ByteArray} (o : OccV) : leftO (prevO l name) (prevO l name o) < leftO (prevO l name) (some o) := by
  obtain ⟨os, h⟩ := run_prev l name o
  show _ < leftN _ o + 1
  rw [leftN_eq h]
  cases os with
  | nil => rw [show prevO l name o = none from h]; exact Nat.succ_pos _
  | cons x xs => rw [h.1]; show leftN _ x + 1 < _; rw [leftN_eq h.2]; simp
theorem inL_run {l : List RuleV} {name : ByteArray} {T : Int} : ∀ {n : Nat} {fr : OccV} {os : List OccV}, Run (nextO l name) fr os → inL l name T fr n = (os.takeWhile (fun o => decide (o.nom < T))).take n
  | 0, _, _, _ => by unfold inL; simp
  | n + 1, fr, [], h => by
    unfold inL
    rw [show nextO l name fr = none from h]
    simp
  | n + 1, fr, o :: os, h => by
    unfold inL
    rw [h.1]
    simp only
    by_cases ho : o.nom < T
    · rw [if_pos ho, List.takeWhile_cons_of_pos (by simpa using ho), List.take_succ_cons, inL_run h.2]
    · rw [if_neg ho, List.takeWhile_cons_of_neg (by simpa using ho)]
      simp
theorem take_all {xs : List OccV} {T : Int} {n : Nat} (h : ∀ o ∈ xs, o.nom < T) (hn : xs.length ≤ n) : (xs.takeWhile (fun o => decide (o.nom < T))).take n = xs := by
  have := List.takeWhile_append_of_pos (p := fun o : OccV => decide (o.nom < T)) (l₁ := xs) (l₂ := []) (by simpa using h)
  simp only [List.append_nil, List.takeWhile_nil] at this
  rw [this, List.take_of_length_le hn]
theorem take_full {xs pre : List OccV} {T : Int} (hp : pre <+: xs) (h : ∀ o ∈ pre, o.nom < T) : (xs.takeWhile (fun o => decide (o.nom < T))).take pre.length = pre := by
  obtain ⟨t, rfl⟩ := hp
  rw [List.takeWhile_append_of_pos (by simpa using h)]
  simp
theorem take_cut {xs pre : List OccV} {x : OccV} {T : Int} {n : Nat} (hp : pre ++ [x] <+: xs) (h : ∀ o ∈ pre, o.nom < T) (hx : T ≤ x.nom) (hn : pre.length ≤ n) : (xs.takeWhile (fun o => decide (o.nom < T))).take n = pre := by
  obtain ⟨t, rfl⟩ := hp
  rw [List.append_assoc, List.takeWhile_append_of_pos (by simpa using h)]
  simp [show ¬ x.nom < T by omega, List.take_of_length_le hn]
theorem inL_len (l : List RuleV) (name : ByteArray) (T : Int) : ∀ (n : Nat) (fr : OccV), (inL l name T fr n).length ≤ n
  | 0, _ => by unfold inL; simp
  | n + 1, fr => by
    unfold inL
    split
    · simp
    · split
      · have := inL_len l name T n; simp only [List.length_cons]; have := this ‹_›; omega
      · simp
/-- what a search along a way finds -/
inductive Hit (nx : OccV → Option OccV) (ok : OccV → Bool) : Option OccV → Option OccV → Prop
  | none : Hit nx ok none none
  | here {o : OccV} : ok o = true → Hit nx ok (some o) (some o)
  | go {o : OccV} {R : Option OccV} : ok o = false → Hit nx ok (nx o) R → Hit nx ok (some o) R
theorem hit_run {nx : OccV → Option OccV} (ok : OccV → Bool) : ∀ {os : List OccV} {fr : OccV}, Run nx fr os → ∃ R, Hit nx ok (nx fr) R
  | [], fr, h => ⟨_, by rw [show nx fr = none from h]; exact .none⟩
  | o :: os, fr, h => by
    rw [h.1]
    cases ho : ok o
    · obtain ⟨R, hR⟩ := hit_run ok h.2
      exact ⟨R, .go ho hR⟩
    · exact ⟨_, .here ho⟩
theorem hit_next (l : List RuleV) (name : ByteArray) (ok : OccV → Bool) (fr : OccV) : ∃ R, Hit (nextO l name) ok (nextO l name fr) R := by
  obtain ⟨os, h⟩ := run_next l name fr
  exact hit_run ok h
theorem hit_prev (l : List RuleV) (name : ByteArray) (ok : OccV → Bool) (fr : OccV) : ∃ R, Hit (prevO l name) ok (prevO l name fr) R := by
  obtain ⟨os, h⟩ := run_prev l name fr
  exact hit_run ok h
/-- what a search found, said of all -/
def Found (lt : OccV → OccV → Bool) (fr : OccV) (S : OccV → Prop) (ok : OccV → Bool) (R : Option OccV) : Prop :=
  match R with
  | none => ∀ x, S x → lt fr x = true → ok x = false
  | some o => S o ∧ lt fr o = true ∧ ok o = true ∧ ∀ x, S x → lt fr x = true → lt x o = true → ok x = false
theorem hit_spec {lt : OccV → OccV → Bool} (W : Weak lt) {S : OccV → Prop} {nx : OccV → Option OccV} {ok : OccV → Bool} (hb : ∀ fr, Best lt fr S (nx fr)) (al : ∀ a b, S a → S b → lt a b = false → lt b a = false → a = b) :
    ∀ {c R : Option OccV}, Hit nx ok c R → ∀ {fr : OccV}, nx fr = c → Found lt fr S ok R := by
  intro c R h
  induction h with
  | none =>
    intro fr hc x hx hl
    have := hb fr
    rw [hc] at this
    rw [this x hx] at hl
    cases hl
  | here ho =>
    intro fr hc
    have := hb fr
    rw [hc] at this
    refine ⟨this.1, this.2.1, ho, fun x hx hl hl2 => ?_⟩
    rw [this.2.2 x hx hl] at hl2
    cases hl2
  | @go o R ho _ ih =>
    intro fr hc
    have hB := hb fr
    rw [hc] at hB
    have step : ∀ x, S x → lt fr x = true → lt o x = true ∨ x = o := by
      intro x hx hl
      cases ho2 : lt o x
      · exact .inr (al x o hx hB.1 (hB.2.2 x hx hl) ho2)
      · exact .inl rfl
    have := ih rfl
    cases R with
    | none =>
      intro x hx hl
      rcases step x hx hl with h | rfl
      · exact this x hx h
      · exact ho
    | some p =>
      obtain ⟨h1, h2, h3, h4⟩ := this
      refine ⟨h1, W.tr _ _ _ hB.2.1 h2, h3, fun x hx hl hl2 => ?_⟩
      rcases step x hx hl with h | rfl
      · exact h4 x hx h hl2
      · exact ho
theorem found_next {l : List RuleV} {name : ByteArray} {ok : OccV → Bool} {fr : OccV} {R : Option OccV} (h : Hit (nextO l name) ok (nextO l name fr) R) : Found less fr (All l name l.length) ok R :=
  hit_spec weak_less (best_next l name) (fun a b ha hb h1 h2 => by
    obtain ⟨e1, e2⟩ := weak_less.alike a b h1 h2
    exact All_alike ha hb e1 e2) h rfl
theorem found_prev {l : List RuleV} {name : ByteArray} {ok : OccV → Bool} {fr : OccV} {R : Option OccV} (h : Hit (prevO l name) ok (prevO l name fr) R) : Found more fr (All l name l.length) ok R :=
  hit_spec weak_more (best_prev l name) (fun a b ha hb h1 h2 => by
    obtain ⟨e1, e2⟩ := weak_more.alike a b h1 h2
    exact All_alike ha hb e1 e2) h rfl
end Occ
end Go.Proofs.YtkpjhgkmjcdobaaGreatDoor
namespace Go.Proofs.YtkpjhgkmjcdobaaGreatDoor
open Go.RowKit NB
namespace Occ
theorem all_one {r : RuleV} (hR : Rul.right r = true) {o : OccV} : All [r] r.name 1 o ↔ Of r 0 o := by
  constructor
  · rintro ⟨i, r', h1, h2, h3, h4, h5⟩
    obtain rfl : i = 0 := by omega
    cases h2
    exact h5
  · intro h
    exact ⟨0, r, by omega, rfl, rfl, hR, h⟩
theorem next_one {r : RuleV} (hR : Rul.right r = true) {y : Int} (h1 : r.fr ≤ y) (h2 : y ≤ r.to) : nextO [r] r.name (occ r 0 y) = if y < r.to then some (occ r 0 (y + 1)) else none := by
  refine Best.unique weak_less (best_next _ _ _) ?_
  show Best less (occ r 0 y) (All [r] r.name 1) _
  split
  · refine ⟨(all_one hR).2 ⟨by show r.fr ≤ y + 1; omega, by show y + 1 ≤ r.to; omega, rfl⟩, by rw [less_same r hR]; simp; omega, fun o ho hl => ?_⟩
    obtain ⟨_, _, e⟩ := (all_one hR).1 ho
    rw [e, less_same r hR] at hl ⊢
    simp only [decide_eq_true_eq] at hl
    simp only [decide_eq_false_iff_not]
    omega
  · intro o ho
    obtain ⟨g1, g2, e⟩ := (all_one hR).1 ho
    rw [e, less_same r hR]
    simp only [decide_eq_false_iff_not]
    omega
theorem prev_one {r : RuleV} (hR : Rul.right r = true) {y : Int} (h1 : r.fr ≤ y) (h2 : y ≤ r.to) : prevO [r] r.name (occ r 0 y) = if r.fr < y then some (occ r 0 (y - 1)) else none := by
  refine Best.unique weak_more (best_prev _ _ _) ?_
  show Best more (occ r 0 y) (All [r] r.name 1) _
  split
  · refine ⟨(all_one hR).2 ⟨by show r.fr ≤ y - 1; omega, by show y - 1 ≤ r.to; omega, rfl⟩, by unfold more; rw [less_same r hR]; simp; omega, fun o ho hl => ?_⟩
    obtain ⟨_, _, e⟩ := (all_one hR).1 ho
    unfold more at hl ⊢
    rw [e, less_same r hR] at hl ⊢
    simp only [decide_eq_true_eq] at hl
    simp only [decide_eq_false_iff_not]
    omega
  · intro o ho
    obtain ⟨g1, g2, e⟩ := (all_one hR).1 ho
    unfold more
    rw [e, less_same r hR]
    simp only [decide_eq_false_iff_not]
    omega
/-- what is behind, and is ahead of what is next, is no occurrence -/
theorem next_gap {l : List RuleV} {name : ByteArray} {fr a o : OccV} (h : nextO l name fr = some a) (ho : All l name l.length o) (h1 : less fr o = true) (h2 : less o a = true) : False := by
  have := best_next l name fr
  rw [h] at this
  rw [this.2.2 o ho h1] at h2
  cases h2
theorem next_prev {l : List RuleV} {name : ByteArray} {fr a c : OccV} (h : nextO l name fr = some a) (hc : prevO l name a = some c) : less fr c = false := by
  cases hl : less fr c
  · rfl
  · have := best_prev l name a
    rw [hc] at this
    exact (next_gap h this.1 hl this.2.1).elim
theorem prev_there {l : List RuleV} {name : ByteArray} {fr a b : OccV} (h : nextO l name fr = some a) (hb : prevO l name fr = some b) : prevO l name a ≠ none := by
  intro hn
  have h1 := best_prev l name fr
  have h2 := best_prev l name a
  rw [hb] at h1
  rw [hn] at h2
  have h3 := h2 b h1.1
  have h4 := weak_less.tr b fr a h1.2.1 (next_all h).2
  unfold more at h3
  rw [h4] at h3
  cases h3
end Occ
end Go.Proofs.YtkpjhgkmjcdobaaGreatDoor
/-
  Instants of occurrences, in plain data.
-/
namespace Go.Proofs.YtkpjhgkmjcdobaaGreatDoor
open Go.RowKit NB
namespace Chn
/-- the rule at a place -/
def ruleAt (l : List RuleV) (i : Int) : Option RuleV := if 0 ≤ i then l[i.toNat]? else none
def baseAt (l : List RuleV) (i : Int) : Int := match ruleAt l i with | some r => r.base | none => 0
def saveAt (l : List RuleV) (i : Int) : Int := match ruleAt l i with | some r => r.save | none => 0
def saved (l : List RuleV) (name : ByteArray) (o : OccV) : Int := match Occ.prevO l name o with | some p => saveAt l p.rule | none => 0
def shift (off base s : Int) : Int := if base = 0 then off + s else if base = 1 then off else 0
def inst (l : List RuleV) (name : ByteArray) (off : Int) (o : OccV) : Int := o.nom - shift off (baseAt l o.rule) (saved l name o)
def may (off : Int) : Bool := decide (-54000 ≤ off) && decide (off ≤ 54000)
def isO (l : List RuleV) (name : ByteArray) (o : OccV) : Bool := match ruleAt l o.rule with
  | some r => decide (r.name = name) && decide (Nom.nomE r o.year = (o.nom, 0))
  | none => false
def instE (l : List RuleV) (name : ByteArray) (off : Int) (o : OccV) : Int × Int := if may off then (if isO l name o then (inst l name off o, 0) else (0, 12)) else (0, 1)
theorem rule_at {l : List RuleV} {i : Nat} {r : RuleV} (h : l[i]? = some r) : ruleAt l i = some r := by
  unfold ruleAt
  rw [if_pos (by omega), show (i : Int).toNat = i by omega]
  exact h
theorem is_all {l : List RuleV} {name : ByteArray} {o : OccV} : isO l name o = true ↔ Occ.All l name l.length o := by
  unfold isO
  constructor
  · intro h
    unfold ruleAt at h
    by_cases h0 : 0 ≤ o.rule
    · rw [if_pos h0] at h
      cases hr : l[o.rule.toNat]? with
      | none => rw [hr] at h; cases h
      | some r =>
        rw [hr] at h
        simp only [Bool.and_eq_true, decide_eq_true_eq] at h
        obtain ⟨h1, h2⟩ := h
        unfold Nom.nomE at h2
        cases hR : Rul.right r
        · rw [hR, if_neg (by decide)] at h2; exact absurd (congrArg Prod.snd h2) (by simp)
        · rw [hR, if_pos rfl] at h2
          by_cases hy : o.year < r.fr ∨ r.to < o.year
          · rw [if_pos hy] at h2; exact absurd (congrArg Prod.snd h2) (by simp)
          · rw [if_neg hy] at h2
            have h3 := congrArg Prod.fst h2
            simp only at h3
            refine ⟨o.rule.toNat, r, (List.getElem?_eq_some_iff.1 hr).1, hr, h1, hR, by omega, by omega, ?_⟩
            unfold Occ.occ
            rw [h3, show ((o.rule.toNat : Nat) : Int) = o.rule by omega]
    · rw [if_neg h0] at h; cases h
  · rintro ⟨i, r, hi, hr, hn, hR, h1, h2, e⟩
    have e1 : o.rule = i := by rw [e]; rfl
    have e2 : o.nom = Occ.nomR r o.year := by rw [e]; rfl
    rw [e1, rule_at hr]
    simp only [Bool.and_eq_true, decide_eq_true_eq]
    refine ⟨hn, ?_⟩
    unfold Nom.nomE
    rw [if_pos hR, if_neg (by omega), e2]
theorem save_bd {r : RuleV} (hR : Rul.right r = true) : -10800 ≤ r.save ∧ r.save ≤ 10800 := by
  have := Rul.right_spec hR
  omega
end Chn
end Go.Proofs.YtkpjhgkmjcdobaaGreatDoor
namespace Go.Proofs.YtkpjhgkmjcdobaaGreatDoor
open Go.RowKit NB
namespace Occ
theorem hit_det {nx : OccV → Option OccV} {ok : OccV → Bool} {c R R' : Option OccV} (h : Hit nx ok c R) (h' : Hit nx ok c R') : R = R' := by
  induction h with
  | none => cases h'; rfl
  | here ho =>
    cases h' with
    | here => rfl
    | go hn => rw [ho] at hn; cases hn
  | go hn _ ih =>
    cases h' with
    | here ho => rw [ho] at hn; cases hn
    | go _ h2 => exact ih h2
open Classical in
/-- what a search along a way finds -/
noncomputable def pick (nx : OccV → Option OccV) (ok : OccV → Bool) (c : Option OccV) : Option OccV := if h : ∃ R, Hit nx ok c R then Classical.choose h else none
theorem pick_eq {nx : OccV → Option OccV} {ok : OccV → Bool} {c R : Option OccV} (h : Hit nx ok c R) : pick nx ok c = R := by
  unfold pick
  rw [dif_pos ⟨R, h⟩]
  exact hit_det (Classical.choose_spec (⟨R, h⟩ : ∃ R, Hit nx ok c R)) h
theorem pick_next (l : List RuleV) (name : ByteArray) (ok : OccV → Bool) (fr : OccV) : Hit (nextO l name) ok (nextO l name fr) (pick (nextO l name) ok (nextO l name fr)) := by
  obtain ⟨R, h⟩ := hit_next l name ok fr
  rw [pick_eq h]
  exact h
theorem pick_prev (l : List RuleV) (name : ByteArray) (ok : OccV → Bool) (fr : OccV) : Hit (prevO l name) ok (prevO l name fr) (pick (prevO l name) ok (prevO l name fr)) := by
  obtain ⟨R, h⟩ := hit_prev l name ok fr
  rw [pick_eq h]
  exact h
theorem pick_none {nx : OccV → Option OccV} {ok : OccV → Bool} : pick nx ok none = none := pick_eq .none
theorem pick_here {nx : OccV → Option OccV} {ok : OccV → Bool} {o : OccV} (h : ok o = true) : pick nx ok (some o) = some o := pick_eq (.here h)
theorem step_next {l : List RuleV} {name : ByteArray} {ok : OccV → Bool} {fr o : OccV} (_h : nextO l name fr = some o) (ho : ok o = false) : pick (nextO l name) ok (some o) = pick (nextO l name) ok (nextO l name o) :=
  pick_eq (.go ho (pick_next l name ok o))
theorem step_prev {l : List RuleV} {name : ByteArray} {ok : OccV → Bool} {o : OccV} (ho : ok o = false) : pick (prevO l name) ok (some o) = pick (prevO l name) ok (prevO l name o) :=
  pick_eq (.go ho (pick_prev l name ok o))
theorem step_next' {l : List RuleV} {name : ByteArray} {ok : OccV → Bool} {o : OccV} (ho : ok o = false) : pick (nextO l name) ok (some o) = pick (nextO l name) ok (nextO l name o) :=
  pick_eq (.go ho (pick_next l name ok o))
theorem less_tri {l : List RuleV} {name : ByteArray} {a b : OccV} (ha : All l name l.length a) (hb : All l name l.length b) : less a b = true ∨ a = b ∨ less b a = true := by
  cases h1 : less a b
  · cases h2 : less b a
    · obtain ⟨e1, e2⟩ := weak_less.alike a b h1 h2
      exact .inr (.inl (All_alike ha hb e1 e2))
    · exact .inr (.inr rfl)
  · exact .inl rfl
theorem next_le {l : List RuleV} {name : ByteArray} {fr o x : OccV} (h : nextO l name fr = some o) (hx : All l name l.length x) (hl : less fr x = true) : x = o ∨ less o x = true := by
  rcases less_tri hx (next_all h).1 with h1 | h1 | h1
  · exact (next_gap h hx hl h1).elim
  · exact .inl h1
  · exact .inr h1
/-- each one in the span is among those told, or the list is full -/
theorem inL_mem {l : List RuleV} {name : ByteArray} {T : Int} {x : OccV} (hx : All l name l.length x) (hT : x.nom < T) : ∀ (n : Nat) (fr : OccV), less fr x = true → x ∈ inL l name T fr n ∨ (inL l name T fr n).length = n
  | 0, _, _ => by right; unfold inL; rfl
  | n + 1, fr, hl => by
    unfold inL
    cases hn : nextO l name fr with
    | none =>
      have := best_next l name fr
      rw [hn] at this
      rw [this x hx] at hl
      cases hl
    | some o =>
      simp only
      rcases next_le hn hx hl with rfl | h1
      · rw [if_pos hT]
        left
        exact List.mem_cons_self
      · have hoT : o.nom < T := by
          rw [less_iff] at h1
          omega
        rw [if_pos hoT]
        rcases inL_mem hx hT n o h1 with h2 | h2
        · exact .inl (List.mem_cons_of_mem _ h2)
        · right; simp [h2]
theorem inL_all {l : List RuleV} {name : ByteArray} {T : Int} {x : OccV} : ∀ {n : Nat} {fr : OccV}, x ∈ inL l name T fr n → All l name l.length x ∧ x.nom < T ∧ less fr x = true
  | 0, _, h => by unfold inL at h; cases h
  | n + 1, fr, h => by
    unfold inL at h
    cases hn : nextO l name fr with
    | none => rw [hn] at h; cases h
    | some o =>
      rw [hn] at h
      simp only at h
      by_cases hT : o.nom < T
      · rw [if_pos hT] at h
        rcases List.mem_cons.1 h with rfl | h
        · exact ⟨(next_all hn).1, hT, (next_all hn).2⟩
        · obtain ⟨h1, h2, h3⟩ := inL_all h
          exact ⟨h1, h2, weak_less.tr _ _ _ (next_all hn).2 h3⟩
      · rw [if_neg hT] at h
        cases h
end Occ
namespace Chn
def clampE (t : Int) : Int := Occ.clampI t (-2000000000000) 2000000000000
noncomputable def lastO (l : List RuleV) (name : ByteArray) (off t : Int) : Option OccV := if may off then Occ.pick (Occ.prevO l name) (fun o => decide (inst l name off o ≤ clampE t)) (Occ.prevO l name ⟨-1, 0, clampE t + 64800 + 1⟩) else none
noncomputable def afterO (l : List RuleV) (name : ByteArray) (off t : Int) : Option OccV := if may off then Occ.pick (Occ.nextO l name) (fun o => decide (clampE t < inst l name off o)) (Occ.nextO l name ⟨-1, 0, clampE t - 64800⟩) else none
def clockE (l : List RuleV) (name : ByteArray) (off nom base : Int) : Int × Int :=
  if may off = false ∨ nom < -2000000000000 ∨ 2000000000000 < nom then (0, 1) else if base < 0 ∨ 2 < base then (0, 4) else (nom - shift off base (saved l name ⟨-1, 0, nom⟩), 0)
theorem saved_bd (l : List RuleV) (name : ByteArray) (o : OccV) : -10800 ≤ saved l name o ∧ saved l name o ≤ 10800 := by
  unfold saved
  cases h : Occ.prevO l name o with
  | none => exact ⟨by simp, by simp⟩
  | some p =>
    obtain ⟨i, r, hi, hr, hn, hR, _, _, e⟩ := (Occ.prev_all h).1
    have e1 : p.rule = i := by rw [e]; rfl
    simp only
    unfold saveAt
    rw [e1, rule_at hr]
    exact save_bd hR
theorem may_iff {off : Int} : may off = true ↔ -54000 ≤ off ∧ off ≤ 54000 := by
  unfold may; simp
theorem shift_bd {off base s : Int} (h : may off = true) (h1 : -10800 ≤ s) (h2 : s ≤ 10800) : -64800 ≤ shift off base s ∧ shift off base s ≤ 64800 := by
  rw [may_iff] at h
  unfold shift
  split
  · omega
  · split <;> omega
theorem inst_bd {l : List RuleV} {name : ByteArray} {off : Int} (h : may off = true) (o : OccV) : o.nom - 64800 ≤ inst l name off o ∧ inst l name off o ≤ o.nom + 64800 := by
  have := saved_bd l name o
  have := shift_bd (base := baseAt l o.rule) h this.1 this.2
  unfold inst
  omega
theorem all_range {l : List RuleV} {name : ByteArray} {o : OccV} (h : Occ.All l name l.length o) : -1099000000000 < o.nom ∧ o.nom < 1099000000000 := by
  obtain ⟨i, r, hi, hr, hn, hR, h1, h2, e⟩ := h
  have := Occ.nom_range hR h1 h2
  rw [show o.nom = Occ.nomR r o.year by rw [e]; rfl]
  exact this
/-- the last one whose instant is not behind a second -/
theorem last_spec {l : List RuleV} {name : ByteArray} {off t : Int} (hm : may off = true) : match lastO l name off t with
    | none => ∀ x, Occ.All l name l.length x → clampE t < inst l name off x
    | some o => Occ.All l name l.length o ∧ inst l name off o ≤ clampE t ∧ ∀ x, Occ.All l name l.length x → Occ.less o x = true → clampE t < inst l name off x := by
  have h := Occ.found_prev (Occ.pick_prev l name (fun o => decide (inst l name off o ≤ clampE t)) ⟨-1, 0, clampE t + 64800 + 1⟩)
  have far : ∀ x : OccV, Occ.less x ⟨-1, 0, clampE t + 64800 + 1⟩ = false → clampE t < inst l name off x := by
    intro x hx
    have := (inst_bd (l := l) (name := name) hm x).1
    rw [Bool.eq_false_iff, Ne, Occ.less_iff] at hx
    simp only at hx
    omega
  unfold lastO
  rw [if_pos hm]
  generalize Occ.pick (Occ.prevO l name) (fun o => decide (inst l name off o ≤ clampE t)) (Occ.prevO l name ⟨-1, 0, clampE t + 64800 + 1⟩) = R at h
  cases R with
  | none =>
    intro x hx
    cases hf : Occ.less x ⟨-1, 0, clampE t + 64800 + 1⟩
    · exact far x hf
    · have := h x hx hf
      simp only [decide_eq_false_iff_not] at this
      omega
  | some o =>
    obtain ⟨h1, h2, h3, h4⟩ := h
    simp only [decide_eq_true_eq] at h3
    refine ⟨h1, h3, fun x hx hl => ?_⟩
    cases hf : Occ.less x ⟨-1, 0, clampE t + 64800 + 1⟩
    · exact far x hf
    · have := h4 x hx hf hl
      simp only [decide_eq_false_iff_not] at this
      omega
/-- the first one whose instant is behind a second -/
theorem after_spec {l : List RuleV} {name : ByteArray} {off t : Int} (hm : may off = true) : match afterO l name off t with
    | none => ∀ x, Occ.All l name l.length x → inst l name off x ≤ clampE t
    | some o => Occ.All l name l.length o ∧ clampE t < inst l name off o ∧ ∀ x, Occ.All l name l.length x → Occ.less x o = true → inst l name off x ≤ clampE t := by
  have h := Occ.found_next (Occ.pick_next l name (fun o => decide (clampE t < inst l name off o)) ⟨-1, 0, clampE t - 64800⟩)
  have far : ∀ x : OccV, Occ.All l name l.length x → Occ.less ⟨-1, 0, clampE t - 64800⟩ x = false → inst l name off x ≤ clampE t := by
    intro x ha hx
    have := (inst_bd (l := l) (name := name) hm x).2
    have := (Occ.all_bd ha).2.2.1
    rw [Bool.eq_false_iff, Ne, Occ.less_iff] at hx
    simp only at hx
    omega
  unfold afterO
  rw [if_pos hm]
  generalize Occ.pick (Occ.nextO l name) (fun o => decide (clampE t < inst l name off o)) (Occ.nextO l name ⟨-1, 0, clampE t - 64800⟩) = R at h
  cases R with
  | none =>
    intro x hx
    cases hf : Occ.less ⟨-1, 0, clampE t - 64800⟩ x
    · exact far x hx hf
    · have := h x hx hf
      simp only [decide_eq_false_iff_not] at this
      omega
  | some o =>
    obtain ⟨h1, h2, h3, h4⟩ := h
    simp only [decide_eq_true_eq] at h3
    refine ⟨h1, h3, fun x hx hl => ?_⟩
    cases hf : Occ.less ⟨-1, 0, clampE t - 64800⟩ x
    · exact far x hx hf
    · have := h4 x hx hf hl
      simp only [decide_eq_false_iff_not] at this
      omega
theorem clamp_le {l : List RuleV} {name : ByteArray} {off t : Int} {o : OccV} (hm : may off = true) (ho : Occ.All l name l.length o) (h : inst l name off o ≤ clampE t) : inst l name off o ≤ t := by
  have := (inst_bd (l := l) (name := name) hm o).1
  have := all_range ho
  unfold clampE Occ.clampI at h
  split at h
  · omega
  · split at h <;> omega
theorem clamp_lt {l : List RuleV} {name : ByteArray} {off t : Int} {o : OccV} (hm : may off = true) (ho : Occ.All l name l.length o) (h : clampE t < inst l name off o) : t < inst l name off o := by
  have := (inst_bd (l := l) (name := name) hm o).2
  have := all_range ho
  unfold clampE Occ.clampI at h
  split at h
  · omega
  · split at h <;> omega
theorem instE_all {l : List RuleV} {name : ByteArray} {off : Int} {o : OccV} (hm : may off = true) (ho : Occ.All l name l.length o) : instE l name off o = (inst l name off o, 0) := by
  unfold instE
  rw [if_pos hm, if_pos (is_all.2 ho)]
/-- the clock that shows a nominal second -/
theorem clock_at {l : List RuleV} {name : ByteArray} {off : Int} {p : OccV} (hm : may off = true) (hp : Occ.All l name l.length p) (hq : ∀ q, Occ.prevO l name p = some q → q.nom ≠ p.nom) : clockE l name off p.nom (baseAt l p.rule) = (inst l name off p, 0) := by
  have hb : 0 ≤ baseAt l p.rule ∧ baseAt l p.rule ≤ 2 := by
    obtain ⟨i, r, hi, hr, hn, hR, _, _, e⟩ := hp
    have e1 : p.rule = i := by rw [e]; rfl
    unfold baseAt
    rw [e1, rule_at hr]
    have := Rul.right_spec hR
    simp only
    omega
  have hr := all_range hp
  have hs : Occ.prevO l name ⟨-1, 0, p.nom⟩ = Occ.prevO l name p := by
    have h1 := Occ.best_prev l name p
    cases hq' : Occ.prevO l name p with
    | none =>
      rw [hq'] at h1
      cases h2 : Occ.prevO l name ⟨-1, 0, p.nom⟩ with
      | none => rfl
      | some x =>
        have h3 := Occ.prev_all h2
        have := h1 x h3.1
        have h4 := h3.2
        have h5 := (Occ.all_bd h3.1).2.2.1
        rw [Occ.less_iff] at h4
        simp only at h4
        unfold Occ.more at this
        rw [Bool.eq_false_iff, Ne, Occ.less_iff] at this
        omega
    | some q =>
      rw [hq'] at h1
      obtain ⟨g1, g2, g3⟩ := h1
      have hne := hq q hq'
      refine Occ.Best.unique Occ.weak_more (Occ.best_prev l name _) ⟨g1, ?_, fun x hx hl => g3 x hx ?_⟩
      · unfold Occ.more at g2 ⊢
        rw [Occ.less_iff] at g2 ⊢
        simp only
        omega
      · have h5 := (Occ.all_bd hx).2.2.1
        unfold Occ.more at hl ⊢
        rw [Occ.less_iff] at hl ⊢
        simp only at hl
        omega
  unfold clockE
  rw [if_neg (by rw [hm]; simp; omega), if_neg (by omega)]
  unfold inst saved
  rw [hs]
/-- what is told around a second -/
def around (l : List RuleV) (name : ByteArray) (t : Int) : List OccV := Occ.inL l name (t + 1036800) ⟨-1, 0, t - 1036800⟩ 20
def Spaced (L : List OccV) : Prop := ∀ (i : Nat) (a b : OccV), L[i]? = some a → L[i + 1]? = some b → a.nom + 345600 ≤ b.nom
theorem spaced_at {L : List OccV} (h : Spaced L) : ∀ (d i : Nat) (a b : OccV), L[i]? = some a → L[i + d]? = some b → a.nom + d * 345600 ≤ b.nom
  | 0, i, a, b, h1, h2 => by
    rw [Nat.add_zero, h1] at h2
    cases h2
    omega
  | d + 1, i, a, b, h1, h2 => by
    have hl : i + d < L.length := by
      have := (List.getElem?_eq_some_iff.1 h2).1
      omega
    have := spaced_at h d i a L[i + d] h1 (List.getElem?_eq_getElem hl)
    have := h (i + d) _ b (List.getElem?_eq_getElem hl) h2
    omega
theorem around_short {l : List RuleV} {name : ByteArray} {t : Int} (h : Spaced (around l name t)) : (around l name t).length ≠ 20 := by
  intro hl
  have h0 : 0 < (around l name t).length := by omega
  have h19 : 19 < (around l name t).length := by omega
  have g0 := List.getElem?_eq_getElem h0
  have g19 := List.getElem?_eq_getElem h19
  have := spaced_at h 19 0 _ _ g0 g19
  have m0 := Occ.inL_all (List.mem_of_getElem? g0)
  have m19 := Occ.inL_all (List.mem_of_getElem? g19)
  have l0 := m0.2.2
  rw [Occ.less_iff] at l0
  simp only at l0
  have := m19.2.1
  omega
theorem spaced_two {l : List RuleV} {name : ByteArray} {t : Int} (h : Spaced (around l name t)) {x y : OccV} (hx : Occ.All l name l.length x) (hy : Occ.All l name l.length y) (hl : Occ.less x y = true) (h1 : t - 1036800 ≤ x.nom) (h2 : y.nom < t + 1036800) : x.nom + 345600 ≤ y.nom := by
  have hs := around_short h
  have hxy := Occ.less_iff.1 hl
  have bx := (Occ.all_bd hx).2.2.1
  have by' := (Occ.all_bd hy).2.2.1
  have mx : x ∈ around l name t := (Occ.inL_mem hx (by omega) 20 ⟨-1, 0, t - 1036800⟩ (by rw [Occ.less_iff]; simp only; omega)).resolve_right hs
  have my : y ∈ around l name t := (Occ.inL_mem hy h2 20 ⟨-1, 0, t - 1036800⟩ (by rw [Occ.less_iff]; simp only; omega)).resolve_right hs
  obtain ⟨i, hi⟩ := List.mem_iff_getElem?.1 mx
  obtain ⟨j, hj⟩ := List.mem_iff_getElem?.1 my
  rcases Nat.lt_trichotomy i j with hij | hij | hij
  · obtain ⟨d, rfl⟩ : ∃ d, j = i + d := ⟨j - i, by omega⟩
    have := spaced_at h d i x y hi hj
    have : (1 : Int) ≤ d := by omega
    omega
  · subst hij
    rw [hi] at hj
    cases hj
    omega
  · obtain ⟨d, rfl⟩ : ∃ d, i = j + d := ⟨i - j, by omega⟩
    have := spaced_at h d j y x hj hi
    have : (1 : Int) ≤ d := by omega
    omega
theorem clamp_in {t : Int} (h1 : -1099511627776 ≤ t) (h2 : t ≤ 1099511627776) : clampE t = t := by
  unfold clampE Occ.clampI
  rw [if_neg (by omega), if_neg (by omega)]
/-- where occurrences are apart After is the Next of Last -/
theorem after_next {l : List RuleV} {name : ByteArray} {off t : Int} (hm : may off = true) (h1 : -1099511627776 ≤ t) (h2 : t ≤ 1099511627776) (h : Spaced (around l name t)) {o : OccV} (ho : lastO l name off t = some o) : Occ.nextO l name o = afterO l name off t := by
  have hL := last_spec (l := l) (name := name) (t := t) hm
  have hA := after_spec (l := l) (name := name) (t := t) hm
  rw [ho] at hL
  rw [clamp_in h1 h2] at hL hA
  obtain ⟨o1, o2, o3⟩ := hL
  have ib := inst_bd (l := l) (name := name) (off := off) hm
  -- none ahead of o has a later instant
  have key : ∀ p, Occ.All l name l.length p → t < inst l name off p → Occ.less o p = true := by
    intro p hp hi
    rcases Occ.less_tri o1 hp with g | g | g
    · exact g
    · subst g; omega
    · exfalso
      have a1 := ib p
      have a2 := ib o
      have a3 := Occ.less_iff.1 g
      have := spaced_two h hp o1 g (by omega) (by omega)
      omega
  cases hq : Occ.nextO l name o with
  | none =>
    cases hp : afterO l name off t with
    | none => rfl
    | some p =>
      rw [hp] at hA
      obtain ⟨p1, p2, p3⟩ := hA
      have hb := Occ.best_next l name o
      rw [hq] at hb
      have := hb p p1
      rw [key p p1 p2] at this
      cases this
  | some q =>
    have hq' := Occ.next_all hq
    have hqi := o3 q hq'.1 hq'.2
    cases hp : afterO l name off t with
    | none =>
      rw [hp] at hA
      have := hA q hq'.1
      omega
    | some p =>
      rw [hp] at hA
      obtain ⟨p1, p2, p3⟩ := hA
      rcases Occ.next_le hq p1 (key p p1 p2) with g | g
      · rw [g]
      · have := p3 q hq'.1 g
        omega
/-- instants are in order, and not near each other -/
theorem inst_far {l : List RuleV} {name : ByteArray} {off t : Int} (hm : may off = true) (h : Spaced (around l name t)) {i : Nat} {a b : OccV} (ha : (around l name t)[i]? = some a) (hb : (around l name t)[i + 1]? = some b) : instE l name off a = (inst l name off a, 0) ∧ instE l name off b = (inst l name off b, 0) ∧ 172800 < inst l name off b - inst l name off a := by
  have ib := inst_bd (l := l) (name := name) (off := off) hm
  have := h i a b ha hb
  have := ib a
  have := ib b
  exact ⟨instE_all hm (Occ.inL_all (List.mem_of_getElem? ha)).1, instE_all hm (Occ.inL_all (List.mem_of_getElem? hb)).1, by omega⟩
end Chn
end Go.Proofs.YtkpjhgkmjcdobaaGreatDoor
