import Derived.Test.YtcfmchpoclkpgaaGreatDoorG9
import Derived.Test.YtcfmchpoclkpgaaGreatDoorNom
namespace Go.Proofs.YtcfmchpoclkpgaaGreatDoor
open Go.RowKit NB
namespace Occ
variable {lt : OccV → OccV → Bool} {fr : OccV} {S T : OccV → Prop}
def scanY (lt : OccV → OccV → Bool) (fr : OccV) (r : RuleV) (i d : Int) : Int → Nat → Option OccV
  | _, 0 => none
  | y, n + 1 => if lt fr (occ r i y) then some (occ r i y) else scanY lt fr r i d (y + d) n
theorem best_scanY {r : RuleV} {i d : Int} (hm : ∀ (y : Int) (k : Nat), lt (occ r i (y + k * d)) (occ r i y) = false) :
    ∀ (n : Nat) (y : Int), Best lt fr (fun o => ∃ k : Nat, k < n ∧ o = occ r i (y + k * d)) (scanY lt fr r i d y n)
  | 0, y => by
    rintro o ⟨k, hk, _⟩
    omega
  | n + 1, y => by
    unfold scanY
    cases h : lt fr (occ r i y)
    · simp only [Bool.false_eq_true, if_false]
      have ih := best_scanY hm n (y + d)
      have hs : ∀ k : Nat, y + d + k * d = y + (k + 1 : Nat) * d := by
        intro k;rw [Int.natCast_add, Int.add_mul];omega
      cases hc : scanY lt fr r i d (y + d) n with
      | none =>
        rw [hc] at ih
        rintro o ⟨k, hk, rfl⟩
        cases k with
        | zero => simpa using h
        | succ k => exact ih _ ⟨k, by omega, by rw [hs]⟩
      | some a =>
        rw [hc] at ih
        obtain ⟨⟨k, hk, e⟩, h2, h3⟩ := ih
        refine ⟨⟨k + 1, by omega, by rw [e, hs]⟩, h2, ?_⟩
        rintro o ⟨k, hk, rfl⟩ hl
        cases k with
        | zero => rw [show y + ((0 : Nat) : Int) * d = y by simp, h] at hl;cases hl
        | succ k => exact h3 _ ⟨k, by omega, by rw [hs]⟩ hl
    · simp only [if_true]
      refine ⟨⟨0, by omega, by simp⟩, h, ?_⟩
      rintro o ⟨k, _, rfl⟩ _
      exact hm y k
def upY (fr : OccV) (r : RuleV) (i : Int) : Option OccV := scanY less fr r i 1 (max r.fr (nearY fr.nom - 2)) (r.to - max r.fr (nearY fr.nom - 2) + 1).toNat
def downY (fr : OccV) (r : RuleV) (i : Int) : Option OccV := scanY more fr r i (-1) (min r.to (nearY fr.nom + 2)) (min r.to (nearY fr.nom + 2) - r.fr + 1).toNat
theorem less_same (r : RuleV) (hr : Rul.right r = true) (i y y' : Int) : less (occ r i y) (occ r i y') = decide (y < y') := by
  have h := nom_lt hr (y := y) (y' := y')
  have h' := nom_lt hr (y := y') (y' := y)
  rw [Bool.eq_iff_iff, less_iff, decide_eq_true_eq]
  show (nomR r y < nomR r y' ∨ nomR r y = nomR r y' ∧ i < i) ↔ _
  omega
theorem best_upY {r : RuleV} (hr : Rul.right r = true) (i : Int) (fr : OccV) : Best less fr (Of r i) (upY fr r i) := by
  have hn := near_nearY fr.nom
  refine Best.dom weak_less (best_scanY (fun y k => ?_) _ _) ?_ ?_
  · rw [less_same r hr];simp;omega
  · rintro o ⟨k, hk, rfl⟩
    exact ⟨by show r.fr ≤ _ + _ * (1 : Int);omega, by show _ + _ * (1 : Int) ≤ r.to;omega, rfl⟩
  · rintro o ⟨h1, h2, h3⟩ hl
    refine ⟨o, ?_, hl, weak_less.irr o⟩
    rw [h3] at hl
    have hl' := less_iff.1 hl
    have : max r.fr (nearY fr.nom - 2) ≤ o.year := by
      rcases (by omega : o.year < (nearY fr.nom - 2) ∨ (nearY fr.nom - 2) ≤ o.year) with hc|hc
      · have := hn.1 r hr o.year h1 h2 (by omega)
        have e : (occ r i o.year).nom = nomR r o.year := rfl
        omega
      · omega
    exact ⟨(o.year - max r.fr (nearY fr.nom - 2)).toNat, by omega, h3.trans (congrArg (occ r i) (by omega))⟩
theorem best_downY {r : RuleV} (hr : Rul.right r = true) (i : Int) (fr : OccV) : Best more fr (Of r i) (downY fr r i) := by
  have hn := near_nearY fr.nom
  refine Best.dom weak_more (best_scanY (fun y k => ?_) _ _) ?_ ?_
  · unfold more;rw [less_same r hr];simp;omega
  · rintro o ⟨k, hk, rfl⟩
    exact ⟨by show r.fr ≤ _ + _ * (-1 : Int);omega, by show _ + _ * (-1 : Int) ≤ r.to;omega, rfl⟩
  · rintro o ⟨h1, h2, h3⟩ hl
    refine ⟨o, ?_, hl, weak_more.irr o⟩
    rw [h3] at hl
    have hl' := less_iff.1 hl
    have : o.year ≤ min r.to (nearY fr.nom + 2) := by
      rcases (by omega : (nearY fr.nom + 2) < o.year ∨ o.year ≤ (nearY fr.nom + 2)) with hc|hc
      · have := hn.2 r hr o.year h1 h2 (by omega)
        have e : (occ r i o.year).nom = nomR r o.year := rfl
        omega
      · omega
    exact ⟨(min r.to (nearY fr.nom + 2) - o.year).toNat, by omega, h3.trans (congrArg (occ r i) (by omega))⟩
def lowA (r : RuleV) (Y : Int) : Int := if r.to < max r.fr (Y - 2) then r.to else if min r.to (Y + 2) < r.fr then r.fr else max r.fr (Y - 2)
def highA (r : RuleV) (Y : Int) : Int := if r.to < max r.fr (Y - 2) then r.to else if min r.to (Y + 2) < r.fr then r.fr else min r.to (Y + 2)
def foldA (lt : OccV → OccV → Bool) (fr : OccV) (r : RuleV) (i y : Int) (b : Option OccV) : Nat → Option OccV
  | 0 => b
  | k + 1 => merge lt (foldA lt fr r i y b k) (one lt fr (occ r i (y + k)))
def All (l : List RuleV) (name : ByteArray) (k : Nat) (o : OccV) : Prop := ∃ (i : Nat) (r : RuleV), i < k ∧ l[i]? = some r ∧ r.name = name ∧ Rul.right r = true ∧ Of r i o
def scan (lt : OccV → OccV → Bool) (cand : RuleV → Int → Option OccV) (l : List RuleV) (name : ByteArray) : Nat → Option OccV
  | 0 => none
  | k + 1 => merge lt (scan lt cand l name k) (match l[k]? with
    | some r => if r.name = name ∧ Rul.right r = true then cand r k else none
    | none => none)
def nextO (l : List RuleV) (name : ByteArray) (fr : OccV) : Option OccV := scan less (upY fr) l name l.length
def prevO (l : List RuleV) (name : ByteArray) (fr : OccV) : Option OccV := scan more (downY fr) l name l.length
theorem All_zero {l : List RuleV} {name : ByteArray} {o : OccV} : ¬ All l name 0 o := by rintro ⟨i, _, h, _⟩;omega
theorem All_succ {l : List RuleV} {name : ByteArray} {k : Nat} {r : RuleV} (hr : l[k]? = some r) (o : OccV) : All l name (k + 1) o ↔ (All l name k o ∨ (r.name = name ∧ Rul.right r = true ∧ Of r k o)) := by
  constructor
  · rintro ⟨i, r', h1, h2, h3⟩
    by_cases hik : i = k
    · subst hik
      rw [hr] at h2
      cases h2
      exact .inr h3
    · exact .inl ⟨i, r', by omega, h2, h3⟩
  · rintro (⟨i, r', h1, h2, h3⟩|h)
    · exact ⟨i, r', by omega, h2, h3⟩
    · exact ⟨k, r, by omega, hr, h⟩
theorem best_scan (W : Weak lt) {cand : RuleV → Int → Option OccV} (hc : ∀ r i, Rul.right r = true → Best lt fr (Of r i) (cand r i)) (l : List RuleV) (name : ByteArray) : ∀ k : Nat, k ≤ l.length → Best lt fr (All l name k) (scan lt cand l name k)
  | 0, _ => fun o ho => (All_zero ho).elim
  | k + 1, hk => by
    obtain ⟨r, hr⟩ : ∃ r, l[k]? = some r := ⟨l[k], by simp⟩
    have ih := best_scan W hc l name k (by omega)
    unfold scan
    rw [hr]
    simp only
    by_cases h : r.name = name ∧ Rul.right r = true
    · rw [if_pos h]
      refine (ih.merge W (hc r k h.2)).congr fun o => ?_
      rw [All_succ hr]
      exact ⟨fun h' => h'.imp id fun x => ⟨h.1, h.2, x⟩, fun h' => h'.imp id fun x => x.2.2⟩
    · rw [if_neg h]
      have : merge lt (scan lt cand l name k) none = scan lt cand l name k := by cases scan lt cand l name k <;> rfl
      rw [this]
      refine ih.congr fun o => ?_
      rw [All_succ hr]
      exact ⟨.inl, fun h' => h'.elim id fun x => (h ⟨x.1, x.2.1⟩).elim⟩
theorem best_next (l : List RuleV) (name : ByteArray) (fr : OccV) : Best less fr (All l name l.length) (nextO l name fr) :=
  best_scan weak_less (fun _ i h => best_upY h i fr) l name _ (Nat.le_refl _)
theorem best_prev (l : List RuleV) (name : ByteArray) (fr : OccV) : Best more fr (All l name l.length) (prevO l name fr) :=
  best_scan weak_more (fun _ i h => best_downY h i fr) l name _ (Nat.le_refl _)
theorem All_alike {l : List RuleV} {name : ByteArray} {k : Nat} {a b : OccV} (ha : All l name k a) (hb : All l name k b) (h1 : a.nom = b.nom) (h2 : a.rule = b.rule) : a = b := by
  obtain ⟨i, r, _, hr, _, hR, _, _, e⟩ := ha
  obtain ⟨j, s, _, hs, _, _, _, _, e'⟩ := hb
  have e1 : a.rule = i := by rw [e];rfl
  have e2 : b.rule = j := by rw [e'];rfl
  obtain rfl : i = j := by omega
  rw [hr] at hs
  cases hs
  have f1 : a.nom = nomR r a.year := by rw [e];rfl
  have f2 : b.nom = nomR r b.year := by rw [e'];rfl
  have : a.year = b.year := by
    have g1 := nom_lt hR (y := a.year) (y' := b.year)
    have g2 := nom_lt hR (y := b.year) (y' := a.year)
    omega
  cases a;cases b;simp_all
def scanA (lt : OccV → OccV → Bool) (fr : OccV) (Y : Int) (l : List RuleV) (name : ByteArray) : Nat → Option OccV
  | 0 => none
  | k + 1 => match l[k]? with
    | some r => if r.name = name ∧ Rul.right r = true then foldA lt fr r k (lowA r Y) (scanA lt fr Y l name k) (highA r Y - lowA r Y + 1).toNat else scanA lt fr Y l name k
    | none => scanA lt fr Y l name k
def nearA (t : Int) : Int := if Cal.ahead (-40000) ≤ t / 86400 ∧ t / 86400 < Cal.ahead 40001 then Yr.dY (t / 86400) else if t < 0 then -40000 else 40000
end Occ
end Go.Proofs.YtcfmchpoclkpgaaGreatDoor
namespace Go.Proofs.YtcfmchpoclkpgaaGreatDoor
open Go.RowKit NB
namespace Occ
def inL (l : List RuleV) (name : ByteArray) (T : Int) : OccV → Nat → List OccV
  | _, 0 => []
  | fr, n + 1 => match nextO l name fr with
    | none => []
    | some o => if o.nom < T then o :: inL l name T o n else []
def Run (nx : OccV → Option OccV) : OccV → List OccV → Prop
  | fr, [] => nx fr = none
  | fr, o :: os => nx fr = some o ∧ Run nx o os
theorem next_all {l : List RuleV} {name : ByteArray} {fr o : OccV} (h : nextO l name fr = some o) : All l name l.length o ∧ less fr o = true := by
  have := best_next l name fr
  rw [h] at this
  exact ⟨this.1, this.2.1⟩
theorem prev_all {l : List RuleV} {name : ByteArray} {fr o : OccV} (h : prevO l name fr = some o) : All l name l.length o ∧ less o fr = true := by
  have := best_prev l name fr
  rw [h] at this
  exact ⟨this.1, this.2.1⟩
theorem all_bd {l : List RuleV} {name : ByteArray} {o : OccV} (h : All l name l.length o) : -2000000000000 ≤ o.nom ∧ o.nom ≤ 2000000000000 ∧ 0 ≤ o.rule ∧ o.rule < l.length := by
  obtain ⟨i, r, hi, hr, hn, hR, h1, h2, he⟩ := h
  have hy := (Rul.right_spec hR).1
  have hb := Nom.nom_bd hR (y := o.year) (by omega) (by omega)
  rw [he]
  exact ⟨hb.1, hb.2, by show (0 : Int) ≤ (i : Int);omega, by show (i : Int) < _;omega⟩
theorem run_ex1 (l : List RuleV) (name : ByteArray) : ∀ a : Nat, ∀ b : Nat, ∀ fr : OccV, All l name l.length fr → (2000000000000 - fr.nom).toNat = a → (l.length - fr.rule).toNat = b → ∃ os, Run (nextO l name) fr os := by
  intro a
  induction a using Nat.strongRecOn with
  | ind a iha =>
    intro b
    induction b using Nat.strongRecOn with
    | ind b ihb =>
      intro fr hf ha hb
      cases hn : nextO l name fr with
      | none => exact ⟨[], hn⟩
      | some o =>
        obtain ⟨h1, h2⟩ := next_all hn
        have b1 := all_bd h1
        have b0 := all_bd hf
        rw [less_iff] at h2
        have : ∃ os, Run (nextO l name) o os := by
          rcases h2 with h2|⟨h2, h3⟩
          · exact iha _ (by omega) _ o h1 rfl rfl
          · exact ihb _ (by omega) o h1 (by omega) rfl
        obtain ⟨os, hos⟩ := this
        exact ⟨o :: os, hn, hos⟩
theorem run_next (l : List RuleV) (name : ByteArray) (fr : OccV) : ∃ os, Run (nextO l name) fr os := by
  cases hn : nextO l name fr with
  | none => exact ⟨[], hn⟩
  | some o =>
    obtain ⟨os, hos⟩ := run_ex1 l name _ _ o (next_all hn).1 rfl rfl
    exact ⟨o :: os, hn, hos⟩
theorem run_unique {nx : OccV → Option OccV} : ∀ {fr : OccV} {a b : List OccV}, Run nx fr a → Run nx fr b → a = b
  | _, [], [], _, _ => rfl
  | fr, [], _ :: _, h, h' => by
    have := (show nx fr = none from h).symm.trans h'.1
    cases this
  | fr, _ :: _, [], h, h' => by
    have := (show nx fr = none from h').symm.trans h.1
    cases this
  | _, x :: a, y :: b, h, h' => by
    have := h.1.symm.trans h'.1
    cases this
    rw [run_unique h.2 h'.2]
open Classical in
noncomputable def leftN (nx : OccV → Option OccV) (fr : OccV) : Nat := if h : ∃ os, Run nx fr os then (Classical.choose h).length else 0
theorem leftN_eq {nx : OccV → Option OccV} {fr : OccV} {os : List OccV} (h : Run nx fr os) : leftN nx fr = os.length := by
  unfold leftN
  rw [dif_pos ⟨os, h⟩, run_unique (Classical.choose_spec (⟨os, h⟩ : ∃ os, Run nx fr os)) h]
noncomputable def leftO (nx : OccV → Option OccV) (c : Option OccV) : Nat := match c with
  | none => 0
  | some o => leftN nx o + 1
theorem leftO_next {l : List RuleV} {name : ByteArray} (o : OccV) : leftO (nextO l name) (nextO l name o) < leftO (nextO l name) (some o) := by
  obtain ⟨os, h⟩ := run_next l name o
  show _ < leftN _ o + 1
  rw [leftN_eq h]
  cases os with
  | nil => rw [show nextO l name o = none from h];exact Nat.succ_pos _
  | cons x xs => rw [h.1];show leftN _ x + 1 < _;rw [leftN_eq h.2];simp
inductive Hit (nx : OccV → Option OccV) (ok : OccV → Bool) : Option OccV → Option OccV → Prop
  | none : Hit nx ok none none
  | here {o : OccV} : ok o = true → Hit nx ok (some o) (some o)
  | go {o : OccV} {R : Option OccV} : ok o = false → Hit nx ok (nx o) R → Hit nx ok (some o) R
theorem hit_run {nx : OccV → Option OccV} (ok : OccV → Bool) : ∀ {os : List OccV} {fr : OccV}, Run nx fr os → ∃ R, Hit nx ok (nx fr) R
  | [], fr, h => ⟨_, by rw [show nx fr = none from h];exact .none⟩
  | o :: os, fr, h => by
    rw [h.1]
    cases ho : ok o
    · obtain ⟨R, hR⟩ := hit_run ok h.2
      exact ⟨R, .go ho hR⟩
    · exact ⟨_, .here ho⟩
theorem hit_next (l : List RuleV) (name : ByteArray) (ok : OccV → Bool) (fr : OccV) : ∃ R, Hit (nextO l name) ok (nextO l name fr) R := by
  obtain ⟨os, h⟩ := run_next l name fr
  exact hit_run ok h
def Found (lt : OccV → OccV → Bool) (fr : OccV) (S : OccV → Prop) (ok : OccV → Bool) (R : Option OccV) : Prop :=
  match R with
  | none => ∀ x, S x → lt fr x = true → ok x = false
  | some o => S o ∧ lt fr o = true ∧ ok o = true ∧ ∀ x, S x → lt fr x = true → lt x o = true → ok x = false
theorem hit_spec {lt : OccV → OccV → Bool} (W : Weak lt) {S : OccV → Prop} {nx : OccV → Option OccV} {ok : OccV → Bool} (hb : ∀ fr, Best lt fr S (nx fr)) (al : ∀ a b, S a → S b → lt a b = false → lt b a = false → a = b) :
    ∀ {c R : Option OccV}, Hit nx ok c R → ∀ {fr : OccV}, nx fr = c → Found lt fr S ok R := by
  intro c R h
  induction h with
  | none =>
    intro fr hc x hx hl
    have := hb fr
    rw [hc] at this
    rw [this x hx] at hl
    cases hl
  | here ho =>
    intro fr hc
    have := hb fr
    rw [hc] at this
    refine ⟨this.1, this.2.1, ho, fun x hx hl hl2 => ?_⟩
    rw [this.2.2 x hx hl] at hl2
    cases hl2
  | @go o R ho _ ih =>
    intro fr hc
    have hB := hb fr
    rw [hc] at hB
    have step : ∀ x, S x → lt fr x = true → lt o x = true ∨ x = o := by
      intro x hx hl
      cases ho2 : lt o x
      · exact .inr (al x o hx hB.1 (hB.2.2 x hx hl) ho2)
      · exact .inl rfl
    have := ih rfl
    cases R with
    | none =>
      intro x hx hl
      rcases step x hx hl with h|rfl
      · exact this x hx h
      · exact ho
    | some p =>
      obtain ⟨h1, h2, h3, h4⟩ := this
      refine ⟨h1, W.tr _ _ _ hB.2.1 h2, h3, fun x hx hl hl2 => ?_⟩
      rcases step x hx hl with h|rfl
      · exact h4 x hx h hl2
      · exact ho
theorem found_next {l : List RuleV} {name : ByteArray} {ok : OccV → Bool} {fr : OccV} {R : Option OccV} (h : Hit (nextO l name) ok (nextO l name fr) R) : Found less fr (All l name l.length) ok R :=
  hit_spec weak_less (best_next l name) (fun a b ha hb h1 h2 => by
    obtain ⟨e1, e2⟩ := weak_less.alike a b h1 h2
    exact All_alike ha hb e1 e2) h rfl
end Occ
end Go.Proofs.YtcfmchpoclkpgaaGreatDoor
namespace Go.Proofs.YtcfmchpoclkpgaaGreatDoor
open Go.RowKit NB
namespace Occ
theorem next_gap {l : List RuleV} {name : ByteArray} {fr a o : OccV} (h : nextO l name fr = some a) (ho : All l name l.length o) (h1 : less fr o = true) (h2 : less o a = true) : False := by
  have := best_next l name fr
  rw [h] at this
  rw [this.2.2 o ho h1] at h2
  cases h2
end Occ
end Go.Proofs.YtcfmchpoclkpgaaGreatDoor
