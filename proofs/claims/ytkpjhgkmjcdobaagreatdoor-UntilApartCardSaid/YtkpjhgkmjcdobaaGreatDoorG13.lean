import Derived.Test.YtkpjhgkmjcdobaaGreatDoorEnds
/-
  until.near: whether an era's rules change something strictly between two seconds; in plain data, and as the program runs it.
-/
namespace Go.Proofs.YtkpjhgkmjcdobaaGreatDoor
open Go.RowKit NB Nxt
namespace Unt
/-- an occurrence whose instant lies strictly between -/
def NearP (l : List RuleV) (e : EraV) (a b : Int) : Prop := e.kind = 2 ∧ ∃ x, Occ.All l e.rules l.length x ∧ a < Chn.inst l e.rules e.off x ∧ Chn.inst l e.rules e.off x < b
open Classical in
noncomputable def nearB (l : List RuleV) (e : EraV) (a b : Int) : Bool := decide (NearP l e a b)
theorem near_true {l : List RuleV} {e : EraV} {a b : Int} (h : NearP l e a b) : nearB l e a b = true := by unfold nearB; simpa using h
theorem near_false {l : List RuleV} {e : EraV} {a b : Int} (h : ¬ NearP l e a b) : nearB l e a b = false := by unfold nearB; simpa using h
/-- what is still to be looked at -/
def Still (l : List RuleV) (name : ByteArray) (off a b : Int) (c : Option OccV) : Prop := ∀ x, Occ.All l name l.length x → a < Chn.inst l name off x → Chn.inst l name off x < b → ∃ o, c = some o ∧ (x = o ∨ Occ.less o x = true)
theorem still0 {l : List RuleV} {name : ByteArray} {off a b : Int} (hm : Chn.may off = true) : Still l name off a b (Chn.afterO l name off a) := by
  intro x hx h1 h2
  have hA := Chn.after_spec (l := l) (name := name) (t := a) hm
  cases hp : Chn.afterO l name off a with
  | none =>
    rw [hp] at hA
    have := Chn.clamp_le hm hx (hA x hx)
    omega
  | some p =>
    rw [hp] at hA
    obtain ⟨p1, p2, p3⟩ := hA
    refine ⟨p, rfl, ?_⟩
    rcases Occ.less_tri hx p1 with h | h | h
    · have := Chn.clamp_le hm hx (p3 x hx h)
      omega
    · exact .inl h
    · exact .inr h
theorem after_all {l : List RuleV} {name : ByteArray} {off a : Int} {o : OccV} (hm : Chn.may off = true) (h : Chn.afterO l name off a = some o) : Occ.All l name l.length o := by
  have hA := Chn.after_spec (l := l) (name := name) (t := a) hm
  rw [h] at hA
  exact hA.1
theorem still_next {l : List RuleV} {name : ByteArray} {off a b : Int} {o : OccV} (h : Still l name off a b (some o)) (hn : ¬ (a < Chn.inst l name off o ∧ Chn.inst l name off o < b)) : Still l name off a b (Occ.nextO l name o) := by
  intro x hx h1 h2
  obtain ⟨o', ho, hc⟩ := h x hx h1 h2
  cases ho
  rcases hc with rfl | hc
  · exact absurd ⟨h1, h2⟩ hn
  · cases hq : Occ.nextO l name o with
    | none =>
      have hb := Occ.best_next l name o
      rw [hq] at hb
      rw [hb x hx] at hc
      cases hc
    | some q => exact ⟨q, rfl, Occ.next_le hq hx hc⟩
theorem still_far {l : List RuleV} {name : ByteArray} {off a b : Int} {o : OccV} (hm : Chn.may off = true) (h : Still l name off a b (some o)) (hn : ¬ (a < Chn.inst l name off o ∧ Chn.inst l name off o < b)) (hf : b + 64800 < o.nom) : ¬ ∃ x, Occ.All l name l.length x ∧ a < Chn.inst l name off x ∧ Chn.inst l name off x < b := by
  rintro ⟨x, hx, h1, h2⟩
  obtain ⟨o', ho, hc⟩ := h x hx h1 h2
  cases ho
  rcases hc with rfl | hc
  · exact hn ⟨h1, h2⟩
  · have := Occ.less_iff.1 hc
    have := (Chn.inst_bd (l := l) (name := name) hm x).1
    omega
theorem still_none {l : List RuleV} {name : ByteArray} {off a b : Int} (h : Still l name off a b none) : ¬ ∃ x, Occ.All l name l.length x ∧ a < Chn.inst l name off x ∧ Chn.inst l name off x < b := by
  rintro ⟨x, hx, h1, h2⟩
  obtain ⟨o, ho, _⟩ := h x hx h1 h2
  cases ho
theorem cnt {c : Int} : ∀ {L : List Int}, L.Pairwise (· ≠ ·) → L.length ≤ (L.filter fun x => decide (x ≠ c)).length + 1
  | [], _ => Nat.zero_le _
  | x :: xs, h => by
    obtain ⟨h1, h2⟩ := List.pairwise_cons.1 h
    by_cases hx : x = c
    · subst hx
      rw [List.filter_cons_of_neg (by simp)]
      have : (xs.filter fun y => decide (y ≠ x)) = xs := by
        rw [List.filter_eq_self]
        intro y hy
        simpa using fun e => h1 y hy e.symm
      rw [this]
      simp
    · rw [List.filter_cons_of_pos (by simpa using hx)]
      have := cnt (c := c) h2
      simp only [List.length_cons]
      omega
theorem pig : ∀ (n : Nat) (L : List Int), L.Pairwise (· ≠ ·) → (∀ x ∈ L, 0 ≤ x ∧ x < n) → L.length ≤ n
  | 0, L, _, h => by
    cases L with
    | nil => exact Nat.le_refl _
    | cons x xs => have := h x List.mem_cons_self; omega
  | n + 1, L, hp, h => by
    have h1 := cnt (c := (n : Int)) hp
    have h2 := pig n (L.filter fun x => decide (x ≠ (n : Int))) (hp.filter _) (by
      intro x hx
      rw [List.mem_filter] at hx
      have h3 := h x hx.1
      have h4 : x ≠ n := by simpa using hx.2
      omega)
    omega
theorem inL_sorted {l : List RuleV} {name : ByteArray} {T : Int} : ∀ {n : Nat} {fr : OccV}, (Occ.inL l name T fr n).Pairwise (fun a b => Occ.less a b = true)
  | 0, _ => by unfold Occ.inL; exact List.Pairwise.nil
  | n + 1, fr => by
    unfold Occ.inL
    cases h : Occ.nextO l name fr with
    | none => exact List.Pairwise.nil
    | some o =>
      simp only
      split
      · exact List.pairwise_cons.2 ⟨fun x hx => (Occ.inL_all hx).2.2, inL_sorted⟩
      · exact List.Pairwise.nil
/-- in a short time each rule occurs once at most -/
theorem inL_few {l : List RuleV} {name : ByteArray} {a T : Int} (h : T - a ≤ 27820800) {n : Nat} : (Occ.inL l name T ⟨-1, 0, a⟩ n).length ≤ l.length := by
  have hp : ((Occ.inL l name T ⟨-1, 0, a⟩ n).map (·.rule)).Pairwise (· ≠ ·) := by
    rw [List.pairwise_map]
    refine List.Pairwise.imp_of_mem ?_ inL_sorted
    intro x y hx hy hl he
    obtain ⟨x1, x2, x3⟩ := Occ.inL_all hx
    obtain ⟨y1, y2, y3⟩ := Occ.inL_all hy
    obtain ⟨i, r, e1, hi, hr, hn, hR, u1, u2, u3⟩ := ChW.rule_of x1
    obtain ⟨j, s, f1, hj, hs, hm, hS, v1, v2, v3⟩ := ChW.rule_of y1
    have hij : i = j := by omega
    subst hij
    rw [hr] at hs
    cases hs
    have hl' := Occ.less_iff.1 hl
    rw [Occ.less_iff] at x3 y3
    simp only at x3 y3
    have hy : x.year < y.year := (Occ.nom_lt hR).1 (by omega)
    have := Occ.nom_mono hR hy
    omega
  have := pig l.length _ hp (by
    intro z hz
    rw [List.mem_map] at hz
    obtain ⟨x, hx, rfl⟩ := hz
    exact (Occ.all_bd (Occ.inL_all hx).1).2.2)
  simpa using this
end Unt
end Go.Proofs.YtkpjhgkmjcdobaaGreatDoor
/-
  The first end of a zone that is wrong, in plain data.
-/
namespace Go.Proofs.YtkpjhgkmjcdobaaGreatDoor
open Go.RowKit NB Nxt
namespace Unt
def nearO (l : List RuleV) (o : Option EraV) (a b : Int) : Prop := match o with | some e => NearP l e a b | none => False
open Classical in
/-- what is wrong with an end -/
noncomputable def badAt (l : List RuleV) (es : List EraV) (L : List Int) (i : Nat) : Int := match L[i]? with
  | none => 0
  | some t =>
    let p := if 0 < i then (L[i - 1]?).getD 0 else t - 345600
    if t ≤ p then 14 else if t - p < 345600 ∨ nearO l es[i]? (t - 172800) t ∨ nearO l es[i + 1]? t (t + 172800) then 15 else 0
/-- the first of them -/
noncomputable def first (f : Nat → Int) : Nat → Nat → Int × Int
  | 0, _ => (-1, 0)
  | c + 1, k => if f k = 0 then first f c (k + 1) else (k, f k)
noncomputable def checkU (l : List RuleV) (es : List EraV) : Int × Int := if Zn.zoneB es then first (badAt l es (Zn.endsL l es)) (Zn.endsL l es).length 0 else (-1, 4)
theorem first_at {f : Nat → Int} {m k : Nat} (h : k < m) : first f (m - k) k = if f k = 0 then first f (m - (k + 1)) (k + 1) else (k, f k) := by
  obtain ⟨d, hd⟩ : ∃ d, m - k = d + 1 := ⟨m - k - 1, by omega⟩
  rw [hd, show m - (k + 1) = d by omega]
  rfl
/-- of a good zone the ends are those of all eras but the last one -/
theorem ends_take {l : List RuleV} {es : List EraV} (h : Zn.OkTo es es.length) : ∀ k : Nat, k < es.length → Zn.endsL l (es.take k) = (es.take k).map fun e => (instU l e).1
  | 0, _ => by simp [Zn.endsL]
  | k + 1, hk => by
    obtain ⟨e, he⟩ : ∃ e, es[k]? = some e := ⟨es[k], by simp⟩
    have ih := ends_take (l := l) h k (by omega)
    have hok := h k e (by omega) he
    unfold Zn.okAt at hok
    simp only [Bool.and_eq_true, beq_iff_eq] at hok
    have hh : e.u.has = true := by rw [hok.2]; simpa using hk
    rw [Zn.endsL_succ he, ih, if_pos hh, List.take_add_one, he, List.map_append]
    rfl
theorem ends_all {l : List RuleV} {es : List EraV} (h0 : 0 < es.length) (h : Zn.OkTo es es.length) : Zn.endsL l es = (es.take (es.length - 1)).map fun e => (instU l e).1 := by
  obtain ⟨n, hn⟩ : ∃ n, es.length = n + 1 := ⟨es.length - 1, by omega⟩
  obtain ⟨e, he⟩ : ∃ e, es[n]? = some e := ⟨es[n], by simp⟩
  have hok := h n e (by omega) he
  unfold Zn.okAt at hok
  simp only [Bool.and_eq_true, beq_iff_eq] at hok
  have hh : e.u.has = false := by rw [hok.2]; simp; omega
  have h1 : Zn.endsL l es = Zn.endsL l (es.take (n + 1)) := by rw [← hn, List.take_length]
  rw [h1, Zn.endsL_succ he, hh, hn]
  simp only [Bool.false_eq_true, if_false, List.append_nil, Nat.add_sub_cancel]
  exact ends_take h n (by omega)
theorem ends_len {l : List RuleV} {es : List EraV} (hz : Zn.zoneB es = true) : (Zn.endsL l es).length + 1 = es.length := by
  obtain ⟨h0, h⟩ := Zn.zone_iff.1 hz
  rw [ends_all h0 h, List.length_map, List.length_take]
  omega
/-- an end of a good zone -/
theorem end_at {l : List RuleV} {es : List EraV} (hz : Zn.zoneB es = true) {i : Nat} {t : Int} (ht : (Zn.endsL l es)[i]? = some t) : ∃ e f, es[i]? = some e ∧ es[i + 1]? = some f ∧ Er.rightB e = true ∧ Er.rightB f = true ∧ t = (instU l e).1 ∧ -3000000000000 ≤ t ∧ t ≤ 3000000000000 := by
  obtain ⟨h0, h⟩ := Zn.zone_iff.1 hz
  have hl := ends_len (l := l) hz
  have hi : i < (Zn.endsL l es).length := (List.getElem?_eq_some_iff.1 ht).1
  obtain ⟨e, he⟩ : ∃ e, es[i]? = some e := ⟨es[i]'(by omega), by simp⟩
  obtain ⟨f, hf⟩ : ∃ e, es[i + 1]? = some e := ⟨es[i + 1]'(by omega), by simp⟩
  have oe := h i e (by omega) he
  have of' := h (i + 1) f (by omega) hf
  unfold Zn.okAt at oe of'
  simp only [Bool.and_eq_true, beq_iff_eq] at oe of'
  have hh : e.u.has = true := by rw [oe.2]; simp; omega
  rw [ends_all h0 h, List.getElem?_map, List.getElem?_take, if_pos (by omega), he] at ht
  have htt : t = (instU l e).1 := by cases ht; rfl
  refine ⟨e, f, he, hf, oe.1, of'.1, htt, ?_⟩
  have rs := right_spec oe.1
  have es' := end_spec hh rs.2.1
  have sb := saved_bd (l := l) oe.1 (nomV e.u)
  have sh := Chn.shift_bd (base := e.u.base) (Chn.may_iff.2 rs.1) sb.1 sb.2
  have : (instU l e).1 = nomV e.u - Chn.shift e.off e.u.base (savedE l e (nomV e.u)) := by
    unfold instU
    rw [if_pos oe.1, if_pos hh]
  omega
end Unt
end Go.Proofs.YtkpjhgkmjcdobaaGreatDoor
