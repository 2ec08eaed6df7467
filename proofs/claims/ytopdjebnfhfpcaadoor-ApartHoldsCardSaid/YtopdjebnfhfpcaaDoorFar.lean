/-
  Rules none of which is too close to another one: any two occurrences of a name are far from each other. In plain data.
-/
import Derived.Test.YtopdjebnfhfpcaaDoorOccB
import Derived.Test.YtopdjebnfhfpcaaDoorCheck
namespace Go.Proofs.YtopdjebnfhfpcaaDoor
open Go.RowKit NB
namespace Far
theorem cum_2001 (y m : Int) (h1 : 1 ≤ m) (h2 : m ≤ 12) : Cal.cum y m = Cal.cum 2001 m + (if 3 ≤ m then Cal.lp y else 0) := by
  have e : Cal.lp 2001 = 0 := by decide
  unfold Cal.cum
  rw [e]
  rcases Cal.months h1 h2 with rfl | rfl | rfl | rfl | rfl | rfl | rfl | rfl | rfl | rfl | rfl | rfl <;> simp
def sh (m y : Int) : Int := if 3 ≤ m then Cal.lp y else 0
/-- where in a year a rule's occurrence lies -/
theorem nom_win {r : RuleV} (hr : Rul.right r = true) (y : Int) : Cal.ahead y * 86400 + Apt.wLow r + sh r.month y * 86400 ≤ Occ.nomR r y ∧ Occ.nomR r y ≤ Cal.ahead y * 86400 + Apt.wHigh r + sh r.month y * 86400 := by
  have hf := (Rul.right_spec hr).2.1
  obtain ⟨m1, m2, hd, hk⟩ := Day.fits_spec hf
  have hc := cum_2001 y r.month m1 m2
  have h1 := Day.days31 hf
  have hl1 : Cal.len 1 r.month ≤ Cal.len y r.month := by
    have e : Cal.lp 1 = 0 := by decide
    have := Cal.lp_01 y
    unfold Cal.len
    rw [e]
    split
    · omega
    · split
      · omega
      · split <;> omega
  have hl4 : Cal.len y r.month ≤ Cal.len 4 r.month := by
    have e : Cal.lp 4 = 1 := by decide
    have := Cal.lp_01 y
    unfold Cal.len
    rw [e]
    split
    · omega
    · split
      · omega
      · split <;> omega
  unfold Occ.nomR Apt.wLow Apt.wHigh Day.dayI Day.winLow Day.winHigh sh
  have hdays : Cal.days y r.month 1 = Cal.ahead y + Cal.cum y r.month := by unfold Cal.days; omega
  rw [hdays, hc]
  generalize (if 3 ≤ r.month then Cal.lp y else 0) = s
  have b1 := Day.backI_bd (Cal.ahead y + (Cal.cum 2001 r.month + s) + Cal.len y r.month - 1) r.week
  have b2 := Day.backI_bd (Cal.ahead y + (Cal.cum 2001 r.month + s) + r.day - 1 + 6) r.week
  have b3 := Day.backI_bd (Cal.ahead y + (Cal.cum 2001 r.month + s) + r.day - 1) r.week
  rcases hk with ⟨e, _⟩ | ⟨e, _⟩ | ⟨e | e, _⟩ <;> rw [e] <;> simp only [Int.reduceEq, if_true, if_false, reduceIte] <;> omega
theorem win_near {r : RuleV} (hr : Rul.right r = true) : -950400 ≤ Apt.wLow r ∧ Apt.wLow r ≤ Apt.wHigh r + 0 ∨ True := .inr trivial
theorem win_lo {r : RuleV} (hr : Rul.right r = true) : (r.month ≤ 2 → Apt.wLow r ≤ 5270400) ∧ (3 ≤ r.month → 5097600 ≤ Apt.wHigh r) ∧ -950400 ≤ Apt.wLow r ∧ Apt.wHigh r ≤ 36000000 := by
  have hf := (Rul.right_spec hr).2.1
  obtain ⟨m1, m2, hd, hk⟩ := Day.fits_spec hf
  have hs := (Rul.right_spec hr).2.2.1
  have hb := Cal.cum_bd 2001 r.month m1 m2
  have e : Cal.lp 2001 = 0 := by decide
  have e1 : Cal.lp 1 = 0 := by decide
  have e4 : Cal.lp 4 = 1 := by decide
  have hc : (r.month ≤ 2 → Cal.cum 2001 r.month ≤ 31) ∧ (3 ≤ r.month → 59 ≤ Cal.cum 2001 r.month) := by
    unfold Cal.cum
    rw [e]
    rcases Cal.months m1 m2 with h | h | h | h | h | h | h | h | h | h | h | h <;> rw [h] <;> simp
  have hl := Cal.len_bd 1 r.month m1 m2
  have hl4 := Cal.len_bd 4 r.month m1 m2
  have hl2 : r.month = 2 → Cal.len 1 r.month = 28 := by intro h; rw [h]; decide
  have hc1 : r.month = 1 → Cal.cum 2001 r.month = 0 := by intro h; rw [h]; decide
  have h2001 := Cal.len_le 2001 r.month
  unfold Apt.wLow Apt.wHigh Day.winLow Day.winHigh
  rcases hk with ⟨e', h⟩ | ⟨e', h⟩ | ⟨e' | e', h⟩ <;> rw [e'] <;> simp only [Int.reduceEq, if_true, if_false, reduceIte] <;> omega
theorem far_same {r : RuleV} (hr : Rul.right r = true) {y y' : Int} (h : y < y') : Occ.nomR r y + 345600 ≤ Occ.nomR r y' := by
  have := Occ.nom_mono hr h
  omega
theorem far_two {a b : RuleV} (ha : Rul.right a = true) (hb : Rul.right b = true) (hn : Apt.nearB a b = false) {y y' : Int} (h1 : a.fr ≤ y) (h2 : y ≤ a.to) (h3 : b.fr ≤ y') (h4 : y' ≤ b.to) :
    Occ.nomR a y + 345600 ≤ Occ.nomR b y' ∨ Occ.nomR b y' + 345600 ≤ Occ.nomR a y := by
  have wa := nom_win ha y
  have wb := nom_win hb y'
  have la := win_lo ha
  have lb := win_lo hb
  have p1 := Cal.lp_01 y
  have p2 := Cal.lp_01 y'
  have sa : 0 ≤ sh a.month y ∧ sh a.month y ≤ Cal.lp y ∧ (3 ≤ a.month → sh a.month y = Cal.lp y) ∧ (a.month ≤ 2 → sh a.month y = 0) := by
    unfold sh; split <;> omega
  have sb : 0 ≤ sh b.month y' ∧ sh b.month y' ≤ Cal.lp y' ∧ (3 ≤ b.month → sh b.month y' = Cal.lp y') ∧ (b.month ≤ 2 → sh b.month y' = 0) := by
    unfold sh; split <;> omega
  unfold Apt.nearB Apt.meetB Apt.clearB at hn
  simp only [Bool.or_eq_false_iff, Bool.and_eq_false_iff, decide_eq_false_iff_not, Bool.not_eq_false', decide_eq_true_eq] at hn
  obtain ⟨⟨n0, n1⟩, n2⟩ := hn
  rcases (by omega : y = y' ∨ y' = y + 1 ∨ y = y' + 1 ∨ y + 2 ≤ y' ∨ y' + 2 ≤ y) with h | h | h | h | h
  · subst h
    rcases (by omega : Apt.wHigh a + 345600 ≤ Apt.wLow b ∨ Apt.wHigh b + 345600 ≤ Apt.wLow a) with g | g
    · left
      rcases (by omega : a.month ≤ 2 ∨ 3 ≤ a.month) with e | e <;> rcases (by omega : b.month ≤ 2 ∨ 3 ≤ b.month) with e' | e' <;> omega
    · right
      rcases (by omega : a.month ≤ 2 ∨ 3 ≤ a.month) with e | e <;> rcases (by omega : b.month ≤ 2 ∨ 3 ≤ b.month) with e' | e' <;> omega
  · subst h
    have := Cal.ahead_succ y
    left; omega
  · subst h
    have := Cal.ahead_succ y'
    right; omega
  · have := Cal.ahead_mono (show y ≤ y' by omega)
    left; omega
  · have := Cal.ahead_mono (show y' ≤ y by omega)
    right; omega
/-- nothing found: each two of a name are not too close -/
theorem bad_none {r : RuleV} : ∀ {l : List RuleV}, Chk.firstBad r l = 0 → ∀ x ∈ l, Apt.pairE x r = 0
  | [], _, x, hx => by cases hx
  | y :: ys, h, x, hx => by
    unfold Chk.firstBad at h
    by_cases hy : Apt.pairE y r = 0
    · rw [if_pos hy] at h
      rcases List.mem_cons.1 hx with rfl | hx
      · exact hy
      · exact bad_none h x hx
    · rw [if_neg hy] at h
      exact absurd h hy
theorem scan_none : ∀ (rs done : List RuleV) (i : Int), (Chk.scan done rs i).2 = 0 → ∀ (j : Nat) (r : RuleV), rs[j]? = some r → ∀ x, x ∈ done ++ rs.take j → x.name = r.name → Apt.pairE x r = 0
  | [], _, _, _, j, r, h, _, _, _ => by simp at h
  | s :: rs, done, i, h, j, r, hj, x, hx, hn => by
    unfold Chk.scan at h
    by_cases hb : Chk.firstBad s (Chk.same s done) = 0
    · rw [if_pos hb] at h
      cases j with
      | zero =>
        simp at hj
        subst hj
        simp at hx
        refine bad_none hb x ?_
        unfold Chk.same
        rw [List.mem_filter]
        exact ⟨hx, by simpa using hn⟩
      | succ j =>
        refine scan_none rs (done ++ [s]) (i + 1) h j r (by simpa using hj) x ?_ hn
        simpa using hx
    · rw [if_neg hb] at h
      exact absurd h hb
theorem check_none {l : List RuleV} (h : (Chk.check l).2 = 0) {i j : Nat} {a b : RuleV} (hi : l[i]? = some a) (hj : l[j]? = some b) (hij : i < j) (hn : a.name = b.name) : Apt.pairE a b = 0 := by
  refine scan_none l [] 0 h j b hj a ?_ hn
  rw [List.nil_append, List.mem_iff_getElem?]
  exact ⟨i, by rw [List.getElem?_take, if_pos hij]; exact hi⟩
theorem pair_near {a b : RuleV} (ha : Rul.right a = true) (hb : Rul.right b = true) (h : Apt.pairE a b = 0) : Apt.nearB a b = false := by
  unfold Apt.pairE at h
  rw [ha, hb] at h
  cases hn : Apt.nearB a b
  · rfl
  · rw [hn] at h; simp at h
/-- two occurrences of a name, one ahead of the other, are far from each other -/
theorem far {l : List RuleV} (h : (Chk.check l).2 = 0) {name : ByteArray} {o p : OccV} (ho : Occ.All l name l.length o) (hp : Occ.All l name l.length p) (hl : Occ.less o p = true) : o.nom + 345600 ≤ p.nom := by
  obtain ⟨i, a, _, hi, na, ra, a1, a2, a3⟩ := ho
  obtain ⟨j, b, _, hj, nb, rb, b1, b2, b3⟩ := hp
  have e1 : o.nom = Occ.nomR a o.year := by rw [a3]; rfl
  have e2 : p.nom = Occ.nomR b p.year := by rw [b3]; rfl
  have e3 : o.rule = i := by rw [a3]; rfl
  have e4 : p.rule = j := by rw [b3]; rfl
  have hl' := Occ.less_iff.1 hl
  rw [e1, e2] at hl' ⊢
  rcases Nat.lt_trichotomy i j with hij | hij | hij
  · have := far_two ra rb (pair_near ra rb (check_none h hi hj hij (na.trans nb.symm))) a1 a2 b1 b2
    omega
  · subst hij
    rw [hi] at hj
    cases hj
    have := Occ.nom_lt ra (y := o.year) (y' := p.year)
    have hy : o.year < p.year := by omega
    exact far_same ra hy
  · have := far_two rb ra (pair_near rb ra (check_none h hj hi hij (nb.trans na.symm))) b1 b2 a1 a2
    omega
end Far
end Go.Proofs.YtopdjebnfhfpcaaDoor
