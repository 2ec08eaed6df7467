import Derived.Test.YtcfmchpoclkpgaaGreatDoorG15
import Derived.Test.YtcfmchpoclkpgaaGreatDoorCheck
import Derived.Test.YtcfmchpoclkpgaaGreatDoorG19
namespace Go.Proofs.YtcfmchpoclkpgaaGreatDoor
namespace Chk
theorem check_start (l : List RuleV) : check l = scan (l.take 0) (l.drop 0) (0 : Nat) := rfl
theorem check_none {l : List RuleV} (h : ∀ k r, l[k]? = some r → firstBad r (same r (l.take k)) = 0) : check l = (-1, 0) := by
  have H : ∀ d k : Nat, k + d = l.length → scan (l.take k) (l.drop k) k = (-1, 0) := by
    intro d
    induction d with
    | zero =>
      intro k hk
      rw [List.drop_eq_nil_of_le (by omega)]
      rfl
    | succ d ih =>
      intro k hk
      have hr := List.getElem?_eq_getElem (l := l) (i := k) (by omega)
      rw [check_at hr, if_pos (h k _ hr)]
      exact ih (k + 1) (by omega)
  rw [check_start]
  exact H l.length 0 (by omega)
theorem check_some {l : List RuleV} {k : Nat} {r : RuleV} (hr : l[k]? = some r) (hb : firstBad r (same r (l.take k)) ≠ 0) (h : ∀ k' r', k' < k → l[k']? = some r' → firstBad r' (same r' (l.take k')) = 0) : check l = ((k : Int), firstBad r (same r (l.take k))) := by
  have hk : k < l.length := (List.getElem?_eq_some_iff.1 hr).1
  have H : ∀ d k' : Nat, k' + d = k → scan (l.take k') (l.drop k') k' = ((k : Int), firstBad r (same r (l.take k))) := by
    intro d
    induction d with
    | zero =>
      intro k' hk'
      obtain rfl : k' = k := by omega
      rw [check_at hr, if_neg hb]
    | succ d ih =>
      intro k' hk'
      have hr' := List.getElem?_eq_getElem (l := l) (i := k') (by omega)
      rw [check_at hr', if_pos (h k' _ (by omega) hr')]
      exact ih (k' + 1) (by omega)
  rw [check_start]
  exact H k 0 (by omega)
theorem check_cases (l : List RuleV) : (∀ k r, l[k]? = some r → firstBad r (same r (l.take k)) = 0) ∨ ∃ k r, l[k]? = some r ∧ firstBad r (same r (l.take k)) ≠ 0 ∧ ∀ k' r', k' < k → l[k']? = some r' → firstBad r' (same r' (l.take k')) = 0 := by
  have H : ∀ m, (∀ k r, k < m → l[k]? = some r → firstBad r (same r (l.take k)) = 0) ∨ ∃ k r, l[k]? = some r ∧ firstBad r (same r (l.take k)) ≠ 0 ∧ ∀ k' r', k' < k → l[k']? = some r' → firstBad r' (same r' (l.take k')) = 0 := by
    intro m
    induction m with
    | zero => left;intro k r hk;omega
    | succ m ih =>
      rcases ih with h|h
      · cases hm : l[m]? with
        | none =>
          left
          intro k r hk hr
          by_cases e : k = m
          · subst e;rw [hm] at hr;cases hr
          · exact h k r (by omega) hr
        | some r =>
          by_cases hz : firstBad r (same r (l.take m)) = 0
          · left
            intro k r' hk hr
            by_cases e : k = m
            · subst e;rw [hm] at hr;cases hr;exact hz
            · exact h k r' (by omega) hr
          · exact .inr ⟨m, r, hm, hz, fun k' r' hk' hr' => h k' r' hk' hr'⟩
      · exact .inr h
  rcases H l.length with h|h
  · exact .inl (fun k r hr => h k r (List.getElem?_eq_some_iff.1 hr).1 hr)
  · exact .inr h
theorem check_take (l : List RuleV) (i : Nat) (_ : i < l.length) : check (l.take (i + 1)) = if 0 ≤ (check l).1 ∧ (check l).1 ≤ i then check l else (-1, 0) := by
  rcases check_cases l with h|⟨k, r, hr, hb, h⟩
  · rw [check_none h, if_neg (fun h0 => absurd (show (0 : Int) ≤ -1 from h0.1) (by decide)), check_none]
    intro k r hr
    rw [List.getElem?_take] at hr
    split at hr
    · rw [List.take_take, Nat.min_eq_left (by omega)]
      exact h k r hr
    · cases hr
  · rw [check_some hr hb h]
    dsimp only
    by_cases hk : k ≤ i
    · rw [if_pos ⟨by omega, by omega⟩]
      have := check_some (l := l.take (i + 1)) (k := k) (r := r) (by rw [List.getElem?_take, if_pos (by omega)];exact hr) (by rw [List.take_take, Nat.min_eq_left (by omega)];exact hb) (fun k' r' hk' hr' => by
        rw [List.getElem?_take, if_pos (by omega)] at hr'
        rw [List.take_take, Nat.min_eq_left (by omega)]
        exact h k' r' hk' hr')
      rw [this, List.take_take, Nat.min_eq_left (by omega)]
    · rw [if_neg (by omega), check_none]
      intro k' r' hr'
      rw [List.getElem?_take] at hr'
      split at hr'
      · rw [List.take_take, Nat.min_eq_left (by omega)]
        exact h k' r' (by omega) hr'
      · cases hr'
theorem check_lt (l : List RuleV) : (check l).1 < l.length := by
  rcases check_cases l with h|⟨k, r, hr, hb, h⟩
  · rw [check_none h]
    show (-1 : Int) < _
    omega
  · rw [check_some hr hb h]
    have := (List.getElem?_eq_some_iff.1 hr).1
    show (k : Int) < _
    omega
end Chk
namespace Ck
abbrev Fault := Int × Int
def less (a b : Fault) : Fault := if b.2 ≠ 0 ∧ (a.2 = 0 ∨ b.1 < a.1) then b else a
def run (f : Fault) (l : List Fault) : Fault := l.foldl less f
theorem run_snoc (f : Fault) (l : List Fault) (x : Fault) : run f (l ++ [x]) = less (run f l) x := by unfold run;rw [List.foldl_append];rfl
theorem run_app (f : Fault) (l m : List Fault) : run f (l ++ m) = run (run f l) m := by unfold run;rw [List.foldl_append]
theorem less_ok (f : Fault) (x : Int) : less f (x, 0) = f := by unfold less;rw [if_neg (fun h => h.1 rfl)]
theorem run_one {g : Nat → Fault} {j : Nat} (h : ∀ i, i ≠ j → (g i).2 = 0) (f : Fault) : ∀ m, run f ((List.range m).map g) = if j < m then less f (g j) else f
  | 0 => by rw [if_neg (by omega)];rfl
  | m + 1 => by
    rw [List.range_succ, List.map_append, List.map_cons, List.map_nil, run_snoc, run_one h f m]
    by_cases hm : m = j
    · subst hm
      rw [if_neg (by omega), if_pos (by omega)]
    · have e : g m = ((g m).1, 0) := Prod.ext rfl (h m hm)
      rw [e, less_ok]
      by_cases hj : j < m
      · rw [if_pos hj, if_pos (by omega)]
      · rw [if_neg hj, if_neg (by omega)]
theorem run_ok {g : Nat → Fault} (h : ∀ i, (g i).2 = 0) (f : Fault) (m : Nat) : run f ((List.range m).map g) = f := by
  rw [run_one (j := m) (fun i _ => h i), if_neg (by omega)]
theorem run_none : ∀ (L : List Fault) (f : Fault), (∀ p ∈ L, p.2 = 0) → run f L = f
  | [], _, _ => rfl
  | x :: L, f, h => by
    show run (less f x) L = f
    have e : x = (x.1, 0) := Prod.ext rfl (h x (by simp))
    rw [e, less_ok]
    exact run_none L f (fun p hp => h p (by simp [hp]))
theorem less_mem (f x : Fault) : less f x = f ∨ less f x = x := by
  unfold less
  split
  · exact .inr rfl
  · exact .inl rfl
theorem run_mem : ∀ (L : List Fault) (f : Fault), run f L = f ∨ run f L ∈ L
  | [], _ => .inl rfl
  | x :: L, f => by
    show run (less f x) L = f ∨ run (less f x) L ∈ x :: L
    rcases run_mem L (less f x) with h|h
    · rw [h]
      rcases less_mem f x with e|e
      · exact .inl e
      · rw [e];exact .inr (by simp)
    · exact .inr (by simp [h])
theorem less_err {f x : Fault} (h : f.2 ≠ 0 ∨ x.2 ≠ 0) : (less f x).2 ≠ 0 := by
  unfold less
  split
  · rename_i h1;exact h1.1
  · rename_i h1
    rcases h with h|h
    · exact h
    · intro e
      exact h1 ⟨h, .inl e⟩
theorem run_err : ∀ (L : List Fault) (f : Fault), (f.2 ≠ 0 ∨ ∃ p ∈ L, p.2 ≠ 0) → (run f L).2 ≠ 0
  | [], f, h => by
    rcases h with h|⟨p, hp, _⟩
    · exact h
    · cases hp
  | x :: L, f, h => by
    show (run (less f x) L).2 ≠ 0
    refine run_err L _ ?_
    rcases h with h|⟨p, hp, h⟩
    · exact .inl (less_err (.inl h))
    · rcases List.mem_cons.1 hp with rfl|hp
      · exact .inl (less_err (.inr h))
      · exact .inr ⟨p, hp, h⟩
theorem run_stay : ∀ (L : List Fault) (f : Fault), f.2 ≠ 0 → (∀ p ∈ L, f.1 ≤ p.1) → run f L = f
  | [], _, _, _ => rfl
  | x :: L, f, h, hl => by
    show run (less f x) L = f
    have e : less f x = f := by
      unfold less
      rw [if_neg]
      rintro ⟨_, h1|h1⟩
      · exact h h1
      · have := hl x (by simp);omega
    rw [e]
    exact run_stay L f h (fun p hp => hl p (by simp [hp]))
def named (l : List RuleV) (s : ByteArray) : Bool := l.any fun r => decide (r.name = s)
noncomputable def eraF (l : List RuleV) (done : List ByteArray) (name : ByteArray) (es : List EraV) (i : Nat) (e : EraV) : Int :=
  if i = 0 ∧ (done.any fun y => decide (y = name)) = true then 11 else if e.kind = 2 ∧ named l e.rules = false then 12 else if (Unt.checkU l es).1 = i then (Unt.checkU l es).2 else 0
noncomputable def eraFs (l : List RuleV) (done : List ByteArray) (name : ByteArray) (es : List EraV) (ns : List Int) : List Fault := es.zipIdx.map fun p => (ns.getD p.2 0, eraF l done name es p.2 p.1)
noncomputable def zoneFs (l : List RuleV) (zs : List ZoneV) (ns : List (List Int)) : List Fault := zs.zipIdx.flatMap fun p => eraFs l ((zs.take p.2).map ZoneV.name) p.1.name p.1.es (ns.getD p.2 [])
def ruleF (l : List RuleV) (i : Nat) : Int := if (Chk.check (l.take (i + 1))).1 = i then (Chk.check (l.take (i + 1))).2 else 0
def ruleFs (l : List RuleV) (ns : List Int) : List Fault := (List.range l.length).map fun i => (ns.getD i 0, ruleF l i)
def linkF (zs : List ByteArray) (ls : List LinkV) (i : Nat) (x : LinkV) : Int := if ((zs ++ (ls.take i).map LinkV.name).any fun y => decide (y = x.name)) = true then 11 else (Bk.find zs ls x.name).2
def linkFs (zs : List ByteArray) (ls : List LinkV) (ns : List Int) : List Fault := ls.zipIdx.map fun p => (ns.getD p.2 0, linkF zs ls p.2 p.1)
theorem rules_one (l : List RuleV) (ns : List Int) (f : Fault) : run f (ruleFs l ns) = if 0 ≤ (Chk.check l).1 then less f (ns.getD (Chk.check l).1.toNat 0, (Chk.check l).2) else f := by
  have hlt := Chk.check_lt l
  have e : ruleFs l ns = (List.range l.length).map fun i => (ns.getD i 0, if i < l.length then ruleF l i else 0) := by
    unfold ruleFs
    refine List.map_congr_left (fun i hi => ?_)
    rw [if_pos (List.mem_range.1 hi)]
  rw [e]
  by_cases h : 0 ≤ (Chk.check l).1
  · rw [if_pos h]
    have hj : ((Chk.check l).1.toNat : Int) = (Chk.check l).1 := by omega
    rw [run_one (j := (Chk.check l).1.toNat)]
    · rw [if_pos (by omega), if_pos (by omega)]
      unfold ruleF
      have e2 : Chk.check (l.take ((Chk.check l).1.toNat + 1)) = Chk.check l := by rw [Chk.check_take l _ (by omega), if_pos ⟨h, by omega⟩]
      rw [e2, if_pos hj.symm]
    · intro i hi
      dsimp only
      split
      · rename_i hil
        unfold ruleF
        rw [Chk.check_take l i hil]
        split
        · rw [if_neg (by omega)]
        · rw [if_neg (by show ¬ ((-1 : Int) = i);omega)]
      · rfl
  · rw [if_neg h]
    refine run_ok (fun i => ?_) f _
    dsimp only
    split
    · rename_i hil
      unfold ruleF
      have e2 : Chk.check (l.take (i + 1)) = (-1, 0) := by rw [Chk.check_take l i hil, if_neg (by omega)]
      rw [e2, if_neg (by show ¬ ((-1 : Int) = i);omega)]
    · rfl
theorem one_law {A B B' : List Fault} {first : Int} (hA : ∀ p ∈ A, p.1 ≤ first) (hB : ∀ p ∈ B, first < p.1) (hB' : ∀ p ∈ B', first < p.1) :
    (first < (run (0, 0) (A ++ B)).1 ∧ (first < (run (0, 0) (A ++ B')).1 ∨ run (0, 0) (A ++ B') = (0, 0))) ∨ (run (0, 0) (A ++ B) = (0, 0) ∧ (first < (run (0, 0) (A ++ B')).1 ∨ run (0, 0) (A ++ B') = (0, 0))) ∨ run (0, 0) (A ++ B) = run (0, 0) (A ++ B') := by
  rw [run_app, run_app]
  by_cases h : ∀ p ∈ A, p.2 = 0
  · rw [run_none A _ h]
    have h2 : first < (run (0, 0) B').1 ∨ run (0, 0) B' = (0, 0) := by
      rcases run_mem B' (0, 0) with e|e
      · exact .inr e
      · exact .inl (hB' _ e)
    rcases run_mem B (0, 0) with e|e
    · exact .inr (.inl ⟨e, h2⟩)
    · exact .inl ⟨hB _ e, h2⟩
  · have h1 : ∃ p ∈ A, p.2 ≠ 0 := by
      refine Classical.byContradiction (fun hn => h (fun p hp => ?_))
      exact Classical.byContradiction (fun hz => hn ⟨p, hp, hz⟩)
    have h2 := run_err A (0, 0) (.inr h1)
    have h3 : (run (0, 0) A).1 ≤ first := by
      rcases run_mem A (0, 0) with e|e
      · rw [e] at h2;exact absurd rfl h2
      · exact hA _ e
    refine .inr (.inr ?_)
    rw [run_stay B _ h2 (fun p hp => by have := hB p hp;omega), run_stay B' _ h2 (fun p hp => by have := hB' p hp;omega)]
end Ck
end Go.Proofs.YtcfmchpoclkpgaaGreatDoor
