import Derived.Test.YtkpjhgkmjcdobaaGreatDoorG1
/-
  format.cut and format.Check: what they give, as the program runs them; in plain data what a format is.
-/
namespace Go.Proofs.YtkpjhgkmjcdobaaGreatDoor
open Go.RowKit NB
namespace Fmt
def wd (l : List UInt8) : Bool := l.all (wset.contains ·)
theorem wordB_mk (l : List UInt8) : wordB ⟨l.toArray⟩ = wd l := by unfold wordB wd; rfl
/-- a format's kind, and what stands ahead of the sign, and behind it -/
def cutF (s : ByteArray) : Int × ByteArray × ByteArray :=
  let c1 := Go.Lib.cut s.data.toList [37, 115]
  let c2 := Go.Lib.cut s.data.toList [47]
  if s.toList = [37, 122] then (3, ⟨#[]⟩, ⟨#[]⟩)
  else if c1.2.2 = true ∧ wd c1.1 = true ∧ wd c1.2.1 = true then (2, ⟨c1.1.toArray⟩, ⟨c1.2.1.toArray⟩)
  else if c2.2.2 = true ∧ c2.1 ≠ [] ∧ c2.2.1 ≠ [] ∧ wd c2.1 = true ∧ wd c2.2.1 = true then (4, ⟨c2.1.toArray⟩, ⟨c2.2.1.toArray⟩)
  else if s.toList ≠ [] ∧ wordB s = true then (1, s, ⟨#[]⟩)
  else (0, ⟨#[]⟩, ⟨#[]⟩)
def checkE (s : ByteArray) : Int := if 16 < s.size then 9 else if (cutF s).1 = 0 then 4 else 0
theorem cut_size (s sep : List UInt8) : (Go.Lib.cut s sep).1.length ≤ s.length ∧ (Go.Lib.cut s sep).2.1.length ≤ s.length := by
  unfold Go.Lib.cut
  split
  · exact ⟨List.length_take_le' _ _, by simp⟩
  · exact ⟨Nat.le_refl _, Nat.zero_le _⟩
theorem isE (l : List UInt8) : (⟨l.toArray⟩ : ByteArray).toList.isEmpty = decide (l = []) := by
  rw [emp]
  cases l <;> simp
set_option maxHeartbeats 3200000 in
theorem cut (s : ByteArray) (hs : s.size < 4294967281) (w : World) (ht : Tab w) : Calls Tryz.prog 119 #[.string s] w fun e w' => e = .returned (.tuple #[.int .i64 (cutF s).1, .string (cutF s).2.1, .string (cutF s).2.2]) ∧ Below w.heap.size w w' := by
  have hc1 := fun W (h : Tab W) => Lb.Cut s ⟨#[37, 115]⟩ W hs h
  have hc2 := fun W (h : Tab W) => Lb.Cut s ⟨#[47]⟩ W hs h
  have z1 := cut_size s.data.toList [37, 115]
  have z2 := cut_size s.data.toList [47]
  simp only [Array.length_toList] at z1 z2
  have hsz : s.data.size = s.size := rfl
  unfold cutF
  simp only at hc1 hc2 ⊢
  generalize Go.Lib.cut s.data.toList [37, 115] = c1 at *
  generalize Go.Lib.cut s.data.toList [47] = c2 at *
  obtain ⟨a1, b1, i1⟩ := c1
  obtain ⟨a2, b2, i2⟩ := c2
  simp only at hc1 hc2 z1 z2 ⊢
  have wa1 := fun W => word ⟨a1.toArray⟩ (by show a1.toArray.size ≤ _; simp; omega) W
  have wb1 := fun W => word ⟨b1.toArray⟩ (by show b1.toArray.size ≤ _; simp; omega) W
  have wa2 := fun W => word ⟨a2.toArray⟩ (by show a2.toArray.size ≤ _; simp; omega) W
  have wb2 := fun W => word ⟨b2.toArray⟩ (by show b2.toArray.size ≤ _; simp; omega) W
  have ws := fun W => word s (by omega) W
  rw [wordB_mk] at wa1 wb1 wa2 wb2
  have ea := isE a2
  have eb := isE b2
  generalize wd a1 = g1 at *
  generalize wd b1 = g2 at *
  generalize wd a2 = g3 at *
  generalize wd b2 = g4 at *
  generalize wordB s = g5 at *
  obtain ⟨A1, hA1⟩ : ∃ x, x = (⟨a1.toArray⟩ : ByteArray) := ⟨_, rfl⟩
  obtain ⟨B1, hB1⟩ : ∃ x, x = (⟨b1.toArray⟩ : ByteArray) := ⟨_, rfl⟩
  obtain ⟨A2, hA2⟩ : ∃ x, x = (⟨a2.toArray⟩ : ByteArray) := ⟨_, rfl⟩
  obtain ⟨B2, hB2⟩ : ∃ x, x = (⟨b2.toArray⟩ : ByteArray) := ⟨_, rfl⟩
  rw [← hA1] at hc1 wa1 ⊢
  rw [← hB1] at hc1 wb1 ⊢
  rw [← hA2] at hc2 wa2 ea ⊢
  rw [← hB2] at hc2 wb2 eb ⊢
  have Hc1 := Lib.hid hc1
  have Hc2 := Lib.hid hc2
  have Wa1 := Lib.hid wa1
  have Wb1 := Lib.hid wb1
  have Wa2 := Lib.hid wa2
  have Wb2 := Lib.hid wb2
  have Ws := Lib.hid ws
  have HT := Lib.hid ht
  obtain ⟨ne, hne⟩ : ∃ x : Bool, x = decide (s.toList = []) := ⟨_, rfl⟩
  have es : s.toList.isEmpty = ne := by rw [hne]; cases h : s.toList <;> simp
  clear hc1 hc2 wa1 wb1 wa2 wb2 ws hA1 hB1 hA2 hB2 z1 z2 hsz ht
  by_cases hz : s.toList = [37, 122]
  · have e1 : (s.toList == [37, 122]) = true := by simp [hz]
    rw [if_pos hz]
    clear hz hne es
    go_enter Tryz.func119, Tryz.ntmps119
    go_wp2
    go_ret3
    exact ⟨rfl, by repeat (first | (with_reducible exact Below.refl _ _) | (with_reducible assumption) | (with_reducible refine ba ?_) | (with_reducible refine bd ?_) | (with_reducible refine bdn ?_ _) | (with_reducible refine bset ?_ (by first | exact Nat.le_refl _ | omega | (simp; done) | (simp; omega))) | (with_reducible refine bt ?_ (by with_reducible assumption)))⟩
  have e1 : (s.toList == [37, 122]) = false := by simp [hz]
  rw [if_neg hz]
  have en : (s.toList ≠ [] ↔ ne = false) := by rw [hne]; simp
  have ea' : (a2 ≠ [] ↔ ¬ A2.toList = []) := by rw [← List.isEmpty_iff, ea]; simp
  have eb' : (b2 ≠ [] ↔ ¬ B2.toList = []) := by rw [← List.isEmpty_iff, eb]; simp
  simp only [en, ea', eb']
  clear hz hne en ea eb ea' eb'
  obtain ⟨pe, hpe⟩ : ∃ x : Int × ByteArray × ByteArray, x = (if i1 = true ∧ g1 = true ∧ g2 = true then (2, A1, B1) else if i2 = true ∧ ¬ A2.toList = [] ∧ ¬ B2.toList = [] ∧ g3 = true ∧ g4 = true then (4, A2, B2) else if ne = false ∧ g5 = true then (1, s, ⟨#[]⟩) else (0, ⟨#[]⟩, ⟨#[]⟩)) := ⟨_, rfl⟩
  rw [← hpe]
  have Hpe := Lib.hid hpe
  clear hpe
  go_enter Tryz.func119, Tryz.ntmps119
  go_wp2_with (first
    | (go_at_call_of 162 (({ data := #[37, 115] } : ByteArray)); refine (Hc1.out _ ?_).mono ?_; (· exact HT.out.later (by repeat (first | (with_reducible exact Below.refl _ _) | (with_reducible assumption) | (with_reducible refine ba ?_) | (with_reducible refine bd ?_) | (with_reducible refine bdn ?_ _) | (with_reducible refine bset ?_ (by first | exact Nat.le_refl _ | omega | (simp; done) | (simp; omega))) | (with_reducible refine bt ?_ (by with_reducible assumption))))); rintro e w1 ⟨rfl, hb1⟩)
    | (go_at_call_of 162 (({ data := #[47] } : ByteArray)); refine (Hc2.out _ ?_).mono ?_; (· exact HT.out.later (by repeat (first | (with_reducible exact Below.refl _ _) | (with_reducible assumption) | (with_reducible refine ba ?_) | (with_reducible refine bd ?_) | (with_reducible refine bdn ?_ _) | (with_reducible refine bset ?_ (by first | exact Nat.le_refl _ | omega | (simp; done) | (simp; omega))) | (with_reducible refine bt ?_ (by with_reducible assumption))))); rintro e w4 ⟨rfl, hb4⟩)
    | (with_reducible (go_at_call 163; (with_reducible refine (Wa1.out _).mono ?_); rintro e w2 ⟨rfl, hb2⟩; obtain ⟨hc2, hf2⟩ := bcell hb2))
    | (with_reducible (go_at_call 163; (with_reducible refine (Wb1.out _).mono ?_); rintro e w3 ⟨rfl, hb3⟩; obtain ⟨hc3, hf3⟩ := bcell hb3))
    | (with_reducible (go_at_call 163; (with_reducible refine (Wa2.out _).mono ?_); rintro e w5 ⟨rfl, hb5⟩; obtain ⟨hc5, hf5⟩ := bcell hb5))
    | (with_reducible (go_at_call 163; (with_reducible refine (Wb2.out _).mono ?_); rintro e w6 ⟨rfl, hb6⟩; obtain ⟨hc6, hf6⟩ := bcell hb6))
    | (with_reducible (go_at_call 163; (with_reducible refine (Ws.out _).mono ?_); rintro e w7 ⟨rfl, hb7⟩; obtain ⟨hc7, hf7⟩ := bcell hb7)))
  all_goals
    have hpe := Hpe.out
    simp only [*, if_true, if_false, true_and, and_true, false_and, and_false, Bool.false_eq_true, Bool.true_eq_false, eq_self, not_true_eq_false, not_false_eq_true] at hpe
    clear Hpe
    first
      | (subst hpe; go_ret3; exact ⟨rfl, by repeat (first | (with_reducible exact Below.refl _ _) | (with_reducible assumption) | (with_reducible refine ba ?_) | (with_reducible refine bd ?_) | (with_reducible refine bdn ?_ _) | (with_reducible refine bset ?_ (by first | exact Nat.le_refl _ | omega | (simp; done) | (simp; omega))) | (with_reducible refine bt ?_ (by with_reducible assumption)))⟩)
      | (cases g4
         · (simp only [Bool.false_eq_true, if_false] at hpe; subst hpe; go_ret3; exact ⟨rfl, by repeat (first | (with_reducible exact Below.refl _ _) | (with_reducible assumption) | (with_reducible refine ba ?_) | (with_reducible refine bd ?_) | (with_reducible refine bdn ?_ _) | (with_reducible refine bset ?_ (by first | exact Nat.le_refl _ | omega | (simp; done) | (simp; omega))) | (with_reducible refine bt ?_ (by with_reducible assumption)))⟩)
         · (exfalso; rename_i h0 h1; clear hpe; first | (simp only [List.isEmpty_eq_false_iff, Bool.not_eq_false', List.isEmpty_iff, *, Bool.true_eq_false, or_false, or_self] at h0; done) | simp_all))
theorem Check (s : ByteArray) (hs : s.size ≤ 9223372036854775807) (w : World) (ht : Tab w) : Calls Tryz.prog 74 #[.string s] w fun e w' => e = .returned (.int .i64 (checkE s)) ∧ Below w.heap.size w w' := by
  unfold checkE
  by_cases h : 16 < s.size
  · rw [if_pos h]
    go_enter Tryz.func74, Tryz.ntmps74
    go_wp2
    go_ret
    exact ⟨rfl, by repeat (first | (with_reducible exact Below.refl _ _) | (with_reducible assumption) | (with_reducible refine ba ?_) | (with_reducible refine bd ?_) | (with_reducible refine bdn ?_ _) | (with_reducible refine bset ?_ (by first | exact Nat.le_refl _ | omega | (simp; done) | (simp; omega))) | (with_reducible refine bt ?_ (by with_reducible assumption)))⟩
  · rw [if_neg h]
    have cc := fun W (h' : Tab W) => cut s (by omega) W h'
    generalize cutF s = x at *
    obtain ⟨k, a, b⟩ := x
    simp only at cc ⊢
    have Cc := Lib.hid cc
    have HT := Lib.hid ht
    clear cc ht
    by_cases hk : k = 0
    · rw [if_pos hk]
      go_enter Tryz.func74, Tryz.ntmps74
      go_wp2_with (go_at_call 119; (with_reducible refine (Cc.out _ ?_).mono ?_); (· exact HT.out.later (by repeat (first | (with_reducible exact Below.refl _ _) | (with_reducible assumption) | (with_reducible refine ba ?_) | (with_reducible refine bd ?_) | (with_reducible refine bdn ?_ _) | (with_reducible refine bset ?_ (by first | exact Nat.le_refl _ | omega | (simp; done) | (simp; omega))) | (with_reducible refine bt ?_ (by with_reducible assumption))))); rintro e w1 ⟨rfl, hb1⟩; obtain ⟨hc1, hf1⟩ := bcell hb1)
      go_ret
      exact ⟨rfl, by repeat (first | (with_reducible exact Below.refl _ _) | (with_reducible assumption) | (with_reducible refine ba ?_) | (with_reducible refine bd ?_) | (with_reducible refine bdn ?_ _) | (with_reducible refine bset ?_ (by first | exact Nat.le_refl _ | omega | (simp; done) | (simp; omega))) | (with_reducible refine bt ?_ (by with_reducible assumption)))⟩
    · rw [if_neg hk]
      go_enter Tryz.func74, Tryz.ntmps74
      go_wp2_with (go_at_call 119; (with_reducible refine (Cc.out _ ?_).mono ?_); (· exact HT.out.later (by repeat (first | (with_reducible exact Below.refl _ _) | (with_reducible assumption) | (with_reducible refine ba ?_) | (with_reducible refine bd ?_) | (with_reducible refine bdn ?_ _) | (with_reducible refine bset ?_ (by first | exact Nat.le_refl _ | omega | (simp; done) | (simp; omega))) | (with_reducible refine bt ?_ (by with_reducible assumption))))); rintro e w1 ⟨rfl, hb1⟩; obtain ⟨hc1, hf1⟩ := bcell hb1)
      go_ret
      exact ⟨rfl, by repeat (first | (with_reducible exact Below.refl _ _) | (with_reducible assumption) | (with_reducible refine ba ?_) | (with_reducible refine bd ?_) | (with_reducible refine bdn ?_ _) | (with_reducible refine bset ?_ (by first | exact Nat.le_refl _ | omega | (simp; done) | (simp; omega))) | (with_reducible refine bt ?_ (by with_reducible assumption)))⟩
end Fmt
end Go.Proofs.YtkpjhgkmjcdobaaGreatDoor
/-
  What a format is, in plain data: the program's way and the document's way are one.
-/
namespace Go.Proofs.YtkpjhgkmjcdobaaGreatDoor
open Go.RowKit NB
namespace Fmt
/-- where a byte is, if it is there once -/
def FindIs (l : List UInt8) (c : UInt8) (r : Int) : Prop := (r = -1 ∧ ∀ j : Nat, l[j]? ≠ some c) ∨ (r = -2 ∧ ∃ i j : Nat, i < j ∧ l[i]? = some c ∧ l[j]? = some c) ∨ (∃ i : Nat, r = i ∧ l[i]? = some c ∧ ∀ j : Nat, l[j]? = some c → j = i)
def allow (l : List UInt8) : Bool := l.all fun c => wset.contains c || c == 37 || c == 47
def okR (l : List UInt8) (p q : Int) : Bool :=
  (decide (0 < l.length) && decide (p = -1) && decide (q = -1)) ||
  (decide (0 ≤ p) && decide (q = -1) && decide (p + 1 < l.length) && decide (l[p.toNat + 1]? = some 115)) ||
  (decide (p = -1) && decide (0 < q) && decide (q < l.length - 1)) || decide (l = [37, 122])
theorem not37 : wset.contains (37 : UInt8) = false := by decide +kernel
theorem not47 : wset.contains (47 : UInt8) = false := by decide +kernel
theorem is115 : wset.contains (115 : UInt8) = true := by decide +kernel
theorem wd_not {l : List UInt8} (h : wd l = true) {c : UInt8} (hc : wset.contains c = false) : ∀ j : Nat, l[j]? ≠ some c := by
  intro j hj
  unfold wd at h
  rw [List.all_eq_true] at h
  have := h c (List.mem_of_getElem? hj)
  rw [hc] at this
  cases this
theorem wd_of {l : List UInt8} (h : allow l = true) (h1 : ∀ j : Nat, l[j]? ≠ some 37) (h2 : ∀ j : Nat, l[j]? ≠ some 47) : wd l = true := by
  unfold wd
  unfold allow at h
  rw [List.all_eq_true] at h ⊢
  intro x hx
  have := h x hx
  obtain ⟨j, hj⟩ := List.mem_iff_getElem?.1 hx
  simp only [Bool.or_eq_true, beq_iff_eq] at this
  rcases this with (h3 | h3) | h3
  · exact h3
  · subst h3; exact absurd hj (h1 j)
  · subst h3; exact absurd hj (h2 j)
theorem allow_of_wd {l : List UInt8} (h : wd l = true) : allow l = true := by
  unfold wd at h
  unfold allow
  rw [List.all_eq_true] at h ⊢
  intro x hx
  rw [h x hx]
  rfl
/-- a sign of bytes that stand in no name, once: the cut is there -/
theorem cut_at {a b sep : List UInt8} {c : UInt8} {t : List UInt8} (hs : sep = c :: t) (hc : wset.contains c = false) (ha : wd a = true) : Go.Lib.cut (a ++ sep ++ b) sep = (a, b, true) := by
  have hi : Go.Lib.index (a ++ sep ++ b) sep = (a.length : Int) := by
    refine Go.Lib.index_first (by simp) ?_ ?_
    · unfold Go.Lib.occAt
      rw [List.append_assoc, List.drop_left]
      simp
    · intro j hj
      unfold Go.Lib.occAt
      have hd : (a ++ sep ++ b).drop j = a[j] :: ((a ++ sep ++ b).drop (j + 1)) := by
        rw [List.drop_eq_getElem_cons (by simp; omega)]
        congr 1
        simp [List.getElem_append_left hj]
      rw [hd, hs]
      have hne : ¬ c = a[j] := fun e => wd_not ha hc j (by rw [e]; exact List.getElem?_eq_getElem hj)
      simp [List.isPrefixOf, hne]
  unfold Go.Lib.cut
  rw [hi, if_pos (by omega)]
  simp only [Int.toNat_natCast]
  rw [List.append_assoc, List.take_left, ← List.append_assoc, show a.length + sep.length = (a ++ sep).length by simp, List.drop_left]
/-- what a cut tells -/
theorem cut_is {l sep : List UInt8} (h : (Go.Lib.cut l sep).2.2 = true) : l = (Go.Lib.cut l sep).1 ++ sep ++ (Go.Lib.cut l sep).2.1 := by
  unfold Go.Lib.cut at h ⊢
  by_cases h0 : 0 ≤ Go.Lib.index l sep
  · rw [if_pos h0]
    simp only
    rcases Go.Lib.index_spec l sep with ⟨h1, _⟩ | ⟨i, h1, h2, h3, _⟩
    · omega
    · rw [h1]
      simp only [Int.toNat_natCast]
      unfold Go.Lib.occAt at h3
      obtain ⟨t, ht⟩ := List.isPrefixOf_iff_prefix.1 h3
      have : l.drop (i + sep.length) = t := by rw [← List.drop_drop, ← ht, List.drop_left]
      rw [this, List.append_assoc, ht, List.take_append_drop]
  · rw [if_neg h0] at h
    cases h
theorem find_none {l : List UInt8} {c : UInt8} {r : Int} (h : FindIs l c r) (hn : ∀ j : Nat, l[j]? ≠ some c) : r = -1 := by
  rcases h with ⟨h, _⟩ | ⟨_, i, j, _, h, _⟩ | ⟨i, _, h, _⟩
  · exact h
  · exact absurd h (hn i)
  · exact absurd h (hn i)
theorem find_one {l : List UInt8} {c : UInt8} {r : Int} {k : Nat} (h : FindIs l c r) (hk : l[k]? = some c) (hu : ∀ j : Nat, l[j]? = some c → j = k) : r = k := by
  rcases h with ⟨_, h⟩ | ⟨_, i, j, hij, h1, h2⟩ | ⟨i, h, h1, _⟩
  · exact absurd hk (h k)
  · have := hu i h1
    have := hu j h2
    omega
  · rw [h, hu i h1]
theorem pos_one {a r : List UInt8} {c : UInt8} (ha : ∀ j : Nat, a[j]? ≠ some c) (hr : ∀ j : Nat, r[j]? ≠ some c) : (a ++ c :: r)[a.length]? = some c ∧ ∀ j : Nat, (a ++ c :: r)[j]? = some c → j = a.length := by
  refine ⟨by simp, fun j hj => ?_⟩
  rcases Nat.lt_trichotomy j a.length with h | h | h
  · rw [List.getElem?_append_left h] at hj
    exact absurd hj (ha j)
  · exact h
  · rw [List.getElem?_append_right (by omega)] at hj
    obtain ⟨d, hd⟩ : ∃ d, j - a.length = d + 1 := ⟨j - a.length - 1, by omega⟩
    rw [hd, List.getElem?_cons_succ] at hj
    exact absurd hj (hr d)
theorem no_in {a r : List UInt8} {c d : UInt8} (hd : d ≠ c) (ha : ∀ j : Nat, a[j]? ≠ some c) (hr : ∀ j : Nat, r[j]? ≠ some c) : ∀ j : Nat, (a ++ d :: r)[j]? ≠ some c := by
  intro j hj
  have := List.mem_of_getElem? hj
  rw [List.mem_append, List.mem_cons] at this
  rcases this with h | h | h
  · obtain ⟨i, hi⟩ := List.mem_iff_getElem?.1 h
    exact ha i hi
  · exact hd h.symm
  · obtain ⟨i, hi⟩ := List.mem_iff_getElem?.1 h
    exact hr i hi
theorem allow_app {a b : List UInt8} : allow (a ++ b) = (allow a && allow b) := by unfold allow; simp
theorem split_at {l : List UInt8} {i : Nat} {c : UInt8} (h : l[i]? = some c) : l = l.take i ++ c :: l.drop (i + 1) := by
  obtain ⟨hi, rfl⟩ := List.getElem?_eq_some_iff.1 h
  rw [← List.drop_eq_getElem_cons hi, List.take_append_drop]
theorem take_no {l : List UInt8} {i : Nat} {c : UInt8} (h : ∀ j : Nat, l[j]? = some c → j = i) : ∀ j : Nat, (l.take i)[j]? ≠ some c := by
  intro j hj
  rw [List.getElem?_take] at hj
  split at hj
  · have := h j hj; omega
  · cases hj
theorem drop_no {l : List UInt8} {i : Nat} {c : UInt8} (h : ∀ j : Nat, l[j]? = some c → j = i) (d : Nat) (hd : i < d) : ∀ j : Nat, (l.drop d)[j]? ≠ some c := by
  intro j hj
  rw [List.getElem?_drop] at hj
  have := h _ hj
  omega
theorem sub_no {l : List UInt8} {c : UInt8} (h : ∀ j : Nat, l[j]? ≠ some c) (i : Nat) : (∀ j : Nat, (l.take i)[j]? ≠ some c) ∧ (∀ j : Nat, (l.drop i)[j]? ≠ some c) :=
  ⟨fun j hj => h j (by
    rw [List.getElem?_take] at hj
    by_cases hji : j < i
    · rwa [if_pos hji] at hj
    · rw [if_neg hji] at hj
      cases hj), fun j hj => h (i + j) (by rwa [List.getElem?_drop] at hj)⟩
theorem allow_sub {l : List UInt8} (h : allow l = true) (i : Nat) : allow (l.take i) = true ∧ allow (l.drop i) = true := by
  have e := List.take_append_drop i l
  rw [← e, allow_app, Bool.and_eq_true] at h
  exact h
def K1 (l : List UInt8) : Prop := (Go.Lib.cut l [37, 115]).2.2 = true ∧ wd (Go.Lib.cut l [37, 115]).1 = true ∧ wd (Go.Lib.cut l [37, 115]).2.1 = true
def K2 (l : List UInt8) : Prop := (Go.Lib.cut l [47]).2.2 = true ∧ (Go.Lib.cut l [47]).1 ≠ [] ∧ (Go.Lib.cut l [47]).2.1 ≠ [] ∧ wd (Go.Lib.cut l [47]).1 = true ∧ wd (Go.Lib.cut l [47]).2.1 = true
theorem kind_iff (s : ByteArray) : (cutF s).1 ≠ 0 ↔ s.data.toList = [37, 122] ∨ K1 s.data.toList ∨ K2 s.data.toList ∨ (s.data.toList ≠ [] ∧ wd s.data.toList = true) := by
  have e : s.toList = s.data.toList := ByteArray.toList_eq s
  have ew : wordB s = wd s.data.toList := rfl
  unfold cutF K1 K2
  simp only [e, ew]
  by_cases h0 : s.data.toList = [37, 122]
  · rw [if_pos h0]; simp [h0]
  · rw [if_neg h0]
    split
    · rename_i h; exact ⟨fun _ => .inr (.inl h), fun _ => by simp⟩
    · rename_i h1
      split
      · rename_i h; exact ⟨fun _ => .inr (.inr (.inl h)), fun _ => by simp⟩
      · rename_i h2
        split
        · rename_i h; exact ⟨fun _ => .inr (.inr (.inr h)), fun _ => by simp⟩
        · rename_i h3
          refine ⟨fun h => absurd rfl h, fun h => ?_⟩
          rcases h with h | h | h | h
          · exact absurd h h0
          · exact absurd h h1
          · exact absurd h h2
          · exact absurd h h3
/-- both ways say the same -/
theorem kind_law (s : ByteArray) {p q : Int} (hp : FindIs s.data.toList 37 p) (hq : FindIs s.data.toList 47 q) : (cutF s).1 ≠ 0 ↔ allow s.data.toList = true ∧ okR s.data.toList p q = true := by
  rw [kind_iff]
  generalize s.data.toList = l at *
  constructor
  · rintro (h | h | h | ⟨h1, h2⟩)
    · subst h
      exact ⟨by decide +kernel, by unfold okR; simp⟩
    · obtain ⟨h1, h2, h3⟩ := h
      have e := cut_is h1
      generalize (Go.Lib.cut l [37, 115]).1 = a at *
      generalize (Go.Lib.cut l [37, 115]).2.1 = b at *
      have e' : l = a ++ 37 :: (115 :: b) := by rw [e]; simp
      have hb : ∀ j : Nat, (115 :: b : List UInt8)[j]? ≠ some 37 := by
        have := no_in (a := []) (r := b) (c := 37) (d := 115) (by decide) (by simp) (wd_not h3 not37)
        simpa using this
      have hb2 : ∀ j : Nat, (115 :: b : List UInt8)[j]? ≠ some 47 := by
        have := no_in (a := []) (r := b) (c := 47) (d := 115) (by decide) (by simp) (wd_not h3 not47)
        simpa using this
      have po := pos_one (wd_not h2 not37) hb
      rw [← e'] at po
      have ep := find_one hp po.1 po.2
      have n47 := no_in (a := a) (r := 115 :: b) (c := 47) (d := 37) (by decide) (wd_not h2 not47) hb2
      rw [← e'] at n47
      have eq' := find_none hq n47
      refine ⟨?_, ?_⟩
      · rw [e, allow_app, allow_app, allow_of_wd h2, allow_of_wd h3]
        decide +kernel
      · unfold okR
        rw [ep, eq']
        have hl : l.length = a.length + b.length + 2 := by rw [e']; simp; omega
        have hat : l[a.length + 1]? = some 115 := by rw [e']; simp
        simp [hat, hl]
        omega
    · obtain ⟨h1, h2, h3, h4, h5⟩ := h
      have e := cut_is h1
      generalize (Go.Lib.cut l [47]).1 = a at *
      generalize (Go.Lib.cut l [47]).2.1 = b at *
      have e' : l = a ++ 47 :: b := by rw [e]; simp
      have po := pos_one (wd_not h4 not47) (wd_not h5 not47)
      rw [← e'] at po
      have eq' := find_one hq po.1 po.2
      have n37 := no_in (a := a) (r := b) (c := 37) (d := 47) (by decide) (wd_not h4 not37) (wd_not h5 not37)
      rw [← e'] at n37
      have ep := find_none hp n37
      refine ⟨?_, ?_⟩
      · rw [e, allow_app, allow_app, allow_of_wd h4, allow_of_wd h5]
        decide +kernel
      · have la := List.length_pos_iff.2 h2
        have lb := List.length_pos_iff.2 h3
        have hl : l.length = a.length + b.length + 1 := by rw [e']; simp; omega
        unfold okR
        rw [ep, eq', hl]
        simp only [Bool.or_eq_true, Bool.and_eq_true, decide_eq_true_eq]
        left; right
        refine ⟨⟨trivial, ?_⟩, ?_⟩ <;> omega
    · have ep := find_none hp (wd_not h2 not37)
      have eq' := find_none hq (wd_not h2 not47)
      refine ⟨allow_of_wd h2, ?_⟩
      have la := List.length_pos_iff.2 h1
      unfold okR
      rw [ep, eq']
      simp only [Bool.or_eq_true, Bool.and_eq_true, decide_eq_true_eq]
      left; left; left
      exact ⟨⟨la, trivial⟩, trivial⟩
  · rintro ⟨ha, hk⟩
    unfold okR at hk
    simp only [Bool.or_eq_true, Bool.and_eq_true, decide_eq_true_eq] at hk
    have noOf : ∀ {c : UInt8} {r : Int}, FindIs l c r → r = -1 → ∀ j : Nat, l[j]? ≠ some c := by
      intro c r h hr
      rcases h with ⟨_, h⟩ | ⟨h, _⟩ | ⟨i, h, _⟩
      · exact h
      · omega
      · omega
    rcases hk with ((⟨⟨h1, h2⟩, h3⟩ | ⟨⟨⟨h1, h2⟩, h3⟩, h4⟩) | ⟨⟨h1, h2⟩, h3⟩) | h
    · exact .inr (.inr (.inr ⟨List.length_pos_iff.1 h1, wd_of ha (noOf hp h2) (noOf hq h3)⟩))
    · rcases hp with ⟨h, _⟩ | ⟨h, _⟩ | ⟨i, h, hi, hu⟩
      · omega
      · omega
      · subst h
        simp only [Int.toNat_natCast] at h4
        have n47 := noOf hq h2
        have e1 := split_at hi
        have e2 : l.drop (i + 1) = 115 :: l.drop (i + 2) := by
          obtain ⟨hl, h5⟩ := List.getElem?_eq_some_iff.1 h4
          rw [List.drop_eq_getElem_cons hl, h5]
        have wa : wd (l.take i) = true := wd_of (allow_sub ha i).1 (take_no hu) (sub_no n47 i).1
        have wb : wd (l.drop (i + 2)) = true := wd_of (allow_sub ha (i + 2)).2 (drop_no hu _ (by omega)) (sub_no n47 (i + 2)).2
        have e3 : l = l.take i ++ [37, 115] ++ l.drop (i + 2) := by
          conv => lhs; rw [e1, e2]
          simp
        refine .inr (.inl ?_)
        have hc := cut_at (a := l.take i) (b := l.drop (i + 2)) (sep := [37, 115]) (c := 37) (t := [115]) rfl not37 wa
        rw [← e3] at hc
        unfold K1
        rw [hc]
        exact ⟨rfl, wa, wb⟩
    · rcases hq with ⟨h, _⟩ | ⟨h, _⟩ | ⟨i, h, hi, hu⟩
      · omega
      · omega
      · subst h
        have n37 := noOf hp h1
        have e1 := split_at hi
        have wa : wd (l.take i) = true := wd_of (allow_sub ha i).1 (sub_no n37 i).1 (take_no hu)
        have wb : wd (l.drop (i + 1)) = true := wd_of (allow_sub ha (i + 1)).2 (sub_no n37 (i + 1)).2 (drop_no hu _ (by omega))
        have e3 : l = l.take i ++ [47] ++ l.drop (i + 1) := by
          conv => lhs; rw [e1]
          simp
        refine .inr (.inr (.inl ?_))
        have hc := cut_at (a := l.take i) (b := l.drop (i + 1)) (sep := [47]) (c := 47) (t := []) rfl not47 wa
        rw [← e3] at hc
        unfold K2
        rw [hc]
        have hl : i < l.length := (List.getElem?_eq_some_iff.1 hi).1
        refine ⟨rfl, ?_, ?_, wa, wb⟩
        · intro h; have := congrArg List.length h; rw [List.length_take, List.length_nil] at this; omega
        · intro h; have := congrArg List.length h; rw [List.length_drop, List.length_nil] at this; omega
    · exact .inl h
end Fmt
end Go.Proofs.YtkpjhgkmjcdobaaGreatDoor
