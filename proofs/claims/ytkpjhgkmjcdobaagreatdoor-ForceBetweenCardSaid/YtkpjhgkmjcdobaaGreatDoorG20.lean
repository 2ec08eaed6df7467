import Derived.Test.YtkpjhgkmjcdobaaGreatDoorG7
import Derived.Test.YtkpjhgkmjcdobaaGreatDoorG16
import Derived.Test.YtkpjhgkmjcdobaaGreatDoorG14
import Derived.Test.YtkpjhgkmjcdobaaGreatDoorG12
import Derived.Test.YtkpjhgkmjcdobaaGreatDoorG8
import Derived.Test.YtkpjhgkmjcdobaaGreatDoorForceY
/-
  The rules that the statements name: noontidelaw26.Us, noontidelaw21.Eu.
-/
namespace Go.Proofs.YtkpjhgkmjcdobaaGreatDoor
open Go.RowKit NB
namespace Us
def us0 : RuleV := ⟨⟨#[85, 83]⟩, 2007, 32767, 3, 2, 0, 8, 7200, 0, 3600, ⟨#[68]⟩⟩
def us1 : RuleV := ⟨⟨#[85, 83]⟩, 2007, 32767, 11, 2, 0, 1, 7200, 0, 0, ⟨#[83]⟩⟩
def eu : RuleV := ⟨⟨#[69, 85]⟩, 1981, 32767, 3, 1, 0, 0, 3600, 2, 3600, ⟨#[83]⟩⟩
theorem Us (w : World) : Calls Tryz.prog 37 #[] w fun e w' => e = .returned (.slice (some ⟨w.heap.size, 0, none⟩) 2 2) ∧ w' = w.alloc (.cells (us0.cells ++ us1.cells).toArray 75) := by
  unfold us0 us1 RuleV.cells
  go_enter Tryz.func37, Tryz.ntmps37
  go_wp2
  go_ret
  exact ⟨rfl, rfl⟩
def zero : RuleV := ⟨⟨#[]⟩, 0, 0, 0, 0, 0, 0, 0, 0, 0, ⟨#[]⟩⟩
def enn : RuleV := ⟨⟨#[69, 85]⟩, 1981, 32767, 4, 0, 0, 1, 3600, 2, 3600, ⟨#[83]⟩⟩
def emm : RuleV := ⟨⟨#[69, 85]⟩, 1992, 32767, 4, 0, 0, 1, 3600, 2, 3600, ⟨#[83]⟩⟩
def eoo : RuleV := ⟨⟨#[69, 85]⟩, 1981, 1990, 3, 1, 0, 0, 3600, 2, 3600, ⟨#[83]⟩⟩
theorem fit_us0 : us0.Fit := ⟨by decide, by decide, by unfold I64; decide, by unfold I64; decide, by unfold I64; decide, by unfold I64; decide⟩
theorem fit_us1 : us1.Fit := ⟨by decide, by decide, by unfold I64; decide, by unfold I64; decide, by unfold I64; decide, by unfold I64; decide⟩
theorem fit_eu : eu.Fit := ⟨by decide, by decide, by unfold I64; decide, by unfold I64; decide, by unfold I64; decide, by unfold I64; decide⟩
theorem fit_zero : zero.Fit := ⟨by decide, by decide, by unfold I64; decide, by unfold I64; decide, by unfold I64; decide, by unfold I64; decide⟩
theorem fit_enn : enn.Fit := ⟨by decide, by decide, by unfold I64; decide, by unfold I64; decide, by unfold I64; decide, by unfold I64; decide⟩
theorem fit_emm : emm.Fit := ⟨by decide, by decide, by unfold I64; decide, by unfold I64; decide, by unfold I64; decide, by unfold I64; decide⟩
theorem fit_eoo : eoo.Fit := ⟨by decide, by decide, by unfold I64; decide, by unfold I64; decide, by unfold I64; decide, by unfold I64; decide⟩
end Us
end Go.Proofs.YtkpjhgkmjcdobaaGreatDoor
/-
  What law 33's lives asks for, in plain data.
-/
namespace Go.Proofs.YtkpjhgkmjcdobaaGreatDoor
open Go.RowKit
namespace L33
open Frc
def eE : EraV := ⟨-18000, 2, 0, ⟨#[85, 83]⟩, ⟨#[69, 37, 115, 84]⟩, ⟨false, 0, 0, 0, 0, 0, 0, 0⟩⟩
theorem fit_eE : eE.Fit := ⟨by decide, by decide, by unfold I64; decide, by unfold I64; decide, by unfold I64; decide, by unfold I64; decide⟩
def eC : EraV := ⟨3600, 1, 3600, ⟨#[]⟩, ⟨#[37, 122]⟩, ⟨false, 0, 0, 0, 0, 0, 0, 0⟩⟩
theorem fit_eC : eC.Fit := ⟨by decide, by decide, by unfold I64; decide, by unfold I64; decide, by unfold I64; decide, by unfold I64; decide⟩
def eZ : EraV := ⟨0, 0, 0, ⟨#[]⟩, ⟨#[]⟩, ⟨false, 0, 0, 0, 0, 0, 0, 0⟩⟩
theorem fit_eZ : eZ.Fit := ⟨by decide, by decide, by unfold I64; decide, by unfold I64; decide, by unfold I64; decide, by unfold I64; decide⟩
def eX : EraV := ⟨0, 0, 0, ⟨#[]⟩, ⟨#[88]⟩, ⟨false, 0, 0, 0, 0, 0, 0, 0⟩⟩
theorem fit_eX : eX.Fit := ⟨by decide, by decide, by unfold I64; decide, by unfold I64; decide, by unfold I64; decide, by unfold I64; decide⟩
theorem lp1 : lastP [Us.us0, Us.us1] eE 1719792000 = some ⟨0, 2024, 1710036000⟩ := by
  unfold lastP Chn.lastO
  rw [if_pos (by decide +kernel), show Occ.prevO [Us.us0, Us.us1] eE.rules ⟨-1, 0, Chn.clampE 1719792000 + 64800 + 1⟩ = some ⟨0, 2024, 1710036000⟩ by decide +kernel]
  exact Occ.pick_here (by decide +kernel)
theorem lp0 : lastP [Us.us0, Us.us1] eE 0 = none := by
  unfold lastP Chn.lastO
  rw [if_pos (by decide +kernel), show Occ.prevO [Us.us0, Us.us1] eE.rules ⟨-1, 0, Chn.clampE 0 + 64800 + 1⟩ = none by decide +kernel]
  exact Occ.pick_none
theorem s1 : stateV [Us.us0, Us.us1] eE 1719792000 = ⟨-14400, 3600, ⟨#[69, 68, 84]⟩⟩ := by
  unfold stateV
  rw [lp1]
  decide +kernel
theorem s0 : stateV [Us.us0, Us.us1] eE 0 = ⟨-18000, 0, ⟨#[69, 83, 84]⟩⟩ := by
  unfold stateV
  rw [lp0]
  decide +kernel
theorem a1 : atV [Us.us0, Us.us1] eE 1719792000 = (⟨-14400, 3600, ⟨#[69, 68, 84]⟩⟩, 0) := by
  unfold atV
  rw [if_pos (by decide +kernel), if_pos (by decide +kernel), s1]
theorem a0 : atV [Us.us0, Us.us1] eE 0 = (⟨-18000, 0, ⟨#[69, 83, 84]⟩⟩, 0) := by
  unfold atV
  rw [if_pos (by decide +kernel), if_pos (by decide +kernel), s0]
theorem ac : atV [] eC 0 = (⟨7200, 3600, ⟨#[43, 48, 50]⟩⟩, 0) := by
  unfold atV
  rw [if_pos (by decide +kernel), if_neg (by decide +kernel), show valR eC eC.save ⟨#[]⟩ = ⟨7200, 3600, ⟨#[43, 48, 50]⟩⟩ by decide +kernel]
theorem az : atV [Us.us0, Us.us1] eZ 0 = (⟨0, 0, ⟨#[]⟩⟩, 4) := by
  unfold atV
  rw [if_neg (by decide +kernel)]
theorem n1 : nextV [Us.us0, Us.us1] eE 1719792000 = (1730613600, true) := by
  unfold nextV nextF
  rw [if_pos (by decide +kernel), s1, lp1]
  decide +kernel
theorem p1 : prevV [Us.us0, Us.us1] eE 1719792000 = (1710054000, true) := by
  unfold prevV prevF
  rw [if_pos (by decide +kernel), s1, lp1]
  decide +kernel
theorem n0 : nextV [Us.us0, Us.us1] eE 0 = (1173596400, true) := by
  unfold nextV nextF
  rw [if_pos (by decide +kernel), s0, lp0]
  decide +kernel
theorem p0 : prevV [Us.us0, Us.us1] eE 0 = (0, false) := by
  unfold prevV prevF
  rw [if_pos (by decide +kernel), lp0]
  rfl
theorem nx : nextV [Us.us0, Us.us1] eX 0 = (0, false) := by
  unfold nextV
  rw [if_neg (by decide +kernel)]
end L33
end Go.Proofs.YtkpjhgkmjcdobaaGreatDoor
/-
  Slices of rules and of occurrences in blocks that were just laid.
-/
namespace Go.Proofs.YtkpjhgkmjcdobaaGreatDoor
open Go.RowKit NB
namespace Nw
theorem rule_len (r : RuleV) : r.cells.length = 11 := rfl
theorem lies_new (X : World) (l : List RuleV) (cs : Array Value) (t : TypeId) (h : cs.toList = l.flatMap RuleV.cells) : Lies (X.alloc (.cells cs t)) X.heap.size 0 11 (l.map RuleV.cells) := by
  intro i j c v hi hj
  rw [List.getElem?_map] at hi
  cases hx : l[i]? with
  | none => rw [hx] at hi; cases hi
  | some x =>
    rw [hx] at hi
    cases hi
    rw [cell_of_row _ _ _ _ _ _ (heap_alloc_new X _), Nat.zero_add]
    have := Grp.flat_at rule_len l i j x v hx hj
    rw [← h] at this
    simpa using this
theorem holds_new (X : World) (l : List RuleV) (cs : Array Value) (t : TypeId) (cap n : Nat) (hn : n = l.length) (h : cs.toList = l.flatMap RuleV.cells) (hf : ∀ r ∈ l, r.Fit) (hl : l.length ≤ 9223372036854775807) : Holds (X.alloc (.cells cs t)) (.slice (some ⟨X.heap.size, 0, none⟩) n cap) l := by
  subst hn
  exact ⟨.inr ⟨X.heap.size, 0, cap, rfl, by simp, lies_new X l cs t h⟩, hf, hl⟩
end Nw
end Go.Proofs.YtkpjhgkmjcdobaaGreatDoor
/-
  noontidelaw33.East, lives.
-/
namespace Go.Proofs.YtkpjhgkmjcdobaaGreatDoor
open Go.RowKit NB Nxt
namespace L33
open Frc
theorem nilR (W : World) : Holds W (.slice none 0 0) [] := ⟨.inl ⟨_, _, rfl, rfl⟩, by simp, by simp⟩
theorem East (w : World) : Calls Tryz.prog 54 #[] w fun z w' => z = .returned (.agg #[.int .i64 (-18000), .int .i64 2, .int .i64 0, .string { data := #[85, 83] }, .string { data := #[69, 37, 115, 84] }, .bool false, .int .i64 0, .int .i64 0, .int .i64 0, .int .i64 0, .int .i64 0, .int .i64 0, .int .i64 0]) ∧ Below w.heap.size w w' := by
  go_enter Tryz.func54, Tryz.ntmps54
  go_wp2
  refine bodyPost_ret (v := .agg #[.int .i64 (-18000), .int .i64 2, .int .i64 0, .string { data := #[85, 83] }, .string { data := #[69, 37, 115, 84] }, .bool false, .int .i64 0, .int .i64 0, .int .i64 0, .int .i64 0, .int .i64 0, .int .i64 0, .int .i64 0]) ?_ rfl ⟨rfl, ?_⟩
  · simp only [results, Tryz.results54]
    go_simp
  · repeat (first | (with_reducible exact Below.refl _ _) | (with_reducible assumption) | (with_reducible refine ba ?_) | (with_reducible refine bd ?_) | (with_reducible refine bdn ?_ _) | (with_reducible refine bset ?_ (by first | exact Nat.le_refl _ | omega | (simp; done) | (simp; omega))) | (with_reducible refine bt ?_ (by with_reducible assumption)))
set_option maxRecDepth 100000 in
set_option maxHeartbeats 6400000 in
theorem lives (w : World) (ht : Tab w) (hst : Sta w) : Calls Tryz.prog 24 #[] w fun e w' => e = .returned (.bool true) ∧ Below w.heap.size w w' := by
  go_enter Tryz.func24, Tryz.ntmps24
  go_upto_region 2 with (go_at_call 37; refine (Us.Us _).mono ?_; rintro e w1 ⟨rfl, hw1⟩; have Hw1 := Lib.hid hw1; clear hw1)
  have hw1 := Hw1.out
  obtain ⟨p, hp⟩ : ∃ p, p = w.heap.size := ⟨_, rfl⟩
  have hH : Holds w1 (.slice (some ⟨p, 0, none⟩) 2 2) [Us.us0, Us.us1] := by
    rw [hw1, hp]
    exact Nw.holds_new w [Us.us0, Us.us1] _ _ 2 2 rfl rfl (fun r hr => by simp only [List.mem_cons, List.not_mem_nil, or_false] at hr; rcases hr with rfl | rfl; exact Us.fit_us0; exact Us.fit_us1) (by simp)
  have hB0 : Below w.heap.size w w1 := by rw [hw1]; exact ba (Below.refl _ _)
  rw [← hp]
  clear hw1 Hw1 hp
  have HT := Lib.hid (ht.later hB0)
  have HS := Lib.hid (hst.later hB0)
  have HB0 := Lib.hid hB0
  have HH := Lib.hid hH
  clear hB0 hH ht hst
  have hsU : ∀ x ∈ [Us.us0, Us.us1], x.letter.size ≤ 1000000 := by
    intro x hx
    simp only [List.mem_cons, List.not_mem_nil, or_false] at hx
    rcases hx with rfl | rfl <;> decide
  have ce := East
  have ca1 : ∀ W, Holds W (.slice (some ⟨p, 0, none⟩) 2 2) [Us.us0, Us.us1] → Tab W → Calls Tryz.prog 25 #[.slice (some ⟨p, 0, none⟩) 2 2, .agg #[.int .i64 (-18000), .int .i64 2, .int .i64 0, .string { data := #[85, 83] }, .string { data := #[69, 37, 115, 84] }, .bool false, .int .i64 0, .int .i64 0, .int .i64 0, .int .i64 0, .int .i64 0, .int .i64 0, .int .i64 0], .int .i64 1719792000] W fun z w' => z = .returned (.tuple #[.agg #[.int .i64 (-14400), .int .i64 3600, .string { data := #[69, 68, 84] }], .int .i64 0]) ∧ Below W.heap.size W w' := fun W h ht => by
    have := Frc.At h eE fit_eE 1719792000 ht hsU (by simp)
    rw [a1] at this
    exact this
  have ca0 : ∀ W, Holds W (.slice (some ⟨p, 0, none⟩) 2 2) [Us.us0, Us.us1] → Tab W → Calls Tryz.prog 25 #[.slice (some ⟨p, 0, none⟩) 2 2, .agg #[.int .i64 (-18000), .int .i64 2, .int .i64 0, .string { data := #[85, 83] }, .string { data := #[69, 37, 115, 84] }, .bool false, .int .i64 0, .int .i64 0, .int .i64 0, .int .i64 0, .int .i64 0, .int .i64 0, .int .i64 0], .int .i64 0] W fun z w' => z = .returned (.tuple #[.agg #[.int .i64 (-18000), .int .i64 0, .string { data := #[69, 83, 84] }], .int .i64 0]) ∧ Below W.heap.size W w' := fun W h ht => by
    have := Frc.At h eE fit_eE 0 ht hsU (by simp)
    rw [a0] at this
    exact this
  have cac : ∀ W, Tab W → Calls Tryz.prog 25 #[.slice none 0 0, .agg #[.int .i64 3600, .int .i64 1, .int .i64 3600, .string { data := #[] }, .string { data := #[37, 122] }, .bool false, .int .i64 0, .int .i64 0, .int .i64 0, .int .i64 0, .int .i64 0, .int .i64 0, .int .i64 0], .int .i64 0] W fun z w' => z = .returned (.tuple #[.agg #[.int .i64 7200, .int .i64 3600, .string { data := #[43, 48, 50] }], .int .i64 0]) ∧ Below W.heap.size W w' := fun W ht => by
    have := Frc.At (nilR W) eC fit_eC 0 ht (by simp) (by simp)
    rw [ac] at this
    exact this
  have caz : ∀ W, Holds W (.slice (some ⟨p, 0, none⟩) 2 2) [Us.us0, Us.us1] → Tab W → Calls Tryz.prog 25 #[.slice (some ⟨p, 0, none⟩) 2 2, .agg #[.int .i64 0, .int .i64 0, .int .i64 0, .string { data := #[] }, .string { data := #[] }, .bool false, .int .i64 0, .int .i64 0, .int .i64 0, .int .i64 0, .int .i64 0, .int .i64 0, .int .i64 0], .int .i64 0] W fun z w' => z = .returned (.tuple #[.agg #[.int .i64 0, .int .i64 0, .string { data := #[] }], .int .i64 4]) ∧ Below W.heap.size W w' := fun W h ht => by
    have := Frc.At h eZ fit_eZ 0 ht hsU (by simp)
    rw [az] at this
    exact this
  have cn1 : ∀ W, Holds W (.slice (some ⟨p, 0, none⟩) 2 2) [Us.us0, Us.us1] → Tab W → Sta W → Calls Tryz.prog 27 #[.slice (some ⟨p, 0, none⟩) 2 2, .agg #[.int .i64 (-18000), .int .i64 2, .int .i64 0, .string { data := #[85, 83] }, .string { data := #[69, 37, 115, 84] }, .bool false, .int .i64 0, .int .i64 0, .int .i64 0, .int .i64 0, .int .i64 0, .int .i64 0, .int .i64 0], .int .i64 1719792000] W fun z w' => z = .returned (.tuple #[.int .i64 1730613600, .bool true]) ∧ Below W.heap.size W w' := fun W h ht hst => by
    have := Frc.Next h eE fit_eE 1719792000 ht hst hsU (by simp)
    rw [n1] at this
    exact this
  have cp1 : ∀ W, Holds W (.slice (some ⟨p, 0, none⟩) 2 2) [Us.us0, Us.us1] → Tab W → Sta W → Calls Tryz.prog 29 #[.slice (some ⟨p, 0, none⟩) 2 2, .agg #[.int .i64 (-18000), .int .i64 2, .int .i64 0, .string { data := #[85, 83] }, .string { data := #[69, 37, 115, 84] }, .bool false, .int .i64 0, .int .i64 0, .int .i64 0, .int .i64 0, .int .i64 0, .int .i64 0, .int .i64 0], .int .i64 1719792000] W fun z w' => z = .returned (.tuple #[.int .i64 1710054000, .bool true]) ∧ Below W.heap.size W w' := fun W h ht hst => by
    have := Frc.Prev h eE fit_eE 1719792000 ht hst hsU (by simp)
    rw [p1] at this
    exact this
  have cn0 : ∀ W, Holds W (.slice (some ⟨p, 0, none⟩) 2 2) [Us.us0, Us.us1] → Tab W → Sta W → Calls Tryz.prog 27 #[.slice (some ⟨p, 0, none⟩) 2 2, .agg #[.int .i64 (-18000), .int .i64 2, .int .i64 0, .string { data := #[85, 83] }, .string { data := #[69, 37, 115, 84] }, .bool false, .int .i64 0, .int .i64 0, .int .i64 0, .int .i64 0, .int .i64 0, .int .i64 0, .int .i64 0], .int .i64 0] W fun z w' => z = .returned (.tuple #[.int .i64 1173596400, .bool true]) ∧ Below W.heap.size W w' := fun W h ht hst => by
    have := Frc.Next h eE fit_eE 0 ht hst hsU (by simp)
    rw [n0] at this
    exact this
  have cp0 : ∀ W, Holds W (.slice (some ⟨p, 0, none⟩) 2 2) [Us.us0, Us.us1] → Tab W → Sta W → Calls Tryz.prog 29 #[.slice (some ⟨p, 0, none⟩) 2 2, .agg #[.int .i64 (-18000), .int .i64 2, .int .i64 0, .string { data := #[85, 83] }, .string { data := #[69, 37, 115, 84] }, .bool false, .int .i64 0, .int .i64 0, .int .i64 0, .int .i64 0, .int .i64 0, .int .i64 0, .int .i64 0], .int .i64 0] W fun z w' => z = .returned (.tuple #[.int .i64 0, .bool false]) ∧ Below W.heap.size W w' := fun W h ht hst => by
    have := Frc.Prev h eE fit_eE 0 ht hst hsU (by simp)
    rw [p0] at this
    exact this
  have cnx : ∀ W, Holds W (.slice (some ⟨p, 0, none⟩) 2 2) [Us.us0, Us.us1] → Tab W → Sta W → Calls Tryz.prog 27 #[.slice (some ⟨p, 0, none⟩) 2 2, .agg #[.int .i64 0, .int .i64 0, .int .i64 0, .string { data := #[] }, .string { data := #[88] }, .bool false, .int .i64 0, .int .i64 0, .int .i64 0, .int .i64 0, .int .i64 0, .int .i64 0, .int .i64 0], .int .i64 0] W fun z w' => z = .returned (.tuple #[.int .i64 0, .bool false]) ∧ Below W.heap.size W w' := fun W h ht hst => by
    have := Frc.Next h eX fit_eX 0 ht hst hsU (by simp)
    rw [nx] at this
    exact this
  have CE := Lib.hid ce
  have CA1 := Lib.hid ca1
  have CA0 := Lib.hid ca0
  have CAC := Lib.hid cac
  have CAZ := Lib.hid caz
  have CN1 := Lib.hid cn1
  have CP1 := Lib.hid cp1
  have CN0 := Lib.hid cn0
  have CP0 := Lib.hid cp0
  have CNX := Lib.hid cnx
  clear ce ca1 ca0 cac caz cn1 cp1 cn0 cp0 cnx hsU
  have hX0 : Below w1.heap.size w1 w1 := Below.refl _ _
  go_upto_region 3 with (first
    | (go_at_call 54; (with_reducible refine (CE.out _).mono ?_); rintro e w2 ⟨rfl, hb2⟩)
    | (go_at_call 25; (with_reducible refine (CA1.out _ ?_ ?_).mono ?_); (· exact HH.out.later (by repeat (first | (with_reducible exact Below.refl _ _) | (with_reducible assumption) | (with_reducible refine ba ?_) | (with_reducible refine bd ?_) | (with_reducible refine bdn ?_ _) | (with_reducible refine bset ?_ (by first | exact Nat.le_refl _ | omega | (simp; done) | (simp; omega))) | (with_reducible refine bt ?_ (by with_reducible assumption))))); (· exact HT.out.later (by repeat (first | (with_reducible exact Below.refl _ _) | (with_reducible assumption) | (with_reducible refine ba ?_) | (with_reducible refine bd ?_) | (with_reducible refine bdn ?_ _) | (with_reducible refine bset ?_ (by first | exact Nat.le_refl _ | omega | (simp; done) | (simp; omega))) | (with_reducible refine bt ?_ (by with_reducible assumption))))); rintro e w3 ⟨rfl, hb3⟩))
  have b1 : Box (w3.alloc (.cells #[.int .i64 (-14400), .int .i64 3600, .string { data := #[69, 68, 84] }] 58)) w3.heap.size #[.int .i64 (-14400), .int .i64 3600, .string { data := #[69, 68, 84] }] 58 := Box.new _ _ _
  have hX1 : Below w1.heap.size w1 (w3.alloc (.cells #[.int .i64 (-14400), .int .i64 3600, .string { data := #[69, 68, 84] }] 58)) := by repeat (first | (with_reducible exact Below.refl _ _) | (with_reducible assumption) | (with_reducible refine ba ?_) | (with_reducible refine bd ?_) | (with_reducible refine bdn ?_ _) | (with_reducible refine bset ?_ (by first | exact Nat.le_refl _ | omega | (simp; done) | (simp; omega))) | (with_reducible refine bt ?_ (by with_reducible assumption)))
  generalize (w3.alloc (.cells #[.int .i64 (-14400), .int .i64 3600, .string { data := #[69, 68, 84] }] 58)) = X1 at *
  obtain ⟨p1, hp1⟩ : ∃ p, p = w3.heap.size := ⟨_, rfl⟩
  rw [← hp1] at b1 ⊢
  clear hp1 hX0 hb2 hb3
  go_upto_region 4 with (first
    | (go_at_call 54; (with_reducible refine (CE.out _).mono ?_); rintro e w4 ⟨rfl, hb4⟩)
    | (go_at_call 25; (with_reducible refine (CA0.out _ ?_ ?_).mono ?_); (· exact HH.out.later (by repeat (first | (with_reducible exact Below.refl _ _) | (with_reducible assumption) | (with_reducible refine ba ?_) | (with_reducible refine bd ?_) | (with_reducible refine bdn ?_ _) | (with_reducible refine bset ?_ (by first | exact Nat.le_refl _ | omega | (simp; done) | (simp; omega))) | (with_reducible refine bt ?_ (by with_reducible assumption))))); (· exact HT.out.later (by repeat (first | (with_reducible exact Below.refl _ _) | (with_reducible assumption) | (with_reducible refine ba ?_) | (with_reducible refine bd ?_) | (with_reducible refine bdn ?_ _) | (with_reducible refine bset ?_ (by first | exact Nat.le_refl _ | omega | (simp; done) | (simp; omega))) | (with_reducible refine bt ?_ (by with_reducible assumption))))); rintro e w5 ⟨rfl, hb5⟩))
  have b2 : Box (w5.alloc (.cells #[.int .i64 (-18000), .int .i64 0, .string { data := #[69, 83, 84] }] 58)) w5.heap.size #[.int .i64 (-18000), .int .i64 0, .string { data := #[69, 83, 84] }] 58 := Box.new _ _ _
  have hX2 : Below w1.heap.size w1 (w5.alloc (.cells #[.int .i64 (-18000), .int .i64 0, .string { data := #[69, 83, 84] }] 58)) := by repeat (first | (with_reducible exact Below.refl _ _) | (with_reducible assumption) | (with_reducible refine ba ?_) | (with_reducible refine bd ?_) | (with_reducible refine bdn ?_ _) | (with_reducible refine bset ?_ (by first | exact Nat.le_refl _ | omega | (simp; done) | (simp; omega))) | (with_reducible refine bt ?_ (by with_reducible assumption)))
  replace b1 : Box (w5.alloc (.cells #[.int .i64 (-18000), .int .i64 0, .string { data := #[69, 83, 84] }] 58)) p1 #[.int .i64 (-14400), .int .i64 3600, .string { data := #[69, 68, 84] }] 58 := by repeat (first | (with_reducible assumption) | (with_reducible exact Box.new _ _ _) | (with_reducible refine Box.old ?_) | (with_reducible refine Box.drew ?_) | (with_reducible refine Box.drewN ?_ _) | (with_reducible refine Box.other ?_ (by first | assumption | omega | (simp; omega))) | (with_reducible refine Box.later ?_ (by with_reducible assumption)))
  generalize (w5.alloc (.cells #[.int .i64 (-18000), .int .i64 0, .string { data := #[69, 83, 84] }] 58)) = X2 at *
  obtain ⟨p2, hp2⟩ : ∃ p, p = w5.heap.size := ⟨_, rfl⟩
  rw [← hp2] at b2 ⊢
  clear hp2 hX1 hb4 hb5
  go_upto_region 5 with (first
    | (go_at_call 25; (with_reducible refine (CAC.out _ ?_).mono ?_); (· exact HT.out.later (by repeat (first | (with_reducible exact Below.refl _ _) | (with_reducible assumption) | (with_reducible refine ba ?_) | (with_reducible refine bd ?_) | (with_reducible refine bdn ?_ _) | (with_reducible refine bset ?_ (by first | exact Nat.le_refl _ | omega | (simp; done) | (simp; omega))) | (with_reducible refine bt ?_ (by with_reducible assumption))))); rintro e w6 ⟨rfl, hb6⟩))
  have b3 : Box (w6.alloc (.cells #[.int .i64 7200, .int .i64 3600, .string { data := #[43, 48, 50] }] 58)) w6.heap.size #[.int .i64 7200, .int .i64 3600, .string { data := #[43, 48, 50] }] 58 := Box.new _ _ _
  have hX3 : Below w1.heap.size w1 (w6.alloc (.cells #[.int .i64 7200, .int .i64 3600, .string { data := #[43, 48, 50] }] 58)) := by repeat (first | (with_reducible exact Below.refl _ _) | (with_reducible assumption) | (with_reducible refine ba ?_) | (with_reducible refine bd ?_) | (with_reducible refine bdn ?_ _) | (with_reducible refine bset ?_ (by first | exact Nat.le_refl _ | omega | (simp; done) | (simp; omega))) | (with_reducible refine bt ?_ (by with_reducible assumption)))
  replace b1 : Box (w6.alloc (.cells #[.int .i64 7200, .int .i64 3600, .string { data := #[43, 48, 50] }] 58)) p1 #[.int .i64 (-14400), .int .i64 3600, .string { data := #[69, 68, 84] }] 58 := by repeat (first | (with_reducible assumption) | (with_reducible exact Box.new _ _ _) | (with_reducible refine Box.old ?_) | (with_reducible refine Box.drew ?_) | (with_reducible refine Box.drewN ?_ _) | (with_reducible refine Box.other ?_ (by first | assumption | omega | (simp; omega))) | (with_reducible refine Box.later ?_ (by with_reducible assumption)))
  replace b2 : Box (w6.alloc (.cells #[.int .i64 7200, .int .i64 3600, .string { data := #[43, 48, 50] }] 58)) p2 #[.int .i64 (-18000), .int .i64 0, .string { data := #[69, 83, 84] }] 58 := by repeat (first | (with_reducible assumption) | (with_reducible exact Box.new _ _ _) | (with_reducible refine Box.old ?_) | (with_reducible refine Box.drew ?_) | (with_reducible refine Box.drewN ?_ _) | (with_reducible refine Box.other ?_ (by first | assumption | omega | (simp; omega))) | (with_reducible refine Box.later ?_ (by with_reducible assumption)))
  generalize (w6.alloc (.cells #[.int .i64 7200, .int .i64 3600, .string { data := #[43, 48, 50] }] 58)) = X3 at *
  obtain ⟨p3, hp3⟩ : ∃ p, p = w6.heap.size := ⟨_, rfl⟩
  rw [← hp3] at b3 ⊢
  clear hp3 hX2 hb6
  go_upto_region 6 with (first
    | (go_at_call 25; (with_reducible refine (CAZ.out _ ?_ ?_).mono ?_); (· exact HH.out.later (by repeat (first | (with_reducible exact Below.refl _ _) | (with_reducible assumption) | (with_reducible refine ba ?_) | (with_reducible refine bd ?_) | (with_reducible refine bdn ?_ _) | (with_reducible refine bset ?_ (by first | exact Nat.le_refl _ | omega | (simp; done) | (simp; omega))) | (with_reducible refine bt ?_ (by with_reducible assumption))))); (· exact HT.out.later (by repeat (first | (with_reducible exact Below.refl _ _) | (with_reducible assumption) | (with_reducible refine ba ?_) | (with_reducible refine bd ?_) | (with_reducible refine bdn ?_ _) | (with_reducible refine bset ?_ (by first | exact Nat.le_refl _ | omega | (simp; done) | (simp; omega))) | (with_reducible refine bt ?_ (by with_reducible assumption))))); rintro e w7 ⟨rfl, hb7⟩))
  have b4 : Box (w7.alloc (.cells #[.int .i64 0, .int .i64 0, .string { data := #[] }] 58)) w7.heap.size #[.int .i64 0, .int .i64 0, .string { data := #[] }] 58 := Box.new _ _ _
  have hX4 : Below w1.heap.size w1 (w7.alloc (.cells #[.int .i64 0, .int .i64 0, .string { data := #[] }] 58)) := by repeat (first | (with_reducible exact Below.refl _ _) | (with_reducible assumption) | (with_reducible refine ba ?_) | (with_reducible refine bd ?_) | (with_reducible refine bdn ?_ _) | (with_reducible refine bset ?_ (by first | exact Nat.le_refl _ | omega | (simp; done) | (simp; omega))) | (with_reducible refine bt ?_ (by with_reducible assumption)))
  replace b1 : Box (w7.alloc (.cells #[.int .i64 0, .int .i64 0, .string { data := #[] }] 58)) p1 #[.int .i64 (-14400), .int .i64 3600, .string { data := #[69, 68, 84] }] 58 := by repeat (first | (with_reducible assumption) | (with_reducible exact Box.new _ _ _) | (with_reducible refine Box.old ?_) | (with_reducible refine Box.drew ?_) | (with_reducible refine Box.drewN ?_ _) | (with_reducible refine Box.other ?_ (by first | assumption | omega | (simp; omega))) | (with_reducible refine Box.later ?_ (by with_reducible assumption)))
  replace b2 : Box (w7.alloc (.cells #[.int .i64 0, .int .i64 0, .string { data := #[] }] 58)) p2 #[.int .i64 (-18000), .int .i64 0, .string { data := #[69, 83, 84] }] 58 := by repeat (first | (with_reducible assumption) | (with_reducible exact Box.new _ _ _) | (with_reducible refine Box.old ?_) | (with_reducible refine Box.drew ?_) | (with_reducible refine Box.drewN ?_ _) | (with_reducible refine Box.other ?_ (by first | assumption | omega | (simp; omega))) | (with_reducible refine Box.later ?_ (by with_reducible assumption)))
  replace b3 : Box (w7.alloc (.cells #[.int .i64 0, .int .i64 0, .string { data := #[] }] 58)) p3 #[.int .i64 7200, .int .i64 3600, .string { data := #[43, 48, 50] }] 58 := by repeat (first | (with_reducible assumption) | (with_reducible exact Box.new _ _ _) | (with_reducible refine Box.old ?_) | (with_reducible refine Box.drew ?_) | (with_reducible refine Box.drewN ?_ _) | (with_reducible refine Box.other ?_ (by first | assumption | omega | (simp; omega))) | (with_reducible refine Box.later ?_ (by with_reducible assumption)))
  generalize (w7.alloc (.cells #[.int .i64 0, .int .i64 0, .string { data := #[] }] 58)) = X4 at *
  obtain ⟨p4, hp4⟩ : ∃ p, p = w7.heap.size := ⟨_, rfl⟩
  rw [← hp4] at b4 ⊢
  clear hp4 hX3 hb7
  go_upto_region 7 with (first
    | (go_at_call 54; (with_reducible refine (CE.out _).mono ?_); rintro e w8 ⟨rfl, hb8⟩)
    | (go_at_call 27; (with_reducible refine (CN1.out _ ?_ ?_ ?_).mono ?_); (· exact HH.out.later (by repeat (first | (with_reducible exact Below.refl _ _) | (with_reducible assumption) | (with_reducible refine ba ?_) | (with_reducible refine bd ?_) | (with_reducible refine bdn ?_ _) | (with_reducible refine bset ?_ (by first | exact Nat.le_refl _ | omega | (simp; done) | (simp; omega))) | (with_reducible refine bt ?_ (by with_reducible assumption))))); (· exact HT.out.later (by repeat (first | (with_reducible exact Below.refl _ _) | (with_reducible assumption) | (with_reducible refine ba ?_) | (with_reducible refine bd ?_) | (with_reducible refine bdn ?_ _) | (with_reducible refine bset ?_ (by first | exact Nat.le_refl _ | omega | (simp; done) | (simp; omega))) | (with_reducible refine bt ?_ (by with_reducible assumption))))); (· exact HS.out.later (by repeat (first | (with_reducible exact Below.refl _ _) | (with_reducible assumption) | (with_reducible refine ba ?_) | (with_reducible refine bd ?_) | (with_reducible refine bdn ?_ _) | (with_reducible refine bset ?_ (by first | exact Nat.le_refl _ | omega | (simp; done) | (simp; omega))) | (with_reducible refine bt ?_ (by with_reducible assumption))))); rintro e w9 ⟨rfl, hb9⟩))
  go_upto_region 8 with (first
    | (go_at_call 54; (with_reducible refine (CE.out _).mono ?_); rintro e w10 ⟨rfl, hb10⟩)
    | (go_at_call 29; (with_reducible refine (CP1.out _ ?_ ?_ ?_).mono ?_); (· exact HH.out.later (by repeat (first | (with_reducible exact Below.refl _ _) | (with_reducible assumption) | (with_reducible refine ba ?_) | (with_reducible refine bd ?_) | (with_reducible refine bdn ?_ _) | (with_reducible refine bset ?_ (by first | exact Nat.le_refl _ | omega | (simp; done) | (simp; omega))) | (with_reducible refine bt ?_ (by with_reducible assumption))))); (· exact HT.out.later (by repeat (first | (with_reducible exact Below.refl _ _) | (with_reducible assumption) | (with_reducible refine ba ?_) | (with_reducible refine bd ?_) | (with_reducible refine bdn ?_ _) | (with_reducible refine bset ?_ (by first | exact Nat.le_refl _ | omega | (simp; done) | (simp; omega))) | (with_reducible refine bt ?_ (by with_reducible assumption))))); (· exact HS.out.later (by repeat (first | (with_reducible exact Below.refl _ _) | (with_reducible assumption) | (with_reducible refine ba ?_) | (with_reducible refine bd ?_) | (with_reducible refine bdn ?_ _) | (with_reducible refine bset ?_ (by first | exact Nat.le_refl _ | omega | (simp; done) | (simp; omega))) | (with_reducible refine bt ?_ (by with_reducible assumption))))); rintro e w11 ⟨rfl, hb11⟩))
  go_upto_region 9 with (first
    | (go_at_call 54; (with_reducible refine (CE.out _).mono ?_); rintro e w12 ⟨rfl, hb12⟩)
    | (go_at_call 27; (with_reducible refine (CN0.out _ ?_ ?_ ?_).mono ?_); (· exact HH.out.later (by repeat (first | (with_reducible exact Below.refl _ _) | (with_reducible assumption) | (with_reducible refine ba ?_) | (with_reducible refine bd ?_) | (with_reducible refine bdn ?_ _) | (with_reducible refine bset ?_ (by first | exact Nat.le_refl _ | omega | (simp; done) | (simp; omega))) | (with_reducible refine bt ?_ (by with_reducible assumption))))); (· exact HT.out.later (by repeat (first | (with_reducible exact Below.refl _ _) | (with_reducible assumption) | (with_reducible refine ba ?_) | (with_reducible refine bd ?_) | (with_reducible refine bdn ?_ _) | (with_reducible refine bset ?_ (by first | exact Nat.le_refl _ | omega | (simp; done) | (simp; omega))) | (with_reducible refine bt ?_ (by with_reducible assumption))))); (· exact HS.out.later (by repeat (first | (with_reducible exact Below.refl _ _) | (with_reducible assumption) | (with_reducible refine ba ?_) | (with_reducible refine bd ?_) | (with_reducible refine bdn ?_ _) | (with_reducible refine bset ?_ (by first | exact Nat.le_refl _ | omega | (simp; done) | (simp; omega))) | (with_reducible refine bt ?_ (by with_reducible assumption))))); rintro e w13 ⟨rfl, hb13⟩))
  go_upto_region 10 with (first
    | (go_at_call 54; (with_reducible refine (CE.out _).mono ?_); rintro e w14 ⟨rfl, hb14⟩)
    | (go_at_call 29; (with_reducible refine (CP0.out _ ?_ ?_ ?_).mono ?_); (· exact HH.out.later (by repeat (first | (with_reducible exact Below.refl _ _) | (with_reducible assumption) | (with_reducible refine ba ?_) | (with_reducible refine bd ?_) | (with_reducible refine bdn ?_ _) | (with_reducible refine bset ?_ (by first | exact Nat.le_refl _ | omega | (simp; done) | (simp; omega))) | (with_reducible refine bt ?_ (by with_reducible assumption))))); (· exact HT.out.later (by repeat (first | (with_reducible exact Below.refl _ _) | (with_reducible assumption) | (with_reducible refine ba ?_) | (with_reducible refine bd ?_) | (with_reducible refine bdn ?_ _) | (with_reducible refine bset ?_ (by first | exact Nat.le_refl _ | omega | (simp; done) | (simp; omega))) | (with_reducible refine bt ?_ (by with_reducible assumption))))); (· exact HS.out.later (by repeat (first | (with_reducible exact Below.refl _ _) | (with_reducible assumption) | (with_reducible refine ba ?_) | (with_reducible refine bd ?_) | (with_reducible refine bdn ?_ _) | (with_reducible refine bset ?_ (by first | exact Nat.le_refl _ | omega | (simp; done) | (simp; omega))) | (with_reducible refine bt ?_ (by with_reducible assumption))))); rintro e w15 ⟨rfl, hb15⟩))
  go_upto_region 11 with (go_at_call 27; (with_reducible refine (CNX.out _ ?_ ?_ ?_).mono ?_); (· exact HH.out.later (by repeat (first | (with_reducible exact Below.refl _ _) | (with_reducible assumption) | (with_reducible refine ba ?_) | (with_reducible refine bd ?_) | (with_reducible refine bdn ?_ _) | (with_reducible refine bset ?_ (by first | exact Nat.le_refl _ | omega | (simp; done) | (simp; omega))) | (with_reducible refine bt ?_ (by with_reducible assumption))))); (· exact HT.out.later (by repeat (first | (with_reducible exact Below.refl _ _) | (with_reducible assumption) | (with_reducible refine ba ?_) | (with_reducible refine bd ?_) | (with_reducible refine bdn ?_ _) | (with_reducible refine bset ?_ (by first | exact Nat.le_refl _ | omega | (simp; done) | (simp; omega))) | (with_reducible refine bt ?_ (by with_reducible assumption))))); (· exact HS.out.later (by repeat (first | (with_reducible exact Below.refl _ _) | (with_reducible assumption) | (with_reducible refine ba ?_) | (with_reducible refine bd ?_) | (with_reducible refine bdn ?_ _) | (with_reducible refine bset ?_ (by first | exact Nat.le_refl _ | omega | (simp; done) | (simp; omega))) | (with_reducible refine bt ?_ (by with_reducible assumption))))); rintro e w16 ⟨rfl, hb16⟩)
  replace b1 : Box w16 p1 #[.int .i64 (-14400), .int .i64 3600, .string { data := #[69, 68, 84] }] 58 := by repeat (first | (with_reducible assumption) | (with_reducible exact Box.new _ _ _) | (with_reducible refine Box.old ?_) | (with_reducible refine Box.drew ?_) | (with_reducible refine Box.drewN ?_ _) | (with_reducible refine Box.other ?_ (by first | assumption | omega | (simp; omega))) | (with_reducible refine Box.later ?_ (by with_reducible assumption)))
  replace b2 : Box w16 p2 #[.int .i64 (-18000), .int .i64 0, .string { data := #[69, 83, 84] }] 58 := by repeat (first | (with_reducible assumption) | (with_reducible exact Box.new _ _ _) | (with_reducible refine Box.old ?_) | (with_reducible refine Box.drew ?_) | (with_reducible refine Box.drewN ?_ _) | (with_reducible refine Box.other ?_ (by first | assumption | omega | (simp; omega))) | (with_reducible refine Box.later ?_ (by with_reducible assumption)))
  replace b3 : Box w16 p3 #[.int .i64 7200, .int .i64 3600, .string { data := #[43, 48, 50] }] 58 := by repeat (first | (with_reducible assumption) | (with_reducible exact Box.new _ _ _) | (with_reducible refine Box.old ?_) | (with_reducible refine Box.drew ?_) | (with_reducible refine Box.drewN ?_ _) | (with_reducible refine Box.other ?_ (by first | assumption | omega | (simp; omega))) | (with_reducible refine Box.later ?_ (by with_reducible assumption)))
  have k1 := b1.cell
  have l1 := b1.lt
  have k2 := b2.cell
  have l2 := b2.lt
  have k3 := b3.cell
  have l3 := b3.lt
  have hE : Below w1.heap.size w1 w16 := by repeat (first | (with_reducible exact Below.refl _ _) | (with_reducible assumption) | (with_reducible refine ba ?_) | (with_reducible refine bd ?_) | (with_reducible refine bdn ?_ _) | (with_reducible refine bset ?_ (by first | exact Nat.le_refl _ | omega | (simp; done) | (simp; omega))) | (with_reducible refine bt ?_ (by with_reducible assumption)))
  have HE := Lib.hid (HB0.out.trans (hE.mono HB0.out.size))
  clear b1 b2 b3 b4 hE hX4 hb8 hb9 hb10 hb11 hb12 hb13 hb14 hb15 hb16
  go_wp2
  go_ret
  exact ⟨rfl, HE.out⟩
end L33
end Go.Proofs.YtkpjhgkmjcdobaaGreatDoor
