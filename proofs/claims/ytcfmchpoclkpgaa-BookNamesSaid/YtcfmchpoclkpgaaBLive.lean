/-
  noontidelaw29.lives: answers that the document gives.
-/
import Derived.Test.YtcfmchpoclkpgaaBookQ
import Derived.Test.YtcfmchpoclkpgaaBNew
import Derived.Test.YtcfmchpoclkpgaaBTwice
import Derived.OrdersHeld
namespace Go.Proofs.Ytcfmchpoclkpgaa
open Go.RowKit NB
theorem HoldsG.of_box {α : Type} {k : Nat} {f : α → List Value} (hf : ∀ x, (f x).length = k) {W : World} {b : Nat} {l : List α} {t : TypeId} {cs : Array Value} (hc : cs = (l.flatMap f).toArray) (h : Box W b cs t) (hl : l.length ≤ 1000) (n c : Nat) (hn : n = l.length) : HoldsG k f W (.slice (some ⟨b, 0, none⟩) n c) l := by
  subst hn hc
  refine ⟨.inr ⟨b, 0, c, rfl, h.lt, fun i j cs v hi hj => ?_⟩, by omega⟩
  rw [List.getElem?_map] at hi
  obtain ⟨x, hx, rfl⟩ := Option.map_eq_some_iff.1 hi
  rw [h.cell, Nat.zero_add]
  simpa using flatG_at hf l i j x v hx hj
namespace BkL
abbrev sA : ByteArray := ⟨#[65]⟩
abbrev sB : ByteArray := ⟨#[66]⟩
abbrev sC : ByteArray := ⟨#[67]⟩
abbrev sD : ByteArray := ⟨#[68]⟩
def zA : List ZoneV := [⟨sA, .slice none 0 0, []⟩, ⟨sD, .slice none 0 0, []⟩]
def lA : List LinkV := [⟨sA, sC⟩, ⟨sC, sB⟩, ⟨⟨#[120]⟩, ⟨#[121]⟩⟩]
def lB : List LinkV := [⟨⟨#[97]⟩, ⟨#[98]⟩⟩, ⟨⟨#[98]⟩, ⟨#[97]⟩⟩]
def zC : List ZoneV := [⟨sA, .slice none 0 0, []⟩, ⟨sA, .slice none 0 0, []⟩]
def lC : List LinkV := [⟨⟨#[]⟩, sC⟩, ⟨⟨#[]⟩, sA⟩]
abbrev nA : List ByteArray := [sA, sD]
def l4 : List ByteArray := [sA, sB, sC, sD]
def l3 : List ByteArray := [sA, sB, sC]
theorem holds {W : World} {zs : List ZoneV} {ls : List LinkV} {zv lv : Value} (hz : HoldsG 2 ZoneV.cells W zv zs) (hl : HoldsG 2 LinkV.cells W lv ls) (hzf : ∀ x ∈ zs, x.name.size ≤ 9 ∧ x.v = .slice none 0 0 ∧ x.es = []) (hlf : ∀ x ∈ ls, x.name.size ≤ 9 ∧ x.target.size ≤ 9) : HoldsT W ⟨.slice none 0 0, zv, lv, [], zs, ls⟩ :=
  ⟨⟨.inl ⟨none, 0, rfl, rfl⟩, by simp, by simp⟩, hz, fun x hx => by
    obtain ⟨h1, h2, h3⟩ := hzf x hx
    exact ⟨by omega, by rw [h2, h3]; exact ⟨.inl ⟨none, 0, rfl, rfl⟩, by simp, by simp⟩⟩, hl, fun x hx => ⟨by have := (hlf x hx).2; omega, by have := (hlf x hx).1; omega⟩⟩
theorem holdsA {W : World} {b c : Nat} (hb : Box W b #[.string sA, .slice none 0 0, .string sD, .slice none 0 0] 56) (hc : Box W c #[.string sA, .string sC, .string sC, .string sB, .string ⟨#[120]⟩, .string ⟨#[121]⟩] 58) :
    HoldsT W ⟨.slice none 0 0, .slice (some ⟨b, 0, none⟩) 2 2, .slice (some ⟨c, 0, none⟩) 3 3, [], zA, lA⟩ :=
  holds (HoldsG.of_box (k := 2) (f := ZoneV.cells) (fun _ => rfl) rfl hb (by decide) _ _ rfl) (HoldsG.of_box (k := 2) (f := LinkV.cells) (fun _ => rfl) rfl hc (by decide) _ _ rfl) (by intro x hx; simp only [zA, List.mem_cons, List.not_mem_nil, or_false] at hx; rcases hx with rfl | rfl <;> exact ⟨by decide, rfl, rfl⟩)
    (by intro x hx; simp only [lA, List.mem_cons, List.not_mem_nil, or_false] at hx; rcases hx with rfl | rfl | rfl <;> exact ⟨by decide, by decide⟩)
theorem holdsB {W : World} {c : Nat} (hc : Box W c #[.string ⟨#[97]⟩, .string ⟨#[98]⟩, .string ⟨#[98]⟩, .string ⟨#[97]⟩] 58) :
    HoldsT W ⟨.slice none 0 0, .slice none 0 0, .slice (some ⟨c, 0, none⟩) 2 2, [], [], lB⟩ :=
  holds ⟨.inl ⟨none, 0, rfl, rfl⟩, by simp⟩ (HoldsG.of_box (k := 2) (f := LinkV.cells) (fun _ => rfl) rfl hc (by decide) _ _ rfl) (by intro x hx; cases hx) (by intro x hx; simp only [lB, List.mem_cons, List.not_mem_nil, or_false] at hx; rcases hx with rfl | rfl <;> exact ⟨by decide, by decide⟩)
theorem holdsC {W : World} {b c : Nat} (hb : Box W b #[.string sA, .slice none 0 0, .string sA, .slice none 0 0] 56) (hc : Box W c #[.string ⟨#[]⟩, .string sC, .string ⟨#[]⟩, .string sA] 58) :
    HoldsT W ⟨.slice none 0 0, .slice (some ⟨b, 0, none⟩) 2 2, .slice (some ⟨c, 0, none⟩) 2 2, [], zC, lC⟩ :=
  holds (HoldsG.of_box (k := 2) (f := ZoneV.cells) (fun _ => rfl) rfl hb (by decide) _ _ rfl) (HoldsG.of_box (k := 2) (f := LinkV.cells) (fun _ => rfl) rfl hc (by decide) _ _ rfl) (by intro x hx; simp only [zC, List.mem_cons, List.not_mem_nil, or_false] at hx; rcases hx with rfl | rfl <;> exact ⟨by decide, rfl, rfl⟩)
    (by intro x hx; simp only [lC, List.mem_cons, List.not_mem_nil, or_false] at hx; rcases hx with rfl | rfl <;> exact ⟨by decide, by decide⟩)
theorem newA {W : World} {b c : Nat} (hb : Box W b #[.string sA, .slice none 0 0, .string sD, .slice none 0 0] 56) (hc : Box W c #[.string sA, .string sC, .string sC, .string sB, .string ⟨#[120]⟩, .string ⟨#[121]⟩] 58) :
    Calls Try.prog 20 #[.agg #[.slice none 0 0, .slice (some ⟨b, 0, none⟩) 2 2, .slice (some ⟨c, 0, none⟩) 3 3]] W fun e w' => ∃ p, e = .returned (.pointer (some ⟨p, 0, none⟩)) ∧ BkW.At w' p nA lA ∧ Below W.heap.size W w' :=
  BkN.New (holdsA hb hc) (show zA.length ≤ _ by decide) (show lA.length ≤ _ by decide)
theorem newB {W : World} {c : Nat} (hc : Box W c #[.string ⟨#[97]⟩, .string ⟨#[98]⟩, .string ⟨#[98]⟩, .string ⟨#[97]⟩] 58) :
    Calls Try.prog 20 #[.agg #[.slice none 0 0, .slice none 0 0, .slice (some ⟨c, 0, none⟩) 2 2]] W fun e w' => ∃ p, e = .returned (.pointer (some ⟨p, 0, none⟩)) ∧ BkW.At w' p [] lB ∧ Below W.heap.size W w' :=
  BkN.New (holdsB hc) (show ([] : List ZoneV).length ≤ _ by decide) (show lB.length ≤ _ by decide)
theorem twA {W : World} {b c : Nat} (hb : Box W b #[.string sA, .slice none 0 0, .string sD, .slice none 0 0] 56) (hc : Box W c #[.string sA, .string sC, .string sC, .string sB, .string ⟨#[120]⟩, .string ⟨#[121]⟩] 58) :
    Calls Try.prog 23 #[.agg #[.slice none 0 0, .slice (some ⟨b, 0, none⟩) 2 2, .slice (some ⟨c, 0, none⟩) 3 3]] W fun e w' => e = .returned (.tuple #[.int .i64 (-1), .int .i64 (-1)]) ∧ Below W.heap.size W w' := by
  have h := BkW.Twice (holdsA hb hc) (show zA.length ≤ _ by decide) (show lA.length ≤ _ by decide)
  rwa [show RBk.twiceV (RBk.zn ⟨.slice none 0 0, .slice (some ⟨b, 0, none⟩) 2 2, .slice (some ⟨c, 0, none⟩) 3 3, [], zA, lA⟩) lA = .tuple #[.int .i64 (-1), .int .i64 (-1)] by
    unfold RBk.twiceV RBk.zn
    rw [show Bk.twice [] (zA.map ZoneV.name) = -1 by decide +kernel, show Bk.twice (zA.map ZoneV.name) (lA.map LinkV.name) = -1 by decide +kernel]] at h
theorem twC {W : World} {b c : Nat} (hb : Box W b #[.string sA, .slice none 0 0, .string sA, .slice none 0 0] 56) (hc : Box W c #[.string ⟨#[]⟩, .string sC, .string ⟨#[]⟩, .string sA] 58) :
    Calls Try.prog 23 #[.agg #[.slice none 0 0, .slice (some ⟨b, 0, none⟩) 2 2, .slice (some ⟨c, 0, none⟩) 2 2]] W fun e w' => e = .returned (.tuple #[.int .i64 1, .int .i64 1]) ∧ Below W.heap.size W w' := by
  have h := BkW.Twice (holdsC hb hc) (show zC.length ≤ _ by decide) (show lC.length ≤ _ by decide)
  rwa [show RBk.twiceV (RBk.zn ⟨.slice none 0 0, .slice (some ⟨b, 0, none⟩) 2 2, .slice (some ⟨c, 0, none⟩) 2 2, [], zC, lC⟩) lC = .tuple #[.int .i64 1, .int .i64 1] by
    unfold RBk.twiceV RBk.zn
    rw [show Bk.twice [] (zC.map ZoneV.name) = 1 by decide +kernel, show Bk.twice (zC.map ZoneV.name) (lC.map LinkV.name) = 1 by decide +kernel]] at h
theorem find {W : World} {p : Nat} {zs : List ByteArray} {ls : List LinkV} (h : BkW.At W p zs ls) (hz : zs.length ≤ 1000) (hl : ls.length ≤ 1000) (hf : ∀ x ∈ ls, x.target.size ≤ 9223372036854775807) (s : ByteArray) (hs : s.size ≤ 9223372036854775807) :
    Calls Try.prog 21 #[.pointer (some ⟨p, 0, none⟩), .string s] W fun e w' => e = .returned (RBk.pairV (Bk.find zs ls s)) ∧ W = w' := by
  obtain ⟨bz, bn, ab, vs, h1, h2, h3, _⟩ := h
  exact BkW.Find ⟨_, _, _, h1, h2, h3⟩ (by omega) (by omega) hf s hs
theorem fitA : ∀ x ∈ lA, x.target.size ≤ 9223372036854775807 := by intro x hx; simp only [lA, List.mem_cons, List.not_mem_nil, or_false] at hx; rcases hx with rfl | rfl | rfl <;> decide
theorem fitB : ∀ x ∈ lB, x.target.size ≤ 9223372036854775807 := by intro x hx; simp only [lB, List.mem_cons, List.not_mem_nil, or_false] at hx; rcases hx with rfl | rfl <;> decide
theorem f1 {W : World} {p : Nat} (h : BkW.At W p nA lA) : Calls Try.prog 21 #[.pointer (some ⟨p, 0, none⟩), .string ⟨#[66]⟩] W fun e w' => e = .returned (.tuple #[.int .i64 0, .int .i64 0]) ∧ W = w' := by
  have := find h (by decide) (by decide) fitA ⟨#[66]⟩ (by decide)
  rwa [show Bk.find nA lA ⟨#[66]⟩ = (0, 0) by decide +kernel] at this
theorem f2 {W : World} {p : Nat} (h : BkW.At W p nA lA) : Calls Try.prog 21 #[.pointer (some ⟨p, 0, none⟩), .string ⟨#[68]⟩] W fun e w' => e = .returned (.tuple #[.int .i64 1, .int .i64 0]) ∧ W = w' := by
  have := find h (by decide) (by decide) fitA ⟨#[68]⟩ (by decide)
  rwa [show Bk.find nA lA ⟨#[68]⟩ = (1, 0) by decide +kernel] at this
theorem f3 {W : World} {p : Nat} (h : BkW.At W p nA lA) : Calls Try.prog 21 #[.pointer (some ⟨p, 0, none⟩), .string ⟨#[121]⟩] W fun e w' => e = .returned (.tuple #[.int .i64 0, .int .i64 12]) ∧ W = w' := by
  have := find h (by decide) (by decide) fitA ⟨#[121]⟩ (by decide)
  rwa [show Bk.find nA lA ⟨#[121]⟩ = (0, 12) by decide +kernel] at this
theorem f4 {W : World} {p : Nat} (h : BkW.At W p nA lA) : Calls Try.prog 21 #[.pointer (some ⟨p, 0, none⟩), .string ⟨#[]⟩] W fun e w' => e = .returned (.tuple #[.int .i64 0, .int .i64 12]) ∧ W = w' := by
  have := find h (by decide) (by decide) fitA ⟨#[]⟩ (by decide)
  rwa [show Bk.find nA lA ⟨#[]⟩ = (0, 12) by decide +kernel] at this
theorem f5 {W : World} {p : Nat} (h : BkW.At W p [] lB) : Calls Try.prog 21 #[.pointer (some ⟨p, 0, none⟩), .string ⟨#[97]⟩] W fun e w' => e = .returned (.tuple #[.int .i64 0, .int .i64 13]) ∧ W = w' := by
  have := find h (by decide) (by decide) fitB ⟨#[97]⟩ (by decide)
  rwa [show Bk.find [] lB ⟨#[97]⟩ = (0, 13) by decide +kernel] at this
theorem rn : Bk.rnames nA lA = l4 := by
  obtain ⟨h1, h2⟩ := Bk.rnames_spec nA lA
  refine Bk.rising_eq h1 (by unfold Bk.Rising Bk.lt l4; decide +kernel) (fun x => ?_)
  rw [h2]
  constructor
  · rintro ⟨hx, h0⟩
    simp only [nA, lA, List.map_cons, List.map_nil, List.cons_append, List.nil_append, List.mem_cons, List.not_mem_nil, or_false] at hx
    rcases hx with rfl | rfl | rfl | rfl | rfl
    · simp [l4]
    · simp [l4]
    · simp [l4]
    · simp [l4]
    · exact absurd h0 (by decide +kernel)
  · intro hx
    simp only [l4, List.mem_cons, List.not_mem_nil, or_false] at hx
    rcases hx with rfl | rfl | rfl | rfl
    · exact ⟨by simp [nA, lA], by decide +kernel⟩
    · exact ⟨by simp [nA, lA], by decide +kernel⟩
    · exact ⟨by simp [nA, lA], by decide +kernel⟩
    · exact ⟨by simp [nA, lA], by decide +kernel⟩
theorem names {W : World} {p : Nat} (h : BkW.At W p nA lA) : Calls Try.prog 26 #[.pointer (some ⟨p, 0, none⟩)] W fun e w' => ∃ v', e = .returned v' ∧ OwnS w' W.heap.size v' l4 ∧ Below W.heap.size W w' := by
  have := BkW.Names h (by decide) (Nat.le_trans (Bk.pall_len nA lA) (by decide))
  rwa [Bk.names_eq, rn] at this
theorem al {W : World} {p : Nat} (h : BkW.At W p nA lA) (z : Int) (l : List ByteArray) (hl : l4.filter (fun s => decide ((Bk.find nA lA s).1 = z)) = l) : Calls Try.prog 28 #[.pointer (some ⟨p, 0, none⟩), .int .i64 z] W fun e w' => ∃ v', e = .returned v' ∧ OwnS w' W.heap.size v' l ∧ Below W.heap.size W w' := by
  have := BkW.Alias h (by decide) (Nat.le_trans (Bk.keys_len nA lA) (by decide)) z
  rw [Bk.alias_eq] at this
  unfold Bk.ralias at this
  rwa [rn, hl] at this
theorem alias0 {W : World} {p : Nat} (h : BkW.At W p nA lA) : Calls Try.prog 28 #[.pointer (some ⟨p, 0, none⟩), .int .i64 0] W fun e w' => ∃ v', e = .returned v' ∧ OwnS w' W.heap.size v' l3 ∧ Below W.heap.size W w' := al h 0 l3 (by decide +kernel)
theorem empty_al {W : World} {p : Nat} {z : Int} (h : Calls Try.prog 28 #[.pointer (some ⟨p, 0, none⟩), .int .i64 z] W fun e w' => ∃ v', e = .returned v' ∧ OwnS w' W.heap.size v' [] ∧ Below W.heap.size W w') :
    Calls Try.prog 28 #[.pointer (some ⟨p, 0, none⟩), .int .i64 z] W fun e w' => ∃ q c, e = .returned (.slice q 0 c) ∧ Below W.heap.size W w' := h.mono (by
  rintro e w' ⟨v', rfl, ho, hb⟩
  obtain ⟨q, c, rfl⟩ := Grp.own_form ho
  exact ⟨q, c, rfl, hb⟩)
theorem alias2 {W : World} {p : Nat} (h : BkW.At W p nA lA) : Calls Try.prog 28 #[.pointer (some ⟨p, 0, none⟩), .int .i64 2] W fun e w' => ∃ q c, e = .returned (.slice q 0 c) ∧ Below W.heap.size W w' := empty_al (al h 2 [] (by decide +kernel))
theorem aliasN {W : World} {p : Nat} (h : BkW.At W p nA lA) : Calls Try.prog 28 #[.pointer (some ⟨p, 0, none⟩), .int .i64 (-1)] W fun e w' => ∃ q c, e = .returned (.slice q 0 c) ∧ Below W.heap.size W w' := empty_al (al h (-1) [] (by decide +kernel))
theorem same4 {W : World} {u v : Value} (h : HoldsS W u l4) (h' : HoldsS W v l4) : Calls Try.prog 25 #[u, v] W fun e w' => e = .returned (.bool true) ∧ Below W.heap.size W w' := by
  have := Strs.Same h h'
  rwa [decide_eq_true rfl] at this
theorem same3 {W : World} {u v : Value} (h : HoldsS W u l3) (h' : HoldsS W v l3) : Calls Try.prog 25 #[u, v] W fun e w' => e = .returned (.bool true) ∧ Below W.heap.size W w' := by
  have := Strs.Same h h'
  rwa [decide_eq_true rfl] at this
theorem l4_h {W : World} {b : Nat} {t : TypeId} (h : Box W b #[.string ⟨#[65]⟩, .string ⟨#[66]⟩, .string ⟨#[67]⟩, .string ⟨#[68]⟩] t) : HoldsS W (.slice (some ⟨b, 0, none⟩) 4 4) l4 := HoldsG.of_box (k := 1) (f := strc) (fun _ => rfl) rfl h (by decide) _ _ rfl
theorem l3_h {W : World} {b : Nat} {t : TypeId} (h : Box W b #[.string ⟨#[65]⟩, .string ⟨#[66]⟩, .string ⟨#[67]⟩] t) : HoldsS W (.slice (some ⟨b, 0, none⟩) 3 3) l3 := HoldsG.of_box (k := 1) (f := strc) (fun _ => rfl) rfl h (by decide) _ _ rfl
theorem boxN {X : World} {n : Nat} {cs : Array Value} {t : TypeId} (h : X.heap.size = n) : Box (X.alloc (.cells cs t)) n cs t := by subst h; exact Box.new _ _ _
set_option maxRecDepth 100000 in
set_option maxHeartbeats 25600000 in
theorem lives (w : World) : Calls Try.prog 19 #[] w fun e w' => e = .returned (.bool true) ∧ Below w.heap.size w w' := by
  go_enter Try.func19, Try.ntmps19
  go_wp2_with (first | fail)
  refine (newA (b := w.heap.size) (c := w.heap.size + 1) ((Box.new w _ _).old.old) ((boxN (by simp)).old)).mono ?_
  rintro e w1 ⟨p, rfl, hAt, hb1⟩
  have HT : Box w1 (w.heap.size + 1 + 1) _ _ := Box.later (boxN (by simp)) hb1
  have hZ : Box w1 w.heap.size _ _ := Box.later ((Box.new w _ _).old.old) hb1
  have hL : Box w1 (w.heap.size + 1) _ _ := Box.later ((boxN (by simp)).old) hb1
  replace hb1 : Below w.heap.size w w1 := by repeat (first | (with_reducible exact Below.refl _ _) | (with_reducible assumption) | (with_reducible refine ba ?_) | (with_reducible refine bd ?_) | (with_reducible refine bdn ?_ _) | (with_reducible refine bset ?_ (by first | exact Nat.le_refl _ | omega | (simp; done) | (simp; omega))) | (with_reducible refine bt ?_ (by with_reducible assumption)))
  go_wp2_with (first | fail)
  (with_reducible refine (f1 hAt).mono ?_)
  rintro e w' ⟨rfl, rfl⟩
  go_wp2_with (first | fail)
  (with_reducible refine (f2 hAt).mono ?_)
  rintro e w' ⟨rfl, rfl⟩
  go_wp2_with (first | fail)
  (with_reducible refine (f3 hAt).mono ?_)
  rintro e w' ⟨rfl, rfl⟩
  go_wp2_with (first | fail)
  (with_reducible refine (f4 hAt).mono ?_)
  rintro e w' ⟨rfl, rfl⟩
  go_wp2_with (first | fail)
  refine (newB (Box.new _ _ _)).mono ?_
  rintro e w2 ⟨p2, rfl, hAt2, hb2⟩
  have hbw : Below w1.heap.size w1 w2 := by repeat (first | (with_reducible exact Below.refl _ _) | (with_reducible assumption) | (with_reducible refine ba ?_) | (with_reducible refine bd ?_) | (with_reducible refine bdn ?_ _) | (with_reducible refine bset ?_ (by first | exact Nat.le_refl _ | omega | (simp; done) | (simp; omega))) | (with_reducible refine bt ?_ (by with_reducible assumption)))
  replace HT := HT.later hbw
  replace hZ := hZ.later hbw
  replace hL := hL.later hbw
  replace hAt := hAt.later hbw
  replace hb1 : Below w.heap.size w w2 := by repeat (first | (with_reducible exact Below.refl _ _) | (with_reducible assumption) | (with_reducible refine ba ?_) | (with_reducible refine bd ?_) | (with_reducible refine bdn ?_ _) | (with_reducible refine bset ?_ (by first | exact Nat.le_refl _ | omega | (simp; done) | (simp; omega))) | (with_reducible refine bt ?_ (by with_reducible assumption)))
  clear hb2 hbw
  have c0 := HT.cell 0
  have c1 := HT.cell 1
  have c2 := HT.cell 2
  simp only [List.getElem?_toArray, List.getElem?_cons_zero, List.getElem?_cons_succ] at c0 c1 c2
  go_wp2_with (first | fail)
  (with_reducible refine (f5 hAt2).mono ?_)
  rintro e w' ⟨rfl, rfl⟩
  go_wp2_with (first | fail)
  refine (twA hZ hL).mono ?_
  rintro e w3 ⟨rfl, hb3⟩
  go_wp2_with (first | fail)
  refine (twC (b := w3.heap.size) (c := w3.heap.size + 1) ((Box.new w3 _ _).old) (boxN (by simp))).mono ?_
  rintro e w4 ⟨rfl, hb4⟩
  go_wp2_with (first | fail)
  refine (BkW.FindNil _ _).mono ?_
  rintro e w5 ⟨rfl, rfl⟩
  replace hAt := hAt.later (V := w4) (by repeat (first | (with_reducible exact Below.refl _ _) | (with_reducible assumption) | (with_reducible refine ba ?_) | (with_reducible refine bd ?_) | (with_reducible refine bdn ?_ _) | (with_reducible refine bset ?_ (by first | exact Nat.le_refl _ | omega | (simp; done) | (simp; omega))) | (with_reducible refine bt ?_ (by with_reducible assumption))))
  replace hb1 : Below w.heap.size w w4 := by repeat (first | (with_reducible exact Below.refl _ _) | (with_reducible assumption) | (with_reducible refine ba ?_) | (with_reducible refine bd ?_) | (with_reducible refine bdn ?_ _) | (with_reducible refine bset ?_ (by first | exact Nat.le_refl _ | omega | (simp; done) | (simp; omega))) | (with_reducible refine bt ?_ (by with_reducible assumption)))
  clear hb3 hb4 HT hZ hL hAt2 c0 c1 c2
  go_wp2_with (first | fail)
  refine (names hAt).mono ?_
  rintro e w5 ⟨vA, rfl, hownA, hbA⟩
  replace hAt := hAt.later hbA
  replace hb1 : Below w.heap.size w w5 := by repeat (first | (with_reducible exact Below.refl _ _) | (with_reducible assumption) | (with_reducible refine ba ?_) | (with_reducible refine bd ?_) | (with_reducible refine bdn ?_ _) | (with_reducible refine bset ?_ (by first | exact Nat.le_refl _ | omega | (simp; done) | (simp; omega))) | (with_reducible refine bt ?_ (by with_reducible assumption)))
  clear hbA
  go_wp2_with (first | fail)
  refine (same4 (HoldsG.later (HoldsS.of_own hownA) (ba (Below.refl _ _))) (l4_h (Box.new _ _ _))).mono ?_
  rintro e w6 ⟨rfl, hbA⟩
  replace hAt := hAt.later (V := w6) (by repeat (first | (with_reducible exact Below.refl _ _) | (with_reducible assumption) | (with_reducible refine ba ?_) | (with_reducible refine bd ?_) | (with_reducible refine bdn ?_ _) | (with_reducible refine bset ?_ (by first | exact Nat.le_refl _ | omega | (simp; done) | (simp; omega))) | (with_reducible refine bt ?_ (by with_reducible assumption))))
  replace hb1 : Below w.heap.size w w6 := by repeat (first | (with_reducible exact Below.refl _ _) | (with_reducible assumption) | (with_reducible refine ba ?_) | (with_reducible refine bd ?_) | (with_reducible refine bdn ?_ _) | (with_reducible refine bset ?_ (by first | exact Nat.le_refl _ | omega | (simp; done) | (simp; omega))) | (with_reducible refine bt ?_ (by with_reducible assumption)))
  clear hbA hownA
  go_wp2_with (first | fail)
  refine (alias0 hAt).mono ?_
  rintro e w7 ⟨vB, rfl, hownB, hbA⟩
  replace hAt := hAt.later hbA
  replace hb1 : Below w.heap.size w w7 := by repeat (first | (with_reducible exact Below.refl _ _) | (with_reducible assumption) | (with_reducible refine ba ?_) | (with_reducible refine bd ?_) | (with_reducible refine bdn ?_ _) | (with_reducible refine bset ?_ (by first | exact Nat.le_refl _ | omega | (simp; done) | (simp; omega))) | (with_reducible refine bt ?_ (by with_reducible assumption)))
  clear hbA
  go_wp2_with (first | fail)
  refine (same3 (HoldsG.later (HoldsS.of_own hownB) (ba (Below.refl _ _))) (l3_h (Box.new _ _ _))).mono ?_
  rintro e w8 ⟨rfl, hbA⟩
  replace hAt := hAt.later (V := w8) (by repeat (first | (with_reducible exact Below.refl _ _) | (with_reducible assumption) | (with_reducible refine ba ?_) | (with_reducible refine bd ?_) | (with_reducible refine bdn ?_ _) | (with_reducible refine bset ?_ (by first | exact Nat.le_refl _ | omega | (simp; done) | (simp; omega))) | (with_reducible refine bt ?_ (by with_reducible assumption))))
  replace hb1 : Below w.heap.size w w8 := by repeat (first | (with_reducible exact Below.refl _ _) | (with_reducible assumption) | (with_reducible refine ba ?_) | (with_reducible refine bd ?_) | (with_reducible refine bdn ?_ _) | (with_reducible refine bset ?_ (by first | exact Nat.le_refl _ | omega | (simp; done) | (simp; omega))) | (with_reducible refine bt ?_ (by with_reducible assumption)))
  clear hbA hownB
  go_wp2_with (first | fail)
  refine (alias2 hAt).mono ?_
  rintro e w9 ⟨qC, cC, rfl, hbA⟩
  replace hAt := hAt.later hbA
  replace hb1 : Below w.heap.size w w9 := by repeat (first | (with_reducible exact Below.refl _ _) | (with_reducible assumption) | (with_reducible refine ba ?_) | (with_reducible refine bd ?_) | (with_reducible refine bdn ?_ _) | (with_reducible refine bset ?_ (by first | exact Nat.le_refl _ | omega | (simp; done) | (simp; omega))) | (with_reducible refine bt ?_ (by with_reducible assumption)))
  clear hbA
  go_wp2_with (first | fail)
  refine (aliasN hAt).mono ?_
  rintro e w10 ⟨qD, cD, rfl, hbA⟩
  replace hAt := hAt.later hbA
  replace hb1 : Below w.heap.size w w10 := by repeat (first | (with_reducible exact Below.refl _ _) | (with_reducible assumption) | (with_reducible refine ba ?_) | (with_reducible refine bd ?_) | (with_reducible refine bdn ?_ _) | (with_reducible refine bset ?_ (by first | exact Nat.le_refl _ | omega | (simp; done) | (simp; omega))) | (with_reducible refine bt ?_ (by with_reducible assumption)))
  clear hbA
  go_wp2_with (first | fail)
  refine (BkW.NamesNil _).mono ?_
  rintro e w11 ⟨rfl, rfl⟩
  go_wp2_with (first | fail)
  refine (BkW.AliasNil _ _).mono ?_
  rintro e w12 ⟨rfl, rfl⟩
  go_wp2
  go_ret
  exact ⟨rfl, by repeat (first | (with_reducible exact Below.refl _ _) | (with_reducible assumption) | (with_reducible refine ba ?_) | (with_reducible refine bd ?_) | (with_reducible refine bdn ?_ _) | (with_reducible refine bset ?_ (by first | exact Nat.le_refl _ | omega | (simp; done) | (simp; omega))) | (with_reducible refine bt ?_ (by with_reducible assumption)))⟩
end BkL
end Go.Proofs.Ytcfmchpoclkpgaa
