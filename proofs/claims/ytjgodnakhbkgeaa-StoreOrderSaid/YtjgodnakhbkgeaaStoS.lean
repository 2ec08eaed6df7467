/-
  A store as it lies in memory, and its readers: place, at, Find, Near, List, Len.
-/
import Derived.Test.YtjgodnakhbkgeaaStoW
namespace Go.Proofs.Ytjgodnakhbkgeaa
open Go.RowKit NB OW
/-- w' is w, but for blocks of S, and new ones -/
structure Onl (S : Nat → Prop) (w w' : World) : Prop where
  os : w'.os = w.os
  tape : w'.tape = w.tape
  output : w'.output = w.output
  size : w.heap.size ≤ w'.heap.size
  block : ∀ i, i < w.heap.size → ¬ S i → w'.heap[i]? = w.heap[i]?
namespace Onl
variable {S T : Nat → Prop} {w w1 w' : World}
theorem of_below (h : Below w.heap.size w w') : Onl S w w' := ⟨h.os, h.tape, h.output, h.size, fun i hi _ => h.block i hi⟩
theorem of_grown {row : Option Nat} (h : w.grownBy w' row) (hr : ∀ g, row = some g → S g) : Onl S w w' :=
  ⟨h.os, h.tape, h.output, h.size, fun i hi hs => h.block i hi fun e => hs (hr i e.symm)⟩
theorem trans (h : Onl S w w1) (k : Onl T w1 w') (hst : ∀ i, i < w.heap.size → T i → S i) : Onl S w w' :=
  ⟨k.os.trans h.os, k.tape.trans h.tape, k.output.trans h.output, Nat.le_trans h.size k.size,
    fun i hi hs => (k.block i (Nat.lt_of_lt_of_le hi h.size) fun ht => hs (hst i hi ht)).trans (h.block i hi hs)⟩
theorem setCell (h : Onl S w w') {b o : Nat} {v : Value} (hb : S b ∨ w.heap.size ≤ b) : Onl S w (w'.setCell ⟨b, o, none⟩ v) :=
  ⟨h.os, h.tape, h.output, by simpa [World.setCell] using h.size, fun i hi hs => (Below.heap_setCell w' ⟨b, o, none⟩ v i (by
    rintro rfl
    rcases hb with hb | hb
    · exact hs hb
    · exact absurd hi (Nat.not_lt.2 hb))).trans (h.block i hi hs)⟩
theorem mono (h : Onl S w w') (hst : ∀ i, i < w.heap.size → S i → T i) : Onl T w w' := ⟨h.os, h.tape, h.output, h.size, fun i hi hs => h.block i hi fun e => hs (hst i hi e)⟩
theorem below {B : Nat} (h : Onl S w w') (hB : B ≤ w.heap.size) (hs : ∀ i, S i → B ≤ i) : Below B w w' :=
  ⟨h.os, h.tape, h.output, h.size, fun i hi => h.block i (Nat.lt_of_lt_of_le hi hB) fun e => absurd (hs i e) (by omega)⟩
theorem box {b : Nat} {cs : Array Value} {t : TypeId} (h : Onl S w w') (hb : Box w b cs t) (hs : ¬ S b) : Box w' b cs t := (h.block b hb.lt hs).trans hb
theorem own {base e k n : Nat} {v : Value} {xs : List Value} (h : Onl S w w') (ho : w.ownsRow base e k v n xs) (hs : ∀ g, v.ownBlock = some g → ¬ S g) : w'.ownsRow base e k v n xs := by
  refine ⟨ho.1, ?_⟩
  rcases ho.2 with h1 | ⟨g, cap, cur, rfl, h2, h3, h4⟩
  · exact .inl h1
  · exact .inr ⟨g, cap, cur, rfl, h2, (h.block g (Array.getElem?_eq_some_iff.1 h3).1 (hs g rfl)).trans h3, h4⟩
end Onl
theorem own_later {w w' : World} {base e k n : Nat} {v : Value} {xs : List Value} (ho : w.ownsRow base e k v n xs) (h : Below w.heap.size w w') : w'.ownsRow base e k v n xs :=
  (Onl.of_below (S := fun _ => False) h).own ho (fun _ _ e => e)
theorem own_old {w : World} {base e k n : Nat} {v : Value} {xs : List Value} {o : Obj} (ho : w.ownsRow base e k v n xs) : (w.alloc o).ownsRow base e k v n xs := ho.alloc o
theorem own_drew {w : World} {base e k n : Nat} {v : Value} {xs : List Value} (ho : w.ownsRow base e k v n xs) : w.drew.ownsRow base e k v n xs := ho
theorem own_drewN {w : World} {base e k n : Nat} {v : Value} {xs : List Value} (ho : w.ownsRow base e k v n xs) (m : Nat) : (w.drewN m).ownsRow base e k v n xs := ho
theorem own_far {w : World} {base e k n b o : Nat} {v u : Value} {xs : List Value} (ho : w.ownsRow base e k v n xs) (hb : v.ownBlock ≠ some b) : (w.setCell ⟨b, o, none⟩ u).ownsRow base e k v n xs :=
  ((Onl.of_below (S := fun j => j = b) (Below.refl w.heap.size w)).setCell (b := b) (o := o) (v := u) (.inl rfl)).own ho (fun g hg e => hb (by rw [hg, e]))
theorem Box.set5 {X : World} {b : Nat} {a0 a1 a2 a3 a4 b0 b1 b2 b3 b4 : Value} {t : TypeId} (h : Box X b #[a0, a1, a2, a3, a4] t) :
    Box (((((X.setCell ⟨b, 0, none⟩ b0).setCell ⟨b, 1, none⟩ b1).setCell ⟨b, 2, none⟩ b2).setCell ⟨b, 3, none⟩ b3).setCell ⟨b, 4, none⟩ b4) b #[b0, b1, b2, b3, b4] t :=
  ((((h.set (j := 0) (v := b0)).set (j := 1) (v := b1)).set (j := 2) (v := b2)).set (j := 3) (v := b3)).set (j := 4) (v := b4)
namespace Sto
structure SS (w : World) (base b : Nat) (room : Int) (v : Value) (l : List InfoV) : Prop where
  box : Box w b #[.int .i64 room, v] 113
  own : w.ownsRow base 50 5 v l.length (l.flatMap InfoV.cells)
  bb : base ≤ b
  ord : Ord l
  len : (l.length : Int) ≤ room
  r0 : 1 ≤ room
  r1 : room ≤ 65536
theorem SS.keep {S : Nat → Prop} {w w' : World} {base b : Nat} {room : Int} {v : Value} {l : List InfoV} (h : SS w base b room v l) (ho : Onl S w w') (hb : ¬ S b) (hs : ∀ g, v.ownBlock = some g → ¬ S g) : SS w' base b room v l :=
  ⟨ho.box h.box hb, ho.own h.own hs, h.bb, h.ord, h.len, h.r0, h.r1⟩
theorem SS.later {w w' : World} {base b : Nat} {room : Int} {v : Value} {l : List InfoV} (h : SS w base b room v l) (hb : Below w.heap.size w w') : SS w' base b room v l :=
  h.keep (S := fun _ => False) (Onl.of_below hb) (fun h => h) (fun _ _ h => h)
theorem SS.n {w : World} {base b : Nat} {room : Int} {v : Value} {l : List InfoV} (h : SS w base b room v l) : l.length ≤ 65536 := by
  have := h.len; have := h.r1; omega
theorem own_cells {w : World} {base g cap : Nat} {l : List InfoV} (h : w.ownsRow base 50 5 (.slice (some ⟨g, 0, none⟩) l.length cap) l.length (l.flatMap InfoV.cells)) {k : Nat} {x : InfoV} (hx : l[k]? = some x) :
    w.cell? ⟨g, k * 5, none⟩ = some (.int .i64 x.fr) ∧ w.cell? ⟨g, k * 5 + 1, none⟩ = some (.int .i64 x.th) ∧ w.cell? ⟨g, k * 5 + 2, none⟩ = some (.int .i64 x.off) ∧ w.cell? ⟨g, k * 5 + 3, none⟩ = some (.int .i64 x.save) ∧ w.cell? ⟨g, k * 5 + 4, none⟩ = some (.string x.abbr) := by
  have hh := fun j v hv => h.cells (g := g) rfl (k * 5 + j) v (flatG_at (k := 5) (f := InfoV.cells) (fun _ => rfl) l k j x v hx hv)
  simp only [addr_add, Nat.zero_add] at hh
  exact ⟨hh 0 _ rfl, hh 1 _ rfl, hh 2 _ rfl, hh 3 _ rfl, hh 4 _ rfl⟩
theorem find_ways (l : List InfoV) (t : Int) : (l[place l t]? = none ∧ place l t = l.length ∧ findP l t = (none0, false)) ∨ ∃ x, l[place l t]? = some x ∧ place l t < l.length ∧ ((x.fr ≤ t ∧ findP l t = (x, true)) ∨ (¬ x.fr ≤ t ∧ findP l t = (none0, false))) := by
  unfold findP
  cases hx : l[place l t]? with
  | none =>
    left
    have := place_le l t
    have h2 := List.getElem?_eq_none_iff.1 hx
    exact ⟨rfl, by omega, rfl⟩
  | some x =>
    right
    refine ⟨x, rfl, (List.getElem?_eq_some_iff.1 hx).1, ?_⟩
    by_cases h : x.fr ≤ t
    · exact .inl ⟨h, by simp only [h, if_true]⟩
    · exact .inr ⟨h, by simp only [h, if_false]⟩
set_option maxRecDepth 100000 in
set_option maxHeartbeats 1600000 in
theorem placeW {w : World} {base b : Nat} {room : Int} {v : Value} {l : List InfoV} (h : SS w base b room v l) (t : Int) :
    Calls Try.prog 59 #[.pointer (some ⟨b, 0, none⟩), .int .i64 t] w fun e w' => e = .returned (.int .i64 (place l t)) ∧ Below w.heap.size w w' := by
  have hG := HoldsG.of_own (k := 5) (f := InfoV.cells) (fun _ => rfl) h.own
  obtain ⟨p, cap, rfl⟩ := hG.form
  have c := fun W (hb : Below w.heap.size w W) => search (hG.later hb) (by have := h.n; omega) h.ord t
  have C := Lib.hid c
  have k0 := h.box.cell 1
  have l0 := h.box.lt
  generalize place l t = q at *
  generalize l.length = n at *
  clear h hG c
  go_enter Try.func59, Try.ntmps59
  go_wp2_with (go_at_call 115; (with_reducible refine (C.out _ ?_).mono ?_); (· repeat (first | (with_reducible exact Below.refl _ _) | (with_reducible assumption) | (with_reducible refine ba ?_) | (with_reducible refine bd ?_) | (with_reducible refine bdn ?_ _) | (with_reducible refine bset ?_ (by first | exact Nat.le_refl _ | omega | (simp; done) | (simp; omega))) | (with_reducible refine bt ?_ (by with_reducible assumption)))); rintro e w1 ⟨rfl, hb1⟩; obtain ⟨hc1, hf1⟩ := bcell hb1)
  go_ret
  exact ⟨rfl, by repeat (first | (with_reducible exact Below.refl _ _) | (with_reducible assumption) | (with_reducible refine ba ?_) | (with_reducible refine bd ?_) | (with_reducible refine bdn ?_ _) | (with_reducible refine bset ?_ (by first | exact Nat.le_refl _ | omega | (simp; done) | (simp; omega))) | (with_reducible refine bt ?_ (by with_reducible assumption)))⟩
set_option maxHeartbeats 800000 in
theorem atNone (t : Int) (w : World) : Calls Try.prog 63 #[.pointer none, .int .i64 t] w fun e w' => e = .returned (.tuple #[.int .i64 0, .bool false]) ∧ Below w.heap.size w w' := by
  go_enter Try.func63, Try.ntmps63
  go_wp2
  go_ret2
  exact ⟨rfl, by repeat (first | (with_reducible exact Below.refl _ _) | (with_reducible assumption) | (with_reducible refine ba ?_) | (with_reducible refine bd ?_) | (with_reducible refine bdn ?_ _) | (with_reducible refine bset ?_ (by first | exact Nat.le_refl _ | omega | (simp; done) | (simp; omega))) | (with_reducible refine bt ?_ (by with_reducible assumption)))⟩
set_option maxRecDepth 100000 in
set_option maxHeartbeats 3200000 in
theorem at_ {w : World} {base b : Nat} {room : Int} {v : Value} {l : List InfoV} (h : SS w base b room v l) (t : Int) :
    Calls Try.prog 63 #[.pointer (some ⟨b, 0, none⟩), .int .i64 t] w fun e w' => e = .returned (.tuple #[.int .i64 (place l t), .bool (findP l t).2]) ∧ Below w.heap.size w w' := by
  have c := fun W (hb : Below w.heap.size w W) => placeW (h.later hb) t
  have C := Lib.hid c
  have hL := fun W (hb : Below w.heap.size w W) => h.later hb
  have k0 := h.box.cell 1
  have l0 := h.box.lt
  have n0 := h.n
  have H := Lib.hid h
  have ho := h.own
  clear c hL h
  rcases find_ways l t with ⟨hx, hp, hf⟩ | ⟨x, hx, hp, hf⟩
  · rw [hf]
    obtain ⟨p, cap, rfl⟩ := (HoldsG.of_own (k := 5) (f := InfoV.cells) (fun _ => rfl) ho).form
    have b1 : decide (place l t < l.length) = false := decide_eq_false (by omega)
    generalize place l t = q at *
    generalize l.length = n at *
    clear ho hx hp hf H
    go_enter Try.func63, Try.ntmps63
    go_wp2_with (go_at_call 59; (with_reducible refine (C.out _ ?_).mono ?_); (· repeat (first | (with_reducible exact Below.refl _ _) | (with_reducible assumption) | (with_reducible refine ba ?_) | (with_reducible refine bd ?_) | (with_reducible refine bdn ?_ _) | (with_reducible refine bset ?_ (by first | exact Nat.le_refl _ | omega | (simp; done) | (simp; omega))) | (with_reducible refine bt ?_ (by with_reducible assumption)))); rintro e w1 ⟨rfl, hb1⟩; obtain ⟨hc1, hf1⟩ := bcell hb1; have hc1_0 := fun o => hc1 (b) o (by first | assumption | omega | (simp; done) | (simp; omega)); have hf1_0 := fun o => hf1 (b) o (by first | assumption | omega | (simp; done) | (simp; omega)); clear hc1 hf1; have hz1_0 : b < w1.heap.size := (by first | exact sz1 hb1 | exact sz2 hb1 | exact sz3 hb1 | (have := hb1.size; (try simp only [World.size_alloc, World.size_drew] at this); omega)))
    go_quiet (fail)
    go_wp2
    go_ret2
    exact ⟨rfl, by repeat (first | (with_reducible exact Below.refl _ _) | (with_reducible assumption) | (with_reducible refine ba ?_) | (with_reducible refine bd ?_) | (with_reducible refine bdn ?_ _) | (with_reducible refine bset ?_ (by first | exact Nat.le_refl _ | omega | (simp; done) | (simp; omega))) | (with_reducible refine bt ?_ (by with_reducible assumption)))⟩
  · rcases ho.2 with ⟨rfl, hn0⟩ | ⟨g, cap, cur, rfl, hbg, hg, hnc, hcm, hsz, htk⟩
    · omega
    · obtain ⟨c0, c1, c2, c3, c4⟩ := own_cells ho hx
      have lg : g < w.heap.size := (Array.getElem?_eq_some_iff.1 hg).1
      have b1 : ((place l t : Nat) : Int) < (l.length : Int) := by omega
      rcases hf with ⟨hf1, hf⟩ | ⟨hf1, hf⟩
      all_goals
        rw [hf]
        generalize place l t = q at *
        generalize l.length = n at *
        clear ho hx hp hf H hg hsz htk
        go_enter Try.func63, Try.ntmps63
        go_wp2_with (go_at_call 59; (with_reducible refine (C.out _ ?_).mono ?_); (· repeat (first | (with_reducible exact Below.refl _ _) | (with_reducible assumption) | (with_reducible refine ba ?_) | (with_reducible refine bd ?_) | (with_reducible refine bdn ?_ _) | (with_reducible refine bset ?_ (by first | exact Nat.le_refl _ | omega | (simp; done) | (simp; omega))) | (with_reducible refine bt ?_ (by with_reducible assumption)))); rintro e w1 ⟨rfl, hb1⟩; obtain ⟨hc1, hf1⟩ := bcell hb1; have hc1_0 := fun o => hc1 (b) o (by first | assumption | omega | (simp; done) | (simp; omega)); have hf1_0 := fun o => hf1 (b) o (by first | assumption | omega | (simp; done) | (simp; omega)); have hc1_1 := fun o => hc1 (g) o (by first | assumption | omega | (simp; done) | (simp; omega)); have hf1_1 := fun o => hf1 (g) o (by first | assumption | omega | (simp; done) | (simp; omega)); clear hc1 hf1; have hz1_0 : b < w1.heap.size := (by first | exact sz1 hb1 | exact sz2 hb1 | exact sz3 hb1 | (have := hb1.size; (try simp only [World.size_alloc, World.size_drew] at this); omega)); have hz1_1 : g < w1.heap.size := (by first | exact sz1 hb1 | exact sz2 hb1 | exact sz3 hb1 | (have := hb1.size; (try simp only [World.size_alloc, World.size_drew] at this); omega)))
        go_quiet (fail)
        go_wp2
        go_ret2
        refine ⟨?_, by repeat (first | (with_reducible exact Below.refl _ _) | (with_reducible assumption) | (with_reducible refine ba ?_) | (with_reducible refine bd ?_) | (with_reducible refine bdn ?_ _) | (with_reducible refine bset ?_ (by first | exact Nat.le_refl _ | omega | (simp; done) | (simp; omega))) | (with_reducible refine bt ?_ (by with_reducible assumption)))⟩
        simp [hf1]
set_option maxHeartbeats 800000 in
theorem FindNone (t : Int) (w : World) : Calls Try.prog 26 #[.pointer none, .int .i64 t] w fun e w' => e = .returned (.tuple #[.agg none0.cells.toArray, .bool false]) ∧ Below w.heap.size w w' := by
  have C := Lib.hid (fun W => atNone t W)
  go_enter Try.func26, Try.ntmps26
  go_wp2_with (go_at_call 63; (with_reducible refine (C.out _).mono ?_); rintro e w1 ⟨rfl, hb1⟩; obtain ⟨hc1, hf1⟩ := bcell hb1; have hc1_0 := fun o => hc1 (w.heap.size) o (by first | assumption | omega | (simp; done) | (simp; omega)); have hf1_0 := fun o => hf1 (w.heap.size) o (by first | assumption | omega | (simp; done) | (simp; omega)); clear hc1 hf1; have hz1_0 : w.heap.size < w1.heap.size := (by first | exact sz1 hb1 | exact sz2 hb1 | exact sz3 hb1 | (have := hb1.size; (try simp only [World.size_alloc, World.size_drew] at this); omega)))
  refine bodyPost_ret (v := .tuple #[.agg #[.int .i64 0, .int .i64 0, .int .i64 0, .int .i64 0, .string ⟨#[]⟩], .bool false]) ?_ rfl ⟨rfl, ?_⟩
  · simp [results, Try.results26, go_sem, hc1_0]
  · repeat (first | (with_reducible exact Below.refl _ _) | (with_reducible assumption) | (with_reducible refine ba ?_) | (with_reducible refine bd ?_) | (with_reducible refine bdn ?_ _) | (with_reducible refine bset ?_ (by first | exact Nat.le_refl _ | omega | (simp; done) | (simp; omega))) | (with_reducible refine bt ?_ (by with_reducible assumption)))
set_option maxRecDepth 100000 in
set_option maxHeartbeats 3200000 in
theorem Find {w : World} {base b : Nat} {room : Int} {v : Value} {l : List InfoV} (h : SS w base b room v l) (t : Int) :
    Calls Try.prog 26 #[.pointer (some ⟨b, 0, none⟩), .int .i64 t] w fun e w' => e = .returned (.tuple #[.agg (findP l t).1.cells.toArray, .bool (findP l t).2]) ∧ Below w.heap.size w w' := by
  have c := fun W (hb : Below w.heap.size w W) => at_ (h.later hb) t
  have k0 := h.box.cell 1
  have l0 := h.box.lt
  have n0 := h.n
  have ho := h.own
  clear h
  rcases find_ways l t with ⟨hx, hp, hf⟩ | ⟨x, hx, hp, ⟨hf1, hf⟩ | ⟨hf1, hf⟩⟩
  case' inr.inl =>
    rcases ho.2 with ⟨rfl, hn0⟩ | ⟨g, cap, cur, rfl, hbg, hg, hnc, hcm, hsz, htk⟩
    · omega
    · obtain ⟨c0, c1, c2, c3, c4⟩ := own_cells ho hx
      have lg : g < w.heap.size := (Array.getElem?_eq_some_iff.1 hg).1
      have b1 : ((place l t : Nat) : Int) < (l.length : Int) := by omega
      rw [hf] at c ⊢
      unfold InfoV.cells
      have C := Lib.hid c
      generalize place l t = q at *
      generalize l.length = n at *
      clear ho hx hp hf c hg hsz htk
      go_enter Try.func26, Try.ntmps26
      go_wp2_with (go_at_call 63; (with_reducible refine (C.out _ ?_).mono ?_); (· repeat (first | (with_reducible exact Below.refl _ _) | (with_reducible assumption) | (with_reducible refine ba ?_) | (with_reducible refine bd ?_) | (with_reducible refine bdn ?_ _) | (with_reducible refine bset ?_ (by first | exact Nat.le_refl _ | omega | (simp; done) | (simp; omega))) | (with_reducible refine bt ?_ (by with_reducible assumption)))); rintro e w1 ⟨rfl, hb1⟩; obtain ⟨hc1, hf1⟩ := bcell hb1; have hc1_0 := fun o => hc1 (w.heap.size) o (by first | assumption | omega | (simp; done) | (simp; omega)); have hf1_0 := fun o => hf1 (w.heap.size) o (by first | assumption | omega | (simp; done) | (simp; omega)); have hc1_1 := fun o => hc1 (b) o (by first | assumption | omega | (simp; done) | (simp; omega)); have hf1_1 := fun o => hf1 (b) o (by first | assumption | omega | (simp; done) | (simp; omega)); have hc1_2 := fun o => hc1 (g) o (by first | assumption | omega | (simp; done) | (simp; omega)); have hf1_2 := fun o => hf1 (g) o (by first | assumption | omega | (simp; done) | (simp; omega)); clear hc1 hf1; have hz1_0 : w.heap.size < w1.heap.size := (by first | exact sz1 hb1 | exact sz2 hb1 | exact sz3 hb1 | (have := hb1.size; (try simp only [World.size_alloc, World.size_drew] at this); omega)); have hz1_1 : b < w1.heap.size := (by first | exact sz1 hb1 | exact sz2 hb1 | exact sz3 hb1 | (have := hb1.size; (try simp only [World.size_alloc, World.size_drew] at this); omega)); have hz1_2 : g < w1.heap.size := (by first | exact sz1 hb1 | exact sz2 hb1 | exact sz3 hb1 | (have := hb1.size; (try simp only [World.size_alloc, World.size_drew] at this); omega)))
      refine bodyPost_ret (v := .tuple #[.agg #[.int .i64 x.fr, .int .i64 x.th, .int .i64 x.off, .int .i64 x.save, .string x.abbr], .bool true]) ?_ rfl ⟨rfl, ?_⟩
      · simp [results, Try.results26, go_sem, hc1_0]
      · repeat (first | (with_reducible exact Below.refl _ _) | (with_reducible assumption) | (with_reducible refine ba ?_) | (with_reducible refine bd ?_) | (with_reducible refine bdn ?_ _) | (with_reducible refine bset ?_ (by first | exact Nat.le_refl _ | omega | (simp; done) | (simp; omega))) | (with_reducible refine bt ?_ (by with_reducible assumption)))
  all_goals
    rw [hf] at c ⊢
    have C := Lib.hid c
    clear c ho hx hp hf
    go_enter Try.func26, Try.ntmps26
    go_wp2_with (go_at_call 63; (with_reducible refine (C.out _ ?_).mono ?_); (· repeat (first | (with_reducible exact Below.refl _ _) | (with_reducible assumption) | (with_reducible refine ba ?_) | (with_reducible refine bd ?_) | (with_reducible refine bdn ?_ _) | (with_reducible refine bset ?_ (by first | exact Nat.le_refl _ | omega | (simp; done) | (simp; omega))) | (with_reducible refine bt ?_ (by with_reducible assumption)))); rintro e w1 ⟨rfl, hb1⟩; obtain ⟨hc1, hf1⟩ := bcell hb1; have hc1_0 := fun o => hc1 (w.heap.size) o (by first | assumption | omega | (simp; done) | (simp; omega)); have hf1_0 := fun o => hf1 (w.heap.size) o (by first | assumption | omega | (simp; done) | (simp; omega)); clear hc1 hf1; have hz1_0 : w.heap.size < w1.heap.size := (by first | exact sz1 hb1 | exact sz2 hb1 | exact sz3 hb1 | (have := hb1.size; (try simp only [World.size_alloc, World.size_drew] at this); omega)))
    refine bodyPost_ret (v := .tuple #[.agg #[.int .i64 0, .int .i64 0, .int .i64 0, .int .i64 0, .string ⟨#[]⟩], .bool false]) ?_ rfl ⟨rfl, ?_⟩
    · simp [results, Try.results26, go_sem, hc1_0]
    · repeat (first | (with_reducible exact Below.refl _ _) | (with_reducible assumption) | (with_reducible refine ba ?_) | (with_reducible refine bd ?_) | (with_reducible refine bdn ?_ _) | (with_reducible refine bset ?_ (by first | exact Nat.le_refl _ | omega | (simp; done) | (simp; omega))) | (with_reducible refine bt ?_ (by with_reducible assumption)))
end Sto
end Go.Proofs.Ytjgodnakhbkgeaa
