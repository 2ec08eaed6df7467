/-
  store.Put.
-/
import Derived.Test.YtjgodnakhbkgeaaStoM
namespace Go.Proofs.Ytjgodnakhbkgeaa
open Go.RowKit NB OW
namespace Sto
def eqI (x y : InfoV) : Bool := decide (x = y)
theorem eqlL (a b c d : Int) (e : ByteArray) (a' b' c' d' : Int) (e' : ByteArray) (w : World) : (binOp .eql 50 (.agg #[.int .i64 a, .int .i64 b, .int .i64 c, .int .i64 d, .string e]) (.agg #[.int .i64 a', .int .i64 b', .int .i64 c', .int .i64 d', .string e'])).run Try.prog w = .ok (.bool (eqI ⟨a, b, c, d, e⟩ ⟨a', b', c', d', e'⟩)) w :=
  SlI.eql ⟨a, b, c, d, e⟩ ⟨a', b', c', d', e'⟩ w
theorem neqL (a b c d : Int) (e : ByteArray) (a' b' c' d' : Int) (e' : ByteArray) (w : World) : (binOp .neq 50 (.agg #[.int .i64 a, .int .i64 b, .int .i64 c, .int .i64 d, .string e]) (.agg #[.int .i64 a', .int .i64 b', .int .i64 c', .int .i64 d', .string e'])).run Try.prog w = .ok (.bool (!eqI ⟨a, b, c, d, e⟩ ⟨a', b', c', d', e'⟩)) w :=
  SlI.neq ⟨a, b, c, d, e⟩ ⟨a', b', c', d', e'⟩ w
attribute [local go_sem ↓] eqlL neqL
set_option maxHeartbeats 800000 in
theorem right (f t : Int) (w : World) : Calls Try.prog 58 #[.agg #[.int .i64 f, .int .i64 t]] w fun e w' => e = .returned (.bool (decide (f < t))) ∧ Below w.heap.size w w' := by
  go_enter Try.func58, Try.ntmps58
  go_wp2
  go_ret
  exact ⟨rfl, by repeat (first | (with_reducible exact Below.refl _ _) | (with_reducible assumption) | (with_reducible refine ba ?_) | (with_reducible refine bd ?_) | (with_reducible refine bdn ?_ _) | (with_reducible refine bset ?_ (by first | exact Nat.le_refl _ | omega | (simp; done) | (simp; omega))) | (with_reducible refine bt ?_ (by with_reducible assumption)))⟩
set_option maxHeartbeats 800000 in
theorem PutNone (i : InfoV) (w : World) : Calls Try.prog 22 #[.pointer none, .agg i.cells.toArray] w fun e w' => e = .returned (.int .i64 12) ∧ Below w.heap.size w w' := by
  unfold InfoV.cells
  go_enter Try.func22, Try.ntmps22
  go_wp2
  go_ret
  exact ⟨rfl, by repeat (first | (with_reducible exact Below.refl _ _) | (with_reducible assumption) | (with_reducible refine ba ?_) | (with_reducible refine bd ?_) | (with_reducible refine bdn ?_ _) | (with_reducible refine bset ?_ (by first | exact Nat.le_refl _ | omega | (simp; done) | (simp; omega))) | (with_reducible refine bt ?_ (by with_reducible assumption)))⟩
set_option maxRecDepth 100000 in
set_option maxHeartbeats 3200000 in
theorem put4 {w : World} {base b : Nat} {room : Int} {v : Value} {l : List InfoV} (h : SS w base b room v l) (i : InfoV) (hi : ¬ i.fr < i.th) :
    Calls Try.prog 22 #[.pointer (some ⟨b, 0, none⟩), .agg i.cells.toArray] w fun e w' => e = .returned (.int .i64 4) ∧ Left w base b room v l w' := by
  have c := fun W => right i.fr i.th W
  rw [decide_eq_false hi] at c
  have C := Lib.hid c
  have H := Lib.hid h
  have l0 := h.box.lt
  clear c h
  unfold InfoV.cells
  go_enter Try.func22, Try.ntmps22
  go_wp2_with (go_at_call 58; (with_reducible refine (C.out _).mono ?_); rintro e w1 ⟨rfl, hb1⟩; obtain ⟨hc1, hf1⟩ := bcell hb1; have hc1_0 := fun o => hc1 (b) o (by first | assumption | omega | (simp; done) | (simp; omega)); have hf1_0 := fun o => hf1 (b) o (by first | assumption | omega | (simp; done) | (simp; omega)); have hc1_1 := fun o => hc1 (w.heap.size) o (by first | assumption | omega | (simp; done) | (simp; omega)); have hf1_1 := fun o => hf1 (w.heap.size) o (by first | assumption | omega | (simp; done) | (simp; omega)); clear hc1 hf1; have hz1_0 : b < w1.heap.size := (by first | exact sz1 hb1 | exact sz2 hb1 | exact sz3 hb1 | (have := hb1.size; (try simp only [World.size_alloc, World.size_drew] at this); omega)); have hz1_1 : w.heap.size < w1.heap.size := (by first | exact sz1 hb1 | exact sz2 hb1 | exact sz3 hb1 | (have := hb1.size; (try simp only [World.size_alloc, World.size_drew] at this); omega)))
  go_ret
  exact ⟨rfl, left_same H.out (by repeat (first | (with_reducible exact Below.refl _ _) | (with_reducible assumption) | (with_reducible refine ba ?_) | (with_reducible refine bd ?_) | (with_reducible refine bdn ?_ _) | (with_reducible refine bset ?_ (by first | exact Nat.le_refl _ | omega | (simp; done) | (simp; omega))) | (with_reducible refine bt ?_ (by with_reducible assumption))))⟩
set_option maxRecDepth 100000 in
set_option maxHeartbeats 3200000 in
theorem put11 {w : World} {base b : Nat} {room : Int} {v : Value} {l : List InfoV} (h : SS w base b room v l) (i : InfoV) (hi : i.fr < i.th) (hx : l[place l i.fr]? = some i) :
    Calls Try.prog 22 #[.pointer (some ⟨b, 0, none⟩), .agg i.cells.toArray] w fun e w' => e = .returned (.int .i64 11) ∧ Left w base b room v l w' := by
  have c := fun W => right i.fr i.th W
  rw [decide_eq_true hi] at c
  have cp := fun W (hb : Below w.heap.size w W) => placeW (h.later hb) i.fr
  have C := Lib.hid c
  have CP := Lib.hid cp
  have H := Lib.hid h
  have l0 := h.box.lt
  have k0 := h.box.cell 1
  have n0 := h.n
  have ho := h.own
  have hp := (List.getElem?_eq_some_iff.1 hx).1
  rcases ho.2 with ⟨rfl, hn0⟩ | ⟨g, cap, cur, rfl, hbg, hg, hnc, hcm, hsz, htk⟩
  · omega
  · obtain ⟨c0, c1, c2, c3, c4⟩ := own_cells ho hx
    have lg : g < w.heap.size := (Array.getElem?_eq_some_iff.1 hg).1
    have b1 : ((place l i.fr : Nat) : Int) < (l.length : Int) := by omega
    have e0 : eqI ⟨i.fr, i.th, i.off, i.save, i.abbr⟩ ⟨i.fr, i.th, i.off, i.save, i.abbr⟩ = true := by unfold eqI; simp
    generalize place l i.fr = q at *
    generalize hN : l.length = n at *
    clear c cp h ho hx hp hN hg hsz htk hnc hcm
    unfold InfoV.cells
    go_enter Try.func22, Try.ntmps22
    go_wp2_with (first
      | (go_at_call 58; (with_reducible refine (C.out _).mono ?_); rintro e w1 ⟨rfl, hb1⟩; obtain ⟨hc1, hf1⟩ := bcell hb1; have hc1_0 := fun o => hc1 (b) o (by first | assumption | omega | (simp; done) | (simp; omega)); have hf1_0 := fun o => hf1 (b) o (by first | assumption | omega | (simp; done) | (simp; omega)); have hc1_1 := fun o => hc1 (w.heap.size) o (by first | assumption | omega | (simp; done) | (simp; omega)); have hf1_1 := fun o => hf1 (w.heap.size) o (by first | assumption | omega | (simp; done) | (simp; omega)); have hc1_2 := fun o => hc1 (g) o (by first | assumption | omega | (simp; done) | (simp; omega)); have hf1_2 := fun o => hf1 (g) o (by first | assumption | omega | (simp; done) | (simp; omega)); clear hc1 hf1; have hz1_0 : b < w1.heap.size := (by first | exact sz1 hb1 | exact sz2 hb1 | exact sz3 hb1 | (have := hb1.size; (try simp only [World.size_alloc, World.size_drew] at this); omega)); have hz1_1 : w.heap.size < w1.heap.size := (by first | exact sz1 hb1 | exact sz2 hb1 | exact sz3 hb1 | (have := hb1.size; (try simp only [World.size_alloc, World.size_drew] at this); omega)); have hz1_2 : g < w1.heap.size := (by first | exact sz1 hb1 | exact sz2 hb1 | exact sz3 hb1 | (have := hb1.size; (try simp only [World.size_alloc, World.size_drew] at this); omega)))
      | (go_at_call 59; (with_reducible refine (CP.out _ ?_).mono ?_); (· repeat (first | (with_reducible exact Below.refl _ _) | (with_reducible assumption) | (with_reducible refine ba ?_) | (with_reducible refine bd ?_) | (with_reducible refine bdn ?_ _) | (with_reducible refine bset ?_ (by first | exact Nat.le_refl _ | omega | (simp; done) | (simp; omega))) | (with_reducible refine bt ?_ (by with_reducible assumption)))); rintro e w2 ⟨rfl, hb2⟩; obtain ⟨hc2, hf2⟩ := bcell hb2; have hc2_0 := fun o => hc2 (b) o (by first | assumption | omega | (simp; done) | (simp; omega)); have hf2_0 := fun o => hf2 (b) o (by first | assumption | omega | (simp; done) | (simp; omega)); have hc2_1 := fun o => hc2 (w.heap.size) o (by first | assumption | omega | (simp; done) | (simp; omega)); have hf2_1 := fun o => hf2 (w.heap.size) o (by first | assumption | omega | (simp; done) | (simp; omega)); have hc2_2 := fun o => hc2 (g) o (by first | assumption | omega | (simp; done) | (simp; omega)); have hf2_2 := fun o => hf2 (g) o (by first | assumption | omega | (simp; done) | (simp; omega)); clear hc2 hf2; have hz2_0 : b < w2.heap.size := (by first | exact sz1 hb2 | exact sz2 hb2 | exact sz3 hb2 | (have := hb2.size; (try simp only [World.size_alloc, World.size_drew] at this); omega)); have hz2_1 : w.heap.size < w2.heap.size := (by first | exact sz1 hb2 | exact sz2 hb2 | exact sz3 hb2 | (have := hb2.size; (try simp only [World.size_alloc, World.size_drew] at this); omega)); have hz2_2 : g < w2.heap.size := (by first | exact sz1 hb2 | exact sz2 hb2 | exact sz3 hb2 | (have := hb2.size; (try simp only [World.size_alloc, World.size_drew] at this); omega))))
    go_quiet (fail)
    go_wp2
    go_ret
    exact ⟨rfl, left_same H.out (by repeat (first | (with_reducible exact Below.refl _ _) | (with_reducible assumption) | (with_reducible refine ba ?_) | (with_reducible refine bd ?_) | (with_reducible refine bdn ?_ _) | (with_reducible refine bset ?_ (by first | exact Nat.le_refl _ | omega | (simp; done) | (simp; omega))) | (with_reducible refine bt ?_ (by with_reducible assumption))))⟩
set_option maxRecDepth 100000 in
set_option maxHeartbeats 3200000 in
theorem put21 {w : World} {base b : Nat} {room : Int} {v : Value} {l : List InfoV} (h : SS w base b room v l) (i : InfoV) (hi : i.fr < i.th) (x : InfoV) (hx : l[place l i.fr]? = some x) (hne : ¬ x = i) (hlt : x.fr < i.th) :
    Calls Try.prog 22 #[.pointer (some ⟨b, 0, none⟩), .agg i.cells.toArray] w fun e w' => e = .returned (.int .i64 21) ∧ Left w base b room v l w' := by
  have c := fun W => right i.fr i.th W
  rw [decide_eq_true hi] at c
  have cp := fun W (hb : Below w.heap.size w W) => placeW (h.later hb) i.fr
  have C := Lib.hid c
  have CP := Lib.hid cp
  have H := Lib.hid h
  have l0 := h.box.lt
  have k0 := h.box.cell 1
  have k1 := h.box.cell 0
  have n0 := h.n
  have ho := h.own
  have hp := (List.getElem?_eq_some_iff.1 hx).1
  rcases ho.2 with ⟨rfl, hn0⟩ | ⟨g, cap, cur, rfl, hbg, hg, hnc, hcm, hsz, htk⟩
  · omega
  · obtain ⟨c0, c1, c2, c3, c4⟩ := own_cells ho hx
    have lg : g < w.heap.size := (Array.getElem?_eq_some_iff.1 hg).1
    have b1 : ((place l i.fr : Nat) : Int) < (l.length : Int) := by omega
    have e0 : eqI ⟨x.fr, x.th, x.off, x.save, x.abbr⟩ ⟨i.fr, i.th, i.off, i.save, i.abbr⟩ = false := decide_eq_false hne
    generalize place l i.fr = q at *
    generalize hN : l.length = n at *
    clear ho hx hp hN hg hsz htk hnc hcm hne h c cp
    unfold InfoV.cells
    go_enter Try.func22, Try.ntmps22
    go_wp2_with (first
      | (go_at_call 58; (with_reducible refine (C.out _).mono ?_); rintro e w1 ⟨rfl, hb1⟩; obtain ⟨hc1, hf1⟩ := bcell hb1; have hc1_0 := fun o => hc1 (b) o (by first | assumption | omega | (simp; done) | (simp; omega)); have hf1_0 := fun o => hf1 (b) o (by first | assumption | omega | (simp; done) | (simp; omega)); have hc1_1 := fun o => hc1 (w.heap.size) o (by first | assumption | omega | (simp; done) | (simp; omega)); have hf1_1 := fun o => hf1 (w.heap.size) o (by first | assumption | omega | (simp; done) | (simp; omega)); have hc1_2 := fun o => hc1 (g) o (by first | assumption | omega | (simp; done) | (simp; omega)); have hf1_2 := fun o => hf1 (g) o (by first | assumption | omega | (simp; done) | (simp; omega)); clear hc1 hf1; have hz1_0 : b < w1.heap.size := (by first | exact sz1 hb1 | exact sz2 hb1 | exact sz3 hb1 | (have := hb1.size; (try simp only [World.size_alloc, World.size_drew] at this); omega)); have hz1_1 : w.heap.size < w1.heap.size := (by first | exact sz1 hb1 | exact sz2 hb1 | exact sz3 hb1 | (have := hb1.size; (try simp only [World.size_alloc, World.size_drew] at this); omega)); have hz1_2 : g < w1.heap.size := (by first | exact sz1 hb1 | exact sz2 hb1 | exact sz3 hb1 | (have := hb1.size; (try simp only [World.size_alloc, World.size_drew] at this); omega)))
      | (go_at_call 59; (with_reducible refine (CP.out _ ?_).mono ?_); (· repeat (first | (with_reducible exact Below.refl _ _) | (with_reducible assumption) | (with_reducible refine ba ?_) | (with_reducible refine bd ?_) | (with_reducible refine bdn ?_ _) | (with_reducible refine bset ?_ (by first | exact Nat.le_refl _ | omega | (simp; done) | (simp; omega))) | (with_reducible refine bt ?_ (by with_reducible assumption)))); rintro e w2 ⟨rfl, hb2⟩; obtain ⟨hc2, hf2⟩ := bcell hb2; have hc2_0 := fun o => hc2 (b) o (by first | assumption | omega | (simp; done) | (simp; omega)); have hf2_0 := fun o => hf2 (b) o (by first | assumption | omega | (simp; done) | (simp; omega)); have hc2_1 := fun o => hc2 (w.heap.size) o (by first | assumption | omega | (simp; done) | (simp; omega)); have hf2_1 := fun o => hf2 (w.heap.size) o (by first | assumption | omega | (simp; done) | (simp; omega)); have hc2_2 := fun o => hc2 (g) o (by first | assumption | omega | (simp; done) | (simp; omega)); have hf2_2 := fun o => hf2 (g) o (by first | assumption | omega | (simp; done) | (simp; omega)); clear hc2 hf2; have hz2_0 : b < w2.heap.size := (by first | exact sz1 hb2 | exact sz2 hb2 | exact sz3 hb2 | (have := hb2.size; (try simp only [World.size_alloc, World.size_drew] at this); omega)); have hz2_1 : w.heap.size < w2.heap.size := (by first | exact sz1 hb2 | exact sz2 hb2 | exact sz3 hb2 | (have := hb2.size; (try simp only [World.size_alloc, World.size_drew] at this); omega)); have hz2_2 : g < w2.heap.size := (by first | exact sz1 hb2 | exact sz2 hb2 | exact sz3 hb2 | (have := hb2.size; (try simp only [World.size_alloc, World.size_drew] at this); omega))))
    go_quiet (fail)
    go_wp2
    go_quiet (fail)
    go_wp2
    go_ret
    exact ⟨rfl, left_same H.out (by repeat (first | (with_reducible exact Below.refl _ _) | (with_reducible assumption) | (with_reducible refine ba ?_) | (with_reducible refine bd ?_) | (with_reducible refine bdn ?_ _) | (with_reducible refine bset ?_ (by first | exact Nat.le_refl _ | omega | (simp; done) | (simp; omega))) | (with_reducible refine bt ?_ (by with_reducible assumption))))⟩
set_option maxRecDepth 100000 in
set_option maxHeartbeats 3200000 in
theorem put17s {w : World} {base b : Nat} {room : Int} {v : Value} {l : List InfoV} (h : SS w base b room v l) (i : InfoV) (hi : i.fr < i.th) (x : InfoV) (hx : l[place l i.fr]? = some x) (hne : ¬ x = i) (hlt : ¬ x.fr < i.th) (hr : (l.length : Int) = room) :
    Calls Try.prog 22 #[.pointer (some ⟨b, 0, none⟩), .agg i.cells.toArray] w fun e w' => e = .returned (.int .i64 17) ∧ Left w base b room v l w' := by
  have c := fun W => right i.fr i.th W
  rw [decide_eq_true hi] at c
  have cp := fun W (hb : Below w.heap.size w W) => placeW (h.later hb) i.fr
  have C := Lib.hid c
  have CP := Lib.hid cp
  have H := Lib.hid h
  have l0 := h.box.lt
  have k0 := h.box.cell 1
  have k1 := h.box.cell 0
  have n0 := h.n
  have ho := h.own
  have hp := (List.getElem?_eq_some_iff.1 hx).1
  rcases ho.2 with ⟨rfl, hn0⟩ | ⟨g, cap, cur, rfl, hbg, hg, hnc, hcm, hsz, htk⟩
  · omega
  · obtain ⟨c0, c1, c2, c3, c4⟩ := own_cells ho hx
    have lg : g < w.heap.size := (Array.getElem?_eq_some_iff.1 hg).1
    have b1 : ((place l i.fr : Nat) : Int) < (l.length : Int) := by omega
    have e0 : eqI ⟨x.fr, x.th, x.off, x.save, x.abbr⟩ ⟨i.fr, i.th, i.off, i.save, i.abbr⟩ = false := decide_eq_false hne
    subst hr
    generalize place l i.fr = q at *
    generalize hN : l.length = n at *
    clear ho hx hp hN hg hsz htk hnc hcm hne h c cp
    have b2 : decide (x.fr < i.th) = false := decide_eq_false hlt
    unfold InfoV.cells
    go_enter Try.func22, Try.ntmps22
    go_wp2_with (first
      | (go_at_call 58; (with_reducible refine (C.out _).mono ?_); rintro e w1 ⟨rfl, hb1⟩; obtain ⟨hc1, hf1⟩ := bcell hb1; have hc1_0 := fun o => hc1 (b) o (by first | assumption | omega | (simp; done) | (simp; omega)); have hf1_0 := fun o => hf1 (b) o (by first | assumption | omega | (simp; done) | (simp; omega)); have hc1_1 := fun o => hc1 (w.heap.size) o (by first | assumption | omega | (simp; done) | (simp; omega)); have hf1_1 := fun o => hf1 (w.heap.size) o (by first | assumption | omega | (simp; done) | (simp; omega)); have hc1_2 := fun o => hc1 (g) o (by first | assumption | omega | (simp; done) | (simp; omega)); have hf1_2 := fun o => hf1 (g) o (by first | assumption | omega | (simp; done) | (simp; omega)); clear hc1 hf1; have hz1_0 : b < w1.heap.size := (by first | exact sz1 hb1 | exact sz2 hb1 | exact sz3 hb1 | (have := hb1.size; (try simp only [World.size_alloc, World.size_drew] at this); omega)); have hz1_1 : w.heap.size < w1.heap.size := (by first | exact sz1 hb1 | exact sz2 hb1 | exact sz3 hb1 | (have := hb1.size; (try simp only [World.size_alloc, World.size_drew] at this); omega)); have hz1_2 : g < w1.heap.size := (by first | exact sz1 hb1 | exact sz2 hb1 | exact sz3 hb1 | (have := hb1.size; (try simp only [World.size_alloc, World.size_drew] at this); omega)))
      | (go_at_call 59; (with_reducible refine (CP.out _ ?_).mono ?_); (· repeat (first | (with_reducible exact Below.refl _ _) | (with_reducible assumption) | (with_reducible refine ba ?_) | (with_reducible refine bd ?_) | (with_reducible refine bdn ?_ _) | (with_reducible refine bset ?_ (by first | exact Nat.le_refl _ | omega | (simp; done) | (simp; omega))) | (with_reducible refine bt ?_ (by with_reducible assumption)))); rintro e w2 ⟨rfl, hb2⟩; obtain ⟨hc2, hf2⟩ := bcell hb2; have hc2_0 := fun o => hc2 (b) o (by first | assumption | omega | (simp; done) | (simp; omega)); have hf2_0 := fun o => hf2 (b) o (by first | assumption | omega | (simp; done) | (simp; omega)); have hc2_1 := fun o => hc2 (w.heap.size) o (by first | assumption | omega | (simp; done) | (simp; omega)); have hf2_1 := fun o => hf2 (w.heap.size) o (by first | assumption | omega | (simp; done) | (simp; omega)); have hc2_2 := fun o => hc2 (g) o (by first | assumption | omega | (simp; done) | (simp; omega)); have hf2_2 := fun o => hf2 (g) o (by first | assumption | omega | (simp; done) | (simp; omega)); clear hc2 hf2; have hz2_0 : b < w2.heap.size := (by first | exact sz1 hb2 | exact sz2 hb2 | exact sz3 hb2 | (have := hb2.size; (try simp only [World.size_alloc, World.size_drew] at this); omega)); have hz2_1 : w.heap.size < w2.heap.size := (by first | exact sz1 hb2 | exact sz2 hb2 | exact sz3 hb2 | (have := hb2.size; (try simp only [World.size_alloc, World.size_drew] at this); omega)); have hz2_2 : g < w2.heap.size := (by first | exact sz1 hb2 | exact sz2 hb2 | exact sz3 hb2 | (have := hb2.size; (try simp only [World.size_alloc, World.size_drew] at this); omega))))
    go_quiet (fail)
    go_wp2
    go_quiet (fail)
    go_wp2
    go_quiet (fail)
    go_wp2
    go_ret
    exact ⟨rfl, left_same H.out (by repeat (first | (with_reducible exact Below.refl _ _) | (with_reducible assumption) | (with_reducible refine ba ?_) | (with_reducible refine bd ?_) | (with_reducible refine bdn ?_ _) | (with_reducible refine bset ?_ (by first | exact Nat.le_refl _ | omega | (simp; done) | (simp; omega))) | (with_reducible refine bt ?_ (by with_reducible assumption))))⟩
set_option maxRecDepth 100000 in
set_option maxHeartbeats 3200000 in
theorem put17n {w : World} {base b : Nat} {room : Int} {v : Value} {l : List InfoV} (h : SS w base b room v l) (i : InfoV) (hi : i.fr < i.th) (hx : l[place l i.fr]? = none) (hr : (l.length : Int) = room) :
    Calls Try.prog 22 #[.pointer (some ⟨b, 0, none⟩), .agg i.cells.toArray] w fun e w' => e = .returned (.int .i64 17) ∧ Left w base b room v l w' := by
  have c := fun W => right i.fr i.th W
  rw [decide_eq_true hi] at c
  have cp := fun W (hb : Below w.heap.size w W) => placeW (h.later hb) i.fr
  have C := Lib.hid c
  have CP := Lib.hid cp
  have H := Lib.hid h
  have l0 := h.box.lt
  have k0 := h.box.cell 1
  have k1 := h.box.cell 0
  have n0 := h.n
  have ho := h.own
  have hp : place l i.fr = l.length := by
    have := place_le l i.fr
    have := List.getElem?_eq_none_iff.1 hx
    omega
  obtain ⟨p, cap, rfl⟩ := own_form ho
  have b1 : decide (place l i.fr < l.length) = false := decide_eq_false (by omega)
  subst hr
  generalize place l i.fr = q at *
  generalize hN : l.length = n at *
  clear ho hx hp hN h c cp
  unfold InfoV.cells
  go_enter Try.func22, Try.ntmps22
  go_wp2_with (first
    | (go_at_call 58; (with_reducible refine (C.out _).mono ?_); rintro e w1 ⟨rfl, hb1⟩; obtain ⟨hc1, hf1⟩ := bcell hb1; have hc1_0 := fun o => hc1 (b) o (by first | assumption | omega | (simp; done) | (simp; omega)); have hf1_0 := fun o => hf1 (b) o (by first | assumption | omega | (simp; done) | (simp; omega)); have hc1_1 := fun o => hc1 (w.heap.size) o (by first | assumption | omega | (simp; done) | (simp; omega)); have hf1_1 := fun o => hf1 (w.heap.size) o (by first | assumption | omega | (simp; done) | (simp; omega)); clear hc1 hf1; have hz1_0 : b < w1.heap.size := (by first | exact sz1 hb1 | exact sz2 hb1 | exact sz3 hb1 | (have := hb1.size; (try simp only [World.size_alloc, World.size_drew] at this); omega)); have hz1_1 : w.heap.size < w1.heap.size := (by first | exact sz1 hb1 | exact sz2 hb1 | exact sz3 hb1 | (have := hb1.size; (try simp only [World.size_alloc, World.size_drew] at this); omega)))
    | (go_at_call 59; (with_reducible refine (CP.out _ ?_).mono ?_); (· repeat (first | (with_reducible exact Below.refl _ _) | (with_reducible assumption) | (with_reducible refine ba ?_) | (with_reducible refine bd ?_) | (with_reducible refine bdn ?_ _) | (with_reducible refine bset ?_ (by first | exact Nat.le_refl _ | omega | (simp; done) | (simp; omega))) | (with_reducible refine bt ?_ (by with_reducible assumption)))); rintro e w2 ⟨rfl, hb2⟩; obtain ⟨hc2, hf2⟩ := bcell hb2; have hc2_0 := fun o => hc2 (b) o (by first | assumption | omega | (simp; done) | (simp; omega)); have hf2_0 := fun o => hf2 (b) o (by first | assumption | omega | (simp; done) | (simp; omega)); have hc2_1 := fun o => hc2 (w.heap.size) o (by first | assumption | omega | (simp; done) | (simp; omega)); have hf2_1 := fun o => hf2 (w.heap.size) o (by first | assumption | omega | (simp; done) | (simp; omega)); clear hc2 hf2; have hz2_0 : b < w2.heap.size := (by first | exact sz1 hb2 | exact sz2 hb2 | exact sz3 hb2 | (have := hb2.size; (try simp only [World.size_alloc, World.size_drew] at this); omega)); have hz2_1 : w.heap.size < w2.heap.size := (by first | exact sz1 hb2 | exact sz2 hb2 | exact sz3 hb2 | (have := hb2.size; (try simp only [World.size_alloc, World.size_drew] at this); omega))))
  go_quiet (fail)
  go_wp2
  go_quiet (fail)
  go_wp2
  go_quiet (fail)
  go_wp2
  go_ret
  exact ⟨rfl, left_same H.out (by repeat (first | (with_reducible exact Below.refl _ _) | (with_reducible assumption) | (with_reducible refine ba ?_) | (with_reducible refine bd ?_) | (with_reducible refine bdn ?_ _) | (with_reducible refine bset ?_ (by first | exact Nat.le_refl _ | omega | (simp; done) | (simp; omega))) | (with_reducible refine bt ?_ (by with_reducible assumption))))⟩
end Sto
end Go.Proofs.Ytjgodnakhbkgeaa
