/-
  store.Near.
-/
import Derived.Test.YtjgodnakhbkgeaaStoM
import Derived.BigRegion
namespace Go.Proofs.Ytjgodnakhbkgeaa
open Go.RowKit NB OW
namespace Sto
theorem boxT (w : World) (A B : Array Value) (s t : TypeId) : Box ((w.alloc (.cells A s)).alloc (.cells B t)) (w.heap.size + 1) B t := by
  have := Box.new (w.alloc (.cells A s)) B t
  rwa [World.size_alloc] at this
theorem near_ret {a : Act} {W : World} {R : Ending → World → Prop} {p q : Nat} {m n : Bool} {x y : InfoV} (h4 : Box W p #[.int .i64 x.fr, .int .i64 x.th, .int .i64 x.off, .int .i64 x.save, .string x.abbr] 50) (h5 : Box W q #[.int .i64 y.fr, .int .i64 y.th, .int .i64 y.off, .int .i64 y.save, .string y.abbr] 50)
    (t4 : a.tmps.getD 4 undef = .pointer (some ⟨p, 0, none⟩)) (t5 : a.tmps.getD 5 undef = .pointer (some ⟨q, 0, none⟩)) (t6 : a.tmps.getD 6 undef = .bool m) (t7 : a.tmps.getD 7 undef = .bool n) (hd : a.defers = [])
    (hR : R (.returned (.tuple #[.agg x.cells.toArray, .agg y.cells.toArray, .bool m, .bool n])) W) : bodyPost Try.prog Try.f28 R .ret a W := by
  have k4 := h4.cell
  have k5 := h5.cell
  refine bodyPost_ret (v := .tuple #[.agg x.cells.toArray, .agg y.cells.toArray, .bool m, .bool n]) ?_ hd hR
  unfold InfoV.cells
  simp only [Array.getD_eq_getD_getElem?] at t4 t5 t6 t7
  simp only [results, Try.results28]
  go_simp
theorem NearNone (t : Int) (w : World) : Calls Try.prog 28 #[.pointer none, .int .i64 t] w fun e w' => e = .returned (.tuple #[.agg none0.cells.toArray, .agg none0.cells.toArray, .bool false, .bool false]) ∧ Below w.heap.size w w' := by
  go_enter Try.func28, Try.ntmps28
  go_wp2
  go_region
  all_goals
    go_wp2
    refine near_ret (p := w.heap.size) (q := w.heap.size + 1) (x := ⟨0, 0, 0, 0, ⟨#[]⟩⟩) (y := ⟨0, 0, 0, 0, ⟨#[]⟩⟩) ?_ ?_ rfl rfl rfl rfl rfl ⟨rfl, ?_⟩
    · (try dsimp only); repeat (first | (with_reducible assumption) | (with_reducible exact Box.old (Box.new _ _ _)) | (with_reducible exact boxT _ _ _ _ _) | (with_reducible apply Box.set5) | (with_reducible refine Box.old ?_) | (with_reducible refine Box.drew ?_) | (with_reducible refine Box.drewN ?_ _) | (with_reducible refine Box.other ?_ (by first | assumption | omega | (simp; omega))) | (with_reducible refine Box.later ?_ (by with_reducible assumption)))
    · (try dsimp only); repeat (first | (with_reducible assumption) | (with_reducible exact Box.old (Box.new _ _ _)) | (with_reducible exact boxT _ _ _ _ _) | (with_reducible apply Box.set5) | (with_reducible refine Box.old ?_) | (with_reducible refine Box.drew ?_) | (with_reducible refine Box.drewN ?_ _) | (with_reducible refine Box.other ?_ (by first | assumption | omega | (simp; omega))) | (with_reducible refine Box.later ?_ (by with_reducible assumption)))
    · repeat (first | (with_reducible exact Below.refl _ _) | (with_reducible assumption) | (with_reducible refine ba ?_) | (with_reducible refine bd ?_) | (with_reducible refine bdn ?_ _) | (with_reducible refine bset ?_ (by first | exact Nat.le_refl _ | omega | (simp; done) | (simp; omega))) | (with_reducible refine bt ?_ (by with_reducible assumption)))
set_option maxRecDepth 100000 in
set_option maxHeartbeats 3200000 in
theorem nearZN {w : World} {base b : Nat} {room : Int} {v : Value} {l : List InfoV} (h : SS w base b room v l) (t : Int) (hq : place l t = 0) (hx : place l t = l.length) :
    Calls Try.prog 28 #[.pointer (some ⟨b, 0, none⟩), .int .i64 t] w fun e w' => e = .returned (.tuple #[.agg none0.cells.toArray, .agg none0.cells.toArray, .bool false, .bool false]) ∧ Below w.heap.size w w' := by
  have c := fun W (hb : Below w.heap.size w W) => placeW (h.later hb) t
  have C := Lib.hid c
  have k0 := h.box.cell 1
  have l0 := h.box.lt
  have n0 := h.n
  have ho := h.own
  clear c h
  obtain ⟨p, cap, rfl⟩ := own_form ho
  have hpl := place_le l t
  generalize place l t = q at *
  subst hq
  generalize l.length = n at *
  have b1 : ¬ ((0 : Nat) : Int) < (n : Int) := by omega
  have b1' : decide (0 < n) = false := decide_eq_false (by omega)
  clear ho hx hpl
  unfold InfoV.cells
  go_enter Try.func28, Try.ntmps28
  go_wp2_with (go_at_call 59; (with_reducible refine (C.out _ ?_).mono ?_); (· repeat (first | (with_reducible exact Below.refl _ _) | (with_reducible assumption) | (with_reducible refine ba ?_) | (with_reducible refine bd ?_) | (with_reducible refine bdn ?_ _) | (with_reducible refine bset ?_ (by first | exact Nat.le_refl _ | omega | (simp; done) | (simp; omega))) | (with_reducible refine bt ?_ (by with_reducible assumption)))); rintro e w1 ⟨rfl, hb1⟩; obtain ⟨hc1, hf1⟩ := bcell hb1; have hc1_0 := fun o => hc1 (b) o (by first | assumption | omega | (simp; done) | (simp; omega)); have hf1_0 := fun o => hf1 (b) o (by first | assumption | omega | (simp; done) | (simp; omega)); have hc1_1 := fun o => hc1 (w.heap.size) o (by first | assumption | omega | (simp; done) | (simp; omega)); have hf1_1 := fun o => hf1 (w.heap.size) o (by first | assumption | omega | (simp; done) | (simp; omega)); have hc1_2 := fun o => hc1 (w.heap.size + 1) o (by first | assumption | omega | (simp; done) | (simp; omega)); have hf1_2 := fun o => hf1 (w.heap.size + 1) o (by first | assumption | omega | (simp; done) | (simp; omega)); clear hc1 hf1; have hz1_0 : b < w1.heap.size := (by first | exact sz1 hb1 | exact sz2 hb1 | exact sz3 hb1 | (have := hb1.size; (try simp only [World.size_alloc, World.size_drew] at this); omega)); have hz1_1 : w.heap.size < w1.heap.size := (by first | exact sz1 hb1 | exact sz2 hb1 | exact sz3 hb1 | (have := hb1.size; (try simp only [World.size_alloc, World.size_drew] at this); omega)); have hz1_2 : w.heap.size + 1 < w1.heap.size := (by first | exact sz1 hb1 | exact sz2 hb1 | exact sz3 hb1 | (have := hb1.size; (try simp only [World.size_alloc, World.size_drew] at this); omega)))
  have B4 := Box.later (Box.old (Box.new w #[.int .i64 0, .int .i64 0, .int .i64 0, .int .i64 0, .string ⟨#[]⟩] 50)) hb1
  have B5 := Box.later (boxT w #[.int .i64 0, .int .i64 0, .int .i64 0, .int .i64 0, .string ⟨#[]⟩] #[.int .i64 0, .int .i64 0, .int .i64 0, .int .i64 0, .string ⟨#[]⟩] 50 50) hb1
  go_region
  all_goals
    go_wp2
    refine near_ret (p := w.heap.size) (q := w.heap.size + 1) (x := ⟨0, 0, 0, 0, ⟨#[]⟩⟩) (y := ⟨0, 0, 0, 0, ⟨#[]⟩⟩) ?_ ?_ rfl rfl rfl rfl rfl ⟨rfl, ?_⟩
    · (try dsimp only); repeat (first | (with_reducible assumption) | (with_reducible exact Box.old (Box.new _ _ _)) | (with_reducible exact boxT _ _ _ _ _) | (with_reducible apply Box.set5) | (with_reducible refine Box.old ?_) | (with_reducible refine Box.drew ?_) | (with_reducible refine Box.drewN ?_ _) | (with_reducible refine Box.other ?_ (by first | assumption | omega | (simp; omega))) | (with_reducible refine Box.later ?_ (by with_reducible assumption)))
    · (try dsimp only); repeat (first | (with_reducible assumption) | (with_reducible exact Box.old (Box.new _ _ _)) | (with_reducible exact boxT _ _ _ _ _) | (with_reducible apply Box.set5) | (with_reducible refine Box.old ?_) | (with_reducible refine Box.drew ?_) | (with_reducible refine Box.drewN ?_ _) | (with_reducible refine Box.other ?_ (by first | assumption | omega | (simp; omega))) | (with_reducible refine Box.later ?_ (by with_reducible assumption)))
    · repeat (first | (with_reducible exact Below.refl _ _) | (with_reducible assumption) | (with_reducible refine ba ?_) | (with_reducible refine bd ?_) | (with_reducible refine bdn ?_ _) | (with_reducible refine bset ?_ (by first | exact Nat.le_refl _ | omega | (simp; done) | (simp; omega))) | (with_reducible refine bt ?_ (by with_reducible assumption)))
set_option maxRecDepth 100000 in
set_option maxHeartbeats 3200000 in
theorem nearZS1 {w : World} {base b : Nat} {room : Int} {v : Value} {l : List InfoV} (h : SS w base b room v l) (t : Int) (hq : place l t = 0) (x : InfoV) (hx : l[place l t]? = some x) (hf : x.fr ≤ t) (hy : place l t + 1 = l.length) :
    Calls Try.prog 28 #[.pointer (some ⟨b, 0, none⟩), .int .i64 t] w fun e w' => e = .returned (.tuple #[.agg none0.cells.toArray, .agg none0.cells.toArray, .bool false, .bool false]) ∧ Below w.heap.size w w' := by
  have c := fun W (hb : Below w.heap.size w W) => placeW (h.later hb) t
  have C := Lib.hid c
  have k0 := h.box.cell 1
  have l0 := h.box.lt
  have n0 := h.n
  have ho := h.own
  clear c h
  have hl : 0 < l.length := by have := place_le l t; omega
  rcases ho.2 with ⟨rfl, hn0⟩ | ⟨g, cap, cur, rfl, hbg, hg, hnc, hcm, hsz, htk⟩
  · omega
  have lg : g < w.heap.size := (Array.getElem?_eq_some_iff.1 hg).1
  obtain ⟨c0, c1, c2, c3, c4⟩ := own_cells ho hx
  have hpl := place_le l t
  have hpx := (List.getElem?_eq_some_iff.1 hx).1
  generalize place l t = q at *
  subst hq
  generalize l.length = n at *
  have b1 : ((0 : Nat) : Int) < (n : Int) := by omega
  have b0 : 0 < n := by omega
  have b2 : ¬ ((0 : Nat) : Int) + 1 < (n : Int) := by omega
  have b2' : ¬ (1 : Int) < (n : Int) := by omega
  clear ho hg hsz htk hnc hcm hl hx hy hpx hpl
  unfold InfoV.cells
  go_enter Try.func28, Try.ntmps28
  go_wp2_with (go_at_call 59; (with_reducible refine (C.out _ ?_).mono ?_); (· repeat (first | (with_reducible exact Below.refl _ _) | (with_reducible assumption) | (with_reducible refine ba ?_) | (with_reducible refine bd ?_) | (with_reducible refine bdn ?_ _) | (with_reducible refine bset ?_ (by first | exact Nat.le_refl _ | omega | (simp; done) | (simp; omega))) | (with_reducible refine bt ?_ (by with_reducible assumption)))); rintro e w1 ⟨rfl, hb1⟩; obtain ⟨hc1, hf1⟩ := bcell hb1; have hc1_0 := fun o => hc1 (b) o (by first | assumption | omega | (simp; done) | (simp; omega)); have hf1_0 := fun o => hf1 (b) o (by first | assumption | omega | (simp; done) | (simp; omega)); have hc1_1 := fun o => hc1 (w.heap.size) o (by first | assumption | omega | (simp; done) | (simp; omega)); have hf1_1 := fun o => hf1 (w.heap.size) o (by first | assumption | omega | (simp; done) | (simp; omega)); have hc1_2 := fun o => hc1 (w.heap.size + 1) o (by first | assumption | omega | (simp; done) | (simp; omega)); have hf1_2 := fun o => hf1 (w.heap.size + 1) o (by first | assumption | omega | (simp; done) | (simp; omega)); have hc1_3 := fun o => hc1 (g) o (by first | assumption | omega | (simp; done) | (simp; omega)); have hf1_3 := fun o => hf1 (g) o (by first | assumption | omega | (simp; done) | (simp; omega)); clear hc1 hf1; have hz1_0 : b < w1.heap.size := (by first | exact sz1 hb1 | exact sz2 hb1 | exact sz3 hb1 | (have := hb1.size; (try simp only [World.size_alloc, World.size_drew] at this); omega)); have hz1_1 : w.heap.size < w1.heap.size := (by first | exact sz1 hb1 | exact sz2 hb1 | exact sz3 hb1 | (have := hb1.size; (try simp only [World.size_alloc, World.size_drew] at this); omega)); have hz1_2 : w.heap.size + 1 < w1.heap.size := (by first | exact sz1 hb1 | exact sz2 hb1 | exact sz3 hb1 | (have := hb1.size; (try simp only [World.size_alloc, World.size_drew] at this); omega)); have hz1_3 : g < w1.heap.size := (by first | exact sz1 hb1 | exact sz2 hb1 | exact sz3 hb1 | (have := hb1.size; (try simp only [World.size_alloc, World.size_drew] at this); omega)))
  have B4 := Box.later (Box.old (Box.new w #[.int .i64 0, .int .i64 0, .int .i64 0, .int .i64 0, .string ⟨#[]⟩] 50)) hb1
  have B5 := Box.later (boxT w #[.int .i64 0, .int .i64 0, .int .i64 0, .int .i64 0, .string ⟨#[]⟩] #[.int .i64 0, .int .i64 0, .int .i64 0, .int .i64 0, .string ⟨#[]⟩] 50 50) hb1
  go_region
  all_goals
    go_wp2
    refine near_ret (p := w.heap.size) (q := w.heap.size + 1) (x := ⟨0, 0, 0, 0, ⟨#[]⟩⟩) (y := ⟨0, 0, 0, 0, ⟨#[]⟩⟩) ?_ ?_ rfl rfl rfl rfl rfl ⟨rfl, ?_⟩
    · (try dsimp only); repeat (first | (with_reducible assumption) | (with_reducible exact Box.old (Box.new _ _ _)) | (with_reducible exact boxT _ _ _ _ _) | (with_reducible apply Box.set5) | (with_reducible refine Box.old ?_) | (with_reducible refine Box.drew ?_) | (with_reducible refine Box.drewN ?_ _) | (with_reducible refine Box.other ?_ (by first | assumption | omega | (simp; omega))) | (with_reducible refine Box.later ?_ (by with_reducible assumption)))
    · (try dsimp only); repeat (first | (with_reducible assumption) | (with_reducible exact Box.old (Box.new _ _ _)) | (with_reducible exact boxT _ _ _ _ _) | (with_reducible apply Box.set5) | (with_reducible refine Box.old ?_) | (with_reducible refine Box.drew ?_) | (with_reducible refine Box.drewN ?_ _) | (with_reducible refine Box.other ?_ (by first | assumption | omega | (simp; omega))) | (with_reducible refine Box.later ?_ (by with_reducible assumption)))
    · repeat (first | (with_reducible exact Below.refl _ _) | (with_reducible assumption) | (with_reducible refine ba ?_) | (with_reducible refine bd ?_) | (with_reducible refine bdn ?_ _) | (with_reducible refine bset ?_ (by first | exact Nat.le_refl _ | omega | (simp; done) | (simp; omega))) | (with_reducible refine bt ?_ (by with_reducible assumption)))
set_option maxRecDepth 100000 in
set_option maxHeartbeats 3200000 in
theorem nearZS2 {w : World} {base b : Nat} {room : Int} {v : Value} {l : List InfoV} (h : SS w base b room v l) (t : Int) (hq : place l t = 0) (x : InfoV) (hx : l[place l t]? = some x) (hf : x.fr ≤ t) (y : InfoV) (hy : l[place l t + 1]? = some y) :
    Calls Try.prog 28 #[.pointer (some ⟨b, 0, none⟩), .int .i64 t] w fun e w' => e = .returned (.tuple #[.agg none0.cells.toArray, .agg y.cells.toArray, .bool false, .bool true]) ∧ Below w.heap.size w w' := by
  have c := fun W (hb : Below w.heap.size w W) => placeW (h.later hb) t
  have C := Lib.hid c
  have k0 := h.box.cell 1
  have l0 := h.box.lt
  have n0 := h.n
  have ho := h.own
  clear c h
  have hl : 0 < l.length := by have := place_le l t; have := (List.getElem?_eq_some_iff.1 hx).1; omega
  rcases ho.2 with ⟨rfl, hn0⟩ | ⟨g, cap, cur, rfl, hbg, hg, hnc, hcm, hsz, htk⟩
  · omega
  have lg : g < w.heap.size := (Array.getElem?_eq_some_iff.1 hg).1
  obtain ⟨c0, c1, c2, c3, c4⟩ := own_cells ho hx
  obtain ⟨d0, d1, d2, d3, d4⟩ := own_cells ho hy
  have hpl := place_le l t
  have hpx := (List.getElem?_eq_some_iff.1 hx).1
  have hpy := (List.getElem?_eq_some_iff.1 hy).1
  generalize place l t = q at *
  subst hq
  generalize l.length = n at *
  have b1 : ((0 : Nat) : Int) < (n : Int) := by omega
  have b0 : 0 < n := by omega
  have b2 : ((0 : Nat) : Int) + 1 < (n : Int) := by omega
  have b3 : (((0 : Nat) : Int) + 1).toNat = 0 + 1 := by omega
  have b4 : (0 : Int) ≤ ((0 : Nat) : Int) + 1 := by omega
  have b5 : 1 < n := by omega
  have b6 : (1 : Int) < (n : Int) := by omega
  clear ho hg hsz htk hnc hcm hl hx hy hpx hpy hpl
  unfold InfoV.cells
  go_enter Try.func28, Try.ntmps28
  go_wp2_with (go_at_call 59; (with_reducible refine (C.out _ ?_).mono ?_); (· repeat (first | (with_reducible exact Below.refl _ _) | (with_reducible assumption) | (with_reducible refine ba ?_) | (with_reducible refine bd ?_) | (with_reducible refine bdn ?_ _) | (with_reducible refine bset ?_ (by first | exact Nat.le_refl _ | omega | (simp; done) | (simp; omega))) | (with_reducible refine bt ?_ (by with_reducible assumption)))); rintro e w1 ⟨rfl, hb1⟩; obtain ⟨hc1, hf1⟩ := bcell hb1; have hc1_0 := fun o => hc1 (b) o (by first | assumption | omega | (simp; done) | (simp; omega)); have hf1_0 := fun o => hf1 (b) o (by first | assumption | omega | (simp; done) | (simp; omega)); have hc1_1 := fun o => hc1 (w.heap.size) o (by first | assumption | omega | (simp; done) | (simp; omega)); have hf1_1 := fun o => hf1 (w.heap.size) o (by first | assumption | omega | (simp; done) | (simp; omega)); have hc1_2 := fun o => hc1 (w.heap.size + 1) o (by first | assumption | omega | (simp; done) | (simp; omega)); have hf1_2 := fun o => hf1 (w.heap.size + 1) o (by first | assumption | omega | (simp; done) | (simp; omega)); have hc1_3 := fun o => hc1 (g) o (by first | assumption | omega | (simp; done) | (simp; omega)); have hf1_3 := fun o => hf1 (g) o (by first | assumption | omega | (simp; done) | (simp; omega)); clear hc1 hf1; have hz1_0 : b < w1.heap.size := (by first | exact sz1 hb1 | exact sz2 hb1 | exact sz3 hb1 | (have := hb1.size; (try simp only [World.size_alloc, World.size_drew] at this); omega)); have hz1_1 : w.heap.size < w1.heap.size := (by first | exact sz1 hb1 | exact sz2 hb1 | exact sz3 hb1 | (have := hb1.size; (try simp only [World.size_alloc, World.size_drew] at this); omega)); have hz1_2 : w.heap.size + 1 < w1.heap.size := (by first | exact sz1 hb1 | exact sz2 hb1 | exact sz3 hb1 | (have := hb1.size; (try simp only [World.size_alloc, World.size_drew] at this); omega)); have hz1_3 : g < w1.heap.size := (by first | exact sz1 hb1 | exact sz2 hb1 | exact sz3 hb1 | (have := hb1.size; (try simp only [World.size_alloc, World.size_drew] at this); omega)))
  have B4 := Box.later (Box.old (Box.new w #[.int .i64 0, .int .i64 0, .int .i64 0, .int .i64 0, .string ⟨#[]⟩] 50)) hb1
  have B5 := Box.later (boxT w #[.int .i64 0, .int .i64 0, .int .i64 0, .int .i64 0, .string ⟨#[]⟩] #[.int .i64 0, .int .i64 0, .int .i64 0, .int .i64 0, .string ⟨#[]⟩] 50 50) hb1
  go_region
  all_goals
    go_wp2
    refine near_ret (p := w.heap.size) (q := w.heap.size + 1) (x := ⟨0, 0, 0, 0, ⟨#[]⟩⟩) (y := y) ?_ ?_ rfl rfl rfl rfl rfl ⟨rfl, ?_⟩
    · (try dsimp only); repeat (first | (with_reducible assumption) | (with_reducible exact Box.old (Box.new _ _ _)) | (with_reducible exact boxT _ _ _ _ _) | (with_reducible apply Box.set5) | (with_reducible refine Box.old ?_) | (with_reducible refine Box.drew ?_) | (with_reducible refine Box.drewN ?_ _) | (with_reducible refine Box.other ?_ (by first | assumption | omega | (simp; omega))) | (with_reducible refine Box.later ?_ (by with_reducible assumption)))
    · (try dsimp only); repeat (first | (with_reducible assumption) | (with_reducible exact Box.old (Box.new _ _ _)) | (with_reducible exact boxT _ _ _ _ _) | (with_reducible apply Box.set5) | (with_reducible refine Box.old ?_) | (with_reducible refine Box.drew ?_) | (with_reducible refine Box.drewN ?_ _) | (with_reducible refine Box.other ?_ (by first | assumption | omega | (simp; omega))) | (with_reducible refine Box.later ?_ (by with_reducible assumption)))
    · repeat (first | (with_reducible exact Below.refl _ _) | (with_reducible assumption) | (with_reducible refine ba ?_) | (with_reducible refine bd ?_) | (with_reducible refine bdn ?_ _) | (with_reducible refine bset ?_ (by first | exact Nat.le_refl _ | omega | (simp; done) | (simp; omega))) | (with_reducible refine bt ?_ (by with_reducible assumption)))
set_option maxRecDepth 100000 in
set_option maxHeartbeats 3200000 in
theorem nearZS3 {w : World} {base b : Nat} {room : Int} {v : Value} {l : List InfoV} (h : SS w base b room v l) (t : Int) (hq : place l t = 0) (x : InfoV) (hx : l[place l t]? = some x) (hf : ¬ x.fr ≤ t) :
    Calls Try.prog 28 #[.pointer (some ⟨b, 0, none⟩), .int .i64 t] w fun e w' => e = .returned (.tuple #[.agg none0.cells.toArray, .agg x.cells.toArray, .bool false, .bool true]) ∧ Below w.heap.size w w' := by
  have c := fun W (hb : Below w.heap.size w W) => placeW (h.later hb) t
  have C := Lib.hid c
  have k0 := h.box.cell 1
  have l0 := h.box.lt
  have n0 := h.n
  have ho := h.own
  clear c h
  have hl : 0 < l.length := by have := place_le l t; have := (List.getElem?_eq_some_iff.1 hx).1; omega
  rcases ho.2 with ⟨rfl, hn0⟩ | ⟨g, cap, cur, rfl, hbg, hg, hnc, hcm, hsz, htk⟩
  · omega
  have lg : g < w.heap.size := (Array.getElem?_eq_some_iff.1 hg).1
  obtain ⟨c0, c1, c2, c3, c4⟩ := own_cells ho hx
  have hpl := place_le l t
  have hpx := (List.getElem?_eq_some_iff.1 hx).1
  generalize place l t = q at *
  subst hq
  generalize l.length = n at *
  have b1 : ((0 : Nat) : Int) < (n : Int) := by omega
  have b0 : 0 < n := by omega
  have b2 : decide (x.fr ≤ t) = false := decide_eq_false hf
  clear ho hg hsz htk hnc hcm hl hx hpx hpl
  unfold InfoV.cells
  go_enter Try.func28, Try.ntmps28
  go_wp2_with (go_at_call 59; (with_reducible refine (C.out _ ?_).mono ?_); (· repeat (first | (with_reducible exact Below.refl _ _) | (with_reducible assumption) | (with_reducible refine ba ?_) | (with_reducible refine bd ?_) | (with_reducible refine bdn ?_ _) | (with_reducible refine bset ?_ (by first | exact Nat.le_refl _ | omega | (simp; done) | (simp; omega))) | (with_reducible refine bt ?_ (by with_reducible assumption)))); rintro e w1 ⟨rfl, hb1⟩; obtain ⟨hc1, hf1⟩ := bcell hb1; have hc1_0 := fun o => hc1 (b) o (by first | assumption | omega | (simp; done) | (simp; omega)); have hf1_0 := fun o => hf1 (b) o (by first | assumption | omega | (simp; done) | (simp; omega)); have hc1_1 := fun o => hc1 (w.heap.size) o (by first | assumption | omega | (simp; done) | (simp; omega)); have hf1_1 := fun o => hf1 (w.heap.size) o (by first | assumption | omega | (simp; done) | (simp; omega)); have hc1_2 := fun o => hc1 (w.heap.size + 1) o (by first | assumption | omega | (simp; done) | (simp; omega)); have hf1_2 := fun o => hf1 (w.heap.size + 1) o (by first | assumption | omega | (simp; done) | (simp; omega)); have hc1_3 := fun o => hc1 (g) o (by first | assumption | omega | (simp; done) | (simp; omega)); have hf1_3 := fun o => hf1 (g) o (by first | assumption | omega | (simp; done) | (simp; omega)); clear hc1 hf1; have hz1_0 : b < w1.heap.size := (by first | exact sz1 hb1 | exact sz2 hb1 | exact sz3 hb1 | (have := hb1.size; (try simp only [World.size_alloc, World.size_drew] at this); omega)); have hz1_1 : w.heap.size < w1.heap.size := (by first | exact sz1 hb1 | exact sz2 hb1 | exact sz3 hb1 | (have := hb1.size; (try simp only [World.size_alloc, World.size_drew] at this); omega)); have hz1_2 : w.heap.size + 1 < w1.heap.size := (by first | exact sz1 hb1 | exact sz2 hb1 | exact sz3 hb1 | (have := hb1.size; (try simp only [World.size_alloc, World.size_drew] at this); omega)); have hz1_3 : g < w1.heap.size := (by first | exact sz1 hb1 | exact sz2 hb1 | exact sz3 hb1 | (have := hb1.size; (try simp only [World.size_alloc, World.size_drew] at this); omega)))
  have B4 := Box.later (Box.old (Box.new w #[.int .i64 0, .int .i64 0, .int .i64 0, .int .i64 0, .string ⟨#[]⟩] 50)) hb1
  have B5 := Box.later (boxT w #[.int .i64 0, .int .i64 0, .int .i64 0, .int .i64 0, .string ⟨#[]⟩] #[.int .i64 0, .int .i64 0, .int .i64 0, .int .i64 0, .string ⟨#[]⟩] 50 50) hb1
  go_region
  all_goals
    go_wp2
    refine near_ret (p := w.heap.size) (q := w.heap.size + 1) (x := ⟨0, 0, 0, 0, ⟨#[]⟩⟩) (y := x) ?_ ?_ rfl rfl rfl rfl rfl ⟨rfl, ?_⟩
    · (try dsimp only); repeat (first | (with_reducible assumption) | (with_reducible exact Box.old (Box.new _ _ _)) | (with_reducible exact boxT _ _ _ _ _) | (with_reducible apply Box.set5) | (with_reducible refine Box.old ?_) | (with_reducible refine Box.drew ?_) | (with_reducible refine Box.drewN ?_ _) | (with_reducible refine Box.other ?_ (by first | assumption | omega | (simp; omega))) | (with_reducible refine Box.later ?_ (by with_reducible assumption)))
    · (try dsimp only); repeat (first | (with_reducible assumption) | (with_reducible exact Box.old (Box.new _ _ _)) | (with_reducible exact boxT _ _ _ _ _) | (with_reducible apply Box.set5) | (with_reducible refine Box.old ?_) | (with_reducible refine Box.drew ?_) | (with_reducible refine Box.drewN ?_ _) | (with_reducible refine Box.other ?_ (by first | assumption | omega | (simp; omega))) | (with_reducible refine Box.later ?_ (by with_reducible assumption)))
    · repeat (first | (with_reducible exact Below.refl _ _) | (with_reducible assumption) | (with_reducible refine ba ?_) | (with_reducible refine bd ?_) | (with_reducible refine bdn ?_ _) | (with_reducible refine bset ?_ (by first | exact Nat.le_refl _ | omega | (simp; done) | (simp; omega))) | (with_reducible refine bt ?_ (by with_reducible assumption)))
set_option maxRecDepth 100000 in
set_option maxHeartbeats 3200000 in
theorem nearPN {w : World} {base b : Nat} {room : Int} {v : Value} {l : List InfoV} (h : SS w base b room v l) (t : Int) (a : InfoV) (hq : 0 < place l t) (ha : l[place l t - 1]? = some a) (hx : place l t = l.length) :
    Calls Try.prog 28 #[.pointer (some ⟨b, 0, none⟩), .int .i64 t] w fun e w' => e = .returned (.tuple #[.agg a.cells.toArray, .agg none0.cells.toArray, .bool true, .bool false]) ∧ Below w.heap.size w w' := by
  have c := fun W (hb : Below w.heap.size w W) => placeW (h.later hb) t
  have C := Lib.hid c
  have k0 := h.box.cell 1
  have l0 := h.box.lt
  have n0 := h.n
  have ho := h.own
  clear c h
  have hl : 0 < l.length := by have := place_le l t; omega
  rcases ho.2 with ⟨rfl, hn0⟩ | ⟨g, cap, cur, rfl, hbg, hg, hnc, hcm, hsz, htk⟩
  · omega
  have lg : g < w.heap.size := (Array.getElem?_eq_some_iff.1 hg).1
  obtain ⟨a0, a1, a2, a3, a4⟩ := own_cells ho ha
  have hpl := place_le l t
  generalize place l t = q at *
  generalize l.length = n at *
  have b1 : ¬ ((q : Nat) : Int) < (n : Int) := by omega
  have b1' : decide (q < n) = false := decide_eq_false (by omega)
  have q1 : (0 : Int) < (q : Int) := by omega
  have q2 : (0 : Int) ≤ (q : Int) - 1 := by omega
  have q3 : (1 : Int) ≤ (q : Int) := by omega
  have q4 : ((q : Int) - 1).toNat = q - 1 := by omega
  have q5 : (q : Int) - 1 < (n : Int) := by omega
  clear ho hg hsz htk hnc hcm hl ha hx hpl
  unfold InfoV.cells
  go_enter Try.func28, Try.ntmps28
  go_wp2_with (go_at_call 59; (with_reducible refine (C.out _ ?_).mono ?_); (· repeat (first | (with_reducible exact Below.refl _ _) | (with_reducible assumption) | (with_reducible refine ba ?_) | (with_reducible refine bd ?_) | (with_reducible refine bdn ?_ _) | (with_reducible refine bset ?_ (by first | exact Nat.le_refl _ | omega | (simp; done) | (simp; omega))) | (with_reducible refine bt ?_ (by with_reducible assumption)))); rintro e w1 ⟨rfl, hb1⟩; obtain ⟨hc1, hf1⟩ := bcell hb1; have hc1_0 := fun o => hc1 (b) o (by first | assumption | omega | (simp; done) | (simp; omega)); have hf1_0 := fun o => hf1 (b) o (by first | assumption | omega | (simp; done) | (simp; omega)); have hc1_1 := fun o => hc1 (w.heap.size) o (by first | assumption | omega | (simp; done) | (simp; omega)); have hf1_1 := fun o => hf1 (w.heap.size) o (by first | assumption | omega | (simp; done) | (simp; omega)); have hc1_2 := fun o => hc1 (w.heap.size + 1) o (by first | assumption | omega | (simp; done) | (simp; omega)); have hf1_2 := fun o => hf1 (w.heap.size + 1) o (by first | assumption | omega | (simp; done) | (simp; omega)); have hc1_3 := fun o => hc1 (g) o (by first | assumption | omega | (simp; done) | (simp; omega)); have hf1_3 := fun o => hf1 (g) o (by first | assumption | omega | (simp; done) | (simp; omega)); clear hc1 hf1; have hz1_0 : b < w1.heap.size := (by first | exact sz1 hb1 | exact sz2 hb1 | exact sz3 hb1 | (have := hb1.size; (try simp only [World.size_alloc, World.size_drew] at this); omega)); have hz1_1 : w.heap.size < w1.heap.size := (by first | exact sz1 hb1 | exact sz2 hb1 | exact sz3 hb1 | (have := hb1.size; (try simp only [World.size_alloc, World.size_drew] at this); omega)); have hz1_2 : w.heap.size + 1 < w1.heap.size := (by first | exact sz1 hb1 | exact sz2 hb1 | exact sz3 hb1 | (have := hb1.size; (try simp only [World.size_alloc, World.size_drew] at this); omega)); have hz1_3 : g < w1.heap.size := (by first | exact sz1 hb1 | exact sz2 hb1 | exact sz3 hb1 | (have := hb1.size; (try simp only [World.size_alloc, World.size_drew] at this); omega)))
  have B4 := Box.later (Box.old (Box.new w #[.int .i64 0, .int .i64 0, .int .i64 0, .int .i64 0, .string ⟨#[]⟩] 50)) hb1
  have B5 := Box.later (boxT w #[.int .i64 0, .int .i64 0, .int .i64 0, .int .i64 0, .string ⟨#[]⟩] #[.int .i64 0, .int .i64 0, .int .i64 0, .int .i64 0, .string ⟨#[]⟩] 50 50) hb1
  go_region
  all_goals
    go_wp2
    refine near_ret (p := w.heap.size) (q := w.heap.size + 1) (x := a) (y := ⟨0, 0, 0, 0, ⟨#[]⟩⟩) ?_ ?_ rfl rfl rfl rfl rfl ⟨rfl, ?_⟩
    · (try dsimp only); repeat (first | (with_reducible assumption) | (with_reducible exact Box.old (Box.new _ _ _)) | (with_reducible exact boxT _ _ _ _ _) | (with_reducible apply Box.set5) | (with_reducible refine Box.old ?_) | (with_reducible refine Box.drew ?_) | (with_reducible refine Box.drewN ?_ _) | (with_reducible refine Box.other ?_ (by first | assumption | omega | (simp; omega))) | (with_reducible refine Box.later ?_ (by with_reducible assumption)))
    · (try dsimp only); repeat (first | (with_reducible assumption) | (with_reducible exact Box.old (Box.new _ _ _)) | (with_reducible exact boxT _ _ _ _ _) | (with_reducible apply Box.set5) | (with_reducible refine Box.old ?_) | (with_reducible refine Box.drew ?_) | (with_reducible refine Box.drewN ?_ _) | (with_reducible refine Box.other ?_ (by first | assumption | omega | (simp; omega))) | (with_reducible refine Box.later ?_ (by with_reducible assumption)))
    · repeat (first | (with_reducible exact Below.refl _ _) | (with_reducible assumption) | (with_reducible refine ba ?_) | (with_reducible refine bd ?_) | (with_reducible refine bdn ?_ _) | (with_reducible refine bset ?_ (by first | exact Nat.le_refl _ | omega | (simp; done) | (simp; omega))) | (with_reducible refine bt ?_ (by with_reducible assumption)))
set_option maxRecDepth 100000 in
set_option maxHeartbeats 3200000 in
theorem nearPS1 {w : World} {base b : Nat} {room : Int} {v : Value} {l : List InfoV} (h : SS w base b room v l) (t : Int) (a : InfoV) (hq : 0 < place l t) (ha : l[place l t - 1]? = some a) (x : InfoV) (hx : l[place l t]? = some x) (hf : x.fr ≤ t) (hy : place l t + 1 = l.length) :
    Calls Try.prog 28 #[.pointer (some ⟨b, 0, none⟩), .int .i64 t] w fun e w' => e = .returned (.tuple #[.agg a.cells.toArray, .agg none0.cells.toArray, .bool true, .bool false]) ∧ Below w.heap.size w w' := by
  have c := fun W (hb : Below w.heap.size w W) => placeW (h.later hb) t
  have C := Lib.hid c
  have k0 := h.box.cell 1
  have l0 := h.box.lt
  have n0 := h.n
  have ho := h.own
  clear c h
  have hl : 0 < l.length := by have := place_le l t; omega
  rcases ho.2 with ⟨rfl, hn0⟩ | ⟨g, cap, cur, rfl, hbg, hg, hnc, hcm, hsz, htk⟩
  · omega
  have lg : g < w.heap.size := (Array.getElem?_eq_some_iff.1 hg).1
  obtain ⟨a0, a1, a2, a3, a4⟩ := own_cells ho ha
  obtain ⟨c0, c1, c2, c3, c4⟩ := own_cells ho hx
  have hpl := place_le l t
  have hpx := (List.getElem?_eq_some_iff.1 hx).1
  generalize place l t = q at *
  generalize l.length = n at *
  have b1 : ((q : Nat) : Int) < (n : Int) := by omega
  have b2 : ¬ ((q : Nat) : Int) + 1 < (n : Int) := by omega
  have q1 : (0 : Int) < (q : Int) := by omega
  have q2 : (0 : Int) ≤ (q : Int) - 1 := by omega
  have q3 : (1 : Int) ≤ (q : Int) := by omega
  have q4 : ((q : Int) - 1).toNat = q - 1 := by omega
  have q5 : (q : Int) - 1 < (n : Int) := by omega
  clear ho hg hsz htk hnc hcm hl ha hx hy hpx hpl
  unfold InfoV.cells
  go_enter Try.func28, Try.ntmps28
  go_wp2_with (go_at_call 59; (with_reducible refine (C.out _ ?_).mono ?_); (· repeat (first | (with_reducible exact Below.refl _ _) | (with_reducible assumption) | (with_reducible refine ba ?_) | (with_reducible refine bd ?_) | (with_reducible refine bdn ?_ _) | (with_reducible refine bset ?_ (by first | exact Nat.le_refl _ | omega | (simp; done) | (simp; omega))) | (with_reducible refine bt ?_ (by with_reducible assumption)))); rintro e w1 ⟨rfl, hb1⟩; obtain ⟨hc1, hf1⟩ := bcell hb1; have hc1_0 := fun o => hc1 (b) o (by first | assumption | omega | (simp; done) | (simp; omega)); have hf1_0 := fun o => hf1 (b) o (by first | assumption | omega | (simp; done) | (simp; omega)); have hc1_1 := fun o => hc1 (w.heap.size) o (by first | assumption | omega | (simp; done) | (simp; omega)); have hf1_1 := fun o => hf1 (w.heap.size) o (by first | assumption | omega | (simp; done) | (simp; omega)); have hc1_2 := fun o => hc1 (w.heap.size + 1) o (by first | assumption | omega | (simp; done) | (simp; omega)); have hf1_2 := fun o => hf1 (w.heap.size + 1) o (by first | assumption | omega | (simp; done) | (simp; omega)); have hc1_3 := fun o => hc1 (g) o (by first | assumption | omega | (simp; done) | (simp; omega)); have hf1_3 := fun o => hf1 (g) o (by first | assumption | omega | (simp; done) | (simp; omega)); clear hc1 hf1; have hz1_0 : b < w1.heap.size := (by first | exact sz1 hb1 | exact sz2 hb1 | exact sz3 hb1 | (have := hb1.size; (try simp only [World.size_alloc, World.size_drew] at this); omega)); have hz1_1 : w.heap.size < w1.heap.size := (by first | exact sz1 hb1 | exact sz2 hb1 | exact sz3 hb1 | (have := hb1.size; (try simp only [World.size_alloc, World.size_drew] at this); omega)); have hz1_2 : w.heap.size + 1 < w1.heap.size := (by first | exact sz1 hb1 | exact sz2 hb1 | exact sz3 hb1 | (have := hb1.size; (try simp only [World.size_alloc, World.size_drew] at this); omega)); have hz1_3 : g < w1.heap.size := (by first | exact sz1 hb1 | exact sz2 hb1 | exact sz3 hb1 | (have := hb1.size; (try simp only [World.size_alloc, World.size_drew] at this); omega)))
  have B4 := Box.later (Box.old (Box.new w #[.int .i64 0, .int .i64 0, .int .i64 0, .int .i64 0, .string ⟨#[]⟩] 50)) hb1
  have B5 := Box.later (boxT w #[.int .i64 0, .int .i64 0, .int .i64 0, .int .i64 0, .string ⟨#[]⟩] #[.int .i64 0, .int .i64 0, .int .i64 0, .int .i64 0, .string ⟨#[]⟩] 50 50) hb1
  go_region
  all_goals
    go_wp2
    refine near_ret (p := w.heap.size) (q := w.heap.size + 1) (x := a) (y := ⟨0, 0, 0, 0, ⟨#[]⟩⟩) ?_ ?_ rfl rfl rfl rfl rfl ⟨rfl, ?_⟩
    · (try dsimp only); repeat (first | (with_reducible assumption) | (with_reducible exact Box.old (Box.new _ _ _)) | (with_reducible exact boxT _ _ _ _ _) | (with_reducible apply Box.set5) | (with_reducible refine Box.old ?_) | (with_reducible refine Box.drew ?_) | (with_reducible refine Box.drewN ?_ _) | (with_reducible refine Box.other ?_ (by first | assumption | omega | (simp; omega))) | (with_reducible refine Box.later ?_ (by with_reducible assumption)))
    · (try dsimp only); repeat (first | (with_reducible assumption) | (with_reducible exact Box.old (Box.new _ _ _)) | (with_reducible exact boxT _ _ _ _ _) | (with_reducible apply Box.set5) | (with_reducible refine Box.old ?_) | (with_reducible refine Box.drew ?_) | (with_reducible refine Box.drewN ?_ _) | (with_reducible refine Box.other ?_ (by first | assumption | omega | (simp; omega))) | (with_reducible refine Box.later ?_ (by with_reducible assumption)))
    · repeat (first | (with_reducible exact Below.refl _ _) | (with_reducible assumption) | (with_reducible refine ba ?_) | (with_reducible refine bd ?_) | (with_reducible refine bdn ?_ _) | (with_reducible refine bset ?_ (by first | exact Nat.le_refl _ | omega | (simp; done) | (simp; omega))) | (with_reducible refine bt ?_ (by with_reducible assumption)))
set_option maxRecDepth 100000 in
set_option maxHeartbeats 3200000 in
theorem nearPS2 {w : World} {base b : Nat} {room : Int} {v : Value} {l : List InfoV} (h : SS w base b room v l) (t : Int) (a : InfoV) (hq : 0 < place l t) (ha : l[place l t - 1]? = some a) (x : InfoV) (hx : l[place l t]? = some x) (hf : x.fr ≤ t) (y : InfoV) (hy : l[place l t + 1]? = some y) :
    Calls Try.prog 28 #[.pointer (some ⟨b, 0, none⟩), .int .i64 t] w fun e w' => e = .returned (.tuple #[.agg a.cells.toArray, .agg y.cells.toArray, .bool true, .bool true]) ∧ Below w.heap.size w w' := by
  have c := fun W (hb : Below w.heap.size w W) => placeW (h.later hb) t
  have C := Lib.hid c
  have k0 := h.box.cell 1
  have l0 := h.box.lt
  have n0 := h.n
  have ho := h.own
  clear c h
  have hl : 0 < l.length := by have := place_le l t; have := (List.getElem?_eq_some_iff.1 hx).1; omega
  rcases ho.2 with ⟨rfl, hn0⟩ | ⟨g, cap, cur, rfl, hbg, hg, hnc, hcm, hsz, htk⟩
  · omega
  have lg : g < w.heap.size := (Array.getElem?_eq_some_iff.1 hg).1
  obtain ⟨a0, a1, a2, a3, a4⟩ := own_cells ho ha
  obtain ⟨c0, c1, c2, c3, c4⟩ := own_cells ho hx
  obtain ⟨d0, d1, d2, d3, d4⟩ := own_cells ho hy
  have hpl := place_le l t
  have hpx := (List.getElem?_eq_some_iff.1 hx).1
  have hpy := (List.getElem?_eq_some_iff.1 hy).1
  generalize place l t = q at *
  generalize l.length = n at *
  have b1 : ((q : Nat) : Int) < (n : Int) := by omega
  have b2 : ((q : Nat) : Int) + 1 < (n : Int) := by omega
  have b3 : (((q : Nat) : Int) + 1).toNat = q + 1 := by omega
  have b4 : (0 : Int) ≤ ((q : Nat) : Int) + 1 := by omega
  have q1 : (0 : Int) < (q : Int) := by omega
  have q2 : (0 : Int) ≤ (q : Int) - 1 := by omega
  have q3 : (1 : Int) ≤ (q : Int) := by omega
  have q4 : ((q : Int) - 1).toNat = q - 1 := by omega
  have q5 : (q : Int) - 1 < (n : Int) := by omega
  clear ho hg hsz htk hnc hcm hl ha hx hy hpx hpy hpl
  unfold InfoV.cells
  go_enter Try.func28, Try.ntmps28
  go_wp2_with (go_at_call 59; (with_reducible refine (C.out _ ?_).mono ?_); (· repeat (first | (with_reducible exact Below.refl _ _) | (with_reducible assumption) | (with_reducible refine ba ?_) | (with_reducible refine bd ?_) | (with_reducible refine bdn ?_ _) | (with_reducible refine bset ?_ (by first | exact Nat.le_refl _ | omega | (simp; done) | (simp; omega))) | (with_reducible refine bt ?_ (by with_reducible assumption)))); rintro e w1 ⟨rfl, hb1⟩; obtain ⟨hc1, hf1⟩ := bcell hb1; have hc1_0 := fun o => hc1 (b) o (by first | assumption | omega | (simp; done) | (simp; omega)); have hf1_0 := fun o => hf1 (b) o (by first | assumption | omega | (simp; done) | (simp; omega)); have hc1_1 := fun o => hc1 (w.heap.size) o (by first | assumption | omega | (simp; done) | (simp; omega)); have hf1_1 := fun o => hf1 (w.heap.size) o (by first | assumption | omega | (simp; done) | (simp; omega)); have hc1_2 := fun o => hc1 (w.heap.size + 1) o (by first | assumption | omega | (simp; done) | (simp; omega)); have hf1_2 := fun o => hf1 (w.heap.size + 1) o (by first | assumption | omega | (simp; done) | (simp; omega)); have hc1_3 := fun o => hc1 (g) o (by first | assumption | omega | (simp; done) | (simp; omega)); have hf1_3 := fun o => hf1 (g) o (by first | assumption | omega | (simp; done) | (simp; omega)); clear hc1 hf1; have hz1_0 : b < w1.heap.size := (by first | exact sz1 hb1 | exact sz2 hb1 | exact sz3 hb1 | (have := hb1.size; (try simp only [World.size_alloc, World.size_drew] at this); omega)); have hz1_1 : w.heap.size < w1.heap.size := (by first | exact sz1 hb1 | exact sz2 hb1 | exact sz3 hb1 | (have := hb1.size; (try simp only [World.size_alloc, World.size_drew] at this); omega)); have hz1_2 : w.heap.size + 1 < w1.heap.size := (by first | exact sz1 hb1 | exact sz2 hb1 | exact sz3 hb1 | (have := hb1.size; (try simp only [World.size_alloc, World.size_drew] at this); omega)); have hz1_3 : g < w1.heap.size := (by first | exact sz1 hb1 | exact sz2 hb1 | exact sz3 hb1 | (have := hb1.size; (try simp only [World.size_alloc, World.size_drew] at this); omega)))
  have B4 := Box.later (Box.old (Box.new w #[.int .i64 0, .int .i64 0, .int .i64 0, .int .i64 0, .string ⟨#[]⟩] 50)) hb1
  have B5 := Box.later (boxT w #[.int .i64 0, .int .i64 0, .int .i64 0, .int .i64 0, .string ⟨#[]⟩] #[.int .i64 0, .int .i64 0, .int .i64 0, .int .i64 0, .string ⟨#[]⟩] 50 50) hb1
  go_region
  all_goals
    go_wp2
    refine near_ret (p := w.heap.size) (q := w.heap.size + 1) (x := a) (y := y) ?_ ?_ rfl rfl rfl rfl rfl ⟨rfl, ?_⟩
    · (try dsimp only); repeat (first | (with_reducible assumption) | (with_reducible exact Box.old (Box.new _ _ _)) | (with_reducible exact boxT _ _ _ _ _) | (with_reducible apply Box.set5) | (with_reducible refine Box.old ?_) | (with_reducible refine Box.drew ?_) | (with_reducible refine Box.drewN ?_ _) | (with_reducible refine Box.other ?_ (by first | assumption | omega | (simp; omega))) | (with_reducible refine Box.later ?_ (by with_reducible assumption)))
    · (try dsimp only); repeat (first | (with_reducible assumption) | (with_reducible exact Box.old (Box.new _ _ _)) | (with_reducible exact boxT _ _ _ _ _) | (with_reducible apply Box.set5) | (with_reducible refine Box.old ?_) | (with_reducible refine Box.drew ?_) | (with_reducible refine Box.drewN ?_ _) | (with_reducible refine Box.other ?_ (by first | assumption | omega | (simp; omega))) | (with_reducible refine Box.later ?_ (by with_reducible assumption)))
    · repeat (first | (with_reducible exact Below.refl _ _) | (with_reducible assumption) | (with_reducible refine ba ?_) | (with_reducible refine bd ?_) | (with_reducible refine bdn ?_ _) | (with_reducible refine bset ?_ (by first | exact Nat.le_refl _ | omega | (simp; done) | (simp; omega))) | (with_reducible refine bt ?_ (by with_reducible assumption)))
set_option maxRecDepth 100000 in
set_option maxHeartbeats 3200000 in
theorem nearPS3 {w : World} {base b : Nat} {room : Int} {v : Value} {l : List InfoV} (h : SS w base b room v l) (t : Int) (a : InfoV) (hq : 0 < place l t) (ha : l[place l t - 1]? = some a) (x : InfoV) (hx : l[place l t]? = some x) (hf : ¬ x.fr ≤ t) :
    Calls Try.prog 28 #[.pointer (some ⟨b, 0, none⟩), .int .i64 t] w fun e w' => e = .returned (.tuple #[.agg a.cells.toArray, .agg x.cells.toArray, .bool true, .bool true]) ∧ Below w.heap.size w w' := by
  have c := fun W (hb : Below w.heap.size w W) => placeW (h.later hb) t
  have C := Lib.hid c
  have k0 := h.box.cell 1
  have l0 := h.box.lt
  have n0 := h.n
  have ho := h.own
  clear c h
  have hl : 0 < l.length := by have := place_le l t; have := (List.getElem?_eq_some_iff.1 hx).1; omega
  rcases ho.2 with ⟨rfl, hn0⟩ | ⟨g, cap, cur, rfl, hbg, hg, hnc, hcm, hsz, htk⟩
  · omega
  have lg : g < w.heap.size := (Array.getElem?_eq_some_iff.1 hg).1
  obtain ⟨a0, a1, a2, a3, a4⟩ := own_cells ho ha
  obtain ⟨c0, c1, c2, c3, c4⟩ := own_cells ho hx
  have hpl := place_le l t
  have hpx := (List.getElem?_eq_some_iff.1 hx).1
  generalize place l t = q at *
  generalize l.length = n at *
  have b1 : ((q : Nat) : Int) < (n : Int) := by omega
  have b2 : decide (x.fr ≤ t) = false := decide_eq_false hf
  have q1 : (0 : Int) < (q : Int) := by omega
  have q2 : (0 : Int) ≤ (q : Int) - 1 := by omega
  have q3 : (1 : Int) ≤ (q : Int) := by omega
  have q4 : ((q : Int) - 1).toNat = q - 1 := by omega
  have q5 : (q : Int) - 1 < (n : Int) := by omega
  clear ho hg hsz htk hnc hcm hl ha hx hpx hpl
  unfold InfoV.cells
  go_enter Try.func28, Try.ntmps28
  go_wp2_with (go_at_call 59; (with_reducible refine (C.out _ ?_).mono ?_); (· repeat (first | (with_reducible exact Below.refl _ _) | (with_reducible assumption) | (with_reducible refine ba ?_) | (with_reducible refine bd ?_) | (with_reducible refine bdn ?_ _) | (with_reducible refine bset ?_ (by first | exact Nat.le_refl _ | omega | (simp; done) | (simp; omega))) | (with_reducible refine bt ?_ (by with_reducible assumption)))); rintro e w1 ⟨rfl, hb1⟩; obtain ⟨hc1, hf1⟩ := bcell hb1; have hc1_0 := fun o => hc1 (b) o (by first | assumption | omega | (simp; done) | (simp; omega)); have hf1_0 := fun o => hf1 (b) o (by first | assumption | omega | (simp; done) | (simp; omega)); have hc1_1 := fun o => hc1 (w.heap.size) o (by first | assumption | omega | (simp; done) | (simp; omega)); have hf1_1 := fun o => hf1 (w.heap.size) o (by first | assumption | omega | (simp; done) | (simp; omega)); have hc1_2 := fun o => hc1 (w.heap.size + 1) o (by first | assumption | omega | (simp; done) | (simp; omega)); have hf1_2 := fun o => hf1 (w.heap.size + 1) o (by first | assumption | omega | (simp; done) | (simp; omega)); have hc1_3 := fun o => hc1 (g) o (by first | assumption | omega | (simp; done) | (simp; omega)); have hf1_3 := fun o => hf1 (g) o (by first | assumption | omega | (simp; done) | (simp; omega)); clear hc1 hf1; have hz1_0 : b < w1.heap.size := (by first | exact sz1 hb1 | exact sz2 hb1 | exact sz3 hb1 | (have := hb1.size; (try simp only [World.size_alloc, World.size_drew] at this); omega)); have hz1_1 : w.heap.size < w1.heap.size := (by first | exact sz1 hb1 | exact sz2 hb1 | exact sz3 hb1 | (have := hb1.size; (try simp only [World.size_alloc, World.size_drew] at this); omega)); have hz1_2 : w.heap.size + 1 < w1.heap.size := (by first | exact sz1 hb1 | exact sz2 hb1 | exact sz3 hb1 | (have := hb1.size; (try simp only [World.size_alloc, World.size_drew] at this); omega)); have hz1_3 : g < w1.heap.size := (by first | exact sz1 hb1 | exact sz2 hb1 | exact sz3 hb1 | (have := hb1.size; (try simp only [World.size_alloc, World.size_drew] at this); omega)))
  have B4 := Box.later (Box.old (Box.new w #[.int .i64 0, .int .i64 0, .int .i64 0, .int .i64 0, .string ⟨#[]⟩] 50)) hb1
  have B5 := Box.later (boxT w #[.int .i64 0, .int .i64 0, .int .i64 0, .int .i64 0, .string ⟨#[]⟩] #[.int .i64 0, .int .i64 0, .int .i64 0, .int .i64 0, .string ⟨#[]⟩] 50 50) hb1
  go_region
  all_goals
    go_wp2
    refine near_ret (p := w.heap.size) (q := w.heap.size + 1) (x := a) (y := x) ?_ ?_ rfl rfl rfl rfl rfl ⟨rfl, ?_⟩
    · (try dsimp only); repeat (first | (with_reducible assumption) | (with_reducible exact Box.old (Box.new _ _ _)) | (with_reducible exact boxT _ _ _ _ _) | (with_reducible apply Box.set5) | (with_reducible refine Box.old ?_) | (with_reducible refine Box.drew ?_) | (with_reducible refine Box.drewN ?_ _) | (with_reducible refine Box.other ?_ (by first | assumption | omega | (simp; omega))) | (with_reducible refine Box.later ?_ (by with_reducible assumption)))
    · (try dsimp only); repeat (first | (with_reducible assumption) | (with_reducible exact Box.old (Box.new _ _ _)) | (with_reducible exact boxT _ _ _ _ _) | (with_reducible apply Box.set5) | (with_reducible refine Box.old ?_) | (with_reducible refine Box.drew ?_) | (with_reducible refine Box.drewN ?_ _) | (with_reducible refine Box.other ?_ (by first | assumption | omega | (simp; omega))) | (with_reducible refine Box.later ?_ (by with_reducible assumption)))
    · repeat (first | (with_reducible exact Below.refl _ _) | (with_reducible assumption) | (with_reducible refine ba ?_) | (with_reducible refine bd ?_) | (with_reducible refine bdn ?_ _) | (with_reducible refine bset ?_ (by first | exact Nat.le_refl _ | omega | (simp; done) | (simp; omega))) | (with_reducible refine bt ?_ (by with_reducible assumption)))
end Sto
end Go.Proofs.Ytjgodnakhbkgeaa
