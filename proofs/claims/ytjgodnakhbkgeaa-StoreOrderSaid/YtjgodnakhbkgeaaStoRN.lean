/-
  The document's store: Near.
-/
import Derived.Test.YtjgodnakhbkgeaaStoR
import Derived.BigRegion
namespace Go.Proofs.Ytjgodnakhbkgeaa
open Go.RowKit NB OW
namespace StR
open Sto
theorem boxT (w : World) (A B : Array Value) (s t : TypeId) : Box ((w.alloc (.cells A s)).alloc (.cells B t)) (w.heap.size + 1) B t := by
  have := Box.new (w.alloc (.cells A s)) B t
  rwa [World.size_alloc] at this
theorem near_ret {a : Act} {W : World} {R : Ending → World → Prop} {p q : Nat} {m n : Bool} {x y : InfoV} (h4 : Box W p #[.int .i64 x.fr, .int .i64 x.th, .int .i64 x.off, .int .i64 x.save, .string x.abbr] 50) (h5 : Box W q #[.int .i64 y.fr, .int .i64 y.th, .int .i64 y.off, .int .i64 y.save, .string y.abbr] 50)
    (t4 : a.tmps.getD 4 undef = .pointer (some ⟨p, 0, none⟩)) (t5 : a.tmps.getD 5 undef = .pointer (some ⟨q, 0, none⟩)) (t6 : a.tmps.getD 6 undef = .bool m) (t7 : a.tmps.getD 7 undef = .bool n) (hd : a.defers = [])
    (hR : R (.returned (.tuple #[.agg x.cells.toArray, .agg y.cells.toArray, .bool m, .bool n])) W) : bodyPost Try.prog Try.f29 R .ret a W := by
  have k4 := h4.cell
  have k5 := h5.cell
  refine bodyPost_ret (v := .tuple #[.agg x.cells.toArray, .agg y.cells.toArray, .bool m, .bool n]) ?_ hd hR
  unfold InfoV.cells
  simp only [Array.getD_eq_getD_getElem?] at t4 t5 t6 t7
  simp only [results, Try.results29]
  go_simp
theorem near_step (t : Int) {l : List InfoV} {k : Nat} {x : InfoV} (hx : l[k]? = some x) (a b : InfoV) (ka kb : Bool) : nearR t (l.drop k) (a, b, ka, kb) =
    if t < x.fr ∧ kb = false then nearR t (l.drop (k + 1)) ((if x.th ≤ t then x else a), x, (if x.th ≤ t then true else ka), true) else nearR t (l.drop (k + 1)) ((if x.th ≤ t then x else a), b, (if x.th ≤ t then true else ka), kb) := by
  have e : l.drop k = x :: l.drop (k + 1) := by
    obtain ⟨h, rfl⟩ := List.getElem?_eq_some_iff.1 hx
    exact List.drop_eq_getElem_cons h
  rw [e, nearR_cons]
def Four (w wr : World) (A B : InfoV) : Prop :=
  Box wr w.heap.size #[.int .i64 0, .int .i64 0, .int .i64 0, .int .i64 0, .string ⟨#[]⟩] 50 ∧ Box wr (w.heap.size + 1) #[.int .i64 0, .int .i64 0, .int .i64 0, .int .i64 0, .string ⟨#[]⟩] 50 ∧ Box wr (w.heap.size + 1 + 1) #[.int .i64 A.fr, .int .i64 A.th, .int .i64 A.off, .int .i64 A.save, .string A.abbr] 50 ∧ Box wr (w.heap.size + 1 + 1 + 1) #[.int .i64 B.fr, .int .i64 B.th, .int .i64 B.off, .int .i64 B.save, .string B.abbr] 50
theorem four0 (w : World) : Four w ((((w.alloc (.cells #[.int .i64 0, .int .i64 0, .int .i64 0, .int .i64 0, .string ⟨#[]⟩] 50)).alloc (.cells #[.int .i64 0, .int .i64 0, .int .i64 0, .int .i64 0, .string ⟨#[]⟩] 50)).alloc (.cells #[.int .i64 0, .int .i64 0, .int .i64 0, .int .i64 0, .string ⟨#[]⟩] 50)).alloc (.cells #[.int .i64 0, .int .i64 0, .int .i64 0, .int .i64 0, .string ⟨#[]⟩] 50)) none0 none0 := by
  have h2 := Box.new ((w.alloc (.cells #[.int .i64 0, .int .i64 0, .int .i64 0, .int .i64 0, .string ⟨#[]⟩] 50)).alloc (.cells #[.int .i64 0, .int .i64 0, .int .i64 0, .int .i64 0, .string ⟨#[]⟩] 50)) #[.int .i64 0, .int .i64 0, .int .i64 0, .int .i64 0, .string ⟨#[]⟩] 50
  have h3 := Box.new (((w.alloc (.cells #[.int .i64 0, .int .i64 0, .int .i64 0, .int .i64 0, .string ⟨#[]⟩] 50)).alloc (.cells #[.int .i64 0, .int .i64 0, .int .i64 0, .int .i64 0, .string ⟨#[]⟩] 50)).alloc (.cells #[.int .i64 0, .int .i64 0, .int .i64 0, .int .i64 0, .string ⟨#[]⟩] 50)) #[.int .i64 0, .int .i64 0, .int .i64 0, .int .i64 0, .string ⟨#[]⟩] 50
  simp only [World.size_alloc] at h2 h3
  exact ⟨Box.old (Box.old (Box.old (Box.new _ _ _))), Box.old (Box.old (boxT _ _ _ _ _)), Box.old h2, h3⟩
set_option maxRecDepth 100000 in
set_option maxHeartbeats 6400000 in
theorem Near {w : World} {base b : Nat} {room : Int} {v : Value} {l : List InfoV} (h : SR w base b room v l) (t : Int) :
    Calls Try.prog 29 #[.pointer (some ⟨b, 0, none⟩), .int .i64 t] w fun e w' => e = .returned (.tuple #[.agg (nearR t l near0).1.cells.toArray, .agg (nearR t l near0).2.1.cells.toArray, .bool (nearR t l near0).2.2.1, .bool (nearR t l near0).2.2.2]) ∧ Below w.heap.size w w' := by
  have k0 := h.box.cell 1
  have l0 := h.box.lt
  have n0 := h.n
  have ho := h.own
  have z1 : b < w.heap.size + 1 := by omega
  have z2 : b < w.heap.size + 1 + 1 := by omega
  have z3 : b < w.heap.size + 1 + 1 + 1 := by omega
  have F0 := four0 w
  have HF0 := Lib.hid F0
  clear F0
  rcases ho.2 with ⟨rfl, hn0⟩ | ⟨g, cap, cur, rfl, hbg, hg, hnc, hcm, hsz, htk⟩
  · obtain rfl : l = [] := List.eq_nil_of_length_eq_zero hn0
    clear h ho hn0
    go_enter Try.func29, Try.ntmps29
    go_wp2
    go_loopw [10, 11, 19] (fun m n i wr => m = .bool false ∧ n = .bool false ∧ i = .int .i64 0 ∧ Below w.heap.size w wr ∧ Hid (Four w wr none0 none0)) (fun _ _ _ _ => 0)
    case atStart => exact ⟨rfl, rfl, rfl, by repeat (first | (with_reducible exact Below.refl _ _) | (with_reducible assumption) | (with_reducible refine ba ?_) | (with_reducible refine bd ?_) | (with_reducible refine bdn ?_ _) | (with_reducible refine bset ?_ (by first | exact Nat.le_refl _ | omega | (simp; done) | (simp; omega))) | (with_reducible refine bt ?_ (by with_reducible assumption))), HF0.out⟩
    case round =>
      obtain ⟨rfl, rfl, rfl, hbr, HF⟩ := hrel
      obtain ⟨B1, B2, B3, B4⟩ := HF.out
      have c1 := B1.cell
      have c2 := B2.cell
      have c3 := B3.cell
      have c4 := B4.cell
      have f1 := B1.free
      have f2 := B2.free
      have g1 := B1.lt
      have g2 := B2.lt
      unfold none0 at c3 c4
      go_wp2
      go_region
      all_goals
        go_wp2
        refine near_ret (p := w.heap.size) (q := w.heap.size + 1) (x := ⟨0, 0, 0, 0, ⟨#[]⟩⟩) (y := ⟨0, 0, 0, 0, ⟨#[]⟩⟩) ?_ ?_ rfl rfl rfl rfl rfl ⟨rfl, ?_⟩
        · (try dsimp only); repeat (first | (with_reducible assumption) | (with_reducible exact Box.old (Box.new _ _ _)) | (with_reducible exact boxT _ _ _ _ _) | (with_reducible apply Box.set5) | (with_reducible refine Box.old ?_) | (with_reducible refine Box.drew ?_) | (with_reducible refine Box.drewN ?_ _) | (with_reducible refine Box.other ?_ (by first | assumption | omega | (simp; omega))) | (with_reducible refine Box.later ?_ (by with_reducible assumption)))
        · (try dsimp only); repeat (first | (with_reducible assumption) | (with_reducible exact Box.old (Box.new _ _ _)) | (with_reducible exact boxT _ _ _ _ _) | (with_reducible apply Box.set5) | (with_reducible refine Box.old ?_) | (with_reducible refine Box.drew ?_) | (with_reducible refine Box.drewN ?_ _) | (with_reducible refine Box.other ?_ (by first | assumption | omega | (simp; omega))) | (with_reducible refine Box.later ?_ (by with_reducible assumption)))
        · repeat (first | (with_reducible exact Below.refl _ _) | (with_reducible assumption) | (with_reducible refine ba ?_) | (with_reducible refine bd ?_) | (with_reducible refine bdn ?_ _) | (with_reducible refine bset ?_ (by first | exact Nat.le_refl _ | omega | (simp; done) | (simp; omega))) | (with_reducible refine bt ?_ (by with_reducible assumption)))
  · have lg : g < w.heap.size := (Array.getElem?_eq_some_iff.1 hg).1
    have HO := Lib.hid ho
    clear h ho hg hsz htk hnc hcm
    obtain ⟨n, hn⟩ : ∃ n, n = l.length := ⟨_, rfl⟩
    rw [← hn] at n0 k0
    have HN := Lib.hid hn
    clear hn
    go_enter Try.func29, Try.ntmps29
    go_wp2
    go_loopw [10, 11, 19] (fun p q i wr => ∃ (k : Nat) (A B : InfoV) (ka kb : Bool), p = .bool ka ∧ q = .bool kb ∧ i = .int .i64 k ∧ k ≤ n ∧ Below w.heap.size w wr ∧ Hid (Four w wr A B) ∧ Hid (nearR t l near0 = nearR t (l.drop k) (A, B, ka, kb))) (fun _ _ i _ => n - (intOf i).toNat)
    case atStart => exact ⟨0, none0, none0, false, false, rfl, rfl, rfl, Nat.zero_le _, by repeat (first | (with_reducible exact Below.refl _ _) | (with_reducible assumption) | (with_reducible refine ba ?_) | (with_reducible refine bd ?_) | (with_reducible refine bdn ?_ _) | (with_reducible refine bset ?_ (by first | exact Nat.le_refl _ | omega | (simp; done) | (simp; omega))) | (with_reducible refine bt ?_ (by with_reducible assumption))), HF0.out, rfl⟩
    case round =>
      obtain ⟨k, A, B, ka, kb, rfl, rfl, rfl, hk, hbr, HF, HR⟩ := hrel
      obtain ⟨B1, B2, B3, B4⟩ := HF.out
      have k1 := B1.cell
      have k2 := B2.cell
      have k3 := B3.cell
      have k4 := B4.cell
      have f1 := B1.free
      have f2 := B2.free
      have f3 := B3.free
      have f4 := B4.free
      have g1 := B1.lt
      have g2 := B2.lt
      have g3 := B3.lt
      have g4 := B4.lt
      by_cases hlt : k < n
      · obtain ⟨x, hx⟩ : ∃ x, l[k]? = some x := ⟨_, List.getElem?_eq_getElem (by rw [← HN.out]; exact hlt)⟩
        have hd := near_step t hx A B ka kb
        obtain ⟨c0, c1, c2, c3, c4⟩ := own_cells HO.out hx
        have hcr := fun o => hbr.cell (p := ⟨g, o, none⟩) lg
        have hg1 : g < wr.heap.size := Nat.lt_of_lt_of_le lg hbr.size
        clear hx
        by_cases h1 : x.th ≤ t
        case' pos => simp only [h1, if_true] at hd
        case' neg => simp only [h1, if_false] at hd
        all_goals
          by_cases h2 : t < x.fr
          case' neg => (simp only [h2, false_and, if_false] at hd; have h3 : decide (t < x.fr) = false := decide_eq_false h2)
          case' pos => cases kb
          case' pos.false => simp only [h2, true_and, if_true] at hd
          case' pos.true => simp only [Bool.true_eq_false, and_false, if_false] at hd
        all_goals
          have HD := Lib.hid hd
          clear hd
          go_wp2
          go_roundw
          case rel =>
            refine ⟨k + 1, _, _, _, _, rfl, rfl, by go_num, by omega, by repeat (first | (with_reducible exact Below.refl _ _) | (with_reducible assumption) | (with_reducible refine ba ?_) | (with_reducible refine bd ?_) | (with_reducible refine bdn ?_ _) | (with_reducible refine bset ?_ (by first | exact Nat.le_refl _ | omega | (simp; done) | (simp; omega))) | (with_reducible refine bt ?_ (by with_reducible assumption))), ?_, HR.out.trans HD.out⟩
            refine ⟨?_, ?_, ?_, ?_⟩
            all_goals (try dsimp only); repeat (first | (with_reducible assumption) | (with_reducible exact Box.old (Box.new _ _ _)) | (with_reducible exact boxT _ _ _ _ _) | (with_reducible apply Box.set5) | (with_reducible refine Box.old ?_) | (with_reducible refine Box.drew ?_) | (with_reducible refine Box.drewN ?_ _) | (with_reducible refine Box.other ?_ (by first | assumption | omega | (simp; omega))) | (with_reducible refine Box.later ?_ (by with_reducible assumption)))
          case measure => simp [intOf]; omega
      · obtain rfl : k = n := by omega
        have e : nearR t l near0 = (A, B, ka, kb) := by rw [HR.out, List.drop_eq_nil_of_le (by rw [← HN.out]; exact Nat.le_refl _)]; rfl
        have HE := Lib.hid e
        clear e
        go_wp2
        go_region
        all_goals
          go_wp2
          refine near_ret (p := w.heap.size) (q := w.heap.size + 1) (x := A) (y := B) ?_ ?_ rfl rfl rfl rfl rfl ⟨by rw [HE.out], ?_⟩
          · (try dsimp only); repeat (first | (with_reducible assumption) | (with_reducible exact Box.old (Box.new _ _ _)) | (with_reducible exact boxT _ _ _ _ _) | (with_reducible apply Box.set5) | (with_reducible refine Box.old ?_) | (with_reducible refine Box.drew ?_) | (with_reducible refine Box.drewN ?_ _) | (with_reducible refine Box.other ?_ (by first | assumption | omega | (simp; omega))) | (with_reducible refine Box.later ?_ (by with_reducible assumption)))
          · (try dsimp only); repeat (first | (with_reducible assumption) | (with_reducible exact Box.old (Box.new _ _ _)) | (with_reducible exact boxT _ _ _ _ _) | (with_reducible apply Box.set5) | (with_reducible refine Box.old ?_) | (with_reducible refine Box.drew ?_) | (with_reducible refine Box.drewN ?_ _) | (with_reducible refine Box.other ?_ (by first | assumption | omega | (simp; omega))) | (with_reducible refine Box.later ?_ (by with_reducible assumption)))
          · repeat (first | (with_reducible exact Below.refl _ _) | (with_reducible assumption) | (with_reducible refine ba ?_) | (with_reducible refine bd ?_) | (with_reducible refine bdn ?_ _) | (with_reducible refine bset ?_ (by first | exact Nat.le_refl _ | omega | (simp; done) | (simp; omega))) | (with_reducible refine bt ?_ (by with_reducible assumption)))
end StR
end Go.Proofs.Ytjgodnakhbkgeaa
