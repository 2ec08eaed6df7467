/-
  store: looking through infos in halves.
-/
import Derived.Test.YtjgodnakhbkgeaaSlInfoD
import Derived.Test.YtjgodnakhbkgeaaOpenI
namespace Go.Proofs.Ytjgodnakhbkgeaa
open Go.RowKit NB OW
namespace Sto
set_option maxHeartbeats 800000 in
theorem behind (x : InfoV) (t : Int) (w : World) : Calls Try.prog 116 #[.agg x.cells.toArray, .int .i64 t] w fun e w' => e = .returned (.int .i64 (if x.th ≤ t then -1 else 1)) ∧ Below w.heap.size w w' := by
  unfold InfoV.cells
  by_cases h : x.th ≤ t
  · rw [if_pos h]
    go_enter Try.func116, Try.ntmps116
    go_wp2
    go_ret
    exact ⟨rfl, by repeat (first | (with_reducible exact Below.refl _ _) | (with_reducible assumption) | (with_reducible refine ba ?_) | (with_reducible refine bd ?_) | (with_reducible refine bdn ?_ _) | (with_reducible refine bset ?_ (by first | exact Nat.le_refl _ | omega | (simp; done) | (simp; omega))) | (with_reducible refine bt ?_ (by with_reducible assumption)))⟩
  · rw [if_neg h]
    go_enter Try.func116, Try.ntmps116
    go_wp2
    go_ret
    exact ⟨rfl, by repeat (first | (with_reducible exact Below.refl _ _) | (with_reducible assumption) | (with_reducible refine ba ?_) | (with_reducible refine bd ?_) | (with_reducible refine bdn ?_ _) | (with_reducible refine bset ?_ (by first | exact Nat.le_refl _ | omega | (simp; done) | (simp; omega))) | (with_reducible refine bt ?_ (by with_reducible assumption)))⟩
theorem place_is : ∀ (l : List InfoV) (t : Int) (k : Nat), k ≤ l.length → (∀ m x, m < k → l[m]? = some x → x.th ≤ t) → (∀ x, l[k]? = some x → t < x.th) → place l t = k
  | [], t, k, h, _, _ => by simp at h; subst h; rfl
  | y :: r, t, 0, _, _, h => by
    have := h y (by simp)
    unfold place
    rw [if_neg (by omega)]
  | y :: r, t, k + 1, h, h1, h2 => by
    have := h1 0 y (by omega) (by simp)
    unfold place
    rw [if_pos this, place_is r t k (by simpa using h) (fun m x hm hx => h1 (m + 1) x (by omega) (by simpa using hx)) (fun x hx => h2 x (by simpa using hx))]
theorem lies_cells {w : World} {b off : Nat} {l : List InfoV} (h : Lies w b off 5 (l.map InfoV.cells)) {k : Nat} {x : InfoV} (hx : l[k]? = some x) :
    w.cell? ⟨b, off + k * 5, none⟩ = some (.int .i64 x.fr) ∧ w.cell? ⟨b, off + k * 5 + 1, none⟩ = some (.int .i64 x.th) ∧ w.cell? ⟨b, off + k * 5 + 2, none⟩ = some (.int .i64 x.off) ∧ w.cell? ⟨b, off + k * 5 + 3, none⟩ = some (.int .i64 x.save) ∧ w.cell? ⟨b, off + k * 5 + 4, none⟩ = some (.string x.abbr) := by
  have hh := fun j v hv => h k j x.cells v (by rw [List.getElem?_map, hx]; rfl) hv
  exact ⟨by simpa using hh 0 _ rfl, hh 1 _ rfl, hh 2 _ rfl, hh 3 _ rfl, hh 4 _ rfl⟩
set_option maxRecDepth 100000 in
set_option maxHeartbeats 3200000 in
theorem search {w : World} {v : Value} {l : List InfoV} (h : HoldsG 5 InfoV.cells w v l) (hn : l.length ≤ 100000) (ho : Ord l) (t : Int) :
    Calls Try.prog 115 #[v, .int .i64 t, .func (.func 116) #[] #[]] w fun e w' => e = .returned (.tuple #[.int .i64 (place l t), .bool false]) ∧ Below w.heap.size w w' := by
  rcases h.lies with ⟨p, cap, rfl, rfl⟩ | ⟨b, off, cap, rfl, hb, hlies⟩
  · clear h hn ho
    go_enter Try.func115, Try.ntmps115
    go_wp2
    go_loopw [9, 10] (fun i j wr => i = .int .i64 0 ∧ j = .int .i64 0 ∧ Below w.heap.size w wr) (fun _ _ _ => 0)
    case atStart => exact ⟨rfl, rfl, Below.refl _ _⟩
    case round =>
      obtain ⟨rfl, rfl, hbel⟩ := hrel
      go_wp2
      go_ret2
      exact ⟨rfl, hbel⟩
  · obtain ⟨n, hnn⟩ : ∃ n, n = l.length := ⟨_, rfl⟩
    rw [← hnn] at hn ⊢
    have HL := Lib.hid hlies
    have HO := Lib.hid ho
    have HN := Lib.hid hnn
    clear h hlies ho hnn
    go_enter Try.func115, Try.ntmps115
    go_wp2
    go_loopw [9, 10] (fun i j wr => ∃ lo hi : Nat, i = .int .i64 lo ∧ j = .int .i64 hi ∧ lo ≤ hi ∧ hi ≤ n ∧ Below w.heap.size w wr ∧ Hid (∀ m x, m < lo → l[m]? = some x → x.th ≤ t) ∧ Hid (∀ m x, hi ≤ m → l[m]? = some x → t < x.th)) (fun i j _ => (intOf j).toNat - (intOf i).toNat)
    case atStart => exact ⟨0, n, rfl, rfl, Nat.zero_le _, Nat.le_refl _, Below.refl _ _, fun m x hm => absurd hm (Nat.not_lt_zero _), fun m x hm hx => by have := (List.getElem?_eq_some_iff.1 hx).1; rw [← HN.out] at this; omega⟩
    case round =>
      obtain ⟨lo, hi, rfl, rfl, hlh, hhn, hbel, I1, I2⟩ := hrel
      by_cases hlt : lo < hi
      · have hk : (lo + hi) / 2 < l.length := by rw [← HN.out]; omega
        obtain ⟨x, hx⟩ : ∃ x, l[(lo + hi) / 2]? = some x := ⟨_, List.getElem?_eq_getElem hk⟩
        have hcs := lies_cells (w := wr) (fun i j cs v hi hj => by rw [hbel.cell (p := ⟨b, off + i * 5 + j, none⟩) hb]; exact HL.out i j cs v hi hj) hx
        obtain ⟨c0, c1, c2, c3, c4⟩ := hcs
        have cb := fun W => behind x t W
        unfold InfoV.cells at cb
        have HX := Lib.hid hx
        have hb1 : (lo : Int) < (hi : Int) := by omega
        have hb2 : (0 : Int) ≤ (lo : Int) + (hi : Int) := by omega
        have hb3 : (lo + hi) / 2 < n := by omega
        clear hx hk
        by_cases hxt : x.th ≤ t
        · rw [if_pos hxt] at cb
          have CB := Lib.hid cb
          clear cb
          go_wp2_with (go_at_call 116; (with_reducible refine (CB.out _).mono ?_); rintro e w1 ⟨rfl, hb1⟩; obtain ⟨hc1, hf1⟩ := bcell hb1)
          go_roundw
          case rel =>
            refine ⟨(lo + hi) / 2 + 1, hi, by go_num, rfl, by omega, hhn, by repeat (first | (with_reducible exact Below.refl _ _) | (with_reducible assumption) | (with_reducible refine ba ?_) | (with_reducible refine bd ?_) | (with_reducible refine bdn ?_ _) | (with_reducible refine bset ?_ (by first | exact Nat.le_refl _ | omega | (simp; done) | (simp; omega))) | (with_reducible refine bt ?_ (by with_reducible assumption))), fun m y hm hy => ?_, I2⟩
            by_cases hmm : m = (lo + hi) / 2
            · subst hmm
              rw [HX.out] at hy
              cases hy
              exact hxt
            · have h1 := HO.out.right y (List.mem_of_getElem? hy)
              have := HO.out.step m ((lo + hi) / 2) y x (by omega) hy HX.out
              have := HO.out.right x (List.mem_of_getElem? HX.out)
              omega
          case measure => simp [intOf]; omega
        · rw [if_neg hxt] at cb
          have CB := Lib.hid cb
          clear cb
          go_wp2_with (go_at_call 116; (with_reducible refine (CB.out _).mono ?_); rintro e w1 ⟨rfl, hb1⟩; obtain ⟨hc1, hf1⟩ := bcell hb1)
          go_roundw
          case rel =>
            refine ⟨lo, (lo + hi) / 2, rfl, by go_num, by omega, by omega, by repeat (first | (with_reducible exact Below.refl _ _) | (with_reducible assumption) | (with_reducible refine ba ?_) | (with_reducible refine bd ?_) | (with_reducible refine bdn ?_ _) | (with_reducible refine bset ?_ (by first | exact Nat.le_refl _ | omega | (simp; done) | (simp; omega))) | (with_reducible refine bt ?_ (by with_reducible assumption))), I1, fun m y hm hy => ?_⟩
            by_cases hmm : m = (lo + hi) / 2
            · subst hmm
              rw [HX.out] at hy
              cases hy
              omega
            · have h1 := HO.out.right y (List.mem_of_getElem? hy)
              have := HO.out.step ((lo + hi) / 2) m x y (by omega) HX.out hy
              omega
          case measure => simp [intOf]; omega
      · obtain rfl : lo = hi := by omega
        have hp : place l t = lo := place_is l t lo (by rw [← HN.out]; exact hhn) I1.out (fun x hx => I2.out lo x (Nat.le_refl _) hx)
        have HP := Lib.hid hp
        clear hp
        by_cases hln : lo < n
        · obtain ⟨x, hx⟩ : ∃ x, l[lo]? = some x := ⟨_, List.getElem?_eq_getElem (by rw [← HN.out]; exact hln)⟩
          obtain ⟨c0, c1, c2, c3, c4⟩ := lies_cells (w := wr) (fun i j cs v hi hj => by rw [hbel.cell (p := ⟨b, off + i * 5 + j, none⟩) hb]; exact HL.out i j cs v hi hj) hx
          have cb : ∀ W, Calls Try.prog 116 #[.agg x.cells.toArray, .int .i64 t] W fun e w' => e = .returned (.int .i64 1) ∧ Below W.heap.size W w' := fun W => by
            have := behind x t W
            rwa [if_neg (by have := I2.out lo x (Nat.le_refl _) hx; omega)] at this
          unfold InfoV.cells at cb
          have CB := Lib.hid cb
          have hb5 : (lo : Int) < (n : Int) := by omega
          clear cb hx
          go_wp2_with (go_at_call 116; (with_reducible refine (CB.out _).mono ?_); rintro e w1 ⟨rfl, hb1⟩; obtain ⟨hc1, hf1⟩ := bcell hb1)
          go_ret2
          exact ⟨by rw [HP.out]; rfl, by repeat (first | (with_reducible exact Below.refl _ _) | (with_reducible assumption) | (with_reducible refine ba ?_) | (with_reducible refine bd ?_) | (with_reducible refine bdn ?_ _) | (with_reducible refine bset ?_ (by first | exact Nat.le_refl _ | omega | (simp; done) | (simp; omega))) | (with_reducible refine bt ?_ (by with_reducible assumption)))⟩
        · go_wp2
          go_ret2
          exact ⟨by rw [HP.out]; rfl, hbel⟩
end Sto
end Go.Proofs.Ytjgodnakhbkgeaa
