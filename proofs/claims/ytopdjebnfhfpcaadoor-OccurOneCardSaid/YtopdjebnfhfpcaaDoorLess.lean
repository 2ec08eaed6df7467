/-
  cmp.Compare, cmp.Or, occur.Less, occur.nom and occur.Nom: what they give, as the program runs them.
-/
import Derived.Test.YtopdjebnfhfpcaaDoorNC
import Derived.Test.YtopdjebnfhfpcaaDoorOcc
import Derived.Test.YtopdjebnfhfpcaaDoorDayB
import Derived.Deep.RegionHeld3
namespace Go.Proofs.YtopdjebnfhfpcaaDoor
open Go.RowKit NB
namespace Cmp
def cmpI (a b : Int) : Int := if a < b then -1 else if b < a then 1 else 0
theorem NaN64 (x : Int) (w : World) : Calls Tryd.prog 84 #[.int .i64 x] w fun e w' => e = .returned (.bool false) ∧ w = w' := by
  go_enter Tryd.func84, Tryd.ntmps84
  go_wp2
  go_ret
  exact ⟨ret_bool (by simp), rfl⟩
theorem NaN (x : Int) (w : World) : Calls Tryd.prog 85 #[.int .i64 x] w fun e w' => e = .returned (.bool false) ∧ w = w' := by
  go_enter Tryd.func85, Tryd.ntmps85
  go_wp2
  go_ret
  exact ⟨ret_bool (by simp), rfl⟩
theorem Compare64 (x y : Int) (w : World) : Calls Tryd.prog 52 #[.int .i64 x, .int .i64 y] w fun e w' => e = .returned (.int .i64 (cmpI x y)) ∧ w = w' := by
  unfold cmpI
  rcases Int.lt_trichotomy x y with h | h | h
  · rw [if_pos h]
    go_enter Tryd.func52, Tryd.ntmps52
    go_wp2_with (go_at_call 84; (with_reducible refine (NaN64 _ _).mono ?_); rintro e w' ⟨rfl, rfl⟩)
    go_ret
    exact ⟨rfl, rfl⟩
  · subst h
    rw [if_neg (by omega), if_neg (by omega)]
    go_enter Tryd.func52, Tryd.ntmps52
    go_wp2_with (go_at_call 84; (with_reducible refine (NaN64 _ _).mono ?_); rintro e w' ⟨rfl, rfl⟩)
    go_ret
    exact ⟨rfl, rfl⟩
  · rw [if_neg (by omega), if_pos h]
    go_enter Tryd.func52, Tryd.ntmps52
    go_wp2_with (go_at_call 84; (with_reducible refine (NaN64 _ _).mono ?_); rintro e w' ⟨rfl, rfl⟩)
    go_ret
    exact ⟨rfl, rfl⟩
theorem Compare (x y : Int) (w : World) : Calls Tryd.prog 53 #[.int .i64 x, .int .i64 y] w fun e w' => e = .returned (.int .i64 (cmpI x y)) ∧ w = w' := by
  unfold cmpI
  rcases Int.lt_trichotomy x y with h | h | h
  · rw [if_pos h]
    go_enter Tryd.func53, Tryd.ntmps53
    go_wp2_with (go_at_call 85; (with_reducible refine (NaN _ _).mono ?_); rintro e w' ⟨rfl, rfl⟩)
    go_ret
    exact ⟨rfl, rfl⟩
  · subst h
    rw [if_neg (by omega), if_neg (by omega)]
    go_enter Tryd.func53, Tryd.ntmps53
    go_wp2_with (go_at_call 85; (with_reducible refine (NaN _ _).mono ?_); rintro e w' ⟨rfl, rfl⟩)
    go_ret
    exact ⟨rfl, rfl⟩
  · rw [if_neg (by omega), if_pos h]
    go_enter Tryd.func53, Tryd.ntmps53
    go_wp2_with (go_at_call 85; (with_reducible refine (NaN _ _).mono ?_); rintro e w' ⟨rfl, rfl⟩)
    go_ret
    exact ⟨rfl, rfl⟩
def orL : List Int → Int
  | [] => 0
  | z :: zs => if z = 0 then orL zs else z
theorem orL_drop : ∀ (zs : List Int) (k : Nat), (∀ j z, j < k → zs[j]? = some z → z = 0) → orL zs = orL (zs.drop k)
  | [], k, _ => by simp
  | z :: zs, 0, _ => rfl
  | z :: zs, k + 1, h => by
    have hz := h 0 z (by omega) rfl
    subst hz
    rw [List.drop_succ_cons, ← orL_drop zs k (fun j z hj hz => h (j + 1) z (by omega) (by simpa using hz))]
    rfl
theorem orL_at {zs : List Int} {k : Nat} {z : Int} (h : ∀ j z, j < k → zs[j]? = some z → z = 0) (hz : zs[k]? = some z) (hn : z ≠ 0) : orL zs = z := by
  rw [orL_drop zs k h]
  obtain ⟨hk, he⟩ := List.getElem?_eq_some_iff.1 hz
  rw [List.drop_eq_getElem_cons hk, he]
  unfold orL
  rw [if_neg hn]
theorem orL_end {zs : List Int} (h : ∀ j z, j < zs.length → zs[j]? = some z → z = 0) : orL zs = 0 := by
  rw [orL_drop zs zs.length h]
  simp [orL]
def Seen (zs : List Int) (k : Nat) : Prop := ∀ j z, j < k → zs[j]? = some z → z = 0
theorem Seen.succ {zs : List Int} {k : Nat} (h : Seen zs k) (hz : zs[k]? = some 0) : Seen zs (k + 1) := by
  intro j z hj hz'
  by_cases hjk : j = k
  · subst hjk
    rw [hz] at hz'
    cases hz'
    rfl
  · exact h j z (by omega) hz'
theorem Or (b off cap : Nat) (zs : List Int) (w : World) (hc : ∀ j z, zs[j]? = some z → w.cell? ⟨b, off + j, none⟩ = some (.int .i64 z)) (hl : zs.length ≤ 1000) :
    Calls Tryd.prog 51 #[.slice (some ⟨b, off, none⟩) zs.length cap] w fun e w' => e = .returned (.int .i64 (orL zs)) ∧ w = w' := by
  have Hc := Lib.hid hc
  clear hc
  obtain ⟨n, hn⟩ : ∃ n, n = zs.length := ⟨_, rfl⟩
  rw [← hn] at hl ⊢
  have Hn := Lib.hid hn
  clear hn
  go_enter Tryd.func51, Tryd.ntmps51
  go_wp2
  go_loop [8] (fun i => ∃ k : Nat, k ≤ n ∧ i = .int .i64 k ∧ Seen zs k) (fun i => n - (intOf i).toNat)
  case atStart => exact ⟨0, Nat.zero_le _, rfl, fun j _ hj _ => by omega⟩
  case round =>
    obtain ⟨k, hk, rfl, hs⟩ := hrel
    by_cases hlt : k < n
    · obtain ⟨z, hz⟩ : ∃ z, zs[k]? = some z := ⟨zs[k]'(by have := Hn.out; omega), by simp⟩
      have hcell := Hc.out k z hz
      have Hz := Lib.hid hz
      clear hz
      by_cases h0 : z = 0
      · subst h0
        go_wp2
        go_round
        case rel => exact ⟨k + 1, by omega, by go_num, hs.succ Hz.out⟩
        case measure => simp [intOf]; omega
      · have hb : (z != 0) = true := by simpa using h0
        have H0 := Lib.hid h0
        clear h0
        go_wp2
        go_ret
        exact ⟨ret_int (orL_at hs Hz.out H0.out).symm, rfl⟩
    · go_wp2
      go_ret
      exact ⟨ret_int (orL_end (fun j z hj => hs j z (by have := Hn.out; omega))).symm, rfl⟩
theorem orL_cmp (a b : OccV) : decide (orL [cmpI a.nom b.nom, cmpI a.rule b.rule] < 0) = Occ.less a b := by
  unfold orL orL orL cmpI Occ.less
  rcases Int.lt_trichotomy a.nom b.nom with h | h | h
  · rw [if_pos h]; simp [h]
  · rcases Int.lt_trichotomy a.rule b.rule with g | g | g
    · simp [h, g]
    · simp [h, g]
    · have : ¬ a.rule < b.rule := by omega
      simp [h, g, this]
  · have : ¬ a.nom < b.nom := by omega
    have : ¬ a.nom = b.nom := by omega
    simp [h, *]
set_option maxHeartbeats 1600000 in
theorem Less (a b : OccV) (w : World) : Calls Tryd.prog 22 #[.agg a.cells.toArray, .agg b.cells.toArray] w fun e w' => e = .returned (.bool (Occ.less a b)) ∧ Below w.heap.size w w' := by
  rw [← orL_cmp]
  unfold OccV.cells
  have co := fun (W : World) (n : Nat) (x y : Int) (h0 : W.cell? ⟨n, 0, none⟩ = some (.int .i64 x)) (h1 : W.cell? ⟨n, 1, none⟩ = some (.int .i64 y)) => Or n 0 2 [x, y] W (by
    intro j z hz
    match j with
    | 0 => cases hz; exact h0
    | 1 => cases hz; exact h1
    | j + 2 => simp at hz) (by simp)
  simp only [List.length_cons, List.length_nil, Nat.zero_add, Nat.reduceAdd] at co
  have Co := Lib.hid co
  clear co
  go_enter Tryd.func22, Tryd.ntmps22
  go_wp2
  obtain ⟨V, hV⟩ : ∃ V, V = (w.alloc (.cells #[.int .i64 a.rule, .int .i64 a.year, .int .i64 a.nom] 41)).alloc (.cells #[.int .i64 b.rule, .int .i64 b.year, .int .i64 b.nom] 41) := ⟨_, rfl⟩
  rw [← hV]
  obtain ⟨⟨v0, v1⟩, hB, hF⟩ := box2 hV
  clear hV
  have HF := Lib.hid hF
  have h0 := HF.out V (Below.refl _ _)
  clear hF
  go_region_held3 (fun w' => (∀ o, w'.cell? ⟨w.heap.size, o, none⟩ = (#[.int .i64 a.rule, .int .i64 a.year, .int .i64 a.nom] : Array Value)[o]?) ∧ (∀ o, w'.cell? ⟨w.heap.size + 1, o, none⟩ = (#[.int .i64 b.rule, .int .i64 b.year, .int .i64 b.nom] : Array Value)[o]?)) ((refine (fun h => ⟨h.1, h.2.1⟩) (HF.out _ ?_); repeat (first | (with_reducible exact Below.refl _ _) | (with_reducible assumption) | (with_reducible refine ba ?_) | (with_reducible refine bd ?_) | (with_reducible refine bdn ?_ _) | (with_reducible refine bset ?_ (by first | exact Nat.le_refl _ | omega | (simp; done) | (simp; omega))) | (with_reducible refine bt ?_ (by with_reducible assumption)))))
    (first
      | (go_at_call 52; (with_reducible refine (Compare64 _ _ _).mono ?_); rintro e w' ⟨rfl, rfl⟩)
      | (go_at_call 53; (with_reducible refine (Compare _ _ _).mono ?_); rintro e w' ⟨rfl, rfl⟩)
      | (go_at_call 51; refine (Co.out _ _ _ _ (new_cell_drew V _ _ 0) (new_cell_drew V _ _ 1)).mono ?_; rintro e w' ⟨rfl, rfl⟩))
  all_goals go_wp2
  all_goals go_ret
  all_goals refine ⟨rfl, bt hB ?_⟩
  all_goals repeat (first | (with_reducible exact Below.refl _ _) | (with_reducible assumption) | (with_reducible refine ba ?_) | (with_reducible refine bd ?_) | (with_reducible refine bdn ?_ _) | (with_reducible refine bset ?_ (by first | exact Nat.le_refl _ | omega | (simp; done) | (simp; omega))) | (with_reducible refine bt ?_ (by with_reducible assumption)))
end Cmp
end Go.Proofs.YtopdjebnfhfpcaaDoor
