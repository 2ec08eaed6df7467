/-
  noontideref27.Check, as the program runs it.
-/
import Derived.Test.YtopdjebnfhfpcaaDoorR27
import Derived.Test.YtopdjebnfhfpcaaDoorCheck
namespace Go.Proofs.YtopdjebnfhfpcaaDoor
open Go.RowKit NB
namespace R27
theorem same_in {r x : RuleV} {l : List RuleV} {j : Nat} (h : l[j]? = some x) (hn : x.name = r.name) : Chk.same r (l.take (j + 1)) = Chk.same r (l.take j) ++ [x] := by
  unfold Chk.same
  rw [List.take_add_one, h, List.filter_append]
  simp [hn]
theorem same_out {r x : RuleV} {l : List RuleV} {j : Nat} (h : l[j]? = some x) (hn : ¬ x.name = r.name) : Chk.same r (l.take (j + 1)) = Chk.same r (l.take j) := by
  unfold Chk.same
  rw [List.take_add_one, h, List.filter_append]
  simp [hn]
theorem bad_app {r : RuleV} : ∀ (a c : List RuleV), Chk.firstBad r a = 0 → Chk.firstBad r (a ++ c) = Chk.firstBad r c
  | [], _, _ => rfl
  | y :: ys, c, h => by
    unfold Chk.firstBad at h
    by_cases hy : Apt.pairE y r = 0
    · rw [if_pos hy] at h
      rw [List.cons_append]
      conv => lhs; unfold Chk.firstBad
      rw [if_pos hy]
      exact bad_app ys c h
    · rw [if_neg hy] at h
      exact absurd h hy
theorem bad_keep {r : RuleV} : ∀ (a c : List RuleV), Chk.firstBad r a ≠ 0 → Chk.firstBad r (a ++ c) = Chk.firstBad r a
  | [], _, h => absurd rfl h
  | y :: ys, c, h => by
    unfold Chk.firstBad at h
    rw [List.cons_append]
    unfold Chk.firstBad
    by_cases hy : Apt.pairE y r = 0
    · rw [if_pos hy] at h
      rw [if_pos hy, if_pos hy]
      exact bad_keep ys c h
    · rw [if_neg hy, if_neg hy]
theorem bad_one {r x : RuleV} : Chk.firstBad r [x] = Apt.pairE x r := by
  unfold Chk.firstBad Chk.firstBad
  split
  · rename_i h; exact h.symm
  · rfl
def Ok (r : RuleV) (l : List RuleV) (j : Nat) : Prop := Chk.firstBad r (Chk.same r (l.take j)) = 0
theorem Ok.skip {r x : RuleV} {l : List RuleV} {j : Nat} (h : Ok r l j) (hx : l[j]? = some x) (hn : ¬ x.name = r.name) : Ok r l (j + 1) := by
  unfold Ok at *
  rwa [same_out hx hn]
theorem Ok.good {r x : RuleV} {l : List RuleV} {j : Nat} (h : Ok r l j) (hx : l[j]? = some x) (hn : x.name = r.name) (hp : Apt.pairE x r = 0) : Ok r l (j + 1) := by
  unfold Ok at *
  rw [same_in hx hn, bad_app _ _ h, bad_one, hp]
theorem Ok.bad {r x : RuleV} {l : List RuleV} {j k : Nat} (h : Ok r l j) (hx : l[j]? = some x) (hn : x.name = r.name) (hp : Apt.pairE x r ≠ 0) (hj : j < k) : Chk.firstBad r (Chk.same r (l.take k)) = Apt.pairE x r := by
  have h1 : Chk.firstBad r (Chk.same r (l.take (j + 1))) = Apt.pairE x r := by
    rw [same_in hx hn, bad_app _ _ h, bad_one]
  have h2 : l.take k = l.take (j + 1) ++ (l.take k).drop (j + 1) := by
    have := List.take_append_drop (j + 1) (l.take k)
    rw [List.take_take, Nat.min_eq_left (by omega)] at this
    exact this.symm
  rw [h2]
  unfold Chk.same at h1 ⊢
  rw [List.filter_append, bad_keep _ _ (by rw [h1]; exact hp), h1]
def At (l : List RuleV) (k : Nat) : Prop := Chk.check l = Chk.scan (l.take k) (l.drop k) k
theorem At.next {l : List RuleV} {k : Nat} {r : RuleV} (h : At l k) (hr : l[k]? = some r) (ho : Ok r l k) : At l (k + 1) := by
  unfold At at *
  rw [h, Chk.check_at hr]
  exact if_pos ho
theorem At.found {l : List RuleV} {k : Nat} {r : RuleV} {e : Int} (h : At l k) (hr : l[k]? = some r) (hb : Chk.firstBad r (Chk.same r (l.take k)) = e) (hn : e ≠ 0) : Chk.check l = ((k : Int), e) := by
  unfold At at h
  rw [h, Chk.check_at hr, if_neg (by rw [hb]; exact hn), hb]
theorem At.fin {l : List RuleV} (h : At l l.length) : Chk.check l = (-1, 0) := by
  unfold At at h
  rw [h, List.drop_length]
  rfl
set_option maxHeartbeats 6400000 in
theorem Check (b off cap : Nat) (l : List RuleV) (w : World) (hc : Lies w b off 11 (l.map RuleV.cells)) (hb : b < w.heap.size) (hcap : l.length ≤ 9223372036854775807) (hs : ∀ r ∈ l, r.Fit) :
    Calls Tryd.prog 15 #[.slice (some ⟨b, off, none⟩) l.length cap] w (Chk.Post (Chk.check l) w) := by
  unfold Chk.Post
  obtain ⟨n, hn⟩ : ∃ n, n = l.length := ⟨_, rfl⟩
  rw [← hn] at hcap ⊢
  have HN := Lib.hid hn
  have Hc := Lib.hid hc
  have Hs := Lib.hid hs
  clear hn hc hs
  go_enter Tryd.func15, Tryd.ntmps15
  go_wp2
  go_loopw [9] (fun i wr => ∃ k : Nat, k ≤ n ∧ i = .int .i64 k ∧ At l k ∧ Below w.heap.size w wr) (fun i _ => n - (intOf i).toNat)
  case atStart => exact ⟨0, Nat.zero_le _, rfl, rfl, Below.refl _ _⟩
  case round =>
    obtain ⟨k, hk, rfl, hat, hbel⟩ := hrel
    obtain ⟨wo, hwo⟩ : ∃ wo : World, wo = wr := ⟨_, rfl⟩
    subst hwo
    by_cases hlt : k < n
    · obtain ⟨r, hr⟩ : ∃ r, l[k]? = some r := ⟨l[k]'(by rw [← HN.out]; exact hlt), by simp⟩
      have hrf := Hs.out r (List.mem_of_getElem? hr)
      have Hr := Lib.hid hr
      have Hbel := Lib.hid hbel
      clear hr hbel
      go_wp2
      go_loopw [5] (fun i wr => ∃ j : Nat, j ≤ k ∧ i = .int .i64 j ∧ Ok r l j ∧ Below w.heap.size w wr) (fun i _ => k - (intOf i).toNat)
      case atStart => exact ⟨0, Nat.zero_le _, rfl, rfl, Hbel.out⟩
      case round =>
        obtain ⟨j, hj, rfl, hok, hbel⟩ := hrel
        by_cases hjk : j < k
        · obtain ⟨x, hx⟩ : ∃ x, l[j]? = some x := ⟨l[j]'(by rw [← HN.out]; omega), by simp⟩
          have hxf := Hs.out x (List.mem_of_getElem? hx)
          have c (i : Nat) (y : RuleV) (hy : l[i]? = some y) (o : Nat) (v : Value) (hv : y.cells[o]? = some v) : wr.cell? ⟨b, off + i * 11 + o, none⟩ = some v := by
            rw [hbel.cell (p := ⟨b, off + i * 11 + o, none⟩) hb]
            exact Hc.out i o _ v (by rw [List.getElem?_map, hy]; rfl) hv
          have x0 := c j x hx 0 _ rfl
          have x1 := c j x hx 1 _ rfl
          have x2 := c j x hx 2 _ rfl
          have x3 := c j x hx 3 _ rfl
          have x4 := c j x hx 4 _ rfl
          have x5 := c j x hx 5 _ rfl
          have x6 := c j x hx 6 _ rfl
          have x7 := c j x hx 7 _ rfl
          have x8 := c j x hx 8 _ rfl
          have x9 := c j x hx 9 _ rfl
          have x10 := c j x hx 10 _ rfl
          simp only [Nat.add_zero] at x0
          have r0 := c k r Hr.out 0 _ rfl
          have r1 := c k r Hr.out 1 _ rfl
          have r2 := c k r Hr.out 2 _ rfl
          have r3 := c k r Hr.out 3 _ rfl
          have r4 := c k r Hr.out 4 _ rfl
          have r5 := c k r Hr.out 5 _ rfl
          have r6 := c k r Hr.out 6 _ rfl
          have r7 := c k r Hr.out 7 _ rfl
          have r8 := c k r Hr.out 8 _ rfl
          have r9 := c k r Hr.out 9 _ rfl
          have r10 := c k r Hr.out 10 _ rfl
          simp only [Nat.add_zero] at r0
          clear c
          have cp := fun W => Pair x r hxf hrf W
          unfold RuleV.cells at cp
          have Hx := Lib.hid hx
          clear hx
          have hjn : j < n := by omega
          have hbw : b < wr.heap.size := Nat.lt_of_lt_of_le hb hbel.size
          by_cases hnm : x.name = r.name
          case neg =>
            have e1 := str_ne hnm
            have Hnm := Lib.hid hnm
            clear hnm cp
            go_wp2
            go_quiet (fail)
            go_wp2
            go_roundw
            case rel => exact ⟨j + 1, by omega, by go_num, hok.skip Hx.out Hnm.out, by repeat (first | (with_reducible exact Below.refl _ _) | (with_reducible assumption) | (with_reducible refine ba ?_) | (with_reducible refine bd ?_) | (with_reducible refine bdn ?_ _) | (with_reducible refine bset ?_ (by first | exact Nat.le_refl _ | omega | (simp; done) | (simp; omega))) | (with_reducible refine bt ?_ (by with_reducible assumption)))⟩
            case measure => simp [intOf]; omega
          case pos =>
            have e1 := str_eq hnm
            have Hnm := Lib.hid hnm
            clear hnm
            by_cases hp : Apt.pairE x r = 0
            · have e2 : (Apt.pairE x r == 0) = true := by rw [beq_iff_eq]; exact hp
              have e3 : (Apt.pairE x r != 0) = false := by rw [bne, e2]; rfl
              have hnx := hok.good Hx.out Hnm.out hp
              clear hp hok
              generalize Apt.pairE x r = pe at *
              have Cp := Lib.hid cp
              have Hnx := Lib.hid hnx
              clear cp hnx
              go_wp2
              go_quiet (fail)
              go_wp2
              (refine region_later (by kernel_rfl) (by kernel_rfl) ?_; (repeat (go_big_quiet_step (first | (go_at_call 17; rename_i xL; apply calls_later xL (Nat.le_refl _); exact (Cp.out _))))); refine wpQuiet_nil ?_; rintro _ ⟨⟨u1, hu1⟩, rfl⟩)
              go_wp2
              go_roundw
              case rel => exact ⟨j + 1, by omega, by go_num, Hnx.out, by repeat (first | (with_reducible exact Below.refl _ _) | (with_reducible assumption) | (with_reducible refine ba ?_) | (with_reducible refine bd ?_) | (with_reducible refine bdn ?_ _) | (with_reducible refine bset ?_ (by first | exact Nat.le_refl _ | omega | (simp; done) | (simp; omega))) | (with_reducible refine bt ?_ (by with_reducible assumption)))⟩
              case measure => simp [intOf]; omega
            · have e2 : (Apt.pairE x r == 0) = false := by rw [beq_eq_false_iff_ne]; exact hp
              have e3 : (Apt.pairE x r != 0) = true := by rw [bne, e2]; rfl
              have hfd := hat.found Hr.out (hok.bad Hx.out Hnm.out hp hjk) hp
              clear hp hok
              generalize Apt.pairE x r = pe at *
              have Cp := Lib.hid cp
              have Hfd := Lib.hid hfd
              clear cp hfd
              go_wp2
              go_quiet (fail)
              go_wp2
              (refine region_later (by kernel_rfl) (by kernel_rfl) ?_; (repeat (go_big_quiet_step (first | (go_at_call 17; rename_i xL; apply calls_later xL (Nat.le_refl _); exact (Cp.out _))))); refine wpQuiet_nil ?_; rintro _ ⟨⟨u1, hu1⟩, rfl⟩)
              go_wp2
              go_ret2
              exact ⟨by rw [Hfd.out]; rfl, by repeat (first | (with_reducible exact Below.refl _ _) | (with_reducible assumption) | (with_reducible refine ba ?_) | (with_reducible refine bd ?_) | (with_reducible refine bdn ?_ _) | (with_reducible refine bset ?_ (by first | exact Nat.le_refl _ | omega | (simp; done) | (simp; omega))) | (with_reducible refine bt ?_ (by with_reducible assumption)))⟩
        · obtain rfl : j = k := by omega
          have hnx := hat.next Hr.out hok
          have Hnx := Lib.hid hnx
          clear hnx
          go_wp2
          go_roundw
          case rel => exact ⟨j + 1, by omega, by go_num, Hnx.out, hbel⟩
          case measure => simp [intOf]; omega
    · obtain rfl : k = n := by omega
      have hfin : Chk.check l = (-1, 0) := At.fin (by rw [← HN.out]; exact hat)
      have Hfin := Lib.hid hfin
      clear hfin
      go_wp2
      go_ret2
      exact ⟨by rw [Hfin.out]; rfl, hbel⟩
theorem CheckNil (w : World) : Calls Tryd.prog 15 #[.slice none 0 0] w (Chk.Post (Chk.check []) w) := by
  have h : Chk.check [] = (-1, 0) := rfl
  rw [h]
  unfold Chk.Post
  go_enter Tryd.func15, Tryd.ntmps15
  go_wp2
  go_loopw [9] (fun i wr => i = .int .i64 0 ∧ Below w.heap.size w wr) (fun i _ => 0)
  case atStart => exact ⟨rfl, Below.refl _ _⟩
  case round =>
    obtain ⟨rfl, hbel⟩ := hrel
    go_wp2
    go_ret2
    exact ⟨rfl, hbel⟩
end R27
end Go.Proofs.YtopdjebnfhfpcaaDoor
