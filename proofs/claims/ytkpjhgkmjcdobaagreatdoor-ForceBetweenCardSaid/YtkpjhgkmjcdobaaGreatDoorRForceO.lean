import Derived.Test.YtkpjhgkmjcdobaaGreatDoorRForceA
/-
  noontideref33.others.
-/
namespace Go.Proofs.YtkpjhgkmjcdobaaGreatDoor
open Go.RowKit NB Nxt
namespace RFrc
open Frc
def ov (e : EraV) (v : ValV) (x : RuleV) : RuleV := if x.name = e.rules ∧ valO e x = v then { x with name := ⟨#[]⟩ } else x
theorem othV_at {l : List RuleV} {e : EraV} {v : ValV} {k : Nat} {x : RuleV} (h : l[k]? = some x) : (othV l e v)[k]? = some (ov e v x) := by
  unfold othV
  rw [List.getElem?_map, h]
  rfl
theorem ov_fit {e : EraV} {v : ValV} {x : RuleV} (h : x.Fit) : (ov e v x).Fit := by
  unfold ov
  split
  · exact ⟨by show (⟨#[]⟩ : ByteArray).size ≤ _; decide, h.l, h.fr, h.to, h.sec, h.save⟩
  · exact h
/-- of the copy the first ones are done -/
def DoneV (l : List RuleV) (e : EraV) (v : ValV) (k : Nat) (C : Array Value) : Prop := ∀ (i : Nat) (x : RuleV), l[i]? = some x → ∀ (j : Nat) (u : Value), (if i < k then ov e v x else x).cells[j]? = some u → C[i * 11 + j]? = some u
theorem DoneV.skip {l : List RuleV} {e : EraV} {v : ValV} {k : Nat} {C : Array Value} (h : DoneV l e v k C) {y : RuleV} (hy : l[k]? = some y) (hn : ¬ (y.name = e.rules ∧ valO e y = v)) : DoneV l e v (k + 1) C := by
  intro i x hx j u hu
  refine h i x hx j u ?_
  by_cases hi : i < k
  · rw [if_pos hi]; rw [if_pos (by omega)] at hu; exact hu
  · rw [if_neg hi]
    by_cases hi2 : i < k + 1
    · obtain rfl : i = k := by omega
      rw [hy] at hx
      cases hx
      rw [if_pos hi2] at hu
      unfold ov at hu
      rw [if_neg hn] at hu
      exact hu
    · rw [if_neg hi2] at hu; exact hu
theorem DoneV.put {l : List RuleV} {e : EraV} {v : ValV} {k : Nat} {C : Array Value} (h : DoneV l e v k C) (hC : l.length * 11 ≤ C.size) {y : RuleV} (hy : l[k]? = some y) (hn : y.name = e.rules ∧ valO e y = v) : DoneV l e v (k + 1) (C.setIfInBounds (k * 11) (.string ⟨#[]⟩)) := by
  intro i x hx j u hu
  have hkl := (List.getElem?_eq_some_iff.1 hy).1
  have hj : j < 11 := (List.getElem?_eq_some_iff.1 hu).1
  by_cases hi : i = k
  · subst hi
    rw [hy] at hx
    cases hx
    rw [if_pos (by omega)] at hu
    unfold ov at hu
    rw [if_pos hn] at hu
    by_cases hj0 : j = 0
    · subst hj0
      cases hu
      rw [Nat.add_zero, Array.getElem?_setIfInBounds_self_of_lt (by omega)]
    · rw [Array.getElem?_setIfInBounds_ne (by omega)]
      refine h i y hy j u ?_
      rw [if_neg (by omega)]
      obtain ⟨j', rfl⟩ : ∃ j', j = j' + 1 := ⟨j - 1, by omega⟩
      exact hu
  · rw [Array.getElem?_setIfInBounds_ne (by omega)]
    refine h i x hx j u ?_
    by_cases hi1 : i < k
    · rw [if_pos hi1]; rw [if_pos (by omega)] at hu; exact hu
    · rw [if_neg hi1]; rw [if_neg (by omega)] at hu; exact hu
theorem row_boxV {w : World} {base : Nat} {v' : Value} {l : List RuleV} (h : w.ownsRow base 75 11 v' l.length (l.flatMap RuleV.cells)) (h0 : 0 < l.length) : ∃ (gc cap : Nat) (C : Array Value), v' = .slice (some ⟨gc, 0, none⟩) l.length cap ∧ base ≤ gc ∧ Box w gc C 75 ∧ l.length * 11 ≤ C.size ∧ ∀ e v, DoneV l e v 0 C := by
  rcases h.2 with ⟨hv, h2⟩ | ⟨gc, cap, cur, hv, hg, hh, hle, hcap, hcs, htk⟩
  · omega
  · refine ⟨gc, cap, cur, hv, hg, hh, by rw [hcs]; exact Nat.mul_le_mul_right _ hle, fun e v i x hx j u hu => ?_⟩
    rw [if_neg (Nat.not_lt_zero _)] at hu
    have h1 := Grp.flat_at (f := RuleV.cells) (sz := 11) (fun _ => rfl) l i j x u hx hu
    rw [← htk, List.getElem?_take] at h1
    split at h1
    · simpa using h1
    · cases h1
set_option maxHeartbeats 3200000 in
set_option maxRecDepth 100000 in
theorem others1 {w : World} {r : Value} {l : List RuleV} (hr : Holds w r l) (e : EraV) (he : e.Fit) (v : ValV) (hs : ∀ x ∈ l, x.letter.size ≤ 1000000) (hn : l.length ≤ 100000) (h0 : 0 < l.length) :
    Calls Tryz.prog 64 #[r, .agg e.cells.toArray, .agg v.cells.toArray] w fun x w' => ∃ v', x = .returned v' ∧ Holds w' v' (othV l e v) ∧ Below w.heap.size w w' := by
  have cval := fun W (save : Int) (letter : ByteArray) hl => value e he.f save letter hl W
  have HR := Lib.hid hr
  have Hs := Lib.hid hs
  rcases hr.lies with ⟨p, cap, _, h2⟩ | ⟨rb, off, rc, rfl, hrb, hcl⟩
  · rw [h2] at h0; exact absurd h0 (by decide)
  obtain ⟨i0, hi, hz0, hz1, hz2⟩ := info_parts Chk.info_rule
  have hnews : ∀ (W : World), Below w.heap.size w W → ∀ j u, (l.flatMap RuleV.cells)[j]? = some u → W.cell? ((⟨rb, off, none⟩ : Addr).add j) = some u := by
    intro W hW j u hu
    obtain ⟨x, hx, hc⟩ := flat_inv hu
    rw [addr_add, hW.cell (p := ⟨rb, off + j, none⟩) hrb]
    have := hcl (j / 11) (j % 11) _ u (by rw [List.getElem?_map, hx]; rfl) hc
    rw [show off + j / 11 * 11 + j % 11 = off + j by omega] at this
    exact this
  have A := Lib.hid hnews
  have h1 := flat_one l
  have h2 := flat_len l
  unfold EraV.cells ValV.cells at *
  have Cval := Lib.hid cval
  clear cval hr hs hcl hnews
  obtain ⟨n, hnl⟩ : ∃ n, n = l.length := ⟨_, rfl⟩
  rw [← hnl] at hn h0 h2 HR ⊢
  have HN := Lib.hid hnl
  clear hnl
  obtain ⟨news, hnw⟩ : ∃ news, news = l.flatMap RuleV.cells := ⟨_, rfl⟩
  rw [← hnw] at h1 h2 A
  have HNW := Lib.hid hnw
  clear hnw
  go_enter Tryz.func64, Tryz.ntmps64
  go_upto_region 1 with fail
  have bE : Box ((w.alloc (.cells #[.int .i64 e.off, .int .i64 e.kind, .int .i64 e.save, .string e.rules, .string e.format, .bool e.u.has, .int .i64 e.u.year, .int .i64 e.u.month, .int .i64 e.u.kind, .int .i64 e.u.week, .int .i64 e.u.day, .int .i64 e.u.sec, .int .i64 e.u.base] 30)).alloc (.cells #[.int .i64 v.off, .int .i64 v.save, .string v.abbr] 58)) w.heap.size #[.int .i64 e.off, .int .i64 e.kind, .int .i64 e.save, .string e.rules, .string e.format, .bool e.u.has, .int .i64 e.u.year, .int .i64 e.u.month, .int .i64 e.u.kind, .int .i64 e.u.week, .int .i64 e.u.day, .int .i64 e.u.sec, .int .i64 e.u.base] 30 := Box.old (Box.new _ _ _)
  have bV : Box ((w.alloc (.cells #[.int .i64 e.off, .int .i64 e.kind, .int .i64 e.save, .string e.rules, .string e.format, .bool e.u.has, .int .i64 e.u.year, .int .i64 e.u.month, .int .i64 e.u.kind, .int .i64 e.u.week, .int .i64 e.u.day, .int .i64 e.u.sec, .int .i64 e.u.base] 30)).alloc (.cells #[.int .i64 v.off, .int .i64 v.save, .string v.abbr] 58)) (w.heap.size + 1) #[.int .i64 v.off, .int .i64 v.save, .string v.abbr] 58 := boxS1 _ _ _ _
  have hB1 : Below w.heap.size w ((w.alloc (.cells #[.int .i64 e.off, .int .i64 e.kind, .int .i64 e.save, .string e.rules, .string e.format, .bool e.u.has, .int .i64 e.u.year, .int .i64 e.u.month, .int .i64 e.u.kind, .int .i64 e.u.week, .int .i64 e.u.day, .int .i64 e.u.sec, .int .i64 e.u.base] 30)).alloc (.cells #[.int .i64 v.off, .int .i64 v.save, .string v.abbr] 58)) := by repeat (first | (with_reducible exact Below.refl _ _) | (with_reducible assumption) | (with_reducible refine ba ?_) | (with_reducible refine bd ?_) | (with_reducible refine bdn ?_ _) | (with_reducible refine bset ?_ (by first | exact Nat.le_refl _ | omega | (simp; done) | (simp; omega))) | (with_reducible refine bt ?_ (by with_reducible assumption)))
  generalize ((w.alloc (.cells #[.int .i64 e.off, .int .i64 e.kind, .int .i64 e.save, .string e.rules, .string e.format, .bool e.u.has, .int .i64 e.u.year, .int .i64 e.u.month, .int .i64 e.u.kind, .int .i64 e.u.week, .int .i64 e.u.day, .int .i64 e.u.sec, .int .i64 e.u.base] 30)).alloc (.cells #[.int .i64 v.off, .int .i64 v.save, .string v.abbr] 58)) = X at *
  have lXv := bV.lt
  go_upto_region 3 with (at_builtin; refine wpList_append_own _ rfl _ _ 22 rfl (w.heap.size + 1 + 1) 75 i0 _ 11 104 Tryz.underlying22 hi hz0 hz1 hz2 rfl (by decide) _ _ _ rfl (World.ownsRow_made X #[] 0 (by omega) (Nat.zero_le _) (by simp)) ⟨rb, off, none⟩ n rc news rfl ?qc1 ?qc2 ?qc3 ?qc4 ?qc5 ?qc6 ?_)
  case qc1 => exact h2
  case qc2 => exact A.out _ (hB1.alloc hB1.size _)
  case qc3 => exact h1
  case qc4 => rw [Nat.zero_add]; unfold maxLen; omega
  case qc5 => rw [Nat.zero_add]; omega
  case qc6 => simp; omega
  intro v' w1 hown hgrow hnil
  have hrow : w1.ownsRow (w.heap.size + 1 + 1) 75 11 v' l.length (l.flatMap RuleV.cells) := by rw [← HNW.out, ← HN.out]; exact (by simpa using hown)
  obtain ⟨gc, cap2, C, hv', hgc, bC, hC, hD⟩ := row_boxV hrow (by rw [← HN.out]; exact h0)
  rw [← HN.out] at hv' hC
  subst hv'
  have sX := hB1.size
  have hbel : Below w.heap.size w w1 := (hB1.alloc hB1.size _).grown hgrow (by simp; omega) (by intro k hk; simp [Value.ownBlock] at hk; omega)
  have bE1 : Box w1 w.heap.size #[.int .i64 e.off, .int .i64 e.kind, .int .i64 e.save, .string e.rules, .string e.format, .bool e.u.has, .int .i64 e.u.year, .int .i64 e.u.month, .int .i64 e.u.kind, .int .i64 e.u.week, .int .i64 e.u.day, .int .i64 e.u.sec, .int .i64 e.u.base] 30 := (hgrow.block w.heap.size (by simp; omega) (by simp [Value.ownBlock]; omega)).trans (Box.old bE)
  have bV1 : Box w1 (w.heap.size + 1) #[.int .i64 v.off, .int .i64 v.save, .string v.abbr] 58 := (hgrow.block (w.heap.size + 1) (by simp; omega) (by simp [Value.ownBlock]; omega)).trans (Box.old bV)
  have hd0 := hD e v
  clear hrow hown hgrow hnil bE bV hB1 lXv A h1 h2 HNW hz0 hz1 hz2 hi sX hD
  go_wp2
  go_loopw [15] (fun i wr => ∃ k : Nat, i = .int .i64 k ∧ k ≤ n ∧ Below w.heap.size w wr ∧ Box wr w.heap.size #[.int .i64 e.off, .int .i64 e.kind, .int .i64 e.save, .string e.rules, .string e.format, .bool e.u.has, .int .i64 e.u.year, .int .i64 e.u.month, .int .i64 e.u.kind, .int .i64 e.u.week, .int .i64 e.u.day, .int .i64 e.u.sec, .int .i64 e.u.base] 30 ∧ Box wr (w.heap.size + 1) #[.int .i64 v.off, .int .i64 v.save, .string v.abbr] 58 ∧ ∃ C : Array Value, Box wr gc C 75 ∧ n * 11 ≤ C.size ∧ DoneV l e v k C) (fun i _ => n - (intOf i).toNat)
  case atStart => exact ⟨0, rfl, Nat.zero_le _, hbel, bE1, bV1, C, bC, hC, hd0⟩
  case round =>
    clear hbel bE1 bV1 bC hC hd0 C
    obtain ⟨k, rfl, hk, hbel, bE, bV, C, bC, hC, hD⟩ := hrel
    have HD := Lib.hid hD
    have HbW := Lib.hid hbel
    have HE := Lib.hid bE
    have HV := Lib.hid bV
    have HC := Lib.hid bC
    clear hD
    by_cases hlt : k < n
    · obtain ⟨x, hx⟩ : ∃ x, l[k]? = some x := ⟨l[k]'(by rw [← HN.out]; exact hlt), by simp⟩
      have hcc : ∀ (j : Nat) (u : Value), x.cells[j]? = some u → wr.cell? ⟨gc, k * 11 + j, none⟩ = some u := fun j u hu => (bC.cell (k * 11 + j)).trans (HD.out k x hx j u (by rw [if_neg (Nat.lt_irrefl k)]; exact hu))
      have d0 := hcc 0 _ rfl
      have d1 := hcc 1 _ rfl
      have d2 := hcc 2 _ rfl
      have d3 := hcc 3 _ rfl
      have d4 := hcc 4 _ rfl
      have d5 := hcc 5 _ rfl
      have d6 := hcc 6 _ rfl
      have d7 := hcc 7 _ rfl
      have d8 := hcc 8 _ rfl
      have d9 := hcc 9 _ rfl
      have d10 := hcc 10 _ rfl
      simp only [Nat.add_zero] at d0
      have hlx := Hs.out x (List.mem_of_getElem? hx)
      have lC := bC.lt
      have Hx := Lib.hid hx
      clear hcc hx
      go_upto_region 5 with fail
      have bR : Box (wr.alloc (.cells #[.string x.name, .int .i64 x.fr, .int .i64 x.to, .int .i64 x.month, .int .i64 x.kind, .int .i64 x.week, .int .i64 x.day, .int .i64 x.sec, .int .i64 x.base, .int .i64 x.save, .string x.letter] 75)) wr.heap.size #[.string x.name, .int .i64 x.fr, .int .i64 x.to, .int .i64 x.month, .int .i64 x.kind, .int .i64 x.week, .int .i64 x.day, .int .i64 x.sec, .int .i64 x.base, .int .i64 x.save, .string x.letter] 75 := Box.new _ _ _
      have bE' : Box (wr.alloc (.cells #[.string x.name, .int .i64 x.fr, .int .i64 x.to, .int .i64 x.month, .int .i64 x.kind, .int .i64 x.week, .int .i64 x.day, .int .i64 x.sec, .int .i64 x.base, .int .i64 x.save, .string x.letter] 75)) w.heap.size #[.int .i64 e.off, .int .i64 e.kind, .int .i64 e.save, .string e.rules, .string e.format, .bool e.u.has, .int .i64 e.u.year, .int .i64 e.u.month, .int .i64 e.u.kind, .int .i64 e.u.week, .int .i64 e.u.day, .int .i64 e.u.sec, .int .i64 e.u.base] 30 := Box.old bE
      have bV' : Box (wr.alloc (.cells #[.string x.name, .int .i64 x.fr, .int .i64 x.to, .int .i64 x.month, .int .i64 x.kind, .int .i64 x.week, .int .i64 x.day, .int .i64 x.sec, .int .i64 x.base, .int .i64 x.save, .string x.letter] 75)) (w.heap.size + 1) #[.int .i64 v.off, .int .i64 v.save, .string v.abbr] 58 := Box.old bV
      have bC' : Box (wr.alloc (.cells #[.string x.name, .int .i64 x.fr, .int .i64 x.to, .int .i64 x.month, .int .i64 x.kind, .int .i64 x.week, .int .i64 x.day, .int .i64 x.sec, .int .i64 x.base, .int .i64 x.save, .string x.letter] 75)) gc C 75 := Box.old bC
      have hb' : Below w.heap.size w (wr.alloc (.cells #[.string x.name, .int .i64 x.fr, .int .i64 x.to, .int .i64 x.month, .int .i64 x.kind, .int .i64 x.week, .int .i64 x.day, .int .i64 x.sec, .int .i64 x.base, .int .i64 x.save, .string x.letter] 75)) := by repeat (first | (with_reducible exact Below.refl _ _) | (with_reducible assumption) | (with_reducible refine ba ?_) | (with_reducible refine bd ?_) | (with_reducible refine bdn ?_ _) | (with_reducible refine bset ?_ (by first | exact Nat.le_refl _ | omega | (simp; done) | (simp; omega))) | (with_reducible refine bt ?_ (by with_reducible assumption)))
      have hpq : gc < wr.heap.size ∧ w.heap.size < wr.heap.size := ⟨lC, bE.lt⟩
      clear d0 d1 d2 d3 d4 d5 d6 d7 d8 d9 d10 bE bV bC hbel
      generalize (wr.alloc (.cells #[.string x.name, .int .i64 x.fr, .int .i64 x.to, .int .i64 x.month, .int .i64 x.kind, .int .i64 x.week, .int .i64 x.day, .int .i64 x.sec, .int .i64 x.base, .int .i64 x.save, .string x.letter] 75)) = Y at *
      obtain ⟨q, hq⟩ : ∃ q, q = wr.heap.size := ⟨_, rfl⟩
      rw [← hq] at bR hpq ⊢
      clear hq lC
      have kR := bR.cell
      have lR := bR.lt
      have kE := bE'.cell
      have lE := bE'.lt
      have kV := bV'.cell
      have lV := bV'.lt
      have HE' := Lib.hid bE'
      have HV' := Lib.hid bV'
      have HC' := Lib.hid bC'
      have Hb' := Lib.hid hb'
      clear bR bE' bV' bC' hb'
      by_cases hnm : x.name = e.rules
      · obtain ⟨y, hy⟩ : ∃ y, y = valO e x := ⟨_, rfl⟩
        have cv : ∀ W, Calls Tryz.prog 57 #[.agg #[.int .i64 e.off, .int .i64 e.kind, .int .i64 e.save, .string e.rules, .string e.format, .bool e.u.has, .int .i64 e.u.year, .int .i64 e.u.month, .int .i64 e.u.kind, .int .i64 e.u.week, .int .i64 e.u.day, .int .i64 e.u.sec, .int .i64 e.u.base], .int .i64 x.save, .string x.letter] W fun z w' => z = .returned (.agg #[.int .i64 y.off, .int .i64 y.save, .string y.abbr]) ∧ Below W.heap.size W w' := fun W => by rw [hy]; exact Cval.out W x.save x.letter hlx
        have Cv := Lib.hid cv
        have HY := Lib.hid hy
        have e1 := str_eq hnm
        have Hnm := Lib.hid hnm
        clear cv hy hnm
        by_cases hyv : y = v
        · subst hyv
          (refine region_later (by kernel_rfl) (by kernel_rfl) ?_; (repeat (go_big_quiet_step (first | (go_at_call 57; rename_i xL; apply calls_later xL (Nat.le_refl _); exact (Cv.out _))))); refine wpQuiet_nil ?_; rintro _ ⟨⟨u5, hu5⟩, rfl⟩)
          obtain ⟨v0, hv0⟩ : ∃ v, C[k * 11]? = some v := ⟨C[k * 11]'(by omega), by simp⟩
          have bC5 := HC'.out.later hu5
          have g0 := (bC5.cell (k * 11)).trans hv0
          have f0 := bC5.free (k * 11)
          have lC5 := bC5.lt
          have HC5 := Lib.hid bC5
          clear bC5
          go_wp2
          have hbel := Hb'.out.trans (hu5.mono Hb'.out.size)
          go_roundw
          case rel => exact ⟨k + 1, by go_num, hlt, by repeat (first | (with_reducible exact Below.refl _ _) | (with_reducible assumption) | (with_reducible refine ba ?_) | (with_reducible refine bd ?_) | (with_reducible refine bdn ?_ _) | (with_reducible refine bset ?_ (by first | exact Nat.le_refl _ | omega | (simp; done) | (simp; omega))) | (with_reducible refine bt ?_ (by with_reducible assumption))), (HE'.out.later hu5).other (by omega), (HV'.out.later hu5).other (by omega), _, HC5.out.set, by simp; omega, HD.out.put (by rw [← HN.out]; exact hC) Hx.out ⟨Hnm.out, HY.out.symm⟩⟩
          case measure => simp [intOf]; omega
        · have hnx : ¬ (x.name = e.rules ∧ valO e x = v) := fun h => hyv (HY.out.trans h.2)
          have Hnx := Lib.hid hnx
          have hcs : y.off ≠ v.off ∨ (y.off = v.off ∧ y.save ≠ v.save) ∨ (y.off = v.off ∧ y.save = v.save ∧ y.abbr ≠ v.abbr) := by
            obtain ⟨yo, ys, ya⟩ := y
            obtain ⟨vo, vs, va⟩ := v
            simp only [ValV.mk.injEq, not_and] at hyv ⊢
            by_cases h1 : yo = vo
            · by_cases h2 : ys = vs
              · exact .inr (.inr ⟨h1, h2, hyv h1 h2⟩)
              · exact .inr (.inl ⟨h1, h2⟩)
            · exact .inl h1
          clear hnx hyv
          rcases hcs with h1 | ⟨h1, h2⟩ | ⟨h1, h2, h3⟩
          all_goals
            first
              | (have e2 := str_ne h3; rw [h1, h2] at Cv; clear h1 h2 h3)
              | (have e2 : (y.save == v.save) = false := (by simpa using h2); rw [h1] at Cv; clear h1 h2)
              | (have e2 : (y.off == v.off) = false := by simpa using h1)
            (refine region_later (by kernel_rfl) (by kernel_rfl) ?_; (repeat (go_big_quiet_step (first | (go_at_call 57; rename_i xL; apply calls_later xL (Nat.le_refl _); exact (Cv.out _))))); refine wpQuiet_nil ?_; rintro _ ⟨⟨u5, hu5⟩, rfl⟩)
            go_wp2
            have hbel := Hb'.out.trans (hu5.mono Hb'.out.size)
            go_roundw
            case rel => exact ⟨k + 1, by go_num, hlt, by repeat (first | (with_reducible exact Below.refl _ _) | (with_reducible assumption) | (with_reducible refine ba ?_) | (with_reducible refine bd ?_) | (with_reducible refine bdn ?_ _) | (with_reducible refine bset ?_ (by first | exact Nat.le_refl _ | omega | (simp; done) | (simp; omega))) | (with_reducible refine bt ?_ (by with_reducible assumption))), HE'.out.later hu5, HV'.out.later hu5, _, HC'.out.later hu5, hC, HD.out.skip Hx.out Hnx.out⟩
            case measure => simp [intOf]; omega
      · have e1 := str_ne hnm
        have Hnx := Lib.hid (fun h : x.name = e.rules ∧ valO e x = v => hnm h.1)
        clear hnm
        go_quiet (fail)
        go_wp2
        have hbel := Hb'.out
        refine ⟨⟨k + 1, by go_num, hlt, by repeat (first | (with_reducible exact Below.refl _ _) | (with_reducible assumption) | (with_reducible refine ba ?_) | (with_reducible refine bd ?_) | (with_reducible refine bdn ?_ _) | (with_reducible refine bset ?_ (by first | exact Nat.le_refl _ | omega | (simp; done) | (simp; omega))) | (with_reducible refine bt ?_ (by with_reducible assumption))), HE'.out.drewN _, HV'.out.drewN _, _, HC'.out.drewN _, hC, HD.out.skip Hx.out Hnx.out⟩, by simp [intOf]; omega⟩
    · have hkn : k = n := by omega
      subst hkn
      have hn' := HN.out
      subst hn'
      have lC := bC.lt
      clear hbel bE bV bC
      go_wp2
      go_ret
      refine ⟨_, rfl, ?_, HbW.out⟩
      refine ⟨.inr ⟨gc, 0, cap2, by unfold othV; simp, lC, ?_⟩, fun z hz => ?_, by unfold othV; simp; omega⟩
      · intro i j cs u hi hj
        unfold othV at hi
        rw [List.map_map, List.getElem?_map] at hi
        cases hx : l[i]? with
        | none => rw [hx] at hi; cases hi
        | some x =>
          rw [hx] at hi
          cases hi
          rw [Nat.zero_add, HC.out.cell]
          exact HD.out i x hx j u (by rw [if_pos (List.getElem?_eq_some_iff.1 hx).1]; exact hj)
      · unfold othV at hz
        obtain ⟨x, hx, rfl⟩ := List.mem_map.1 hz
        exact ov_fit (HR.out.fit x hx)
set_option maxHeartbeats 3200000 in
set_option maxRecDepth 100000 in
theorem others0 (p : Option Addr) (c : Nat) (e : EraV) (v : ValV) (w : World) :
    Calls Tryz.prog 64 #[.slice p 0 c, .agg e.cells.toArray, .agg v.cells.toArray] w fun x w' => ∃ v', x = .returned v' ∧ Holds w' v' [] ∧ Below w.heap.size w w' := by
  obtain ⟨i0, hi, hz0, hz1, hz2⟩ := info_parts Chk.info_rule
  unfold EraV.cells ValV.cells
  cases p with
  | none =>
    go_enter Tryz.func64, Tryz.ntmps64
    go_upto_region 3 with fail
    have hbel : Below w.heap.size w (((w.alloc (.cells #[.int .i64 e.off, .int .i64 e.kind, .int .i64 e.save, .string e.rules, .string e.format, .bool e.u.has, .int .i64 e.u.year, .int .i64 e.u.month, .int .i64 e.u.kind, .int .i64 e.u.week, .int .i64 e.u.day, .int .i64 e.u.sec, .int .i64 e.u.base] 30)).alloc (.cells #[.int .i64 v.off, .int .i64 v.save, .string v.abbr] 58)).alloc (.cells #[] 75)) := by repeat (first | (with_reducible exact Below.refl _ _) | (with_reducible assumption) | (with_reducible refine ba ?_) | (with_reducible refine bd ?_) | (with_reducible refine bdn ?_ _) | (with_reducible refine bset ?_ (by first | exact Nat.le_refl _ | omega | (simp; done) | (simp; omega))) | (with_reducible refine bt ?_ (by with_reducible assumption)))
    generalize (((w.alloc (.cells #[.int .i64 e.off, .int .i64 e.kind, .int .i64 e.save, .string e.rules, .string e.format, .bool e.u.has, .int .i64 e.u.year, .int .i64 e.u.month, .int .i64 e.u.kind, .int .i64 e.u.week, .int .i64 e.u.day, .int .i64 e.u.sec, .int .i64 e.u.base] 30)).alloc (.cells #[.int .i64 v.off, .int .i64 v.save, .string v.abbr] 58)).alloc (.cells #[] 75)) = X at *
    go_loopw [15] (fun i wr => i = .int .i64 0 ∧ wr = X) (fun i _ => 0)
    case atStart => exact ⟨rfl, rfl⟩
    case round =>
      obtain ⟨rfl, rfl⟩ := hrel
      go_wp2
      go_ret
      exact ⟨_, rfl, ⟨.inl ⟨_, _, rfl, rfl⟩, by simp, by simp⟩, hbel⟩
  | some ad =>
    go_enter Tryz.func64, Tryz.ntmps64
    go_upto_region 1 with fail
    have hB1 : Below w.heap.size w ((w.alloc (.cells #[.int .i64 e.off, .int .i64 e.kind, .int .i64 e.save, .string e.rules, .string e.format, .bool e.u.has, .int .i64 e.u.year, .int .i64 e.u.month, .int .i64 e.u.kind, .int .i64 e.u.week, .int .i64 e.u.day, .int .i64 e.u.sec, .int .i64 e.u.base] 30)).alloc (.cells #[.int .i64 v.off, .int .i64 v.save, .string v.abbr] 58)) := by repeat (first | (with_reducible exact Below.refl _ _) | (with_reducible assumption) | (with_reducible refine ba ?_) | (with_reducible refine bd ?_) | (with_reducible refine bdn ?_ _) | (with_reducible refine bset ?_ (by first | exact Nat.le_refl _ | omega | (simp; done) | (simp; omega))) | (with_reducible refine bt ?_ (by with_reducible assumption)))
    generalize ((w.alloc (.cells #[.int .i64 e.off, .int .i64 e.kind, .int .i64 e.save, .string e.rules, .string e.format, .bool e.u.has, .int .i64 e.u.year, .int .i64 e.u.month, .int .i64 e.u.kind, .int .i64 e.u.week, .int .i64 e.u.day, .int .i64 e.u.sec, .int .i64 e.u.base] 30)).alloc (.cells #[.int .i64 v.off, .int .i64 v.save, .string v.abbr] 58)) = X at *
    go_upto_region 3 with (at_builtin; refine wpList_append_own _ rfl _ _ 22 rfl w.heap.size 75 i0 _ 11 104 Tryz.underlying22 hi hz0 hz1 hz2 rfl (by decide) _ _ _ rfl (World.ownsRow_made X #[] 0 hB1.size (Nat.zero_le _) (by simp)) ad 0 c [] rfl ?qc1 ?qc2 ?qc3 ?qc4 ?qc5 ?qc6 ?_)
    case qc1 => rfl
    case qc2 => intro j u hu; simp at hu
    case qc3 => intro u hu; simp at hu
    case qc4 => decide
    case qc5 => decide
    case qc6 => have := hB1.size; simp; omega
    intro v' w1 hown hgrow hnil
    have hbel : Below w.heap.size w w1 := (hB1.alloc hB1.size _).grown hgrow (by have := hB1.size; simp; omega) (by intro k hk; have := hB1.size; simp [Value.ownBlock] at hk; omega)
    obtain ⟨q, c2, hv'⟩ := Grp.own_form hown
    subst hv'
    clear hown hgrow hnil hB1
    go_wp2
    go_loopw [15] (fun i wr => i = .int .i64 0 ∧ wr = w1) (fun i _ => 0)
    case atStart => exact ⟨rfl, rfl⟩
    case round =>
      obtain ⟨rfl, rfl⟩ := hrel
      go_wp2
      go_ret
      exact ⟨_, rfl, ⟨.inl ⟨_, _, rfl, rfl⟩, by simp, by simp⟩, hbel⟩
theorem others {w : World} {r : Value} {l : List RuleV} (hr : Holds w r l) (e : EraV) (he : e.Fit) (v : ValV) (hs : ∀ x ∈ l, x.letter.size ≤ 1000000) (hn : l.length ≤ 100000) :
    Calls Tryz.prog 64 #[r, .agg e.cells.toArray, .agg v.cells.toArray] w fun x w' => ∃ v', x = .returned v' ∧ Holds w' v' (othV l e v) ∧ Below w.heap.size w w' := by
  by_cases h0 : 0 < l.length
  · exact others1 hr e he v hs hn h0
  · have : l = [] := List.eq_nil_of_length_eq_zero (by omega)
    subst this
    obtain ⟨p, c, rfl⟩ := hr.form
    exact others0 p c e v w
end RFrc
end Go.Proofs.YtkpjhgkmjcdobaaGreatDoor
