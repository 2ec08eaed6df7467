/-
  noontidelaw27.lives.
-/
import Derived.Test.YtopdjebnfhfpcaaDoorUs
namespace Go.Proofs.YtopdjebnfhfpcaaDoor
open Go.RowKit NB
namespace L27
theorem lies_new (X : World) (l : List RuleV) (cs : Array Value) (t : TypeId) (h : cs.toList = l.flatMap RuleV.cells) : Lies (X.alloc (.cells cs t)) X.heap.size 0 11 (l.map RuleV.cells) := by
  intro i j c v hi hj
  rw [List.getElem?_map] at hi
  cases hx : l[i]? with
  | none => rw [hx] at hi; cases hi
  | some x =>
    rw [hx] at hi
    cases hi
    rw [cell_of_row _ _ _ _ _ _ (heap_alloc_new X _), Nat.zero_add]
    have := Grp.flat_at Chk.cells_len l i j x v hx hj
    rw [← h] at this
    simpa using this
theorem check_new (X : World) (l : List RuleV) (cs : Array Value) (n cap : Nat) (h : cs.toList = l.flatMap RuleV.cells) (hn : l.length = n) (hlen : l.length * 104 ≤ 140737488355328) (hs : ∀ r ∈ l, r.Fit) :
    Calls Tryd.prog 14 #[.slice (some ⟨X.heap.size, 0, none⟩) n cap] (X.alloc (.cells cs 27)).drew (Chk.Post (Chk.check l) (X.alloc (.cells cs 27)).drew) := by
  rw [← hn]
  refine Chk.Check X.heap.size 0 cap l _ (lies_new X l cs _ h) ?_ hlen hs
  show X.heap.size < (X.alloc (.cells cs 27)).heap.size
  simp
theorem check1 (X : World) : Calls Tryd.prog 14 #[.slice (some ⟨X.heap.size, 0, none⟩) 4 4] (X.alloc (.cells (Us.us0.cells ++ Us.eu.cells ++ Us.us1.cells ++ Us.enn.cells).toArray 27)).drew fun e w' => e = .returned (.tuple #[.int .i64 3, .int .i64 15]) ∧ Below (X.alloc (.cells (Us.us0.cells ++ Us.eu.cells ++ Us.us1.cells ++ Us.enn.cells).toArray 27)).drew.heap.size (X.alloc (.cells (Us.us0.cells ++ Us.eu.cells ++ Us.us1.cells ++ Us.enn.cells).toArray 27)).drew w' := by
  have := check_new X [Us.us0, Us.eu, Us.us1, Us.enn] (Us.us0.cells ++ Us.eu.cells ++ Us.us1.cells ++ Us.enn.cells).toArray 4 4 rfl rfl (by decide) (by intro r hr; simp only [List.mem_cons, List.not_mem_nil, or_false] at hr; rcases hr with rfl | rfl | rfl | rfl <;> first | exact Us.fit_us0 | exact Us.fit_eu | exact Us.fit_us1 | exact Us.fit_enn)
  unfold Chk.Post at this
  rw [Us.check_1] at this
  exact this
theorem own0 {w : World} {base g sz : Nat} {e : TypeId} (h : w.heap[g]? = some (.cells #[] e)) (hb : base ≤ g) : w.ownsRow base e sz (.slice (some ⟨g, 0, none⟩) 0 0) 0 [] :=
  ⟨by simp, .inr ⟨g, 0, #[], rfl, hb, h, Nat.le_refl _, Nat.zero_le _, by simp, by simp⟩⟩
theorem rd_new (w : World) (o : Obj) (n : Nat) (h : n = w.heap.size) : (w.alloc o).heap[n]? = some o := by
  rw [h]
  exact heap_alloc_new w o
theorem rd_old (w : World) (o : Obj) (n : Nat) (h : n < w.heap.size) : (w.alloc o).heap[n]? = w.heap[n]? := Below.heap_alloc w o n h
theorem rd_drew {w : World} {n : Nat} {x : Option Obj} (h : w.heap[n]? = x) : w.drew.heap[n]? = x := h
theorem news_facts {w : World} {b : Nat} {cs : Array Value} (h : ∀ o, w.cell? ⟨b, o, none⟩ = cs[o]?) : ∀ j u, cs.toList[j]? = some u → w.cell? ((⟨b, 0, none⟩ : Addr).add j) = some u := by
  intro j u hu
  have hadd : (⟨b, 0, none⟩ : Addr).add j = ⟨b, j, none⟩ := by unfold Addr.add; split <;> simp_all
  rw [hadd, h]
  simpa using hu
theorem check2 {w : World} {base g cap : Nat} (h : w.ownsRow base 27 11 (.slice (some ⟨g, 0, none⟩) 3 cap) 3 (([] ++ (#[.string ⟨#[85, 83]⟩, .int .i64 2007, .int .i64 32767, .int .i64 3, .int .i64 2, .int .i64 0, .int .i64 8, .int .i64 7200, .int .i64 0, .int .i64 3600, .string ⟨#[68]⟩, .string ⟨#[85, 83]⟩, .int .i64 2007, .int .i64 32767, .int .i64 11, .int .i64 2, .int .i64 0, .int .i64 1, .int .i64 7200, .int .i64 0, .int .i64 0, .string ⟨#[83]⟩] : Array Value).toList) ++ (#[.string ⟨#[69, 85]⟩, .int .i64 1981, .int .i64 32767, .int .i64 3, .int .i64 1, .int .i64 0, .int .i64 0, .int .i64 3600, .int .i64 2, .int .i64 3600, .string ⟨#[83]⟩] : Array Value).toList)) :
    Calls Tryd.prog 14 #[.slice (some ⟨g, 0, none⟩) 3 cap] w fun e w' => e = .returned (.tuple #[.int .i64 (-1), .int .i64 0]) ∧ Below w.heap.size w w' := by
  have hl : Lies w g 0 11 ([Us.us0, Us.us1, Us.eu].map RuleV.cells) := by
    intro i j c v hi hj
    obtain ⟨g', ⟨cap', hv⟩, _, _, hcell⟩ := Grp.own_cell (j := 0) h (by decide)
    simp only [Value.slice.injEq, Option.some.injEq, Addr.mk.injEq] at hv
    obtain ⟨⟨rfl, _⟩, _⟩ := hv
    rw [List.getElem?_map] at hi
    cases hx : [Us.us0, Us.us1, Us.eu][i]? with
    | none => rw [hx] at hi; cases hi
    | some x =>
      rw [hx] at hi
      cases hi
      rw [Nat.zero_add]
      exact hcell _ _ (Grp.flat_at Chk.cells_len [Us.us0, Us.us1, Us.eu] i j x v hx hj)
  have := Chk.Check g 0 cap [Us.us0, Us.us1, Us.eu] w hl (h.lt g rfl).2 (by decide) (by intro r hr; simp only [List.mem_cons, List.not_mem_nil, or_false] at hr; rcases hr with rfl | rfl | rfl <;> first | exact Us.fit_us0 | exact Us.fit_eu | exact Us.fit_us1)
  unfold Chk.Post at this
  rw [Us.check_2] at this
  exact this
set_option maxRecDepth 100000 in
set_option maxHeartbeats 6400000 in
theorem lives (w : World) : Calls Tryd.prog 11 #[] w fun e w' => e = .returned (.bool true) ∧ Below w.heap.size w w' := by
  have ceu := fun W => Us.Eu W
  have cw1 := fun W => Apt.Window Us.eu Us.fit_eu W
  have cw2 := fun W => Apt.Window Us.zero Us.fit_zero W
  rw [if_pos Us.right_eu, Us.low_eu, Us.high_eu] at cw1
  rw [if_neg (by rw [Us.right_zero]; decide)] at cw2
  unfold Us.eu RuleV.cells at ceu cw1
  unfold Us.zero RuleV.cells at cw2
  have cc1 := check1
  unfold Us.us0 Us.us1 Us.eu Us.enn RuleV.cells at cc1
  simp only [List.cons_append, List.nil_append] at cc1
  have Cc1 := Lib.hid cc1
  clear cc1
  have cp1 := fun W => Apt.Pair Us.us0 Us.us1 Us.fit_us0 Us.fit_us1 W
  have cp2 := fun W => Apt.Pair Us.eu Us.enn Us.fit_eu Us.fit_enn W
  have cp3 := fun W => Apt.Pair Us.emm Us.eoo Us.fit_emm Us.fit_eoo W
  have cp4 := fun W => Apt.Pair Us.eu Us.zero Us.fit_eu Us.fit_zero W
  rw [Us.pair_us] at cp1
  rw [Us.pair_en] at cp2
  rw [Us.pair_mo] at cp3
  rw [Us.pair_ez] at cp4
  unfold Us.us0 Us.us1 RuleV.cells at cp1
  unfold Us.eu Us.enn RuleV.cells at cp2
  unfold Us.emm Us.eoo RuleV.cells at cp3
  unfold Us.eu Us.zero RuleV.cells at cp4
  have Cp1 := Lib.hid cp1
  have Cp2 := Lib.hid cp2
  have Cp3 := Lib.hid cp3
  have Cp4 := Lib.hid cp4
  clear cp1 cp2 cp3 cp4
  have Ceu := Lib.hid ceu
  have Cw1 := Lib.hid cw1
  have Cw2 := Lib.hid cw2
  clear ceu cw1 cw2
  go_enter Tryd.func11, Tryd.ntmps11
  go_upto_region 5 with (first
    | (go_at_call 31; refine (Us.Us _).mono ?_; rintro e w1 ⟨rfl, hw1⟩)
    | (go_at_call 32; refine (Ceu.out _).mono ?_; rintro e w2 ⟨rfl, hb2⟩)
    | (go_at_call_of 12 (({ data := #[69, 85] } : ByteArray)); refine (Cw1.out _).mono ?_; rintro e w3 ⟨rfl, hb3⟩)
    | (go_at_call 12; refine (Cw2.out _).mono ?_; rintro e w4 ⟨rfl, hb4⟩))
  obtain ⟨p, hp, hpw, hwp, hE, hU, hB⟩ : ∃ p, p = w2.heap.size ∧ p < w4.heap.size ∧ w.heap.size < p ∧ (∀ o, w4.cell? ⟨p, o, none⟩ = (#[.string ⟨#[69, 85]⟩, .int .i64 1981, .int .i64 32767, .int .i64 3, .int .i64 1, .int .i64 0, .int .i64 0, .int .i64 3600, .int .i64 2, .int .i64 3600, .string ⟨#[83]⟩] : Array Value)[o]?) ∧ (∀ o, w4.cell? ⟨w.heap.size, o, none⟩ = (#[.string ⟨#[85, 83]⟩, .int .i64 2007, .int .i64 32767, .int .i64 3, .int .i64 2, .int .i64 0, .int .i64 8, .int .i64 7200, .int .i64 0, .int .i64 3600, .string ⟨#[68]⟩, .string ⟨#[85, 83]⟩, .int .i64 2007, .int .i64 32767, .int .i64 11, .int .i64 2, .int .i64 0, .int .i64 1, .int .i64 7200, .int .i64 0, .int .i64 0, .string ⟨#[83]⟩] : Array Value)[o]?) ∧ Below w.heap.size w w4 := by
    have z2 : w.heap.size < w2.heap.size := sz1 hb2
    have z3 : w2.heap.size < w3.heap.size := sz1 hb3
    have z4 := hb4.size
    have b2 : Below w.heap.size w w2 := ((Below.refl _ _).alloc (Nat.le_refl _) _).trans (hb2.mono (by simp))
    refine ⟨_, rfl, by omega, z2, fun o => ?_, fun o => ?_, ((b2.alloc (by omega) _).trans (hb3.mono (by simp; omega))).trans (hb4.mono (by omega))⟩
    · rw [hb4.cell (p := ⟨w2.heap.size, o, none⟩) z3, hb3.cell (p := ⟨w2.heap.size, o, none⟩) (by simp)]
      exact cell_of_row _ _ _ _ _ _ (heap_alloc_new w2 _)
    · rw [hb4.cell (p := ⟨w.heap.size, o, none⟩) (by show w.heap.size < w3.heap.size; omega), hb3.cell (p := ⟨w.heap.size, o, none⟩) (by simp; omega), World.cell?_alloc_past _ _ _ z2, hb2.cell (p := ⟨w.heap.size, o, none⟩) (by simp)]
      exact cell_of_row _ _ _ _ _ _ (heap_alloc_new w _)
  rw [← hp]
  clear hb4 hb3 hb2 hw1 hp
  have HB := Lib.hid hB
  clear hB
  have hU2 := Lib.hid hU
  clear hU
  go_upto_region 12 with fail
  obtain ⟨W, hW, hwW, hpW, hnW, hmW, hoW, fU, fE, fN, fM, fO, hBW⟩ : ∃ W : World, W = ((w4.alloc (.cells #[.string ⟨#[69, 85]⟩, .int .i64 1981, .int .i64 32767, .int .i64 4, .int .i64 0, .int .i64 0, .int .i64 1, .int .i64 3600, .int .i64 2, .int .i64 3600, .string ⟨#[83]⟩] 27)).alloc (.cells #[.string ⟨#[69, 85]⟩, .int .i64 1992, .int .i64 32767, .int .i64 4, .int .i64 0, .int .i64 0, .int .i64 1, .int .i64 3600, .int .i64 2, .int .i64 3600, .string ⟨#[83]⟩] 27)).alloc (.cells #[.string ⟨#[69, 85]⟩, .int .i64 1981, .int .i64 1990, .int .i64 3, .int .i64 1, .int .i64 0, .int .i64 0, .int .i64 3600, .int .i64 2, .int .i64 3600, .string ⟨#[83]⟩] 27) ∧ w.heap.size < W.heap.size ∧ p < W.heap.size ∧ w4.heap.size < W.heap.size ∧ w4.heap.size + 1 < W.heap.size ∧ w4.heap.size + 1 + 1 < W.heap.size ∧
      (∀ o, W.cell? ⟨w.heap.size, o, none⟩ = (#[.string ⟨#[85, 83]⟩, .int .i64 2007, .int .i64 32767, .int .i64 3, .int .i64 2, .int .i64 0, .int .i64 8, .int .i64 7200, .int .i64 0, .int .i64 3600, .string ⟨#[68]⟩, .string ⟨#[85, 83]⟩, .int .i64 2007, .int .i64 32767, .int .i64 11, .int .i64 2, .int .i64 0, .int .i64 1, .int .i64 7200, .int .i64 0, .int .i64 0, .string ⟨#[83]⟩] : Array Value)[o]?) ∧ (∀ o, W.cell? ⟨p, o, none⟩ = (#[.string ⟨#[69, 85]⟩, .int .i64 1981, .int .i64 32767, .int .i64 3, .int .i64 1, .int .i64 0, .int .i64 0, .int .i64 3600, .int .i64 2, .int .i64 3600, .string ⟨#[83]⟩] : Array Value)[o]?) ∧ (∀ o, W.cell? ⟨w4.heap.size, o, none⟩ = (#[.string ⟨#[69, 85]⟩, .int .i64 1981, .int .i64 32767, .int .i64 4, .int .i64 0, .int .i64 0, .int .i64 1, .int .i64 3600, .int .i64 2, .int .i64 3600, .string ⟨#[83]⟩] : Array Value)[o]?) ∧ (∀ o, W.cell? ⟨w4.heap.size + 1, o, none⟩ = (#[.string ⟨#[69, 85]⟩, .int .i64 1992, .int .i64 32767, .int .i64 4, .int .i64 0, .int .i64 0, .int .i64 1, .int .i64 3600, .int .i64 2, .int .i64 3600, .string ⟨#[83]⟩] : Array Value)[o]?) ∧ (∀ o, W.cell? ⟨w4.heap.size + 1 + 1, o, none⟩ = (#[.string ⟨#[69, 85]⟩, .int .i64 1981, .int .i64 1990, .int .i64 3, .int .i64 1, .int .i64 0, .int .i64 0, .int .i64 3600, .int .i64 2, .int .i64 3600, .string ⟨#[83]⟩] : Array Value)[o]?) ∧ Below w.heap.size w W := by
    have hB4 := HB.out
    have hz := hB4.size
    have S3 : (((w4.alloc (.cells #[.string ⟨#[69, 85]⟩, .int .i64 1981, .int .i64 32767, .int .i64 4, .int .i64 0, .int .i64 0, .int .i64 1, .int .i64 3600, .int .i64 2, .int .i64 3600, .string ⟨#[83]⟩] 27)).alloc (.cells #[.string ⟨#[69, 85]⟩, .int .i64 1992, .int .i64 32767, .int .i64 4, .int .i64 0, .int .i64 0, .int .i64 1, .int .i64 3600, .int .i64 2, .int .i64 3600, .string ⟨#[83]⟩] 27)).alloc (.cells #[.string ⟨#[69, 85]⟩, .int .i64 1981, .int .i64 1990, .int .i64 3, .int .i64 1, .int .i64 0, .int .i64 0, .int .i64 3600, .int .i64 2, .int .i64 3600, .string ⟨#[83]⟩] 27)).heap.size = w4.heap.size + 1 + 1 + 1 := by simp
    refine ⟨_, rfl, by omega, by omega, by omega, by omega, by omega, fun o => ?_, fun o => ?_, fun o => ?_, fun o => ?_, fun o => ?_, ((hB4.alloc hz _).alloc (by simp; omega) _).alloc (by simp; omega) _⟩
    · rw [World.cell?_alloc_past _ _ _ (by simp; omega), World.cell?_alloc_past _ _ _ (by simp; omega), World.cell?_alloc_past _ _ _ (by omega)]
      exact hU2.out o
    · rw [World.cell?_alloc_past _ _ _ (by simp; omega), World.cell?_alloc_past _ _ _ (by simp; omega), World.cell?_alloc_past _ _ _ (by omega)]
      exact hE o
    · rw [World.cell?_alloc_past _ _ _ (by simp; omega), World.cell?_alloc_past _ _ _ (by simp)]
      exact cell_of_row _ _ _ _ _ _ (heap_alloc_new w4 _)
    · rw [World.cell?_alloc_past _ _ _ (by simp)]
      have := heap_alloc_new (w4.alloc (.cells #[.string ⟨#[69, 85]⟩, .int .i64 1981, .int .i64 32767, .int .i64 4, .int .i64 0, .int .i64 0, .int .i64 1, .int .i64 3600, .int .i64 2, .int .i64 3600, .string ⟨#[83]⟩] 27)) (.cells #[.string ⟨#[69, 85]⟩, .int .i64 1992, .int .i64 32767, .int .i64 4, .int .i64 0, .int .i64 0, .int .i64 1, .int .i64 3600, .int .i64 2, .int .i64 3600, .string ⟨#[83]⟩] 27)
      rw [show (w4.alloc (.cells #[.string ⟨#[69, 85]⟩, .int .i64 1981, .int .i64 32767, .int .i64 4, .int .i64 0, .int .i64 0, .int .i64 1, .int .i64 3600, .int .i64 2, .int .i64 3600, .string ⟨#[83]⟩] 27)).heap.size = w4.heap.size + 1 by simp] at this
      exact cell_of_row _ _ _ _ _ _ this
    · have := heap_alloc_new ((w4.alloc (.cells #[.string ⟨#[69, 85]⟩, .int .i64 1981, .int .i64 32767, .int .i64 4, .int .i64 0, .int .i64 0, .int .i64 1, .int .i64 3600, .int .i64 2, .int .i64 3600, .string ⟨#[83]⟩] 27)).alloc (.cells #[.string ⟨#[69, 85]⟩, .int .i64 1992, .int .i64 32767, .int .i64 4, .int .i64 0, .int .i64 0, .int .i64 1, .int .i64 3600, .int .i64 2, .int .i64 3600, .string ⟨#[83]⟩] 27)) (.cells #[.string ⟨#[69, 85]⟩, .int .i64 1981, .int .i64 1990, .int .i64 3, .int .i64 1, .int .i64 0, .int .i64 0, .int .i64 3600, .int .i64 2, .int .i64 3600, .string ⟨#[83]⟩] 27)
      rw [show ((w4.alloc (.cells #[.string ⟨#[69, 85]⟩, .int .i64 1981, .int .i64 32767, .int .i64 4, .int .i64 0, .int .i64 0, .int .i64 1, .int .i64 3600, .int .i64 2, .int .i64 3600, .string ⟨#[83]⟩] 27)).alloc (.cells #[.string ⟨#[69, 85]⟩, .int .i64 1992, .int .i64 32767, .int .i64 4, .int .i64 0, .int .i64 0, .int .i64 1, .int .i64 3600, .int .i64 2, .int .i64 3600, .string ⟨#[83]⟩] 27)).heap.size = w4.heap.size + 1 + 1 by simp] at this
      exact cell_of_row _ _ _ _ _ _ this
  rw [← hW]
  clear hW hE hU2 HB hpw
  have HBW := Lib.hid hBW
  clear hBW
  generalize w4.heap.size = q at *
  have hS : ∀ u : World, Below W.heap.size W u → (∀ o, u.cell? ⟨w.heap.size, o, none⟩ = (#[.string ⟨#[85, 83]⟩, .int .i64 2007, .int .i64 32767, .int .i64 3, .int .i64 2, .int .i64 0, .int .i64 8, .int .i64 7200, .int .i64 0, .int .i64 3600, .string ⟨#[68]⟩, .string ⟨#[85, 83]⟩, .int .i64 2007, .int .i64 32767, .int .i64 11, .int .i64 2, .int .i64 0, .int .i64 1, .int .i64 7200, .int .i64 0, .int .i64 0, .string ⟨#[83]⟩] : Array Value)[o]?) ∧ (∀ o, u.cell? ⟨p, o, none⟩ = (#[.string ⟨#[69, 85]⟩, .int .i64 1981, .int .i64 32767, .int .i64 3, .int .i64 1, .int .i64 0, .int .i64 0, .int .i64 3600, .int .i64 2, .int .i64 3600, .string ⟨#[83]⟩] : Array Value)[o]?) ∧ (∀ o, u.cell? ⟨q, o, none⟩ = (#[.string ⟨#[69, 85]⟩, .int .i64 1981, .int .i64 32767, .int .i64 4, .int .i64 0, .int .i64 0, .int .i64 1, .int .i64 3600, .int .i64 2, .int .i64 3600, .string ⟨#[83]⟩] : Array Value)[o]?) := fun u hu => ⟨fun o => (hu.cell (p := ⟨w.heap.size, o, none⟩) hwW).trans (fU o), fun o => (hu.cell (p := ⟨p, o, none⟩) hpW).trans (fE o), fun o => (hu.cell (p := ⟨q, o, none⟩) hnW).trans (fN o)⟩
  have HS := Lib.hid hS
  clear hS
  have hS0 := HS.out W (Below.refl _ _)
  have HfM := Lib.hid fM
  have HfO := Lib.hid fO
  clear fU fE fN fM fO
  go_region_held3 (fun w' => (∀ o, w'.cell? ⟨w.heap.size, o, none⟩ = (#[.string ⟨#[85, 83]⟩, .int .i64 2007, .int .i64 32767, .int .i64 3, .int .i64 2, .int .i64 0, .int .i64 8, .int .i64 7200, .int .i64 0, .int .i64 3600, .string ⟨#[68]⟩, .string ⟨#[85, 83]⟩, .int .i64 2007, .int .i64 32767, .int .i64 11, .int .i64 2, .int .i64 0, .int .i64 1, .int .i64 7200, .int .i64 0, .int .i64 0, .string ⟨#[83]⟩] : Array Value)[o]?) ∧ (∀ o, w'.cell? ⟨p, o, none⟩ = (#[.string ⟨#[69, 85]⟩, .int .i64 1981, .int .i64 32767, .int .i64 3, .int .i64 1, .int .i64 0, .int .i64 0, .int .i64 3600, .int .i64 2, .int .i64 3600, .string ⟨#[83]⟩] : Array Value)[o]?) ∧ (∀ o, w'.cell? ⟨q, o, none⟩ = (#[.string ⟨#[69, 85]⟩, .int .i64 1981, .int .i64 32767, .int .i64 4, .int .i64 0, .int .i64 0, .int .i64 1, .int .i64 3600, .int .i64 2, .int .i64 3600, .string ⟨#[83]⟩] : Array Value)[o]?)) (first | exact (HS.out _ hb6) | (refine HS.out _ ?_; repeat (first | exact Below.refl _ _ | refine Below.drew ?_ | refine Below.alloc ?_ (by simp) _)))
    (first | (go_at_call 14; refine (Cc1.out _).mono ?_; rintro e w5 ⟨rfl, hb5⟩; have hb6 : Below W.heap.size W w5 := (((Below.refl _ _).alloc (Nat.le_refl _) _).drew.trans (hb5.mono (by show W.heap.size ≤ (World.alloc _ _).heap.size; simp)))))
  clear hb5 hS0
  have hsz5 : W.heap.size ≤ w5.heap.size := hb6.size
  have hT : ∀ u : World, Below W.heap.size W u → (∀ o, u.cell? ⟨w.heap.size, o, none⟩ = (#[.string ⟨#[85, 83]⟩, .int .i64 2007, .int .i64 32767, .int .i64 3, .int .i64 2, .int .i64 0, .int .i64 8, .int .i64 7200, .int .i64 0, .int .i64 3600, .string ⟨#[68]⟩, .string ⟨#[85, 83]⟩, .int .i64 2007, .int .i64 32767, .int .i64 11, .int .i64 2, .int .i64 0, .int .i64 1, .int .i64 7200, .int .i64 0, .int .i64 0, .string ⟨#[83]⟩] : Array Value)[o]?) ∧ (∀ o, u.cell? ⟨p, o, none⟩ = (#[.string ⟨#[69, 85]⟩, .int .i64 1981, .int .i64 32767, .int .i64 3, .int .i64 1, .int .i64 0, .int .i64 0, .int .i64 3600, .int .i64 2, .int .i64 3600, .string ⟨#[83]⟩] : Array Value)[o]?) := fun u hu => ⟨(HS.out u hu).1, (HS.out u hu).2.1⟩
  have HT := Lib.hid hT
  clear hT
  have hT0 := HT.out w5 hb6
  obtain ⟨i0, hi, hz0, hz1, hz2⟩ := info_parts Chk.info_rule
  go_upto_region 13 with fail
  go_cut [14, 15] (fun s14 s15 wx => s14 = .int .i64 (-1) ∧ s15 = .int .i64 0 ∧ Below W.heap.size W wx)
  case first =>
    go_region_held3 (fun w' => (∀ o, w'.cell? ⟨w.heap.size, o, none⟩ = (#[.string ⟨#[85, 83]⟩, .int .i64 2007, .int .i64 32767, .int .i64 3, .int .i64 2, .int .i64 0, .int .i64 8, .int .i64 7200, .int .i64 0, .int .i64 3600, .string ⟨#[68]⟩, .string ⟨#[85, 83]⟩, .int .i64 2007, .int .i64 32767, .int .i64 11, .int .i64 2, .int .i64 0, .int .i64 1, .int .i64 7200, .int .i64 0, .int .i64 0, .string ⟨#[83]⟩] : Array Value)[o]?) ∧ (∀ o, w'.cell? ⟨p, o, none⟩ = (#[.string ⟨#[69, 85]⟩, .int .i64 1981, .int .i64 32767, .int .i64 3, .int .i64 1, .int .i64 0, .int .i64 0, .int .i64 3600, .int .i64 2, .int .i64 3600, .string ⟨#[83]⟩] : Array Value)[o]?))
      ((refine HT.out _ ?_; repeat (first | (with_reducible exact hb9) | (with_reducible exact hb8) | (with_reducible exact hb7) | (with_reducible exact hb6) | (with_reducible refine Below.drew ?_) | refine Below.alloc ?_ (by first | (with_reducible exact hsz5) | (with_reducible exact hsz7) | omega | (simp; omega) | (show _ ≤ (World.alloc _ _).heap.size; simp; omega)) _)))
      (first
        | ((refine step_append_lies _ (by rfl) _ _ _ (by rfl) W.heap.size 27 i0 _ 11 104 Tryd.underlying28 hi hz0 hz1 hz2 (by rfl) (by decide) _ 0 [] (by rfl) (own0 (by (try refine rd_drew ?_); (first | (refine rd_new _ _ _ ?_; first | (with_reducible rfl) | (simp; done)) | (refine (rd_old _ _ _ ?_).trans (rd_new _ _ _ ?_) <;> first | (with_reducible rfl) | (simp; done) | (simp; omega)))) (by first | (with_reducible exact hsz5) | omega | (simp; omega))) ⟨w.heap.size, 0, none⟩ 2 2 ((#[.string ⟨#[85, 83]⟩, .int .i64 2007, .int .i64 32767, .int .i64 3, .int .i64 2, .int .i64 0, .int .i64 8, .int .i64 7200, .int .i64 0, .int .i64 3600, .string ⟨#[68]⟩, .string ⟨#[85, 83]⟩, .int .i64 2007, .int .i64 32767, .int .i64 11, .int .i64 2, .int .i64 0, .int .i64 1, .int .i64 7200, .int .i64 0, .int .i64 0, .string ⟨#[83]⟩] : Array Value).toList) (by rfl) (by rfl) (news_facts (HT.out _ (by repeat (first | (with_reducible exact hb8) | (with_reducible exact hb7) | (with_reducible exact hb6) | (with_reducible refine Below.drew ?_) | refine Below.alloc ?_ (by first | (with_reducible exact hsz5) | (with_reducible exact hsz7) | omega | (simp; omega) | (show _ ≤ (World.alloc _ _).heap.size; simp; omega)) _))).1) (by intro u hu; simp only [List.mem_cons, List.not_mem_nil, or_false] at hu; rcases hu with rfl | rfl | rfl | rfl | rfl | rfl | rfl | rfl | rfl | rfl | rfl | rfl | rfl | rfl | rfl | rfl | rfl | rfl | rfl | rfl | rfl | rfl <;> rfl) (by decide) (by decide) (by decide) (by first | (with_reducible exact hsz5) | omega | (simp; omega)) _ rfl ?_; intro g cap3 w7 hown1 hgrow hat hlt7; have hb7 : Below W.heap.size W w7 := Below.grown (by repeat (first | (with_reducible exact hb9) | (with_reducible exact hb8) | (with_reducible exact hb7) | (with_reducible exact hb6) | (with_reducible refine Below.drew ?_) | refine Below.alloc ?_ (by first | (with_reducible exact hsz5) | (with_reducible exact hsz7) | omega | (simp; omega) | (show _ ≤ (World.alloc _ _).heap.size; simp; omega)) _)) hgrow (by first | (with_reducible exact hsz5) | (with_reducible exact hsz7) | omega | (simp; omega) | (show _ ≤ (World.alloc _ _).heap.size; simp; omega)) (fun k hk => by cases hk; first | (with_reducible exact hsz5) | omega | (simp; omega)); have hsz7 : W.heap.size ≤ w7.heap.size := hb7.size))
        | ((refine step_append_lies _ (by rfl) _ _ _ (by rfl) W.heap.size 27 i0 _ 11 104 Tryd.underlying28 hi hz0 hz1 hz2 (by rfl) (by decide) _ 2 ([] ++ (#[.string ⟨#[85, 83]⟩, .int .i64 2007, .int .i64 32767, .int .i64 3, .int .i64 2, .int .i64 0, .int .i64 8, .int .i64 7200, .int .i64 0, .int .i64 3600, .string ⟨#[68]⟩, .string ⟨#[85, 83]⟩, .int .i64 2007, .int .i64 32767, .int .i64 11, .int .i64 2, .int .i64 0, .int .i64 1, .int .i64 7200, .int .i64 0, .int .i64 0, .string ⟨#[83]⟩] : Array Value).toList) (by rfl) (by repeat (first | exact hown1 | refine World.ownsRow.alloc ?_ _ | refine Chk.own_drew ?_)) ⟨_, 0, none⟩ 1 1 ((#[.string ⟨#[69, 85]⟩, .int .i64 1981, .int .i64 32767, .int .i64 3, .int .i64 1, .int .i64 0, .int .i64 0, .int .i64 3600, .int .i64 2, .int .i64 3600, .string ⟨#[83]⟩] : Array Value).toList) (by rfl) (by rfl) (World.news_of_block (by (try refine rd_drew ?_); first | (refine rd_new _ _ _ ?_; rfl) | (refine (hgrow.block _ (by first | (simp; done) | (simp; omega) | (show _ < (World.alloc _ _).heap.size; simp; done) | (show _ < (World.alloc _ _).heap.size; simp; omega)) (by simp [Value.ownBlock])).trans ?_; (try refine rd_drew ?_); (first | (refine rd_new _ _ _ ?_; first | (with_reducible rfl) | (simp; done)) | (refine (rd_old _ _ _ ?_).trans (rd_new _ _ _ ?_) <;> first | (with_reducible rfl) | (simp; done) | (simp; omega)))))) (by intro u hu; simp only [List.mem_cons, List.not_mem_nil, or_false] at hu; rcases hu with rfl | rfl | rfl | rfl | rfl | rfl | rfl | rfl | rfl | rfl | rfl <;> rfl) (by decide) (by decide) (by decide) (by first | (with_reducible exact hsz5) | (with_reducible exact hsz7) | omega | (simp; omega) | (show _ ≤ (World.alloc _ _).heap.size; simp; omega)) _ rfl ?_; intro g2 cap4 w8 hown2 hgrow2 hat2 hlt8; have hb8 : Below W.heap.size W w8 := Below.grown (by repeat (first | (with_reducible exact hb9) | (with_reducible exact hb8) | (with_reducible exact hb7) | (with_reducible exact hb6) | (with_reducible refine Below.drew ?_) | refine Below.alloc ?_ (by first | (with_reducible exact hsz5) | (with_reducible exact hsz7) | omega | (simp; omega) | (show _ ≤ (World.alloc _ _).heap.size; simp; omega)) _)) hgrow2 (by first | (with_reducible exact hsz5) | (with_reducible exact hsz7) | omega | (simp; omega) | (show _ ≤ (World.alloc _ _).heap.size; simp; omega)) (fun k hk => by cases hk; exact (hown1.lt g rfl).1); have hsz8 : W.heap.size ≤ w8.heap.size := hb8.size))
        | (go_at_call 14; refine (check2 (by first | exact hown2 | exact Chk.own_drew hown2)).mono ?_; rintro e w9 ⟨rfl, hbb9⟩; have hb9 : Below W.heap.size W w9 := (Below.trans (by repeat (first | (with_reducible exact hb9) | (with_reducible exact hb8) | (with_reducible exact hb7) | (with_reducible exact hb6) | (with_reducible refine Below.drew ?_) | refine Below.alloc ?_ (by first | (with_reducible exact hsz5) | (with_reducible exact hsz7) | omega | (simp; omega) | (show _ ≤ (World.alloc _ _).heap.size; simp; omega)) _)) (hbb9.mono (by first | (with_reducible exact hsz8) | exact hb8.drew.size)))))
    all_goals
      go_wp2
      go_meet
      exact ⟨rfl, rfl, hb9⟩
  case rest =>
    obtain ⟨rfl, rfl, hBc⟩ := hcut
    have hzc : W.heap.size ≤ wc.heap.size := hBc.size
    have hF : ∀ u : World, Below wc.heap.size wc u → (∀ o, u.cell? ⟨w.heap.size, o, none⟩ = (#[.string ⟨#[85, 83]⟩, .int .i64 2007, .int .i64 32767, .int .i64 3, .int .i64 2, .int .i64 0, .int .i64 8, .int .i64 7200, .int .i64 0, .int .i64 3600, .string ⟨#[68]⟩, .string ⟨#[85, 83]⟩, .int .i64 2007, .int .i64 32767, .int .i64 11, .int .i64 2, .int .i64 0, .int .i64 1, .int .i64 7200, .int .i64 0, .int .i64 0, .string ⟨#[83]⟩] : Array Value)[o]?) ∧ (∀ o, u.cell? ⟨p, o, none⟩ = (#[.string ⟨#[69, 85]⟩, .int .i64 1981, .int .i64 32767, .int .i64 3, .int .i64 1, .int .i64 0, .int .i64 0, .int .i64 3600, .int .i64 2, .int .i64 3600, .string ⟨#[83]⟩] : Array Value)[o]?) ∧ (∀ o, u.cell? ⟨q, o, none⟩ = (#[.string ⟨#[69, 85]⟩, .int .i64 1981, .int .i64 32767, .int .i64 4, .int .i64 0, .int .i64 0, .int .i64 1, .int .i64 3600, .int .i64 2, .int .i64 3600, .string ⟨#[83]⟩] : Array Value)[o]?) ∧ (∀ o, u.cell? ⟨q + 1, o, none⟩ = (#[.string ⟨#[69, 85]⟩, .int .i64 1992, .int .i64 32767, .int .i64 4, .int .i64 0, .int .i64 0, .int .i64 1, .int .i64 3600, .int .i64 2, .int .i64 3600, .string ⟨#[83]⟩] : Array Value)[o]?) ∧ (∀ o, u.cell? ⟨q + 1 + 1, o, none⟩ = (#[.string ⟨#[69, 85]⟩, .int .i64 1981, .int .i64 1990, .int .i64 3, .int .i64 1, .int .i64 0, .int .i64 0, .int .i64 3600, .int .i64 2, .int .i64 3600, .string ⟨#[83]⟩] : Array Value)[o]?) := by
      intro u hu
      have hWu := hBc.trans (hu.mono hzc)
      exact ⟨(HS.out u hWu).1, (HS.out u hWu).2.1, (HS.out u hWu).2.2, fun o => (hWu.cell (p := ⟨q + 1, o, none⟩) hmW).trans (HfM.out o), fun o => (hWu.cell (p := ⟨q + 1 + 1, o, none⟩) hoW).trans (HfO.out o)⟩
    have z1 : w.heap.size < wc.heap.size := by omega
    have z2 : p < wc.heap.size := by omega
    have z3 : q < wc.heap.size := by omega
    have z4 : q + 1 < wc.heap.size := by omega
    have z5 : q + 1 + 1 < wc.heap.size := by omega
    obtain ⟨f1, f2, f3, f4, f5⟩ := hF wc (Below.refl _ _)
    have Hfin := Lib.hid (HBW.out.trans (hBc.mono (Nat.le_of_lt hwW)))
    have Hzw : w.heap.size ≤ wc.heap.size := Nat.le_of_lt z1
    clear hF HS HT HfM HfO hb6 hsz5 hBc
    go_upto_region 14 with fail
    refine region_later (by kernel_rfl) (by kernel_rfl) ?_
    repeat (go_big_quiet_step (first
      | (go_at_call 16; rename_i xL; with_reducible first | exact calls_later xL (Nat.le_refl _) (Cp1.out _) | exact calls_later xL (Nat.le_refl _) (Cp2.out _) | exact calls_later xL (Nat.le_refl _) (Cp3.out _) | exact calls_later xL (Nat.le_refl _) (Cp4.out _))))
    refine wpQuiet_nil ?_
    rintro _ ⟨⟨u, hu⟩, rfl⟩
    go_wp2
    go_ret
    exact ⟨rfl, Hfin.out.trans (hu.mono Hzw)⟩
end L27
end Go.Proofs.YtopdjebnfhfpcaaDoor
