/-
  The document's store: Put, a list that has a block.
-/
import Derived.Test.YtjgodnakhbkgeaaStoRQ
namespace Go.Proofs.Ytjgodnakhbkgeaa
open Go.RowKit NB OW
namespace StR
open Sto
attribute [local go_sem ↓] eqlL neqL
set_option maxRecDepth 100000 in
set_option maxHeartbeats 3200000 in
theorem put4 {w : World} {base b : Nat} {room : Int} {v : Value} {l : List InfoV} (h : SR w base b room v l) (i : InfoV) (hi : ¬ i.fr < i.th) :
    Calls Try.prog 23 #[.pointer (some ⟨b, 0, none⟩), .agg i.cells.toArray] w fun e w' => e = .returned (.int .i64 4) ∧ LeftR w base b room v l w' := by
  have c := fun W => Right i.fr i.th W
  rw [decide_eq_false hi] at c
  have C := Lib.hid c
  have H := Lib.hid h
  have l0 := h.box.lt
  clear c h
  unfold InfoV.cells
  go_enter Try.func23, Try.ntmps23
  go_wp2_with (go_at_call 61; (with_reducible refine (C.out _).mono ?_); rintro e w1 ⟨rfl, hb1⟩; obtain ⟨hc1, hf1⟩ := bcell hb1; have hc1_0 := fun o => hc1 (b) o (by first | assumption | omega | (simp; done) | (simp; omega)); have hf1_0 := fun o => hf1 (b) o (by first | assumption | omega | (simp; done) | (simp; omega)); have hc1_1 := fun o => hc1 (w.heap.size) o (by first | assumption | omega | (simp; done) | (simp; omega)); have hf1_1 := fun o => hf1 (w.heap.size) o (by first | assumption | omega | (simp; done) | (simp; omega)); clear hc1 hf1; have hz1_0 : b < w1.heap.size := (by first | exact sz1 hb1 | exact sz2 hb1 | exact sz3 hb1 | (have := hb1.size; (try simp only [World.size_alloc, World.size_drew] at this); omega)); have hz1_1 : w.heap.size < w1.heap.size := (by first | exact sz1 hb1 | exact sz2 hb1 | exact sz3 hb1 | (have := hb1.size; (try simp only [World.size_alloc, World.size_drew] at this); omega)))
  go_ret
  exact ⟨rfl, leftR_same H.out (by repeat (first | (with_reducible exact Below.refl _ _) | (with_reducible assumption) | (with_reducible refine ba ?_) | (with_reducible refine bd ?_) | (with_reducible refine bdn ?_ _) | (with_reducible refine bset ?_ (by first | exact Nat.le_refl _ | omega | (simp; done) | (simp; omega))) | (with_reducible refine bt ?_ (by with_reducible assumption))))⟩
theorem any_drop (p : InfoV → Bool) {l : List InfoV} {k : Nat} {x : InfoV} (hx : l[k]? = some x) : (l.drop k).any p = (p x || (l.drop (k + 1)).any p) := by
  have e : l.drop k = x :: l.drop (k + 1) := by
    obtain ⟨h, rfl⟩ := List.getElem?_eq_some_iff.1 hx
    exact List.drop_eq_getElem_cons h
  rw [e, List.any_cons]
theorem firsts_drop (t : Int) : ∀ (l : List InfoV) (k : Nat) (x : InfoV), l[k]? = some x → firsts (l.drop k) t = if x.fr < t then firsts (l.drop (k + 1)) t + 1 else 0
  | [], k, x, h => by simp at h
  | y :: r, 0, x, h => by simp at h; subst h; rfl
  | y :: r, k + 1, x, h => by
    rw [List.drop_succ_cons, List.drop_succ_cons]
    exact firsts_drop t r k x (by simpa using h)
theorem put11 {room : Int} {l : List InfoV} {i : InfoV} (h : i.fr < i.th) (h1 : l.any (fun x => decide (x = i)) = true) : putR room l i = (11, l) := by
  unfold putR; rw [if_neg (not_not_intro h), if_pos h1]
theorem put21 {room : Int} {l : List InfoV} {i : InfoV} (h : i.fr < i.th) (h1 : l.any (fun x => decide (x = i)) = false) (h2 : l.any (fun x => meet x i) = true) : putR room l i = (21, l) := by
  unfold putR; rw [if_neg (not_not_intro h), if_neg (by rw [h1]; exact Bool.false_ne_true), if_pos h2]
theorem put17 {room : Int} {l : List InfoV} {i : InfoV} (h : i.fr < i.th) (h1 : l.any (fun x => decide (x = i)) = false) (h2 : l.any (fun x => meet x i) = false) (h3 : room ≤ (l.length : Int)) : putR room l i = (17, l) := by
  unfold putR; rw [if_neg (not_not_intro h), if_neg (by rw [h1]; exact Bool.false_ne_true), if_neg (by rw [h2]; exact Bool.false_ne_true), if_pos h3]
theorem put0 {room : Int} {l : List InfoV} {i : InfoV} (h : i.fr < i.th) (h1 : l.any (fun x => decide (x = i)) = false) (h2 : l.any (fun x => meet x i) = false) (h3 : ¬ room ≤ (l.length : Int)) : putR room l i = (0, l.take (firsts l i.fr) ++ i :: l.drop (firsts l i.fr)) := by
  unfold putR; rw [if_neg (not_not_intro h), if_neg (by rw [h1]; exact Bool.false_ne_true), if_neg (by rw [h2]; exact Bool.false_ne_true), if_neg h3]
theorem flat_take : ∀ (l : List InfoV) (k : Nat), (l.take k).flatMap InfoV.cells = (l.flatMap InfoV.cells).take (k * 5)
  | [], k => by simp
  | x :: r, 0 => by simp
  | x :: r, k + 1 => by
    rw [List.take_succ_cons, List.flatMap_cons, List.flatMap_cons, flat_take r k, show (k + 1) * 5 = x.cells.length + k * 5 by show _ = 5 + _; omega, List.take_length_add_append]
theorem flat_drop : ∀ (l : List InfoV) (k : Nat), (l.drop k).flatMap InfoV.cells = (l.flatMap InfoV.cells).drop (k * 5)
  | [], k => by simp
  | x :: r, 0 => by simp
  | x :: r, k + 1 => by
    rw [List.drop_succ_cons, List.flatMap_cons, flat_drop r k, show (k + 1) * 5 = x.cells.length + k * 5 by show _ = 5 + _; omega, List.drop_length_add_append]
theorem srcT {w W : World} {base g cap n : Nat} {l : List InfoV} (h : w.ownsRow base 50 5 (.slice (some ⟨g, 0, none⟩) n cap) l.length (l.flatMap InfoV.cells)) (hb : Below w.heap.size w W) (lg : g < w.heap.size) (k : Nat) :
    ∀ j u, ((l.take k).flatMap InfoV.cells)[j]? = some u → W.cell? ((⟨g, 0, none⟩ : Addr).add j) = some u := by
  intro j u hu
  rw [flat_take, List.getElem?_take] at hu
  split at hu
  · have := h.cells (g := g) rfl j u hu
    rw [addr_add] at this ⊢
    exact (hb.cell (p := ⟨g, 0 + j, none⟩) lg).trans this
  · cases hu
theorem srcD {w W : World} {base g cap n : Nat} {l : List InfoV} (h : w.ownsRow base 50 5 (.slice (some ⟨g, 0, none⟩) n cap) l.length (l.flatMap InfoV.cells)) (hb : Below w.heap.size w W) (lg : g < w.heap.size) (k : Nat) :
    ∀ j u, ((l.drop k).flatMap InfoV.cells)[j]? = some u → W.cell? ((⟨g, k * 5, none⟩ : Addr).add j) = some u := by
  intro j u hu
  rw [flat_drop, List.getElem?_drop] at hu
  have := h.cells (g := g) rfl (k * 5 + j) u hu
  rw [addr_add] at this ⊢
  rw [Nat.zero_add] at this
  exact (hb.cell (p := ⟨g, k * 5 + j, none⟩) lg).trans this
theorem own_congr {w : World} {base e k n n' : Nat} {v v' : Value} {xs xs' : List Value} (h : w.ownsRow base e k v n xs) (hv : v = v') (hn : n = n') (hx : xs = xs') : w.ownsRow base e k v' n' xs' := by subst hv; subst hn; subst hx; exact h
theorem boxG {X Y : World} {b : Nat} {row : Option Nat} {cs : Array Value} {t : TypeId} (h : Box X b cs t) (hg : X.grownBy Y row) (hr : row ≠ some b) : Box Y b cs t := (hg.block b h.lt (fun e => hr e.symm)).trans h
set_option maxRecDepth 100000 in
set_option maxHeartbeats 6400000 in
theorem putBlk {w : World} {base b g : Nat} {room : Int} {cap : Nat} {l : List InfoV} (h : SR w base b room (.slice (some ⟨g, 0, none⟩) l.length cap) l) (lg : g < w.heap.size) (hcn : l.length ≤ cap) (hrb : room ≤ 65536) (hbw : base ≤ w.heap.size) (i : InfoV) (hi : i.fr < i.th) :
    Calls Try.prog 23 #[.pointer (some ⟨b, 0, none⟩), .agg i.cells.toArray] w fun e w' => e = .returned (.int .i64 (putR room l i).1) ∧ LeftR w base b room (.slice (some ⟨g, 0, none⟩) l.length cap) (putR room l i).2 w' := by
  obtain ⟨i0, hi0, hz0, hz1, hz2⟩ := info_parts SlI.info_E
  have c := fun W => Right i.fr i.th W
  rw [decide_eq_true hi] at c
  have C := Lib.hid c
  have H := Lib.hid h
  have l0 := h.box.lt
  have k0 := h.box.cell 1
  have k1 := h.box.cell 0
  have f0 := h.box.free 1
  have n0 := h.n
  have HO := Lib.hid h.own
  clear c h
  obtain ⟨n, hn⟩ : ∃ n, n = l.length := ⟨_, rfl⟩
  rw [← hn] at n0 k0 hcn
  have HN := Lib.hid hn
  have HI := Lib.hid hi
  clear hn
  unfold InfoV.cells
  go_enter Try.func23, Try.ntmps23
  go_wp2_with (go_at_call 61; (with_reducible refine (C.out _).mono ?_); rintro e w1 ⟨rfl, hb1⟩; obtain ⟨hc1, hf1⟩ := bcell hb1; have hc1_0 := fun o => hc1 (b) o (by first | assumption | omega | (simp; done) | (simp; omega)); have hf1_0 := fun o => hf1 (b) o (by first | assumption | omega | (simp; done) | (simp; omega)); have hc1_1 := fun o => hc1 (w.heap.size) o (by first | assumption | omega | (simp; done) | (simp; omega)); have hf1_1 := fun o => hf1 (w.heap.size) o (by first | assumption | omega | (simp; done) | (simp; omega)); have hc1_2 := fun o => hc1 (g) o (by first | assumption | omega | (simp; done) | (simp; omega)); have hf1_2 := fun o => hf1 (g) o (by first | assumption | omega | (simp; done) | (simp; omega)); clear hc1 hf1; have hz1_0 : b < w1.heap.size := (by first | exact sz1 hb1 | exact sz2 hb1 | exact sz3 hb1 | (have := hb1.size; (try simp only [World.size_alloc, World.size_drew] at this); omega)); have hz1_1 : w.heap.size < w1.heap.size := (by first | exact sz1 hb1 | exact sz2 hb1 | exact sz3 hb1 | (have := hb1.size; (try simp only [World.size_alloc, World.size_drew] at this); omega)); have hz1_2 : g < w1.heap.size := (by first | exact sz1 hb1 | exact sz2 hb1 | exact sz3 hb1 | (have := hb1.size; (try simp only [World.size_alloc, World.size_drew] at this); omega)))
  have B1 : Below w.heap.size w w1 := by repeat (first | (with_reducible exact Below.refl _ _) | (with_reducible assumption) | (with_reducible refine ba ?_) | (with_reducible refine bd ?_) | (with_reducible refine bdn ?_ _) | (with_reducible refine bset ?_ (by first | exact Nat.le_refl _ | omega | (simp; done) | (simp; omega))) | (with_reducible refine bt ?_ (by with_reducible assumption)))
  have b9 : Box w1 w.heap.size #[.int .i64 i.fr, .int .i64 i.th, .int .i64 i.off, .int .i64 i.save, .string i.abbr] 50 := (Box.new w _ _).later hb1
  have HB1 := Lib.hid B1
  go_loopw [19] (fun j wr => ∃ k : Nat, j = .int .i64 k ∧ k ≤ n ∧ Below w1.heap.size w1 wr ∧ Hid (l.any (fun x => decide (x = i)) = (l.drop k).any (fun x => decide (x = i)))) (fun j _ => n - (intOf j).toNat)
  case atStart => exact ⟨0, rfl, Nat.zero_le _, Below.refl _ _, rfl⟩
  case round =>
    obtain ⟨k, rfl, hk, hbr, HA⟩ := hrel
    have c9 := (b9.later hbr).cell
    have l9 := (b9.later hbr).lt
    have hcb := fun o => ((HB1.out.trans (hbr.mono HB1.out.size)).cell (p := ⟨b, o, none⟩) l0)
    have l8 : b < wr.heap.size := Nat.lt_of_lt_of_le l0 (HB1.out.trans (hbr.mono HB1.out.size)).size
    have bwr : Below w.heap.size w wr := HB1.out.trans (hbr.mono HB1.out.size)
    by_cases hlt : k < n
    · obtain ⟨x, hx⟩ : ∃ x, l[k]? = some x := ⟨_, List.getElem?_eq_getElem (by rw [← HN.out]; exact hlt)⟩
      have hd := any_drop (fun x => decide (x = i)) hx
      obtain ⟨c0, c1, c2, c3, c4⟩ := own_cells HO.out hx
      have hcr := fun o => ((HB1.out.trans (hbr.mono HB1.out.size)).cell (p := ⟨g, o, none⟩) lg)
      have hg1 : g < wr.heap.size := Nat.lt_of_lt_of_le lg (HB1.out.trans (hbr.mono HB1.out.size)).size
      clear hx
      by_cases hxi : x = i
      · subst hxi
        have e0 : eqI ⟨x.fr, x.th, x.off, x.save, x.abbr⟩ ⟨x.fr, x.th, x.off, x.save, x.abbr⟩ = true := by unfold eqI; simp
        have HD := Lib.hid hd
        clear hd
        have e11 : putR room l x = (11, l) := put11 HI.out (HA.out.trans (by rw [HD.out]; simp))
        have E11 := Lib.hid e11
        clear e11
        go_wp2
        go_ret
        exact ⟨by rw [E11.out]; rfl, by rw [E11.out]; exact leftR_same H.out (by repeat (first | (with_reducible exact Below.refl _ _) | (with_reducible assumption) | (with_reducible refine ba ?_) | (with_reducible refine bd ?_) | (with_reducible refine bdn ?_ _) | (with_reducible refine bset ?_ (by first | exact Nat.le_refl _ | omega | (simp; done) | (simp; omega))) | (with_reducible refine bt ?_ (by with_reducible assumption))))⟩
      · have e0 : eqI ⟨x.fr, x.th, x.off, x.save, x.abbr⟩ ⟨i.fr, i.th, i.off, i.save, i.abbr⟩ = false := decide_eq_false hxi
        have hq : decide (x = i) = false := decide_eq_false hxi
        have HD := Lib.hid hd
        have HQ := Lib.hid hq
        clear hd hq hxi
        go_wp2
        go_roundw
        case rel => exact ⟨k + 1, by go_num, by omega, by repeat (first | (with_reducible exact Below.refl _ _) | (with_reducible assumption) | (with_reducible refine ba ?_) | (with_reducible refine bd ?_) | (with_reducible refine bdn ?_ _) | (with_reducible refine bset ?_ (by first | exact Nat.le_refl _ | omega | (simp; done) | (simp; omega))) | (with_reducible refine bt ?_ (by with_reducible assumption))), by
          have := HA.out; rw [HD.out, HQ.out, Bool.false_or] at this; exact this⟩
        case measure => simp [intOf]; omega
    · obtain rfl : n = k := by omega
      have e : l.any (fun x => decide (x = i)) = false := by rw [HA.out, List.drop_eq_nil_of_le (by rw [← HN.out]; exact Nat.le_refl _)]; rfl
      have HE := Lib.hid e
      clear e
      go_wp2
      obtain ⟨wa, rfl⟩ : ∃ wa : World, wa = wr := ⟨_, rfl⟩
      have BA := Lib.hid bwr
      have b9a := b9.later hbr
      clear hbr bwr hcb
      go_loopw [32] (fun j wr => ∃ k : Nat, j = .int .i64 k ∧ k ≤ n ∧ Below wa.heap.size wa wr ∧ Hid (l.any (fun x => meet x i) = (l.drop k).any (fun x => meet x i))) (fun j _ => n - (intOf j).toNat)
      case atStart => exact ⟨0, rfl, Nat.zero_le _, Below.refl _ _, rfl⟩
      case round =>
        obtain ⟨k, rfl, hk, hbr, HA2⟩ := hrel
        have bwr : Below w.heap.size w wr := BA.out.trans (hbr.mono BA.out.size)
        have c9 := (b9a.later hbr).cell
        have l9 := (b9a.later hbr).lt
        have hcb := fun o => (bwr.cell (p := ⟨b, o, none⟩) l0)
        have l8 : b < wr.heap.size := Nat.lt_of_lt_of_le l0 bwr.size
        have hcr := fun o => (bwr.cell (p := ⟨g, o, none⟩) lg)
        have hg1 : g < wr.heap.size := Nat.lt_of_lt_of_le lg bwr.size
        by_cases hlt : k < n
        · obtain ⟨x, hx⟩ : ∃ x, l[k]? = some x := ⟨_, List.getElem?_eq_getElem (by rw [← HN.out]; exact hlt)⟩
          have hd := any_drop (fun x => meet x i) hx
          obtain ⟨c0, c1, c2, c3, c4⟩ := own_cells HO.out hx
          have cm := fun W => Meet x i W
          clear hx
          by_cases hm : meet x i = true
          · rw [hm] at cm
            have e21 : putR room l i = (21, l) := put21 HI.out HE.out (HA2.out.trans (by rw [hd]; simp [hm]))
            have E21 := Lib.hid e21
            have M := Lib.hid cm
            clear e21 hd cm hm
            go_wp2_with (go_at_call 62; (with_reducible refine (M.out _).mono ?_); rintro e w2 ⟨rfl, hb2⟩; obtain ⟨hc2, hf2⟩ := bcell hb2; have hc2_0 := fun o => hc2 (b) o (by first | assumption | omega | (simp; done) | (simp; omega)); have hf2_0 := fun o => hf2 (b) o (by first | assumption | omega | (simp; done) | (simp; omega)); have hc2_1 := fun o => hc2 (w.heap.size) o (by first | assumption | omega | (simp; done) | (simp; omega)); have hf2_1 := fun o => hf2 (w.heap.size) o (by first | assumption | omega | (simp; done) | (simp; omega)); have hc2_2 := fun o => hc2 (g) o (by first | assumption | omega | (simp; done) | (simp; omega)); have hf2_2 := fun o => hf2 (g) o (by first | assumption | omega | (simp; done) | (simp; omega)); clear hc2 hf2; have hz2_0 : b < w2.heap.size := (by first | exact sz1 hb2 | exact sz2 hb2 | exact sz3 hb2 | (have := hb2.size; (try simp only [World.size_alloc, World.size_drew] at this); omega)); have hz2_1 : w.heap.size < w2.heap.size := (by first | exact sz1 hb2 | exact sz2 hb2 | exact sz3 hb2 | (have := hb2.size; (try simp only [World.size_alloc, World.size_drew] at this); omega)); have hz2_2 : g < w2.heap.size := (by first | exact sz1 hb2 | exact sz2 hb2 | exact sz3 hb2 | (have := hb2.size; (try simp only [World.size_alloc, World.size_drew] at this); omega)))
            go_ret
            exact ⟨by rw [E21.out]; rfl, by rw [E21.out]; exact leftR_same H.out (by repeat (first | (with_reducible exact Below.refl _ _) | (with_reducible assumption) | (with_reducible refine ba ?_) | (with_reducible refine bd ?_) | (with_reducible refine bdn ?_ _) | (with_reducible refine bset ?_ (by first | exact Nat.le_refl _ | omega | (simp; done) | (simp; omega))) | (with_reducible refine bt ?_ (by with_reducible assumption))))⟩
          · have hq : meet x i = false := by simpa using hm
            rw [hq] at cm
            have HD := Lib.hid hd
            have HQ := Lib.hid hq
            have M := Lib.hid cm
            clear hd cm hm hq
            go_wp2_with (go_at_call 62; (with_reducible refine (M.out _).mono ?_); rintro e w2 ⟨rfl, hb2⟩; obtain ⟨hc2, hf2⟩ := bcell hb2; have hc2_0 := fun o => hc2 (b) o (by first | assumption | omega | (simp; done) | (simp; omega)); have hf2_0 := fun o => hf2 (b) o (by first | assumption | omega | (simp; done) | (simp; omega)); have hc2_1 := fun o => hc2 (w.heap.size) o (by first | assumption | omega | (simp; done) | (simp; omega)); have hf2_1 := fun o => hf2 (w.heap.size) o (by first | assumption | omega | (simp; done) | (simp; omega)); have hc2_2 := fun o => hc2 (g) o (by first | assumption | omega | (simp; done) | (simp; omega)); have hf2_2 := fun o => hf2 (g) o (by first | assumption | omega | (simp; done) | (simp; omega)); clear hc2 hf2; have hz2_0 : b < w2.heap.size := (by first | exact sz1 hb2 | exact sz2 hb2 | exact sz3 hb2 | (have := hb2.size; (try simp only [World.size_alloc, World.size_drew] at this); omega)); have hz2_1 : w.heap.size < w2.heap.size := (by first | exact sz1 hb2 | exact sz2 hb2 | exact sz3 hb2 | (have := hb2.size; (try simp only [World.size_alloc, World.size_drew] at this); omega)); have hz2_2 : g < w2.heap.size := (by first | exact sz1 hb2 | exact sz2 hb2 | exact sz3 hb2 | (have := hb2.size; (try simp only [World.size_alloc, World.size_drew] at this); omega)))
            go_roundw
            case rel => exact ⟨k + 1, by go_num, by omega, by repeat (first | (with_reducible exact Below.refl _ _) | (with_reducible assumption) | (with_reducible refine ba ?_) | (with_reducible refine bd ?_) | (with_reducible refine bdn ?_ _) | (with_reducible refine bset ?_ (by first | exact Nat.le_refl _ | omega | (simp; done) | (simp; omega))) | (with_reducible refine bt ?_ (by with_reducible assumption))), by
              have := HA2.out; rw [HD.out, HQ.out, Bool.false_or] at this; exact this⟩
            case measure => simp [intOf]; omega
        · obtain rfl : n = k := by omega
          have e2 : l.any (fun x => meet x i) = false := by rw [HA2.out, List.drop_eq_nil_of_le (by rw [← HN.out]; exact Nat.le_refl _)]; rfl
          have HE2 := Lib.hid e2
          clear e2
          by_cases hrm : room ≤ (n : Int)
          · have E17 := Lib.hid (put17 HI.out HE.out HE2.out (by rw [← HN.out]; exact hrm))
            have r1 : decide (room ≤ (n : Int)) = true := decide_eq_true hrm
            go_wp2
            go_quiet (fail)
            go_wp2
            go_ret
            exact ⟨by rw [E17.out]; rfl, by rw [E17.out]; exact leftR_same H.out (by repeat (first | (with_reducible exact Below.refl _ _) | (with_reducible assumption) | (with_reducible refine ba ?_) | (with_reducible refine bd ?_) | (with_reducible refine bdn ?_ _) | (with_reducible refine bset ?_ (by first | exact Nat.le_refl _ | omega | (simp; done) | (simp; omega))) | (with_reducible refine bt ?_ (by with_reducible assumption))))⟩
          · have E0 := Lib.hid (put0 HI.out HE.out HE2.out (by rw [← HN.out]; exact hrm))
            have r1 : decide (room ≤ (n : Int)) = false := decide_eq_false hrm
            go_wp2
            go_quiet (fail)
            go_wp2
            obtain ⟨wb, rfl⟩ : ∃ wb : World, wb = wr := ⟨_, rfl⟩
            have BB := Lib.hid bwr
            have b9b := b9a.later hbr
            clear hbr bwr hcb hcr c9 r1
            go_loopw [9] (fun j wr => ∃ k : Nat, j = .int .i64 k ∧ k ≤ n ∧ Below wb.heap.size wb wr ∧ Hid (firsts l i.fr = k + firsts (l.drop k) i.fr)) (fun j _ => n - (intOf j).toNat)
            case atStart => exact ⟨0, rfl, Nat.zero_le _, by repeat (first | (with_reducible exact Below.refl _ _) | (with_reducible assumption) | (with_reducible refine ba ?_) | (with_reducible refine bd ?_) | (with_reducible refine bdn ?_ _) | (with_reducible refine bset ?_ (by first | exact Nat.le_refl _ | omega | (simp; done) | (simp; omega))) | (with_reducible refine bt ?_ (by with_reducible assumption))), (Nat.zero_add _).symm⟩
            case round =>
              obtain ⟨k, rfl, hk, hbr, HA3⟩ := hrel
              have bwr : Below w.heap.size w wr := BB.out.trans (hbr.mono BB.out.size)
              have c9 := (b9b.later hbr).cell
              have l9 := (b9b.later hbr).lt
              have hcb := fun o => (bwr.cell (p := ⟨b, o, none⟩) l0)
              have l8 : b < wr.heap.size := Nat.lt_of_lt_of_le l0 bwr.size
              have hcr := fun o => (bwr.cell (p := ⟨g, o, none⟩) lg)
              have hg1 : g < wr.heap.size := Nat.lt_of_lt_of_le lg bwr.size
              by_cases hlt : k < n
              · obtain ⟨x, hx⟩ : ∃ x, l[k]? = some x := ⟨_, List.getElem?_eq_getElem (by rw [← HN.out]; exact hlt)⟩
                have hd := firsts_drop i.fr l k x hx
                obtain ⟨c0, c1, c2, c3, c4⟩ := own_cells HO.out hx
                clear hx
                by_cases hxf : x.fr < i.fr
                · rw [if_pos hxf] at hd
                  have r2 : decide (x.fr < i.fr) = true := decide_eq_true hxf
                  have HD := Lib.hid hd
                  clear hd
                  go_wp2
                  go_quiet (fail)
                  go_wp2
                  go_roundw
                  case rel => exact ⟨k + 1, by go_num, by omega, by repeat (first | (with_reducible exact Below.refl _ _) | (with_reducible assumption) | (with_reducible refine ba ?_) | (with_reducible refine bd ?_) | (with_reducible refine bdn ?_ _) | (with_reducible refine bset ?_ (by first | exact Nat.le_refl _ | omega | (simp; done) | (simp; omega))) | (with_reducible refine bt ?_ (by with_reducible assumption))), by
                    have := HA3.out; rw [HD.out] at this; exact this.trans (by omega)⟩
                  case measure => simp [intOf]; omega
                · rw [if_neg hxf] at hd
                  have r2 : decide (x.fr < i.fr) = false := decide_eq_false hxf
                  have HD := Lib.hid (HA3.out.trans (by rw [hd]; rfl) : firsts l i.fr = k)
                  clear hd
                  go_wp2
                  go_quiet (fail)
                  go_wp2
                  have bX := bwr
                  have hkc : k ≤ cap := by omega
                  have hkn : k ≤ n := by omega
                  have hck : ¬ cap = k := by omega
                  have q1 : ((k : Nat) : Int) ≤ (cap : Int) := by omega
                  have q2 : ((k : Nat) : Int) ≤ (n : Int) := by omega
                  have q3 : (n : Int) ≤ (cap : Int) := by omega
                  have hS := bX.size
                  refine wp_region_heldM (fun W => (W.cell? ⟨b, 1, none⟩ = some (.slice (some ⟨g, 0, none⟩) n cap)) ∧ (W.cell? ⟨w.heap.size, 0, none⟩ = some (.int .i64 i.fr)) ∧ (W.cell? ⟨w.heap.size, 1, none⟩ = some (.int .i64 i.th)) ∧ (W.cell? ⟨w.heap.size, 2, none⟩ = some (.int .i64 i.off)) ∧ (W.cell? ⟨w.heap.size, 3, none⟩ = some (.int .i64 i.save)) ∧ (W.cell? ⟨w.heap.size, 4, none⟩ = some (.string i.abbr))) 21 (by kernel_rfl) ?_ ?_
                  · exact ⟨(hcb 1).trans k0, c9 0, c9 1, c9 2, c9 3, c9 4⟩
                  intro W hW hS0
                  refine wpAnyM_take (i := 0) (v := ?v1) rfl (by kernel_rfl) (by kernel_rfl) (by kernel_rfl) [20, 19] (by kernel_rfl) (by kernel_rfl) (fun _ _ _ h => h) (Or.inl ⟨by rfl, ?y1⟩) hS0 ?r1
                  case y1 => intro w hSw; (try dsimp only at hSw); go_simp; (try with_reducible rfl)
                  try simp only [Act.put, List.setIfInBounds_toArray]
                  refine wpAnyM_take (i := 2) (v := ?v2) rfl (by kernel_rfl) (by kernel_rfl) (by kernel_rfl) [18, 11, 8, 7, 5, 4, 3] (by kernel_rfl) (by kernel_rfl) (fun _ _ _ h => h) (Or.inl ⟨by rfl, ?y2⟩) hS0 ?r2
                  case y2 => intro w hSw; (try dsimp only at hSw); go_simp; (try with_reducible rfl)
                  try simp only [Act.put]
                  refine wpAnyM_take (i := 3) (v := ?v3) rfl (by kernel_rfl) (by kernel_rfl) (by kernel_rfl) [18, 11, 8, 7, 5, 4] (by kernel_rfl) (by kernel_rfl) (fun _ _ _ h => h) (Or.inl ⟨by rfl, ?y3⟩) hS0 ?r3
                  case y3 => intro w hSw; (try dsimp only at hSw); go_simp; (try with_reducible rfl)
                  try simp only [Act.put]
                  refine wpAnyM_take (i := 4) (v := ?v4) rfl (by kernel_rfl) (by kernel_rfl) (by kernel_rfl) [18, 11, 8, 7, 5] (by kernel_rfl) (by kernel_rfl) (fun _ _ _ h => h) (Or.inl ⟨by rfl, ?y4⟩) hS0 ?r4
                  case y4 => intro w hSw; (try dsimp only at hSw); go_simp; (try with_reducible rfl)
                  try simp only [Act.put]
                  refine wpAnyM_take (i := 5) (v := ?v5) rfl (by kernel_rfl) (by kernel_rfl) (by kernel_rfl) [18, 11, 8, 7] (by kernel_rfl) (by kernel_rfl) (fun _ _ _ h => h) (Or.inl ⟨by rfl, ?y5⟩) hS0 ?r5
                  case y5 => intro w hSw; (try dsimp only at hSw); go_simp; (try with_reducible rfl)
                  try simp only [Act.put]
                  refine wpAnyM_take (i := 6) (v := ?v6) rfl (by kernel_rfl) (by kernel_rfl) (by kernel_rfl) [18, 11, 8, 7] (by kernel_rfl) (by kernel_rfl) (fun _ _ _ h => h) (Or.inl ⟨by rfl, ?y6⟩) hS0 ?r6
                  case y6 => intro w hSw; (try dsimp only at hSw); go_simp; (try with_reducible rfl)
                  try simp only [Act.put]
                  refine wpAnyM_take (i := 7) (v := ?v7) rfl (by kernel_rfl) (by kernel_rfl) (by kernel_rfl) [18, 11, 8] (by kernel_rfl) (by kernel_rfl) (fun _ _ _ h => h) (Or.inl ⟨by rfl, ?y7⟩) hS0 ?r7
                  case y7 => intro w hSw; (try dsimp only at hSw); go_simp; (try with_reducible rfl)
                  try simp only [Act.put]
                  refine wpAnyM_take (i := 9) (v := ?v8) rfl (by kernel_rfl) (by kernel_rfl) (by kernel_rfl) [18, 11, 10] (by kernel_rfl) (by kernel_rfl) (fun _ _ _ h => h) (Or.inl ⟨by rfl, ?y8⟩) hS0 ?r8
                  case y8 => intro w hSw; (try dsimp only at hSw); go_simp; (try with_reducible rfl)
                  try simp only [Act.put]
                  refine wpAnyM_take (i := 12) (v := ?v9) rfl (by kernel_rfl) (by kernel_rfl) (by kernel_rfl) [18, 17, 15, 14, 13] (by kernel_rfl) (by kernel_rfl) (fun _ _ _ h => h) (Or.inl ⟨by rfl, ?y9⟩) hS0 ?r9
                  case y9 => intro w hSw; (try dsimp only at hSw); go_simp; (try with_reducible rfl)
                  try simp only [Act.put]
                  refine wpAnyM_take (i := 13) (v := ?v10) rfl (by kernel_rfl) (by kernel_rfl) (by kernel_rfl) [18, 17, 15, 14] (by kernel_rfl) (by kernel_rfl) (fun _ _ _ h => h) (Or.inl ⟨by rfl, ?y10⟩) hS0 ?r10
                  case y10 => intro w hSw; (try dsimp only at hSw); go_simp; (try with_reducible rfl)
                  try simp only [Act.put]
                  refine wpAnyM_take (i := 14) (v := ?v11) rfl (by kernel_rfl) (by kernel_rfl) (by kernel_rfl) [18, 17, 15] (by kernel_rfl) (by kernel_rfl) (fun _ _ _ h => h) (Or.inl ⟨by rfl, ?y11⟩) hS0 ?r11
                  case y11 => intro w hSw; (try dsimp only at hSw); go_simp; (try with_reducible rfl)
                  try simp only [Act.put]
                  refine wpAnyM_take (i := 15) (v := ?v12) rfl (by kernel_rfl) (by kernel_rfl) (by kernel_rfl) [18, 17] (by kernel_rfl) (by kernel_rfl) (fun _ _ _ h => h) (Or.inl ⟨by rfl, ?y12⟩) hS0 ?r12
                  case y12 => intro w hSw; (try dsimp only at hSw); go_simp; (try with_reducible rfl)
                  try simp only [Act.put]
                  refine wpAnyM_take (i := 16) (v := ?v13) rfl (by kernel_rfl) (by kernel_rfl) (by kernel_rfl) [18, 17] (by kernel_rfl) (by kernel_rfl) (fun _ _ _ h => h) (Or.inl ⟨by rfl, ?y13⟩) hS0 ?r13
                  case y13 => intro w hSw; (try dsimp only at hSw); go_simp; (try with_reducible rfl)
                  try simp only [Act.put]
                  refine wpAnyM_take (i := 17) (v := ?v14) rfl (by kernel_rfl) (by kernel_rfl) (by kernel_rfl) [18] (by kernel_rfl) (by kernel_rfl) (fun _ _ _ h => h) (Or.inl ⟨by rfl, ?y14⟩) hS0 ?r14
                  case y14 => intro w hSw; (try dsimp only at hSw); go_simp; (try with_reducible rfl)
                  try simp only [Act.put]
                  have lb : b < W.heap.size := by subst hW; exact l8
                  have lc : w.heap.size < W.heap.size := by subst hW; exact l9
                  have bW : Below w.heap.size w W := by subst hW; exact bd (bdn bX _)
                  have bS2 : w.heap.size ≤ W.heap.size := Nat.le_of_lt lc
                  clear hW
                  have fW : W.frozen? ⟨b, 1, none⟩ = false := (bW.frozen (p := ⟨b, 1, none⟩) l0).trans f0
                  refine wpAnyM_all (rs := [1, 10]) (by kernel_rfl) (by simp) (List.forall_mem_cons.2 ⟨?_, (List.forall_mem_cons.2 ⟨?_, (fun _ h => by cases h)⟩)⟩)
                  ·
                    refine wpOp_step rfl (fun K hK => ?_)
                    go_simp
                    refine hK _ _ ⟨.inr (sAl _ lb lc hS0), ?_⟩
                    try simp only [Act.put, List.setIfInBounds_toArray, List.set_cons_zero, List.set_cons_succ]
                    refine wpAnyM_all (rs := [8, 10]) (by kernel_rfl) (by simp) (List.forall_mem_cons.2 ⟨?_, (List.forall_mem_cons.2 ⟨?_, (fun _ h => by cases h)⟩)⟩)
                    ·
                      refine wpOp_step rfl (fun K hK => ?_)
                      refine step_append_at rfl (.tmp 77) (.tmp 83) 60 (by rfl) w.heap.size 50 i0 _ 5 48 Try.underlying60 hi0 hz0 hz1 hz2 rfl (by decide) (.slice (some ⟨W.heap.size, 0, none⟩) 0 0) (0) ([]) (by simp [Act.eval, Act.put]) (by first | exact own_old (ownE0 _ bS2) | exact ownE0 _ bS2 | exact ownE1 _ _ bS2) ⟨g, 0, none⟩ k cap ((l.take k).flatMap InfoV.cells) (by simp [Act.eval, Act.put]; try (split <;> rfl)) (by rw [flatG_len (k := 5) (fun _ => rfl), List.length_take, ← HN.out, Nat.min_eq_left hkn]) (srcT HO.out (by repeat (first | (with_reducible exact Below.refl _ _) | (with_reducible assumption) | (with_reducible refine ba ?_) | (with_reducible refine bd ?_) | (with_reducible refine bdn ?_ _) | (with_reducible refine bset ?_ (by first | exact Nat.le_refl _ | omega | (simp; done) | (simp; omega))) | (with_reducible refine bt ?_ (by with_reducible assumption)))) lg k) (by first | exact SlI.info_one i | exact flat_one _) (by unfold maxLen; omega) (by omega) (by first | omega | (simp; omega)) ?_
                      intro p8 cap8 w8 ho8 hg8 hat8
                      have b8 : Below W.heap.size W w8 := below_grown (ba (Below.refl _ _)) hg8 (by intro j hj; simp [Value.ownBlock] at hj; omega)
                      have S8 := sBelow b8 lb lc hS0
                      have z8 := b8.size
                      refine hK _ _ ⟨.inr S8, ?_⟩
                      try simp only [Act.put, List.setIfInBounds_toArray]
                      have grow8 : ∀ j, (Value.slice p8 (0 + k) cap8).ownBlock = some j → W.heap.size ≤ j := fun j hj => by rcases hat8 with e | e <;> rw [e] at hj; (simp [Value.ownBlock] at hj; omega); (have := Option.some.inj hj; first | omega | (simp at this; omega))
                      refine wpAnyM_all (rs := [10]) (by kernel_rfl) (by simp) (List.forall_mem_cons.2 ⟨?_, (fun _ h => by cases h)⟩)
                      refine wpOp_step rfl (fun K hK => ?_)
                      go_simp
                      refine hK _ _ ⟨.inr (sAl _ (Nat.lt_of_lt_of_le lb z8) (Nat.lt_of_lt_of_le lc z8) S8), ?_⟩
                      try simp only [Act.put, List.setIfInBounds_toArray, List.set_cons_zero, List.set_cons_succ]
                      refine wpAnyM_all (rs := [11]) (by kernel_rfl) (by simp) (List.forall_mem_cons.2 ⟨?_, (fun _ h => by cases h)⟩)
                      refine wpOp_step rfl (fun K hK => ?_)
                      refine step_append_at rfl (.tmp 84) (.tmp 86) 60 (by rfl) w.heap.size 50 i0 _ 5 48 Try.underlying60 hi0 hz0 hz1 hz2 rfl (by decide) (.slice p8 (0 + k) cap8) (0 + k) ([] ++ (l.take k).flatMap InfoV.cells) (by simp [Act.eval, Act.put]) (own_old ho8) ⟨w8.heap.size, 0, none⟩ 1 1 (i.cells) (by simp [Act.eval, Act.put]; try (split <;> rfl)) rfl (news_of (Box.new _ _ _)) (by first | exact SlI.info_one i | exact flat_one _) (by unfold maxLen; omega) (by omega) (by first | omega | (simp; omega)) ?_
                      intro p11 cap11 w11 ho11 hg11 hat11
                      have b11 : Below W.heap.size W w11 := below_grown (ba b8) hg11 (by intro j hj; exact grow8 j hj)
                      have S11 := sBelow b11 lb lc hS0
                      have z11 := b11.size
                      refine hK _ _ ⟨.inr S11, ?_⟩
                      try simp only [Act.put, List.setIfInBounds_toArray]
                      have bw11 : Below w.heap.size w w11 := bW.trans (b11.mono bS2)
                      have grow11 : ∀ j, (Value.slice p11 (0 + k + 1) cap11).ownBlock = some j → W.heap.size ≤ j := fun j hj => by rcases hat11 with e | e <;> rw [e] at hj; exact grow8 j hj; (have := Option.some.inj hj; first | omega | (simp at this; omega))
                      refine wpAnyM_all (rs := [18]) (by kernel_rfl) (by simp) (List.forall_mem_cons.2 ⟨?_, (fun _ h => by cases h)⟩)
                      refine wpOp_step rfl (fun K hK => ?_)
                      refine step_append_at rfl (.tmp 87) (.tmp 93) 60 (by rfl) w.heap.size 50 i0 _ 5 48 Try.underlying60 hi0 hz0 hz1 hz2 rfl (by decide) (.slice p11 (0 + k + 1) cap11) (0 + k + 1) ([] ++ (l.take k).flatMap InfoV.cells ++ i.cells) (by simp [Act.eval, Act.put]) ho11 ⟨g, k * 5, none⟩ (n - k) (cap - k) ((l.drop k).flatMap InfoV.cells) (by simp [Act.eval, Act.put]; try (split <;> rfl)) (by rw [flatG_len (k := 5) (fun _ => rfl), List.length_drop, ← HN.out]) (srcD HO.out bw11 lg k) (by first | exact SlI.info_one i | exact flat_one _) (by unfold maxLen; omega) (by omega) (by first | omega | (simp; omega)) ?_
                      intro p18 cap18 w18 ho18 hg18 hat18
                      have b18 : Below W.heap.size W w18 := below_grown b11 hg18 (by intro j hj; exact grow11 j hj)
                      have S18 := sBelow b18 lb lc hS0
                      have z18 := b18.size
                      refine hK _ _ ⟨.inr S18, ?_⟩
                      try simp only [Act.put]
                      have f18 : w18.frozen? ⟨b, 1, none⟩ = false := (b18.frozen (p := ⟨b, 1, none⟩) lb).trans fW
                      have k18 := S18.1
                      have bw18 : Below w.heap.size w w18 := bW.trans (b18.mono bS2)
                      refine wpAnyM_take (i := 19) (v := ?v15) rfl (by kernel_rfl) (by kernel_rfl) (by kernel_rfl) [20] (by kernel_rfl) (by kernel_rfl) (fun _ _ _ h => h) (Or.inl ⟨by rfl, ?y15⟩) S18 ?r15
                      case y15 => intro w hSw; (try dsimp only at hSw); go_simp; (try with_reducible rfl)
                      try simp only [Act.put]
                      refine wpAnyM_take (i := 20) (v := ?v16) rfl (by kernel_rfl) (by kernel_rfl) (by kernel_rfl) [] (by kernel_rfl) (by kernel_rfl) (fun _ _ _ h => h) (Or.inl ⟨by rfl, ?y16⟩) S18 ?r16
                      case y16 => intro w hSw; (try dsimp only at hSw); go_simp; (try with_reducible rfl)
                      try simp only [Act.put]
                      refine wpAnyM_all (rs := [21]) (by kernel_rfl) (by simp) (List.forall_mem_cons.2 ⟨?_, (fun _ h => by cases h)⟩)
                      refine wpOp_step rfl (fun K hK => ?_)
                      go_simp
                      refine hK _ _ ⟨.inl rfl, ?_⟩
                      refine wpAnyM_done (by kernel_rfl) ?_ _
                      go_wp2
                      all_goals
                        go_ret
                        have hoz : w18.ownsRow w.heap.size 50 5 (.slice p18 (k + 1 + (n - k)) cap18) (k + 1 + (l.length - k)) (((l.take k).flatMap InfoV.cells ++ i.cells) ++ (l.drop k).flatMap InfoV.cells) := own_congr ho18 (by rw [Nat.zero_add]) (by rw [← HN.out]; omega) (by rw [List.nil_append])
                        exact ⟨by rw [E0.out]; rfl, by rw [E0.out, HD.out]; first | exact leftR_put (k := k) H.out hbw i bw18 (by rw [← HN.out]; exact hkn) (by rw [← HN.out]; omega) hoz | (have H2 := H.out; rw [h] at H2; exact leftR_put (k := k) H2 hbw i bw18 (by rw [← HN.out]; exact hkn) (by rw [← HN.out]; omega) hoz)⟩
                    ·
                      refine wpOp_step rfl (fun K hK => ?_)
                      go_simp
                      refine hK _ _ ⟨.inr (sAl _ (ltAl _ lb) (ltAl _ lc) (sAl _ lb lc hS0)), ?_⟩
                      try simp only [Act.put, List.setIfInBounds_toArray, List.set_cons_zero, List.set_cons_succ]
                      refine wpAnyM_all (rs := [8]) (by kernel_rfl) (by simp) (List.forall_mem_cons.2 ⟨?_, (fun _ h => by cases h)⟩)
                      refine wpOp_step rfl (fun K hK => ?_)
                      refine step_append_at rfl (.tmp 77) (.tmp 83) 60 (by rfl) w.heap.size 50 i0 _ 5 48 Try.underlying60 hi0 hz0 hz1 hz2 rfl (by decide) (.slice (some ⟨W.heap.size, 0, none⟩) 0 0) (0) ([]) (by simp [Act.eval, Act.put]) (by first | exact own_old (ownE0 _ bS2) | exact ownE0 _ bS2 | exact ownE1 _ _ bS2) ⟨g, 0, none⟩ k cap ((l.take k).flatMap InfoV.cells) (by simp [Act.eval, Act.put]; try (split <;> rfl)) (by rw [flatG_len (k := 5) (fun _ => rfl), List.length_take, ← HN.out, Nat.min_eq_left hkn]) (srcT HO.out (by repeat (first | (with_reducible exact Below.refl _ _) | (with_reducible assumption) | (with_reducible refine ba ?_) | (with_reducible refine bd ?_) | (with_reducible refine bdn ?_ _) | (with_reducible refine bset ?_ (by first | exact Nat.le_refl _ | omega | (simp; done) | (simp; omega))) | (with_reducible refine bt ?_ (by with_reducible assumption)))) lg k) (by first | exact SlI.info_one i | exact flat_one _) (by unfold maxLen; omega) (by omega) (by first | omega | (simp; omega)) ?_
                      intro p8 cap8 w8 ho8 hg8 hat8
                      have b8 : Below W.heap.size W w8 := below_grown (ba (ba (Below.refl _ _))) hg8 (by intro j hj; simp [Value.ownBlock] at hj; omega)
                      have S8 := sBelow b8 lb lc hS0
                      have z8 := b8.size
                      refine hK _ _ ⟨.inr S8, ?_⟩
                      try simp only [Act.put, List.setIfInBounds_toArray]
                      have grow8 : ∀ j, (Value.slice p8 (0 + k) cap8).ownBlock = some j → W.heap.size ≤ j := fun j hj => by rcases hat8 with e | e <;> rw [e] at hj; (simp [Value.ownBlock] at hj; omega); (have := Option.some.inj hj; first | omega | (simp at this; omega))
                      refine wpAnyM_all (rs := [11]) (by kernel_rfl) (by simp) (List.forall_mem_cons.2 ⟨?_, (fun _ h => by cases h)⟩)
                      refine wpOp_step rfl (fun K hK => ?_)
                      refine step_append_at rfl (.tmp 84) (.tmp 86) 60 (by rfl) w.heap.size 50 i0 _ 5 48 Try.underlying60 hi0 hz0 hz1 hz2 rfl (by decide) (.slice p8 (0 + k) cap8) (0 + k) ([] ++ (l.take k).flatMap InfoV.cells) (by simp [Act.eval, Act.put]) ho8 ⟨W.heap.size + 1, 0, none⟩ 1 1 (i.cells) (by simp [Act.eval, Act.put]; try (split <;> rfl)) rfl (news_of (boxG (boxU _ _ _ _) hg8 (by simp [Value.ownBlock]))) (by first | exact SlI.info_one i | exact flat_one _) (by unfold maxLen; omega) (by omega) (by first | omega | (simp; omega)) ?_
                      intro p11 cap11 w11 ho11 hg11 hat11
                      have b11 : Below W.heap.size W w11 := below_grown b8 hg11 (by intro j hj; exact grow8 j hj)
                      have S11 := sBelow b11 lb lc hS0
                      have z11 := b11.size
                      refine hK _ _ ⟨.inr S11, ?_⟩
                      try simp only [Act.put]
                      have bw11 : Below w.heap.size w w11 := bW.trans (b11.mono bS2)
                      have grow11 : ∀ j, (Value.slice p11 (0 + k + 1) cap11).ownBlock = some j → W.heap.size ≤ j := fun j hj => by rcases hat11 with e | e <;> rw [e] at hj; exact grow8 j hj; (have := Option.some.inj hj; first | omega | (simp at this; omega))
                      refine wpAnyM_all (rs := [18]) (by kernel_rfl) (by simp) (List.forall_mem_cons.2 ⟨?_, (fun _ h => by cases h)⟩)
                      refine wpOp_step rfl (fun K hK => ?_)
                      refine step_append_at rfl (.tmp 87) (.tmp 93) 60 (by rfl) w.heap.size 50 i0 _ 5 48 Try.underlying60 hi0 hz0 hz1 hz2 rfl (by decide) (.slice p11 (0 + k + 1) cap11) (0 + k + 1) ([] ++ (l.take k).flatMap InfoV.cells ++ i.cells) (by simp [Act.eval, Act.put]) ho11 ⟨g, k * 5, none⟩ (n - k) (cap - k) ((l.drop k).flatMap InfoV.cells) (by simp [Act.eval, Act.put]; try (split <;> rfl)) (by rw [flatG_len (k := 5) (fun _ => rfl), List.length_drop, ← HN.out]) (srcD HO.out bw11 lg k) (by first | exact SlI.info_one i | exact flat_one _) (by unfold maxLen; omega) (by omega) (by first | omega | (simp; omega)) ?_
                      intro p18 cap18 w18 ho18 hg18 hat18
                      have b18 : Below W.heap.size W w18 := below_grown b11 hg18 (by intro j hj; exact grow11 j hj)
                      have S18 := sBelow b18 lb lc hS0
                      have z18 := b18.size
                      refine hK _ _ ⟨.inr S18, ?_⟩
                      try simp only [Act.put]
                      have f18 : w18.frozen? ⟨b, 1, none⟩ = false := (b18.frozen (p := ⟨b, 1, none⟩) lb).trans fW
                      have k18 := S18.1
                      have bw18 : Below w.heap.size w w18 := bW.trans (b18.mono bS2)
                      refine wpAnyM_take (i := 19) (v := ?v17) rfl (by kernel_rfl) (by kernel_rfl) (by kernel_rfl) [20] (by kernel_rfl) (by kernel_rfl) (fun _ _ _ h => h) (Or.inl ⟨by rfl, ?y17⟩) S18 ?r17
                      case y17 => intro w hSw; (try dsimp only at hSw); go_simp; (try with_reducible rfl)
                      try simp only [Act.put]
                      refine wpAnyM_take (i := 20) (v := ?v18) rfl (by kernel_rfl) (by kernel_rfl) (by kernel_rfl) [] (by kernel_rfl) (by kernel_rfl) (fun _ _ _ h => h) (Or.inl ⟨by rfl, ?y18⟩) S18 ?r18
                      case y18 => intro w hSw; (try dsimp only at hSw); go_simp; (try with_reducible rfl)
                      try simp only [Act.put]
                      refine wpAnyM_all (rs := [21]) (by kernel_rfl) (by simp) (List.forall_mem_cons.2 ⟨?_, (fun _ h => by cases h)⟩)
                      refine wpOp_step rfl (fun K hK => ?_)
                      go_simp
                      refine hK _ _ ⟨.inl rfl, ?_⟩
                      refine wpAnyM_done (by kernel_rfl) ?_ _
                      go_wp2
                      all_goals
                        go_ret
                        have hoz : w18.ownsRow w.heap.size 50 5 (.slice p18 (k + 1 + (n - k)) cap18) (k + 1 + (l.length - k)) (((l.take k).flatMap InfoV.cells ++ i.cells) ++ (l.drop k).flatMap InfoV.cells) := own_congr ho18 (by rw [Nat.zero_add]) (by rw [← HN.out]; omega) (by rw [List.nil_append])
                        exact ⟨by rw [E0.out]; rfl, by rw [E0.out, HD.out]; first | exact leftR_put (k := k) H.out hbw i bw18 (by rw [← HN.out]; exact hkn) (by rw [← HN.out]; omega) hoz | (have H2 := H.out; rw [h] at H2; exact leftR_put (k := k) H2 hbw i bw18 (by rw [← HN.out]; exact hkn) (by rw [← HN.out]; omega) hoz)⟩
                  ·
                    refine wpOp_step rfl (fun K hK => ?_)
                    go_simp
                    refine hK _ _ ⟨.inr (sAl _ lb lc hS0), ?_⟩
                    try simp only [Act.put, List.setIfInBounds_toArray, List.set_cons_zero, List.set_cons_succ]
                    refine wpAnyM_all (rs := [1]) (by kernel_rfl) (by simp) (List.forall_mem_cons.2 ⟨?_, (fun _ h => by cases h)⟩)
                    refine wpOp_step rfl (fun K hK => ?_)
                    go_simp
                    refine hK _ _ ⟨.inr (sAl _ (ltAl _ lb) (ltAl _ lc) (sAl _ lb lc hS0)), ?_⟩
                    try simp only [Act.put, List.setIfInBounds_toArray, List.set_cons_zero, List.set_cons_succ]
                    refine wpAnyM_all (rs := [8]) (by kernel_rfl) (by simp) (List.forall_mem_cons.2 ⟨?_, (fun _ h => by cases h)⟩)
                    refine wpOp_step rfl (fun K hK => ?_)
                    refine step_append_at rfl (.tmp 77) (.tmp 83) 60 (by rfl) w.heap.size 50 i0 _ 5 48 Try.underlying60 hi0 hz0 hz1 hz2 rfl (by decide) (.slice (some ⟨W.heap.size + 1, 0, none⟩) 0 0) (0) ([]) (by simp [Act.eval, Act.put]) (by first | exact own_old (ownE0 _ bS2) | exact ownE0 _ bS2 | exact ownE1 _ _ bS2) ⟨g, 0, none⟩ k cap ((l.take k).flatMap InfoV.cells) (by simp [Act.eval, Act.put]; try (split <;> rfl)) (by rw [flatG_len (k := 5) (fun _ => rfl), List.length_take, ← HN.out, Nat.min_eq_left hkn]) (srcT HO.out (by repeat (first | (with_reducible exact Below.refl _ _) | (with_reducible assumption) | (with_reducible refine ba ?_) | (with_reducible refine bd ?_) | (with_reducible refine bdn ?_ _) | (with_reducible refine bset ?_ (by first | exact Nat.le_refl _ | omega | (simp; done) | (simp; omega))) | (with_reducible refine bt ?_ (by with_reducible assumption)))) lg k) (by first | exact SlI.info_one i | exact flat_one _) (by unfold maxLen; omega) (by omega) (by first | omega | (simp; omega)) ?_
                    intro p8 cap8 w8 ho8 hg8 hat8
                    have b8 : Below W.heap.size W w8 := below_grown (ba (ba (Below.refl _ _))) hg8 (by intro j hj; simp [Value.ownBlock] at hj; omega)
                    have S8 := sBelow b8 lb lc hS0
                    have z8 := b8.size
                    refine hK _ _ ⟨.inr S8, ?_⟩
                    try simp only [Act.put, List.setIfInBounds_toArray]
                    have grow8 : ∀ j, (Value.slice p8 (0 + k) cap8).ownBlock = some j → W.heap.size ≤ j := fun j hj => by rcases hat8 with e | e <;> rw [e] at hj; (simp [Value.ownBlock] at hj; omega); (have := Option.some.inj hj; first | omega | (simp at this; omega))
                    refine wpAnyM_all (rs := [11]) (by kernel_rfl) (by simp) (List.forall_mem_cons.2 ⟨?_, (fun _ h => by cases h)⟩)
                    refine wpOp_step rfl (fun K hK => ?_)
                    refine step_append_at rfl (.tmp 84) (.tmp 86) 60 (by rfl) w.heap.size 50 i0 _ 5 48 Try.underlying60 hi0 hz0 hz1 hz2 rfl (by decide) (.slice p8 (0 + k) cap8) (0 + k) ([] ++ (l.take k).flatMap InfoV.cells) (by simp [Act.eval, Act.put]) ho8 ⟨W.heap.size, 0, none⟩ 1 1 (i.cells) (by simp [Act.eval, Act.put]; try (split <;> rfl)) rfl (news_of (boxG (Box.old (Box.new _ _ _)) hg8 (by simp [Value.ownBlock]))) (by first | exact SlI.info_one i | exact flat_one _) (by unfold maxLen; omega) (by omega) (by first | omega | (simp; omega)) ?_
                    intro p11 cap11 w11 ho11 hg11 hat11
                    have b11 : Below W.heap.size W w11 := below_grown b8 hg11 (by intro j hj; exact grow8 j hj)
                    have S11 := sBelow b11 lb lc hS0
                    have z11 := b11.size
                    refine hK _ _ ⟨.inr S11, ?_⟩
                    try simp only [Act.put]
                    have bw11 : Below w.heap.size w w11 := bW.trans (b11.mono bS2)
                    have grow11 : ∀ j, (Value.slice p11 (0 + k + 1) cap11).ownBlock = some j → W.heap.size ≤ j := fun j hj => by rcases hat11 with e | e <;> rw [e] at hj; exact grow8 j hj; (have := Option.some.inj hj; first | omega | (simp at this; omega))
                    refine wpAnyM_all (rs := [18]) (by kernel_rfl) (by simp) (List.forall_mem_cons.2 ⟨?_, (fun _ h => by cases h)⟩)
                    refine wpOp_step rfl (fun K hK => ?_)
                    refine step_append_at rfl (.tmp 87) (.tmp 93) 60 (by rfl) w.heap.size 50 i0 _ 5 48 Try.underlying60 hi0 hz0 hz1 hz2 rfl (by decide) (.slice p11 (0 + k + 1) cap11) (0 + k + 1) ([] ++ (l.take k).flatMap InfoV.cells ++ i.cells) (by simp [Act.eval, Act.put]) ho11 ⟨g, k * 5, none⟩ (n - k) (cap - k) ((l.drop k).flatMap InfoV.cells) (by simp [Act.eval, Act.put]; try (split <;> rfl)) (by rw [flatG_len (k := 5) (fun _ => rfl), List.length_drop, ← HN.out]) (srcD HO.out bw11 lg k) (by first | exact SlI.info_one i | exact flat_one _) (by unfold maxLen; omega) (by omega) (by first | omega | (simp; omega)) ?_
                    intro p18 cap18 w18 ho18 hg18 hat18
                    have b18 : Below W.heap.size W w18 := below_grown b11 hg18 (by intro j hj; exact grow11 j hj)
                    have S18 := sBelow b18 lb lc hS0
                    have z18 := b18.size
                    refine hK _ _ ⟨.inr S18, ?_⟩
                    try simp only [Act.put]
                    have f18 : w18.frozen? ⟨b, 1, none⟩ = false := (b18.frozen (p := ⟨b, 1, none⟩) lb).trans fW
                    have k18 := S18.1
                    have bw18 : Below w.heap.size w w18 := bW.trans (b18.mono bS2)
                    refine wpAnyM_take (i := 19) (v := ?v19) rfl (by kernel_rfl) (by kernel_rfl) (by kernel_rfl) [20] (by kernel_rfl) (by kernel_rfl) (fun _ _ _ h => h) (Or.inl ⟨by rfl, ?y19⟩) S18 ?r19
                    case y19 => intro w hSw; (try dsimp only at hSw); go_simp; (try with_reducible rfl)
                    try simp only [Act.put]
                    refine wpAnyM_take (i := 20) (v := ?v20) rfl (by kernel_rfl) (by kernel_rfl) (by kernel_rfl) [] (by kernel_rfl) (by kernel_rfl) (fun _ _ _ h => h) (Or.inl ⟨by rfl, ?y20⟩) S18 ?r20
                    case y20 => intro w hSw; (try dsimp only at hSw); go_simp; (try with_reducible rfl)
                    try simp only [Act.put]
                    refine wpAnyM_all (rs := [21]) (by kernel_rfl) (by simp) (List.forall_mem_cons.2 ⟨?_, (fun _ h => by cases h)⟩)
                    refine wpOp_step rfl (fun K hK => ?_)
                    go_simp
                    refine hK _ _ ⟨.inl rfl, ?_⟩
                    refine wpAnyM_done (by kernel_rfl) ?_ _
                    go_wp2
                    all_goals
                      go_ret
                      have hoz : w18.ownsRow w.heap.size 50 5 (.slice p18 (k + 1 + (n - k)) cap18) (k + 1 + (l.length - k)) (((l.take k).flatMap InfoV.cells ++ i.cells) ++ (l.drop k).flatMap InfoV.cells) := own_congr ho18 (by rw [Nat.zero_add]) (by rw [← HN.out]; omega) (by rw [List.nil_append])
                      exact ⟨by rw [E0.out]; rfl, by rw [E0.out, HD.out]; first | exact leftR_put (k := k) H.out hbw i bw18 (by rw [← HN.out]; exact hkn) (by rw [← HN.out]; omega) hoz | (have H2 := H.out; rw [h] at H2; exact leftR_put (k := k) H2 hbw i bw18 (by rw [← HN.out]; exact hkn) (by rw [← HN.out]; omega) hoz)⟩
              · obtain rfl : n = k := by omega
                have HD := Lib.hid (HA3.out.trans (by rw [List.drop_eq_nil_of_le (by rw [← HN.out]; exact Nat.le_refl _)]; rfl) : firsts l i.fr = n)
                go_wp2
                go_quiet (fail)
                go_wp2
                have bX := bwr
                have hkc : n ≤ cap := by omega
                have hkn : n ≤ n := by omega
                have q1 : ((n : Nat) : Int) ≤ (cap : Int) := by omega
                have q2 : ((n : Nat) : Int) ≤ (n : Int) := by omega
                have q3 : (n : Int) ≤ (cap : Int) := by omega
                have hS := bX.size
                refine wp_region_heldM (fun W => (W.cell? ⟨b, 1, none⟩ = some (.slice (some ⟨g, 0, none⟩) n cap)) ∧ (W.cell? ⟨w.heap.size, 0, none⟩ = some (.int .i64 i.fr)) ∧ (W.cell? ⟨w.heap.size, 1, none⟩ = some (.int .i64 i.th)) ∧ (W.cell? ⟨w.heap.size, 2, none⟩ = some (.int .i64 i.off)) ∧ (W.cell? ⟨w.heap.size, 3, none⟩ = some (.int .i64 i.save)) ∧ (W.cell? ⟨w.heap.size, 4, none⟩ = some (.string i.abbr))) 21 (by kernel_rfl) ?_ ?_
                · exact ⟨(hcb 1).trans k0, c9 0, c9 1, c9 2, c9 3, c9 4⟩
                intro W hW hS0
                refine wpAnyM_take (i := 0) (v := ?v201) rfl (by kernel_rfl) (by kernel_rfl) (by kernel_rfl) [20, 19] (by kernel_rfl) (by kernel_rfl) (fun _ _ _ h => h) (Or.inl ⟨by rfl, ?y201⟩) hS0 ?r201
                case y201 => intro w hSw; (try dsimp only at hSw); go_simp; (try with_reducible rfl)
                try simp only [Act.put, List.setIfInBounds_toArray]
                refine wpAnyM_take (i := 2) (v := ?v202) rfl (by kernel_rfl) (by kernel_rfl) (by kernel_rfl) [18, 11, 8, 7, 5, 4, 3] (by kernel_rfl) (by kernel_rfl) (fun _ _ _ h => h) (Or.inl ⟨by rfl, ?y202⟩) hS0 ?r202
                case y202 => intro w hSw; (try dsimp only at hSw); go_simp; (try with_reducible rfl)
                try simp only [Act.put]
                refine wpAnyM_take (i := 3) (v := ?v203) rfl (by kernel_rfl) (by kernel_rfl) (by kernel_rfl) [18, 11, 8, 7, 5, 4] (by kernel_rfl) (by kernel_rfl) (fun _ _ _ h => h) (Or.inl ⟨by rfl, ?y203⟩) hS0 ?r203
                case y203 => intro w hSw; (try dsimp only at hSw); go_simp; (try with_reducible rfl)
                try simp only [Act.put]
                refine wpAnyM_take (i := 4) (v := ?v204) rfl (by kernel_rfl) (by kernel_rfl) (by kernel_rfl) [18, 11, 8, 7, 5] (by kernel_rfl) (by kernel_rfl) (fun _ _ _ h => h) (Or.inl ⟨by rfl, ?y204⟩) hS0 ?r204
                case y204 => intro w hSw; (try dsimp only at hSw); go_simp; (try with_reducible rfl)
                try simp only [Act.put]
                refine wpAnyM_take (i := 5) (v := ?v205) rfl (by kernel_rfl) (by kernel_rfl) (by kernel_rfl) [18, 11, 8, 7] (by kernel_rfl) (by kernel_rfl) (fun _ _ _ h => h) (Or.inl ⟨by rfl, ?y205⟩) hS0 ?r205
                case y205 => intro w hSw; (try dsimp only at hSw); go_simp; (try with_reducible rfl)
                try simp only [Act.put]
                refine wpAnyM_take (i := 6) (v := ?v206) rfl (by kernel_rfl) (by kernel_rfl) (by kernel_rfl) [18, 11, 8, 7] (by kernel_rfl) (by kernel_rfl) (fun _ _ _ h => h) (Or.inl ⟨by rfl, ?y206⟩) hS0 ?r206
                case y206 => intro w hSw; (try dsimp only at hSw); go_simp; (try with_reducible rfl)
                try simp only [Act.put]
                refine wpAnyM_take (i := 7) (v := ?v207) rfl (by kernel_rfl) (by kernel_rfl) (by kernel_rfl) [18, 11, 8] (by kernel_rfl) (by kernel_rfl) (fun _ _ _ h => h) (Or.inl ⟨by rfl, ?y207⟩) hS0 ?r207
                case y207 => intro w hSw; (try dsimp only at hSw); go_simp; (try with_reducible rfl)
                try simp only [Act.put]
                refine wpAnyM_take (i := 9) (v := ?v208) rfl (by kernel_rfl) (by kernel_rfl) (by kernel_rfl) [18, 11, 10] (by kernel_rfl) (by kernel_rfl) (fun _ _ _ h => h) (Or.inl ⟨by rfl, ?y208⟩) hS0 ?r208
                case y208 => intro w hSw; (try dsimp only at hSw); go_simp; (try with_reducible rfl)
                try simp only [Act.put]
                refine wpAnyM_take (i := 12) (v := ?v209) rfl (by kernel_rfl) (by kernel_rfl) (by kernel_rfl) [18, 17, 15, 14, 13] (by kernel_rfl) (by kernel_rfl) (fun _ _ _ h => h) (Or.inl ⟨by rfl, ?y209⟩) hS0 ?r209
                case y209 => intro w hSw; (try dsimp only at hSw); go_simp; (try with_reducible rfl)
                try simp only [Act.put]
                refine wpAnyM_take (i := 13) (v := ?v210) rfl (by kernel_rfl) (by kernel_rfl) (by kernel_rfl) [18, 17, 15, 14] (by kernel_rfl) (by kernel_rfl) (fun _ _ _ h => h) (Or.inl ⟨by rfl, ?y210⟩) hS0 ?r210
                case y210 => intro w hSw; (try dsimp only at hSw); go_simp; (try with_reducible rfl)
                try simp only [Act.put]
                refine wpAnyM_take (i := 14) (v := ?v211) rfl (by kernel_rfl) (by kernel_rfl) (by kernel_rfl) [18, 17, 15] (by kernel_rfl) (by kernel_rfl) (fun _ _ _ h => h) (Or.inl ⟨by rfl, ?y211⟩) hS0 ?r211
                case y211 => intro w hSw; (try dsimp only at hSw); go_simp; (try with_reducible rfl)
                try simp only [Act.put]
                refine wpAnyM_take (i := 15) (v := ?v212) rfl (by kernel_rfl) (by kernel_rfl) (by kernel_rfl) [18, 17] (by kernel_rfl) (by kernel_rfl) (fun _ _ _ h => h) (Or.inl ⟨by rfl, ?y212⟩) hS0 ?r212
                case y212 => intro w hSw; (try dsimp only at hSw); go_simp; (try with_reducible rfl)
                try simp only [Act.put]
                refine wpAnyM_take (i := 16) (v := ?v213) rfl (by kernel_rfl) (by kernel_rfl) (by kernel_rfl) [18, 17] (by kernel_rfl) (by kernel_rfl) (fun _ _ _ h => h) (Or.inl ⟨by rfl, ?y213⟩) hS0 ?r213
                case y213 => intro w hSw; (try dsimp only at hSw); go_simp; (try with_reducible rfl)
                try simp only [Act.put]
                refine wpAnyM_take (i := 17) (v := ?v214) rfl (by kernel_rfl) (by kernel_rfl) (by kernel_rfl) [18] (by kernel_rfl) (by kernel_rfl) (fun _ _ _ h => h) (Or.inl ⟨by rfl, ?y214⟩) hS0 ?r214
                case y214 => intro w hSw; (try dsimp only at hSw); go_simp; (try with_reducible rfl)
                try simp only [Act.put]
                have lb : b < W.heap.size := by subst hW; exact l8
                have lc : w.heap.size < W.heap.size := by subst hW; exact l9
                have bW : Below w.heap.size w W := by subst hW; exact bd (bdn bX _)
                have bS2 : w.heap.size ≤ W.heap.size := Nat.le_of_lt lc
                clear hW
                have fW : W.frozen? ⟨b, 1, none⟩ = false := (bW.frozen (p := ⟨b, 1, none⟩) l0).trans f0
                refine wpAnyM_all (rs := [1, 10]) (by kernel_rfl) (by simp) (List.forall_mem_cons.2 ⟨?_, (List.forall_mem_cons.2 ⟨?_, (fun _ h => by cases h)⟩)⟩)
                ·
                  refine wpOp_step rfl (fun K hK => ?_)
                  go_simp
                  refine hK _ _ ⟨.inr (sAl _ lb lc hS0), ?_⟩
                  try simp only [Act.put, List.setIfInBounds_toArray, List.set_cons_zero, List.set_cons_succ]
                  refine wpAnyM_all (rs := [8, 10]) (by kernel_rfl) (by simp) (List.forall_mem_cons.2 ⟨?_, (List.forall_mem_cons.2 ⟨?_, (fun _ h => by cases h)⟩)⟩)
                  ·
                    refine wpOp_step rfl (fun K hK => ?_)
                    refine step_append_at rfl (.tmp 77) (.tmp 83) 60 (by rfl) w.heap.size 50 i0 _ 5 48 Try.underlying60 hi0 hz0 hz1 hz2 rfl (by decide) (.slice (some ⟨W.heap.size, 0, none⟩) 0 0) (0) ([]) (by simp [Act.eval, Act.put]) (by first | exact own_old (ownE0 _ bS2) | exact ownE0 _ bS2 | exact ownE1 _ _ bS2) ⟨g, 0, none⟩ n cap ((l.take n).flatMap InfoV.cells) (by simp [Act.eval, Act.put]; try (split <;> rfl)) (by rw [flatG_len (k := 5) (fun _ => rfl), List.length_take, ← HN.out, Nat.min_eq_left hkn]) (srcT HO.out (by repeat (first | (with_reducible exact Below.refl _ _) | (with_reducible assumption) | (with_reducible refine ba ?_) | (with_reducible refine bd ?_) | (with_reducible refine bdn ?_ _) | (with_reducible refine bset ?_ (by first | exact Nat.le_refl _ | omega | (simp; done) | (simp; omega))) | (with_reducible refine bt ?_ (by with_reducible assumption)))) lg n) (by first | exact SlI.info_one i | exact flat_one _) (by unfold maxLen; omega) (by omega) (by first | omega | (simp; omega)) ?_
                    intro p8 cap8 w8 ho8 hg8 hat8
                    have b8 : Below W.heap.size W w8 := below_grown (ba (Below.refl _ _)) hg8 (by intro j hj; simp [Value.ownBlock] at hj; omega)
                    have S8 := sBelow b8 lb lc hS0
                    have z8 := b8.size
                    refine hK _ _ ⟨.inr S8, ?_⟩
                    try simp only [Act.put, List.setIfInBounds_toArray]
                    have grow8 : ∀ j, (Value.slice p8 (0 + n) cap8).ownBlock = some j → W.heap.size ≤ j := fun j hj => by rcases hat8 with e | e <;> rw [e] at hj; (simp [Value.ownBlock] at hj; omega); (have := Option.some.inj hj; first | omega | (simp at this; omega))
                    refine wpAnyM_all (rs := [10]) (by kernel_rfl) (by simp) (List.forall_mem_cons.2 ⟨?_, (fun _ h => by cases h)⟩)
                    refine wpOp_step rfl (fun K hK => ?_)
                    go_simp
                    refine hK _ _ ⟨.inr (sAl _ (Nat.lt_of_lt_of_le lb z8) (Nat.lt_of_lt_of_le lc z8) S8), ?_⟩
                    try simp only [Act.put, List.setIfInBounds_toArray, List.set_cons_zero, List.set_cons_succ]
                    refine wpAnyM_all (rs := [11]) (by kernel_rfl) (by simp) (List.forall_mem_cons.2 ⟨?_, (fun _ h => by cases h)⟩)
                    refine wpOp_step rfl (fun K hK => ?_)
                    refine step_append_at rfl (.tmp 84) (.tmp 86) 60 (by rfl) w.heap.size 50 i0 _ 5 48 Try.underlying60 hi0 hz0 hz1 hz2 rfl (by decide) (.slice p8 (0 + n) cap8) (0 + n) ([] ++ (l.take n).flatMap InfoV.cells) (by simp [Act.eval, Act.put]) (own_old ho8) ⟨w8.heap.size, 0, none⟩ 1 1 (i.cells) (by simp [Act.eval, Act.put]; try (split <;> rfl)) rfl (news_of (Box.new _ _ _)) (by first | exact SlI.info_one i | exact flat_one _) (by unfold maxLen; omega) (by omega) (by first | omega | (simp; omega)) ?_
                    intro p11 cap11 w11 ho11 hg11 hat11
                    have b11 : Below W.heap.size W w11 := below_grown (ba b8) hg11 (by intro j hj; exact grow8 j hj)
                    have S11 := sBelow b11 lb lc hS0
                    have z11 := b11.size
                    refine hK _ _ ⟨.inr S11, ?_⟩
                    try simp only [Act.put, List.setIfInBounds_toArray]
                    have bw11 : Below w.heap.size w w11 := bW.trans (b11.mono bS2)
                    have grow11 : ∀ j, (Value.slice p11 (0 + n + 1) cap11).ownBlock = some j → W.heap.size ≤ j := fun j hj => by rcases hat11 with e | e <;> rw [e] at hj; exact grow8 j hj; (have := Option.some.inj hj; first | omega | (simp at this; omega))
                    refine wpAnyM_all (rs := [18]) (by kernel_rfl) (by simp) (List.forall_mem_cons.2 ⟨?_, (fun _ h => by cases h)⟩)
                    refine wpOp_step rfl (fun K hK => ?_)
                    refine step_append_at rfl (.tmp 87) (.tmp 93) 60 (by rfl) w.heap.size 50 i0 _ 5 48 Try.underlying60 hi0 hz0 hz1 hz2 rfl (by decide) (.slice p11 (0 + n + 1) cap11) (0 + n + 1) ([] ++ (l.take n).flatMap InfoV.cells ++ i.cells) (by simp [Act.eval, Act.put]) ho11 ⟨g, (if cap = n then 0 else n * 5), none⟩ (n - n) (cap - n) ((l.drop n).flatMap InfoV.cells) (by simp [Act.eval, Act.put]; try (split <;> rfl)) (by rw [flatG_len (k := 5) (fun _ => rfl), List.length_drop, ← HN.out]) (fun j u hu => by rw [List.drop_eq_nil_of_le (by rw [← HN.out]; exact Nat.le_refl _)] at hu; simp at hu) (by first | exact SlI.info_one i | exact flat_one _) (by unfold maxLen; omega) (by omega) (by first | omega | (simp; omega)) ?_
                    intro p18 cap18 w18 ho18 hg18 hat18
                    have b18 : Below W.heap.size W w18 := below_grown b11 hg18 (by intro j hj; exact grow11 j hj)
                    have S18 := sBelow b18 lb lc hS0
                    have z18 := b18.size
                    refine hK _ _ ⟨.inr S18, ?_⟩
                    try simp only [Act.put]
                    have f18 : w18.frozen? ⟨b, 1, none⟩ = false := (b18.frozen (p := ⟨b, 1, none⟩) lb).trans fW
                    have k18 := S18.1
                    have bw18 : Below w.heap.size w w18 := bW.trans (b18.mono bS2)
                    refine wpAnyM_take (i := 19) (v := ?v215) rfl (by kernel_rfl) (by kernel_rfl) (by kernel_rfl) [20] (by kernel_rfl) (by kernel_rfl) (fun _ _ _ h => h) (Or.inl ⟨by rfl, ?y215⟩) S18 ?r215
                    case y215 => intro w hSw; (try dsimp only at hSw); go_simp; (try with_reducible rfl)
                    try simp only [Act.put]
                    refine wpAnyM_take (i := 20) (v := ?v216) rfl (by kernel_rfl) (by kernel_rfl) (by kernel_rfl) [] (by kernel_rfl) (by kernel_rfl) (fun _ _ _ h => h) (Or.inl ⟨by rfl, ?y216⟩) S18 ?r216
                    case y216 => intro w hSw; (try dsimp only at hSw); go_simp; (try with_reducible rfl)
                    try simp only [Act.put]
                    refine wpAnyM_all (rs := [21]) (by kernel_rfl) (by simp) (List.forall_mem_cons.2 ⟨?_, (fun _ h => by cases h)⟩)
                    refine wpOp_step rfl (fun K hK => ?_)
                    go_simp
                    refine hK _ _ ⟨.inl rfl, ?_⟩
                    refine wpAnyM_done (by kernel_rfl) ?_ _
                    go_wp2
                    all_goals
                      go_ret
                      have hoz : w18.ownsRow w.heap.size 50 5 (.slice p18 (n + 1) cap18) (n + 1 + (l.length - n)) (((l.take n).flatMap InfoV.cells ++ i.cells) ++ (l.drop n).flatMap InfoV.cells) := own_congr ho18 (by rw [Nat.zero_add]; simp) (by rw [← HN.out]; omega) (by rw [List.nil_append])
                      exact ⟨by rw [E0.out]; rfl, by rw [E0.out, HD.out]; first | exact leftR_put (k := n) H.out hbw i bw18 (by rw [← HN.out]; exact hkn) (by rw [← HN.out]; omega) hoz | (have H2 := H.out; rw [h] at H2; exact leftR_put (k := n) H2 hbw i bw18 (by rw [← HN.out]; exact hkn) (by rw [← HN.out]; omega) hoz)⟩
                  ·
                    refine wpOp_step rfl (fun K hK => ?_)
                    go_simp
                    refine hK _ _ ⟨.inr (sAl _ (ltAl _ lb) (ltAl _ lc) (sAl _ lb lc hS0)), ?_⟩
                    try simp only [Act.put, List.setIfInBounds_toArray, List.set_cons_zero, List.set_cons_succ]
                    refine wpAnyM_all (rs := [8]) (by kernel_rfl) (by simp) (List.forall_mem_cons.2 ⟨?_, (fun _ h => by cases h)⟩)
                    refine wpOp_step rfl (fun K hK => ?_)
                    refine step_append_at rfl (.tmp 77) (.tmp 83) 60 (by rfl) w.heap.size 50 i0 _ 5 48 Try.underlying60 hi0 hz0 hz1 hz2 rfl (by decide) (.slice (some ⟨W.heap.size, 0, none⟩) 0 0) (0) ([]) (by simp [Act.eval, Act.put]) (by first | exact own_old (ownE0 _ bS2) | exact ownE0 _ bS2 | exact ownE1 _ _ bS2) ⟨g, 0, none⟩ n cap ((l.take n).flatMap InfoV.cells) (by simp [Act.eval, Act.put]; try (split <;> rfl)) (by rw [flatG_len (k := 5) (fun _ => rfl), List.length_take, ← HN.out, Nat.min_eq_left hkn]) (srcT HO.out (by repeat (first | (with_reducible exact Below.refl _ _) | (with_reducible assumption) | (with_reducible refine ba ?_) | (with_reducible refine bd ?_) | (with_reducible refine bdn ?_ _) | (with_reducible refine bset ?_ (by first | exact Nat.le_refl _ | omega | (simp; done) | (simp; omega))) | (with_reducible refine bt ?_ (by with_reducible assumption)))) lg n) (by first | exact SlI.info_one i | exact flat_one _) (by unfold maxLen; omega) (by omega) (by first | omega | (simp; omega)) ?_
                    intro p8 cap8 w8 ho8 hg8 hat8
                    have b8 : Below W.heap.size W w8 := below_grown (ba (ba (Below.refl _ _))) hg8 (by intro j hj; simp [Value.ownBlock] at hj; omega)
                    have S8 := sBelow b8 lb lc hS0
                    have z8 := b8.size
                    refine hK _ _ ⟨.inr S8, ?_⟩
                    try simp only [Act.put, List.setIfInBounds_toArray]
                    have grow8 : ∀ j, (Value.slice p8 (0 + n) cap8).ownBlock = some j → W.heap.size ≤ j := fun j hj => by rcases hat8 with e | e <;> rw [e] at hj; (simp [Value.ownBlock] at hj; omega); (have := Option.some.inj hj; first | omega | (simp at this; omega))
                    refine wpAnyM_all (rs := [11]) (by kernel_rfl) (by simp) (List.forall_mem_cons.2 ⟨?_, (fun _ h => by cases h)⟩)
                    refine wpOp_step rfl (fun K hK => ?_)
                    refine step_append_at rfl (.tmp 84) (.tmp 86) 60 (by rfl) w.heap.size 50 i0 _ 5 48 Try.underlying60 hi0 hz0 hz1 hz2 rfl (by decide) (.slice p8 (0 + n) cap8) (0 + n) ([] ++ (l.take n).flatMap InfoV.cells) (by simp [Act.eval, Act.put]) ho8 ⟨W.heap.size + 1, 0, none⟩ 1 1 (i.cells) (by simp [Act.eval, Act.put]; try (split <;> rfl)) rfl (news_of (boxG (boxU _ _ _ _) hg8 (by simp [Value.ownBlock]))) (by first | exact SlI.info_one i | exact flat_one _) (by unfold maxLen; omega) (by omega) (by first | omega | (simp; omega)) ?_
                    intro p11 cap11 w11 ho11 hg11 hat11
                    have b11 : Below W.heap.size W w11 := below_grown b8 hg11 (by intro j hj; exact grow8 j hj)
                    have S11 := sBelow b11 lb lc hS0
                    have z11 := b11.size
                    refine hK _ _ ⟨.inr S11, ?_⟩
                    try simp only [Act.put]
                    have bw11 : Below w.heap.size w w11 := bW.trans (b11.mono bS2)
                    have grow11 : ∀ j, (Value.slice p11 (0 + n + 1) cap11).ownBlock = some j → W.heap.size ≤ j := fun j hj => by rcases hat11 with e | e <;> rw [e] at hj; exact grow8 j hj; (have := Option.some.inj hj; first | omega | (simp at this; omega))
                    refine wpAnyM_all (rs := [18]) (by kernel_rfl) (by simp) (List.forall_mem_cons.2 ⟨?_, (fun _ h => by cases h)⟩)
                    refine wpOp_step rfl (fun K hK => ?_)
                    refine step_append_at rfl (.tmp 87) (.tmp 93) 60 (by rfl) w.heap.size 50 i0 _ 5 48 Try.underlying60 hi0 hz0 hz1 hz2 rfl (by decide) (.slice p11 (0 + n + 1) cap11) (0 + n + 1) ([] ++ (l.take n).flatMap InfoV.cells ++ i.cells) (by simp [Act.eval, Act.put]) ho11 ⟨g, (if cap = n then 0 else n * 5), none⟩ (n - n) (cap - n) ((l.drop n).flatMap InfoV.cells) (by simp [Act.eval, Act.put]; try (split <;> rfl)) (by rw [flatG_len (k := 5) (fun _ => rfl), List.length_drop, ← HN.out]) (fun j u hu => by rw [List.drop_eq_nil_of_le (by rw [← HN.out]; exact Nat.le_refl _)] at hu; simp at hu) (by first | exact SlI.info_one i | exact flat_one _) (by unfold maxLen; omega) (by omega) (by first | omega | (simp; omega)) ?_
                    intro p18 cap18 w18 ho18 hg18 hat18
                    have b18 : Below W.heap.size W w18 := below_grown b11 hg18 (by intro j hj; exact grow11 j hj)
                    have S18 := sBelow b18 lb lc hS0
                    have z18 := b18.size
                    refine hK _ _ ⟨.inr S18, ?_⟩
                    try simp only [Act.put]
                    have f18 : w18.frozen? ⟨b, 1, none⟩ = false := (b18.frozen (p := ⟨b, 1, none⟩) lb).trans fW
                    have k18 := S18.1
                    have bw18 : Below w.heap.size w w18 := bW.trans (b18.mono bS2)
                    refine wpAnyM_take (i := 19) (v := ?v217) rfl (by kernel_rfl) (by kernel_rfl) (by kernel_rfl) [20] (by kernel_rfl) (by kernel_rfl) (fun _ _ _ h => h) (Or.inl ⟨by rfl, ?y217⟩) S18 ?r217
                    case y217 => intro w hSw; (try dsimp only at hSw); go_simp; (try with_reducible rfl)
                    try simp only [Act.put]
                    refine wpAnyM_take (i := 20) (v := ?v218) rfl (by kernel_rfl) (by kernel_rfl) (by kernel_rfl) [] (by kernel_rfl) (by kernel_rfl) (fun _ _ _ h => h) (Or.inl ⟨by rfl, ?y218⟩) S18 ?r218
                    case y218 => intro w hSw; (try dsimp only at hSw); go_simp; (try with_reducible rfl)
                    try simp only [Act.put]
                    refine wpAnyM_all (rs := [21]) (by kernel_rfl) (by simp) (List.forall_mem_cons.2 ⟨?_, (fun _ h => by cases h)⟩)
                    refine wpOp_step rfl (fun K hK => ?_)
                    go_simp
                    refine hK _ _ ⟨.inl rfl, ?_⟩
                    refine wpAnyM_done (by kernel_rfl) ?_ _
                    go_wp2
                    all_goals
                      go_ret
                      have hoz : w18.ownsRow w.heap.size 50 5 (.slice p18 (n + 1) cap18) (n + 1 + (l.length - n)) (((l.take n).flatMap InfoV.cells ++ i.cells) ++ (l.drop n).flatMap InfoV.cells) := own_congr ho18 (by rw [Nat.zero_add]; simp) (by rw [← HN.out]; omega) (by rw [List.nil_append])
                      exact ⟨by rw [E0.out]; rfl, by rw [E0.out, HD.out]; first | exact leftR_put (k := n) H.out hbw i bw18 (by rw [← HN.out]; exact hkn) (by rw [← HN.out]; omega) hoz | (have H2 := H.out; rw [h] at H2; exact leftR_put (k := n) H2 hbw i bw18 (by rw [← HN.out]; exact hkn) (by rw [← HN.out]; omega) hoz)⟩
                ·
                  refine wpOp_step rfl (fun K hK => ?_)
                  go_simp
                  refine hK _ _ ⟨.inr (sAl _ lb lc hS0), ?_⟩
                  try simp only [Act.put, List.setIfInBounds_toArray, List.set_cons_zero, List.set_cons_succ]
                  refine wpAnyM_all (rs := [1]) (by kernel_rfl) (by simp) (List.forall_mem_cons.2 ⟨?_, (fun _ h => by cases h)⟩)
                  refine wpOp_step rfl (fun K hK => ?_)
                  go_simp
                  refine hK _ _ ⟨.inr (sAl _ (ltAl _ lb) (ltAl _ lc) (sAl _ lb lc hS0)), ?_⟩
                  try simp only [Act.put, List.setIfInBounds_toArray, List.set_cons_zero, List.set_cons_succ]
                  refine wpAnyM_all (rs := [8]) (by kernel_rfl) (by simp) (List.forall_mem_cons.2 ⟨?_, (fun _ h => by cases h)⟩)
                  refine wpOp_step rfl (fun K hK => ?_)
                  refine step_append_at rfl (.tmp 77) (.tmp 83) 60 (by rfl) w.heap.size 50 i0 _ 5 48 Try.underlying60 hi0 hz0 hz1 hz2 rfl (by decide) (.slice (some ⟨W.heap.size + 1, 0, none⟩) 0 0) (0) ([]) (by simp [Act.eval, Act.put]) (by first | exact own_old (ownE0 _ bS2) | exact ownE0 _ bS2 | exact ownE1 _ _ bS2) ⟨g, 0, none⟩ n cap ((l.take n).flatMap InfoV.cells) (by simp [Act.eval, Act.put]; try (split <;> rfl)) (by rw [flatG_len (k := 5) (fun _ => rfl), List.length_take, ← HN.out, Nat.min_eq_left hkn]) (srcT HO.out (by repeat (first | (with_reducible exact Below.refl _ _) | (with_reducible assumption) | (with_reducible refine ba ?_) | (with_reducible refine bd ?_) | (with_reducible refine bdn ?_ _) | (with_reducible refine bset ?_ (by first | exact Nat.le_refl _ | omega | (simp; done) | (simp; omega))) | (with_reducible refine bt ?_ (by with_reducible assumption)))) lg n) (by first | exact SlI.info_one i | exact flat_one _) (by unfold maxLen; omega) (by omega) (by first | omega | (simp; omega)) ?_
                  intro p8 cap8 w8 ho8 hg8 hat8
                  have b8 : Below W.heap.size W w8 := below_grown (ba (ba (Below.refl _ _))) hg8 (by intro j hj; simp [Value.ownBlock] at hj; omega)
                  have S8 := sBelow b8 lb lc hS0
                  have z8 := b8.size
                  refine hK _ _ ⟨.inr S8, ?_⟩
                  try simp only [Act.put, List.setIfInBounds_toArray]
                  have grow8 : ∀ j, (Value.slice p8 (0 + n) cap8).ownBlock = some j → W.heap.size ≤ j := fun j hj => by rcases hat8 with e | e <;> rw [e] at hj; (simp [Value.ownBlock] at hj; omega); (have := Option.some.inj hj; first | omega | (simp at this; omega))
                  refine wpAnyM_all (rs := [11]) (by kernel_rfl) (by simp) (List.forall_mem_cons.2 ⟨?_, (fun _ h => by cases h)⟩)
                  refine wpOp_step rfl (fun K hK => ?_)
                  refine step_append_at rfl (.tmp 84) (.tmp 86) 60 (by rfl) w.heap.size 50 i0 _ 5 48 Try.underlying60 hi0 hz0 hz1 hz2 rfl (by decide) (.slice p8 (0 + n) cap8) (0 + n) ([] ++ (l.take n).flatMap InfoV.cells) (by simp [Act.eval, Act.put]) ho8 ⟨W.heap.size, 0, none⟩ 1 1 (i.cells) (by simp [Act.eval, Act.put]; try (split <;> rfl)) rfl (news_of (boxG (Box.old (Box.new _ _ _)) hg8 (by simp [Value.ownBlock]))) (by first | exact SlI.info_one i | exact flat_one _) (by unfold maxLen; omega) (by omega) (by first | omega | (simp; omega)) ?_
                  intro p11 cap11 w11 ho11 hg11 hat11
                  have b11 : Below W.heap.size W w11 := below_grown b8 hg11 (by intro j hj; exact grow8 j hj)
                  have S11 := sBelow b11 lb lc hS0
                  have z11 := b11.size
                  refine hK _ _ ⟨.inr S11, ?_⟩
                  try simp only [Act.put]
                  have bw11 : Below w.heap.size w w11 := bW.trans (b11.mono bS2)
                  have grow11 : ∀ j, (Value.slice p11 (0 + n + 1) cap11).ownBlock = some j → W.heap.size ≤ j := fun j hj => by rcases hat11 with e | e <;> rw [e] at hj; exact grow8 j hj; (have := Option.some.inj hj; first | omega | (simp at this; omega))
                  refine wpAnyM_all (rs := [18]) (by kernel_rfl) (by simp) (List.forall_mem_cons.2 ⟨?_, (fun _ h => by cases h)⟩)
                  refine wpOp_step rfl (fun K hK => ?_)
                  refine step_append_at rfl (.tmp 87) (.tmp 93) 60 (by rfl) w.heap.size 50 i0 _ 5 48 Try.underlying60 hi0 hz0 hz1 hz2 rfl (by decide) (.slice p11 (0 + n + 1) cap11) (0 + n + 1) ([] ++ (l.take n).flatMap InfoV.cells ++ i.cells) (by simp [Act.eval, Act.put]) ho11 ⟨g, (if cap = n then 0 else n * 5), none⟩ (n - n) (cap - n) ((l.drop n).flatMap InfoV.cells) (by simp [Act.eval, Act.put]; try (split <;> rfl)) (by rw [flatG_len (k := 5) (fun _ => rfl), List.length_drop, ← HN.out]) (fun j u hu => by rw [List.drop_eq_nil_of_le (by rw [← HN.out]; exact Nat.le_refl _)] at hu; simp at hu) (by first | exact SlI.info_one i | exact flat_one _) (by unfold maxLen; omega) (by omega) (by first | omega | (simp; omega)) ?_
                  intro p18 cap18 w18 ho18 hg18 hat18
                  have b18 : Below W.heap.size W w18 := below_grown b11 hg18 (by intro j hj; exact grow11 j hj)
                  have S18 := sBelow b18 lb lc hS0
                  have z18 := b18.size
                  refine hK _ _ ⟨.inr S18, ?_⟩
                  try simp only [Act.put]
                  have f18 : w18.frozen? ⟨b, 1, none⟩ = false := (b18.frozen (p := ⟨b, 1, none⟩) lb).trans fW
                  have k18 := S18.1
                  have bw18 : Below w.heap.size w w18 := bW.trans (b18.mono bS2)
                  refine wpAnyM_take (i := 19) (v := ?v219) rfl (by kernel_rfl) (by kernel_rfl) (by kernel_rfl) [20] (by kernel_rfl) (by kernel_rfl) (fun _ _ _ h => h) (Or.inl ⟨by rfl, ?y219⟩) S18 ?r219
                  case y219 => intro w hSw; (try dsimp only at hSw); go_simp; (try with_reducible rfl)
                  try simp only [Act.put]
                  refine wpAnyM_take (i := 20) (v := ?v220) rfl (by kernel_rfl) (by kernel_rfl) (by kernel_rfl) [] (by kernel_rfl) (by kernel_rfl) (fun _ _ _ h => h) (Or.inl ⟨by rfl, ?y220⟩) S18 ?r220
                  case y220 => intro w hSw; (try dsimp only at hSw); go_simp; (try with_reducible rfl)
                  try simp only [Act.put]
                  refine wpAnyM_all (rs := [21]) (by kernel_rfl) (by simp) (List.forall_mem_cons.2 ⟨?_, (fun _ h => by cases h)⟩)
                  refine wpOp_step rfl (fun K hK => ?_)
                  go_simp
                  refine hK _ _ ⟨.inl rfl, ?_⟩
                  refine wpAnyM_done (by kernel_rfl) ?_ _
                  go_wp2
                  all_goals
                    go_ret
                    have hoz : w18.ownsRow w.heap.size 50 5 (.slice p18 (n + 1) cap18) (n + 1 + (l.length - n)) (((l.take n).flatMap InfoV.cells ++ i.cells) ++ (l.drop n).flatMap InfoV.cells) := own_congr ho18 (by rw [Nat.zero_add]; simp) (by rw [← HN.out]; omega) (by rw [List.nil_append])
                    exact ⟨by rw [E0.out]; rfl, by rw [E0.out, HD.out]; first | exact leftR_put (k := n) H.out hbw i bw18 (by rw [← HN.out]; exact hkn) (by rw [← HN.out]; omega) hoz | (have H2 := H.out; rw [h] at H2; exact leftR_put (k := n) H2 hbw i bw18 (by rw [← HN.out]; exact hkn) (by rw [← HN.out]; omega) hoz)⟩
/-- the document's Put -/
theorem Put {w : World} {base b : Nat} {room : Int} {v : Value} {l : List InfoV} (h : SR w base b room v l) (hr : 1 ≤ room) (hrb : room ≤ 65536) (hbw : base ≤ w.heap.size) (i : InfoV) :
    Calls Try.prog 23 #[.pointer (some ⟨b, 0, none⟩), .agg i.cells.toArray] w fun e w' => e = .returned (.int .i64 (putR room l i).1) ∧ LeftR w base b room v (putR room l i).2 w' := by
  by_cases hi : i.fr < i.th
  · rcases h.own.2 with ⟨rfl, hn0⟩ | ⟨g, cap, cur, rfl, hbg, hg, hnc, hcm, hsz, htk⟩
    · obtain rfl : l = [] := List.eq_nil_of_length_eq_zero hn0
      have e : putR room [] i = (0, [i]) := by unfold putR; rw [if_neg (not_not_intro hi), if_neg (by simp), if_neg (by simp), if_neg (by simp; omega)]; rfl
      rw [e]
      exact putNil h hbw hr i hi
    · exact putBlk h (Array.getElem?_eq_some_iff.1 hg).1 hnc hrb hbw i hi
  · have e : putR room l i = (4, l) := by unfold putR; rw [if_pos hi]
    rw [e]
    exact put4 h i hi
end StR
end Go.Proofs.Ytjgodnakhbkgeaa
