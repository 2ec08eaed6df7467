/-
  The document's store: New, Find, Drop, Near.
-/
import Derived.Test.YtjgodnakhbkgeaaStoP
namespace Go.Proofs.Ytjgodnakhbkgeaa
open Go.RowKit NB OW
namespace StR
open Sto
attribute [local go_sem ↓] eqlL neqL
/-- the document's store as it lies -/
structure SR (w : World) (base b : Nat) (room : Int) (v : Value) (l : List InfoV) : Prop where
  box : Box w b #[.int .i64 room, v] 62
  own : w.ownsRow base 50 5 v l.length (l.flatMap InfoV.cells)
  bb : base ≤ b
  n : l.length ≤ 100000
theorem SR.keep {S : Nat → Prop} {w w' : World} {base b : Nat} {room : Int} {v : Value} {l : List InfoV} (h : SR w base b room v l) (ho : Onl S w w') (hb : ¬ S b) (hs : ∀ g, v.ownBlock = some g → ¬ S g) : SR w' base b room v l :=
  ⟨ho.box h.box hb, ho.own h.own hs, h.bb, h.n⟩
theorem SR.later {w w' : World} {base b : Nat} {room : Int} {v : Value} {l : List InfoV} (h : SR w base b room v l) (hb : Below w.heap.size w w') : SR w' base b room v l :=
  h.keep (S := fun _ => False) (Onl.of_below hb) (fun h => h) (fun _ _ h => h)
set_option maxHeartbeats 800000 in
theorem Right (f t : Int) (w : World) : Calls Try.prog 61 #[.agg #[.int .i64 f, .int .i64 t]] w fun e w' => e = .returned (.bool (decide (f < t))) ∧ Below w.heap.size w w' := by
  go_enter Try.func61, Try.ntmps61
  go_wp2
  go_ret
  exact ⟨rfl, by repeat (first | (with_reducible exact Below.refl _ _) | (with_reducible assumption) | (with_reducible refine ba ?_) | (with_reducible refine bd ?_) | (with_reducible refine bdn ?_ _) | (with_reducible refine bset ?_ (by first | exact Nat.le_refl _ | omega | (simp; done) | (simp; omega))) | (with_reducible refine bt ?_ (by with_reducible assumption)))⟩
set_option maxHeartbeats 800000 in
theorem Has (f t s : Int) (w : World) : Calls Try.prog 65 #[.agg #[.int .i64 f, .int .i64 t], .int .i64 s] w fun e w' => e = .returned (.bool (decide (f ≤ s) && decide (s < t))) ∧ Below w.heap.size w w' := by
  by_cases h : f ≤ s
  · go_enter Try.func65, Try.ntmps65
    go_wp2
    go_ret
    exact ⟨by simp [h], by repeat (first | (with_reducible exact Below.refl _ _) | (with_reducible assumption) | (with_reducible refine ba ?_) | (with_reducible refine bd ?_) | (with_reducible refine bdn ?_ _) | (with_reducible refine bset ?_ (by first | exact Nat.le_refl _ | omega | (simp; done) | (simp; omega))) | (with_reducible refine bt ?_ (by with_reducible assumption)))⟩
  · have h' : decide (f ≤ s) = false := decide_eq_false h
    go_enter Try.func65, Try.ntmps65
    go_wp2
    go_ret
    exact ⟨by simp [h], by repeat (first | (with_reducible exact Below.refl _ _) | (with_reducible assumption) | (with_reducible refine ba ?_) | (with_reducible refine bd ?_) | (with_reducible refine bdn ?_ _) | (with_reducible refine bset ?_ (by first | exact Nat.le_refl _ | omega | (simp; done) | (simp; omega))) | (with_reducible refine bt ?_ (by with_reducible assumption)))⟩
set_option maxHeartbeats 1600000 in
theorem Meet (a b : InfoV) (w : World) : Calls Try.prog 62 #[.agg #[.int .i64 a.fr, .int .i64 a.th], .agg #[.int .i64 b.fr, .int .i64 b.th]] w fun e w' => e = .returned (.bool (meet a b)) ∧ Below w.heap.size w w' := by
  have r1 := fun W => Right a.fr a.th W
  have r2 := fun W => Right b.fr b.th W
  have h1 := fun W => Has a.fr a.th b.fr W
  have h2 := fun W => Has b.fr b.th a.fr W
  unfold meet has
  generalize decide (a.fr < a.th) = q1 at *
  generalize decide (b.fr < b.th) = q2 at *
  generalize (decide (a.fr ≤ b.fr) && decide (b.fr < a.th)) = q3 at *
  generalize (decide (b.fr ≤ a.fr) && decide (a.fr < b.th)) = q4 at *
  have R1 := Lib.hid r1
  have R2 := Lib.hid r2
  have H1 := Lib.hid h1
  have H2 := Lib.hid h2
  clear r1 r2 h1 h2
  cases q1 <;> cases q2 <;> cases q3
  all_goals
    go_enter Try.func62, Try.ntmps62
    go_wp2_with (first
      | (with_reducible (go_at_call 61; (with_reducible refine (R1.out _).mono ?_); rintro e w1 ⟨rfl, hb1⟩; obtain ⟨hc1, hf1⟩ := bcell hb1; have hc1_0 := fun o => hc1 (w.heap.size) o (by first | assumption | omega | (simp; done) | (simp; omega)); have hf1_0 := fun o => hf1 (w.heap.size) o (by first | assumption | omega | (simp; done) | (simp; omega)); have hc1_1 := fun o => hc1 (w.heap.size + 1) o (by first | assumption | omega | (simp; done) | (simp; omega)); have hf1_1 := fun o => hf1 (w.heap.size + 1) o (by first | assumption | omega | (simp; done) | (simp; omega)); clear hc1 hf1; have hz1_0 : w.heap.size < w1.heap.size := (by first | exact sz1 hb1 | exact sz2 hb1 | exact sz3 hb1 | (have := hb1.size; (try simp only [World.size_alloc, World.size_drew] at this); omega)); have hz1_1 : w.heap.size + 1 < w1.heap.size := (by first | exact sz1 hb1 | exact sz2 hb1 | exact sz3 hb1 | (have := hb1.size; (try simp only [World.size_alloc, World.size_drew] at this); omega))))
      | (with_reducible (go_at_call 61; (with_reducible refine (R2.out _).mono ?_); rintro e w2 ⟨rfl, hb2⟩; obtain ⟨hc2, hf2⟩ := bcell hb2; have hc2_0 := fun o => hc2 (w.heap.size) o (by first | assumption | omega | (simp; done) | (simp; omega)); have hf2_0 := fun o => hf2 (w.heap.size) o (by first | assumption | omega | (simp; done) | (simp; omega)); have hc2_1 := fun o => hc2 (w.heap.size + 1) o (by first | assumption | omega | (simp; done) | (simp; omega)); have hf2_1 := fun o => hf2 (w.heap.size + 1) o (by first | assumption | omega | (simp; done) | (simp; omega)); clear hc2 hf2; have hz2_0 : w.heap.size < w2.heap.size := (by first | exact sz1 hb2 | exact sz2 hb2 | exact sz3 hb2 | (have := hb2.size; (try simp only [World.size_alloc, World.size_drew] at this); omega)); have hz2_1 : w.heap.size + 1 < w2.heap.size := (by first | exact sz1 hb2 | exact sz2 hb2 | exact sz3 hb2 | (have := hb2.size; (try simp only [World.size_alloc, World.size_drew] at this); omega))))
      | (with_reducible (go_at_call 65; (with_reducible refine (H1.out _).mono ?_); rintro e w3 ⟨rfl, hb3⟩; obtain ⟨hc3, hf3⟩ := bcell hb3; have hc3_0 := fun o => hc3 (w.heap.size) o (by first | assumption | omega | (simp; done) | (simp; omega)); have hf3_0 := fun o => hf3 (w.heap.size) o (by first | assumption | omega | (simp; done) | (simp; omega)); have hc3_1 := fun o => hc3 (w.heap.size + 1) o (by first | assumption | omega | (simp; done) | (simp; omega)); have hf3_1 := fun o => hf3 (w.heap.size + 1) o (by first | assumption | omega | (simp; done) | (simp; omega)); clear hc3 hf3; have hz3_0 : w.heap.size < w3.heap.size := (by first | exact sz1 hb3 | exact sz2 hb3 | exact sz3 hb3 | (have := hb3.size; (try simp only [World.size_alloc, World.size_drew] at this); omega)); have hz3_1 : w.heap.size + 1 < w3.heap.size := (by first | exact sz1 hb3 | exact sz2 hb3 | exact sz3 hb3 | (have := hb3.size; (try simp only [World.size_alloc, World.size_drew] at this); omega))))
      | (with_reducible (go_at_call 65; (with_reducible refine (H2.out _).mono ?_); rintro e w4 ⟨rfl, hb4⟩; obtain ⟨hc4, hf4⟩ := bcell hb4; have hc4_0 := fun o => hc4 (w.heap.size) o (by first | assumption | omega | (simp; done) | (simp; omega)); have hf4_0 := fun o => hf4 (w.heap.size) o (by first | assumption | omega | (simp; done) | (simp; omega)); have hc4_1 := fun o => hc4 (w.heap.size + 1) o (by first | assumption | omega | (simp; done) | (simp; omega)); have hf4_1 := fun o => hf4 (w.heap.size + 1) o (by first | assumption | omega | (simp; done) | (simp; omega)); clear hc4 hf4; have hz4_0 : w.heap.size < w4.heap.size := (by first | exact sz1 hb4 | exact sz2 hb4 | exact sz3 hb4 | (have := hb4.size; (try simp only [World.size_alloc, World.size_drew] at this); omega)); have hz4_1 : w.heap.size + 1 < w4.heap.size := (by first | exact sz1 hb4 | exact sz2 hb4 | exact sz3 hb4 | (have := hb4.size; (try simp only [World.size_alloc, World.size_drew] at this); omega)))))
    go_ret
    exact ⟨by simp, by repeat (first | (with_reducible exact Below.refl _ _) | (with_reducible assumption) | (with_reducible refine ba ?_) | (with_reducible refine bd ?_) | (with_reducible refine bdn ?_ _) | (with_reducible refine bset ?_ (by first | exact Nat.le_refl _ | omega | (simp; done) | (simp; omega))) | (with_reducible refine bt ?_ (by with_reducible assumption)))⟩
set_option maxHeartbeats 800000 in
theorem NewNo (room : Int) (hr : room < 1 ∨ 65536 < room) (w : World) : Calls Try.prog 21 #[.int .i64 room] w fun e w' => e = .returned (.tuple #[.pointer none, .int .i64 1]) ∧ Below w.heap.size w w' := by
  rcases hr with hr | hr
  · go_enter Try.func21, Try.ntmps21
    go_wp2
    go_ret2
    exact ⟨rfl, by repeat (first | (with_reducible exact Below.refl _ _) | (with_reducible assumption) | (with_reducible refine ba ?_) | (with_reducible refine bd ?_) | (with_reducible refine bdn ?_ _) | (with_reducible refine bset ?_ (by first | exact Nat.le_refl _ | omega | (simp; done) | (simp; omega))) | (with_reducible refine bt ?_ (by with_reducible assumption)))⟩
  · have h1 : ¬ room < 1 := by omega
    go_enter Try.func21, Try.ntmps21
    go_wp2
    go_ret2
    exact ⟨rfl, by repeat (first | (with_reducible exact Below.refl _ _) | (with_reducible assumption) | (with_reducible refine ba ?_) | (with_reducible refine bd ?_) | (with_reducible refine bdn ?_ _) | (with_reducible refine bset ?_ (by first | exact Nat.le_refl _ | omega | (simp; done) | (simp; omega))) | (with_reducible refine bt ?_ (by with_reducible assumption)))⟩
set_option maxHeartbeats 800000 in
theorem New (room : Int) (h0 : 1 ≤ room) (h1 : room ≤ 65536) (w : World) : Calls Try.prog 21 #[.int .i64 room] w fun e w' => ∃ b, e = .returned (.tuple #[.pointer (some ⟨b, 0, none⟩), .int .i64 0]) ∧ SR w' w.heap.size b room (.slice none 0 0) [] ∧ b < w'.heap.size ∧ Below w.heap.size w w' := by
  have h2 : ¬ room < 1 := by omega
  have h3 : ¬ 65536 < room := by omega
  go_enter Try.func21, Try.ntmps21
  go_wp2
  go_ret2
  exact ⟨w.heap.size, rfl, ⟨Box.new _ _ _, World.ownsRow_nil _ _ _ _, Nat.le_refl _, by simp⟩, by simp, by repeat (first | (with_reducible exact Below.refl _ _) | (with_reducible assumption) | (with_reducible refine ba ?_) | (with_reducible refine bd ?_) | (with_reducible refine bdn ?_ _) | (with_reducible refine bset ?_ (by first | exact Nat.le_refl _ | omega | (simp; done) | (simp; omega))) | (with_reducible refine bt ?_ (by with_reducible assumption)))⟩
theorem findR_drop (t : Int) : ∀ (l : List InfoV) (k : Nat) (x : InfoV), l[k]? = some x → findR (l.drop k) t = if has x t = true then (x, true) else findR (l.drop (k + 1)) t
  | [], k, x, h => by simp at h
  | y :: r, 0, x, h => by simp at h; subst h; rfl
  | y :: r, k + 1, x, h => by
    rw [List.drop_succ_cons, List.drop_succ_cons]
    exact findR_drop t r k x (by simpa using h)
set_option maxRecDepth 100000 in
set_option maxHeartbeats 3200000 in
theorem Find {w : World} {base b : Nat} {room : Int} {v : Value} {l : List InfoV} (h : SR w base b room v l) (t : Int) :
    Calls Try.prog 27 #[.pointer (some ⟨b, 0, none⟩), .int .i64 t] w fun e w' => e = .returned (.tuple #[.agg (findR l t).1.cells.toArray, .bool (findR l t).2]) ∧ Below w.heap.size w w' := by
  have k0 := h.box.cell 1
  have l0 := h.box.lt
  have n0 := h.n
  have ho := h.own
  rcases ho.2 with ⟨rfl, hn0⟩ | ⟨g, cap, cur, rfl, hbg, hg, hnc, hcm, hsz, htk⟩
  · obtain rfl : l = [] := List.eq_nil_of_length_eq_zero hn0
    clear h ho hn0
    go_enter Try.func27, Try.ntmps27
    go_wp2
    have W0 := Box.new w #[.int .i64 0, .int .i64 0, .int .i64 0, .int .i64 0, .string ⟨#[]⟩] 50
    have BW : Below w.heap.size w (w.alloc (.cells #[.int .i64 0, .int .i64 0, .int .i64 0, .int .i64 0, .string ⟨#[]⟩] 50)) := by repeat (first | (with_reducible exact Below.refl _ _) | (with_reducible assumption) | (with_reducible refine ba ?_) | (with_reducible refine bd ?_) | (with_reducible refine bdn ?_ _) | (with_reducible refine bset ?_ (by first | exact Nat.le_refl _ | omega | (simp; done) | (simp; omega))) | (with_reducible refine bt ?_ (by with_reducible assumption)))
    go_loopw [13] (fun i wr => i = .int .i64 0 ∧ Below w.heap.size w wr ∧ Box wr w.heap.size #[.int .i64 0, .int .i64 0, .int .i64 0, .int .i64 0, .string ⟨#[]⟩] 50) (fun _ _ => 0)
    case atStart => exact ⟨rfl, BW, W0⟩
    case round =>
      obtain ⟨rfl, hbel, hbx⟩ := hrel
      have c0 := hbx.cell
      have f0 := hbx.free
      have lb := hbx.lt
      go_wp2
      refine bodyPost_ret (v := .tuple #[.agg #[.int .i64 0, .int .i64 0, .int .i64 0, .int .i64 0, .string ⟨#[]⟩], .bool false]) ?_ rfl ⟨rfl, ?_⟩
      · (simp only [results, Try.results27]; go_simp)
      · repeat (first | (with_reducible exact Below.refl _ _) | (with_reducible assumption) | (with_reducible refine ba ?_) | (with_reducible refine bd ?_) | (with_reducible refine bdn ?_ _) | (with_reducible refine bset ?_ (by first | exact Nat.le_refl _ | omega | (simp; done) | (simp; omega))) | (with_reducible refine bt ?_ (by with_reducible assumption)))
  · have lg : g < w.heap.size := (Array.getElem?_eq_some_iff.1 hg).1
    have HO := Lib.hid ho
    clear h ho hg hsz htk hnc hcm
    obtain ⟨n, hn⟩ : ∃ n, n = l.length := ⟨_, rfl⟩
    rw [← hn] at n0 k0
    have HN := Lib.hid hn
    clear hn
    go_enter Try.func27, Try.ntmps27
    go_wp2
    have W0 := Box.new w #[.int .i64 0, .int .i64 0, .int .i64 0, .int .i64 0, .string ⟨#[]⟩] 50
    have BW : Below w.heap.size w (w.alloc (.cells #[.int .i64 0, .int .i64 0, .int .i64 0, .int .i64 0, .string ⟨#[]⟩] 50)) := by repeat (first | (with_reducible exact Below.refl _ _) | (with_reducible assumption) | (with_reducible refine ba ?_) | (with_reducible refine bd ?_) | (with_reducible refine bdn ?_ _) | (with_reducible refine bset ?_ (by first | exact Nat.le_refl _ | omega | (simp; done) | (simp; omega))) | (with_reducible refine bt ?_ (by with_reducible assumption)))
    go_loopw [13] (fun i wr => ∃ k : Nat, i = .int .i64 k ∧ k ≤ n ∧ Below w.heap.size w wr ∧ Box wr w.heap.size #[.int .i64 0, .int .i64 0, .int .i64 0, .int .i64 0, .string ⟨#[]⟩] 50 ∧ Hid (findR l t = findR (l.drop k) t)) (fun i _ => n - (intOf i).toNat)
    case atStart => exact ⟨0, rfl, Nat.zero_le _, BW, W0, rfl⟩
    case round =>
      obtain ⟨k, rfl, hk, hbr, hbx, HF⟩ := hrel
      have c9 := hbx.cell
      have f9 := hbx.free
      have l9 := hbx.lt
      by_cases hlt : k < n
      · obtain ⟨x, hx⟩ : ∃ x, l[k]? = some x := ⟨_, List.getElem?_eq_getElem (by rw [← HN.out]; exact hlt)⟩
        have hd := findR_drop t l k x hx
        obtain ⟨c0, c1, c2, c3, c4⟩ := own_cells HO.out hx
        have hcr := fun o => hbr.cell (p := ⟨g, o, none⟩) lg
        have hg1 : g < wr.heap.size := Nat.lt_of_lt_of_le lg hbr.size
        have ch := fun W => Has x.fr x.th t W
        have eh : (decide (x.fr ≤ t) && decide (t < x.th)) = has x t := rfl
        rw [eh] at ch
        clear hx eh
        by_cases hh : has x t = true
        · rw [if_pos hh] at hd
          rw [hh] at ch
          have HD := Lib.hid hd
          have CH := Lib.hid ch
          clear hd ch hh
          go_wp2_with (go_at_call 65; (with_reducible refine (CH.out _).mono ?_); rintro e w1 ⟨rfl, hb1⟩; obtain ⟨hc1, hf1⟩ := bcell hb1; have hc1_0 := fun o => hc1 (w.heap.size) o (by first | assumption | omega | (simp; done) | (simp; omega)); have hf1_0 := fun o => hf1 (w.heap.size) o (by first | assumption | omega | (simp; done) | (simp; omega)); have hc1_1 := fun o => hc1 (wr.heap.size) o (by first | assumption | omega | (simp; done) | (simp; omega)); have hf1_1 := fun o => hf1 (wr.heap.size) o (by first | assumption | omega | (simp; done) | (simp; omega)); clear hc1 hf1; have hz1_0 : w.heap.size < w1.heap.size := (by first | exact sz1 hb1 | exact sz2 hb1 | exact sz3 hb1 | (have := hb1.size; (try simp only [World.size_alloc, World.size_drew] at this); omega)); have hz1_1 : wr.heap.size < w1.heap.size := (by first | exact sz1 hb1 | exact sz2 hb1 | exact sz3 hb1 | (have := hb1.size; (try simp only [World.size_alloc, World.size_drew] at this); omega)))
          refine bodyPost_ret (v := .tuple #[.agg #[.int .i64 x.fr, .int .i64 x.th, .int .i64 x.off, .int .i64 x.save, .string x.abbr], .bool true]) ?_ rfl ⟨by rw [HF.out, HD.out]; rfl, ?_⟩
          · (simp only [results, Try.results27]; go_simp)
          · repeat (first | (with_reducible exact Below.refl _ _) | (with_reducible assumption) | (with_reducible refine ba ?_) | (with_reducible refine bd ?_) | (with_reducible refine bdn ?_ _) | (with_reducible refine bset ?_ (by first | exact Nat.le_refl _ | omega | (simp; done) | (simp; omega))) | (with_reducible refine bt ?_ (by with_reducible assumption)))
        · rw [if_neg hh] at hd
          rw [show has x t = false by simpa using hh] at ch
          have HD := Lib.hid hd
          have CH := Lib.hid ch
          clear hd ch hh
          go_wp2_with (go_at_call 65; (with_reducible refine (CH.out _).mono ?_); rintro e w1 ⟨rfl, hb1⟩; obtain ⟨hc1, hf1⟩ := bcell hb1; have hc1_0 := fun o => hc1 (w.heap.size) o (by first | assumption | omega | (simp; done) | (simp; omega)); have hf1_0 := fun o => hf1 (w.heap.size) o (by first | assumption | omega | (simp; done) | (simp; omega)); have hc1_1 := fun o => hc1 (wr.heap.size) o (by first | assumption | omega | (simp; done) | (simp; omega)); have hf1_1 := fun o => hf1 (wr.heap.size) o (by first | assumption | omega | (simp; done) | (simp; omega)); clear hc1 hf1; have hz1_0 : w.heap.size < w1.heap.size := (by first | exact sz1 hb1 | exact sz2 hb1 | exact sz3 hb1 | (have := hb1.size; (try simp only [World.size_alloc, World.size_drew] at this); omega)); have hz1_1 : wr.heap.size < w1.heap.size := (by first | exact sz1 hb1 | exact sz2 hb1 | exact sz3 hb1 | (have := hb1.size; (try simp only [World.size_alloc, World.size_drew] at this); omega)))
          go_roundw
          case rel => exact ⟨k + 1, by go_num, by omega, by repeat (first | (with_reducible exact Below.refl _ _) | (with_reducible assumption) | (with_reducible refine ba ?_) | (with_reducible refine bd ?_) | (with_reducible refine bdn ?_ _) | (with_reducible refine bset ?_ (by first | exact Nat.le_refl _ | omega | (simp; done) | (simp; omega))) | (with_reducible refine bt ?_ (by with_reducible assumption))), by repeat (first | (with_reducible assumption) | (with_reducible exact Box.new _ _ _) | (with_reducible refine Box.old ?_) | (with_reducible refine Box.drew ?_) | (with_reducible refine Box.drewN ?_ _) | (with_reducible refine Box.other ?_ (by first | assumption | omega | (simp; omega))) | (with_reducible refine Box.later ?_ (by with_reducible assumption))), HF.out.trans HD.out⟩
          case measure => simp [intOf]; omega
      · obtain rfl : k = n := by omega
        have e : findR l t = (none0, false) := by rw [HF.out, List.drop_eq_nil_of_le (by rw [← HN.out]; exact Nat.le_refl _)]; rfl
        have HE := Lib.hid e
        clear e
        go_wp2
        refine bodyPost_ret (v := .tuple #[.agg #[.int .i64 0, .int .i64 0, .int .i64 0, .int .i64 0, .string ⟨#[]⟩], .bool false]) ?_ rfl ⟨by rw [HE.out]; rfl, ?_⟩
        · (simp only [results, Try.results27]; go_simp)
        · repeat (first | (with_reducible exact Below.refl _ _) | (with_reducible assumption) | (with_reducible refine ba ?_) | (with_reducible refine bd ?_) | (with_reducible refine bdn ?_ _) | (with_reducible refine bset ?_ (by first | exact Nat.le_refl _ | omega | (simp; done) | (simp; omega))) | (with_reducible refine bt ?_ (by with_reducible assumption)))
def LeftR (w : World) (base b : Nat) (room : Int) (v : Value) (l' : List InfoV) (w' : World) : Prop :=
  ∃ v', SR w' base b room v' l' ∧ Onl (fun j => j = b) w w' ∧ (v' = v ∨ ∀ g, v'.ownBlock = some g → w.heap.size ≤ g)
theorem leftR_same {w w' : World} {base b : Nat} {room : Int} {v : Value} {l : List InfoV} (h : SR w base b room v l) (hb : Below w.heap.size w w') : LeftR w base b room v l w' :=
  ⟨v, h.later hb, Onl.of_below hb, .inl rfl⟩
theorem own_more {w : World} {base base' e k n : Nat} {v : Value} {xs : List Value} (ho : w.ownsRow base e k v n xs) (h : base' ≤ base) : w.ownsRow base' e k v n xs := by
  refine ⟨ho.1, ?_⟩
  rcases ho.2 with h1 | ⟨g, cap, cur, rfl, h2, h3, h4⟩
  · exact .inl h1
  · exact .inr ⟨g, cap, cur, rfl, by omega, h3, h4⟩
theorem leftR_new {w X : World} {base b : Nat} {room : Int} {v v' : Value} {l l' : List InfoV} (h : SR w base b room v l) (hb : base ≤ w.heap.size) (hX : Below w.heap.size w X) (ho : X.ownsRow w.heap.size 50 5 v' l'.length (l'.flatMap InfoV.cells)) (hn : l'.length ≤ 100000) :
    LeftR w base b room v l' (X.setCell ⟨b, 1, none⟩ v') := by
  have hlt := fun g hg => (ho.lt g hg).1
  refine ⟨v', ⟨(h.later hX).box.set, own_more (own_far ho (fun e => by have := hlt b e; have := h.box.lt; omega)) hb, h.bb, hn⟩, ?_, .inr hlt⟩
  exact (Onl.of_below hX).setCell (.inl rfl)
theorem filter_succ {l : List InfoV} {k : Nat} {x : InfoV} (hx : l[k]? = some x) (p : InfoV → Bool) : (l.take (k + 1)).filter p = (l.take k).filter p ++ (if p x = true then [x] else []) := by
  rw [List.take_add_one, hx, List.filter_append]
  congr 1
  by_cases h : p x = true
  · rw [if_pos h]; simp [h]
  · rw [if_neg h]; simp [h]
set_option maxRecDepth 100000 in
set_option maxHeartbeats 3200000 in
theorem Drop {w : World} {base b : Nat} {room : Int} {v : Value} {l : List InfoV} (h : SR w base b room v l) (hbw : base ≤ w.heap.size) (t : Int) :
    Calls Try.prog 25 #[.pointer (some ⟨b, 0, none⟩), .int .i64 t] w fun e w' => e = .returned (.int .i64 (dropR l t).1) ∧ LeftR w base b room v (dropR l t).2 w' := by
  obtain ⟨i0, hi, hz0, hz1, hz2⟩ := info_parts SlI.info_E
  have k0 := h.box.cell 1
  have f0 := h.box.free 1
  have l0 := h.box.lt
  have n0 := h.n
  have ho := h.own
  have H := Lib.hid h
  rcases ho.2 with ⟨rfl, hn0⟩ | ⟨g, cap, cur, rfl, hbg, hg, hnc, hcm, hsz, htk⟩
  · obtain rfl : l = [] := List.eq_nil_of_length_eq_zero hn0
    clear h ho hn0
    go_enter Try.func25, Try.ntmps25
    go_wp2
    go_loopw [5, 13] (fun vl i wr => vl = .slice none 0 0 ∧ i = .int .i64 0 ∧ Below w.heap.size w wr) (fun _ _ _ => 0)
    case atStart => exact ⟨rfl, rfl, Below.refl _ _⟩
    case round =>
      obtain ⟨rfl, rfl, hbr⟩ := hrel
      have hc := fun o => hbr.cell (p := ⟨b, o, none⟩) l0
      go_wp2
      go_ret
      exact ⟨rfl, leftR_same H.out hbr⟩
  · have lg : g < w.heap.size := (Array.getElem?_eq_some_iff.1 hg).1
    have HO := Lib.hid ho
    clear h ho hg hsz htk hnc hcm
    obtain ⟨n, hn⟩ : ∃ n, n = l.length := ⟨_, rfl⟩
    rw [← hn] at n0 k0
    have HN := Lib.hid hn
    clear hn
    go_enter Try.func25, Try.ntmps25
    go_wp2
    go_loopw [5, 13] (fun vl i wr => ∃ (k m : Nat) (p : Option Addr) (c : Nat), vl = .slice p m c ∧ i = .int .i64 k ∧ k ≤ n ∧ m ≤ k ∧ Below w.heap.size w wr ∧ Hid (m = ((l.take k).filter fun x => !has x t).length) ∧ Hid (wr.ownsRow w.heap.size 50 5 (.slice p m c) m (((l.take k).filter fun x => !has x t).flatMap InfoV.cells))) (fun _ i _ => n - (intOf i).toNat)
    case atStart => exact ⟨0, 0, none, 0, rfl, rfl, Nat.zero_le _, Nat.le_refl _, Below.refl _ _, rfl, World.ownsRow_nil _ _ _ _⟩
    case round =>
      obtain ⟨k, m, p, c, rfl, rfl, hk, hmk, hbr, HM, HR⟩ := hrel
      by_cases hlt : k < n
      · obtain ⟨x, hx⟩ : ∃ x, l[k]? = some x := ⟨_, List.getElem?_eq_getElem (by rw [← HN.out]; exact hlt)⟩
        have hd := filter_succ hx (fun x => !has x t)
        obtain ⟨c0, c1, c2, c3, c4⟩ := own_cells HO.out hx
        have hcr := fun o => hbr.cell (p := ⟨g, o, none⟩) lg
        have hg1 : g < wr.heap.size := Nat.lt_of_lt_of_le lg hbr.size
        have ch := fun W => Has x.fr x.th t W
        have eh : (decide (x.fr ≤ t) && decide (t < x.th)) = has x t := rfl
        rw [eh] at ch
        clear hx eh
        by_cases hh : has x t = true
        · rw [hh] at ch
          simp only [hh, Bool.not_true, Bool.false_eq_true, if_false, List.append_nil] at hd
          have HD := Lib.hid hd
          have CH := Lib.hid ch
          clear hd ch hh
          go_wp2_with (go_at_call 65; (with_reducible refine (CH.out _).mono ?_); rintro e w1 ⟨rfl, hb1⟩; obtain ⟨hc1, hf1⟩ := bcell hb1; have hc1_0 := fun o => hc1 (wr.heap.size) o (by first | assumption | omega | (simp; done) | (simp; omega)); have hf1_0 := fun o => hf1 (wr.heap.size) o (by first | assumption | omega | (simp; done) | (simp; omega)); clear hc1 hf1; have hz1_0 : wr.heap.size < w1.heap.size := (by first | exact sz1 hb1 | exact sz2 hb1 | exact sz3 hb1 | (have := hb1.size; (try simp only [World.size_alloc, World.size_drew] at this); omega)))
          go_roundw
          case rel => exact ⟨k + 1, m, p, c, rfl, by go_num, by omega, by omega, by repeat (first | (with_reducible exact Below.refl _ _) | (with_reducible assumption) | (with_reducible refine ba ?_) | (with_reducible refine bd ?_) | (with_reducible refine bdn ?_ _) | (with_reducible refine bset ?_ (by first | exact Nat.le_refl _ | omega | (simp; done) | (simp; omega))) | (with_reducible refine bt ?_ (by with_reducible assumption))), by rw [HD.out]; exact HM.out, by rw [HD.out]; have := HR.out; show World.ownsRow _ _ _ _ _ _ _; repeat (first | (with_reducible assumption) | (with_reducible refine own_old ?_) | (with_reducible refine own_drew ?_) | (with_reducible refine own_drewN ?_ _) | (with_reducible refine own_later ?_ (by with_reducible assumption)))⟩
          case measure => simp [intOf]; omega
        · have hh' : has x t = false := by simpa using hh
          rw [hh'] at ch
          simp only [hh', Bool.not_false, if_true] at hd
          have HD := Lib.hid hd
          have CH := Lib.hid ch
          have hr := HR.out
          obtain ⟨ys, hys⟩ : ∃ ys, ys = (l.take k).filter fun x => !has x t := ⟨_, rfl⟩
          rw [← hys] at hr
          have HY := Lib.hid hys
          clear hd ch hh hh' hys
          go_wp2_with (first
            | (go_at_call 65; (with_reducible refine (CH.out _).mono ?_); rintro e w1 ⟨rfl, hb1⟩; obtain ⟨hc1, hf1⟩ := bcell hb1; have hc1_0 := fun o => hc1 (wr.heap.size) o (by first | assumption | omega | (simp; done) | (simp; omega)); have hf1_0 := fun o => hf1 (wr.heap.size) o (by first | assumption | omega | (simp; done) | (simp; omega)); clear hc1 hf1; have hz1_0 : wr.heap.size < w1.heap.size := (by first | exact sz1 hb1 | exact sz2 hb1 | exact sz3 hb1 | (have := hb1.size; (try simp only [World.size_alloc, World.size_drew] at this); omega)))
            | (at_builtin; refine wpList_append_own_at _ rfl _ _ _ rfl w.heap.size 50 i0 _ 5 48 Try.underlying60 hi hz0 hz1 hz2 rfl (by decide) (.slice p m c) m (ys.flatMap InfoV.cells) rfl (by repeat (first | (with_reducible assumption) | (with_reducible refine own_old ?_) | (with_reducible refine own_drew ?_) | (with_reducible refine own_drewN ?_ _) | (with_reducible refine own_later ?_ (by with_reducible assumption)))) ⟨w1.heap.size, 0, none⟩ 1 1 x.cells rfl rfl (fun j u hu => by rw [addr_add, Nat.zero_add, new_cell]; simpa [InfoV.cells] using hu) (SlI.info_one x) (by unfold maxLen; omega) (by omega) (by have := hbr.size; have := hz1_0; simp; omega) ?_; intro v2 w2 ho2 hg2 _ hat2; obtain ⟨p2, cap2, rfl⟩ := own_form ho2))
          go_roundw
          case rel =>
            refine ⟨k + 1, m + 1, p2, cap2, rfl, by go_num, by omega, by omega, ?_, ?_, ?_⟩
            · have hbX : Below w.heap.size w (w1.alloc (.cells #[.int .i64 x.fr, .int .i64 x.th, .int .i64 x.off, .int .i64 x.save, .string x.abbr] 50)) := by repeat (first | (with_reducible exact Below.refl _ _) | (with_reducible assumption) | (with_reducible refine ba ?_) | (with_reducible refine bd ?_) | (with_reducible refine bdn ?_ _) | (with_reducible refine bset ?_ (by first | exact Nat.le_refl _ | omega | (simp; done) | (simp; omega))) | (with_reducible refine bt ?_ (by with_reducible assumption)))
              exact hbX.grown hg2 hbX.size (fun j hj => (hr.lt j hj).1)
            · rw [HD.out, List.length_append, ← HM.out]; rfl
            · rw [HD.out, ← HY.out, List.flatMap_append, List.flatMap_cons, List.flatMap_nil, List.append_nil]
              exact ho2
          case measure => simp [intOf]; omega
      · obtain rfl : k = n := by omega
        have hc := fun o => hbr.cell (p := ⟨b, o, none⟩) l0
        have hf := fun o => hbr.frozen (p := ⟨b, o, none⟩) l0
        have hbl : b < wr.heap.size := Nat.lt_of_lt_of_le l0 hbr.size
        have ht : l.take k = l := List.take_of_length_le (by rw [← HN.out]; exact Nat.le_refl _)
        rw [ht] at HM HR
        have HT := Lib.hid ht
        clear ht
        by_cases hmn : m = k
        · have e : dropR l t = (12, l) := by unfold dropR; rw [if_pos (by rw [← HM.out, ← HN.out]; exact hmn)]
          have HE := Lib.hid e
          clear e
          subst hmn
          go_wp2
          go_ret
          exact ⟨by rw [HE.out]; rfl, by rw [HE.out]; exact leftR_same H.out hbr⟩
        · have e : dropR l t = (0, l.filter fun x => !has x t) := by unfold dropR; rw [if_neg (by rw [← HM.out, ← HN.out]; exact hmn)]
          have HE := Lib.hid e
          clear e
          have e1 : ((m : Int) == (k : Int)) = false := beq_eq_false_iff_ne.2 (by omega)
          have e2 : (m == k) = false := beq_eq_false_iff_ne.2 hmn
          go_wp2
          go_ret
          refine ⟨by rw [HE.out]; rfl, ?_⟩
          rw [HE.out]
          exact leftR_new H.out hbw hbr (by have := HR.out; rw [HM.out] at this ⊢; exact this) (by have := List.length_filter_le (fun x => !has x t) l; have := H.out.n; show (l.filter _).length ≤ _; omega)
end StR
end Go.Proofs.Ytjgodnakhbkgeaa
