/-
  store: New, Len, List, Drop, Put.
-/
import Derived.Test.YtjgodnakhbkgeaaStoS
namespace Go.Proofs.Ytjgodnakhbkgeaa
open Go.RowKit NB OW
namespace Sto
theorem SS.ne {w : World} {base b : Nat} {room : Int} {v : Value} {l : List InfoV} (h : SS w base b room v l) : v.ownBlock ≠ some b := by
  intro e
  rcases h.own.2 with ⟨rfl, _⟩ | ⟨g, cap, cur, rfl, _, hg, _⟩
  · cases e
  · have hb : g = b := by simpa [Value.ownBlock] using e
    subst hb
    have h1 : w.heap[g]? = some (.cells #[.int .i64 room, .slice (some ⟨g, 0, none⟩) l.length cap] 113) := h.box
    rw [h1] at hg
    simp at hg
theorem own_form {w : World} {base e k n : Nat} {v : Value} {xs : List Value} (h : w.ownsRow base e k v n xs) : ∃ p cap, v = .slice p n cap := by
  rcases h.2 with ⟨rfl, rfl⟩ | ⟨g, cap, cur, rfl, _⟩
  · exact ⟨_, _, rfl⟩
  · exact ⟨_, _, rfl⟩
theorem flat_one (l : List InfoV) : ∀ u ∈ l.flatMap InfoV.cells, u.oneCell' = true := flatG_one SlI.info_one l
theorem flat_put (l : List InfoV) (i : InfoV) (k : Nat) : (l.flatMap InfoV.cells).take (k * 5) ++ (i.cells ++ (l.flatMap InfoV.cells).drop (k * 5)) = (l.take k ++ i :: l.drop k).flatMap InfoV.cells := by
  rw [List.flatMap_append, List.flatMap_cons]
  have h : ∀ (l : List InfoV) (k : Nat), (l.flatMap InfoV.cells).take (k * 5) = (l.take k).flatMap InfoV.cells ∧ (l.flatMap InfoV.cells).drop (k * 5) = (l.drop k).flatMap InfoV.cells := by
    intro l
    induction l with
    | nil => intro k; simp
    | cons x r ih =>
      intro k
      cases k with
      | zero => simp
      | succ k =>
        have hx : x.cells.length = 5 := rfl
        rw [List.flatMap_cons, List.take_succ_cons, List.drop_succ_cons, List.flatMap_cons, show (k + 1) * 5 = x.cells.length + k * 5 by rw [hx]; omega, List.take_length_add_append, List.drop_length_add_append, (ih k).1, (ih k).2]
        exact ⟨rfl, rfl⟩
  rw [(h l k).1, (h l k).2]
theorem flat_del (l : List InfoV) (k : Nat) : (l.flatMap InfoV.cells).take (k * 5) ++ (l.flatMap InfoV.cells).drop ((k + 1) * 5) = (l.take k ++ l.drop (k + 1)).flatMap InfoV.cells := by
  rw [List.flatMap_append]
  have h : ∀ (l : List InfoV) (k : Nat), (l.flatMap InfoV.cells).take (k * 5) = (l.take k).flatMap InfoV.cells ∧ (l.flatMap InfoV.cells).drop (k * 5) = (l.drop k).flatMap InfoV.cells := by
    intro l
    induction l with
    | nil => intro k; simp
    | cons x r ih =>
      intro k
      cases k with
      | zero => simp
      | succ k =>
        have hx : x.cells.length = 5 := rfl
        rw [List.flatMap_cons, List.take_succ_cons, List.drop_succ_cons, List.flatMap_cons, show (k + 1) * 5 = x.cells.length + k * 5 by rw [hx]; omega, List.take_length_add_append, List.drop_length_add_append, (ih k).1, (ih k).2]
        exact ⟨rfl, rfl⟩
  rw [(h l k).1, (h l (k + 1)).2]
set_option maxHeartbeats 800000 in
theorem NewNo (room : Int) (hr : room < 1 ∨ 65536 < room) (w : World) : Calls Try.prog 20 #[.int .i64 room] w fun e w' => e = .returned (.tuple #[.pointer none, .int .i64 1]) ∧ Below w.heap.size w w' := by
  rcases hr with hr | hr
  · go_enter Try.func20, Try.ntmps20
    go_wp2
    go_ret2
    exact ⟨rfl, by repeat (first | (with_reducible exact Below.refl _ _) | (with_reducible assumption) | (with_reducible refine ba ?_) | (with_reducible refine bd ?_) | (with_reducible refine bdn ?_ _) | (with_reducible refine bset ?_ (by first | exact Nat.le_refl _ | omega | (simp; done) | (simp; omega))) | (with_reducible refine bt ?_ (by with_reducible assumption)))⟩
  · have h1 : ¬ room < 1 := by omega
    go_enter Try.func20, Try.ntmps20
    go_wp2
    go_ret2
    exact ⟨rfl, by repeat (first | (with_reducible exact Below.refl _ _) | (with_reducible assumption) | (with_reducible refine ba ?_) | (with_reducible refine bd ?_) | (with_reducible refine bdn ?_ _) | (with_reducible refine bset ?_ (by first | exact Nat.le_refl _ | omega | (simp; done) | (simp; omega))) | (with_reducible refine bt ?_ (by with_reducible assumption)))⟩
set_option maxHeartbeats 800000 in
theorem New (room : Int) (h0 : 1 ≤ room) (h1 : room ≤ 65536) (w : World) : Calls Try.prog 20 #[.int .i64 room] w fun e w' => ∃ b, e = .returned (.tuple #[.pointer (some ⟨b, 0, none⟩), .int .i64 0]) ∧ SS w' w.heap.size b room (.slice none 0 0) [] ∧ b < w'.heap.size ∧ Below w.heap.size w w' := by
  have h2 : ¬ room < 1 := by omega
  have h3 : ¬ 65536 < room := by omega
  go_enter Try.func20, Try.ntmps20
  go_wp2
  go_ret2
  exact ⟨w.heap.size, rfl, ⟨Box.new _ _ _, World.ownsRow_nil _ _ _ _, Nat.le_refl _, trivial, by simp; omega, h0, h1⟩, by simp, by repeat (first | (with_reducible exact Below.refl _ _) | (with_reducible assumption) | (with_reducible refine ba ?_) | (with_reducible refine bd ?_) | (with_reducible refine bdn ?_ _) | (with_reducible refine bset ?_ (by first | exact Nat.le_refl _ | omega | (simp; done) | (simp; omega))) | (with_reducible refine bt ?_ (by with_reducible assumption)))⟩
set_option maxHeartbeats 800000 in
theorem LenNone (w : World) : Calls Try.prog 30 #[.pointer none] w fun e w' => e = .returned (.int .i64 0) ∧ Below w.heap.size w w' := by
  go_enter Try.func30, Try.ntmps30
  go_wp2
  go_ret
  exact ⟨rfl, by repeat (first | (with_reducible exact Below.refl _ _) | (with_reducible assumption) | (with_reducible refine ba ?_) | (with_reducible refine bd ?_) | (with_reducible refine bdn ?_ _) | (with_reducible refine bset ?_ (by first | exact Nat.le_refl _ | omega | (simp; done) | (simp; omega))) | (with_reducible refine bt ?_ (by with_reducible assumption)))⟩
set_option maxHeartbeats 800000 in
theorem Len {w : World} {base b : Nat} {room : Int} {v : Value} {l : List InfoV} (h : SS w base b room v l) : Calls Try.prog 30 #[.pointer (some ⟨b, 0, none⟩)] w fun e w' => e = .returned (.int .i64 l.length) ∧ Below w.heap.size w w' := by
  obtain ⟨p, cap, rfl⟩ := (HoldsG.of_own (k := 5) (f := InfoV.cells) (fun _ => rfl) h.own).form
  have k0 := h.box.cell 1
  clear h
  go_enter Try.func30, Try.ntmps30
  go_wp2
  go_ret
  exact ⟨rfl, by repeat (first | (with_reducible exact Below.refl _ _) | (with_reducible assumption) | (with_reducible refine ba ?_) | (with_reducible refine bd ?_) | (with_reducible refine bdn ?_ _) | (with_reducible refine bset ?_ (by first | exact Nat.le_refl _ | omega | (simp; done) | (simp; omega))) | (with_reducible refine bt ?_ (by with_reducible assumption)))⟩
set_option maxHeartbeats 800000 in
theorem ListNone (w : World) : Calls Try.prog 32 #[.pointer none] w fun e w' => e = .returned (.slice none 0 0) ∧ Below w.heap.size w w' := by
  go_enter Try.func32, Try.ntmps32
  go_wp2
  go_ret
  exact ⟨rfl, by repeat (first | (with_reducible exact Below.refl _ _) | (with_reducible assumption) | (with_reducible refine ba ?_) | (with_reducible refine bd ?_) | (with_reducible refine bdn ?_ _) | (with_reducible refine bset ?_ (by first | exact Nat.le_refl _ | omega | (simp; done) | (simp; omega))) | (with_reducible refine bt ?_ (by with_reducible assumption)))⟩
set_option maxHeartbeats 800000 in
theorem List_ {w : World} {base b : Nat} {room : Int} {v : Value} {l : List InfoV} (h : SS w base b room v l) : Calls Try.prog 32 #[.pointer (some ⟨b, 0, none⟩)] w fun e w' => ∃ v', e = .returned v' ∧ w'.ownsRow w.heap.size 50 5 v' l.length (l.flatMap InfoV.cells) ∧ Below w.heap.size w w' := by
  have c := SlI.Clone h.own (flat_one l) (by have := h.n; omega)
  obtain ⟨p, cap, rfl⟩ := (HoldsG.of_own (k := 5) (f := InfoV.cells) (fun _ => rfl) h.own).form
  have k0 := h.box.cell 1
  have C := Lib.hid c
  clear h c
  go_enter Try.func32, Try.ntmps32
  go_wp2_with (go_at_call 66; (with_reducible refine C.out.mono ?_); rintro e w1 ⟨v1, rfl, ho1, hb1⟩)
  go_ret
  exact ⟨v1, rfl, ho1, hb1⟩
/-- what a call that changes a store leaves -/
def Left (w : World) (base b : Nat) (room : Int) (v : Value) (l' : List InfoV) (w' : World) : Prop :=
  ∃ v', SS w' base b room v' l' ∧ Onl (fun j => j = b ∨ v.ownBlock = some j) w w' ∧ (v'.ownBlock = v.ownBlock ∨ ∃ g, v'.ownBlock = some g ∧ w.heap.size ≤ g)
theorem left_same {w w' : World} {base b : Nat} {room : Int} {v : Value} {l : List InfoV} (h : SS w base b room v l) (hb : Below w.heap.size w w') : Left w base b room v l w' :=
  ⟨v, h.later hb, Onl.of_below hb, .inl rfl⟩
set_option maxHeartbeats 800000 in
theorem DropNone (t : Int) (w : World) : Calls Try.prog 24 #[.pointer none, .int .i64 t] w fun e w' => e = .returned (.int .i64 12) ∧ Below w.heap.size w w' := by
  have C := Lib.hid (fun W => atNone t W)
  go_enter Try.func24, Try.ntmps24
  go_wp2_with (go_at_call 63; (with_reducible refine (C.out _).mono ?_); rintro e w1 ⟨rfl, hb1⟩; obtain ⟨hc1, hf1⟩ := bcell hb1)
  go_ret
  exact ⟨rfl, by repeat (first | (with_reducible exact Below.refl _ _) | (with_reducible assumption) | (with_reducible refine ba ?_) | (with_reducible refine bd ?_) | (with_reducible refine bdn ?_ _) | (with_reducible refine bset ?_ (by first | exact Nat.le_refl _ | omega | (simp; done) | (simp; omega))) | (with_reducible refine bt ?_ (by with_reducible assumption)))⟩
set_option maxRecDepth 100000 in
set_option maxHeartbeats 3200000 in
theorem Drop {w : World} {base b : Nat} {room : Int} {v : Value} {l : List InfoV} (h : SS w base b room v l) (t : Int) :
    Calls Try.prog 24 #[.pointer (some ⟨b, 0, none⟩), .int .i64 t] w fun e w' => e = .returned (.int .i64 (dropP l t).1) ∧ Left w base b room v (dropP l t).2 w' := by
  have c := fun W (hb : Below w.heap.size w W) => at_ (h.later hb) t
  have k0 := h.box.cell 1
  have l0 := h.box.lt
  have f0 := h.box.free 1
  rcases find_ways l t with ⟨hx, hp, hf⟩ | ⟨x, hx, hp, ⟨hf1, hf⟩ | ⟨hf1, hf⟩⟩
  case' inr.inl =>
    have hd : dropP l t = (0, l.take (place l t) ++ l.drop (place l t + 1)) := by unfold dropP; rw [hx]; simp only [hf1, if_true]
    rw [hd]
    rw [hf] at c
    have hord := drop_ord l t h.ord
    have hlen := drop_len l t h.ord
    rw [hd] at hord hlen
    have C := Lib.hid c
    have H := Lib.hid h
    have HD := Lib.hid hord
    have HL := Lib.hid hlen
    have cd : ∀ W, Below w.heap.size w W → Calls Try.prog 64 #[v, .int .i64 (place l t), .int .i64 ((place l t : Int) + 1)] W fun e w' => ∃ v', e = .returned v' ∧ w'.ownsRow base 50 5 v' (l.length - 1) ((l.take (place l t) ++ l.drop (place l t + 1)).flatMap InfoV.cells) ∧ W.grownBy w' v.ownBlock ∧ v'.ownBlock = v.ownBlock := fun W hW => by
      have := SlI.Delete (h.later hW).own (flat_one l) (place l t) hp
      rwa [flat_del] at this
    have CD := Lib.hid cd
    have hpl : place l t ≤ 65536 := by have := h.n; omega
    have HP := Lib.hid hp
    obtain ⟨p, cap, rfl⟩ := (HoldsG.of_own (k := 5) (f := InfoV.cells) (fun _ => rfl) h.own).form
    clear c h hx hp hf hd hord hlen cd hf1
    generalize hq : place l t = q at *
    have HQ := Lib.hid hq
    clear hq
    have hw1 : IntKind.i64.wrap ((q : Int) + 1) = (q : Int) + 1 := by rw [IntKind.wrap_i64]; omega
    go_enter Try.func24, Try.ntmps24
    go_wp2_with (first
      | (go_at_call 63; (with_reducible refine (C.out _ ?_).mono ?_); (· repeat (first | (with_reducible exact Below.refl _ _) | (with_reducible assumption) | (with_reducible refine ba ?_) | (with_reducible refine bd ?_) | (with_reducible refine bdn ?_ _) | (with_reducible refine bset ?_ (by first | exact Nat.le_refl _ | omega | (simp; done) | (simp; omega))) | (with_reducible refine bt ?_ (by with_reducible assumption)))); rintro e w1 ⟨rfl, hb1⟩; obtain ⟨hc1, hf1⟩ := bcell hb1; have hc1_0 := fun o => hc1 (b) o (by first | assumption | omega | (simp; done) | (simp; omega)); have hf1_0 := fun o => hf1 (b) o (by first | assumption | omega | (simp; done) | (simp; omega)); clear hc1 hf1; have hz1_0 : b < w1.heap.size := (by first | exact sz1 hb1 | exact sz2 hb1 | exact sz3 hb1 | (have := hb1.size; (try simp only [World.size_alloc, World.size_drew] at this); omega)))
      | (go_at_call 64; (with_reducible refine (CD.out _ ?_).mono ?_); (· repeat (first | (with_reducible exact Below.refl _ _) | (with_reducible assumption) | (with_reducible refine ba ?_) | (with_reducible refine bd ?_) | (with_reducible refine bdn ?_ _) | (with_reducible refine bset ?_ (by first | exact Nat.le_refl _ | omega | (simp; done) | (simp; omega))) | (with_reducible refine bt ?_ (by with_reducible assumption)))); rintro e w2 ⟨v2, rfl, ho2, hg2, hat2⟩; obtain ⟨p2, cap2, rfl⟩ := own_form ho2; have k2 : w2.cell? ⟨b, 1, none⟩ = some (.slice p l.length cap) := (hg2.cell_far ⟨b, 1, none⟩ hz1_0 (fun e => H.out.ne e.symm)).trans (hc1_0 1 |>.trans k0); have f2 : w2.frozen? ⟨b, 1, none⟩ = false := (hg2.frozen_far ⟨b, 1, none⟩ hz1_0 (fun e => H.out.ne e.symm)).trans (hf1_0 1 |>.trans f0)))
    go_ret
    refine ⟨rfl, _, ?_, ?_, .inl hat2⟩
    · have hne := H.out.ne
      have hN := Onl.of_grown (S := fun j => Value.ownBlock (.slice p l.length cap) = some j) hg2 (fun g h => h)
      have hbx := hN.box (H.out.later hb1).box (fun e => hne e)
      have hlen : (l.take q ++ l.drop (q + 1)).length = l.length - 1 := by
        have := HP.out
        rw [List.length_append, List.length_take, List.length_drop]; omega
      refine ⟨hbx.set, ?_, H.out.bb, HD.out, ?_, H.out.r0, H.out.r1⟩
      · have := (Onl.of_below (S := fun j => j = b) (Below.refl w2.heap.size w2)).setCell (b := b) (o := 1) (v := .slice p2 (l.length - 1) cap2) (.inl rfl)
        have hk := this.own ho2 (fun g hg e => by subst e; rw [hat2] at hg; exact hne hg)
        rw [hlen]
        exact hk
      · have := H.out.len
        have := HL.out
        omega
    · refine Onl.setCell ?_ (.inl (.inl rfl))
      exact (Onl.of_below (S := fun j => j = b ∨ Value.ownBlock (.slice p l.length cap) = some j) hb1).trans (Onl.of_grown (S := fun j => Value.ownBlock (.slice p l.length cap) = some j) hg2 (fun g h => h)) (fun i _ h => .inr h)
  all_goals
    have hd : dropP l t = (12, l) := by unfold dropP; rw [hx]; try simp only [hf1, if_false]
    rw [hd]
    rw [hf] at c
    have C := Lib.hid c
    have H := Lib.hid h
    clear c h hx hp hf hd
    go_enter Try.func24, Try.ntmps24
    go_wp2_with (go_at_call 63; (with_reducible refine (C.out _ ?_).mono ?_); (· repeat (first | (with_reducible exact Below.refl _ _) | (with_reducible assumption) | (with_reducible refine ba ?_) | (with_reducible refine bd ?_) | (with_reducible refine bdn ?_ _) | (with_reducible refine bset ?_ (by first | exact Nat.le_refl _ | omega | (simp; done) | (simp; omega))) | (with_reducible refine bt ?_ (by with_reducible assumption)))); rintro e w1 ⟨rfl, hb1⟩; obtain ⟨hc1, hf1⟩ := bcell hb1; have hc1_0 := fun o => hc1 (b) o (by first | assumption | omega | (simp; done) | (simp; omega)); have hf1_0 := fun o => hf1 (b) o (by first | assumption | omega | (simp; done) | (simp; omega)); clear hc1 hf1; have hz1_0 : b < w1.heap.size := (by first | exact sz1 hb1 | exact sz2 hb1 | exact sz3 hb1 | (have := hb1.size; (try simp only [World.size_alloc, World.size_drew] at this); omega)))
    go_ret
    exact ⟨rfl, left_same H.out (by repeat (first | (with_reducible exact Below.refl _ _) | (with_reducible assumption) | (with_reducible refine ba ?_) | (with_reducible refine bd ?_) | (with_reducible refine bdn ?_ _) | (with_reducible refine bset ?_ (by first | exact Nat.le_refl _ | omega | (simp; done) | (simp; omega))) | (with_reducible refine bt ?_ (by with_reducible assumption))))⟩
end Sto
end Go.Proofs.Ytjgodnakhbkgeaa
