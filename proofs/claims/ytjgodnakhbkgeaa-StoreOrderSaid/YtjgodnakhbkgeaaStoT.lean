/-
  Both stores side by side, as they lie; what each call does to them.
-/
import Derived.Test.YtjgodnakhbkgeaaStoRB
import Derived.Test.YtjgodnakhbkgeaaStoRN
import Derived.Test.YtjgodnakhbkgeaaStoQ
import Derived.Test.YtjgodnakhbkgeaaStoV
import Derived.Test.YtjgodnakhbkgeaaStoSm
namespace Go.Proofs.Ytjgodnakhbkgeaa
open Go.RowKit NB OW
namespace Sto
/-- store.Near -/
theorem Near {w : World} {base b : Nat} {room : Int} {v : Value} {l : List InfoV} (h : SS w base b room v l) (t : Int) :
    Calls Try.prog 28 #[.pointer (some ⟨b, 0, none⟩), .int .i64 t] w fun e w' => e = .returned (.tuple #[.agg (nearP l t).1.cells.toArray, .agg (nearP l t).2.1.cells.toArray, .bool (nearP l t).2.2.1, .bool (nearP l t).2.2.2]) ∧ Below w.heap.size w w' := by
  have hle := place_le l t
  by_cases hq : place l t = 0
  · cases hx : l[place l t]? with
    | none =>
      have hn : place l t = l.length := by have := List.getElem?_eq_none_iff.1 hx; omega
      have e : nearP l t = (none0, none0, false, false) := by unfold nearP nextP; simp only [hx]; simp [hq]
      rw [e]; exact nearZN h t hq hn
    | some x =>
      by_cases hf : x.fr ≤ t
      · cases hy : l[place l t + 1]? with
        | none =>
          have h1 := (List.getElem?_eq_some_iff.1 hx).1
          have hn : place l t + 1 = l.length := by have := List.getElem?_eq_none_iff.1 hy; omega
          have e : nearP l t = (none0, none0, false, false) := by unfold nearP nextP; simp only [hx, hf, if_true, hy]; simp [hq]
          rw [e]; exact nearZS1 h t hq x hx hf hn
        | some y =>
          have e : nearP l t = (none0, y, false, true) := by unfold nearP nextP; simp only [hx, hf, if_true, hy]; simp [hq]
          rw [e]; exact nearZS2 h t hq x hx hf y hy
      · have e : nearP l t = (none0, x, false, true) := by unfold nearP nextP; simp only [hx, hf, if_false]; simp [hq]
        rw [e]; exact nearZS3 h t hq x hx hf
  · have hq' : 0 < place l t := Nat.pos_of_ne_zero hq
    obtain ⟨a, ha⟩ : ∃ a, l[place l t - 1]? = some a := ⟨_, List.getElem?_eq_getElem (by omega)⟩
    have hd : l.getD (place l t - 1) none0 = a := by rw [List.getD_eq_getElem?_getD, ha]; rfl
    cases hx : l[place l t]? with
    | none =>
      have hn : place l t = l.length := by have := List.getElem?_eq_none_iff.1 hx; omega
      have e : nearP l t = (a, none0, true, false) := by unfold nearP nextP; rw [if_pos hq', hd, decide_eq_true hq']; simp only [hx]
      rw [e]; exact nearPN h t a hq' ha hn
    | some x =>
      by_cases hf : x.fr ≤ t
      · cases hy : l[place l t + 1]? with
        | none =>
          have h1 := (List.getElem?_eq_some_iff.1 hx).1
          have hn : place l t + 1 = l.length := by have := List.getElem?_eq_none_iff.1 hy; omega
          have e : nearP l t = (a, none0, true, false) := by unfold nearP nextP; rw [if_pos hq', hd, decide_eq_true hq']; simp only [hx, hf, if_true, hy]
          rw [e]; exact nearPS1 h t a hq' ha x hx hf hn
        | some y =>
          have e : nearP l t = (a, y, true, true) := by unfold nearP nextP; rw [if_pos hq', hd, decide_eq_true hq']; simp only [hx, hf, if_true, hy]
          rw [e]; exact nearPS2 h t a hq' ha x hx hf y hy
      · have e : nearP l t = (a, x, true, true) := by unfold nearP nextP; rw [if_pos hq', hd, decide_eq_true hq']; simp only [hx, hf, if_false]
        rw [e]; exact nearPS3 h t a hq' ha x hx hf
end Sto
namespace StT
open Sto
/-- w' is w below B, and at the blocks of K -/
def Keep (B : Nat) (K : Nat → Prop) (w w' : World) : Prop := Onl (fun j => B ≤ j ∧ ¬ K j) w w'
theorem Keep.cell {B : Nat} {K : Nat → Prop} {w w' : World} (h : Keep B K w w') {j : Nat} (hj : j < w.heap.size) (hk : j < B ∨ K j) (o : Nat) : w'.cell? ⟨j, o, none⟩ = w.cell? ⟨j, o, none⟩ :=
  World.cell?_of_block (h.block j hj (fun e => by rcases hk with hk | hk; omega; exact e.2 hk))
theorem Keep.below {B : Nat} {K : Nat → Prop} {w w' : World} (h : Keep B K w w') (hB : B ≤ w.heap.size) : Below B w w' := Onl.below h hB (fun _ e => e.1)
theorem Keep.box {B : Nat} {K : Nat → Prop} {w w' : World} {b : Nat} {cs : Array Value} {t : TypeId} (h : Keep B K w w') (hb : Box w b cs t) (hk : K b) : Box w' b cs t := Onl.box h hb (fun e => e.2 hk)
theorem SS.base {w : World} {base base' b : Nat} {room : Int} {v : Value} {l : List InfoV} (h : SS w base b room v l) (hb : base' ≤ base) : SS w base' b room v l :=
  ⟨h.box, StR.own_more h.own hb, Nat.le_trans hb h.bb, h.ord, h.len, h.r0, h.r1⟩
theorem SR.base {w : World} {base base' b : Nat} {room : Int} {v : Value} {l : List InfoV} (h : StR.SR w base b room v l) (hb : base' ≤ base) : StR.SR w base' b room v l :=
  ⟨h.box, StR.own_more h.own hb, Nat.le_trans hb h.bb, h.n⟩
/-- the program's store; its blocks are none of K -/
def St (w : World) (B b : Nat) (room : Int) (l : List InfoV) (K : Nat → Prop) : Prop :=
  ∃ v, SS w B b room v l ∧ ¬ K b ∧ ∀ g, v.ownBlock = some g → ¬ K g
namespace St
variable {w w' : World} {B b : Nat} {room : Int} {l : List InfoV} {K K' : Nat → Prop}
theorem later (h : St w B b room l K) (hb : Below w.heap.size w w') : St w' B b room l K := by
  obtain ⟨v, h1, h2, h3⟩ := h
  exact ⟨v, h1.later hb, h2, h3⟩
theorem keep (h : St w B b room l K) (hk : Keep B K' w w') (hb : K' b) (hs : ∀ v, SS w B b room v l → ∀ g, v.ownBlock = some g → K' g) : St w' B b room l K := by
  obtain ⟨v, h1, h2, h3⟩ := h
  exact ⟨v, h1.keep hk (fun e => e.2 hb) (fun g hg e => e.2 (hs v h1 g hg)), h2, h3⟩
/-- K of blocks that are not yet there -/
theorem fresh (h : St w B b room l K) (hk : ∀ j, K' j → w.heap.size ≤ j) : St w B b room l K' := by
  obtain ⟨v, h1, _, _⟩ := h
  refine ⟨v, h1, fun e => ?_, fun g hg e => ?_⟩
  · have := hk _ e; have := h1.box.lt; omega
  · have := hk _ e; have := (h1.own.lt g hg).2; omega
theorem bare (h : St w B b room l K) : St w B b room l (fun _ => False) := by
  obtain ⟨v, h1, _, _⟩ := h
  exact ⟨v, h1, fun e => e, fun _ _ e => e⟩
theorem left (hB : B ≤ w.heap.size) {v : Value} {l' : List InfoV} (h : SS w B b room v l) (hb : ¬ K b) (hv : ∀ g, v.ownBlock = some g → ¬ K g) (hK : ∀ j, K j → j < w.heap.size) (hl : Sto.Left w B b room v l' w') : St w' B b room l' K ∧ Keep B K w w' := by
  obtain ⟨v', h1, h2, h3⟩ := hl
  refine ⟨⟨v', h1, hb, fun g hg e => ?_⟩, h2.mono (fun j _ e => ?_)⟩
  · rcases h3 with e3 | ⟨g', e3, h4⟩
    · exact hv g (by rw [← e3, hg]) e
    · rw [e3] at hg
      cases hg
      have := hK _ e
      omega
  · rcases e with rfl | e
    · exact ⟨h.bb, hb⟩
    · exact ⟨(h.own.lt j e).1, hv j e⟩
theorem put (h : St w B b room l K) (hB : B ≤ w.heap.size) (hK : ∀ j, K j → j < w.heap.size) (i : InfoV) :
    Calls Try.prog 22 #[.pointer (some ⟨b, 0, none⟩), .agg i.cells.toArray] w fun e w' => e = .returned (.int .i64 (putP room l i).1) ∧ St w' B b room (putP room l i).2 K ∧ Keep B K w w' := by
  obtain ⟨v, h1, h2, h3⟩ := h
  refine (Put h1 hB i).mono ?_
  rintro e w' ⟨rfl, hl⟩
  exact ⟨rfl, left hB h1 h2 h3 hK hl⟩
theorem drop (h : St w B b room l K) (hB : B ≤ w.heap.size) (hK : ∀ j, K j → j < w.heap.size) (t : Int) :
    Calls Try.prog 24 #[.pointer (some ⟨b, 0, none⟩), .int .i64 t] w fun e w' => e = .returned (.int .i64 (dropP l t).1) ∧ St w' B b room (dropP l t).2 K ∧ Keep B K w w' := by
  obtain ⟨v, h1, h2, h3⟩ := h
  refine (Drop h1 t).mono ?_
  rintro e w' ⟨rfl, hl⟩
  exact ⟨rfl, left hB h1 h2 h3 hK hl⟩
theorem find (h : St w B b room l K) (t : Int) :
    Calls Try.prog 26 #[.pointer (some ⟨b, 0, none⟩), .int .i64 t] w fun e w' => e = .returned (.tuple #[.agg (findP l t).1.cells.toArray, .bool (findP l t).2]) ∧ Below w.heap.size w w' := by
  obtain ⟨v, h1, _, _⟩ := h
  exact Find h1 t
theorem near (h : St w B b room l K) (t : Int) :
    Calls Try.prog 28 #[.pointer (some ⟨b, 0, none⟩), .int .i64 t] w fun e w' => e = .returned (.tuple #[.agg (nearP l t).1.cells.toArray, .agg (nearP l t).2.1.cells.toArray, .bool (nearP l t).2.2.1, .bool (nearP l t).2.2.2]) ∧ Below w.heap.size w w' := by
  obtain ⟨v, h1, _, _⟩ := h
  exact Near h1 t
theorem len (h : St w B b room l K) : Calls Try.prog 30 #[.pointer (some ⟨b, 0, none⟩)] w fun e w' => e = .returned (.int .i64 l.length) ∧ Below w.heap.size w w' := by
  obtain ⟨v, h1, _, _⟩ := h
  exact Len h1
theorem list (h : St w B b room l K) : Calls Try.prog 32 #[.pointer (some ⟨b, 0, none⟩)] w fun e w' => ∃ p c, e = .returned (.slice p l.length c) ∧ w'.ownsRow w.heap.size 50 5 (.slice p l.length c) l.length (l.flatMap InfoV.cells) ∧ Below w.heap.size w w' := by
  obtain ⟨v, h1, _, _⟩ := h
  refine (List_ h1).mono ?_
  rintro e w' ⟨v', rfl, h2, h3⟩
  obtain ⟨p, c, rfl⟩ := own_form h2
  exact ⟨p, c, rfl, h2, h3⟩
theorem ord (h : St w B b room l K) : Ord l := by obtain ⟨v, h1, _, _⟩ := h; exact h1.ord
theorem n (h : St w B b room l K) : (l.length : Int) ≤ room ∧ room ≤ 65536 ∧ 1 ≤ room := by obtain ⟨v, h1, _, _⟩ := h; exact ⟨h1.len, h1.r1, h1.r0⟩
theorem new (room : Int) (h0 : 1 ≤ room) (h1 : room ≤ 65536) (w : World) {B : Nat} (hB : B ≤ w.heap.size) : Calls Try.prog 20 #[.int .i64 room] w fun e w' => ∃ b, e = .returned (.tuple #[.pointer (some ⟨b, 0, none⟩), .int .i64 0]) ∧ St w' B b room [] (fun _ => False) ∧ b < w'.heap.size ∧ Below w.heap.size w w' := by
  refine (New room h0 h1 w).mono ?_
  rintro e w' ⟨b, rfl, h2, h3, h4⟩
  exact ⟨b, rfl, ⟨_, SS.base h2 hB, fun e => e, fun _ _ e => e⟩, h3, h4⟩
end St
/-- both stores; their blocks are apart, and none of K -/
def Two (w : World) (B b c : Nat) (room : Int) (l m : List InfoV) (K : Nat → Prop) : Prop :=
  ∃ v u, SS w B b room v l ∧ StR.SR w B c room u m ∧ b ≠ c ∧ v.ownBlock ≠ some c ∧ u.ownBlock ≠ some b ∧ (∀ g, v.ownBlock = some g → u.ownBlock ≠ some g) ∧ ¬ K b ∧ ¬ K c ∧ (∀ g, v.ownBlock = some g → ¬ K g) ∧ ∀ g, u.ownBlock = some g → ¬ K g
namespace Two
variable {w w' : World} {B b c : Nat} {room : Int} {l m : List InfoV} {K K' : Nat → Prop}
theorem later (h : Two w B b c room l m K) (hb : Below w.heap.size w w') : Two w' B b c room l m K := by
  obtain ⟨v, u, h1, h2, h3⟩ := h
  exact ⟨v, u, h1.later hb, h2.later hb, h3⟩
theorem fresh (h : Two w B b c room l m K) (hk : ∀ j, K' j → w.heap.size ≤ j) : Two w B b c room l m K' := by
  obtain ⟨v, u, h1, h2, h3, h4, h5, h6, _⟩ := h
  refine ⟨v, u, h1, h2, h3, h4, h5, h6, fun e => ?_, fun e => ?_, fun g hg e => ?_, fun g hg e => ?_⟩
  · have := hk _ e; have := h1.box.lt; omega
  · have := hk _ e; have := h2.box.lt; omega
  · have := hk _ e; have := (h1.own.lt g hg).2; omega
  · have := hk _ e; have := (h2.own.lt g hg).2; omega
theorem bare (h : Two w B b c room l m K) : Two w B b c room l m (fun _ => False) := by
  obtain ⟨v, u, h1, h2, h3, h4, h5, h6, _⟩ := h
  exact ⟨v, u, h1, h2, h3, h4, h5, h6, fun e => e, fun e => e, fun _ _ e => e, fun _ _ e => e⟩
theorem st (h : Two w B b c room l m K) : St w B b room l K := by
  obtain ⟨v, u, h1, h2, h3, h4, h5, h6, h7, h8, h9, h10⟩ := h
  exact ⟨v, h1, h7, h9⟩
theorem leftS (hB : B ≤ w.heap.size) (hK : ∀ j, K j → j < w.heap.size) {v u : Value} {l' : List InfoV} (h1 : SS w B b room v l) (h2 : StR.SR w B c room u m) (h3 : b ≠ c) (h4 : v.ownBlock ≠ some c) (h5 : u.ownBlock ≠ some b) (h6 : ∀ g, v.ownBlock = some g → u.ownBlock ≠ some g)
    (h7 : ¬ K b) (h8 : ¬ K c) (h9 : ∀ g, v.ownBlock = some g → ¬ K g) (h10 : ∀ g, u.ownBlock = some g → ¬ K g) (hl : Sto.Left w B b room v l' w') : Two w' B b c room l' m K ∧ Keep B K w w' := by
  obtain ⟨⟨_, _, _, _⟩, hkeep⟩ := St.left hB h1 h7 h9 hK hl
  obtain ⟨v', k1, k2, k3⟩ := hl
  refine ⟨⟨v', u, k1, h2.keep k2 ?_ ?_, h3, ?_, h5, ?_, h7, h8, ?_, h10⟩, hkeep⟩
  · rintro (e | e)
    · exact h3 e.symm
    · exact h4 e
  · rintro g hg (e | e)
    · exact h5 (by rw [hg, e])
    · exact h6 g e hg
  · rcases k3 with e | ⟨g, e, hg⟩
    · rw [e]; exact h4
    · rw [e]; intro e2; cases e2; have := h2.box.lt; omega
  · intro g hg e2
    rcases k3 with e | ⟨g', e, hg'⟩
    · exact h6 g (by rw [← e, hg]) e2
    · rw [e] at hg; cases hg; have := (h2.own.lt _ e2).2; omega
  · intro g hg e2
    rcases k3 with e | ⟨g', e, hg'⟩
    · exact h9 g (by rw [← e, hg]) e2
    · rw [e] at hg; cases hg; have := hK _ e2; omega
theorem leftR (hB : B ≤ w.heap.size) (hK : ∀ j, K j → j < w.heap.size) {v u : Value} {m' : List InfoV} (h1 : SS w B b room v l) (h2 : StR.SR w B c room u m) (h3 : b ≠ c) (h4 : v.ownBlock ≠ some c) (h5 : u.ownBlock ≠ some b) (h6 : ∀ g, v.ownBlock = some g → u.ownBlock ≠ some g)
    (h7 : ¬ K b) (h8 : ¬ K c) (h9 : ∀ g, v.ownBlock = some g → ¬ K g) (h10 : ∀ g, u.ownBlock = some g → ¬ K g) (hl : StR.LeftR w B c room u m' w') : Two w' B b c room l m' K ∧ Keep B K w w' := by
  obtain ⟨u', k1, k2, k3⟩ := hl
  refine ⟨⟨v, u', h1.keep k2 h3 (fun g hg e => h4 (by rw [hg, e])), k1, h3, h4, ?_, ?_, h7, h8, h9, ?_⟩, k2.mono (fun j _ e => ?_)⟩
  · rcases k3 with rfl | k3
    · exact h5
    · intro e; have := k3 _ e; have := h1.box.lt; omega
  · intro g hg e
    rcases k3 with rfl | k3
    · exact h6 g hg e
    · have := k3 _ e; have := (h1.own.lt g hg).2; omega
  · intro g hg e
    rcases k3 with rfl | k3
    · exact h10 g hg e
    · have := k3 _ hg; have := hK _ e; omega
  · subst e; exact ⟨h2.bb, h8⟩
theorem putS (h : Two w B b c room l m K) (hB : B ≤ w.heap.size) (hK : ∀ j, K j → j < w.heap.size) (i : InfoV) :
    Calls Try.prog 22 #[.pointer (some ⟨b, 0, none⟩), .agg i.cells.toArray] w fun e w' => e = .returned (.int .i64 (putP room l i).1) ∧ Two w' B b c room (putP room l i).2 m K ∧ Keep B K w w' := by
  obtain ⟨v, u, h1, h2, h3, h4, h5, h6, h7, h8, h9, h10⟩ := h
  refine (Put h1 hB i).mono ?_
  rintro e w' ⟨rfl, hl⟩
  exact ⟨rfl, leftS hB hK h1 h2 h3 h4 h5 h6 h7 h8 h9 h10 hl⟩
theorem putR (h : Two w B b c room l m K) (hB : B ≤ w.heap.size) (hK : ∀ j, K j → j < w.heap.size) (i : InfoV) :
    Calls Try.prog 23 #[.pointer (some ⟨c, 0, none⟩), .agg i.cells.toArray] w fun e w' => e = .returned (.int .i64 (Sto.putR room m i).1) ∧ Two w' B b c room l (Sto.putR room m i).2 K ∧ Keep B K w w' := by
  obtain ⟨v, u, h1, h2, h3, h4, h5, h6, h7, h8, h9, h10⟩ := h
  refine (StR.Put h2 h1.r0 h1.r1 hB i).mono ?_
  rintro e w' ⟨rfl, hl⟩
  exact ⟨rfl, leftR hB hK h1 h2 h3 h4 h5 h6 h7 h8 h9 h10 hl⟩
theorem dropS (h : Two w B b c room l m K) (hB : B ≤ w.heap.size) (hK : ∀ j, K j → j < w.heap.size) (t : Int) :
    Calls Try.prog 24 #[.pointer (some ⟨b, 0, none⟩), .int .i64 t] w fun e w' => e = .returned (.int .i64 (dropP l t).1) ∧ Two w' B b c room (dropP l t).2 m K ∧ Keep B K w w' := by
  obtain ⟨v, u, h1, h2, h3, h4, h5, h6, h7, h8, h9, h10⟩ := h
  refine (Drop h1 t).mono ?_
  rintro e w' ⟨rfl, hl⟩
  exact ⟨rfl, leftS hB hK h1 h2 h3 h4 h5 h6 h7 h8 h9 h10 hl⟩
theorem dropR (h : Two w B b c room l m K) (hB : B ≤ w.heap.size) (hK : ∀ j, K j → j < w.heap.size) (t : Int) :
    Calls Try.prog 25 #[.pointer (some ⟨c, 0, none⟩), .int .i64 t] w fun e w' => e = .returned (.int .i64 (Sto.dropR m t).1) ∧ Two w' B b c room l (Sto.dropR m t).2 K ∧ Keep B K w w' := by
  obtain ⟨v, u, h1, h2, h3, h4, h5, h6, h7, h8, h9, h10⟩ := h
  refine (StR.Drop h2 hB t).mono ?_
  rintro e w' ⟨rfl, hl⟩
  exact ⟨rfl, leftR hB hK h1 h2 h3 h4 h5 h6 h7 h8 h9 h10 hl⟩
theorem findR (h : Two w B b c room l m K) (t : Int) :
    Calls Try.prog 27 #[.pointer (some ⟨c, 0, none⟩), .int .i64 t] w fun e w' => e = .returned (.tuple #[.agg (Sto.findR m t).1.cells.toArray, .bool (Sto.findR m t).2]) ∧ Below w.heap.size w w' := by
  obtain ⟨v, u, h1, h2, _⟩ := h
  exact StR.Find h2 t
theorem nearR (h : Two w B b c room l m K) (t : Int) :
    Calls Try.prog 29 #[.pointer (some ⟨c, 0, none⟩), .int .i64 t] w fun e w' => e = .returned (.tuple #[.agg (Sto.nearR t m near0).1.cells.toArray, .agg (Sto.nearR t m near0).2.1.cells.toArray, .bool (Sto.nearR t m near0).2.2.1, .bool (Sto.nearR t m near0).2.2.2]) ∧ Below w.heap.size w w' := by
  obtain ⟨v, u, h1, h2, _⟩ := h
  exact StR.Near h2 t
/-- the document's list, as its store bears it -/
theorem cellR (h : Two w B b c room l m K) : ∃ p cap, w.cell? ⟨c, 1, none⟩ = some (.slice p m.length cap) ∧ HoldsG 5 InfoV.cells w (.slice p m.length cap) m ∧ c < w.heap.size := by
  obtain ⟨v, u, h1, h2, _⟩ := h
  obtain ⟨p, cap, rfl⟩ := own_form h2.own
  exact ⟨p, cap, h2.box.cell 1, HoldsG.of_own (k := 5) (f := InfoV.cells) (fun _ => rfl) h2.own, h2.box.lt⟩
theorem of_new {w1 : World} (h : St w B b room [] (fun _ => False)) (hb : Below w.heap.size w w1) (h2 : StR.SR w1 B c room (.slice none 0 0) []) (hc : w.heap.size ≤ c) : Two w1 B b c room [] [] (fun _ => False) := by
  obtain ⟨v, h1, _, _⟩ := h
  refine ⟨v, _, h1.later hb, h2, ?_, ?_, (fun e => by cases e), (fun g _ e => by cases e), fun e => e, fun e => e, fun _ _ e => e, fun _ _ e => e⟩
  · have := h1.box.lt; omega
  · intro e; have := (h1.own.lt _ e).2; omega
end Two
end StT
end Go.Proofs.Ytjgodnakhbkgeaa
