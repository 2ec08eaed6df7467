import Derived.Test.YtcfmchpoclkpgaaGreatDoorG12
import Derived.Laws.AppendOwn
namespace Go.Proofs.YtcfmchpoclkpgaaGreatDoor
open Go.RowKit NB
namespace ROcc
def occs (r : RuleV) (i y : Int) (n : Nat) : List OccV := (List.range n).map fun j => Occ.occ r i (y + (j : Nat))
theorem occs_succ (r : RuleV) (i y : Int) (n : Nat) : (occs r i y (n + 1)).flatMap OccV.cells = (occs r i y n).flatMap OccV.cells ++ [.int .i64 i, .int .i64 (y + n), .int .i64 (Occ.nomR r (y + n))] := by
  unfold occs
  rw [List.range_succ, List.map_append, List.flatMap_append]
  rfl
theorem occs_len (r : RuleV) (i y : Int) (n : Nat) : (occs r i y n).length = n := by unfold occs;simp
theorem occs_at {r : RuleV} {i y : Int} {n j : Nat} (h : j < n) : (occs r i y n)[j]? = some (Occ.occ r i (y + j)) := by
  unfold occs
  rw [List.getElem?_map, List.getElem?_range h]
  rfl
def aroundL (r : RuleV) (i Y : Int) : List OccV := if Rul.right r then occs r i (Occ.lowA r Y) (Occ.highA r Y - Occ.lowA r Y + 1).toNat else []
def AroundPost (B : Nat) (w : World) (l : List OccV) (e : Ending) (w' : World) : Prop := ∃ v, e = .returned v ∧ w'.ownsRow B 149 3 v l.length (l.flatMap OccV.cells) ∧ Below w.heap.size w w'
theorem info_occ : (Tryz.prog.info? 149).map (fun i => (i.zero, i.size, i.bytes)) = some (some (.agg #[.int .i64 0, .int .i64 0, .int .i64 0]), 3, 24) := by kernel_rfl
theorem news3 {w : World} {b : Nat} {cs : Array Value} {t : TypeId} (h : Box w b cs t) : ∀ j u, cs.toList[j]? = some u → w.cell? ((⟨b, 0, none⟩ : Addr).add j) = some u := by
  intro j u hu
  have hadd : (⟨b, 0, none⟩ : Addr).add j = ⟨b, j, none⟩ := by unfold Addr.add;split <;> simp_all
  rw [hadd, h.cell]
  simpa using hu
theorem own_later {w w' : World} {B : Nat} {e : TypeId} {sz n : Nat} {v : Value} {xs : List Value} (h : w.ownsRow B e sz v n xs) (hb : Below w.heap.size w w') : w'.ownsRow B e sz v n xs := by
  refine ⟨h.1, h.2.imp id ?_⟩
  rintro ⟨g, cap, cur, h1, h2, h3, h4⟩
  exact ⟨g, cap, cur, h1, h2, (hb.block g (Array.getElem?_eq_some_iff.1 h3).1).trans h3, h4⟩
theorem own_mono {w : World} {B B' : Nat} {e : TypeId} {sz n : Nat} {v : Value} {xs : List Value} (h : w.ownsRow B e sz v n xs) (hB : B' ≤ B) : w.ownsRow B' e sz v n xs := by
  refine ⟨h.1, h.2.imp id ?_⟩
  rintro ⟨g, cap, cur, h1, h2, h3⟩
  exact ⟨g, cap, cur, h1, by omega, h3⟩
theorem own_row {w : World} {B : Nat} {e : TypeId} {sz n : Nat} {v : Value} {xs : List Value} (h : w.ownsRow B e sz v n xs) : ∀ k, v.ownBlock = some k → B ≤ k := by
  intro k hk
  rcases h.2 with ⟨h1, _⟩|⟨g, cap, cur, h1, h2, _⟩
  · rw [h1] at hk;cases hk
  · rw [h1] at hk;cases hk;exact h2
theorem Box.new' {X : World} {n : Nat} {cs : Array Value} {t : TypeId} (h : n = X.heap.size) : Box (X.alloc (.cells cs t)) n cs t := h ▸ Box.new X cs t
theorem Box.grown {X Y : World} {b B : Nat} {cs : Array Value} {t : TypeId} {row : Option Nat} (h : Box X b cs t) (hg : X.grownBy Y row) (hr : ∀ k, row = some k → B ≤ k) (hb : b < B) : Box Y b cs t :=
  (hg.block b h.lt (fun e => by have := hr b e.symm;omega)).trans h
theorem nearA_bd (t : Int) : -50000 ≤ Occ.nearA t ∧ Occ.nearA t ≤ 50000 := by
  unfold Occ.nearA
  split
  · rename_i h
    rw [RCiv.ahead_lo, RCiv.ahead_hi] at h
    have := RCiv.dY_bd _ h.1 h.2
    omega
  · split <;> omega
set_option maxRecDepth 100000 in
set_option maxHeartbeats 6400000 in
theorem around (r : RuleV) (hr : r.Fit) (i t : Int) (ht : I64 t) (w : World) : Calls Tryz.prog 242 #[.agg r.cells.toArray, .int .i64 i, .int .i64 t] w (AroundPost w.heap.size w (aroundL r i (Occ.nearA t))) := by
  have cr := RRule.Right r hr
  have cn := near t ht
  have hYb := nearA_bd t
  generalize Occ.nearA t = Y at *
  unfold aroundL
  cases hR : Rul.right r
  · rw [hR] at cr
    rw [if_neg (by decide)]
    unfold RuleV.cells at *
    have Cr := Lib.hid cr
    clear cr hR cn
    go_enter Tryz.func242, Tryz.ntmps242
    go_wp2_with (go_at_call 204;(with_reducible refine (Cr.out _).mono ?_);rintro e w1 ⟨rfl, hb1⟩;obtain ⟨hc1, hf1⟩ := bcell hb1;have hc1_0 := fun o => hc1 (w.heap.size) o (by first|assumption|omega|(simp;done)|(simp;omega));have hf1_0 := fun o => hf1 (w.heap.size) o (by first|assumption|omega|(simp;done)|(simp;omega));clear hc1 hf1;have hz1_0 : w.heap.size < w1.heap.size := (by first|exact sz1 hb1|exact sz2 hb1|exact sz3 hb1|(have := hb1.size;(try simp only [World.size_alloc, World.size_drew] at this);omega)))
    go_ret
    exact ⟨_, rfl, ⟨rfl, .inl ⟨rfl, rfl⟩⟩, by repeat (first|(with_reducible exact Below.refl _ _)|(with_reducible assumption)|(with_reducible refine ba ?_)|(with_reducible refine bd ?_)|(with_reducible refine bdn ?_ _)|(with_reducible refine bset ?_ (by first|exact Nat.le_refl _|omega|(simp;done)|(simp;omega)))|(with_reducible refine bt ?_ (by with_reducible assumption)))⟩
  · rw [hR] at cr
    rw [if_pos rfl]
    have hy := (Rul.right_spec hR).1
    obtain ⟨a1, a2, a3⟩ := Occ.low_high hR Y
    have hlo : Occ.lowA r Y = (if r.to < max r.fr (Y - 2) then r.to else if min r.to (Y + 2) < r.fr then r.fr else max r.fr (Y - 2)) := rfl
    have hhi : Occ.highA r Y = (if r.to < max r.fr (Y - 2) then r.to else if min r.to (Y + 2) < r.fr then r.fr else min r.to (Y + 2)) := rfl
    generalize Occ.lowA r Y = lo at *
    generalize Occ.highA r Y = hi at *
    have hn5 : (hi - lo + 1).toNat ≤ 70000 := by omega
    obtain ⟨n, hn⟩ : ∃ n, n = (hi - lo + 1).toNat := ⟨_, rfl⟩
    rw [← hn] at hn5 ⊢
    have hnom : ∀ y : Int, lo ≤ y → y ≤ hi → Nom.nomE r y = (Occ.nomR r y, 0) := by
      intro y h1 h2
      unfold Nom.nomE
      rw [hR, if_pos rfl, if_neg (by omega)]
    have cm : ∀ (y : Int), lo ≤ y → y ≤ hi → ∀ W, Calls Tryz.prog 284 #[.agg r.cells.toArray, .int .i64 y] W fun e w' => e = .returned (.tuple #[.int .i64 (Occ.nomR r y), .int .i64 0]) ∧ Below W.heap.size W w' := by
      intro y h1 h2 W
      have := Nom r hr y W
      rw [hnom y h1 h2] at this
      exact this
    have HR := Lib.hid hR
    have Hn := Lib.hid hn
    unfold RuleV.cells at *
    have Cr := Lib.hid cr
    have Cn := Lib.hid cn
    have Cm := Lib.hid cm
    clear cr cn cm hnom hR hn
    obtain ⟨i0, hi0, hz0, hz1, hz2⟩ := info_parts info_occ
    by_cases hA : r.to < max r.fr (Y - 2)
    case' pos =>
      rw [if_pos hA] at hlo hhi
      have hsel : (lo ≤ r.to ∧ r.to ≤ lo) ∧ (hi ≤ r.to ∧ r.to ≤ hi) := by omega
    case' neg =>
      rw [if_neg hA] at hlo hhi
      by_cases hB : min r.to (Y + 2) < r.fr
      case' pos =>
        rw [if_pos hB] at hlo hhi
        have hsel : (lo ≤ r.fr ∧ r.fr ≤ lo) ∧ (hi ≤ r.fr ∧ r.fr ≤ hi) := by omega
      case' neg =>
        rw [if_neg hB] at hlo hhi
        have hsel : (lo ≤ max r.fr (Y - 2) ∧ max r.fr (Y - 2) ≤ lo) ∧ (hi ≤ min r.to (Y + 2) ∧ min r.to (Y + 2) ≤ hi) := by omega
    all_goals
      clear hlo hhi
      go_enter Tryz.func242, Tryz.ntmps242
      go_wp2_with (first|(go_at_call 204;(with_reducible refine (Cr.out _).mono ?_);rintro e w1 ⟨rfl, hb1⟩;obtain ⟨hc1, hf1⟩ := bcell hb1;have hc1_0 := fun o => hc1 (w.heap.size) o (by first|assumption|omega|(simp;done)|(simp;omega));have hf1_0 := fun o => hf1 (w.heap.size) o (by first|assumption|omega|(simp;done)|(simp;omega));clear hc1 hf1;have hz1_0 : w.heap.size < w1.heap.size := (by first|exact sz1 hb1|exact sz2 hb1|exact sz3 hb1|(have := hb1.size;(try simp only [World.size_alloc, World.size_drew] at this);omega)))|(go_at_call 283;(with_reducible refine (Cn.out _).mono ?_);rintro e w2 ⟨rfl, hb2⟩;obtain ⟨hc2, hf2⟩ := bcell hb2;have hc2_0 := fun o => hc2 (w.heap.size) o (by first|assumption|omega|(simp;done)|(simp;omega));have hf2_0 := fun o => hf2 (w.heap.size) o (by first|assumption|omega|(simp;done)|(simp;omega));clear hc2 hf2;have hz2_0 : w.heap.size < w2.heap.size := (by first|exact sz1 hb2|exact sz2 hb2|exact sz3 hb2|(have := hb2.size;(try simp only [World.size_alloc, World.size_drew] at this);omega))))
      obtain ⟨N, hN0, hN1⟩ : ∃ N, N ≤ w2.heap.size ∧ w2.heap.size ≤ N := ⟨_, Nat.le_refl _, Nat.le_refl _⟩
      have hbx : Box w2 w.heap.size #[.string r.name, .int .i64 r.fr, .int .i64 r.to, .int .i64 r.month, .int .i64 r.kind, .int .i64 r.week, .int .i64 r.day, .int .i64 r.sec, .int .i64 r.base, .int .i64 r.save, .string r.letter] 63 := by repeat (first|(with_reducible assumption)|(with_reducible exact Box.new _ _ _)|(with_reducible refine Box.old ?_)|(with_reducible refine Box.drew ?_)|(with_reducible refine Box.drewN ?_ _)|(with_reducible refine Box.other ?_ (by first|assumption|omega|(simp;omega)))|(with_reducible refine Box.later ?_ (by with_reducible assumption)))
      have hB : Below w.heap.size w w2 := by repeat (first|(with_reducible exact Below.refl _ _)|(with_reducible assumption)|(with_reducible refine ba ?_)|(with_reducible refine bd ?_)|(with_reducible refine bdn ?_ _)|(with_reducible refine bset ?_ (by first|exact Nat.le_refl _|omega|(simp;done)|(simp;omega)))|(with_reducible refine bt ?_ (by with_reducible assumption)))
      go_region
      go_wp2
      try (go_quiet (fail);go_wp2)
      clear hb1 hc1_0 hf1_0 hb2 hc2_0 hf2_0
      have hBs := hB.size
      have hxl := hbx.lt
      go_loopw [7, 11] (fun o y wr => ∃ (k : Nat) (v : Value), o = v ∧ y = .int .i64 (lo + k) ∧ k ≤ n ∧ wr.ownsRow N 149 3 v k ((occs r i lo k).flatMap OccV.cells) ∧ Below w.heap.size w wr ∧ N ≤ wr.heap.size ∧ Box wr w.heap.size #[.string r.name, .int .i64 r.fr, .int .i64 r.to, .int .i64 r.month, .int .i64 r.kind, .int .i64 r.week, .int .i64 r.day, .int .i64 r.sec, .int .i64 r.base, .int .i64 r.save, .string r.letter] 63) (fun _ y _ => match y with|.int _ q => (hi - q + 1).toNat|_ => 0)
      case atStart => exact ⟨0, _, rfl, by congr 1;omega, Nat.zero_le _, ⟨rfl, .inl ⟨rfl, rfl⟩⟩, by repeat (first|(with_reducible exact Below.refl _ _)|(with_reducible assumption)|(with_reducible refine ba ?_)|(with_reducible refine bd ?_)|(with_reducible refine bdn ?_ _)|(with_reducible refine bset ?_ (by first|exact Nat.le_refl _|omega|(simp;done)|(simp;omega)))|(with_reducible refine bt ?_ (by with_reducible assumption))), hN0, by repeat (first|(with_reducible assumption)|(with_reducible exact Box.new _ _ _)|(with_reducible refine Box.old ?_)|(with_reducible refine Box.drew ?_)|(with_reducible refine Box.drewN ?_ _)|(with_reducible refine Box.other ?_ (by first|assumption|omega|(simp;omega)))|(with_reducible refine Box.later ?_ (by with_reducible assumption)))⟩
      case round =>
        obtain ⟨k, v, rfl, rfl, hk, hown, hbel, hsz, hbox⟩ := hrel
        clear hB hbx
        have u0 := hbox.lt
        have f0 := hbox.cell
        have hnn := Hn.out
        by_cases hlt : k < n
        · have q0 : lo + k ≤ hi := by omega
          have Hnn := Lib.hid hnn
          have Hown := Lib.hid hown
          clear hnn hown
          go_wp2_with (first
            | (go_at_call 284;(with_reducible refine (Cm.out _ (by omega) q0 _).mono ?_);rintro e w3 ⟨rfl, hb3⟩;obtain ⟨hc3, hf3⟩ := bcell hb3;have hc3_0 := fun o => hc3 (w.heap.size) o (by first|assumption|omega|(simp;done)|(simp;omega));have hf3_0 := fun o => hf3 (w.heap.size) o (by first|assumption|omega|(simp;done)|(simp;omega));clear hc3 hf3;have hz3_0 : w.heap.size < w3.heap.size := (by first|exact sz1 hb3|exact sz2 hb3|exact sz3 hb3|(have := hb3.size;(try simp only [World.size_alloc, World.size_drew] at this);omega)))
            | (at_builtin;refine wpList_append_own _ (by rfl) _ _ 253 (by rfl) N 149 i0 _ 3 24 Tryz.underlying253 hi0 hz0 hz1 hz2 (by rfl) (by decide) _ k _ (by rfl) ((own_later Hown.out hb3).alloc _) ⟨w3.heap.size, 0, none⟩ 1 1 [.int .i64 i, .int .i64 (lo + k), .int .i64 (Occ.nomR r (lo + k))] (by rfl) (by rfl) (news3 (cs := #[.int .i64 i, .int .i64 (lo + k), .int .i64 (Occ.nomR r (lo + k))]) (t := 149) (Box.new _ _ _)) ?_ ?_ ?_ ?_ ?_;(· intro u hu;simp only [List.mem_cons, List.not_mem_nil, or_false] at hu;rcases hu with rfl|rfl|rfl <;> rfl);(· unfold maxLen;omega);(· omega);(· have := hb3.size;simp;omega);intro v' w4 hown' hgrow _))
          have hbb : Below w.heap.size w (w3.alloc (.cells #[.int .i64 i, .int .i64 (lo + k), .int .i64 (Occ.nomR r (lo + k))] 149)) := by repeat (first|(with_reducible exact Below.refl _ _)|(with_reducible assumption)|(with_reducible refine ba ?_)|(with_reducible refine bd ?_)|(with_reducible refine bdn ?_ _)|(with_reducible refine bset ?_ (by first|exact Nat.le_refl _|omega|(simp;done)|(simp;omega)))|(with_reducible refine bt ?_ (by with_reducible assumption)))
          have hb4 : Below w.heap.size w w4 := hbb.grown hgrow hbb.size (fun j e => by have := own_row Hown.out j e;omega)
          have hx4 : Box w4 w.heap.size #[.string r.name, .int .i64 r.fr, .int .i64 r.to, .int .i64 r.month, .int .i64 r.kind, .int .i64 r.week, .int .i64 r.day, .int .i64 r.sec, .int .i64 r.base, .int .i64 r.save, .string r.letter] 63 := Box.grown (Box.old (Box.later hbox hb3)) hgrow (own_row Hown.out) (by omega)
          have hs4 : N ≤ w4.heap.size := by
            have h1 := hgrow.size
            have h2 := hb3.size
            simp only [World.size_alloc] at h1
            omega
          go_roundw
          case rel => exact ⟨k + 1, v', rfl, by go_num, by omega, by rw [occs_succ];exact hown', hb4, hs4, hx4⟩
          case measure => simp;omega
        · go_wp2
          go_ret
          obtain rfl : k = n := by omega
          exact ⟨_, rfl, by rw [occs_len];exact own_mono hown (by omega), hbel⟩
end ROcc
end Go.Proofs.YtcfmchpoclkpgaaGreatDoor
