import Derived.Test.YtcfmchpoclkpgaaGreatDoorNom
import Derived.Test.YtcfmchpoclkpgaaGreatDoorG10
namespace Go.Proofs.YtcfmchpoclkpgaaGreatDoor
open Go.RowKit NB
namespace Nxt
def At3 (w : World) (b : Nat) (o : OccV) : Prop := ∀ j, w.cell? ⟨b, j, none⟩ = (o.cells.toArray)[j]?
theorem next1 (o fr : OccV) (b : Nat) (w : World) (hb : b < w.heap.size) (hc : At3 w b fr) :
    Calls Tryz.prog 142 #[.agg o.cells.toArray, .pointer (some ⟨b, 0, none⟩)] w fun e w' => e = .returned (.bool (Occ.less fr o)) ∧ Below w.heap.size w w' := by
  have cl := fun W => Cmp.Less fr o W
  unfold At3 at hc
  unfold OccV.cells at *
  have Cl := Lib.hid cl
  clear cl
  go_enter Tryz.func142, Tryz.ntmps142
  go_wp2_with (go_at_call 143;(with_reducible refine (Cl.out _).mono ?_);rintro e w1 ⟨rfl, hb1⟩;obtain ⟨hc1, hf1⟩ := bcell hb1)
  go_ret
  exact ⟨rfl, by repeat (first|(with_reducible exact Below.refl _ _)|(with_reducible assumption)|(with_reducible refine ba ?_)|(with_reducible refine bd ?_)|(with_reducible refine bdn ?_ _)|(with_reducible refine bset ?_ (by first|exact Nat.le_refl _|omega|(simp;done)|(simp;omega)))|(with_reducible refine bt ?_ (by with_reducible assumption)))⟩
theorem prev1 (o fr : OccV) (b : Nat) (w : World) (hb : b < w.heap.size) (hc : At3 w b fr) :
    Calls Tryz.prog 228 #[.agg o.cells.toArray, .pointer (some ⟨b, 0, none⟩)] w fun e w' => e = .returned (.bool (Occ.more fr o)) ∧ Below w.heap.size w w' := by
  have cl := fun W => Cmp.Less o fr W
  unfold Occ.more
  unfold At3 at hc
  unfold OccV.cells at *
  have Cl := Lib.hid cl
  clear cl
  go_enter Tryz.func228, Tryz.ntmps228
  go_wp2_with (go_at_call 143;(with_reducible refine (Cl.out _).mono ?_);rintro e w1 ⟨rfl, hb1⟩;obtain ⟨hc1, hf1⟩ := bcell hb1)
  go_ret
  exact ⟨rfl, by repeat (first|(with_reducible exact Below.refl _ _)|(with_reducible assumption)|(with_reducible refine ba ?_)|(with_reducible refine bd ?_)|(with_reducible refine bdn ?_ _)|(with_reducible refine bset ?_ (by first|exact Nat.le_refl _|omega|(simp;done)|(simp;omega)))|(with_reducible refine bt ?_ (by with_reducible assumption)))⟩
def optV : Option OccV → Value
  | none => .tuple #[.agg #[.int .i64 0, .int .i64 0, .int .i64 0], .bool false]
  | some o => .tuple #[.agg o.cells.toArray, .bool true]
theorem scanY_none (lt : OccV → OccV → Bool) (fr : OccV) (r : RuleV) (i d y : Int) : Occ.scanY lt fr r i d y 0 = none := rfl
theorem scanY_hit {lt : OccV → OccV → Bool} {fr : OccV} {r : RuleV} {i d y : Int} {n : Nat} (hn : 0 < n) (h : lt fr (Occ.occ r i y) = true) : Occ.scanY lt fr r i d y n = some (Occ.occ r i y) := by
  obtain ⟨m, rfl⟩ : ∃ m, n = m + 1 := ⟨n - 1, by omega⟩
  unfold Occ.scanY
  rw [if_pos h]
theorem scanY_miss {lt : OccV → OccV → Bool} {fr : OccV} {r : RuleV} {i d y : Int} {n : Nat} (hn : 0 < n) (h : lt fr (Occ.occ r i y) = false) : Occ.scanY lt fr r i d y n = Occ.scanY lt fr r i d (y + d) (n - 1) := by
  obtain ⟨m, rfl⟩ : ∃ m, n = m + 1 := ⟨n - 1, by omega⟩
  conv => lhs;unfold Occ.scanY
  rw [if_neg (by rw [h];decide)]
  rfl
def Left (lt : OccV → OccV → Bool) (fr : OccV) (r : RuleV) (i d s : Int) (n : Nat) (y : Int) (m : Nat) : Prop := Occ.scanY lt fr r i d s n = Occ.scanY lt fr r i d y m
set_option maxHeartbeats 3200000 in
theorem next (r : RuleV) (hr : Rul.right r = true) (i Y : Int) (hY0 : -70000 ≤ Y) (hY1 : Y ≤ 70000) (fr : OccV) (b : Nat) (w : World) (hb : b < w.heap.size) (hc : At3 w b fr) :
    Calls Tryz.prog 141 #[.agg r.cells.toArray, .int .i64 i, .int .i64 Y, .func (.func 142) #[] #[.pointer (some ⟨b, 0, none⟩)]] w fun e w' =>
      e = .returned (optV (Occ.scanY Occ.less fr r i 1 (max r.fr (Y - 2)) (r.to - max r.fr (Y - 2) + 1).toNat)) ∧ Below w.heap.size w w' := by
  have hy := (Rul.right_spec hr).1
  have cn := fun y h1 h2 W => Nom.nom r hr y h1 h2 W
  have cf : ∀ (y : Int) (W : World), b < W.heap.size → At3 W b fr → Calls Tryz.prog 142 #[.agg #[.int .i64 i, .int .i64 y, .int .i64 (Occ.nomR r y)], .pointer (some ⟨b, 0, none⟩)] W (fun e w' => e = .returned (.bool (Occ.less fr (Occ.occ r i y))) ∧ Below W.heap.size W w') := fun y W h1 h2 => next1 (Occ.occ r i y) fr b W h1 h2
  have Hc : Hid (∀ X, Below w.heap.size w X → b < X.heap.size ∧ At3 X b fr) := fun X hX => ⟨Nat.lt_of_lt_of_le hb hX.size, fun j => (hX.cell (p := ⟨b, j, none⟩) hb).trans (hc j)⟩
  clear hc
  obtain ⟨s, hs⟩ : ∃ s, s = max r.fr (Y - 2) := ⟨_, rfl⟩
  rw [← hs]
  have hs0 : r.fr ≤ s ∧ s ≤ 70000 := by omega
  obtain ⟨n, hn⟩ : ∃ n, n = (r.to - s + 1).toNat := ⟨_, rfl⟩
  rw [← hn]
  have Hs := Lib.hid hs
  have Hn := Lib.hid hn
  have Cn := Lib.hid cn
  have Cf := Lib.hid cf
  clear hs hn cn cf
  unfold RuleV.cells at *
  go_enter Tryz.func141, Tryz.ntmps141
  go_wp2
  rw [← Hs.out]
  obtain ⟨V, hV⟩ : ∃ V, V = (w.alloc (.cells #[.string r.name, .int .i64 r.fr, .int .i64 r.to, .int .i64 r.month, .int .i64 r.kind, .int .i64 r.week, .int .i64 r.day, .int .i64 r.sec, .int .i64 r.base, .int .i64 r.save, .string r.letter] 63)).alloc (.cells #[.int .i64 0, .int .i64 0, .int .i64 0] 149) := ⟨_, rfl⟩
  rw [← hV]
  obtain ⟨⟨v0, v1⟩, hB, hF⟩ := box2 hV
  have HG := Lib.hid (box2f hV)
  clear hV
  have HF := Lib.hid hF
  clear hF
  go_loopw [10] (fun y wr => ∃ yy : Int, y = .int .i64 yy ∧ (s ≤ yy ∧ yy ≤ 80000) ∧ Left Occ.less fr r i (1) s n yy (r.to - yy + 1).toNat ∧ Below V.heap.size V wr) (fun y _ => match y with|.int _ yy => (r.to - yy + 1).toNat|_ => 0)
  case atStart => exact ⟨s, rfl, by omega, by unfold Left;rw [Hn.out], Below.refl _ _⟩
  case round =>
    obtain ⟨yy, rfl, hyy, hleft, hbel⟩ := hrel
    have Hleft := Lib.hid hleft
    clear hleft
    obtain ⟨f1, f2, f3⟩ := HF.out wr hbel
    have f4 := (HG.out wr hbel).2
    have u0 : w.heap.size < wr.heap.size := by omega
    have u1 : w.heap.size + 1 < wr.heap.size := by omega
    by_cases hlt : yy ≤ r.to
    · cases hL : Occ.less fr (Occ.occ r i yy)
      · have HL := Lib.hid hL
        clear hL
        go_wp2_with (first
          | (go_at_call 200;(with_reducible refine (Cn.out _ (by omega) (by omega) _).mono ?_);rintro e w1 ⟨rfl, hb1⟩;obtain ⟨hc1, hf1⟩ := bcell hb1;have hc1_0 := fun o => hc1 (w.heap.size) o (by first|assumption|omega|(simp;done)|(simp;omega));have hf1_0 := fun o => hf1 (w.heap.size) o (by first|assumption|omega|(simp;done)|(simp;omega));have hc1_1 := fun o => hc1 (w.heap.size + 1) o (by first|assumption|omega|(simp;done)|(simp;omega));have hf1_1 := fun o => hf1 (w.heap.size + 1) o (by first|assumption|omega|(simp;done)|(simp;omega));clear hc1 hf1;have hz1_0 : w.heap.size < w1.heap.size := (by first|exact sz1 hb1|exact sz2 hb1|exact sz3 hb1|(have := hb1.size;(try simp only [World.size_alloc, World.size_drew] at this);omega));have hz1_1 : w.heap.size + 1 < w1.heap.size := (by first|exact sz1 hb1|exact sz2 hb1|exact sz3 hb1|(have := hb1.size;(try simp only [World.size_alloc, World.size_drew] at this);omega)))
          | (go_at_call 142;(with_reducible refine (Cf.out _ _ (Hc.out _ (by repeat (first|(with_reducible exact Below.refl _ _)|(with_reducible assumption)|(with_reducible refine ba ?_)|(with_reducible refine bd ?_)|(with_reducible refine bdn ?_ _)|(with_reducible refine bset ?_ (by first|exact Nat.le_refl _|omega|(simp;done)|(simp;omega)))|(with_reducible refine bt ?_ (by with_reducible assumption))))).1 (Hc.out _ (by repeat (first|(with_reducible exact Below.refl _ _)|(with_reducible assumption)|(with_reducible refine ba ?_)|(with_reducible refine bd ?_)|(with_reducible refine bdn ?_ _)|(with_reducible refine bset ?_ (by first|exact Nat.le_refl _|omega|(simp;done)|(simp;omega)))|(with_reducible refine bt ?_ (by with_reducible assumption))))).2).mono ?_);rw [HL.out];rintro e w2 ⟨rfl, hb2⟩))
        go_roundw
        case rel => exact ⟨yy + 1, rfl, by omega, by
          have h1 := Hleft.out
          unfold Left at h1 ⊢
          rw [h1, scanY_miss (by omega) HL.out]
          congr 1
          omega, by repeat (first|(with_reducible exact Below.refl _ _)|(with_reducible assumption)|(with_reducible refine ba ?_)|(with_reducible refine bd ?_)|(with_reducible refine bdn ?_ _)|(with_reducible refine bset ?_ (by first|exact Nat.le_refl _|omega|(simp;done)|(simp;omega)))|(with_reducible refine bt ?_ (by with_reducible assumption)))⟩
        case measure => simp;omega
      · have HL := Lib.hid hL
        clear hL
        go_wp2_with (first
          | (go_at_call 200;(with_reducible refine (Cn.out _ (by omega) (by omega) _).mono ?_);rintro e w1 ⟨rfl, hb1⟩;obtain ⟨hc1, hf1⟩ := bcell hb1;have hc1_0 := fun o => hc1 (w.heap.size) o (by first|assumption|omega|(simp;done)|(simp;omega));have hf1_0 := fun o => hf1 (w.heap.size) o (by first|assumption|omega|(simp;done)|(simp;omega));have hc1_1 := fun o => hc1 (w.heap.size + 1) o (by first|assumption|omega|(simp;done)|(simp;omega));have hf1_1 := fun o => hf1 (w.heap.size + 1) o (by first|assumption|omega|(simp;done)|(simp;omega));clear hc1 hf1;have hz1_0 : w.heap.size < w1.heap.size := (by first|exact sz1 hb1|exact sz2 hb1|exact sz3 hb1|(have := hb1.size;(try simp only [World.size_alloc, World.size_drew] at this);omega));have hz1_1 : w.heap.size + 1 < w1.heap.size := (by first|exact sz1 hb1|exact sz2 hb1|exact sz3 hb1|(have := hb1.size;(try simp only [World.size_alloc, World.size_drew] at this);omega)))
          | (go_at_call 142;(with_reducible refine (Cf.out _ _ (Hc.out _ (by repeat (first|(with_reducible exact Below.refl _ _)|(with_reducible assumption)|(with_reducible refine ba ?_)|(with_reducible refine bd ?_)|(with_reducible refine bdn ?_ _)|(with_reducible refine bset ?_ (by first|exact Nat.le_refl _|omega|(simp;done)|(simp;omega)))|(with_reducible refine bt ?_ (by with_reducible assumption))))).1 (Hc.out _ (by repeat (first|(with_reducible exact Below.refl _ _)|(with_reducible assumption)|(with_reducible refine ba ?_)|(with_reducible refine bd ?_)|(with_reducible refine bdn ?_ _)|(with_reducible refine bset ?_ (by first|exact Nat.le_refl _|omega|(simp;done)|(simp;omega)))|(with_reducible refine bt ?_ (by with_reducible assumption))))).2).mono ?_);rw [HL.out];rintro e w2 ⟨rfl, hb2⟩;obtain ⟨hc2, hf2⟩ := bcell hb2;have q1 := fun o => hc2 (w.heap.size + 1) o (by simp;omega);have q2 := fun o => hf2 (w.heap.size + 1) o (by simp;omega);have q3 := fun o => hc2 w1.heap.size o (by simp);clear hc2 hf2))
        have h1 := Hleft.out
        unfold Left at h1
        rw [h1, scanY_hit (by omega) HL.out]
        refine bodyPost_ret (v := .tuple #[.agg #[.int .i64 i, .int .i64 yy, .int .i64 (Occ.nomR r yy)], .bool true]) ?_ rfl ⟨rfl, ?_⟩
        · simp only [results, Tryz.results141]
          go_simp
        · repeat (first|(with_reducible exact Below.refl _ _)|(with_reducible assumption)|(with_reducible refine ba ?_)|(with_reducible refine bd ?_)|(with_reducible refine bdn ?_ _)|(with_reducible refine bset ?_ (by first|exact Nat.le_refl _|omega|(simp;done)|(simp;omega)))|(with_reducible refine bt ?_ (by with_reducible assumption)))
    · go_wp2
      have h1 := Hleft.out
      unfold Left at h1
      rw [h1, show (r.to - yy + 1).toNat = 0 by omega, scanY_none]
      refine bodyPost_ret (v := .tuple #[.agg #[.int .i64 0, .int .i64 0, .int .i64 0], .bool false]) ?_ rfl ⟨rfl, ?_⟩
      · simp only [results, Tryz.results141]
        go_simp
      · repeat (first|(with_reducible exact Below.refl _ _)|(with_reducible assumption)|(with_reducible refine ba ?_)|(with_reducible refine bd ?_)|(with_reducible refine bdn ?_ _)|(with_reducible refine bset ?_ (by first|exact Nat.le_refl _|omega|(simp;done)|(simp;omega)))|(with_reducible refine bt ?_ (by with_reducible assumption)))
set_option maxHeartbeats 3200000 in
theorem prev (r : RuleV) (hr : Rul.right r = true) (i Y : Int) (hY0 : -70000 ≤ Y) (hY1 : Y ≤ 70000) (fr : OccV) (b : Nat) (w : World) (hb : b < w.heap.size) (hc : At3 w b fr) :
    Calls Tryz.prog 227 #[.agg r.cells.toArray, .int .i64 i, .int .i64 Y, .func (.func 228) #[] #[.pointer (some ⟨b, 0, none⟩)]] w fun e w' =>
      e = .returned (optV (Occ.scanY Occ.more fr r i (-1) (min r.to (Y + 2)) (min r.to (Y + 2) - r.fr + 1).toNat)) ∧ Below w.heap.size w w' := by
  have hy := (Rul.right_spec hr).1
  have cn := fun y h1 h2 W => Nom.nom r hr y h1 h2 W
  have cf : ∀ (y : Int) (W : World), b < W.heap.size → At3 W b fr → Calls Tryz.prog 228 #[.agg #[.int .i64 i, .int .i64 y, .int .i64 (Occ.nomR r y)], .pointer (some ⟨b, 0, none⟩)] W (fun e w' => e = .returned (.bool (Occ.more fr (Occ.occ r i y))) ∧ Below W.heap.size W w') := fun y W h1 h2 => prev1 (Occ.occ r i y) fr b W h1 h2
  have Hc : Hid (∀ X, Below w.heap.size w X → b < X.heap.size ∧ At3 X b fr) := fun X hX => ⟨Nat.lt_of_lt_of_le hb hX.size, fun j => (hX.cell (p := ⟨b, j, none⟩) hb).trans (hc j)⟩
  clear hc
  obtain ⟨s, hs⟩ : ∃ s, s = min r.to (Y + 2) := ⟨_, rfl⟩
  rw [← hs]
  have hs0 : -80000 ≤ s ∧ s ≤ r.to := by omega
  obtain ⟨n, hn⟩ : ∃ n, n = (s - r.fr + 1).toNat := ⟨_, rfl⟩
  rw [← hn]
  have Hs := Lib.hid hs
  have Hn := Lib.hid hn
  have Cn := Lib.hid cn
  have Cf := Lib.hid cf
  clear hs hn cn cf
  unfold RuleV.cells at *
  go_enter Tryz.func227, Tryz.ntmps227
  go_wp2
  rw [← Hs.out]
  obtain ⟨V, hV⟩ : ∃ V, V = (w.alloc (.cells #[.string r.name, .int .i64 r.fr, .int .i64 r.to, .int .i64 r.month, .int .i64 r.kind, .int .i64 r.week, .int .i64 r.day, .int .i64 r.sec, .int .i64 r.base, .int .i64 r.save, .string r.letter] 63)).alloc (.cells #[.int .i64 0, .int .i64 0, .int .i64 0] 149) := ⟨_, rfl⟩
  rw [← hV]
  obtain ⟨⟨v0, v1⟩, hB, hF⟩ := box2 hV
  have HG := Lib.hid (box2f hV)
  clear hV
  have HF := Lib.hid hF
  clear hF
  go_loopw [10] (fun y wr => ∃ yy : Int, y = .int .i64 yy ∧ (-90000 ≤ yy ∧ yy ≤ s) ∧ Left Occ.more fr r i (-1) s n yy (yy - r.fr + 1).toNat ∧ Below V.heap.size V wr) (fun y _ => match y with|.int _ yy => (yy - r.fr + 1).toNat|_ => 0)
  case atStart => exact ⟨s, rfl, by omega, by unfold Left;rw [Hn.out], Below.refl _ _⟩
  case round =>
    obtain ⟨yy, rfl, hyy, hleft, hbel⟩ := hrel
    have Hleft := Lib.hid hleft
    clear hleft
    obtain ⟨f1, f2, f3⟩ := HF.out wr hbel
    have f4 := (HG.out wr hbel).2
    have u0 : w.heap.size < wr.heap.size := by omega
    have u1 : w.heap.size + 1 < wr.heap.size := by omega
    by_cases hlt : r.fr ≤ yy
    · cases hL : Occ.more fr (Occ.occ r i yy)
      · have HL := Lib.hid hL
        clear hL
        go_wp2_with (first
          | (go_at_call 200;(with_reducible refine (Cn.out _ (by omega) (by omega) _).mono ?_);rintro e w1 ⟨rfl, hb1⟩;obtain ⟨hc1, hf1⟩ := bcell hb1;have hc1_0 := fun o => hc1 (w.heap.size) o (by first|assumption|omega|(simp;done)|(simp;omega));have hf1_0 := fun o => hf1 (w.heap.size) o (by first|assumption|omega|(simp;done)|(simp;omega));have hc1_1 := fun o => hc1 (w.heap.size + 1) o (by first|assumption|omega|(simp;done)|(simp;omega));have hf1_1 := fun o => hf1 (w.heap.size + 1) o (by first|assumption|omega|(simp;done)|(simp;omega));clear hc1 hf1;have hz1_0 : w.heap.size < w1.heap.size := (by first|exact sz1 hb1|exact sz2 hb1|exact sz3 hb1|(have := hb1.size;(try simp only [World.size_alloc, World.size_drew] at this);omega));have hz1_1 : w.heap.size + 1 < w1.heap.size := (by first|exact sz1 hb1|exact sz2 hb1|exact sz3 hb1|(have := hb1.size;(try simp only [World.size_alloc, World.size_drew] at this);omega)))
          | (go_at_call 228;(with_reducible refine (Cf.out _ _ (Hc.out _ (by repeat (first|(with_reducible exact Below.refl _ _)|(with_reducible assumption)|(with_reducible refine ba ?_)|(with_reducible refine bd ?_)|(with_reducible refine bdn ?_ _)|(with_reducible refine bset ?_ (by first|exact Nat.le_refl _|omega|(simp;done)|(simp;omega)))|(with_reducible refine bt ?_ (by with_reducible assumption))))).1 (Hc.out _ (by repeat (first|(with_reducible exact Below.refl _ _)|(with_reducible assumption)|(with_reducible refine ba ?_)|(with_reducible refine bd ?_)|(with_reducible refine bdn ?_ _)|(with_reducible refine bset ?_ (by first|exact Nat.le_refl _|omega|(simp;done)|(simp;omega)))|(with_reducible refine bt ?_ (by with_reducible assumption))))).2).mono ?_);rw [HL.out];rintro e w2 ⟨rfl, hb2⟩))
        go_roundw
        case rel => exact ⟨yy + -1, rfl, by omega, by
          have h1 := Hleft.out
          unfold Left at h1 ⊢
          rw [h1, scanY_miss (by omega) HL.out]
          congr 1
          omega, by repeat (first|(with_reducible exact Below.refl _ _)|(with_reducible assumption)|(with_reducible refine ba ?_)|(with_reducible refine bd ?_)|(with_reducible refine bdn ?_ _)|(with_reducible refine bset ?_ (by first|exact Nat.le_refl _|omega|(simp;done)|(simp;omega)))|(with_reducible refine bt ?_ (by with_reducible assumption)))⟩
        case measure => simp;omega
      · have HL := Lib.hid hL
        clear hL
        go_wp2_with (first
          | (go_at_call 200;(with_reducible refine (Cn.out _ (by omega) (by omega) _).mono ?_);rintro e w1 ⟨rfl, hb1⟩;obtain ⟨hc1, hf1⟩ := bcell hb1;have hc1_0 := fun o => hc1 (w.heap.size) o (by first|assumption|omega|(simp;done)|(simp;omega));have hf1_0 := fun o => hf1 (w.heap.size) o (by first|assumption|omega|(simp;done)|(simp;omega));have hc1_1 := fun o => hc1 (w.heap.size + 1) o (by first|assumption|omega|(simp;done)|(simp;omega));have hf1_1 := fun o => hf1 (w.heap.size + 1) o (by first|assumption|omega|(simp;done)|(simp;omega));clear hc1 hf1;have hz1_0 : w.heap.size < w1.heap.size := (by first|exact sz1 hb1|exact sz2 hb1|exact sz3 hb1|(have := hb1.size;(try simp only [World.size_alloc, World.size_drew] at this);omega));have hz1_1 : w.heap.size + 1 < w1.heap.size := (by first|exact sz1 hb1|exact sz2 hb1|exact sz3 hb1|(have := hb1.size;(try simp only [World.size_alloc, World.size_drew] at this);omega)))
          | (go_at_call 228;(with_reducible refine (Cf.out _ _ (Hc.out _ (by repeat (first|(with_reducible exact Below.refl _ _)|(with_reducible assumption)|(with_reducible refine ba ?_)|(with_reducible refine bd ?_)|(with_reducible refine bdn ?_ _)|(with_reducible refine bset ?_ (by first|exact Nat.le_refl _|omega|(simp;done)|(simp;omega)))|(with_reducible refine bt ?_ (by with_reducible assumption))))).1 (Hc.out _ (by repeat (first|(with_reducible exact Below.refl _ _)|(with_reducible assumption)|(with_reducible refine ba ?_)|(with_reducible refine bd ?_)|(with_reducible refine bdn ?_ _)|(with_reducible refine bset ?_ (by first|exact Nat.le_refl _|omega|(simp;done)|(simp;omega)))|(with_reducible refine bt ?_ (by with_reducible assumption))))).2).mono ?_);rw [HL.out];rintro e w2 ⟨rfl, hb2⟩;obtain ⟨hc2, hf2⟩ := bcell hb2;have q1 := fun o => hc2 (w.heap.size + 1) o (by simp;omega);have q2 := fun o => hf2 (w.heap.size + 1) o (by simp;omega);have q3 := fun o => hc2 w1.heap.size o (by simp);clear hc2 hf2))
        have h1 := Hleft.out
        unfold Left at h1
        rw [h1, scanY_hit (by omega) HL.out]
        refine bodyPost_ret (v := .tuple #[.agg #[.int .i64 i, .int .i64 yy, .int .i64 (Occ.nomR r yy)], .bool true]) ?_ rfl ⟨rfl, ?_⟩
        · simp only [results, Tryz.results227]
          go_simp
        · repeat (first|(with_reducible exact Below.refl _ _)|(with_reducible assumption)|(with_reducible refine ba ?_)|(with_reducible refine bd ?_)|(with_reducible refine bdn ?_ _)|(with_reducible refine bset ?_ (by first|exact Nat.le_refl _|omega|(simp;done)|(simp;omega)))|(with_reducible refine bt ?_ (by with_reducible assumption)))
    · go_wp2
      have h1 := Hleft.out
      unfold Left at h1
      rw [h1, show (yy - r.fr + 1).toNat = 0 by omega, scanY_none]
      refine bodyPost_ret (v := .tuple #[.agg #[.int .i64 0, .int .i64 0, .int .i64 0], .bool false]) ?_ rfl ⟨rfl, ?_⟩
      · simp only [results, Tryz.results227]
        go_simp
      · repeat (first|(with_reducible exact Below.refl _ _)|(with_reducible assumption)|(with_reducible refine ba ?_)|(with_reducible refine bd ?_)|(with_reducible refine bdn ?_ _)|(with_reducible refine bset ?_ (by first|exact Nat.le_refl _|omega|(simp;done)|(simp;omega)))|(with_reducible refine bt ?_ (by with_reducible assumption)))
end Nxt
end Go.Proofs.YtcfmchpoclkpgaaGreatDoor
