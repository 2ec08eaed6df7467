import Derived.Test.YtcfmchpoclkpgaaGreatDoorG26
import Derived.Test.YtcfmchpoclkpgaaGreatDoorRCkP
import Derived.Test.YtcfmchpoclkpgaaGreatDoorG22
import Derived.OrdersHeld
namespace Go.Proofs.YtcfmchpoclkpgaaGreatDoor
open Go.RowKit NB
namespace CkL
open Ck
theorem infoZ : (Tryz.prog.info? 42).map (fun i => (i.zero, i.size, i.bytes)) = some (some (.agg #[.string .empty, .slice none 0 0]), 2, 40) := by kernel_rfl
theorem infoRu : (Tryz.prog.info? 63).map (fun i => (i.zero, i.size, i.bytes)) = some (some (.agg #[.string .empty, .int .i64 0, .int .i64 0, .int .i64 0, .int .i64 0, .int .i64 0, .int .i64 0, .int .i64 0, .int .i64 0, .int .i64 0, .string .empty]), 11, 104) := by kernel_rfl
theorem news2 {W : World} {b : Nat} {cs : Array Value} {t : TypeId} (h : Box W b cs t) : ∀ j u, cs.toList[j]? = some u → W.cell? ((⟨b, 0, none⟩ : Addr).add j) = some u := fun j u hu => by
  have e : (⟨b, 0, none⟩ : Addr).add j = ⟨b, j, none⟩ := by unfold Addr.add;split <;> simp_all
  rw [e, h.cell]
  simpa using hu
set_option maxRecDepth 100000 in
set_option maxHeartbeats 25600000 in
theorem lives (w : World) (ht : Tab w) : Calls Tryz.prog 9 #[] w fun e w' => e = .returned (.bool true) ∧ Below w.heap.size w w' := by
  have ceu : ∀ w, Calls Tryz.prog 26 #[] w fun e w' => e = .returned (.agg #[.string ⟨#[69, 85]⟩, .int .i64 1981, .int .i64 32767, .int .i64 3, .int .i64 1, .int .i64 0, .int .i64 0, .int .i64 3600, .int .i64 2, .int .i64 3600, .string ⟨#[83]⟩]) ∧ Below w.heap.size w w' := Us.Eu
  go_enter Tryz.func9, Tryz.ntmps9
  go_upto_region 5 with fail
  obtain ⟨wA, hA⟩ : ∃ wA, wA = ((((((((w.alloc (.cells #[.int .i64 0, .int .i64 2, .int .i64 0, .string ⟨#[69, 85]⟩, .string ⟨#[88]⟩, .bool false, .int .i64 0, .int .i64 0, .int .i64 0, .int .i64 0, .int .i64 0, .int .i64 0, .int .i64 0] 61)).alloc (.cells #[.int .i64 0, .int .i64 2, .int .i64 0, .string ⟨#[69, 85]⟩, .string ⟨#[88]⟩, .bool false, .int .i64 0, .int .i64 0, .int .i64 0, .int .i64 0, .int .i64 0, .int .i64 0, .int .i64 0] 61)).alloc (.cells #[.string ⟨#[65]⟩, .slice (some ⟨w.heap.size + 1, 0, none⟩) 1 1] 42)).alloc (.cells #[.slice none 0 0, .slice (some ⟨w.heap.size + 1 + 1, 0, none⟩) 1 1, .slice none 0 0] 26)).alloc (.cells #[.int .i64 1] 3)).alloc (.cells #[.slice (some ⟨w.heap.size + 1 + 1 + 1 + 1, 0, none⟩) 1 1] 27)).alloc (.cells #[.slice none 0 0, .slice (some ⟨w.heap.size + 1 + 1 + 1 + 1 + 1, 0, none⟩) 1 1, .slice none 0 0] 30)).alloc (.cells #[.slice none 0 0, .slice (some ⟨w.heap.size + 1 + 1, 0, none⟩) 1 1, .slice none 0 0] 26)) := ⟨_, rfl⟩
  rw [← hA]
  have bE : Box wA (w.heap.size + 1) #[.int .i64 0, .int .i64 2, .int .i64 0, .string ⟨#[69, 85]⟩, .string ⟨#[88]⟩, .bool false, .int .i64 0, .int .i64 0, .int .i64 0, .int .i64 0, .int .i64 0, .int .i64 0, .int .i64 0] 61 := by rw [hA];repeat (first|(with_reducible assumption)|(with_reducible refine boxN ?_;simp;done)|(with_reducible refine Box.old ?_)|(with_reducible refine Box.drew ?_)|(with_reducible refine Box.later ?_ (by with_reducible assumption)))
  have bZ : Box wA (w.heap.size + 1 + 1) #[.string ⟨#[65]⟩, .slice (some ⟨w.heap.size + 1, 0, none⟩) 1 1] 42 := by rw [hA];repeat (first|(with_reducible assumption)|(with_reducible refine boxN ?_;simp;done)|(with_reducible refine Box.old ?_)|(with_reducible refine Box.drew ?_)|(with_reducible refine Box.later ?_ (by with_reducible assumption)))
  have bT2 : Box wA (w.heap.size + 1 + 1 + 1) #[.slice none 0 0, .slice (some ⟨w.heap.size + 1 + 1, 0, none⟩) 1 1, .slice none 0 0] 26 := by rw [hA];repeat (first|(with_reducible assumption)|(with_reducible refine boxN ?_;simp;done)|(with_reducible refine Box.old ?_)|(with_reducible refine Box.drew ?_)|(with_reducible refine Box.later ?_ (by with_reducible assumption)))
  have bR4 : Box wA (w.heap.size + 1 + 1 + 1 + 1) #[.int .i64 1] 3 := by rw [hA];repeat (first|(with_reducible assumption)|(with_reducible refine boxN ?_;simp;done)|(with_reducible refine Box.old ?_)|(with_reducible refine Box.drew ?_)|(with_reducible refine Box.later ?_ (by with_reducible assumption)))
  have bR5 : Box wA (w.heap.size + 1 + 1 + 1 + 1 + 1) #[.slice (some ⟨w.heap.size + 1 + 1 + 1 + 1, 0, none⟩) 1 1] 27 := by rw [hA];repeat (first|(with_reducible assumption)|(with_reducible refine boxN ?_;simp;done)|(with_reducible refine Box.old ?_)|(with_reducible refine Box.drew ?_)|(with_reducible refine Box.later ?_ (by with_reducible assumption)))
  have bW3 : Box wA (w.heap.size + 1 + 1 + 1 + 1 + 1 + 1) #[.slice none 0 0, .slice (some ⟨w.heap.size + 1 + 1 + 1 + 1 + 1, 0, none⟩) 1 1, .slice none 0 0] 30 := by rw [hA];repeat (first|(with_reducible assumption)|(with_reducible refine boxN ?_;simp;done)|(with_reducible refine Box.old ?_)|(with_reducible refine Box.drew ?_)|(with_reducible refine Box.later ?_ (by with_reducible assumption)))
  have bT4 : Box wA (w.heap.size + 1 + 1 + 1 + 1 + 1 + 1 + 1) #[.slice none 0 0, .slice (some ⟨w.heap.size + 1 + 1, 0, none⟩) 1 1, .slice none 0 0] 26 := by rw [hA];repeat (first|(with_reducible assumption)|(with_reducible refine boxN ?_;simp;done)|(with_reducible refine Box.old ?_)|(with_reducible refine Box.drew ?_)|(with_reducible refine Box.later ?_ (by with_reducible assumption)))
  have hwA : Below w.heap.size w wA := by rw [hA];repeat (first|(with_reducible exact Below.refl _ _)|(with_reducible assumption)|(with_reducible refine ba ?_)|(with_reducible refine bd ?_)|(with_reducible refine bdn ?_ _)|(with_reducible refine bset ?_ (by first|exact Nat.le_refl _|omega|(simp;done)|(simp;omega)))|(with_reducible refine bt ?_ (by with_reducible assumption)))
  clear hA
  go_upto_region 6 with (go_at_call 26;refine (ceu _).mono ?_;rintro e w1 ⟨rfl, hb1⟩;have bT4w := bT4.later hb1;have cT4 := bT4w.cell;have fT4 := bT4w.free;have sT4 := bT4w.lt)
  obtain ⟨wB, hB⟩ : ∃ wB, wB = (w1.setCell ⟨w.heap.size + 1 + 1 + 1 + 1 + 1 + 1 + 1, 0, none⟩ (.slice (some ⟨w1.heap.size, 0, none⟩) 1 1)).alloc (.cells #[.string ⟨#[69, 85]⟩, .int .i64 1981, .int .i64 32767, .int .i64 3, .int .i64 1, .int .i64 0, .int .i64 0, .int .i64 3600, .int .i64 2, .int .i64 3600, .string ⟨#[83]⟩] 63) := ⟨_, rfl⟩
  rw [← hB]
  obtain ⟨r, hr⟩ : ∃ r, r = w1.heap.size := ⟨_, rfl⟩
  have hAr : wA.heap.size ≤ r := by rw [hr];exact hb1.size
  have hs7 := bT4.lt
  have keep : ∀ {b : Nat} {cs : Array Value} {t : TypeId}, Box wA b cs t → b ≠ w.heap.size + 1 + 1 + 1 + 1 + 1 + 1 + 1 → Box wB b cs t := fun h hne => by rw [hB];exact ((h.later hb1).other hne).old
  have dE := keep bE (by omega)
  have dZ := keep bZ (by omega)
  have dT2 := keep bT2 (by omega)
  have dR4 := keep bR4 (by omega)
  have dR5 := keep bR5 (by omega)
  have dW3 := keep bW3 (by omega)
  have dEu : Box wB r #[.string ⟨#[69, 85]⟩, .int .i64 1981, .int .i64 32767, .int .i64 3, .int .i64 1, .int .i64 0, .int .i64 0, .int .i64 3600, .int .i64 2, .int .i64 3600, .string ⟨#[83]⟩] 63 := by rw [hB, hr];exact boxN (by simp)
  have dT4 : Box wB (w.heap.size + 1 + 1 + 1 + 1 + 1 + 1 + 1) #[.slice (some ⟨r, 0, none⟩) 1 1, .slice (some ⟨w.heap.size + 1 + 1, 0, none⟩) 1 1, .slice none 0 0] 26 := by rw [hB, hr];exact (bT4w.set (j := 0)).old
  have hwB : Below w.heap.size w wB := by rw [hB];exact Below.alloc (bset (hwA.trans (hb1.mono hwA.size)) (by omega)) (by have := hwA.size;have := hb1.size;simp;omega) _
  have hsB : r < wB.heap.size := by rw [hB, hr];simp
  rw [← hr]
  have HRH := Lib.hid hr
  clear hr hB keep bE bZ bT2 bR4 bR5 bW3 bT4 bT4w cT4 fT4 sT4
  have cT4 := dT4.cell
  have sT4 := dT4.lt
  have sr : r < wB.heap.size := by omega
  have sT5 : w.heap.size + 1 + 1 + 1 + 1 + 1 + 1 + 1 < wB.heap.size + 1 := by omega
  have sT6 : w.heap.size + 1 + 1 + 1 + 1 + 1 + 1 + 1 < wB.heap.size + 1 + 1 := by omega
  have sT7 : w.heap.size + 1 + 1 + 1 + 1 + 1 + 1 + 1 < wB.heap.size + 1 + 1 + 1 := by omega
  have sT8 : w.heap.size + 1 + 1 + 1 + 1 + 1 + 1 + 1 < wB.heap.size + 1 + 1 + 1 + 1 := by omega
  have sT9 : w.heap.size + 1 + 1 + 1 + 1 + 1 + 1 + 1 < wB.heap.size + 1 + 1 + 1 + 1 + 1 := by omega
  have sT10 : w.heap.size + 1 + 1 + 1 + 1 + 1 + 1 + 1 < wB.heap.size + 1 + 1 + 1 + 1 + 1 + 1 := by omega
  have sT11 : w.heap.size + 1 + 1 + 1 + 1 + 1 + 1 + 1 < wB.heap.size + 1 + 1 + 1 + 1 + 1 + 1 + 1 := by omega
  have sT12 : w.heap.size + 1 + 1 + 1 + 1 + 1 + 1 + 1 < wB.heap.size + 1 + 1 + 1 + 1 + 1 + 1 + 1 + 1 := by omega
  go_upto_region 10 with fail
  obtain ⟨wC, hC⟩ : ∃ wC, wC = ((((((((wB.alloc (.cells #[.int .i64 2] 3)).alloc (.cells #[.int .i64 1] 3)).alloc (.cells #[.slice (some ⟨wB.heap.size + 1, 0, none⟩) 1 1] 27)).alloc (.cells #[.slice (some ⟨wB.heap.size, 0, none⟩) 1 1, .slice (some ⟨wB.heap.size + 1 + 1, 0, none⟩) 1 1, .slice none 0 0] 30)).alloc (.cells #[.string ⟨#[66]⟩, .string ⟨#[65]⟩, .string ⟨#[65]⟩, .string ⟨#[66]⟩] 51)).alloc (.cells #[.slice none 0 0, .slice none 0 0, .slice (some ⟨wB.heap.size + 1 + 1 + 1 + 1, 0, none⟩) 2 2] 26)).alloc (.cells #[.slice none 0 0, .slice none 0 0, .slice (some ⟨wB.heap.size + 1 + 1 + 1 + 1, 0, none⟩) 1 2] 26)).alloc (.cells #[.slice (some ⟨r, 0, none⟩) 1 1, .slice (some ⟨w.heap.size + 1 + 1, 0, none⟩) 1 1, .slice none 0 0] 26)) := ⟨_, rfl⟩
  rw [← hC]
  have hBC : Below wB.heap.size wB wC := by rw [hC];repeat (first|(with_reducible exact Below.refl _ _)|(with_reducible assumption)|(with_reducible refine ba ?_)|(with_reducible refine bd ?_)|(with_reducible refine bdn ?_ _)|(with_reducible refine bset ?_ (by first|exact Nat.le_refl _|omega|(simp;done)|(simp;omega)))|(with_reducible refine bt ?_ (by with_reducible assumption)))
  have g1 : Box wC (wB.heap.size) #[.int .i64 2] 3 := by rw [hC];repeat (first|(with_reducible assumption)|(with_reducible refine boxN ?_;simp;done)|(with_reducible refine Box.old ?_)|(with_reducible refine Box.drew ?_)|(with_reducible refine Box.later ?_ (by with_reducible assumption)))
  have g2 : Box wC (wB.heap.size + 1) #[.int .i64 1] 3 := by rw [hC];repeat (first|(with_reducible assumption)|(with_reducible refine boxN ?_;simp;done)|(with_reducible refine Box.old ?_)|(with_reducible refine Box.drew ?_)|(with_reducible refine Box.later ?_ (by with_reducible assumption)))
  have g3 : Box wC (wB.heap.size + 1 + 1) #[.slice (some ⟨wB.heap.size + 1, 0, none⟩) 1 1] 27 := by rw [hC];repeat (first|(with_reducible assumption)|(with_reducible refine boxN ?_;simp;done)|(with_reducible refine Box.old ?_)|(with_reducible refine Box.drew ?_)|(with_reducible refine Box.later ?_ (by with_reducible assumption)))
  have g4 : Box wC (wB.heap.size + 1 + 1 + 1) #[.slice (some ⟨wB.heap.size, 0, none⟩) 1 1, .slice (some ⟨wB.heap.size + 1 + 1, 0, none⟩) 1 1, .slice none 0 0] 30 := by rw [hC];repeat (first|(with_reducible assumption)|(with_reducible refine boxN ?_;simp;done)|(with_reducible refine Box.old ?_)|(with_reducible refine Box.drew ?_)|(with_reducible refine Box.later ?_ (by with_reducible assumption)))
  have g5 : Box wC (wB.heap.size + 1 + 1 + 1 + 1) #[.string ⟨#[66]⟩, .string ⟨#[65]⟩, .string ⟨#[65]⟩, .string ⟨#[66]⟩] 51 := by rw [hC];repeat (first|(with_reducible assumption)|(with_reducible refine boxN ?_;simp;done)|(with_reducible refine Box.old ?_)|(with_reducible refine Box.drew ?_)|(with_reducible refine Box.later ?_ (by with_reducible assumption)))
  have g6 : Box wC (wB.heap.size + 1 + 1 + 1 + 1 + 1) #[.slice none 0 0, .slice none 0 0, .slice (some ⟨wB.heap.size + 1 + 1 + 1 + 1, 0, none⟩) 2 2] 26 := by rw [hC];repeat (first|(with_reducible assumption)|(with_reducible refine boxN ?_;simp;done)|(with_reducible refine Box.old ?_)|(with_reducible refine Box.drew ?_)|(with_reducible refine Box.later ?_ (by with_reducible assumption)))
  have g7 : Box wC (wB.heap.size + 1 + 1 + 1 + 1 + 1 + 1) #[.slice none 0 0, .slice none 0 0, .slice (some ⟨wB.heap.size + 1 + 1 + 1 + 1, 0, none⟩) 1 2] 26 := by rw [hC];repeat (first|(with_reducible assumption)|(with_reducible refine boxN ?_;simp;done)|(with_reducible refine Box.old ?_)|(with_reducible refine Box.drew ?_)|(with_reducible refine Box.later ?_ (by with_reducible assumption)))
  have g8 : Box wC (wB.heap.size + 1 + 1 + 1 + 1 + 1 + 1 + 1) #[.slice (some ⟨r, 0, none⟩) 1 1, .slice (some ⟨w.heap.size + 1 + 1, 0, none⟩) 1 1, .slice none 0 0] 26 := by rw [hC];repeat (first|(with_reducible assumption)|(with_reducible refine boxN ?_;simp;done)|(with_reducible refine Box.old ?_)|(with_reducible refine Box.drew ?_)|(with_reducible refine Box.later ?_ (by with_reducible assumption)))
  have hEu := dEu.later hBC
  have hE := dE.later hBC
  have hZ := dZ.later hBC
  have hT2 := dT2.later hBC
  have hR4 := dR4.later hBC
  have hR5 := dR5.later hBC
  have hW3 := dW3.later hBC
  have hT4 := dT4.later hBC
  have hwC : Below w.heap.size w wC := hwB.trans (hBC.mono hwB.size)
  have hws : w.heap.size ≤ wB.heap.size := by omega
  obtain ⟨s, hs⟩ : ∃ s, s = wB.heap.size := ⟨_, rfl⟩
  rw [← hs] at g1 g2 g3 g4 g5 g6 g7 g8 sr sT4 hws ⊢
  have HS0 := Lib.hid hs
  have s8 := g8.lt
  obtain ⟨i2, hi2, hy0, hy1, hy2⟩ := info_parts infoZ
  obtain ⟨i1, hi1, hz0, hz1, hz2⟩ := info_parts infoRu
  clear hs hC hBC dEu dE dZ dT2 dR4 dR5 dW3 dT4 cT4 hwB sT5 sT6 sT7 sT8 sT9 sT10 sT11 sT12 hs7 hAr hb1 hsB
  have hS10 : ∀ U, Below wC.heap.size wC U → U.cell? ⟨w.heap.size + 1 + 1 + 1 + 1 + 1 + 1 + 1, 1, none⟩ = some (.slice (some ⟨w.heap.size + 1 + 1, 0, none⟩) 1 1) ∧ U.cell? ⟨w.heap.size + 1 + 1, 0, none⟩ = some (.string ⟨#[65]⟩) ∧ U.cell? ⟨w.heap.size + 1 + 1, 1, none⟩ = some (.slice (some ⟨w.heap.size + 1, 0, none⟩) 1 1) := fun U hU => ⟨(hT4.later hU).cell 1, (hZ.later hU).cell 0, (hZ.later hU).cell 1⟩
  go_cut [] from 36 to 47 (fun wx => ∃ (q8 : Option Addr) (m8 c8 : Nat), CkW.Solo wC wx (s + 1 + 1 + 1 + 1 + 1 + 1 + 1) ∧ Hid (Box wx (s + 1 + 1 + 1 + 1 + 1 + 1 + 1) #[.slice (some ⟨r, 0, none⟩) 1 1, .slice q8 m8 c8, .slice none 0 0] 26) ∧ Hid (HoldsG 2 ZoneV.cells wx (.slice q8 m8 c8) [zA (.slice (some ⟨w.heap.size + 1, 0, none⟩) 1 1), zA (.slice (some ⟨w.heap.size + 1, 0, none⟩) 1 1)]) ∧ m8 = 2)
  case first =>
    refine wp_region_noPanic ?_
    refine wp_region_heldM (fun U => U.cell? ⟨w.heap.size + 1 + 1 + 1 + 1 + 1 + 1 + 1, 1, none⟩ = some (.slice (some ⟨w.heap.size + 1 + 1, 0, none⟩) 1 1) ∧ U.cell? ⟨w.heap.size + 1 + 1, 0, none⟩ = some (.string ⟨#[65]⟩) ∧ U.cell? ⟨w.heap.size + 1 + 1, 1, none⟩ = some (.slice (some ⟨w.heap.size + 1, 0, none⟩) 1 1)) 12 (by kernel_rfl) (hS10 _ (Below.refl _ _).drew) ?_
    intro U hU hSU
    have hUb : Below wC.heap.size wC U := by rw [hU];exact (Below.refl _ _).drew
    clear hU
    (refine wpAnyM_take (i := 1) (v := ?vk361) rfl (by kernel_rfl) (by kernel_rfl) (by kernel_rfl) [] (by kernel_rfl) (by kernel_rfl) (fun _ _ _ h => h) (Or.inl ⟨by rfl, ?yk361⟩) hSU ?rk361;(case yk361 => (intro w hSw;(try dsimp only at hSw);go_simp;(try with_reducible rfl)));(try simp only [Act.put, List.setIfInBounds_toArray]))
    (refine wpAnyM_take (i := 2) (v := ?vk362) rfl (by kernel_rfl) (by kernel_rfl) (by kernel_rfl) [] (by kernel_rfl) (by kernel_rfl) (fun _ _ _ h => h) (Or.inl ⟨by rfl, ?yk362⟩) hSU ?rk362;(case yk362 => (intro w hSw;(try dsimp only at hSw);go_simp;(try with_reducible rfl)));(try simp only [Act.put]))
    (refine wpAnyM_take (i := 3) (v := ?vk363) rfl (by kernel_rfl) (by kernel_rfl) (by kernel_rfl) [] (by kernel_rfl) (by kernel_rfl) (fun _ _ _ h => h) (Or.inl ⟨by rfl, ?yk363⟩) hSU ?rk363;(case yk363 => (intro w hSw;(try dsimp only at hSw);go_simp;(try with_reducible rfl)));(try simp only [Act.put]))
    (refine wpAnyM_take (i := 4) (v := ?vk364) rfl (by kernel_rfl) (by kernel_rfl) (by kernel_rfl) [] (by kernel_rfl) (by kernel_rfl) (fun _ _ _ h => h) (Or.inl ⟨by rfl, ?yk364⟩) hSU ?rk364;(case yk364 => (intro w hSw;(try dsimp only at hSw);go_simp;(try with_reducible rfl)));(try simp only [Act.put]))
    (refine wpAnyM_take (i := 5) (v := ?vk365) rfl (by kernel_rfl) (by kernel_rfl) (by kernel_rfl) [] (by kernel_rfl) (by kernel_rfl) (fun _ _ _ h => h) (Or.inl ⟨by rfl, ?yk365⟩) hSU ?rk365;(case yk365 => (intro w hSw;(try dsimp only at hSw);go_simp;(try with_reducible rfl)));(try simp only [Act.put]))
    (refine wpAnyM_take (i := 6) (v := ?vk366) rfl (by kernel_rfl) (by kernel_rfl) (by kernel_rfl) [] (by kernel_rfl) (by kernel_rfl) (fun _ _ _ h => h) (Or.inl ⟨by rfl, ?yk366⟩) hSU ?rk366;(case yk366 => (intro w hSw;(try dsimp only at hSw);go_simp;(try with_reducible rfl)));(try simp only [Act.put]))
    (refine wpAnyM_take (i := 7) (v := ?vk367) rfl (by kernel_rfl) (by kernel_rfl) (by kernel_rfl) [] (by kernel_rfl) (by kernel_rfl) (fun _ _ _ h => h) (Or.inl ⟨by rfl, ?yk367⟩) hSU ?rk367;(case yk367 => (intro w hSw;(try dsimp only at hSw);go_simp;(try with_reducible rfl)));(try simp only [Act.put]))
    (refine wpAnyM_take (i := 8) (v := ?vk368) rfl (by kernel_rfl) (by kernel_rfl) (by kernel_rfl) [] (by kernel_rfl) (by kernel_rfl) (fun _ _ _ h => h) (Or.inl ⟨by rfl, ?yk368⟩) hSU ?rk368;(case yk368 => (intro w hSw;(try dsimp only at hSw);go_simp;(try with_reducible rfl)));(try simp only [Act.put]))
    refine wpAnyM_all (rs := [0, 9]) (by kernel_rfl) (by simp) (List.forall_mem_cons.2 ⟨?_, (List.forall_mem_cons.2 ⟨?_, (fun _ h => by cases h)⟩)⟩)
    ·
      refine wpOp_step rfl (fun K hK => ?_)
      go_simp
      have hU1 : Below wC.heap.size wC (U.alloc (.cells #[] 42)) := hUb.alloc hUb.size _
      refine hK _ _ ⟨.inr (hS10 _ hU1), ?_⟩
      clear hK K
      (try simp only [Act.put, List.setIfInBounds_toArray, List.set_cons_zero, List.set_cons_succ])
      (refine wpAnyM_all (rs := [9]) (by kernel_rfl) (by simp) (List.forall_mem_cons.2 ⟨?_, (fun _ h => by cases h)⟩);refine wpOp_step rfl (fun K hK => ?_))
      go_simp
      obtain ⟨U2, hU2e⟩ : ∃ U2, U2 = (U.alloc (.cells #[] 42)).alloc (.cells #[.string ⟨#[65]⟩, .slice (some ⟨w.heap.size + 1, 0, none⟩) 1 1, .string ⟨#[65]⟩, .slice (some ⟨w.heap.size + 1, 0, none⟩) 1 1] 42) := ⟨_, rfl⟩
      have hU2 : Below wC.heap.size wC U2 := by rw [hU2e];exact hU1.alloc (by have := hUb.size;simp;omega) _
      have bsrc : Box U2 (U.heap.size + 1) #[.string ⟨#[65]⟩, .slice (some ⟨w.heap.size + 1, 0, none⟩) 1 1, .string ⟨#[65]⟩, .slice (some ⟨w.heap.size + 1, 0, none⟩) 1 1] 42 := by rw [hU2e];repeat (first|(with_reducible assumption)|(with_reducible refine boxN ?_;simp;done)|(with_reducible refine Box.old ?_)|(with_reducible refine Box.drew ?_)|(with_reducible refine Box.later ?_ (by with_reducible assumption)))
      have own0 : U2.ownsRow wC.heap.size 42 2 (.slice (some ⟨U.heap.size, 0, none⟩) 0 0) 0 [] := by
        have bx : Box U2 (U.heap.size) #[] 42 := by rw [hU2e];repeat (first|(with_reducible assumption)|(with_reducible refine boxN ?_;simp;done)|(with_reducible refine Box.old ?_)|(with_reducible refine Box.drew ?_)|(with_reducible refine Box.later ?_ (by with_reducible assumption)))
        exact ⟨rfl, .inr ⟨U.heap.size, 0, #[], rfl, by have := hUb.size;omega, bx, Nat.le_refl _, Nat.zero_le _, by simp, by simp⟩⟩
      rw [← hU2e]
      refine hK _ _ ⟨.inr (hS10 _ hU2), ?_⟩
      clear hK K hU2e
      (try simp only [Act.put, List.setIfInBounds_toArray, List.set_cons_zero, List.set_cons_succ])
      (refine wpAnyM_all (rs := [10]) (by kernel_rfl) (by simp) (List.forall_mem_cons.2 ⟨?_, (fun _ h => by cases h)⟩);refine wpOp_step rfl (fun K hK => ?_))
      refine OW.step_append_at rfl (.tmp 36) (.tmp 45) 23 (by rfl) wC.heap.size 42 i2 _ 2 40 Tryz.underlying23 hi2 hy0 hy1 hy2 rfl (by decide) (.slice (some ⟨U.heap.size, 0, none⟩) 0 0) 0 [] (by rfl) own0 ⟨U.heap.size + 1, 0, none⟩ 2 2 #[.string ⟨#[65]⟩, .slice (some ⟨w.heap.size + 1, 0, none⟩) 1 1, .string ⟨#[65]⟩, .slice (some ⟨w.heap.size + 1, 0, none⟩) 1 1].toList (by rfl) rfl (news2 bsrc) (by intro u hu;simp only [List.mem_cons, List.not_mem_nil, or_false] at hu;rcases hu with rfl|rfl|rfl|rfl <;> rfl) (by decide) (by decide) hU2.size ?_
      intro q8 c8 U3 ho8 hg8 hx8
      have hU3 : Below wC.heap.size wC U3 := hU2.grown hg8 hU2.size (fun j hj => by cases hj;have := hUb.size;show _ ≤ U.heap.size;omega)
      refine hK _ _ ⟨.inr (hS10 _ hU3), ?_⟩
      clear hK K
      (try simp only [Act.put, List.setIfInBounds_toArray])
      have hSU3 := hS10 _ hU3
      (refine wpAnyM_take (i := 11) (v := ?vk36011) rfl (by kernel_rfl) (by kernel_rfl) (by kernel_rfl) [] (by kernel_rfl) (by kernel_rfl) (fun _ _ _ h => h) (Or.inl ⟨by rfl, ?yk36011⟩) hSU3 ?rk36011;(case yk36011 => (intro w hSw;(try dsimp only at hSw);go_simp;(try with_reducible rfl)));(try simp only [Act.put]))
      have bX := g8.later hU3
      have cX := bX.cell
      have fX := bX.free
      (refine wpAnyM_all (rs := [12]) (by kernel_rfl) (by simp) (List.forall_mem_cons.2 ⟨?_, (fun _ h => by cases h)⟩);refine wpOp_step rfl (fun K hK => ?_))
      go_simp
      refine hK _ _ ⟨.inl rfl, ?_⟩
      clear hK K
      refine wpAnyM_done (by kernel_rfl) (NoPanic.normal ?_) _
      go_wp2
      go_meet
      exact ⟨q8, 0 + 2, c8, RCk.solo_set (CkW.far_lat (BkN.Far.refl _ _ _) hU3), bX.set (j := 1), Lib.hid (HoldsG.of_own (k := 2) (f := ZoneV.cells) (l := [zA (.slice (some ⟨w.heap.size + 1, 0, none⟩) 1 1), zA (.slice (some ⟨w.heap.size + 1, 0, none⟩) 1 1)]) (fun _ => rfl) (RCk.own_solo ho8 (RCk.solo_self _ _ _ _) s8)), rfl⟩
    ·
      refine wpOp_step rfl (fun K hK => ?_)
      go_simp
      have hU1 : Below wC.heap.size wC (U.alloc (.cells #[.string ⟨#[65]⟩, .slice (some ⟨w.heap.size + 1, 0, none⟩) 1 1, .string ⟨#[65]⟩, .slice (some ⟨w.heap.size + 1, 0, none⟩) 1 1] 42)) := hUb.alloc hUb.size _
      refine hK _ _ ⟨.inr (hS10 _ hU1), ?_⟩
      clear hK K
      (try simp only [Act.put, List.setIfInBounds_toArray, List.set_cons_zero, List.set_cons_succ])
      (refine wpAnyM_all (rs := [0]) (by kernel_rfl) (by simp) (List.forall_mem_cons.2 ⟨?_, (fun _ h => by cases h)⟩);refine wpOp_step rfl (fun K hK => ?_))
      go_simp
      obtain ⟨U2, hU2e⟩ : ∃ U2, U2 = (U.alloc (.cells #[.string ⟨#[65]⟩, .slice (some ⟨w.heap.size + 1, 0, none⟩) 1 1, .string ⟨#[65]⟩, .slice (some ⟨w.heap.size + 1, 0, none⟩) 1 1] 42)).alloc (.cells #[] 42) := ⟨_, rfl⟩
      have hU2 : Below wC.heap.size wC U2 := by rw [hU2e];exact hU1.alloc (by have := hUb.size;simp;omega) _
      have bsrc : Box U2 (U.heap.size) #[.string ⟨#[65]⟩, .slice (some ⟨w.heap.size + 1, 0, none⟩) 1 1, .string ⟨#[65]⟩, .slice (some ⟨w.heap.size + 1, 0, none⟩) 1 1] 42 := by rw [hU2e];repeat (first|(with_reducible assumption)|(with_reducible refine boxN ?_;simp;done)|(with_reducible refine Box.old ?_)|(with_reducible refine Box.drew ?_)|(with_reducible refine Box.later ?_ (by with_reducible assumption)))
      have own0 : U2.ownsRow wC.heap.size 42 2 (.slice (some ⟨U.heap.size + 1, 0, none⟩) 0 0) 0 [] := by
        have bx : Box U2 (U.heap.size + 1) #[] 42 := by rw [hU2e];repeat (first|(with_reducible assumption)|(with_reducible refine boxN ?_;simp;done)|(with_reducible refine Box.old ?_)|(with_reducible refine Box.drew ?_)|(with_reducible refine Box.later ?_ (by with_reducible assumption)))
        exact ⟨rfl, .inr ⟨U.heap.size + 1, 0, #[], rfl, by have := hUb.size;omega, bx, Nat.le_refl _, Nat.zero_le _, by simp, by simp⟩⟩
      rw [← hU2e]
      refine hK _ _ ⟨.inr (hS10 _ hU2), ?_⟩
      clear hK K hU2e
      (try simp only [Act.put, List.setIfInBounds_toArray, List.set_cons_zero, List.set_cons_succ])
      (refine wpAnyM_all (rs := [10]) (by kernel_rfl) (by simp) (List.forall_mem_cons.2 ⟨?_, (fun _ h => by cases h)⟩);refine wpOp_step rfl (fun K hK => ?_))
      refine OW.step_append_at rfl (.tmp 36) (.tmp 45) 23 (by rfl) wC.heap.size 42 i2 _ 2 40 Tryz.underlying23 hi2 hy0 hy1 hy2 rfl (by decide) (.slice (some ⟨U.heap.size + 1, 0, none⟩) 0 0) 0 [] (by rfl) own0 ⟨U.heap.size, 0, none⟩ 2 2 #[.string ⟨#[65]⟩, .slice (some ⟨w.heap.size + 1, 0, none⟩) 1 1, .string ⟨#[65]⟩, .slice (some ⟨w.heap.size + 1, 0, none⟩) 1 1].toList (by rfl) rfl (news2 bsrc) (by intro u hu;simp only [List.mem_cons, List.not_mem_nil, or_false] at hu;rcases hu with rfl|rfl|rfl|rfl <;> rfl) (by decide) (by decide) hU2.size ?_
      intro q8 c8 U3 ho8 hg8 hx8
      have hU3 : Below wC.heap.size wC U3 := hU2.grown hg8 hU2.size (fun j hj => by cases hj;have := hUb.size;show _ ≤ U.heap.size + 1;omega)
      refine hK _ _ ⟨.inr (hS10 _ hU3), ?_⟩
      clear hK K
      (try simp only [Act.put, List.setIfInBounds_toArray])
      have hSU3 := hS10 _ hU3
      (refine wpAnyM_take (i := 11) (v := ?vk36111) rfl (by kernel_rfl) (by kernel_rfl) (by kernel_rfl) [] (by kernel_rfl) (by kernel_rfl) (fun _ _ _ h => h) (Or.inl ⟨by rfl, ?yk36111⟩) hSU3 ?rk36111;(case yk36111 => (intro w hSw;(try dsimp only at hSw);go_simp;(try with_reducible rfl)));(try simp only [Act.put]))
      have bX := g8.later hU3
      have cX := bX.cell
      have fX := bX.free
      (refine wpAnyM_all (rs := [12]) (by kernel_rfl) (by simp) (List.forall_mem_cons.2 ⟨?_, (fun _ h => by cases h)⟩);refine wpOp_step rfl (fun K hK => ?_))
      go_simp
      refine hK _ _ ⟨.inl rfl, ?_⟩
      clear hK K
      refine wpAnyM_done (by kernel_rfl) (NoPanic.normal ?_) _
      go_wp2
      go_meet
      exact ⟨q8, 0 + 2, c8, RCk.solo_set (CkW.far_lat (BkN.Far.refl _ _ _) hU3), bX.set (j := 1), Lib.hid (HoldsG.of_own (k := 2) (f := ZoneV.cells) (l := [zA (.slice (some ⟨w.heap.size + 1, 0, none⟩) 1 1), zA (.slice (some ⟨w.heap.size + 1, 0, none⟩) 1 1)]) (fun _ => rfl) (RCk.own_solo ho8 (RCk.solo_self _ _ _ _) s8)), rfl⟩
  case rest =>
    obtain ⟨q8, m8, c8, hso, HG8, HZ8, hm8⟩ := hcut
    subst hm8
    have nr8 : r ≠ s + 1 + 1 + 1 + 1 + 1 + 1 + 1 := by omega
    have jEu := hso.box hEu nr8 nr8
    have jE := hso.box hE (by omega) (by omega)
    have jZ := hso.box hZ (by omega) (by omega)
    have jT2 := hso.box hT2 (by omega) (by omega)
    have jR4 := hso.box hR4 (by omega) (by omega)
    have jR5 := hso.box hR5 (by omega) (by omega)
    have jW3 := hso.box hW3 (by omega) (by omega)
    have jT4 := hso.box hT4 (by omega) (by omega)
    have j1 := hso.box g1 (by omega) (by omega)
    have j2 := hso.box g2 (by omega) (by omega)
    have j3 := hso.box g3 (by omega) (by omega)
    have j4 := hso.box g4 (by omega) (by omega)
    have j5 := hso.box g5 (by omega) (by omega)
    have j6 := hso.box g6 (by omega) (by omega)
    have j7 := hso.box g7 (by omega) (by omega)
    have hwc : Below w.heap.size w wc := CkW.solo_below hwC hso (by omega) hwC.size
    have cT4 := jT4.cell
    have sT4 := jT4.lt
    clear hEu hE hZ hT2 hR4 hR5 hW3 hT4 g1 g2 g3 g4 g5 g6 g7 g8 hso hwC s8 hS10
    go_upto_region 12 with fail
    obtain ⟨wD, hD⟩ : ∃ wD, wD = wc.alloc (.cells #[.slice (some ⟨r, 0, none⟩) 1 1, .slice (some ⟨w.heap.size + 1 + 1, 0, none⟩) 1 1, .slice none 0 0] 26) := ⟨_, rfl⟩
    rw [← hD]
    obtain ⟨t9, ht9⟩ : ∃ t, t = wc.heap.size := ⟨_, rfl⟩
    have hb9 : Below wc.heap.size wc wD := by rw [hD];repeat (first|(with_reducible exact Below.refl _ _)|(with_reducible assumption)|(with_reducible refine ba ?_)|(with_reducible refine bd ?_)|(with_reducible refine bdn ?_ _)|(with_reducible refine bset ?_ (by first|exact Nat.le_refl _|omega|(simp;done)|(simp;omega)))|(with_reducible refine bt ?_ (by with_reducible assumption)))
    have l9 : Box wD t9 #[.slice (some ⟨r, 0, none⟩) 1 1, .slice (some ⟨w.heap.size + 1 + 1, 0, none⟩) 1 1, .slice none 0 0] 26 := by rw [hD, ht9];exact Box.new _ _ _
    rw [← ht9]
    have n9 : ∀ {b : Nat} {cs : Array Value} {t : TypeId}, Box wc b cs t → b ≠ t9 := fun h e => by have := h.lt;omega
    have k9 : ∀ {b : Nat} {cs : Array Value} {t : TypeId}, Box wc b cs t → Box wD b cs t := fun h => h.later hb9
    have s9 := l9.lt
    have hwD : Below w.heap.size w wD := hwc.trans (hb9.mono hwc.size)
    have HZD := Lib.hid (HZ8.out.later hb9)
    have lEu := k9 jEu
    have lT4 := k9 jT4
    have hwt : w.heap.size ≤ t9 := by rw [ht9];exact hwc.size
    have hE9 : ∀ U, CkW.Solo wD U t9 → Below wc.heap.size wc U := fun U hU => CkW.solo_below hb9 hU (Nat.le_of_eq ht9.symm) hb9.size
    have hW9 : ∀ U, CkW.Solo wD U t9 → Below w.heap.size w U := fun U hU => hwc.trans ((hE9 U hU).mono hwc.size)
    have HE9 := Lib.hid hE9;have HW9 := Lib.hid hW9
    have HT9 := Lib.hid ht9
    clear hE9 hW9
    clear cT4 sT4 hD ht9
    have hS12 : ∀ U, Below wD.heap.size wD U → U.cell? ⟨w.heap.size + 1 + 1 + 1 + 1 + 1 + 1 + 1, 0, none⟩ = some (.slice (some ⟨r, 0, none⟩) 1 1) ∧ U.cell? ⟨r, 0, none⟩ = some (.string ⟨#[69, 85]⟩) ∧ U.cell? ⟨r, 1, none⟩ = some (.int .i64 1981) ∧ U.cell? ⟨r, 2, none⟩ = some (.int .i64 32767) ∧ U.cell? ⟨r, 3, none⟩ = some (.int .i64 3) ∧ U.cell? ⟨r, 4, none⟩ = some (.int .i64 1) ∧ U.cell? ⟨r, 5, none⟩ = some (.int .i64 0) ∧ U.cell? ⟨r, 6, none⟩ = some (.int .i64 0) ∧ U.cell? ⟨r, 7, none⟩ = some (.int .i64 3600) ∧ U.cell? ⟨r, 8, none⟩ = some (.int .i64 2) ∧ U.cell? ⟨r, 9, none⟩ = some (.int .i64 3600) ∧ U.cell? ⟨r, 10, none⟩ = some (.string ⟨#[83]⟩) := fun U hU => ⟨(lT4.later hU).cell 0, (lEu.later hU).cell 0, (lEu.later hU).cell 1, (lEu.later hU).cell 2, (lEu.later hU).cell 3, (lEu.later hU).cell 4, (lEu.later hU).cell 5, (lEu.later hU).cell 6, (lEu.later hU).cell 7, (lEu.later hU).cell 8, (lEu.later hU).cell 9, (lEu.later hU).cell 10⟩
    go_cut [] from 49 to 60 (fun wx => ∃ (q8 : Option Addr) (m9 c8 : Nat), CkW.Solo wD wx t9 ∧ Hid (Box wx t9 #[.slice q8 m9 c8, .slice (some ⟨w.heap.size + 1 + 1, 0, none⟩) 1 1, .slice none 0 0] 26) ∧ Hid (Holds wx (.slice q8 m9 c8) [Us.eu, Us.eu]) ∧ m9 = 2)
    case first =>
      refine wp_region_noPanic ?_
      refine wp_region_heldM (fun U => U.cell? ⟨w.heap.size + 1 + 1 + 1 + 1 + 1 + 1 + 1, 0, none⟩ = some (.slice (some ⟨r, 0, none⟩) 1 1) ∧ U.cell? ⟨r, 0, none⟩ = some (.string ⟨#[69, 85]⟩) ∧ U.cell? ⟨r, 1, none⟩ = some (.int .i64 1981) ∧ U.cell? ⟨r, 2, none⟩ = some (.int .i64 32767) ∧ U.cell? ⟨r, 3, none⟩ = some (.int .i64 3) ∧ U.cell? ⟨r, 4, none⟩ = some (.int .i64 1) ∧ U.cell? ⟨r, 5, none⟩ = some (.int .i64 0) ∧ U.cell? ⟨r, 6, none⟩ = some (.int .i64 0) ∧ U.cell? ⟨r, 7, none⟩ = some (.int .i64 3600) ∧ U.cell? ⟨r, 8, none⟩ = some (.int .i64 2) ∧ U.cell? ⟨r, 9, none⟩ = some (.int .i64 3600) ∧ U.cell? ⟨r, 10, none⟩ = some (.string ⟨#[83]⟩)) 12 (by kernel_rfl) (hS12 _ (Below.refl _ _).drew) ?_
      intro U hU hSU
      have hUb : Below wD.heap.size wD U := by rw [hU];exact (Below.refl _ _).drew
      clear hU
      (refine wpAnyM_take (i := 1) (v := ?vk491) rfl (by kernel_rfl) (by kernel_rfl) (by kernel_rfl) [] (by kernel_rfl) (by kernel_rfl) (fun _ _ _ h => h) (Or.inl ⟨by rfl, ?yk491⟩) hSU ?rk491;(case yk491 => (intro w hSw;(try dsimp only at hSw);go_simp;(try with_reducible rfl)));(try simp only [Act.put, List.setIfInBounds_toArray]))
      (refine wpAnyM_take (i := 2) (v := ?vk492) rfl (by kernel_rfl) (by kernel_rfl) (by kernel_rfl) [] (by kernel_rfl) (by kernel_rfl) (fun _ _ _ h => h) (Or.inl ⟨by rfl, ?yk492⟩) hSU ?rk492;(case yk492 => (intro w hSw;(try dsimp only at hSw);go_simp;(try with_reducible rfl)));(try simp only [Act.put]))
      (refine wpAnyM_take (i := 3) (v := ?vk493) rfl (by kernel_rfl) (by kernel_rfl) (by kernel_rfl) [] (by kernel_rfl) (by kernel_rfl) (fun _ _ _ h => h) (Or.inl ⟨by rfl, ?yk493⟩) hSU ?rk493;(case yk493 => (intro w hSw;(try dsimp only at hSw);go_simp;(try with_reducible rfl)));(try simp only [Act.put]))
      (refine wpAnyM_take (i := 4) (v := ?vk494) rfl (by kernel_rfl) (by kernel_rfl) (by kernel_rfl) [] (by kernel_rfl) (by kernel_rfl) (fun _ _ _ h => h) (Or.inl ⟨by rfl, ?yk494⟩) hSU ?rk494;(case yk494 => (intro w hSw;(try dsimp only at hSw);go_simp;(try with_reducible rfl)));(try simp only [Act.put]))
      (refine wpAnyM_take (i := 5) (v := ?vk495) rfl (by kernel_rfl) (by kernel_rfl) (by kernel_rfl) [] (by kernel_rfl) (by kernel_rfl) (fun _ _ _ h => h) (Or.inl ⟨by rfl, ?yk495⟩) hSU ?rk495;(case yk495 => (intro w hSw;(try dsimp only at hSw);go_simp;(try with_reducible rfl)));(try simp only [Act.put]))
      (refine wpAnyM_take (i := 6) (v := ?vk496) rfl (by kernel_rfl) (by kernel_rfl) (by kernel_rfl) [] (by kernel_rfl) (by kernel_rfl) (fun _ _ _ h => h) (Or.inl ⟨by rfl, ?yk496⟩) hSU ?rk496;(case yk496 => (intro w hSw;(try dsimp only at hSw);go_simp;(try with_reducible rfl)));(try simp only [Act.put]))
      (refine wpAnyM_take (i := 7) (v := ?vk497) rfl (by kernel_rfl) (by kernel_rfl) (by kernel_rfl) [] (by kernel_rfl) (by kernel_rfl) (fun _ _ _ h => h) (Or.inl ⟨by rfl, ?yk497⟩) hSU ?rk497;(case yk497 => (intro w hSw;(try dsimp only at hSw);go_simp;(try with_reducible rfl)));(try simp only [Act.put]))
      (refine wpAnyM_take (i := 8) (v := ?vk498) rfl (by kernel_rfl) (by kernel_rfl) (by kernel_rfl) [] (by kernel_rfl) (by kernel_rfl) (fun _ _ _ h => h) (Or.inl ⟨by rfl, ?yk498⟩) hSU ?rk498;(case yk498 => (intro w hSw;(try dsimp only at hSw);go_simp;(try with_reducible rfl)));(try simp only [Act.put]))
      refine wpAnyM_all (rs := [0, 9]) (by kernel_rfl) (by simp) (List.forall_mem_cons.2 ⟨?_, (List.forall_mem_cons.2 ⟨?_, (fun _ h => by cases h)⟩)⟩)
      ·
        refine wpOp_step rfl (fun K hK => ?_)
        go_simp
        have hU1 : Below wD.heap.size wD (U.alloc (.cells #[] 63)) := hUb.alloc hUb.size _
        refine hK _ _ ⟨.inr (hS12 _ hU1), ?_⟩
        clear hK K
        (try simp only [Act.put, List.setIfInBounds_toArray, List.set_cons_zero, List.set_cons_succ])
        (refine wpAnyM_all (rs := [9]) (by kernel_rfl) (by simp) (List.forall_mem_cons.2 ⟨?_, (fun _ h => by cases h)⟩);refine wpOp_step rfl (fun K hK => ?_))
        go_simp
        obtain ⟨U2, hU2e⟩ : ∃ U2, U2 = (U.alloc (.cells #[] 63)).alloc (.cells #[.string ⟨#[69, 85]⟩, .int .i64 1981, .int .i64 32767, .int .i64 3, .int .i64 1, .int .i64 0, .int .i64 0, .int .i64 3600, .int .i64 2, .int .i64 3600, .string ⟨#[83]⟩, .string ⟨#[69, 85]⟩, .int .i64 1981, .int .i64 32767, .int .i64 3, .int .i64 1, .int .i64 0, .int .i64 0, .int .i64 3600, .int .i64 2, .int .i64 3600, .string ⟨#[83]⟩] 63) := ⟨_, rfl⟩
        have hU2 : Below wD.heap.size wD U2 := by rw [hU2e];exact hU1.alloc (by have := hUb.size;simp;omega) _
        have bsrc : Box U2 (U.heap.size + 1) #[.string ⟨#[69, 85]⟩, .int .i64 1981, .int .i64 32767, .int .i64 3, .int .i64 1, .int .i64 0, .int .i64 0, .int .i64 3600, .int .i64 2, .int .i64 3600, .string ⟨#[83]⟩, .string ⟨#[69, 85]⟩, .int .i64 1981, .int .i64 32767, .int .i64 3, .int .i64 1, .int .i64 0, .int .i64 0, .int .i64 3600, .int .i64 2, .int .i64 3600, .string ⟨#[83]⟩] 63 := by rw [hU2e];repeat (first|(with_reducible assumption)|(with_reducible refine boxN ?_;simp;done)|(with_reducible refine Box.old ?_)|(with_reducible refine Box.drew ?_)|(with_reducible refine Box.later ?_ (by with_reducible assumption)))
        have own0 : U2.ownsRow wD.heap.size 63 11 (.slice (some ⟨U.heap.size, 0, none⟩) 0 0) 0 [] := by
          have bx : Box U2 (U.heap.size) #[] 63 := by rw [hU2e];repeat (first|(with_reducible assumption)|(with_reducible refine boxN ?_;simp;done)|(with_reducible refine Box.old ?_)|(with_reducible refine Box.drew ?_)|(with_reducible refine Box.later ?_ (by with_reducible assumption)))
          exact ⟨rfl, .inr ⟨U.heap.size, 0, #[], rfl, by have := hUb.size;omega, bx, Nat.le_refl _, Nat.zero_le _, by simp, by simp⟩⟩
        rw [← hU2e]
        refine hK _ _ ⟨.inr (hS12 _ hU2), ?_⟩
        clear hK K hU2e
        (try simp only [Act.put, List.setIfInBounds_toArray, List.set_cons_zero, List.set_cons_succ])
        (refine wpAnyM_all (rs := [10]) (by kernel_rfl) (by simp) (List.forall_mem_cons.2 ⟨?_, (fun _ h => by cases h)⟩);refine wpOp_step rfl (fun K hK => ?_))
        refine OW.step_append_at rfl (.tmp 49) (.tmp 58) 22 (by rfl) wD.heap.size 63 i1 _ 11 104 Tryz.underlying22 hi1 hz0 hz1 hz2 rfl (by decide) (.slice (some ⟨U.heap.size, 0, none⟩) 0 0) 0 [] (by rfl) own0 ⟨U.heap.size + 1, 0, none⟩ 2 2 #[.string ⟨#[69, 85]⟩, .int .i64 1981, .int .i64 32767, .int .i64 3, .int .i64 1, .int .i64 0, .int .i64 0, .int .i64 3600, .int .i64 2, .int .i64 3600, .string ⟨#[83]⟩, .string ⟨#[69, 85]⟩, .int .i64 1981, .int .i64 32767, .int .i64 3, .int .i64 1, .int .i64 0, .int .i64 0, .int .i64 3600, .int .i64 2, .int .i64 3600, .string ⟨#[83]⟩].toList (by rfl) rfl (news2 bsrc) (by intro u hu;simp only [List.mem_cons, List.not_mem_nil, or_false] at hu;rcases hu with rfl|rfl|rfl|rfl|rfl|rfl|rfl|rfl|rfl|rfl|rfl|rfl|rfl|rfl|rfl|rfl|rfl|rfl|rfl|rfl|rfl|rfl <;> rfl) (by decide) (by decide) hU2.size ?_
        intro q8 c8 U3 ho8 hg8 hx8
        have hU3 : Below wD.heap.size wD U3 := hU2.grown hg8 hU2.size (fun j hj => by cases hj;have := hUb.size;show _ ≤ U.heap.size;omega)
        refine hK _ _ ⟨.inr (hS12 _ hU3), ?_⟩
        clear hK K
        (try simp only [Act.put, List.setIfInBounds_toArray])
        have hSU3 := hS12 _ hU3
        (refine wpAnyM_take (i := 11) (v := ?vk49011) rfl (by kernel_rfl) (by kernel_rfl) (by kernel_rfl) [] (by kernel_rfl) (by kernel_rfl) (fun _ _ _ h => h) (Or.inl ⟨by rfl, ?yk49011⟩) hSU3 ?rk49011;(case yk49011 => (intro w hSw;(try dsimp only at hSw);go_simp;(try with_reducible rfl)));(try simp only [Act.put]))
        have bX := l9.later hU3
        have cX := bX.cell
        have fX := bX.free
        (refine wpAnyM_all (rs := [12]) (by kernel_rfl) (by simp) (List.forall_mem_cons.2 ⟨?_, (fun _ h => by cases h)⟩);refine wpOp_step rfl (fun K hK => ?_))
        go_simp
        refine hK _ _ ⟨.inl rfl, ?_⟩
        clear hK K
        refine wpAnyM_done (by kernel_rfl) (NoPanic.normal ?_) _
        go_wp2
        go_meet
        have hG := HoldsG.of_own (k := 11) (f := RuleV.cells) (l := [Us.eu, Us.eu]) (fun _ => rfl) (RCk.own_solo ho8 (RCk.solo_self U3 t9 0 (.slice q8 (0 + 2) c8)) s9)
        exact ⟨q8, 0 + 2, c8, RCk.solo_set (CkW.far_lat (BkN.Far.refl _ _ _) hU3), bX.set (j := 0), Lib.hid ⟨hG.lies, fit_eu2, by decide⟩, rfl⟩
      ·
        refine wpOp_step rfl (fun K hK => ?_)
        go_simp
        have hU1 : Below wD.heap.size wD (U.alloc (.cells #[.string ⟨#[69, 85]⟩, .int .i64 1981, .int .i64 32767, .int .i64 3, .int .i64 1, .int .i64 0, .int .i64 0, .int .i64 3600, .int .i64 2, .int .i64 3600, .string ⟨#[83]⟩, .string ⟨#[69, 85]⟩, .int .i64 1981, .int .i64 32767, .int .i64 3, .int .i64 1, .int .i64 0, .int .i64 0, .int .i64 3600, .int .i64 2, .int .i64 3600, .string ⟨#[83]⟩] 63)) := hUb.alloc hUb.size _
        refine hK _ _ ⟨.inr (hS12 _ hU1), ?_⟩
        clear hK K
        (try simp only [Act.put, List.setIfInBounds_toArray, List.set_cons_zero, List.set_cons_succ])
        (refine wpAnyM_all (rs := [0]) (by kernel_rfl) (by simp) (List.forall_mem_cons.2 ⟨?_, (fun _ h => by cases h)⟩);refine wpOp_step rfl (fun K hK => ?_))
        go_simp
        obtain ⟨U2, hU2e⟩ : ∃ U2, U2 = (U.alloc (.cells #[.string ⟨#[69, 85]⟩, .int .i64 1981, .int .i64 32767, .int .i64 3, .int .i64 1, .int .i64 0, .int .i64 0, .int .i64 3600, .int .i64 2, .int .i64 3600, .string ⟨#[83]⟩, .string ⟨#[69, 85]⟩, .int .i64 1981, .int .i64 32767, .int .i64 3, .int .i64 1, .int .i64 0, .int .i64 0, .int .i64 3600, .int .i64 2, .int .i64 3600, .string ⟨#[83]⟩] 63)).alloc (.cells #[] 63) := ⟨_, rfl⟩
        have hU2 : Below wD.heap.size wD U2 := by rw [hU2e];exact hU1.alloc (by have := hUb.size;simp;omega) _
        have bsrc : Box U2 (U.heap.size) #[.string ⟨#[69, 85]⟩, .int .i64 1981, .int .i64 32767, .int .i64 3, .int .i64 1, .int .i64 0, .int .i64 0, .int .i64 3600, .int .i64 2, .int .i64 3600, .string ⟨#[83]⟩, .string ⟨#[69, 85]⟩, .int .i64 1981, .int .i64 32767, .int .i64 3, .int .i64 1, .int .i64 0, .int .i64 0, .int .i64 3600, .int .i64 2, .int .i64 3600, .string ⟨#[83]⟩] 63 := by rw [hU2e];repeat (first|(with_reducible assumption)|(with_reducible refine boxN ?_;simp;done)|(with_reducible refine Box.old ?_)|(with_reducible refine Box.drew ?_)|(with_reducible refine Box.later ?_ (by with_reducible assumption)))
        have own0 : U2.ownsRow wD.heap.size 63 11 (.slice (some ⟨U.heap.size + 1, 0, none⟩) 0 0) 0 [] := by
          have bx : Box U2 (U.heap.size + 1) #[] 63 := by rw [hU2e];repeat (first|(with_reducible assumption)|(with_reducible refine boxN ?_;simp;done)|(with_reducible refine Box.old ?_)|(with_reducible refine Box.drew ?_)|(with_reducible refine Box.later ?_ (by with_reducible assumption)))
          exact ⟨rfl, .inr ⟨U.heap.size + 1, 0, #[], rfl, by have := hUb.size;omega, bx, Nat.le_refl _, Nat.zero_le _, by simp, by simp⟩⟩
        rw [← hU2e]
        refine hK _ _ ⟨.inr (hS12 _ hU2), ?_⟩
        clear hK K hU2e
        (try simp only [Act.put, List.setIfInBounds_toArray, List.set_cons_zero, List.set_cons_succ])
        (refine wpAnyM_all (rs := [10]) (by kernel_rfl) (by simp) (List.forall_mem_cons.2 ⟨?_, (fun _ h => by cases h)⟩);refine wpOp_step rfl (fun K hK => ?_))
        refine OW.step_append_at rfl (.tmp 49) (.tmp 58) 22 (by rfl) wD.heap.size 63 i1 _ 11 104 Tryz.underlying22 hi1 hz0 hz1 hz2 rfl (by decide) (.slice (some ⟨U.heap.size + 1, 0, none⟩) 0 0) 0 [] (by rfl) own0 ⟨U.heap.size, 0, none⟩ 2 2 #[.string ⟨#[69, 85]⟩, .int .i64 1981, .int .i64 32767, .int .i64 3, .int .i64 1, .int .i64 0, .int .i64 0, .int .i64 3600, .int .i64 2, .int .i64 3600, .string ⟨#[83]⟩, .string ⟨#[69, 85]⟩, .int .i64 1981, .int .i64 32767, .int .i64 3, .int .i64 1, .int .i64 0, .int .i64 0, .int .i64 3600, .int .i64 2, .int .i64 3600, .string ⟨#[83]⟩].toList (by rfl) rfl (news2 bsrc) (by intro u hu;simp only [List.mem_cons, List.not_mem_nil, or_false] at hu;rcases hu with rfl|rfl|rfl|rfl|rfl|rfl|rfl|rfl|rfl|rfl|rfl|rfl|rfl|rfl|rfl|rfl|rfl|rfl|rfl|rfl|rfl|rfl <;> rfl) (by decide) (by decide) hU2.size ?_
        intro q8 c8 U3 ho8 hg8 hx8
        have hU3 : Below wD.heap.size wD U3 := hU2.grown hg8 hU2.size (fun j hj => by cases hj;have := hUb.size;show _ ≤ U.heap.size + 1;omega)
        refine hK _ _ ⟨.inr (hS12 _ hU3), ?_⟩
        clear hK K
        (try simp only [Act.put, List.setIfInBounds_toArray])
        have hSU3 := hS12 _ hU3
        (refine wpAnyM_take (i := 11) (v := ?vk49111) rfl (by kernel_rfl) (by kernel_rfl) (by kernel_rfl) [] (by kernel_rfl) (by kernel_rfl) (fun _ _ _ h => h) (Or.inl ⟨by rfl, ?yk49111⟩) hSU3 ?rk49111;(case yk49111 => (intro w hSw;(try dsimp only at hSw);go_simp;(try with_reducible rfl)));(try simp only [Act.put]))
        have bX := l9.later hU3
        have cX := bX.cell
        have fX := bX.free
        (refine wpAnyM_all (rs := [12]) (by kernel_rfl) (by simp) (List.forall_mem_cons.2 ⟨?_, (fun _ h => by cases h)⟩);refine wpOp_step rfl (fun K hK => ?_))
        go_simp
        refine hK _ _ ⟨.inl rfl, ?_⟩
        clear hK K
        refine wpAnyM_done (by kernel_rfl) (NoPanic.normal ?_) _
        go_wp2
        go_meet
        have hG := HoldsG.of_own (k := 11) (f := RuleV.cells) (l := [Us.eu, Us.eu]) (fun _ => rfl) (RCk.own_solo ho8 (RCk.solo_self U3 t9 0 (.slice q8 (0 + 2) c8)) s9)
        exact ⟨q8, 0 + 2, c8, RCk.solo_set (CkW.far_lat (BkN.Far.refl _ _ _) hU3), bX.set (j := 0), Lib.hid ⟨hG.lies, fit_eu2, by decide⟩, rfl⟩
    case rest =>
      obtain ⟨q9, m9, c9, hso9, HG9, HR9, hm9⟩ := hcut
      subst hm9
      have hbE := HE9.out _ hso9
      have hwE := HW9.out _ hso9
      have bE := jE.later hbE
      have bZ := jZ.later hbE
      have bEu := jEu.later hbE
      have b2 := jT2.later hbE
      have b4 := jT4.later hbE
      have b6 := j6.later hbE
      have b7 := j7.later hbE
      have b8 := HG8.out.later hbE
      have b9 := HG9.out
      have bw3 := jW3.later hbE
      have bw5 := j4.later hbE
      have zfit : HoldsE wc (.slice (some ⟨w.heap.size + 1, 0, none⟩) 1 1) [e0] := era_h bE
      have T2 := Lib.hid (tabA (nilH wc) (zone_h (c := 1) bZ) (by intro z hz;simp only [List.mem_singleton] at hz;subst hz;exact ⟨zfit, show sA.size ≤ 9 by decide⟩))
      have T4 := Lib.hid (tabA (eu_h (c := 1) bEu) (zone_h (c := 1) bZ) (by intro z hz;simp only [List.mem_singleton] at hz;subst hz;exact ⟨zfit, show sA.size ≤ 9 by decide⟩))
      have T6 := Lib.hid (tabL (links_h (c := 2) (j5.later hbE)) fitL)
      have T7 := Lib.hid (tabL (link_h (c := 2) (j5.later hbE)) fitM)
      have T8 := Lib.hid (tabA (eu_h (c := 1) bEu) (HZ8.out.later hbE) (by intro z hz;simp only [List.mem_cons, List.not_mem_nil, or_false, or_self] at hz;subst hz;exact ⟨zfit, show sA.size ≤ 9 by decide⟩))
      have T9 := Lib.hid (tabA HR9.out (zone_h (c := 1) bZ) (by intro z hz;simp only [List.mem_singleton] at hz;subst hz;exact ⟨zfit, show sA.size ≤ 9 by decide⟩))
      have W3 := Lib.hid (whN (nilI wc) (ev1 (c := 1) (ns := [1]) (jR5.later hbE)) (by intro y hy;simp only [List.mem_singleton] at hy;subst hy;exact row1 (c := 1) (jR4.later hbE) (by unfold I64;omega)) (nilI wc))
      have W5 := Lib.hid (whN (row1 (c := 1) (j1.later hbE) (by unfold I64;omega)) (ev1 (c := 1) (ns := [1]) (j3.later hbE)) (by intro y hy;simp only [List.mem_singleton] at hy;subst hy;exact row1 (c := 1) (j2.later hbE) (by unfold I64;omega)) (nilI wc))
      have HTAB := Lib.hid (ht.later hwE)
      have B2 := Lib.hid b2;have B4 := Lib.hid b4;have B6 := Lib.hid b6;have B7 := Lib.hid b7;have B8 := Lib.hid b8;have B9 := Lib.hid b9;have BW3 := Lib.hid bw3;have BW5 := Lib.hid bw5
      have HWE := Lib.hid hwE
      clear hbE hwE bE bZ bEu b2 b4 b6 b7 b8 b9 bw3 bw5 zfit jE jZ jEu jT2 jT4 jR4 jR5 jW3 j1 j2 j3 j4 j5 j6 j7 lEu lT4 l9 hS12 hso9 k9 n9 hi1 hz0 hz1 hz2 hi2 hy0 hy1 hy2 hb9 hwD hwc hwA
      have hx0 : Below wc.heap.size wc wc := Below.refl _ _
      have cT21 := (B2.out.later hx0).cell
      have lT21 := (B2.out.later hx0).lt
      have cW31 := (BW3.out.later hx0).cell
      have lW31 := (BW3.out.later hx0).lt
      go_wp2_with (first|fail)
      refine (checkC (t := ⟨.slice none 0 0, .slice (some ⟨w.heap.size + 1 + 1, 0, none⟩) 1 1, .slice none 0 0, [], [zA (.slice (some ⟨w.heap.size + 1, 0, none⟩) 1 1)], []⟩) (x := ⟨.slice none 0 0, .slice (some ⟨w.heap.size + 1 + 1 + 1 + 1 + 1, 0, none⟩) 1 1, .slice none 0 0, [], [⟨.slice (some ⟨w.heap.size + 1 + 1 + 1 + 1, 0, none⟩) 1 1, [1]⟩], []⟩) (HTAB.out.later (by repeat (first|(with_reducible exact Below.refl _ _)|(with_reducible assumption)|(with_reducible refine ba ?_)|(with_reducible refine bd ?_)|(with_reducible refine bdn ?_ _)|(with_reducible refine bset ?_ (by first|exact Nat.le_refl _|omega|(simp;done)|(simp;omega)))|(with_reducible refine bt ?_ (by with_reducible assumption))))) (T2.out.later (by repeat (first|(with_reducible exact Below.refl _ _)|(with_reducible assumption)|(with_reducible refine ba ?_)|(with_reducible refine bd ?_)|(with_reducible refine bdn ?_ _)|(with_reducible refine bset ?_ (by first|exact Nat.le_refl _|omega|(simp;done)|(simp;omega)))|(with_reducible refine bt ?_ (by with_reducible assumption))))) (W3.out.later (by repeat (first|(with_reducible exact Below.refl _ _)|(with_reducible assumption)|(with_reducible refine ba ?_)|(with_reducible refine bd ?_)|(with_reducible refine bdn ?_ _)|(with_reducible refine bset ?_ (by first|exact Nat.le_refl _|omega|(simp;done)|(simp;omega)))|(with_reducible refine bt ?_ (by with_reducible assumption))))) (by simp) (by simp) (by intro z hz;simp only [List.mem_cons, List.not_mem_nil, or_false] at hz;subst hz;exact Nat.le_refl _) (by simp) (by simp) (by simp) (by intro y hy;simp only [List.mem_singleton] at hy;subst hy;exact Nat.le_refl _) 1 12 (k1 _)).mono ?_
      rintro e x1 ⟨rfl, hy1⟩
      have hx1 : Below wc.heap.size wc x1 := by repeat (first|(with_reducible exact Below.refl _ _)|(with_reducible assumption)|(with_reducible refine ba ?_)|(with_reducible refine bd ?_)|(with_reducible refine bdn ?_ _)|(with_reducible refine bset ?_ (by first|exact Nat.le_refl _|omega|(simp;done)|(simp;omega)))|(with_reducible refine bt ?_ (by with_reducible assumption)))
      clear hy1 hx0
      clear cT21 lT21
      clear cW31 lW31
      have cT42 := (B4.out.later hx1).cell
      have lT42 := (B4.out.later hx1).lt
      have cW52 := (BW5.out.later hx1).cell
      have lW52 := (BW5.out.later hx1).lt
      go_wp2_with (first|fail)
      refine (checkC (t := ⟨.slice (some ⟨r, 0, none⟩) 1 1, .slice (some ⟨w.heap.size + 1 + 1, 0, none⟩) 1 1, .slice none 0 0, [Us.eu], [zA (.slice (some ⟨w.heap.size + 1, 0, none⟩) 1 1)], []⟩) (x := ⟨.slice (some ⟨s, 0, none⟩) 1 1, .slice (some ⟨s + 1 + 1, 0, none⟩) 1 1, .slice none 0 0, [2], [⟨.slice (some ⟨s + 1, 0, none⟩) 1 1, [1]⟩], []⟩) (HTAB.out.later (by repeat (first|(with_reducible exact Below.refl _ _)|(with_reducible assumption)|(with_reducible refine ba ?_)|(with_reducible refine bd ?_)|(with_reducible refine bdn ?_ _)|(with_reducible refine bset ?_ (by first|exact Nat.le_refl _|omega|(simp;done)|(simp;omega)))|(with_reducible refine bt ?_ (by with_reducible assumption))))) (T4.out.later (by repeat (first|(with_reducible exact Below.refl _ _)|(with_reducible assumption)|(with_reducible refine ba ?_)|(with_reducible refine bd ?_)|(with_reducible refine bdn ?_ _)|(with_reducible refine bset ?_ (by first|exact Nat.le_refl _|omega|(simp;done)|(simp;omega)))|(with_reducible refine bt ?_ (by with_reducible assumption))))) (W5.out.later (by repeat (first|(with_reducible exact Below.refl _ _)|(with_reducible assumption)|(with_reducible refine ba ?_)|(with_reducible refine bd ?_)|(with_reducible refine bdn ?_ _)|(with_reducible refine bset ?_ (by first|exact Nat.le_refl _|omega|(simp;done)|(simp;omega)))|(with_reducible refine bt ?_ (by with_reducible assumption))))) (by simp) (by simp) (by intro z hz;simp only [List.mem_cons, List.not_mem_nil, or_false] at hz;subst hz;exact Nat.le_refl _) (by simp) (by simp) (by simp) (by intro y hy;simp only [List.mem_singleton] at hy;subst hy;exact Nat.le_refl _) 0 0 (k2 _)).mono ?_
      rintro e x2 ⟨rfl, hy2⟩
      have hx2 : Below wc.heap.size wc x2 := by repeat (first|(with_reducible exact Below.refl _ _)|(with_reducible assumption)|(with_reducible refine ba ?_)|(with_reducible refine bd ?_)|(with_reducible refine bdn ?_ _)|(with_reducible refine bset ?_ (by first|exact Nat.le_refl _|omega|(simp;done)|(simp;omega)))|(with_reducible refine bt ?_ (by with_reducible assumption)))
      clear hy2 hx1
      clear cT42 lT42
      clear cW52 lW52
      have cT63 := (B6.out.later hx2).cell
      have lT63 := (B6.out.later hx2).lt
      go_wp2_with (first|fail)
      refine (checkC (t := ⟨.slice none 0 0, .slice none 0 0, .slice (some ⟨s + 1 + 1 + 1 + 1, 0, none⟩) 2 2, [], [], lL⟩) (x := ⟨.slice none 0 0, .slice none 0 0, .slice (some ⟨x2.heap.size, 0, none⟩) 2 2, [], [], [4, 1]⟩) (HTAB.out.later (by repeat (first|(with_reducible exact Below.refl _ _)|(with_reducible assumption)|(with_reducible refine ba ?_)|(with_reducible refine bd ?_)|(with_reducible refine bdn ?_ _)|(with_reducible refine bset ?_ (by first|exact Nat.le_refl _|omega|(simp;done)|(simp;omega)))|(with_reducible refine bt ?_ (by with_reducible assumption))))) (T6.out.later (by repeat (first|(with_reducible exact Below.refl _ _)|(with_reducible assumption)|(with_reducible refine ba ?_)|(with_reducible refine bd ?_)|(with_reducible refine bdn ?_ _)|(with_reducible refine bset ?_ (by first|exact Nat.le_refl _|omega|(simp;done)|(simp;omega)))|(with_reducible refine bt ?_ (by with_reducible assumption))))) (whN (nilI _) (nilG _) (by intro y hy;cases hy) (row2 (c := 2) (show Box _ (x2.heap.size) #[.int .i64 4, .int .i64 1] 3 by repeat (first|(with_reducible assumption)|(with_reducible refine boxN ?_;simp;done)|(with_reducible refine Box.old ?_)|(with_reducible refine Box.drew ?_)|(with_reducible refine Box.later ?_ (by with_reducible assumption)))) (by unfold I64;omega) (by unfold I64;omega))) (by simp) (by simp) (by intro z hz;cases hz) (by simp [lL]) (by simp) (by simp) (by intro z hz;cases hz) 1 13 k3).mono ?_
      rintro e x3 ⟨rfl, hy3⟩
      have hx3 : Below wc.heap.size wc x3 := by repeat (first|(with_reducible exact Below.refl _ _)|(with_reducible assumption)|(with_reducible refine ba ?_)|(with_reducible refine bd ?_)|(with_reducible refine bdn ?_ _)|(with_reducible refine bset ?_ (by first|exact Nat.le_refl _|omega|(simp;done)|(simp;omega)))|(with_reducible refine bt ?_ (by with_reducible assumption)))
      clear hy3 hx2
      clear cT63 lT63
      have cT74 := (B7.out.later hx3).cell
      have lT74 := (B7.out.later hx3).lt
      go_wp2_with (first|fail)
      refine (checkC (t := ⟨.slice none 0 0, .slice none 0 0, .slice (some ⟨s + 1 + 1 + 1 + 1, 0, none⟩) 1 2, [], [], lM⟩) (x := ⟨.slice none 0 0, .slice none 0 0, .slice (some ⟨x3.heap.size, 0, none⟩) 1 1, [], [], [4]⟩) (HTAB.out.later (by repeat (first|(with_reducible exact Below.refl _ _)|(with_reducible assumption)|(with_reducible refine ba ?_)|(with_reducible refine bd ?_)|(with_reducible refine bdn ?_ _)|(with_reducible refine bset ?_ (by first|exact Nat.le_refl _|omega|(simp;done)|(simp;omega)))|(with_reducible refine bt ?_ (by with_reducible assumption))))) (T7.out.later (by repeat (first|(with_reducible exact Below.refl _ _)|(with_reducible assumption)|(with_reducible refine ba ?_)|(with_reducible refine bd ?_)|(with_reducible refine bdn ?_ _)|(with_reducible refine bset ?_ (by first|exact Nat.le_refl _|omega|(simp;done)|(simp;omega)))|(with_reducible refine bt ?_ (by with_reducible assumption))))) (whN (nilI _) (nilG _) (by intro y hy;cases hy) (row1 (c := 1) (show Box _ (x3.heap.size) #[.int .i64 4] 3 by repeat (first|(with_reducible assumption)|(with_reducible refine boxN ?_;simp;done)|(with_reducible refine Box.old ?_)|(with_reducible refine Box.drew ?_)|(with_reducible refine Box.later ?_ (by with_reducible assumption)))) (by unfold I64;omega))) (by simp) (by simp) (by intro z hz;cases hz) (by simp [lM]) (by simp) (by simp) (by intro z hz;cases hz) 4 12 k4).mono ?_
      rintro e x4 ⟨rfl, hy4⟩
      have hx4 : Below wc.heap.size wc x4 := by repeat (first|(with_reducible exact Below.refl _ _)|(with_reducible assumption)|(with_reducible refine ba ?_)|(with_reducible refine bd ?_)|(with_reducible refine bdn ?_ _)|(with_reducible refine bset ?_ (by first|exact Nat.le_refl _|omega|(simp;done)|(simp;omega)))|(with_reducible refine bt ?_ (by with_reducible assumption)))
      clear hy4 hx3
      clear cT74 lT74
      have cT85 := (B8.out.later hx4).cell
      have lT85 := (B8.out.later hx4).lt
      go_wp2_with (first|fail)
      refine (checkC (t := ⟨.slice (some ⟨r, 0, none⟩) 1 1, .slice q8 2 c8, .slice none 0 0, [Us.eu], [zA (.slice (some ⟨w.heap.size + 1, 0, none⟩) 1 1), zA (.slice (some ⟨w.heap.size + 1, 0, none⟩) 1 1)], []⟩) (x := ⟨.slice (some ⟨x4.heap.size, 0, none⟩) 1 1, .slice (some ⟨x4.heap.size + 1 + 1 + 1, 0, none⟩) 2 2, .slice none 0 0, [9], [⟨.slice (some ⟨x4.heap.size + 1, 0, none⟩) 1 1, [1]⟩, ⟨.slice (some ⟨x4.heap.size + 1 + 1, 0, none⟩) 1 1, [2]⟩], []⟩) (HTAB.out.later (by repeat (first|(with_reducible exact Below.refl _ _)|(with_reducible assumption)|(with_reducible refine ba ?_)|(with_reducible refine bd ?_)|(with_reducible refine bdn ?_ _)|(with_reducible refine bset ?_ (by first|exact Nat.le_refl _|omega|(simp;done)|(simp;omega)))|(with_reducible refine bt ?_ (by with_reducible assumption))))) (T8.out.later (by repeat (first|(with_reducible exact Below.refl _ _)|(with_reducible assumption)|(with_reducible refine ba ?_)|(with_reducible refine bd ?_)|(with_reducible refine bdn ?_ _)|(with_reducible refine bset ?_ (by first|exact Nat.le_refl _|omega|(simp;done)|(simp;omega)))|(with_reducible refine bt ?_ (by with_reducible assumption))))) (whN (row1 (c := 1) (show Box _ (x4.heap.size) #[.int .i64 9] 3 by repeat (first|(with_reducible assumption)|(with_reducible refine boxN ?_;simp;done)|(with_reducible refine Box.old ?_)|(with_reducible refine Box.drew ?_)|(with_reducible refine Box.later ?_ (by with_reducible assumption)))) (by unfold I64;omega)) (ev2 (c := 2) (ns := [1]) (ms := [2]) (show Box _ (x4.heap.size + 1 + 1 + 1) #[.slice (some ⟨x4.heap.size + 1, 0, none⟩) 1 1, .slice (some ⟨x4.heap.size + 1 + 1, 0, none⟩) 1 1] 27 by repeat (first|(with_reducible assumption)|(with_reducible refine boxN ?_;simp;done)|(with_reducible refine Box.old ?_)|(with_reducible refine Box.drew ?_)|(with_reducible refine Box.later ?_ (by with_reducible assumption))))) (by intro y hy;simp only [List.mem_cons, List.not_mem_nil, or_false] at hy;rcases hy with rfl|rfl;(exact row1 (c := 1) (show Box _ (x4.heap.size + 1) #[.int .i64 1] 3 by repeat (first|(with_reducible assumption)|(with_reducible refine boxN ?_;simp;done)|(with_reducible refine Box.old ?_)|(with_reducible refine Box.drew ?_)|(with_reducible refine Box.later ?_ (by with_reducible assumption)))) (by unfold I64;omega));(exact row1 (c := 1) (show Box _ (x4.heap.size + 1 + 1) #[.int .i64 2] 3 by repeat (first|(with_reducible assumption)|(with_reducible refine boxN ?_;simp;done)|(with_reducible refine Box.old ?_)|(with_reducible refine Box.drew ?_)|(with_reducible refine Box.later ?_ (by with_reducible assumption)))) (by unfold I64;omega))) (nilI _)) (by simp) (by simp) (by intro z hz;simp only [List.mem_cons, List.not_mem_nil, or_false, or_self] at hz;subst hz;exact Nat.le_refl _) (by simp) (by simp) (by simp) (by intro y hy;simp only [List.mem_cons, List.not_mem_nil, or_false] at hy;rcases hy with rfl|rfl <;> exact Nat.le_refl _) 2 11 (k5 _ _)).mono ?_
      rintro e x5 ⟨rfl, hy5⟩
      have hx5 : Below wc.heap.size wc x5 := by repeat (first|(with_reducible exact Below.refl _ _)|(with_reducible assumption)|(with_reducible refine ba ?_)|(with_reducible refine bd ?_)|(with_reducible refine bdn ?_ _)|(with_reducible refine bset ?_ (by first|exact Nat.le_refl _|omega|(simp;done)|(simp;omega)))|(with_reducible refine bt ?_ (by with_reducible assumption)))
      clear hy5 hx4
      clear cT85 lT85
      have cT96 := (B9.out.later hx5).cell
      have lT96 := (B9.out.later hx5).lt
      go_wp2_with (first|fail)
      refine (checkC (t := ⟨.slice q9 2 c9, .slice (some ⟨w.heap.size + 1 + 1, 0, none⟩) 1 1, .slice none 0 0, [Us.eu, Us.eu], [zA (.slice (some ⟨w.heap.size + 1, 0, none⟩) 1 1)], []⟩) (x := ⟨.slice (some ⟨x5.heap.size, 0, none⟩) 2 2, .slice (some ⟨x5.heap.size + 1 + 1, 0, none⟩) 1 1, .slice none 0 0, [9, 3], [⟨.slice (some ⟨x5.heap.size + 1, 0, none⟩) 1 1, [5]⟩], []⟩) (HTAB.out.later (by repeat (first|(with_reducible exact Below.refl _ _)|(with_reducible assumption)|(with_reducible refine ba ?_)|(with_reducible refine bd ?_)|(with_reducible refine bdn ?_ _)|(with_reducible refine bset ?_ (by first|exact Nat.le_refl _|omega|(simp;done)|(simp;omega)))|(with_reducible refine bt ?_ (by with_reducible assumption))))) (T9.out.later (by repeat (first|(with_reducible exact Below.refl _ _)|(with_reducible assumption)|(with_reducible refine ba ?_)|(with_reducible refine bd ?_)|(with_reducible refine bdn ?_ _)|(with_reducible refine bset ?_ (by first|exact Nat.le_refl _|omega|(simp;done)|(simp;omega)))|(with_reducible refine bt ?_ (by with_reducible assumption))))) (whN (row2 (c := 2) (show Box _ (x5.heap.size) #[.int .i64 9, .int .i64 3] 3 by repeat (first|(with_reducible assumption)|(with_reducible refine boxN ?_;simp;done)|(with_reducible refine Box.old ?_)|(with_reducible refine Box.drew ?_)|(with_reducible refine Box.later ?_ (by with_reducible assumption)))) (by unfold I64;omega) (by unfold I64;omega)) (ev1 (c := 1) (ns := [5]) (show Box _ (x5.heap.size + 1 + 1) #[.slice (some ⟨x5.heap.size + 1, 0, none⟩) 1 1] 27 by repeat (first|(with_reducible assumption)|(with_reducible refine boxN ?_;simp;done)|(with_reducible refine Box.old ?_)|(with_reducible refine Box.drew ?_)|(with_reducible refine Box.later ?_ (by with_reducible assumption))))) (by intro y hy;simp only [List.mem_singleton] at hy;subst hy;exact row1 (c := 1) (show Box _ (x5.heap.size + 1) #[.int .i64 5] 3 by repeat (first|(with_reducible assumption)|(with_reducible refine boxN ?_;simp;done)|(with_reducible refine Box.old ?_)|(with_reducible refine Box.drew ?_)|(with_reducible refine Box.later ?_ (by with_reducible assumption)))) (by unfold I64;omega)) (nilI _)) (by simp) (by simp) (by intro z hz;simp only [List.mem_cons, List.not_mem_nil, or_false] at hz;subst hz;exact Nat.le_refl _) (by simp) (by simp) (by simp) (by intro y hy;simp only [List.mem_singleton] at hy;subst hy;exact Nat.le_refl _) 3 15 (k6 _)).mono ?_
      rintro e x6 ⟨rfl, hy6⟩
      have hx6 : Below wc.heap.size wc x6 := by repeat (first|(with_reducible exact Below.refl _ _)|(with_reducible assumption)|(with_reducible refine ba ?_)|(with_reducible refine bd ?_)|(with_reducible refine bdn ?_ _)|(with_reducible refine bset ?_ (by first|exact Nat.le_refl _|omega|(simp;done)|(simp;omega)))|(with_reducible refine bt ?_ (by with_reducible assumption)))
      clear hy6 hx5
      clear cT96 lT96
      have cT27 := (B2.out.later hx6).cell
      have lT27 := (B2.out.later hx6).lt
      go_wp2_with (first|fail)
      refine (checkC (t := ⟨.slice none 0 0, .slice (some ⟨w.heap.size + 1 + 1, 0, none⟩) 1 1, .slice none 0 0, [], [zA (.slice (some ⟨w.heap.size + 1, 0, none⟩) 1 1)], []⟩) (x := ⟨.slice none 0 0, .slice none 0 0, .slice none 0 0, [], [], []⟩) (HTAB.out.later (by repeat (first|(with_reducible exact Below.refl _ _)|(with_reducible assumption)|(with_reducible refine ba ?_)|(with_reducible refine bd ?_)|(with_reducible refine bdn ?_ _)|(with_reducible refine bset ?_ (by first|exact Nat.le_refl _|omega|(simp;done)|(simp;omega)))|(with_reducible refine bt ?_ (by with_reducible assumption))))) (T2.out.later (by repeat (first|(with_reducible exact Below.refl _ _)|(with_reducible assumption)|(with_reducible refine ba ?_)|(with_reducible refine bd ?_)|(with_reducible refine bdn ?_ _)|(with_reducible refine bset ?_ (by first|exact Nat.le_refl _|omega|(simp;done)|(simp;omega)))|(with_reducible refine bt ?_ (by with_reducible assumption))))) (whN (nilI _) (nilG _) (by intro y hy;cases hy) (nilI _)) (by simp) (by simp) (by intro z hz;simp only [List.mem_cons, List.not_mem_nil, or_false] at hz;subst hz;exact Nat.le_refl _) (by simp) (by simp) (by simp) (by intro z hz;cases hz) 0 4 (k7 _)).mono ?_
      rintro e x7 ⟨rfl, hy7⟩
      have hx7 : Below wc.heap.size wc x7 := by repeat (first|(with_reducible exact Below.refl _ _)|(with_reducible assumption)|(with_reducible refine ba ?_)|(with_reducible refine bd ?_)|(with_reducible refine bdn ?_ _)|(with_reducible refine bset ?_ (by first|exact Nat.le_refl _|omega|(simp;done)|(simp;omega)))|(with_reducible refine bt ?_ (by with_reducible assumption)))
      clear hy7 hx6
      clear cT27 lT27
      have cT28 := (B2.out.later hx7).cell
      have lT28 := (B2.out.later hx7).lt
      go_wp2_with (first|fail)
      refine (checkC (t := ⟨.slice none 0 0, .slice (some ⟨w.heap.size + 1 + 1, 0, none⟩) 1 1, .slice none 0 0, [], [zA (.slice (some ⟨w.heap.size + 1, 0, none⟩) 1 1)], []⟩) (x := ⟨.slice none 0 0, .slice (some ⟨x7.heap.size + 1, 0, none⟩) 1 1, .slice none 0 0, [], [⟨.slice (some ⟨x7.heap.size, 0, none⟩) 1 1, [0]⟩], []⟩) (HTAB.out.later (by repeat (first|(with_reducible exact Below.refl _ _)|(with_reducible assumption)|(with_reducible refine ba ?_)|(with_reducible refine bd ?_)|(with_reducible refine bdn ?_ _)|(with_reducible refine bset ?_ (by first|exact Nat.le_refl _|omega|(simp;done)|(simp;omega)))|(with_reducible refine bt ?_ (by with_reducible assumption))))) (T2.out.later (by repeat (first|(with_reducible exact Below.refl _ _)|(with_reducible assumption)|(with_reducible refine ba ?_)|(with_reducible refine bd ?_)|(with_reducible refine bdn ?_ _)|(with_reducible refine bset ?_ (by first|exact Nat.le_refl _|omega|(simp;done)|(simp;omega)))|(with_reducible refine bt ?_ (by with_reducible assumption))))) (whN (nilI _) (ev1 (c := 1) (ns := [0]) (show Box _ (x7.heap.size + 1) #[.slice (some ⟨x7.heap.size, 0, none⟩) 1 1] 27 by repeat (first|(with_reducible assumption)|(with_reducible refine boxN ?_;simp;done)|(with_reducible refine Box.old ?_)|(with_reducible refine Box.drew ?_)|(with_reducible refine Box.later ?_ (by with_reducible assumption))))) (by intro y hy;simp only [List.mem_singleton] at hy;subst hy;exact row1 (c := 1) (show Box _ (x7.heap.size) #[.int .i64 0] 3 by repeat (first|(with_reducible assumption)|(with_reducible refine boxN ?_;simp;done)|(with_reducible refine Box.old ?_)|(with_reducible refine Box.drew ?_)|(with_reducible refine Box.later ?_ (by with_reducible assumption)))) (by unfold I64;omega)) (nilI _)) (by simp) (by simp) (by intro z hz;simp only [List.mem_cons, List.not_mem_nil, or_false] at hz;subst hz;exact Nat.le_refl _) (by simp) (by simp) (by simp) (by intro y hy;simp only [List.mem_singleton] at hy;subst hy;exact Nat.le_refl _) 0 4 (k8 _)).mono ?_
      rintro e x8 ⟨rfl, hy8⟩
      have hx8 : Below wc.heap.size wc x8 := by repeat (first|(with_reducible exact Below.refl _ _)|(with_reducible assumption)|(with_reducible refine ba ?_)|(with_reducible refine bd ?_)|(with_reducible refine bdn ?_ _)|(with_reducible refine bset ?_ (by first|exact Nat.le_refl _|omega|(simp;done)|(simp;omega)))|(with_reducible refine bt ?_ (by with_reducible assumption)))
      clear hy8 hx7
      clear cT28 lT28
      go_wp2_with (first|fail)
      refine (checkC (t := ⟨.slice none 0 0, .slice none 0 0, .slice none 0 0, [], [], []⟩) (x := ⟨.slice none 0 0, .slice none 0 0, .slice none 0 0, [], [], []⟩) (HTAB.out.later (by repeat (first|(with_reducible exact Below.refl _ _)|(with_reducible assumption)|(with_reducible refine ba ?_)|(with_reducible refine bd ?_)|(with_reducible refine bdn ?_ _)|(with_reducible refine bset ?_ (by first|exact Nat.le_refl _|omega|(simp;done)|(simp;omega)))|(with_reducible refine bt ?_ (by with_reducible assumption))))) (tabA (nilH _) (nilG _) (by intro z hz;cases hz)) (whN (nilI _) (nilG _) (by intro y hy;cases hy) (nilI _)) (by simp) (by simp) (by intro z hz;cases hz) (by simp) (by simp) (by simp) (by intro z hz;cases hz) 0 0 k9).mono ?_
      rintro e x9 ⟨rfl, hy9⟩
      have hx9 : Below wc.heap.size wc x9 := by repeat (first|(with_reducible exact Below.refl _ _)|(with_reducible assumption)|(with_reducible refine ba ?_)|(with_reducible refine bd ?_)|(with_reducible refine bdn ?_ _)|(with_reducible refine bset ?_ (by first|exact Nat.le_refl _|omega|(simp;done)|(simp;omega)))|(with_reducible refine bt ?_ (by with_reducible assumption)))
      clear hy9 hx8
      have cT410 := (B4.out.later hx9).cell
      have lT410 := (B4.out.later hx9).lt
      have cW510 := (BW5.out.later hx9).cell
      have lW510 := (BW5.out.later hx9).lt
      go_wp2_with (first|fail)
      refine (whereC (t := ⟨.slice (some ⟨r, 0, none⟩) 1 1, .slice (some ⟨w.heap.size + 1 + 1, 0, none⟩) 1 1, .slice none 0 0, [Us.eu], [zA (.slice (some ⟨w.heap.size + 1, 0, none⟩) 1 1)], []⟩) (x := ⟨.slice (some ⟨s, 0, none⟩) 1 1, .slice (some ⟨s + 1 + 1, 0, none⟩) 1 1, .slice none 0 0, [2], [⟨.slice (some ⟨s + 1, 0, none⟩) 1 1, [1]⟩], []⟩) (HTAB.out.later (by repeat (first|(with_reducible exact Below.refl _ _)|(with_reducible assumption)|(with_reducible refine ba ?_)|(with_reducible refine bd ?_)|(with_reducible refine bdn ?_ _)|(with_reducible refine bset ?_ (by first|exact Nat.le_refl _|omega|(simp;done)|(simp;omega)))|(with_reducible refine bt ?_ (by with_reducible assumption))))) (T4.out.later (by repeat (first|(with_reducible exact Below.refl _ _)|(with_reducible assumption)|(with_reducible refine ba ?_)|(with_reducible refine bd ?_)|(with_reducible refine bdn ?_ _)|(with_reducible refine bset ?_ (by first|exact Nat.le_refl _|omega|(simp;done)|(simp;omega)))|(with_reducible refine bt ?_ (by with_reducible assumption))))) (W5.out.later (by repeat (first|(with_reducible exact Below.refl _ _)|(with_reducible assumption)|(with_reducible refine ba ?_)|(with_reducible refine bd ?_)|(with_reducible refine bdn ?_ _)|(with_reducible refine bset ?_ (by first|exact Nat.le_refl _|omega|(simp;done)|(simp;omega)))|(with_reducible refine bt ?_ (by with_reducible assumption))))) (by simp) (by intro z hz;simp only [List.mem_cons, List.not_mem_nil, or_false] at hz;subst hz;exact Nat.le_refl _) (by simp) (by simp) (by intro y hy;simp only [List.mem_singleton] at hy;subst hy;exact Nat.le_refl _) true (CkL.w1 _)).mono ?_
      rintro e x10 ⟨rfl, hy10⟩
      have hx10 : Below wc.heap.size wc x10 := by repeat (first|(with_reducible exact Below.refl _ _)|(with_reducible assumption)|(with_reducible refine ba ?_)|(with_reducible refine bd ?_)|(with_reducible refine bdn ?_ _)|(with_reducible refine bset ?_ (by first|exact Nat.le_refl _|omega|(simp;done)|(simp;omega)))|(with_reducible refine bt ?_ (by with_reducible assumption)))
      clear hy10 hx9
      clear cT410 lT410
      clear cW510 lW510
      have cT411 := (B4.out.later hx10).cell
      have lT411 := (B4.out.later hx10).lt
      have cW311 := (BW3.out.later hx10).cell
      have lW311 := (BW3.out.later hx10).lt
      go_wp2_with (first|fail)
      refine (whereC (t := ⟨.slice (some ⟨r, 0, none⟩) 1 1, .slice (some ⟨w.heap.size + 1 + 1, 0, none⟩) 1 1, .slice none 0 0, [Us.eu], [zA (.slice (some ⟨w.heap.size + 1, 0, none⟩) 1 1)], []⟩) (x := ⟨.slice none 0 0, .slice (some ⟨w.heap.size + 1 + 1 + 1 + 1 + 1, 0, none⟩) 1 1, .slice none 0 0, [], [⟨.slice (some ⟨w.heap.size + 1 + 1 + 1 + 1, 0, none⟩) 1 1, [1]⟩], []⟩) (HTAB.out.later (by repeat (first|(with_reducible exact Below.refl _ _)|(with_reducible assumption)|(with_reducible refine ba ?_)|(with_reducible refine bd ?_)|(with_reducible refine bdn ?_ _)|(with_reducible refine bset ?_ (by first|exact Nat.le_refl _|omega|(simp;done)|(simp;omega)))|(with_reducible refine bt ?_ (by with_reducible assumption))))) (T4.out.later (by repeat (first|(with_reducible exact Below.refl _ _)|(with_reducible assumption)|(with_reducible refine ba ?_)|(with_reducible refine bd ?_)|(with_reducible refine bdn ?_ _)|(with_reducible refine bset ?_ (by first|exact Nat.le_refl _|omega|(simp;done)|(simp;omega)))|(with_reducible refine bt ?_ (by with_reducible assumption))))) (W3.out.later (by repeat (first|(with_reducible exact Below.refl _ _)|(with_reducible assumption)|(with_reducible refine ba ?_)|(with_reducible refine bd ?_)|(with_reducible refine bdn ?_ _)|(with_reducible refine bset ?_ (by first|exact Nat.le_refl _|omega|(simp;done)|(simp;omega)))|(with_reducible refine bt ?_ (by with_reducible assumption))))) (by simp) (by intro z hz;simp only [List.mem_cons, List.not_mem_nil, or_false] at hz;subst hz;exact Nat.le_refl _) (by simp) (by simp) (by intro y hy;simp only [List.mem_singleton] at hy;subst hy;exact Nat.le_refl _) false (CkL.w2 _)).mono ?_
      rintro e x11 ⟨rfl, hy11⟩
      have hx11 : Below wc.heap.size wc x11 := by repeat (first|(with_reducible exact Below.refl _ _)|(with_reducible assumption)|(with_reducible refine ba ?_)|(with_reducible refine bd ?_)|(with_reducible refine bdn ?_ _)|(with_reducible refine bset ?_ (by first|exact Nat.le_refl _|omega|(simp;done)|(simp;omega)))|(with_reducible refine bt ?_ (by with_reducible assumption)))
      clear hy11 hx10
      clear cT411 lT411
      clear cW311 lW311
      go_wp2_with (first|fail)
      refine (whereC (t := ⟨.slice none 0 0, .slice (some ⟨x11.heap.size, 0, none⟩) 1 1, .slice none 0 0, [], [zE], []⟩) (x := ⟨.slice none 0 0, .slice (some ⟨x11.heap.size + 1 + 1, 0, none⟩) 1 1, .slice none 0 0, [], [⟨.slice (some ⟨x11.heap.size + 1, 0, none⟩) 0 0, []⟩], []⟩) (HTAB.out.later (by repeat (first|(with_reducible exact Below.refl _ _)|(with_reducible assumption)|(with_reducible refine ba ?_)|(with_reducible refine bd ?_)|(with_reducible refine bdn ?_ _)|(with_reducible refine bset ?_ (by first|exact Nat.le_refl _|omega|(simp;done)|(simp;omega)))|(with_reducible refine bt ?_ (by with_reducible assumption))))) (tabA (nilH _) (of_boxG (k := 2) (f := ZoneV.cells) (fun _ => rfl) 1 (l := [zE]) (show Box _ (x11.heap.size) #[.string ⟨#[]⟩, .slice none 0 0] 42 by repeat (first|(with_reducible assumption)|(with_reducible refine boxN ?_;simp;done)|(with_reducible refine Box.old ?_)|(with_reducible refine Box.drew ?_)|(with_reducible refine Box.later ?_ (by with_reducible assumption)))) rfl rfl (by decide) 1) (by intro z hz;simp only [List.mem_singleton] at hz;subst hz;exact ⟨⟨.inl ⟨_, _, rfl, rfl⟩, by simp [zE], by decide⟩, by decide⟩)) (whN (nilI _) (ev1 (c := 1) (ns := []) (show Box _ (x11.heap.size + 1 + 1) #[.slice (some ⟨x11.heap.size + 1, 0, none⟩) 0 0] 27 by repeat (first|(with_reducible assumption)|(with_reducible refine boxN ?_;simp;done)|(with_reducible refine Box.old ?_)|(with_reducible refine Box.drew ?_)|(with_reducible refine Box.later ?_ (by with_reducible assumption))))) (by intro y hy;simp only [List.mem_singleton] at hy;subst hy;exact ⟨⟨.inl ⟨_, _, rfl, rfl⟩, by simp⟩, by intro m hm;cases hm⟩) (nilI _)) (by simp) (by intro z hz;simp only [List.mem_singleton] at hz;subst hz;exact Nat.zero_le _) (by simp) (by simp) (by intro y hy;simp only [List.mem_singleton] at hy;subst hy;exact Nat.zero_le _) false CkL.w3).mono ?_
      rintro e x12 ⟨rfl, hy12⟩
      have hx12 : Below wc.heap.size wc x12 := by repeat (first|(with_reducible exact Below.refl _ _)|(with_reducible assumption)|(with_reducible refine ba ?_)|(with_reducible refine bd ?_)|(with_reducible refine bdn ?_ _)|(with_reducible refine bset ?_ (by first|exact Nat.le_refl _|omega|(simp;done)|(simp;omega)))|(with_reducible refine bt ?_ (by with_reducible assumption)))
      clear hy12 hx11
      go_wp2
      go_ret
      exact ⟨rfl, HWE.out.trans (hx12.mono HWE.out.size)⟩
end CkL
end Go.Proofs.YtcfmchpoclkpgaaGreatDoor
