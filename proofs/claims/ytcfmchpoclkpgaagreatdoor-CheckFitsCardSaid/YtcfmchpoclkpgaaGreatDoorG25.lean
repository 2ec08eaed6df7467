import Derived.Test.YtcfmchpoclkpgaaGreatDoorChkQ
import Derived.Test.YtcfmchpoclkpgaaGreatDoorG23
import Derived.Test.YtcfmchpoclkpgaaGreatDoorG24
import Derived.Test.YtcfmchpoclkpgaaGreatDoorG22
import Derived.OrdersHeld
import Derived.Lib.SliceRun
import Derived.Lib.AppendZeros
namespace Go.Proofs.YtcfmchpoclkpgaaGreatDoor
open Go.RowKit NB
namespace RCk
open Ck
theorem zip_at {zs : List ZoneV} {es : List (List Int)} {k : Nat} {z : ZoneV} {y : List Int} (hz : zs[k]? = some z) (hy : es[k]? = some y) : (zs.zip es)[k]? = some (z, y) := List.getElem?_zip_eq_some.2 ⟨hz, hy⟩
theorem own0 {w : World} {base g : Nat} (h : w.heap[g]? = some (.cells #[] 3)) (hb : base ≤ g) : OwnI w base (.slice (some ⟨g, 0, none⟩) 0 0) [] := ⟨by simp, .inr ⟨g, 0, #[], rfl, hb, h, Nat.le_refl _, Nat.zero_le _, by simp, by simp⟩⟩
theorem app_below {B : Nat} {V w w' : World} {v : Value} {L : List Int} (hV : Below B V w) (hB : B ≤ w.heap.size) (ho : OwnI w B v L) (hg : w.grownBy w' v.ownBlock) : Below B V w' := hV.grown hg hB (fun j hj => (ho.lt j hj).1)
theorem flat_len : ∀ (l : List (List Int)), (∀ y ∈ l, y.length ≤ 100) → l.flatten.length ≤ 100 * l.length
  | [], _ => by simp
  | y :: l, h => by
    have h1 := h y (by simp)
    have h2 := flat_len l (fun z hz => h z (by simp [hz]))
    rw [List.flatten_cons, List.length_append, List.length_cons]
    omega
theorem where_bad {nr : Nat} {zs : List ZoneV} {nl : Nat} {rs : List Int} {es : List (List Int)} {ls : List Int} {k : Nat} {p : ZoneV × List Int} (hp : (zs.zip es)[k]? = some p) (h : zoneOk p = false) : whereB nr zs nl rs es ls = false := by
  unfold whereB
  rw [Eqs.not_all hp h, Bool.false_and, Bool.and_false, Bool.and_false, Bool.and_false]
theorem lens_ok {l r : Nat} : (((l : Int) != (r : Int)) = true ↔ l ≠ r) := by simp;omega
end RCk
end Go.Proofs.YtcfmchpoclkpgaaGreatDoor
namespace Go.Proofs.YtcfmchpoclkpgaaGreatDoor
open Go.RowKit NB
namespace CkW
open Ck
set_option maxRecDepth 100000 in
set_option maxHeartbeats 1600000 in
theorem Grow (N : Nat) (hN : N ≤ 100000) (w : World) : Calls Tryz.prog 64 #[.slice none 0 0, .int .i64 N] w fun e w' => ∃ v', e = .returned v' ∧ OwnI w' w.heap.size v' [] ∧ Below w.heap.size w w' := by
  obtain ⟨i0, hi, hz0, hz1, hz2⟩ := info_parts infoI
  by_cases h0 : N = 0
  · subst h0
    go_enter Tryz.func64, Tryz.ntmps64
    go_wp2
    go_ret
    exact ⟨_, rfl, World.ownsRow_nil _ _ _ _, Below.refl _ _⟩
  · have hrun := fun ty => Go.Lib.run_append_nil_zeros (P := Tryz.prog) w 27 3 ty 3 i0 (.int .i64 0) .i64 .i64 Tryz.underlying27 Tryz.underlying3 hi hz0 N (by omega) (by omega) (by omega) (by rw [hz2];omega)
    obtain ⟨G, hG⟩ : ∃ G, G = grownCap w N 0 3 := ⟨_, rfl⟩
    have hGn : N ≤ G := by rw [hG];exact grownCap_ge w _ _ _
    have hGm : G ≤ maxLen := by rw [hG];exact grownCap_le_maxLen w N 0 _ (by unfold maxLen;omega)
    rw [← hG] at hrun
    obtain ⟨ROW, hR⟩ : ∃ R : Array Value, R = Builtin.zeroCells (Value.int .i64 0).cells N ++ Builtin.zeroCells (Value.int .i64 0).cells (G - N) := ⟨_, rfl⟩
    rw [← hR] at hrun
    have hRs : ROW.size = G * 1 := by rw [hR, Array.size_append, size_zeroCells, size_zeroCells];show N * 1 + (G - N) * 1 = _;omega
    have hown : OwnI (w.drew.alloc (.cells ROW 3)) w.heap.size (.slice (some ⟨w.heap.size, 0, none⟩) 0 G) [] :=
      ⟨rfl, .inr ⟨w.heap.size, G, ROW, rfl, Nat.le_refl _, heap_alloc_new w.drew _, Nat.zero_le _, hGm, hRs, by simp⟩⟩
    have hb : Below w.heap.size w (w.drew.alloc (.cells ROW 3)) := ba (bd (Below.refl _ _))
    have HR := Lib.hid hrun;have HO := Lib.hid hown;have HB := Lib.hid hb
    unfold maxLen at hGm
    clear hrun hown hb hR hG hRs hi hz0 hz1 hz2
    have b1 : (0 : Int) < (N : Int) := by omega
    have b2 : (0 : Int) ≤ (N : Int) := by omega
    have b3 : ¬ (N : Int) < 0 := by omega
    have b4 : ¬ (G = 0) := by omega
    go_enter Tryz.func64, Tryz.ntmps64
    go_wp2_with (at_builtin;refine Go.Lib.wpList_append_run _ rfl _ _ _ _ rfl _ _ rfl rfl _ _ (HR.out _) ?_)
    go_ret
    exact ⟨_, rfl, HO.out, HB.out⟩
theorem flatI_take {Ls : List (List Int)} {k : Nat} {l : List Int} (h : Ls[k]? = some l) : (Ls.take (k + 1)).flatten = (Ls.take k).flatten ++ l := by
  rw [List.take_add_one, h]
  simp
theorem flatI_le (Ls : List (List Int)) (k : Nat) : (Ls.take k).flatten.length ≤ Ls.flatten.length := by
  have h := List.take_append_drop k Ls
  have : Ls.flatten.length = (Ls.take k).flatten.length + (Ls.drop k).flatten.length := by rw [← List.length_append, ← List.flatten_append, h]
  omega
set_option maxRecDepth 100000 in
set_option maxHeartbeats 3200000 in
theorem Concat {w : World} {v : Value} {rows : List RowN} (hv : HoldsG 1 RowN.cells w v rows) (hf : ∀ y ∈ rows, HoldsI w y.v y.ns) (hn : rows.length ≤ 1000) (ht : (rows.map RowN.ns).flatten.length ≤ 100000) :
    Calls Tryz.prog 27 #[v] w fun e w' => ∃ v', e = .returned v' ∧ OwnI w' w.heap.size v' (rows.map RowN.ns).flatten ∧ Below w.heap.size w w' := by
  obtain ⟨p, cap, rfl, hp⟩ := hv.pk
  have hfl := flatI_le (rows.map RowN.ns)
  obtain ⟨R, hR⟩ : ∃ R, R = (rows.map RowN.ns).flatten := ⟨_, rfl⟩
  obtain ⟨n, hn'⟩ : ∃ n, n = rows.length := ⟨_, rfl⟩
  rw [← hR] at ht hfl ⊢
  rw [← hn'] at hn ⊢
  have HP := Lib.hid hp;have HFL := Lib.hid hfl;have HR := Lib.hid hR;have HN := Lib.hid hn';have HF := Lib.hid hf
  clear hp hfl hR hn' hf hv
  go_enter Tryz.func27, Tryz.ntmps27
  go_wp2
  go_loop [11, 3] (fun i s => ∃ k S : Nat, i = .int .i64 k ∧ s = .int .i64 S ∧ k ≤ n ∧ Hid (S = ((rows.map RowN.ns).take k).flatten.length)) (fun i _ => n - (intOf i).toNat)
  case atStart => exact ⟨0, 0, rfl, rfl, Nat.zero_le _, rfl⟩
  case round =>
    obtain ⟨k, S, rfl, rfl, hk, HK⟩ := hrel
    by_cases hlt : k < n
    · obtain ⟨y, hy⟩ : ∃ y, rows[k]? = some y := ⟨_, List.getElem?_eq_getElem (by rw [← HN.out];exact hlt)⟩
      obtain ⟨g1, o1, rfl, hg1, d1⟩ := HP.out k y hy
      have y0 := d1 0 _ rfl
      rw [Nat.mul_one, Nat.add_zero] at y0
      obtain ⟨pq, cq, hv2⟩ := (HF.out y (List.mem_of_getElem? hy)).form
      rw [hv2] at y0
      have hyz : (rows.map RowN.ns)[k]? = some y.ns := by rw [List.getElem?_map, hy];rfl
      have hS2 := flatI_take hyz
      have hS3 : S + y.ns.length = ((rows.map RowN.ns).take (k + 1)).flatten.length := by rw [hS2, List.length_append, ← HK.out]
      have hS4 := HFL.out (k + 1)
      rw [← hS3] at hS4
      have HS3 := Lib.hid hS3
      have q1 : (k : Int) < (n : Int) := by omega
      clear hS2 hS3 d1 hv2 hyz hy
      generalize y.ns.length = m at *
      have q2 : ¬ ((S : Int) + (m : Int) < 0) := by omega
      go_wp2
      go_round
      case rel => exact ⟨k + 1, S + m, by go_num, by go_num, by omega, HS3⟩
      case measure => simp [intOf];omega
    · obtain rfl : n = k := by omega
      have hS := HK.out
      rw [List.take_of_length_le (by rw [List.length_map, ← HN.out];exact Nat.le_refl _), ← HR.out] at hS
      have hSb : S ≤ 100000 := by omega
      have HSR := Lib.hid hS
      clear hS HK
      go_wp2_with (go_at_call 64;refine (Grow S hSb _).mono ?_;rintro e w1 ⟨v1, rfl, hown1, hb1⟩)
      have HO1 := Lib.hid hown1;have HB1 := Lib.hid hb1
      clear hown1 hb1
      go_loopw [27, 6] (fun i o wr => ∃ (j : Nat) (v : Value), i = .int .i64 j ∧ o = v ∧ j ≤ n ∧ Below w.heap.size w wr ∧ Hid (OwnI wr w.heap.size v ((rows.map RowN.ns).take j).flatten)) (fun i _ _ => n - (intOf i).toNat)
      case atStart => exact ⟨0, v1, rfl, rfl, Nat.zero_le _, HB1.out, HO1⟩
      case round =>
        clear HO1
        obtain ⟨j, v, rfl, rfl, hj, hbr, HO⟩ := hrel
        have hszr := hbr.size
        by_cases hltj : j < n
        · obtain ⟨y, hy⟩ : ∃ y, rows[j]? = some y := ⟨_, List.getElem?_eq_getElem (by rw [← HN.out];exact hltj)⟩
          obtain ⟨g1, o1, rfl, hg1, d1⟩ := HP.out j y hy
          have y0 := d1 0 _ rfl
          rw [Nat.mul_one, Nat.add_zero] at y0
          replace y0 := (hbr.cell (p := ⟨g1, o1 + j, none⟩) hg1).trans y0
          have HY := Lib.hid (HoldsG.later (HF.out y (List.mem_of_getElem? hy)) hbr)
          have hyz : (rows.map RowN.ns)[j]? = some y.ns := by rw [List.getElem?_map, hy];rfl
          have hS2 := flatI_take hyz
          have hS4 := HFL.out (j + 1)
          rw [hS2, List.length_append] at hS4
          have HS4 := Lib.hid hS4
          have HS2 := Lib.hid hS2
          have q1 : (j : Int) < (n : Int) := by omega
          clear hS2 hS4 d1 hyz hy
          go_wp2_with (at_builtin;refine IntS.wpList_app rfl _ _ rfl rfl HO.out rfl HY.out (by have := HS4.out;omega) hszr ?_;intro v9 w9 ho9 hg9 hx9)
          have HO9 := Lib.hid ho9
          have b9 := RCk.app_below hbr hszr HO.out hg9
          clear ho9 hg9 hx9
          go_roundw
          case rel => exact ⟨j + 1, v9, by go_num, rfl, by omega, b9, by rw [HS2.out];exact HO9⟩
          case measure => simp [intOf];omega
        · obtain rfl : n = j := by omega
          have hO := HO.out
          rw [List.take_of_length_le (by rw [List.length_map, ← HN.out];exact Nat.le_refl _), ← HR.out] at hO
          have HO9 := Lib.hid hO
          clear hO HO
          go_wp2
          go_ret
          exact ⟨_, rfl, HO9.out, hbr⟩
theorem low (n : Int) (w : World) : Calls Tryz.prog 30 #[.int .i64 n] w fun e w' => e = .returned (.bool (decide (n < 1))) ∧ w = w' := by
  by_cases h : n < 1
  · rw [decide_eq_true h]
    go_enter Tryz.func30, Tryz.ntmps30
    go_wp2
    go_ret
    exact ⟨rfl, rfl⟩
  · rw [decide_eq_false h]
    have h1 : 1 ≤ n := by omega
    go_enter Tryz.func30, Tryz.ntmps30
    go_wp2
    go_ret
    exact ⟨rfl, rfl⟩
set_option maxRecDepth 100000 in
set_option maxHeartbeats 3200000 in
theorem Index {w : World} {v : Value} {L : List Int} (h : HoldsI w v L) :
    Calls Tryz.prog 67 #[v, .func (.func 30) #[] #[]] w fun e w' => ∃ i : Int, e = .returned (.int .i64 i) ∧ I64 i ∧ decide (0 ≤ i) = !(L.all fun n => decide ((1 : Int) ≤ n)) ∧ w = w' := by
  have l1 := h.len
  obtain ⟨p, cap, rfl, hp⟩ := HoldsG.pkI h
  obtain ⟨n, hn⟩ : ∃ n, n = L.length := ⟨_, rfl⟩
  obtain ⟨B, hB⟩ : ∃ b, b = L.all fun n => decide ((1 : Int) ≤ n) := ⟨_, rfl⟩
  rw [← hn] at l1 ⊢
  rw [← hB]
  have HN := Lib.hid hn;have HP := Lib.hid hp;have HB := Lib.hid hB
  clear hn hp h hB
  have eg : ∀ args w, (callFunc 30 args).run Tryz.prog w = .ok (.enter 30 args) w := enters_of Tryz.func30 (by kernel_rfl) rfl
  go_enter Tryz.func67, Tryz.ntmps67
  go_wp2
  go_loop [8, 5] (fun i s => ∃ k : Nat, i = .int .i64 k ∧ k ≤ n ∧ Hid ((L.take k).all (fun n => decide ((1 : Int) ≤ n)) = true)) (fun i _ => n - (intOf i).toNat)
  case atStart => exact ⟨0, rfl, Nat.zero_le _, rfl⟩
  case round =>
    obtain ⟨k, rfl, hk, HS⟩ := hrel
    by_cases hlt : k < n
    · obtain ⟨m, hm⟩ : ∃ m, L[k]? = some m := ⟨_, List.getElem?_eq_getElem (by rw [← HN.out];exact hlt)⟩
      obtain ⟨g1, o1, rfl, hg1, d1⟩ := HP.out k m hm
      have q1 : (k : Int) < (n : Int) := by omega
      have HM := Lib.hid hm
      have hc := low m w
      clear hm
      by_cases h1 : m < 1
      · rw [decide_eq_true h1] at hc
        have HE : Hid (B = false) := by rw [HB.out];exact Eqs.not_all (p := fun n => decide ((1 : Int) ≤ n)) HM.out (decide_eq_false (by omega))
        clear h1
        go_wp2_with (go_at_fn 30;refine hc.mono ?_;rintro e w' ⟨rfl, rfl⟩)
        go_ret
        exact ⟨k, rfl, by unfold I64;omega, by rw [HE.out, decide_eq_true (by omega)];rfl, rfl⟩
      · have HE := Lib.hid (Eqs.take_all HM.out HS.out (decide_eq_true (show (1 : Int) ≤ m by omega)))
        rw [decide_eq_false h1] at hc
        clear h1
        go_wp2_with (go_at_fn 30;refine hc.mono ?_;rintro e w' ⟨rfl, rfl⟩)
        go_round
        case rel => exact ⟨k + 1, by go_num, by omega, HE⟩
        case measure => simp [intOf];omega
    · obtain rfl : n = k := by omega
      have hS := HS.out
      rw [List.take_of_length_le (by rw [← HN.out];exact Nat.le_refl _), ← HB.out] at hS
      have HE := Lib.hid hS
      clear hS HS
      go_wp2
      go_ret
      exact ⟨-1, rfl, by unfold I64;omega, by rw [HE.out];rfl, rfl⟩
theorem Contains {w : World} {v : Value} {L : List Int} (h : HoldsI w v L) :
    Calls Tryz.prog 29 #[v, .func (.func 30) #[] #[]] w fun e w' => e = .returned (.bool (!(L.all fun n => decide ((1 : Int) ≤ n)))) ∧ w = w' := by
  have hc := Index h
  obtain ⟨B, hB⟩ : ∃ b, b = L.all fun n => decide ((1 : Int) ≤ n) := ⟨_, rfl⟩
  rw [← hB] at hc ⊢
  clear hB
  go_enter Tryz.func29, Tryz.ntmps29
  go_wp2_with (go_at_call 67;refine hc.mono ?_;rintro e w' ⟨i, rfl, hi, hd, rfl⟩)
  all_goals
    go_ret
    refine ⟨?_, rfl⟩
    simp_all
end CkW
end Go.Proofs.YtcfmchpoclkpgaaGreatDoor
