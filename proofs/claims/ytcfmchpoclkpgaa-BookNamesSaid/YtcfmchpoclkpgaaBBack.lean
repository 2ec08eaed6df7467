/-
  slices.Backward, over zones and over links: what it hands back, and its rounds.
-/
import Derived.RangeFuncNested
import Derived.RangeFuncBound
import Derived.RangeFuncCalls
import Derived.RangeFuncLeaves
import Derived.Shelf.Abstract
import Derived.Shelf.RegionOpen
import Derived.WalkKit
import Derived.OwnWalkIn
import Derived.TacticsInMore
import Derived.LoopNIn
import Derived.LoopIn
import Derived.Test.YtcfmchpoclkpgaaBFind
namespace Go.Proofs.Ytcfmchpoclkpgaa
open Go.RowKit Go.Shelf NB
attribute [local go_sem] Oper.semAt_some
namespace Back
/-- the pairs, from behind -/
def rev {α : Type} (l : List α) : List (Nat × α) := (l.zipIdx.map fun p => (p.2, p.1)).reverse
theorem rev_len {α : Type} (l : List α) : (rev l).length = l.length := by simp [rev]
theorem rev_at {α : Type} {l : List α} {k : Nat} {x : α} (hx : l[k]? = some x) : (rev l)[l.length - 1 - k]? = some (k, x) := by
  have hk := (List.getElem?_eq_some_iff.1 hx).1
  unfold rev
  rw [List.getElem?_reverse (by simp; omega)]
  simp only [List.length_map, List.length_zipIdx]
  rw [show l.length - 1 - (l.length - 1 - k) = k by omega]
  simp [hx]
abbrev ZI := { x : Nat × ZoneV // x.2.name.size ≤ 9223372036854775807 ∧ (∃ q m c, x.2.v = .slice q m c) }
def encZI (x : ZI) : Array Value := #[.int .i64 (x.1.1 : Int), .agg #[.string x.1.2.name, x.1.2.v]]
theorem make_zones (p : Option Addr) (len cap : Nat) (w : World) : Calls Try.prog 58 #[.slice p len cap] w fun e w' => e = .returned (.func (.func 91) #[] #[.pointer (some ⟨w.heap.size, 0, none⟩)]) ∧ w' = w.alloc (.cells #[.slice p len cap] 23) := by
  go_enter Try.func58, Try.ntmps58
  go_wp2
  go_ret
  exact ⟨rfl, rfl⟩
set_option maxRecDepth 100000 in
set_option maxHeartbeats 3200000 in
theorem stops_zones (F : Fence) (n : Nat) (h8 : F.fn 91) (hro : F.round = none) (hn : 1 ≤ n) (Bs : Nat) (w0 w : World) (v : Value) (l : List ZoneV) (hH : HoldsG 2 ZoneV.cells w0 v l) (hw : Below w0.heap.size w0 w) (hBs : Box w Bs #[v] 23) (hw0 : w0.heap.size ≤ Bs)
    (hlen : l.length ≤ 100000) (xs : List ZI) (hxs : xs.map (·.1) = rev l) :
    SeqStopsK F n Try.prog 91 #[.pointer (some ⟨Bs, 0, none⟩)] encZI (fun A B => Below w0.heap.size A B ∧ B.heap[Bs]? = A.heap[Bs]?) (fun ys => ys = xs) (fun pre => pre <+: xs) xs.length w := fun lp J Jx W hW _ _ hY h0 => by
  have hl : xs.length = l.length := by have := congrArg List.length hxs; rw [List.length_map, rev_len] at this; exact this
  obtain ⟨p, cap, rfl, hp⟩ := hH.pk
  obtain ⟨N, hN⟩ : ∃ N, N = l.length := ⟨_, rfl⟩
  have hBW : Box W Bs #[.slice p N cap] 23 := by rw [hN]; exact hBs.later hW
  have hbW : Below w0.heap.size w0 W := hw.trans (hW.mono hw.size)
  have hat : ∀ k x, l[k]? = some x → ∃ y : ZI, xs[N - 1 - k]? = some y ∧ y.1 = (k, x) := fun k x hx => by
    have h1 := rev_at hx
    rw [← hxs, List.getElem?_map, ← hN] at h1
    obtain ⟨y, hy, e⟩ := Option.map_eq_some_iff.1 h1
    exact ⟨y, hy, e⟩
  rw [← hN] at hl hlen
  have HN := Lib.hid hN; have HP := Lib.hid hp; have HAT := Lib.hid hat; have HXL := Lib.hid hl; have HY := Lib.hid hY
  have c0 := hBW.cell 0
  have HBW := Lib.hid hBW; have HbW := Lib.hid hbW
  clear hN hp hH hat hl hY hBs hW hw hxs hBW hbW
  refine callsIn_of_wp Try.func91 rfl h8 ?_ hro
  simp only [Try.ntmps91, List.size_toArray, List.length_cons, List.length_nil, Nat.reduceAdd, Nat.reduceSub, Array.replicate_succ, Array.replicate_zero, List.push_toArray, List.append_toArray, List.nil_append, List.cons_append]
  gi_wp2
  clear c0
  gi_loopw [3] (fun i wr => ∃ (I : Int) (k : Nat), i = .int .i64 I ∧ Hid (I = (N : Int) - 1 - k) ∧ k ≤ N ∧ -1 ≤ I ∧ I < N ∧ J (xs.take k) wr ∧ Below w0.heap.size w0 wr ∧ wr.heap[Bs]? = W.heap[Bs]?)
    (fun i _ => (intOf i + 1).toNat)
  case atStart => exact ⟨(N : Int) - 1, 0, by first | rfl | go_num, by show _ = _; omega, Nat.zero_le _, by omega, by omega, h0, HbW.out, rfl⟩
  case round =>
    obtain ⟨I, k, rfl, HI, hk, hI1, hI2, hJ, hbr, hbs⟩ := hrel
    have c0 := (show Box wr Bs _ _ from hbs.trans HBW.out).cell 0
    by_cases hneg : I < 0
    · have q0 : ¬ (0 ≤ I) := by omega
      have hkN : k = N := by have := HI.out; omega
      rw [hkN, List.take_of_length_le (by rw [HXL.out]; exact Nat.le_refl _)] at hJ
      gi_wp2
      go_end0
      exact ⟨⟨_, rfl⟩, .inl hJ⟩
    · obtain ⟨j, rfl⟩ : ∃ j : Nat, I = j := ⟨I.toNat, by omega⟩
      have hjN : j < N := by omega
      have hkj : N - 1 - j = k := by have := HI.out; omega
      obtain ⟨x, hx⟩ : ∃ x, l[j]? = some x := ⟨_, List.getElem?_eq_getElem (by rw [← HN.out]; exact hjN)⟩
      obtain ⟨y, hy, ey⟩ := HAT.out j x hx
      rw [hkj] at hy
      obtain ⟨g1, o1, rfl, hg1, d1⟩ := HP.out j x hx
      replace d1 := fun i u hu => (hbr.cell (p := ⟨g1, o1 + j * 2 + i, none⟩) hg1).trans (d1 i u hu)
      have x0 := d1 0 _ rfl
      have x1 := d1 1 _ rfl
      rw [Nat.add_zero] at x0
      have hkl : k < xs.length := (List.getElem?_eq_some_iff.1 hy).1
      obtain ⟨fn, tmps, assign, body, hyy, hR⟩ := HY.out (xs.take k) y wr hJ (by rw [List.length_take]; omega)
      have hsn : xs.take (k + 1) = xs.take k ++ [y] := by rw [List.take_add_one, hy]; rfl
      rw [← hsn] at hR
      obtain ⟨⟨yi, yx⟩, yf⟩ := y
      dsimp only at ey
      cases ey
      unfold encZI at hyy
      dsimp only at hyy
      have q1 : (j : Int) < (N : Int) := by omega
      have q2 : (0 : Int) ≤ (j : Int) := by omega
      have hpre : xs.take (k + 1) <+: xs := List.take_prefix _ _
      have HPRE := Lib.hid hpre
      have HB := Lib.hid hbr; have HBS := Lib.hid hbs
      clear d1 hx hy hkj hJ hsn hpre hbr hbs
      gi_wp2
      refine hR.mono ?_
      clear hR
      rintro e W3 (⟨rfl, hJ3, hk3⟩ | ⟨rfl, hJx3⟩)
      · have c3 := (show Box W3 Bs _ _ from hk3.2.trans (HBS.out.trans HBW.out)).cell 0
        have hb3 : Below w0.heap.size w0 W3 := HB.out.trans hk3.1
        have hs3 : W3.heap[Bs]? = W.heap[Bs]? := hk3.2.trans HBS.out
        have HH := Lib.hid (And.intro hJ3 (And.intro hb3 hs3))
        clear hJ3 hk3 hb3 hs3
        gi_wp2
        go_roundw
        case rel => exact ⟨(j : Int) - 1, k + 1, by first | rfl | go_num, by have := HI.out; show _ = _; omega, by have := HXL.out; omega, by omega, by omega, HH.out.1, HH.out.2.1, HH.out.2.2⟩
        case measure => first | (simp [intOf]; done) | (simp [intOf]; omega)
      · gi_wp2
        refine bodyPost_ret (results_none rfl _ _ _) rfl ?_
        exact ⟨⟨_, rfl⟩, .inr ⟨_, HPRE.out, hJx3⟩⟩
abbrev LI := { x : Nat × LinkV // x.2.name.size ≤ 9223372036854775807 ∧ (x.2.target.size ≤ 9223372036854775807) }
def encLI (x : LI) : Array Value := #[.int .i64 (x.1.1 : Int), .agg #[.string x.1.2.target, .string x.1.2.name]]
theorem make_links (p : Option Addr) (len cap : Nat) (w : World) : Calls Try.prog 59 #[.slice p len cap] w fun e w' => e = .returned (.func (.func 92) #[] #[.pointer (some ⟨w.heap.size, 0, none⟩)]) ∧ w' = w.alloc (.cells #[.slice p len cap] 24) := by
  go_enter Try.func59, Try.ntmps59
  go_wp2
  go_ret
  exact ⟨rfl, rfl⟩
set_option maxRecDepth 100000 in
set_option maxHeartbeats 3200000 in
theorem stops_links (F : Fence) (n : Nat) (h8 : F.fn 92) (hro : F.round = none) (hn : 1 ≤ n) (Bs : Nat) (w0 w : World) (v : Value) (l : List LinkV) (hH : HoldsG 2 LinkV.cells w0 v l) (hw : Below w0.heap.size w0 w) (hBs : Box w Bs #[v] 24) (hw0 : w0.heap.size ≤ Bs)
    (hlen : l.length ≤ 100000) (xs : List LI) (hxs : xs.map (·.1) = rev l) :
    SeqStopsK F n Try.prog 92 #[.pointer (some ⟨Bs, 0, none⟩)] encLI (fun A B => Below w0.heap.size A B ∧ B.heap[Bs]? = A.heap[Bs]?) (fun ys => ys = xs) (fun pre => pre <+: xs) xs.length w := fun lp J Jx W hW _ _ hY h0 => by
  have hl : xs.length = l.length := by have := congrArg List.length hxs; rw [List.length_map, rev_len] at this; exact this
  obtain ⟨p, cap, rfl, hp⟩ := hH.pk
  obtain ⟨N, hN⟩ : ∃ N, N = l.length := ⟨_, rfl⟩
  have hBW : Box W Bs #[.slice p N cap] 24 := by rw [hN]; exact hBs.later hW
  have hbW : Below w0.heap.size w0 W := hw.trans (hW.mono hw.size)
  have hat : ∀ k x, l[k]? = some x → ∃ y : LI, xs[N - 1 - k]? = some y ∧ y.1 = (k, x) := fun k x hx => by
    have h1 := rev_at hx
    rw [← hxs, List.getElem?_map, ← hN] at h1
    obtain ⟨y, hy, e⟩ := Option.map_eq_some_iff.1 h1
    exact ⟨y, hy, e⟩
  rw [← hN] at hl hlen
  have HN := Lib.hid hN; have HP := Lib.hid hp; have HAT := Lib.hid hat; have HXL := Lib.hid hl; have HY := Lib.hid hY
  have c0 := hBW.cell 0
  have HBW := Lib.hid hBW; have HbW := Lib.hid hbW
  clear hN hp hH hat hl hY hBs hW hw hxs hBW hbW
  refine callsIn_of_wp Try.func92 rfl h8 ?_ hro
  simp only [Try.ntmps92, List.size_toArray, List.length_cons, List.length_nil, Nat.reduceAdd, Nat.reduceSub, Array.replicate_succ, Array.replicate_zero, List.push_toArray, List.append_toArray, List.nil_append, List.cons_append]
  gi_wp2
  clear c0
  gi_loopw [3] (fun i wr => ∃ (I : Int) (k : Nat), i = .int .i64 I ∧ Hid (I = (N : Int) - 1 - k) ∧ k ≤ N ∧ -1 ≤ I ∧ I < N ∧ J (xs.take k) wr ∧ Below w0.heap.size w0 wr ∧ wr.heap[Bs]? = W.heap[Bs]?)
    (fun i _ => (intOf i + 1).toNat)
  case atStart => exact ⟨(N : Int) - 1, 0, by first | rfl | go_num, by show _ = _; omega, Nat.zero_le _, by omega, by omega, h0, HbW.out, rfl⟩
  case round =>
    obtain ⟨I, k, rfl, HI, hk, hI1, hI2, hJ, hbr, hbs⟩ := hrel
    have c0 := (show Box wr Bs _ _ from hbs.trans HBW.out).cell 0
    by_cases hneg : I < 0
    · have q0 : ¬ (0 ≤ I) := by omega
      have hkN : k = N := by have := HI.out; omega
      rw [hkN, List.take_of_length_le (by rw [HXL.out]; exact Nat.le_refl _)] at hJ
      gi_wp2
      go_end0
      exact ⟨⟨_, rfl⟩, .inl hJ⟩
    · obtain ⟨j, rfl⟩ : ∃ j : Nat, I = j := ⟨I.toNat, by omega⟩
      have hjN : j < N := by omega
      have hkj : N - 1 - j = k := by have := HI.out; omega
      obtain ⟨x, hx⟩ : ∃ x, l[j]? = some x := ⟨_, List.getElem?_eq_getElem (by rw [← HN.out]; exact hjN)⟩
      obtain ⟨y, hy, ey⟩ := HAT.out j x hx
      rw [hkj] at hy
      obtain ⟨g1, o1, rfl, hg1, d1⟩ := HP.out j x hx
      replace d1 := fun i u hu => (hbr.cell (p := ⟨g1, o1 + j * 2 + i, none⟩) hg1).trans (d1 i u hu)
      have x0 := d1 0 _ rfl
      have x1 := d1 1 _ rfl
      rw [Nat.add_zero] at x0
      have hkl : k < xs.length := (List.getElem?_eq_some_iff.1 hy).1
      obtain ⟨fn, tmps, assign, body, hyy, hR⟩ := HY.out (xs.take k) y wr hJ (by rw [List.length_take]; omega)
      have hsn : xs.take (k + 1) = xs.take k ++ [y] := by rw [List.take_add_one, hy]; rfl
      rw [← hsn] at hR
      obtain ⟨⟨yi, yx⟩, yf⟩ := y
      dsimp only at ey
      cases ey
      unfold encLI at hyy
      dsimp only at hyy
      have q1 : (j : Int) < (N : Int) := by omega
      have q2 : (0 : Int) ≤ (j : Int) := by omega
      have hpre : xs.take (k + 1) <+: xs := List.take_prefix _ _
      have HPRE := Lib.hid hpre
      have HB := Lib.hid hbr; have HBS := Lib.hid hbs
      clear d1 hx hy hkj hJ hsn hpre hbr hbs
      gi_wp2
      refine hR.mono ?_
      clear hR
      rintro e W3 (⟨rfl, hJ3, hk3⟩ | ⟨rfl, hJx3⟩)
      · have c3 := (show Box W3 Bs _ _ from hk3.2.trans (HBS.out.trans HBW.out)).cell 0
        have hb3 : Below w0.heap.size w0 W3 := HB.out.trans hk3.1
        have hs3 : W3.heap[Bs]? = W.heap[Bs]? := hk3.2.trans HBS.out
        have HH := Lib.hid (And.intro hJ3 (And.intro hb3 hs3))
        clear hJ3 hk3 hb3 hs3
        gi_wp2
        go_roundw
        case rel => exact ⟨(j : Int) - 1, k + 1, by first | rfl | go_num, by have := HI.out; show _ = _; omega, by have := HXL.out; omega, by omega, by omega, HH.out.1, HH.out.2.1, HH.out.2.2⟩
        case measure => first | (simp [intOf]; done) | (simp [intOf]; omega)
      · gi_wp2
        refine bodyPost_ret (results_none rfl _ _ _) rfl ?_
        exact ⟨⟨_, rfl⟩, .inr ⟨_, HPRE.out, hJx3⟩⟩
end Back
end Go.Proofs.Ytcfmchpoclkpgaa
