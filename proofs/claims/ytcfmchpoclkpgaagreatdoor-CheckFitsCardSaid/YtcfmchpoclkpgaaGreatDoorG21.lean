import Derived.Test.YtcfmchpoclkpgaaGreatDoorG6
import Derived.Test.YtcfmchpoclkpgaaGreatDoorCheck
import Derived.Test.YtcfmchpoclkpgaaGreatDoorChkQ
import Derived.RangeFuncNested
import Derived.RangeFuncBound
import Derived.RangeFuncCalls
import Derived.RangeFuncLeaves
import Derived.Shelf.Abstract
import Derived.Shelf.RegionOpen
import Derived.WalkKit
import Derived.OwnWalkIn
import Derived.TacticsInMore
import Derived.LoopNIn
import Derived.LoopIn
import Derived.Test.YtcfmchpoclkpgaaGreatDoorG19
namespace Go.Proofs.YtcfmchpoclkpgaaGreatDoor
open Go.RowKit NB
namespace Us
def us0 : RuleV := ⟨⟨#[85, 83]⟩, 2007, 32767, 3, 2, 0, 8, 7200, 0, 3600, ⟨#[68]⟩⟩
def us1 : RuleV := ⟨⟨#[85, 83]⟩, 2007, 32767, 11, 2, 0, 1, 7200, 0, 0, ⟨#[83]⟩⟩
def eu : RuleV := ⟨⟨#[69, 85]⟩, 1981, 32767, 3, 1, 0, 0, 3600, 2, 3600, ⟨#[83]⟩⟩
theorem Eu (w : World) : Calls Tryz.prog 26 #[] w fun e w' => e = .returned (.agg eu.cells.toArray) ∧ Below w.heap.size w w' := by
  unfold eu RuleV.cells
  go_enter Tryz.func26, Tryz.ntmps26
  go_wp2
  refine bodyPost_ret (v := .agg #[.string ⟨#[69, 85]⟩, .int .i64 1981, .int .i64 32767, .int .i64 3, .int .i64 1, .int .i64 0, .int .i64 0, .int .i64 3600, .int .i64 2, .int .i64 3600, .string ⟨#[83]⟩]) ?_ rfl ⟨rfl, ?_⟩
  · simp only [results, Tryz.results26]
    go_simp
  · exact (Below.refl _ _).alloc (Nat.le_refl _) _
def zero : RuleV := ⟨⟨#[]⟩, 0, 0, 0, 0, 0, 0, 0, 0, 0, ⟨#[]⟩⟩
def enn : RuleV := ⟨⟨#[69, 85]⟩, 1981, 32767, 4, 0, 0, 1, 3600, 2, 3600, ⟨#[83]⟩⟩
def emm : RuleV := ⟨⟨#[69, 85]⟩, 1992, 32767, 4, 0, 0, 1, 3600, 2, 3600, ⟨#[83]⟩⟩
def eoo : RuleV := ⟨⟨#[69, 85]⟩, 1981, 1990, 3, 1, 0, 0, 3600, 2, 3600, ⟨#[83]⟩⟩
theorem fit_eu : eu.Fit := ⟨by decide, by decide, by unfold I64;decide, by unfold I64;decide, by unfold I64;decide, by unfold I64;decide⟩
end Us
end Go.Proofs.YtcfmchpoclkpgaaGreatDoor
namespace Go.Proofs.YtcfmchpoclkpgaaGreatDoor
open Go.RowKit NB
namespace Us
end Us
end Go.Proofs.YtcfmchpoclkpgaaGreatDoor
namespace Go.Proofs.YtcfmchpoclkpgaaGreatDoor
namespace CkL
open Ck
abbrev sA : ByteArray := ⟨#[65]⟩
abbrev sB : ByteArray := ⟨#[66]⟩
def e0 : EraV := ⟨0, 2, 0, ⟨#[69, 85]⟩, ⟨#[88]⟩, ⟨false, 0, 0, 0, 0, 0, 0, 0⟩⟩
def zA (v : Value) : ZoneV := ⟨sA, v, [e0]⟩
def zE : ZoneV := ⟨⟨#[]⟩, .slice none 0 0, []⟩
def lL : List LinkV := [⟨sB, sA⟩, ⟨sA, sB⟩]
def lM : List LinkV := [⟨sB, sA⟩]
theorem ok0 : Zn.zoneB [e0] = true := by decide +kernel
theorem cu (l : List RuleV) : Unt.checkU l [e0] = (-1, 0) := by
  unfold Unt.checkU
  rw [if_pos ok0]
  rfl
theorem era1 (l : List RuleV) (done : List ByteArray) (name : ByteArray) (ns : List Int) : eraFs l done name [e0] ns = [(ns.getD 0 0, if (done.any fun y => decide (y = name)) = true then 11 else if named l ⟨#[69, 85]⟩ = false then 12 else 0)] := by
  have h : eraF l done name [e0] 0 e0 = if (done.any fun y => decide (y = name)) = true then 11 else if named l ⟨#[69, 85]⟩ = false then 12 else 0 := by
    unfold eraF
    rw [cu]
    by_cases h1 : (done.any fun y => decide (y = name)) = true
    · rw [if_pos ⟨rfl, h1⟩, if_pos h1]
    · rw [if_neg (fun h => h1 h.2), if_neg h1]
      by_cases h2 : named l ⟨#[69, 85]⟩ = false
      · rw [if_pos ⟨rfl, h2⟩, if_pos h2]
      · rw [if_neg (fun h => h2 h.2), if_neg h2, if_neg (show ¬ ((-1 : Int) = ((0 : Nat) : Int)) by decide)]
  show [(ns.getD 0 0, eraF l done name [e0] 0 e0)] = _
  rw [h]
theorem z1 (l : List RuleV) (v : Value) (n : Int) : zoneFs l [zA v] [[n]] = [(n, if named l ⟨#[69, 85]⟩ = false then 12 else 0)] := by
  show eraFs l [] sA [e0] [n] ++ [] = _
  rw [era1, List.append_nil]
  rfl
theorem z2 (l : List RuleV) (v u : Value) (n m : Int) : zoneFs l [zA v, zA u] [[n], [m]] = [(n, if named l ⟨#[69, 85]⟩ = false then 12 else 0), (m, 11)] := by
  show eraFs l [] sA [e0] [n] ++ (eraFs l [sA] sA [e0] [m] ++ []) = _
  rw [era1, era1, List.append_nil]
  have h : ([sA].any fun y => decide (y = sA)) = true := by decide +kernel
  rw [if_pos h]
  rfl
theorem wh (nr nl : Nat) (zs : List ZoneV) (rs : List Int) (es : List (List Int)) (ls : List Int) (h1 : rs.length = nr) (h2 : es.length = zs.length) (h3 : ls.length = nl) (h4 : (zs.zip es).all zoneOk = true) (h5 : ((lines rs es ls).all fun n => decide (1 ≤ n)) = true) : whereB nr zs nl rs es ls = true := whereB_of h1 h2 h3 h4 h5
theorem okA (v : Value) (n : Int) : zoneOk (zA v, [n]) = true := by
  unfold zoneOk zA
  dsimp only
  rw [ok0]
  rfl
theorem k1 (v : Value) : chk [] [zA v] [] [] [[1]] [] = (1, 12) := by
  unfold chk
  have hw : whereB ([] : List RuleV).length [zA v] ([] : List LinkV).length [] [[1]] [] = true := wh _ _ _ _ _ _ rfl rfl rfl (by simp [okA]) (by decide)
  rw [if_pos hw, show all [] [zA v] [] [] [[1]] [] = zoneFs [] [zA v] [[1]] ++ ([] ++ []) from rfl, z1]
  decide +kernel
theorem w1 (v : Value) : whereB ([Us.eu] : List RuleV).length [zA v] ([] : List LinkV).length [2] [[1]] [] = true := wh _ _ _ _ _ _ rfl rfl rfl (by simp [okA]) (by decide)
theorem k2 (v : Value) : chk [Us.eu] [zA v] [] [2] [[1]] [] = (0, 0) := by
  unfold chk
  rw [if_pos (w1 v), show all [Us.eu] [zA v] [] [2] [[1]] [] = zoneFs [Us.eu] [zA v] [[1]] ++ (ruleFs [Us.eu] [2] ++ []) from rfl, z1]
  decide +kernel
theorem k3 : chk [] [] lL [] [] [4, 1] = (1, 13) := by
  unfold chk
  rw [if_pos (by decide +kernel), show all [] [] lL [] [] [4, 1] = [] ++ ([] ++ linkFs [] lL [4, 1]) from rfl]
  decide +kernel
theorem k4 : chk [] [] lM [] [] [4] = (4, 12) := by
  unfold chk
  rw [if_pos (by decide +kernel), show all [] [] lM [] [] [4] = [] ++ ([] ++ linkFs [] lM [4]) from rfl]
  decide +kernel
theorem k5 (v u : Value) : chk [Us.eu] [zA v, zA u] [] [9] [[1], [2]] [] = (2, 11) := by
  unfold chk
  have hw : whereB ([Us.eu] : List RuleV).length [zA v, zA u] ([] : List LinkV).length [9] [[1], [2]] [] = true := wh _ _ _ _ _ _ rfl rfl rfl (by simp [okA]) (by decide)
  rw [if_pos hw, show all [Us.eu] [zA v, zA u] [] [9] [[1], [2]] [] = zoneFs [Us.eu] [zA v, zA u] [[1], [2]] ++ (ruleFs [Us.eu] [9] ++ []) from rfl, z2]
  decide +kernel
theorem k6 (v : Value) : chk [Us.eu, Us.eu] [zA v] [] [9, 3] [[5]] [] = (3, 15) := by
  unfold chk
  have hw : whereB ([Us.eu, Us.eu] : List RuleV).length [zA v] ([] : List LinkV).length [9, 3] [[5]] [] = true := wh _ _ _ _ _ _ rfl rfl rfl (by simp [okA]) (by decide)
  rw [if_pos hw, show all [Us.eu, Us.eu] [zA v] [] [9, 3] [[5]] [] = zoneFs [Us.eu, Us.eu] [zA v] [[5]] ++ (ruleFs [Us.eu, Us.eu] [9, 3] ++ []) from rfl, z1]
  decide +kernel
theorem k7 (v : Value) : chk [] [zA v] [] [] [] [] = (0, 4) := by
  unfold chk
  rw [if_neg (by unfold whereB;simp)]
theorem k8 (v : Value) : chk [] [zA v] [] [] [[0]] [] = (0, 4) := by
  unfold chk
  rw [if_neg (by unfold whereB lines;simp)]
theorem k9 : chk [] [] [] [] [] [] = (0, 0) := by
  unfold chk
  rw [if_pos (by decide +kernel)]
  rfl
theorem w2 (v : Value) : whereB ([Us.eu] : List RuleV).length [zA v] ([] : List LinkV).length [] [[1]] [] = false := by unfold whereB;simp
theorem w3 : whereB ([] : List RuleV).length [zE] ([] : List LinkV).length [] [[]] [] = false := by decide +kernel
end CkL
end Go.Proofs.YtcfmchpoclkpgaaGreatDoor
namespace Go.Proofs.YtcfmchpoclkpgaaGreatDoor
open Go.RowKit Go.Shelf NB
attribute [local go_sem] Oper.semAt_some
namespace Back
def rev {α : Type} (l : List α) : List (Nat × α) := (l.zipIdx.map fun p => (p.2, p.1)).reverse
theorem rev_len {α : Type} (l : List α) : (rev l).length = l.length := by simp [rev]
theorem rev_at {α : Type} {l : List α} {k : Nat} {x : α} (hx : l[k]? = some x) : (rev l)[l.length - 1 - k]? = some (k, x) := by
  have hk := (List.getElem?_eq_some_iff.1 hx).1
  unfold rev
  rw [List.getElem?_reverse (by simp;omega)]
  simp only [List.length_map, List.length_zipIdx]
  rw [show l.length - 1 - (l.length - 1 - k) = k by omega]
  simp [hx]
abbrev ZI := { x : Nat × ZoneV // x.2.name.size ≤ 9223372036854775807 ∧ (∃ q m c, x.2.v = .slice q m c) }
def encZI (x : ZI) : Array Value := #[.int .i64 (x.1.1 : Int), .agg #[.string x.1.2.name, x.1.2.v]]
theorem make_zones (p : Option Addr) (len cap : Nat) (w : World) : Calls Tryz.prog 43 #[.slice p len cap] w fun e w' => e = .returned (.func (.func 78) #[] #[.pointer (some ⟨w.heap.size, 0, none⟩)]) ∧ w' = w.alloc (.cells #[.slice p len cap] 23) := by
  go_enter Tryz.func43, Tryz.ntmps43
  go_wp2
  go_ret
  exact ⟨rfl, rfl⟩
set_option maxRecDepth 100000 in
set_option maxHeartbeats 3200000 in
theorem stops_zones (F : Fence) (n : Nat) (h8 : F.fn 78) (hro : F.round = none) (hn : 1 ≤ n) (Bs : Nat) (w0 w : World) (v : Value) (l : List ZoneV) (hH : HoldsG 2 ZoneV.cells w0 v l) (hw : Below w0.heap.size w0 w) (hBs : Box w Bs #[v] 23) (_hw0 : w0.heap.size ≤ Bs)
    (hlen : l.length ≤ 100000) (xs : List ZI) (hxs : xs.map (·.1) = rev l) :
    SeqStopsK F n Tryz.prog 78 #[.pointer (some ⟨Bs, 0, none⟩)] encZI (fun A B => Below w0.heap.size A B ∧ B.heap[Bs]? = A.heap[Bs]?) (fun ys => ys = xs) (fun pre => pre <+: xs) xs.length w := fun lp J Jx W hW _ _ hY h0 => by
  have hl : xs.length = l.length := by have := congrArg List.length hxs;rw [List.length_map, rev_len] at this;exact this
  obtain ⟨p, cap, rfl, hp⟩ := hH.pk
  obtain ⟨N, hN⟩ : ∃ N, N = l.length := ⟨_, rfl⟩
  have hBW : Box W Bs #[.slice p N cap] 23 := by rw [hN];exact hBs.later hW
  have hbW : Below w0.heap.size w0 W := hw.trans (hW.mono hw.size)
  have hat : ∀ k x, l[k]? = some x → ∃ y : ZI, xs[N - 1 - k]? = some y ∧ y.1 = (k, x) := fun k x hx => by
    have h1 := rev_at hx
    rw [← hxs, List.getElem?_map, ← hN] at h1
    obtain ⟨y, hy, e⟩ := Option.map_eq_some_iff.1 h1
    exact ⟨y, hy, e⟩
  rw [← hN] at hl hlen
  have HN := Lib.hid hN;have HP := Lib.hid hp;have HAT := Lib.hid hat;have HXL := Lib.hid hl;have HY := Lib.hid hY
  have c0 := hBW.cell 0
  have HBW := Lib.hid hBW;have HbW := Lib.hid hbW
  clear hN hp hH hat hl hY hBs hW hw hxs hBW hbW
  refine callsIn_of_wp Tryz.func78 rfl h8 ?_ hro
  simp only [Tryz.ntmps78, List.size_toArray, List.length_cons, List.length_nil, Nat.reduceAdd, Nat.reduceSub, Array.replicate_succ, Array.replicate_zero, List.push_toArray, List.append_toArray, List.nil_append, List.cons_append]
  gi_wp2
  clear c0
  gi_loopw [3] (fun i wr => ∃ (I : Int) (k : Nat), i = .int .i64 I ∧ Hid (I = (N : Int) - 1 - k) ∧ k ≤ N ∧ -1 ≤ I ∧ I < N ∧ J (xs.take k) wr ∧ Below w0.heap.size w0 wr ∧ wr.heap[Bs]? = W.heap[Bs]?)
    (fun i _ => (intOf i + 1).toNat)
  case atStart => exact ⟨(N : Int) - 1, 0, by first|rfl|go_num, by show _ = _;omega, Nat.zero_le _, by omega, by omega, h0, HbW.out, rfl⟩
  case round =>
    obtain ⟨I, k, rfl, HI, hk, hI1, hI2, hJ, hbr, hbs⟩ := hrel
    have c0 := (show Box wr Bs _ _ from hbs.trans HBW.out).cell 0
    by_cases hneg : I < 0
    · have q0 : ¬ (0 ≤ I) := by omega
      have hkN : k = N := by have := HI.out;omega
      rw [hkN, List.take_of_length_le (by rw [HXL.out];exact Nat.le_refl _)] at hJ
      gi_wp2
      go_end0
      exact ⟨⟨_, rfl⟩, .inl hJ⟩
    · obtain ⟨j, rfl⟩ : ∃ j : Nat, I = j := ⟨I.toNat, by omega⟩
      have hjN : j < N := by omega
      have hkj : N - 1 - j = k := by have := HI.out;omega
      obtain ⟨x, hx⟩ : ∃ x, l[j]? = some x := ⟨_, List.getElem?_eq_getElem (by rw [← HN.out];exact hjN)⟩
      obtain ⟨y, hy, ey⟩ := HAT.out j x hx
      rw [hkj] at hy
      obtain ⟨g1, o1, rfl, hg1, d1⟩ := HP.out j x hx
      replace d1 := fun i u hu => (hbr.cell (p := ⟨g1, o1 + j * 2 + i, none⟩) hg1).trans (d1 i u hu)
      have x0 := d1 0 _ rfl
      have x1 := d1 1 _ rfl
      rw [Nat.add_zero] at x0
      have hkl : k < xs.length := (List.getElem?_eq_some_iff.1 hy).1
      obtain ⟨fn, tmps, assign, body, hyy, hR⟩ := HY.out (xs.take k) y wr hJ (by rw [List.length_take];omega)
      have hsn : xs.take (k + 1) = xs.take k ++ [y] := by rw [List.take_add_one, hy];rfl
      rw [← hsn] at hR
      obtain ⟨⟨yi, yx⟩, yf⟩ := y
      dsimp only at ey
      cases ey
      unfold encZI at hyy
      dsimp only at hyy
      have q1 : (j : Int) < (N : Int) := by omega
      have q2 : (0 : Int) ≤ (j : Int) := by omega
      have hpre : xs.take (k + 1) <+: xs := List.take_prefix _ _
      have HPRE := Lib.hid hpre
      have HB := Lib.hid hbr;have HBS := Lib.hid hbs
      clear d1 hx hy hkj hJ hsn hpre hbr hbs
      gi_wp2
      refine hR.mono ?_
      clear hR
      rintro e W3 (⟨rfl, hJ3, hk3⟩|⟨rfl, hJx3⟩)
      · have c3 := (show Box W3 Bs _ _ from hk3.2.trans (HBS.out.trans HBW.out)).cell 0
        have hb3 : Below w0.heap.size w0 W3 := HB.out.trans hk3.1
        have hs3 : W3.heap[Bs]? = W.heap[Bs]? := hk3.2.trans HBS.out
        have HH := Lib.hid (And.intro hJ3 (And.intro hb3 hs3))
        clear hJ3 hk3 hb3 hs3
        gi_wp2
        go_roundw
        case rel => exact ⟨(j : Int) - 1, k + 1, by first|rfl|go_num, by have := HI.out;show _ = _;omega, by have := HXL.out;omega, by omega, by omega, HH.out.1, HH.out.2.1, HH.out.2.2⟩
        case measure => first|(simp [intOf];done)|(simp [intOf];omega)
      · gi_wp2
        refine bodyPost_ret (results_none rfl _ _ _) rfl ?_
        exact ⟨⟨_, rfl⟩, .inr ⟨_, HPRE.out, hJx3⟩⟩
abbrev LI := { x : Nat × LinkV // x.2.name.size ≤ 9223372036854775807 ∧ (x.2.target.size ≤ 9223372036854775807) }
def encLI (x : LI) : Array Value := #[.int .i64 (x.1.1 : Int), .agg #[.string x.1.2.target, .string x.1.2.name]]
theorem make_links (p : Option Addr) (len cap : Nat) (w : World) : Calls Tryz.prog 44 #[.slice p len cap] w fun e w' => e = .returned (.func (.func 79) #[] #[.pointer (some ⟨w.heap.size, 0, none⟩)]) ∧ w' = w.alloc (.cells #[.slice p len cap] 24) := by
  go_enter Tryz.func44, Tryz.ntmps44
  go_wp2
  go_ret
  exact ⟨rfl, rfl⟩
set_option maxRecDepth 100000 in
set_option maxHeartbeats 3200000 in
theorem stops_links (F : Fence) (n : Nat) (h8 : F.fn 79) (hro : F.round = none) (hn : 1 ≤ n) (Bs : Nat) (w0 w : World) (v : Value) (l : List LinkV) (hH : HoldsG 2 LinkV.cells w0 v l) (hw : Below w0.heap.size w0 w) (hBs : Box w Bs #[v] 24) (_hw0 : w0.heap.size ≤ Bs)
    (hlen : l.length ≤ 100000) (xs : List LI) (hxs : xs.map (·.1) = rev l) :
    SeqStopsK F n Tryz.prog 79 #[.pointer (some ⟨Bs, 0, none⟩)] encLI (fun A B => Below w0.heap.size A B ∧ B.heap[Bs]? = A.heap[Bs]?) (fun ys => ys = xs) (fun pre => pre <+: xs) xs.length w := fun lp J Jx W hW _ _ hY h0 => by
  have hl : xs.length = l.length := by have := congrArg List.length hxs;rw [List.length_map, rev_len] at this;exact this
  obtain ⟨p, cap, rfl, hp⟩ := hH.pk
  obtain ⟨N, hN⟩ : ∃ N, N = l.length := ⟨_, rfl⟩
  have hBW : Box W Bs #[.slice p N cap] 24 := by rw [hN];exact hBs.later hW
  have hbW : Below w0.heap.size w0 W := hw.trans (hW.mono hw.size)
  have hat : ∀ k x, l[k]? = some x → ∃ y : LI, xs[N - 1 - k]? = some y ∧ y.1 = (k, x) := fun k x hx => by
    have h1 := rev_at hx
    rw [← hxs, List.getElem?_map, ← hN] at h1
    obtain ⟨y, hy, e⟩ := Option.map_eq_some_iff.1 h1
    exact ⟨y, hy, e⟩
  rw [← hN] at hl hlen
  have HN := Lib.hid hN;have HP := Lib.hid hp;have HAT := Lib.hid hat;have HXL := Lib.hid hl;have HY := Lib.hid hY
  have c0 := hBW.cell 0
  have HBW := Lib.hid hBW;have HbW := Lib.hid hbW
  clear hN hp hH hat hl hY hBs hW hw hxs hBW hbW
  refine callsIn_of_wp Tryz.func79 rfl h8 ?_ hro
  simp only [Tryz.ntmps79, List.size_toArray, List.length_cons, List.length_nil, Nat.reduceAdd, Nat.reduceSub, Array.replicate_succ, Array.replicate_zero, List.push_toArray, List.append_toArray, List.nil_append, List.cons_append]
  gi_wp2
  clear c0
  gi_loopw [3] (fun i wr => ∃ (I : Int) (k : Nat), i = .int .i64 I ∧ Hid (I = (N : Int) - 1 - k) ∧ k ≤ N ∧ -1 ≤ I ∧ I < N ∧ J (xs.take k) wr ∧ Below w0.heap.size w0 wr ∧ wr.heap[Bs]? = W.heap[Bs]?)
    (fun i _ => (intOf i + 1).toNat)
  case atStart => exact ⟨(N : Int) - 1, 0, by first|rfl|go_num, by show _ = _;omega, Nat.zero_le _, by omega, by omega, h0, HbW.out, rfl⟩
  case round =>
    obtain ⟨I, k, rfl, HI, hk, hI1, hI2, hJ, hbr, hbs⟩ := hrel
    have c0 := (show Box wr Bs _ _ from hbs.trans HBW.out).cell 0
    by_cases hneg : I < 0
    · have q0 : ¬ (0 ≤ I) := by omega
      have hkN : k = N := by have := HI.out;omega
      rw [hkN, List.take_of_length_le (by rw [HXL.out];exact Nat.le_refl _)] at hJ
      gi_wp2
      go_end0
      exact ⟨⟨_, rfl⟩, .inl hJ⟩
    · obtain ⟨j, rfl⟩ : ∃ j : Nat, I = j := ⟨I.toNat, by omega⟩
      have hjN : j < N := by omega
      have hkj : N - 1 - j = k := by have := HI.out;omega
      obtain ⟨x, hx⟩ : ∃ x, l[j]? = some x := ⟨_, List.getElem?_eq_getElem (by rw [← HN.out];exact hjN)⟩
      obtain ⟨y, hy, ey⟩ := HAT.out j x hx
      rw [hkj] at hy
      obtain ⟨g1, o1, rfl, hg1, d1⟩ := HP.out j x hx
      replace d1 := fun i u hu => (hbr.cell (p := ⟨g1, o1 + j * 2 + i, none⟩) hg1).trans (d1 i u hu)
      have x0 := d1 0 _ rfl
      have x1 := d1 1 _ rfl
      rw [Nat.add_zero] at x0
      have hkl : k < xs.length := (List.getElem?_eq_some_iff.1 hy).1
      obtain ⟨fn, tmps, assign, body, hyy, hR⟩ := HY.out (xs.take k) y wr hJ (by rw [List.length_take];omega)
      have hsn : xs.take (k + 1) = xs.take k ++ [y] := by rw [List.take_add_one, hy];rfl
      rw [← hsn] at hR
      obtain ⟨⟨yi, yx⟩, yf⟩ := y
      dsimp only at ey
      cases ey
      unfold encLI at hyy
      dsimp only at hyy
      have q1 : (j : Int) < (N : Int) := by omega
      have q2 : (0 : Int) ≤ (j : Int) := by omega
      have hpre : xs.take (k + 1) <+: xs := List.take_prefix _ _
      have HPRE := Lib.hid hpre
      have HB := Lib.hid hbr;have HBS := Lib.hid hbs
      clear d1 hx hy hkj hJ hsn hpre hbr hbs
      gi_wp2
      refine hR.mono ?_
      clear hR
      rintro e W3 (⟨rfl, hJ3, hk3⟩|⟨rfl, hJx3⟩)
      · have c3 := (show Box W3 Bs _ _ from hk3.2.trans (HBS.out.trans HBW.out)).cell 0
        have hb3 : Below w0.heap.size w0 W3 := HB.out.trans hk3.1
        have hs3 : W3.heap[Bs]? = W.heap[Bs]? := hk3.2.trans HBS.out
        have HH := Lib.hid (And.intro hJ3 (And.intro hb3 hs3))
        clear hJ3 hk3 hb3 hs3
        gi_wp2
        go_roundw
        case rel => exact ⟨(j : Int) - 1, k + 1, by first|rfl|go_num, by have := HI.out;show _ = _;omega, by have := HXL.out;omega, by omega, by omega, HH.out.1, HH.out.2.1, HH.out.2.2⟩
        case measure => first|(simp [intOf];done)|(simp [intOf];omega)
      · gi_wp2
        refine bodyPost_ret (results_none rfl _ _ _) rfl ?_
        exact ⟨⟨_, rfl⟩, .inr ⟨_, HPRE.out, hJx3⟩⟩
end Back
end Go.Proofs.YtcfmchpoclkpgaaGreatDoor
