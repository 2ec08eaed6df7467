import Derived.Shelf.SortM.Plain
import Derived.Shelf.SortM.SortNone
import Derived.Shelf.SlIter.Nil
import Derived.Sort.OwnSorted
import Derived.Shelf.SlGeneric
import Derived.Test.YtcfmchpoclkpgaaGreatDoorG17
import Derived.Test.YtcfmchpoclkpgaaGreatDoorG18
import Derived.Test.YtcfmchpoclkpgaaGreatDoorG19
import Derived.Sort.Walk0
import Derived.Test.YtcfmchpoclkpgaaGreatDoorG15
import Derived.Test.YtcfmchpoclkpgaaGreatDoorCheck
namespace Go.Proofs.YtcfmchpoclkpgaaGreatDoor
open Go.RowKit NB Go.Sort Go.Shelf
def Tryz.sortS_ren : Go.Shelf.Ren := ⟨fun|6 => 56|8 => 100|9 => 99|19 => 161|20 => 162|21 => 152|22 => 153|23 => 154|24 => 155|25 => 156|26 => 157|27 => 158|28 => 159|29 => 160|36 => 217|31 => 218|32 => 219|37 => 220|38 => 221|39 => 222|41 => 273|n => n, fun|27 => 64|29 => 9|3 => 3|32 => 172|26 => 64|0 => 0|44 => 234|46 => 236|4 => 4|36 => 227|35 => 226|41 => 111|5 => 5|9 => 9|53 => 285|57 => 289|63 => 315|64 => 44|n => n, fun|n => n⟩
theorem Tryz.sortS : Go.Proofs.SlLaysM.n6 Tryz.prog Tryz.sortS_ren := {
  mixed := by kernel_rfl,
  f6 := ⟨Tryz.f56.name, by decide, Tryz.func56.trans (congrArg some (by kernel_rfl))⟩,
  f8 := Tryz.func100.trans (congrArg some (by kernel_rfl)),
  f9 := ⟨Tryz.f99.name, by decide, Tryz.func99.trans (congrArg some (by kernel_rfl))⟩,
  f19 := Tryz.func161.trans (congrArg some (by kernel_rfl)),
  f20 := Tryz.func162.trans (congrArg some (by kernel_rfl)),
  f21 := ⟨Tryz.f152.name, by decide, Tryz.func152.trans (congrArg some (by kernel_rfl))⟩,
  f22 := ⟨Tryz.f153.name, by decide, Tryz.func153.trans (congrArg some (by kernel_rfl))⟩,
  f23 := ⟨Tryz.f154.name, by decide, Tryz.func154.trans (congrArg some (by kernel_rfl))⟩,
  f24 := ⟨Tryz.f155.name, by decide, Tryz.func155.trans (congrArg some (by kernel_rfl))⟩,
  f25 := ⟨Tryz.f156.name, by decide, Tryz.func156.trans (congrArg some (by kernel_rfl))⟩,
  f26 := ⟨Tryz.f157.name, by decide, Tryz.func157.trans (congrArg some (by kernel_rfl))⟩,
  f27 := ⟨Tryz.f158.name, by decide, Tryz.func158.trans (congrArg some (by kernel_rfl))⟩,
  f28 := ⟨Tryz.f159.name, by decide, Tryz.func159.trans (congrArg some (by kernel_rfl))⟩,
  f29 := ⟨Tryz.f160.name, by decide, Tryz.func160.trans (congrArg some (by kernel_rfl))⟩,
  f31 := Tryz.func218.trans (congrArg some (by kernel_rfl)),
  f32 := Tryz.func219.trans (congrArg some (by kernel_rfl)),
  f36 := ⟨Tryz.f217.name, by decide, Tryz.func217.trans (congrArg some (by kernel_rfl))⟩,
  f37 := ⟨Tryz.f220.name, by decide, Tryz.func220.trans (congrArg some (by kernel_rfl))⟩,
  f38 := ⟨Tryz.f221.name, by decide, Tryz.func221.trans (congrArg some (by kernel_rfl))⟩,
  f39 := ⟨Tryz.f222.name, by decide, Tryz.func222.trans (congrArg some (by kernel_rfl))⟩,
  f41 := ⟨Tryz.f273.name, by decide, Tryz.func273.trans (congrArg some (by kernel_rfl))⟩,
  t0 := Tryz.underlying0,
  a0 := Tryz.isAgg0,
  z0 := Tryz.sizeOf0,
  v0 := Tryz.zeroValue0,
  t3 := Tryz.underlying3,
  a3 := Tryz.isAgg3,
  z3 := Tryz.sizeOf3,
  v3 := Tryz.zeroValue3,
  t4 := Tryz.underlying4,
  a4 := Tryz.isAgg4,
  z4 := Tryz.sizeOf4,
  v4 := Tryz.zeroValue4,
  t5 := Tryz.underlying5,
  a5 := Tryz.isAgg5,
  z5 := Tryz.sizeOf5,
  v5 := Tryz.zeroValue5,
  t9 := Tryz.underlying9,
  a9 := Tryz.isAgg9,
  z9 := Tryz.sizeOf9,
  v9 := Tryz.zeroValue9,
  t26 := Tryz.underlying64,
  a26 := Tryz.isAgg64,
  z26 := Tryz.sizeOf64,
  v26 := Tryz.zeroValue64,
  t27 := Tryz.underlying64,
  a27 := Tryz.isAgg64,
  z27 := Tryz.sizeOf64,
  v27 := Tryz.zeroValue64,
  t29 := Tryz.underlying9,
  a29 := Tryz.isAgg9,
  z29 := Tryz.sizeOf9,
  v29 := Tryz.zeroValue9,
  t32 := Tryz.underlying172,
  a32 := Tryz.isAgg172,
  z32 := Tryz.sizeOf172,
  v32 := Tryz.zeroValue172,
  t35 := Tryz.underlying226,
  a35 := Tryz.isAgg226,
  z35 := Tryz.sizeOf226,
  v35 := Tryz.zeroValue226,
  t36 := Tryz.underlying227,
  a36 := Tryz.isAgg227,
  z36 := Tryz.sizeOf227,
  v36 := Tryz.zeroValue227,
  t41 := Tryz.underlying111,
  a41 := Tryz.isAgg111,
  z41 := Tryz.sizeOf111,
  v41 := Tryz.zeroValue111,
  t44 := Tryz.underlying234,
  a44 := Tryz.isAgg234,
  z44 := Tryz.sizeOf234,
  v44 := Tryz.zeroValue234,
  t46 := Tryz.underlying236,
  a46 := Tryz.isAgg236,
  z46 := Tryz.sizeOf236,
  v46 := Tryz.zeroValue236,
  t53 := Tryz.underlying285,
  a53 := Tryz.isAgg285,
  z53 := Tryz.sizeOf285,
  v53 := Tryz.zeroValue285,
  t57 := Tryz.underlying289,
  a57 := Tryz.isAgg289,
  z57 := Tryz.sizeOf289,
  v57 := Tryz.zeroValue289,
  t63 := Tryz.underlying315,
  a63 := Tryz.isAgg315,
  z63 := Tryz.sizeOf315,
  v63 := Tryz.zeroValue315,
  t64 := Tryz.underlying44,
  a64 := Tryz.isAgg44,
  z64 := Tryz.sizeOf44,
  v64 := Tryz.zeroValue44 }
def Tryz.keysS_ren : Go.Shelf.Ren := ⟨fun|7 => 46|10 => 81|n => n, fun|23 => 90|26 => 9|3 => 4|28 => 108|0 => 0|27 => 107|33 => 131|4 => 4|n => n, fun|n => n⟩
theorem Tryz.keysS : Go.Proofs.SlLaysZ.n7 Tryz.prog Tryz.keysS_ren := {
  mixed := by kernel_rfl,
  f7 := ⟨Tryz.f46.name, by decide, Tryz.func46.trans (congrArg some (by kernel_rfl))⟩,
  f10 := ⟨Tryz.f81.name, by decide, Tryz.func81.trans (congrArg some (by kernel_rfl))⟩,
  t0 := Tryz.underlying0,
  a0 := Tryz.isAgg0,
  z0 := Tryz.sizeOf0,
  v0 := Tryz.zeroValue0,
  t4 := Tryz.underlying4,
  a4 := Tryz.isAgg4,
  z4 := Tryz.sizeOf4,
  v4 := Tryz.zeroValue4,
  t23 := Tryz.underlying90,
  a23 := Tryz.isAgg90,
  z23 := Tryz.sizeOf90,
  v23 := Tryz.zeroValue90,
  t26 := Tryz.underlying9,
  a26 := Tryz.isAgg9,
  z26 := Tryz.sizeOf9,
  v26 := Tryz.zeroValue9,
  t27 := Tryz.underlying107,
  a27 := Tryz.isAgg107,
  z27 := Tryz.sizeOf107,
  v27 := Tryz.zeroValue107,
  t28 := Tryz.underlying108,
  a28 := Tryz.isAgg108,
  z28 := Tryz.sizeOf108,
  v28 := Tryz.zeroValue108,
  t33 := Tryz.underlying131,
  a33 := Tryz.isAgg131,
  z33 := Tryz.sizeOf131,
  v33 := Tryz.zeroValue131 }
def Tryz.sortedS_ren : Go.Shelf.Ren := ⟨fun|6 => 45|8 => 80|9 => 56|11 => 135|13 => 100|12 => 99|23 => 161|24 => 162|14 => 152|15 => 153|16 => 154|17 => 155|18 => 156|19 => 157|20 => 158|21 => 159|22 => 160|25 => 217|26 => 218|27 => 219|28 => 220|29 => 221|30 => 222|31 => 273|n => n, fun|26 => 9|28 => 108|24 => 64|0 => 0|3 => 3|37 => 172|48 => 234|50 => 236|4 => 4|40 => 227|39 => 226|45 => 111|5 => 5|9 => 9|51 => 285|55 => 289|57 => 315|58 => 44|33 => 131|n => n, fun|n => n⟩
theorem Tryz.sortedS : Go.Proofs.SlLaysZ.n6 Tryz.prog Tryz.sortedS_ren := {
  mixed := by kernel_rfl,
  f6 := ⟨Tryz.f45.name, by decide, Tryz.func45.trans (congrArg some (by kernel_rfl))⟩,
  f8 := ⟨Tryz.f80.name, by decide, Tryz.func80.trans (congrArg some (by kernel_rfl))⟩,
  f11 := ⟨Tryz.f135.name, by decide, Tryz.func135.trans (congrArg some (by kernel_rfl))⟩,
  t0 := Tryz.underlying0,
  a0 := Tryz.isAgg0,
  z0 := Tryz.sizeOf0,
  v0 := Tryz.zeroValue0,
  t24 := Tryz.underlying64,
  a24 := Tryz.isAgg64,
  z24 := Tryz.sizeOf64,
  v24 := Tryz.zeroValue64,
  t26 := Tryz.underlying9,
  a26 := Tryz.isAgg9,
  z26 := Tryz.sizeOf9,
  v26 := Tryz.zeroValue9,
  t28 := Tryz.underlying108,
  a28 := Tryz.isAgg108,
  z28 := Tryz.sizeOf108,
  v28 := Tryz.zeroValue108,
  i26 := by kernel_rfl }

namespace SrtS
theorem enc_unb (l : List (List UInt8)) : l.map encStr = (unb l).flatMap strc := by
  induction l with
  | nil => rfl
  | cons x r ih => rw [List.map_cons, ih];rfl
theorem unb_len (l : List (List UInt8)) : (unb l).length = l.length := List.length_map _
theorem sorts (m : Nat) : AnyZ.SortsIn Tryz.prog Tryz.sortedS_ren Fence.wide m :=
  ⟨fun blk off cap ss W hH hblk hsz => callsIn_wide.2 (AnyM.slices_Sort_string Tryz.sortS blk off cap ss W hH hblk hsz),
   fun p cap W => callsIn_wide.2 (AnyM.slices_Sort_string_none Tryz.sortS p cap W)⟩
theorem Keys (mb : Option Nat) (w : World) : Calls Tryz.prog 46 #[.map mb] w fun e w' => e = .returned (.func (.func 81) #[] #[.pointer (some ⟨w.heap.size, 0, none⟩)]) ∧ w' = w.alloc (.cells #[.map mb] 90) :=
  callsIn_wide.1 (AnyZ.keys_in Tryz.keysS Fence.wide 6 trivial rfl mb w)
theorem Sorted {w : World} {b Bm : Nat} {L : List Mp.Ent} (h : Mp.Lies w Tryz.prog 9 b L) (hv : ∀ p ∈ L, ∃ x, p.2 = .bool x) (hB : Box w Bm #[.map (some b)] 90) (hL : L.length ≤ 100000) :
    Calls Tryz.prog 45 #[.func (.func 81) #[] #[.pointer (some ⟨Bm, 0, none⟩)]] w fun e w' => ∃ v, e = .returned v ∧
      OwnS w' w.heap.size v (sortL (L.map (·.1))) ∧ Below w.heap.size w w' := by
  obtain ⟨D, hown, hsz, hperm⟩ := h.owns (H := Unit) Tryz.underlying9 Tryz.underlying4 hv
  have hseq : SeqGives Fence.wide 2 Tryz.prog 81 #[.pointer (some ⟨Bm, 0, none⟩)] encStr (fun ss => ss.Perm (strKeys D)) (Maps.size D) w :=
    AnyZ.keys_gives (ρ := Tryz.keysS_ren) { Tryz.keysS with } Fence.wide _ trivial rfl (by omega) Bm b _ D _ hB.lt (hB.cell 0) hown
  have cS := AnyZ.sorted_in Tryz.sortedS Fence.wide 5 trivial trivial trivial trivial rfl (by omega) (sorts _) (enters_of Tryz.func56 (by kernel_rfl) rfl) 81 #[.pointer (some ⟨Bm, 0, none⟩)] trivial (enters_of Tryz.func81 (by kernel_rfl) rfl) _ _ (by unfold maxLen;omega) (by omega) _ hseq
  refine (show Calls Tryz.prog 45 _ w _ from callsIn_wide.1 cS).mono ?_
  rintro e w' ⟨v, ss, rfl, hS, hrow, _, hb⟩
  refine ⟨v, rfl, ?_, hb⟩
  have h1 : ss.mergeSort (fun x y => decide (x ≤ y)) = (bts (L.map (·.1))).mergeSort fun x y => decide (x ≤ y) := by
    have := hS.trans hperm
    unfold bts
    rw [List.map_map]
    exact mergeSort_of_perm this
  rw [h1, enc_unb] at hrow
  have h2 : ss.length = (sortL (L.map (·.1))).length := by
    rw [← List.length_mergeSort ss, h1]
    exact (unb_len _).symm
  unfold OwnS
  rw [← h2]
  exact hrow
end SrtS
end Go.Proofs.YtcfmchpoclkpgaaGreatDoor
namespace Go.Proofs.YtcfmchpoclkpgaaGreatDoor
open Go.RowKit NB
namespace Bk
def pall (zs : List S) (ls : List LinkV) : List (List S) := (List.range zs.length).map (palias zs ls)
def pnames (zs : List S) (ls : List LinkV) : List S := SrtS.sortL (pall zs ls).flatten
end Bk
namespace BkW
end BkW
end Go.Proofs.YtcfmchpoclkpgaaGreatDoor
namespace Go.Proofs.YtcfmchpoclkpgaaGreatDoor
namespace Bk
def lt (a b : S) : Prop := a.data.toList < b.data.toList
abbrev Rising (l : List S) : Prop := l.Pairwise lt
open Classical in
noncomputable def ins (s : S) : List S → List S
  | [] => [s]
  | x :: r => if lt s x then s :: x :: r else if s = x then x :: r else x :: ins s r
end Bk
end Go.Proofs.YtcfmchpoclkpgaaGreatDoor
namespace Go.Proofs.YtcfmchpoclkpgaaGreatDoor
namespace Bk
def cnt (zs : List S) (ls : List LinkV) (k : Nat) : Nat := ((List.range k).map fun i => (palias zs ls i).length).sum
end Bk
end Go.Proofs.YtcfmchpoclkpgaaGreatDoor
namespace Go.Proofs.YtcfmchpoclkpgaaGreatDoor
namespace Chk
theorem check_start (l : List RuleV) : check l = scan (l.take 0) (l.drop 0) (0 : Nat) := rfl
theorem check_none {l : List RuleV} (h : ∀ k r, l[k]? = some r → firstBad r (same r (l.take k)) = 0) : check l = (-1, 0) := by
  have H : ∀ d k : Nat, k + d = l.length → scan (l.take k) (l.drop k) k = (-1, 0) := by
    intro d
    induction d with
    | zero =>
      intro k hk
      rw [List.drop_eq_nil_of_le (by omega)]
      rfl
    | succ d ih =>
      intro k hk
      have hr := List.getElem?_eq_getElem (l := l) (i := k) (by omega)
      rw [check_at hr, if_pos (h k _ hr)]
      exact ih (k + 1) (by omega)
  rw [check_start]
  exact H l.length 0 (by omega)
theorem check_some {l : List RuleV} {k : Nat} {r : RuleV} (hr : l[k]? = some r) (hb : firstBad r (same r (l.take k)) ≠ 0) (h : ∀ k' r', k' < k → l[k']? = some r' → firstBad r' (same r' (l.take k')) = 0) : check l = ((k : Int), firstBad r (same r (l.take k))) := by
  have hk : k < l.length := (List.getElem?_eq_some_iff.1 hr).1
  have H : ∀ d k' : Nat, k' + d = k → scan (l.take k') (l.drop k') k' = ((k : Int), firstBad r (same r (l.take k))) := by
    intro d
    induction d with
    | zero =>
      intro k' hk'
      obtain rfl : k' = k := by omega
      rw [check_at hr, if_neg hb]
    | succ d ih =>
      intro k' hk'
      have hr' := List.getElem?_eq_getElem (l := l) (i := k') (by omega)
      rw [check_at hr', if_pos (h k' _ (by omega) hr')]
      exact ih (k' + 1) (by omega)
  rw [check_start]
  exact H k 0 (by omega)
theorem check_cases (l : List RuleV) : (∀ k r, l[k]? = some r → firstBad r (same r (l.take k)) = 0) ∨ ∃ k r, l[k]? = some r ∧ firstBad r (same r (l.take k)) ≠ 0 ∧ ∀ k' r', k' < k → l[k']? = some r' → firstBad r' (same r' (l.take k')) = 0 := by
  have H : ∀ m, (∀ k r, k < m → l[k]? = some r → firstBad r (same r (l.take k)) = 0) ∨ ∃ k r, l[k]? = some r ∧ firstBad r (same r (l.take k)) ≠ 0 ∧ ∀ k' r', k' < k → l[k']? = some r' → firstBad r' (same r' (l.take k')) = 0 := by
    intro m
    induction m with
    | zero => left;intro k r hk;omega
    | succ m ih =>
      rcases ih with h|h
      · cases hm : l[m]? with
        | none =>
          left
          intro k r hk hr
          by_cases e : k = m
          · subst e;rw [hm] at hr;cases hr
          · exact h k r (by omega) hr
        | some r =>
          by_cases hz : firstBad r (same r (l.take m)) = 0
          · left
            intro k r' hk hr
            by_cases e : k = m
            · subst e;rw [hm] at hr;cases hr;exact hz
            · exact h k r' (by omega) hr
          · exact .inr ⟨m, r, hm, hz, fun k' r' hk' hr' => h k' r' hk' hr'⟩
      · exact .inr h
  rcases H l.length with h|h
  · exact .inl (fun k r hr => h k r (List.getElem?_eq_some_iff.1 hr).1 hr)
  · exact .inr h
theorem check_take (l : List RuleV) (i : Nat) (_ : i < l.length) : check (l.take (i + 1)) = if 0 ≤ (check l).1 ∧ (check l).1 ≤ i then check l else (-1, 0) := by
  rcases check_cases l with h|⟨k, r, hr, hb, h⟩
  · rw [check_none h, if_neg (fun h0 => absurd (show (0 : Int) ≤ -1 from h0.1) (by decide)), check_none]
    intro k r hr
    rw [List.getElem?_take] at hr
    split at hr
    · rw [List.take_take, Nat.min_eq_left (by omega)]
      exact h k r hr
    · cases hr
  · rw [check_some hr hb h]
    dsimp only
    by_cases hk : k ≤ i
    · rw [if_pos ⟨by omega, by omega⟩]
      have := check_some (l := l.take (i + 1)) (k := k) (r := r) (by rw [List.getElem?_take, if_pos (by omega)];exact hr) (by rw [List.take_take, Nat.min_eq_left (by omega)];exact hb) (fun k' r' hk' hr' => by
        rw [List.getElem?_take, if_pos (by omega)] at hr'
        rw [List.take_take, Nat.min_eq_left (by omega)]
        exact h k' r' hk' hr')
      rw [this, List.take_take, Nat.min_eq_left (by omega)]
    · rw [if_neg (by omega), check_none]
      intro k' r' hr'
      rw [List.getElem?_take] at hr'
      split at hr'
      · rw [List.take_take, Nat.min_eq_left (by omega)]
        exact h k' r' (by omega) hr'
      · cases hr'
theorem check_lt (l : List RuleV) : (check l).1 < l.length := by
  rcases check_cases l with h|⟨k, r, hr, hb, h⟩
  · rw [check_none h]
    show (-1 : Int) < _
    omega
  · rw [check_some hr hb h]
    have := (List.getElem?_eq_some_iff.1 hr).1
    show (k : Int) < _
    omega
end Chk
namespace Ck
abbrev Fault := Int × Int
def less (a b : Fault) : Fault := if b.2 ≠ 0 ∧ (a.2 = 0 ∨ b.1 < a.1) then b else a
def run (f : Fault) (l : List Fault) : Fault := l.foldl less f
theorem run_snoc (f : Fault) (l : List Fault) (x : Fault) : run f (l ++ [x]) = less (run f l) x := by unfold run;rw [List.foldl_append];rfl
theorem run_app (f : Fault) (l m : List Fault) : run f (l ++ m) = run (run f l) m := by unfold run;rw [List.foldl_append]
theorem less_ok (f : Fault) (x : Int) : less f (x, 0) = f := by unfold less;rw [if_neg (fun h => h.1 rfl)]
theorem run_one {g : Nat → Fault} {j : Nat} (h : ∀ i, i ≠ j → (g i).2 = 0) (f : Fault) : ∀ m, run f ((List.range m).map g) = if j < m then less f (g j) else f
  | 0 => by rw [if_neg (by omega)];rfl
  | m + 1 => by
    rw [List.range_succ, List.map_append, List.map_cons, List.map_nil, run_snoc, run_one h f m]
    by_cases hm : m = j
    · subst hm
      rw [if_neg (by omega), if_pos (by omega)]
    · have e : g m = ((g m).1, 0) := Prod.ext rfl (h m hm)
      rw [e, less_ok]
      by_cases hj : j < m
      · rw [if_pos hj, if_pos (by omega)]
      · rw [if_neg hj, if_neg (by omega)]
theorem run_ok {g : Nat → Fault} (h : ∀ i, (g i).2 = 0) (f : Fault) (m : Nat) : run f ((List.range m).map g) = f := by
  rw [run_one (j := m) (fun i _ => h i), if_neg (by omega)]
theorem less_mem (f x : Fault) : less f x = f ∨ less f x = x := by
  unfold less
  split
  · exact .inr rfl
  · exact .inl rfl
theorem run_mem : ∀ (L : List Fault) (f : Fault), run f L = f ∨ run f L ∈ L
  | [], _ => .inl rfl
  | x :: L, f => by
    show run (less f x) L = f ∨ run (less f x) L ∈ x :: L
    rcases run_mem L (less f x) with h|h
    · rw [h]
      rcases less_mem f x with e|e
      · exact .inl e
      · rw [e];exact .inr (by simp)
    · exact .inr (by simp [h])
theorem less_err {f x : Fault} (h : f.2 ≠ 0 ∨ x.2 ≠ 0) : (less f x).2 ≠ 0 := by
  unfold less
  split
  · rename_i h1;exact h1.1
  · rename_i h1
    rcases h with h|h
    · exact h
    · intro e
      exact h1 ⟨h, .inl e⟩
theorem run_err : ∀ (L : List Fault) (f : Fault), (f.2 ≠ 0 ∨ ∃ p ∈ L, p.2 ≠ 0) → (run f L).2 ≠ 0
  | [], f, h => by
    rcases h with h|⟨p, hp, _⟩
    · exact h
    · cases hp
  | x :: L, f, h => by
    show (run (less f x) L).2 ≠ 0
    refine run_err L _ ?_
    rcases h with h|⟨p, hp, h⟩
    · exact .inl (less_err (.inl h))
    · rcases List.mem_cons.1 hp with rfl|hp
      · exact .inl (less_err (.inr h))
      · exact .inr ⟨p, hp, h⟩
def named (l : List RuleV) (s : ByteArray) : Bool := l.any fun r => decide (r.name = s)
noncomputable def eraF (l : List RuleV) (done : List ByteArray) (name : ByteArray) (es : List EraV) (i : Nat) (e : EraV) : Int :=
  if i = 0 ∧ (done.any fun y => decide (y = name)) = true then 11 else if e.kind = 2 ∧ named l e.rules = false then 12 else if (Unt.checkU l es).1 = i then (Unt.checkU l es).2 else 0
noncomputable def eraFs (l : List RuleV) (done : List ByteArray) (name : ByteArray) (es : List EraV) (ns : List Int) : List Fault := es.zipIdx.map fun p => (ns.getD p.2 0, eraF l done name es p.2 p.1)
noncomputable def zoneFs (l : List RuleV) (zs : List ZoneV) (ns : List (List Int)) : List Fault := zs.zipIdx.flatMap fun p => eraFs l ((zs.take p.2).map ZoneV.name) p.1.name p.1.es (ns.getD p.2 [])
def ruleF (l : List RuleV) (i : Nat) : Int := if (Chk.check (l.take (i + 1))).1 = i then (Chk.check (l.take (i + 1))).2 else 0
def ruleFs (l : List RuleV) (ns : List Int) : List Fault := (List.range l.length).map fun i => (ns.getD i 0, ruleF l i)
def linkF (zs : List ByteArray) (ls : List LinkV) (i : Nat) (x : LinkV) : Int := if ((zs ++ (ls.take i).map LinkV.name).any fun y => decide (y = x.name)) = true then 11 else (Bk.find zs ls x.name).2
def linkFs (zs : List ByteArray) (ls : List LinkV) (ns : List Int) : List Fault := ls.zipIdx.map fun p => (ns.getD p.2 0, linkF zs ls p.2 p.1)
theorem rules_one (l : List RuleV) (ns : List Int) (f : Fault) : run f (ruleFs l ns) = if 0 ≤ (Chk.check l).1 then less f (ns.getD (Chk.check l).1.toNat 0, (Chk.check l).2) else f := by
  have hlt := Chk.check_lt l
  have e : ruleFs l ns = (List.range l.length).map fun i => (ns.getD i 0, if i < l.length then ruleF l i else 0) := by
    unfold ruleFs
    refine List.map_congr_left (fun i hi => ?_)
    rw [if_pos (List.mem_range.1 hi)]
  rw [e]
  by_cases h : 0 ≤ (Chk.check l).1
  · rw [if_pos h]
    have hj : ((Chk.check l).1.toNat : Int) = (Chk.check l).1 := by omega
    rw [run_one (j := (Chk.check l).1.toNat)]
    · rw [if_pos (by omega), if_pos (by omega)]
      unfold ruleF
      have e2 : Chk.check (l.take ((Chk.check l).1.toNat + 1)) = Chk.check l := by rw [Chk.check_take l _ (by omega), if_pos ⟨h, by omega⟩]
      rw [e2, if_pos hj.symm]
    · intro i hi
      dsimp only
      split
      · rename_i hil
        unfold ruleF
        rw [Chk.check_take l i hil]
        split
        · rw [if_neg (by omega)]
        · rw [if_neg (by show ¬ ((-1 : Int) = i);omega)]
      · rfl
  · rw [if_neg h]
    refine run_ok (fun i => ?_) f _
    dsimp only
    split
    · rename_i hil
      unfold ruleF
      have e2 : Chk.check (l.take (i + 1)) = (-1, 0) := by rw [Chk.check_take l i hil, if_neg (by omega)]
      rw [e2, if_neg (by show ¬ ((-1 : Int) = i);omega)]
    · rfl
end Ck
end Go.Proofs.YtcfmchpoclkpgaaGreatDoor
namespace Go.Proofs.YtcfmchpoclkpgaaGreatDoor
namespace Bk
theorem never {done l : List S} (h : ∀ (k : Nat) x, l[k]? = some x → x ∉ done ++ l.take k) : twice done l < 0 := by
  have H : ∀ k, k ≤ l.length → twice done (l.take k) < 0 := by
    intro k
    induction k with
    | zero =>
      intro _
      rw [List.take_zero]
      unfold twice tw
      simp
    | succ k ih =>
      intro hk
      have hx := List.getElem?_eq_getElem (l := l) (i := k) (by omega)
      rw [twice_succ (by omega) hx, if_neg]
      · exact ih (by omega)
      · rintro ⟨_, h2⟩
        rw [List.any_eq_true] at h2
        obtain ⟨y, hy, e⟩ := h2
        rw [decide_eq_true_eq] at e
        subst e
        exact h k _ hx hy
  have := H l.length (Nat.le_refl _)
  rwa [List.take_of_length_le (Nat.le_refl _)] at this
end Bk
end Go.Proofs.YtcfmchpoclkpgaaGreatDoor
namespace Go.Proofs.YtcfmchpoclkpgaaGreatDoor
open Go.RowKit Go.ChangeShapes Go.WideShapes
def intC (n : Int) : List Value := [.int .i64 n]
structure RowN where
  v : Value
  ns : List Int
def RowN.cells (r : RowN) : List Value := [r.v]
structure RowN.Fit (w : World) (r : RowN) : Prop where
  h : HoldsG 1 intC w r.v r.ns
  f : ∀ n ∈ r.ns, I64 n
theorem RowN.Fit.later {w w' : World} {r : RowN} (h : r.Fit w) (hb : Below w.heap.size w w') : r.Fit w' := ⟨h.h.later hb, h.f⟩
structure WhV where
  rv : Value
  ev : Value
  lv : Value
  rs : List Int
  es : List RowN
  ls : List Int
def WhV.cells (x : WhV) : List Value := [x.rv, x.ev, x.lv]
structure HoldsW (w : World) (x : WhV) : Prop where
  r : HoldsG 1 intC w x.rv x.rs
  rf : ∀ n ∈ x.rs, I64 n
  e : HoldsG 1 RowN.cells w x.ev x.es
  ef : ∀ y ∈ x.es, y.Fit w
  l : HoldsG 1 intC w x.lv x.ls
  lf : ∀ n ∈ x.ls, I64 n
theorem HoldsW.later {w w' : World} {x : WhV} (h : HoldsW w x) (hb : Below w.heap.size w w') : HoldsW w' x :=
  ⟨h.r.later hb, h.rf, h.e.later hb, fun y hy => (h.ef y hy).later hb, h.l.later hb, h.lf⟩
instance : Inhabited RowN := ⟨⟨.slice none 0 0, []⟩⟩
section
variable {H : Type} {enc : TypeId × Value → H} {w : World} {base : Nat} {spare : Nat → Bool} {held : Bool}
end
end Go.Proofs.YtcfmchpoclkpgaaGreatDoor
