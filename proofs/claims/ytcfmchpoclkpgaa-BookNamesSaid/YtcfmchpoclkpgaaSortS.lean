/-
  slices.Sort at strings; slices.Sorted of a map's keys.
-/
import Derived.Shelf.SortM.Plain
import Derived.Shelf.SortM.SortNone
import Derived.Shelf.SlIter.Nil
import Derived.Sort.OwnSorted
import Derived.Shelf.SlGeneric
import Derived.Test.YtcfmchpoclkpgaaStrs
import Derived.Test.YtcfmchpoclkpgaaBookP
namespace Go.Proofs.Ytcfmchpoclkpgaa
open Go.RowKit NB Go.Sort Go.Shelf
def Try.sortS_ren : Go.Shelf.Ren := ⟨fun | 6 => 68 | 8 => 98 | 9 => 97 | 19 => 117 | 20 => 118 | 21 => 108 | 22 => 109 | 23 => 110 | 24 => 111 | 25 => 112 | 26 => 113 | 27 => 114 | 28 => 115 | 29 => 116 | 36 => 121 | 31 => 122 | 32 => 123 | 37 => 124 | 38 => 125 | 39 => 126 | 41 => 127 | n => n, fun | 27 => 48 | 29 => 9 | 3 => 3 | 32 => 161 | 26 => 48 | 0 => 0 | 44 => 189 | 46 => 191 | 4 => 4 | 36 => 182 | 35 => 181 | 41 => 119 | 5 => 5 | 9 => 9 | 53 => 197 | 57 => 201 | 63 => 203 | 64 => 45 | n => n, fun | n => n⟩
theorem Try.sortS : Go.Proofs.SlLaysM.n6 Try.prog Try.sortS_ren := {
  mixed := by kernel_rfl,
  f6 := ⟨Try.f68.name, by decide, Try.func68.trans (congrArg some (by kernel_rfl))⟩,
  f8 := Try.func98.trans (congrArg some (by kernel_rfl)),
  f9 := ⟨Try.f97.name, by decide, Try.func97.trans (congrArg some (by kernel_rfl))⟩,
  f19 := Try.func117.trans (congrArg some (by kernel_rfl)),
  f20 := Try.func118.trans (congrArg some (by kernel_rfl)),
  f21 := ⟨Try.f108.name, by decide, Try.func108.trans (congrArg some (by kernel_rfl))⟩,
  f22 := ⟨Try.f109.name, by decide, Try.func109.trans (congrArg some (by kernel_rfl))⟩,
  f23 := ⟨Try.f110.name, by decide, Try.func110.trans (congrArg some (by kernel_rfl))⟩,
  f24 := ⟨Try.f111.name, by decide, Try.func111.trans (congrArg some (by kernel_rfl))⟩,
  f25 := ⟨Try.f112.name, by decide, Try.func112.trans (congrArg some (by kernel_rfl))⟩,
  f26 := ⟨Try.f113.name, by decide, Try.func113.trans (congrArg some (by kernel_rfl))⟩,
  f27 := ⟨Try.f114.name, by decide, Try.func114.trans (congrArg some (by kernel_rfl))⟩,
  f28 := ⟨Try.f115.name, by decide, Try.func115.trans (congrArg some (by kernel_rfl))⟩,
  f29 := ⟨Try.f116.name, by decide, Try.func116.trans (congrArg some (by kernel_rfl))⟩,
  f31 := Try.func122.trans (congrArg some (by kernel_rfl)),
  f32 := Try.func123.trans (congrArg some (by kernel_rfl)),
  f36 := ⟨Try.f121.name, by decide, Try.func121.trans (congrArg some (by kernel_rfl))⟩,
  f37 := ⟨Try.f124.name, by decide, Try.func124.trans (congrArg some (by kernel_rfl))⟩,
  f38 := ⟨Try.f125.name, by decide, Try.func125.trans (congrArg some (by kernel_rfl))⟩,
  f39 := ⟨Try.f126.name, by decide, Try.func126.trans (congrArg some (by kernel_rfl))⟩,
  f41 := ⟨Try.f127.name, by decide, Try.func127.trans (congrArg some (by kernel_rfl))⟩,
  t0 := Try.underlying0,
  a0 := Try.isAgg0,
  z0 := Try.sizeOf0,
  v0 := Try.zeroValue0,
  t3 := Try.underlying3,
  a3 := Try.isAgg3,
  z3 := Try.sizeOf3,
  v3 := Try.zeroValue3,
  t4 := Try.underlying4,
  a4 := Try.isAgg4,
  z4 := Try.sizeOf4,
  v4 := Try.zeroValue4,
  t5 := Try.underlying5,
  a5 := Try.isAgg5,
  z5 := Try.sizeOf5,
  v5 := Try.zeroValue5,
  t9 := Try.underlying9,
  a9 := Try.isAgg9,
  z9 := Try.sizeOf9,
  v9 := Try.zeroValue9,
  t26 := Try.underlying48,
  a26 := Try.isAgg48,
  z26 := Try.sizeOf48,
  v26 := Try.zeroValue48,
  t27 := Try.underlying48,
  a27 := Try.isAgg48,
  z27 := Try.sizeOf48,
  v27 := Try.zeroValue48,
  t29 := Try.underlying9,
  a29 := Try.isAgg9,
  z29 := Try.sizeOf9,
  v29 := Try.zeroValue9,
  t32 := Try.underlying161,
  a32 := Try.isAgg161,
  z32 := Try.sizeOf161,
  v32 := Try.zeroValue161,
  t35 := Try.underlying181,
  a35 := Try.isAgg181,
  z35 := Try.sizeOf181,
  v35 := Try.zeroValue181,
  t36 := Try.underlying182,
  a36 := Try.isAgg182,
  z36 := Try.sizeOf182,
  v36 := Try.zeroValue182,
  t41 := Try.underlying119,
  a41 := Try.isAgg119,
  z41 := Try.sizeOf119,
  v41 := Try.zeroValue119,
  t44 := Try.underlying189,
  a44 := Try.isAgg189,
  z44 := Try.sizeOf189,
  v44 := Try.zeroValue189,
  t46 := Try.underlying191,
  a46 := Try.isAgg191,
  z46 := Try.sizeOf191,
  v46 := Try.zeroValue191,
  t53 := Try.underlying197,
  a53 := Try.isAgg197,
  z53 := Try.sizeOf197,
  v53 := Try.zeroValue197,
  t57 := Try.underlying201,
  a57 := Try.isAgg201,
  z57 := Try.sizeOf201,
  v57 := Try.zeroValue201,
  t63 := Try.underlying203,
  a63 := Try.isAgg203,
  z63 := Try.sizeOf203,
  v63 := Try.zeroValue203,
  t64 := Try.underlying45,
  a64 := Try.isAgg45,
  z64 := Try.sizeOf45,
  v64 := Try.zeroValue45 }
def Try.keysS_ren : Go.Shelf.Ren := ⟨fun | 7 => 61 | 10 => 94 | n => n, fun | 23 => 107 | 26 => 9 | 3 => 4 | 28 => 116 | 0 => 0 | 27 => 115 | 33 => 142 | 4 => 4 | n => n, fun | n => n⟩
theorem Try.keysS : Go.Proofs.SlLaysZ.n7 Try.prog Try.keysS_ren := {
  mixed := by kernel_rfl,
  f7 := ⟨Try.f61.name, by decide, Try.func61.trans (congrArg some (by kernel_rfl))⟩,
  f10 := ⟨Try.f94.name, by decide, Try.func94.trans (congrArg some (by kernel_rfl))⟩,
  t0 := Try.underlying0,
  a0 := Try.isAgg0,
  z0 := Try.sizeOf0,
  v0 := Try.zeroValue0,
  t4 := Try.underlying4,
  a4 := Try.isAgg4,
  z4 := Try.sizeOf4,
  v4 := Try.zeroValue4,
  t23 := Try.underlying107,
  a23 := Try.isAgg107,
  z23 := Try.sizeOf107,
  v23 := Try.zeroValue107,
  t26 := Try.underlying9,
  a26 := Try.isAgg9,
  z26 := Try.sizeOf9,
  v26 := Try.zeroValue9,
  t27 := Try.underlying115,
  a27 := Try.isAgg115,
  z27 := Try.sizeOf115,
  v27 := Try.zeroValue115,
  t28 := Try.underlying116,
  a28 := Try.isAgg116,
  z28 := Try.sizeOf116,
  v28 := Try.zeroValue116,
  t33 := Try.underlying142,
  a33 := Try.isAgg142,
  z33 := Try.sizeOf142,
  v33 := Try.zeroValue142 }
def Try.sortedS_ren : Go.Shelf.Ren := ⟨fun | 6 => 60 | 8 => 93 | 9 => 68 | 11 => 107 | 13 => 98 | 12 => 97 | 23 => 117 | 24 => 118 | 14 => 108 | 15 => 109 | 16 => 110 | 17 => 111 | 18 => 112 | 19 => 113 | 20 => 114 | 21 => 115 | 22 => 116 | 25 => 121 | 26 => 122 | 27 => 123 | 28 => 124 | 29 => 125 | 30 => 126 | 31 => 127 | n => n, fun | 26 => 9 | 28 => 116 | 24 => 48 | 0 => 0 | 3 => 3 | 37 => 161 | 48 => 189 | 50 => 191 | 4 => 4 | 40 => 182 | 39 => 181 | 45 => 119 | 5 => 5 | 9 => 9 | 51 => 197 | 55 => 201 | 57 => 203 | 58 => 45 | 33 => 142 | n => n, fun | n => n⟩
theorem Try.sortedS : Go.Proofs.SlLaysZ.n6 Try.prog Try.sortedS_ren := {
  mixed := by kernel_rfl,
  f6 := ⟨Try.f60.name, by decide, Try.func60.trans (congrArg some (by kernel_rfl))⟩,
  f8 := ⟨Try.f93.name, by decide, Try.func93.trans (congrArg some (by kernel_rfl))⟩,
  f11 := ⟨Try.f107.name, by decide, Try.func107.trans (congrArg some (by kernel_rfl))⟩,
  t0 := Try.underlying0,
  a0 := Try.isAgg0,
  z0 := Try.sizeOf0,
  v0 := Try.zeroValue0,
  t24 := Try.underlying48,
  a24 := Try.isAgg48,
  z24 := Try.sizeOf48,
  v24 := Try.zeroValue48,
  t26 := Try.underlying9,
  a26 := Try.isAgg9,
  z26 := Try.sizeOf9,
  v26 := Try.zeroValue9,
  t28 := Try.underlying116,
  a28 := Try.isAgg116,
  z28 := Try.sizeOf116,
  v28 := Try.zeroValue116,
  i26 := by kernel_rfl }

namespace SrtS
theorem enc_unb (l : List (List UInt8)) : l.map encStr = (unb l).flatMap strc := by
  induction l with
  | nil => rfl
  | cons x r ih => rw [List.map_cons, ih]; rfl
theorem unb_bts (l : List ByteArray) : unb (bts l) = l := by
  unfold unb bts
  rw [List.map_map]
  exact (List.map_congr_left (fun s _ => by rfl)).trans (List.map_id l)
theorem unb_len (l : List (List UInt8)) : (unb l).length = l.length := List.length_map _
theorem SortS {w : World} {base m : Nat} {v : Value} {l : List ByteArray} (h : OwnR w base v m l) (hm : m ≤ 100000) :
    Calls Try.prog 68 #[v] w fun e w' => e = .returned (.tuple #[]) ∧ OwnR w' base v m (sortL l) ∧ w.grownBy w' v.ownBlock := by
  have hl := OwnR.len h
  rcases h.2 with ⟨rfl, hz⟩ | ⟨g, cap, cur, rfl, hbase, hb, r1, r2, r3, r4⟩
  · have he : l = [] := List.eq_nil_of_length_eq_zero (by omega)
    subst he
    have hc := AnyM.slices_Sort_string_none Try.sortS none 0 w
    refine (show Calls Try.prog 68 #[.slice none 0 0] w _ from hc).mono ?_
    rintro e w' ⟨rfl, rfl⟩
    exact ⟨rfl, by simpa [sortL, bts, unb] using h, World.grownBy.refl _ _⟩
  · have hs : (bts l).length = m := by unfold bts; rw [List.length_map]; exact hl
    have he : l.flatMap strc = (bts l).map encStr := by rw [enc_unb, unb_bts]
    have hH : Go.Sort.Holds encStr w g 0 (bts l).toArray := holds_of_block hb (by rw [Nat.mul_one] at r4; rw [hs, r4]; exact he)
    have hc := AnyM.slices_Sort_string Try.sortS g 0 cap (bts l) w hH (Array.getElem?_eq_some_iff.1 hb).1 (by omega)
    rw [hs] at hc
    refine (show Calls Try.prog 68 #[.slice (some ⟨g, 0, none⟩) m cap] w _ from hc).mono ?_
    rintro e w' ⟨rfl, nn, os, rfl⟩
    refine ⟨rfl, ?_, grownBy_sorted _⟩
    have h5 := ownsRow_sorted (n := nn) (os := os) (ss := bts l) (ts := (bts l).mergeSort fun x y => decide (x ≤ y)) (by simp) hbase hb (by rw [hs]; exact r1) r2 r3
    rw [enc_unb, hs] at h5
    exact h5
theorem sorts (m : Nat) : AnyZ.SortsIn Try.prog Try.sortedS_ren Fence.wide m :=
  ⟨fun blk off cap ss W hH hblk hsz => callsIn_wide.2 (AnyM.slices_Sort_string Try.sortS blk off cap ss W hH hblk hsz),
   fun p cap W => callsIn_wide.2 (AnyM.slices_Sort_string_none Try.sortS p cap W)⟩
/-- maps.Keys -/
theorem Keys (mb : Option Nat) (w : World) : Calls Try.prog 61 #[.map mb] w fun e w' => e = .returned (.func (.func 94) #[] #[.pointer (some ⟨w.heap.size, 0, none⟩)]) ∧ w' = w.alloc (.cells #[.map mb] 107) :=
  callsIn_wide.1 (AnyZ.keys_in Try.keysS Fence.wide 6 trivial rfl mb w)
/-- slices.Sorted of a map's keys: the box of the map is Bm -/
theorem Sorted {w : World} {b Bm : Nat} {L : List Mp.Ent} (h : Mp.Lies w Try.prog 9 b L) (hv : ∀ p ∈ L, ∃ x, p.2 = .bool x) (hB : Box w Bm #[.map (some b)] 107) (hL : L.length ≤ 100000) :
    Calls Try.prog 60 #[.func (.func 94) #[] #[.pointer (some ⟨Bm, 0, none⟩)]] w fun e w' => ∃ v, e = .returned v ∧
      OwnS w' w.heap.size v (sortL (L.map (·.1))) ∧ Below w.heap.size w w' := by
  obtain ⟨D, hown, hsz, hperm⟩ := h.owns (H := Unit) Try.underlying9 Try.underlying4 hv
  have hseq : SeqGives Fence.wide 2 Try.prog 94 #[.pointer (some ⟨Bm, 0, none⟩)] encStr (fun ss => ss.Perm (strKeys D)) (Maps.size D) w :=
    AnyZ.keys_gives (ρ := Try.keysS_ren) { Try.keysS with } Fence.wide _ trivial rfl (by omega) Bm b _ D _ hB.lt (hB.cell 0) hown
  have cS := AnyZ.sorted_in Try.sortedS Fence.wide 5 trivial trivial trivial trivial rfl (by omega) (sorts _) (enters_of Try.func68 (by kernel_rfl) rfl) 94 #[.pointer (some ⟨Bm, 0, none⟩)] trivial (enters_of Try.func94 (by kernel_rfl) rfl) _ _ (by unfold maxLen; omega) (by omega) _ hseq
  refine (show Calls Try.prog 60 _ w _ from callsIn_wide.1 cS).mono ?_
  rintro e w' ⟨v, ss, rfl, hS, hrow, _, hb⟩
  refine ⟨v, rfl, ?_, hb⟩
  have h1 : ss.mergeSort (fun x y => decide (x ≤ y)) = (bts (L.map (·.1))).mergeSort fun x y => decide (x ≤ y) := by
    have := hS.trans hperm
    unfold bts
    rw [List.map_map]
    exact mergeSort_of_perm this
  rw [h1, enc_unb] at hrow
  have h2 : ss.length = (sortL (L.map (·.1))).length := by
    rw [← List.length_mergeSort ss, h1]
    exact (unb_len _).symm
  unfold OwnS
  rw [← h2]
  exact hrow
end SrtS
end Go.Proofs.Ytcfmchpoclkpgaa
