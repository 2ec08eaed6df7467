/-
  (*book.Book).Names.
-/
import Derived.Test.YtcfmchpoclkpgaaBAlias
import Derived.Test.YtcfmchpoclkpgaaSortS
namespace Go.Proofs.Ytcfmchpoclkpgaa
open Go.RowKit NB
namespace Bk
def pall (zs : List S) (ls : List LinkV) : List (List S) := (List.range zs.length).map (palias zs ls)
def pnames (zs : List S) (ls : List LinkV) : List S := SrtS.sortL (pall zs ls).flatten
end Bk
namespace BkW
theorem NamesNil (w : World) : Calls Try.prog 26 #[.pointer none] w fun e w' => e = .returned (.slice none 0 0) ∧ w = w' := by
  go_enter Try.func26, Try.ntmps26
  go_wp2
  go_ret
  exact ⟨rfl, rfl⟩
set_option maxRecDepth 100000 in
set_option maxHeartbeats 1600000 in
theorem Names {w : World} {p : Nat} {zs : List ByteArray} {ls : List LinkV} (h : At w p zs ls) (hz : zs.length ≤ 100000) (hk : (Bk.pall zs ls).flatten.length ≤ 100000) :
    Calls Try.prog 26 #[.pointer (some ⟨p, 0, none⟩)] w fun e w' => ∃ v', e = .returned v' ∧ OwnS w' w.heap.size v' (Bk.pnames zs ls) ∧ Below w.heap.size w w' := by
  obtain ⟨bz, bn, ab, vs, hb, _, _, ha, hl, hv⟩ := h
  have c2 := hb.cell 2
  have hlen : (Bk.pall zs ls).length = zs.length := by unfold Bk.pall; simp
  have hc := StrL.Concat ha (Ls := Bk.pall zs ls) (by rw [hlen]; exact hl) (fun i v l hvi hli => ⟨0, by
    unfold Bk.pall at hli
    rw [List.getElem?_map] at hli
    obtain ⟨j, hj, rfl⟩ := Option.map_eq_some_iff.1 hli
    have hj2 : j = i := by
      have h1 := (List.getElem?_eq_some_iff.1 hj)
      obtain ⟨h2, h3⟩ := h1
      rw [List.getElem_range] at h3
      exact h3.symm
    subst hj2
    exact hv _ v hvi⟩) (by omega) hk
  rw [hlen] at hc
  unfold Bk.pnames
  generalize (Bk.pall zs ls).flatten = L at *
  generalize zs.length = n at *
  have HC := Lib.hid hc
  clear hc hb ha hl hv hlen hz
  go_enter Try.func26, Try.ntmps26
  go_wp2_with (first
    | (go_at_call 67; refine HC.out.mono ?_; rintro e w1 ⟨v1, rfl, hown1, hb1⟩)
    | (go_at_call 68; refine (SrtS.SortS hown1 hk).mono ?_; rintro e w2 ⟨rfl, hown2, hg2⟩))
  go_ret
  exact ⟨v1, rfl, OwnR.s hown2, hb1.grown hg2 hb1.size (fun j hj => (hown1.lt j hj).1)⟩
end BkW
end Go.Proofs.Ytcfmchpoclkpgaa
