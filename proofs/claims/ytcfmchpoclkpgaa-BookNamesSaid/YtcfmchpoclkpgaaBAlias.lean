/-
  (*book.Book).Alias.
-/
import Derived.Test.YtcfmchpoclkpgaaBFind
import Derived.Test.YtcfmchpoclkpgaaStrL
namespace Go.Proofs.Ytcfmchpoclkpgaa
open Go.RowKit NB
namespace BkW
def paliasI (zs : List ByteArray) (ls : List LinkV) (z : Int) : List ByteArray := if 0 ≤ z ∧ z < zs.length then Bk.palias zs ls z.toNat else []
theorem AliasNil (z : Int) (w : World) : Calls Try.prog 28 #[.pointer none, .int .i64 z] w fun e w' => e = .returned (.slice none 0 0) ∧ w = w' := by
  go_enter Try.func28, Try.ntmps28
  go_wp2
  go_ret
  exact ⟨rfl, rfl⟩
set_option maxRecDepth 100000 in
set_option maxHeartbeats 1600000 in
theorem Alias {w : World} {p : Nat} {zs : List ByteArray} {ls : List LinkV} (h : At w p zs ls) (hz : zs.length ≤ 100000) (hk : (Bk.keys zs ls).length ≤ 100000) (z : Int) :
    Calls Try.prog 28 #[.pointer (some ⟨p, 0, none⟩), .int .i64 z] w fun e w' => ∃ v', e = .returned v' ∧ OwnS w' w.heap.size v' (paliasI zs ls z) ∧ Below w.heap.size w w' := by
  obtain ⟨bz, bn, ab, vs, hb, _, _, ha, hl, hv⟩ := h
  have c2 := hb.cell 2
  have c0 := hb.cell 0
  have c1 := hb.cell 1
  obtain ⟨n, hn⟩ : ∃ n, n = zs.length := ⟨_, rfl⟩
  have hpal : ∀ i, (Bk.palias zs ls i).length ≤ 100000 := fun i => Nat.le_trans (List.length_filter_le _ _) hk
  obtain ⟨L, hL⟩ : ∃ L, L = paliasI zs ls z := ⟨_, rfl⟩
  rw [← hL]
  unfold paliasI at hL
  rw [← hn] at hL hz hl c2
  by_cases h1 : z < 0
  · rw [if_neg (by omega)] at hL
    subst hL
    clear hb ha hv hn hl hpal
    go_enter Try.func28, Try.ntmps28
    go_wp2
    go_ret
    exact ⟨_, rfl, World.ownsRow_nil _ _ _ _, Below.refl _ _⟩
  · by_cases h2 : z < n
    · rw [if_pos ⟨by omega, h2⟩] at hL
      obtain ⟨i, rfl⟩ : ∃ i : Nat, z = i := ⟨z.toNat, by omega⟩
      obtain ⟨v, hvi⟩ : ∃ v, vs[i]? = some v := ⟨_, List.getElem?_eq_getElem (by omega)⟩
      have hr := hv i v hvi
      have hca : w.cell? ⟨ab, i, none⟩ = some v := by rw [ha.cell]; simpa using hvi
      have hcl := StrL.Clone hr (hpal i)
      rw [Int.toNat_natCast] at hL
      rw [← hL] at hcl hr
      obtain ⟨q, c, rfl⟩ := Grp.own_form hr
      have h3 : ¬ ((n : Int) ≤ (i : Int)) := by omega
      have h4 : ¬ ((i : Int) < 0) := by omega
      have h5 : (i : Int) < (n : Int) := h2
      have h6 : (0 : Int) ≤ (i : Int) := by omega
      clear hb ha hv hn hl hpal hr hvi hL h1
      go_enter Try.func28, Try.ntmps28
      go_wp2_with (go_at_call 70; refine hcl.mono ?_; rintro e w1 ⟨v1, rfl, hown1, hb1⟩)
      go_ret
      exact ⟨v1, rfl, hown1, hb1⟩
    · rw [if_neg (by omega)] at hL
      subst hL
      have h3 : (n : Int) ≤ z := by omega
      clear hb ha hv hn hl hpal
      go_enter Try.func28, Try.ntmps28
      go_wp2
      go_ret
      exact ⟨_, rfl, World.ownsRow_nil _ _ _ _, Below.refl _ _⟩
end BkW
end Go.Proofs.Ytcfmchpoclkpgaa
