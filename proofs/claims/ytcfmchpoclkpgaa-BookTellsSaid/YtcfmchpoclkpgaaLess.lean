/-
  cmp.Compare, cmp.Or, occur.Less, occur.nom and occur.Nom: what they give, as the program runs them.
-/
import Derived.Test.YtcfmchpoclkpgaaNC
import Derived.Test.YtcfmchpoclkpgaaOcc
import Derived.Test.YtcfmchpoclkpgaaDayB
import Derived.Deep.RegionHeld3
namespace Go.Proofs.Ytcfmchpoclkpgaa
open Go.RowKit NB
namespace Cmp
def cmpI (a b : Int) : Int := if a < b then -1 else if b < a then 1 else 0
def orL : List Int → Int
  | [] => 0
  | z :: zs => if z = 0 then orL zs else z
theorem orL_drop : ∀ (zs : List Int) (k : Nat), (∀ j z, j < k → zs[j]? = some z → z = 0) → orL zs = orL (zs.drop k)
  | [], k, _ => by simp
  | z :: zs, 0, _ => rfl
  | z :: zs, k + 1, h => by
    have hz := h 0 z (by omega) rfl
    subst hz
    rw [List.drop_succ_cons, ← orL_drop zs k (fun j z hj hz => h (j + 1) z (by omega) (by simpa using hz))]
    rfl
theorem orL_at {zs : List Int} {k : Nat} {z : Int} (h : ∀ j z, j < k → zs[j]? = some z → z = 0) (hz : zs[k]? = some z) (hn : z ≠ 0) : orL zs = z := by
  rw [orL_drop zs k h]
  obtain ⟨hk, he⟩ := List.getElem?_eq_some_iff.1 hz
  rw [List.drop_eq_getElem_cons hk, he]
  unfold orL
  rw [if_neg hn]
theorem orL_end {zs : List Int} (h : ∀ j z, j < zs.length → zs[j]? = some z → z = 0) : orL zs = 0 := by
  rw [orL_drop zs zs.length h]
  simp [orL]
def Seen (zs : List Int) (k : Nat) : Prop := ∀ j z, j < k → zs[j]? = some z → z = 0
theorem Seen.succ {zs : List Int} {k : Nat} (h : Seen zs k) (hz : zs[k]? = some 0) : Seen zs (k + 1) := by
  intro j z hj hz'
  by_cases hjk : j = k
  · subst hjk
    rw [hz] at hz'
    cases hz'
    rfl
  · exact h j z (by omega) hz'
theorem orL_cmp (a b : OccV) : decide (orL [cmpI a.nom b.nom, cmpI a.rule b.rule] < 0) = Occ.less a b := by
  unfold orL orL orL cmpI Occ.less
  rcases Int.lt_trichotomy a.nom b.nom with h | h | h
  · rw [if_pos h]; simp [h]
  · rcases Int.lt_trichotomy a.rule b.rule with g | g | g
    · simp [h, g]
    · simp [h, g]
    · have : ¬ a.rule < b.rule := by omega
      simp [h, g, this]
  · have : ¬ a.nom < b.nom := by omega
    have : ¬ a.nom = b.nom := by omega
    simp [h, *]
end Cmp
end Go.Proofs.Ytcfmchpoclkpgaa
