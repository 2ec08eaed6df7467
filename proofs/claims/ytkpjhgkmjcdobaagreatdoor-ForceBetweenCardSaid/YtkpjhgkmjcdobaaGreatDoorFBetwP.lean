import Derived.Test.YtkpjhgkmjcdobaaGreatDoorG16
/-
  The plain law of ForceBetween, packed: of what is at a second, next and previous.
-/
namespace Go.Proofs.YtkpjhgkmjcdobaaGreatDoor
open Go.RowKit
namespace L33
open Frc
noncomputable def AV (l : List RuleV) (e : EraV) (s : Int) : ValV := (atV l e s).1
theorem at_wrong {l : List RuleV} {e : EraV} (h : Er.rightB e = false) (t : Int) : (atV l e t).2 = 4 ∧ nextV l e t = (0, false) ∧ prevV l e t = (0, false) := by
  have h' : ¬ Er.rightB e = true := by rw [h]; decide
  refine ⟨?_, ?_, ?_⟩
  · unfold atV
    rw [if_neg h']
  · unfold nextV
    rw [if_neg (fun x => h' x.1)]
  · unfold prevV
    rw [if_neg (fun x => h' x.1)]
theorem at_right {l : List RuleV} {e : EraV} (h : Er.rightB e = true) (t : Int) : atV l e t = (AV l e t, 0) := by
  unfold AV atV
  rw [if_pos h]
  by_cases hk : e.kind = 2
  · rw [if_pos hk]
  · rw [if_neg hk]
theorem av_two {l : List RuleV} {e : EraV} (h : Er.rightB e = true) (hk : e.kind = 2) (t : Int) : AV l e t = stateV l e t := by
  unfold AV atV
  rw [if_pos h, if_pos hk]
theorem av_one {l : List RuleV} {e : EraV} (h : Er.rightB e = true) (hk : ¬ e.kind = 2) (s t : Int) : AV l e s = AV l e t := by
  unfold AV atV
  rw [if_pos h, if_neg hk, if_pos h, if_neg hk]
theorem rules_ne' {e : EraV} (hR : Er.rightB e = true) (hk : e.kind = 2) : e.rules ≠ ⟨#[]⟩ := by
  intro h
  have hne : ¬ Nam.nameE ⟨#[]⟩ = 0 := by decide +kernel
  unfold Er.rightB at hR
  rw [h, hk] at hR
  simp [hne] at hR
section
variable {l : List RuleV} {e : EraV} (hc : (Chk.check l).2 = 0) (hR : Er.rightB e = true) {t : Int} (h0 : -1999000000000 ≤ t) (h1 : t ≤ 1999000000000)
include hc hR h0 h1
theorem nextB {n : Int} (h : nextV l e t = (n, true)) : (-1100000000000 < n ∧ n < 1100000000000) ∧ t < n ∧ AV l e n ≠ AV l e t ∧ AV l e (n - 1) = AV l e t ∧ prevV l e n = (n, true) := by
  unfold nextV at h
  split at h
  · rename_i hk
    have hm : Chn.may e.off = true := Chn.may_iff.2 (Unt.right_spec hR).1
    obtain ⟨g0, g1, g2, g3, g4⟩ := next_law hc hm (rules_ne' hR hk.2) h0 h1 h
    rw [av_two hR hk.2, av_two hR hk.2, av_two hR hk.2]
    refine ⟨g0, g1, g2, g3, ?_⟩
    unfold prevV
    rw [if_pos hk]
    exact g4
  · cases h
theorem prevB {p : Int} (h : prevV l e t = (p, true)) : (-1100000000000 < p ∧ p < 1100000000000) ∧ p ≤ t ∧ AV l e (p - 1) ≠ AV l e t ∧ AV l e p = AV l e t ∧ nextV l e (p - 1) = (p, true) := by
  unfold prevV at h
  split at h
  · rename_i hk
    have hm : Chn.may e.off = true := Chn.may_iff.2 (Unt.right_spec hR).1
    obtain ⟨g0, g1, g2, g3, g4⟩ := prev_law hc hm (rules_ne' hR hk.2) h0 h1 h
    rw [av_two hR hk.2, av_two hR hk.2, av_two hR hk.2]
    refine ⟨g0, g1, g2, g3, ?_⟩
    unfold nextV
    rw [if_pos hk]
    exact g4
  · cases h
theorem elseB {s : Int} (s0 : -1999000000000 ≤ s) (s1 : s ≤ 1999000000000) (hk : ∀ n, nextV l e t = (n, true) → s < n) (hp : ∀ p, prevV l e t = (p, true) → p ≤ s) : AV l e s = AV l e t := by
  by_cases h2 : e.kind = 2
  · have hm : Chn.may e.off = true := Chn.may_iff.2 (Unt.right_spec hR).1
    rw [av_two hR h2, av_two hR h2]
    unfold nextV at hk
    unfold prevV at hp
    rw [if_pos ⟨hR, h2⟩] at hk hp
    exact else_law hc hm (rules_ne' hR h2) h0 h1 s0 s1 hk hp
  · exact av_one hR h2 s t
end
end L33
end Go.Proofs.YtkpjhgkmjcdobaaGreatDoor
