import Derived.Test.YtcfmchpoclkpgaaGreatDoorG23
import Derived.Test.YtcfmchpoclkpgaaGreatDoorLightT
import Derived.Test.YtcfmchpoclkpgaaGreatDoorCkLw
import Derived.Test.YtcfmchpoclkpgaaGreatDoorG26
namespace Go.Proofs.YtcfmchpoclkpgaaGreatDoor
open Go.RowKit NB
namespace CkL
def lightR (y : RowN) : Bool := decide (y.ns.length ≤ 60)
def lightW (x : WhV) : Bool := decide (x.rs.length ≤ 60) && (decide (x.ls.length ≤ 60) && (decide (x.es.length ≤ 60) && x.es.all lightR))
end CkL
end Go.Proofs.YtcfmchpoclkpgaaGreatDoor
namespace Go.Proofs.YtcfmchpoclkpgaaGreatDoor
open Go.RowKit NB
namespace CkL
open Ck
theorem lightT_len {t : TabV} (h : Eqs.lightT t = true) : t.rs.length ≤ 12 ∧ t.zs.length ≤ 10 ∧ t.ls.length ≤ 16 ∧ ∀ z ∈ t.zs, z.es.length ≤ 12 := by
  unfold Eqs.lightT at h
  simp only [Bool.and_eq_true, decide_eq_true_eq] at h
  obtain ⟨h1, h2, h3, h4, _⟩ := h
  refine ⟨Lgt.light_len h1, h2, h3, fun z hz => ?_⟩
  have := List.all_eq_true.1 h4 z hz
  unfold Zn.lightZ at this
  simp only [Bool.and_eq_true, decide_eq_true_eq] at this
  exact this.1.1
end CkL
end Go.Proofs.YtcfmchpoclkpgaaGreatDoor
