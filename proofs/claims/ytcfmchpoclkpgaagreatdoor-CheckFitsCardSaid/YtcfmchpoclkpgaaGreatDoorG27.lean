import Derived.Test.YtcfmchpoclkpgaaGreatDoorG23
import Derived.Test.YtcfmchpoclkpgaaGreatDoorG24
import Derived.Test.YtcfmchpoclkpgaaGreatDoorCkLw
import Derived.Test.YtcfmchpoclkpgaaGreatDoorG26
import Derived.Test.YtcfmchpoclkpgaaGreatDoorRCkP
namespace Go.Proofs.YtcfmchpoclkpgaaGreatDoor
open Go.RowKit NB
namespace CkL
def lightR (y : RowN) : Bool := decide (y.ns.length ≤ 60)
def lightW (x : WhV) : Bool := decide (x.rs.length ≤ 60) && (decide (x.ls.length ≤ 60) && (decide (x.es.length ≤ 60) && x.es.all lightR))
end CkL
end Go.Proofs.YtcfmchpoclkpgaaGreatDoor
namespace Go.Proofs.YtcfmchpoclkpgaaGreatDoor
open Go.RowKit NB
namespace CkL
open Ck
theorem lightT_len {t : TabV} (h : Eqs.lightT t = true) : t.rs.length ≤ 12 ∧ t.zs.length ≤ 10 ∧ t.ls.length ≤ 16 ∧ ∀ z ∈ t.zs, z.es.length ≤ 12 := by
  unfold Eqs.lightT at h
  simp only [Bool.and_eq_true, decide_eq_true_eq] at h
  obtain ⟨h1, h2, h3, h4, _⟩ := h
  refine ⟨Lgt.light_len h1, h2, h3, fun z hz => ?_⟩
  have := List.all_eq_true.1 h4 z hz
  unfold Zn.lightZ at this
  simp only [Bool.and_eq_true, decide_eq_true_eq] at this
  exact this.1.1
end CkL
end Go.Proofs.YtcfmchpoclkpgaaGreatDoor
namespace Go.Proofs.YtcfmchpoclkpgaaGreatDoor
open Go.RowKit NB
namespace CkL
open Ck
theorem upE_row : ∀ {m : Nat} {zs : List ZoneV} {y : List Int}, y ∈ upE m zs → ∃ z ∈ zs, y.length = z.es.length
  | m, [], y, h => by simp [upE] at h
  | m, z :: zs, y, h => by
    have h' : y ∈ up m z.es.length :: upE (m + z.es.length) zs := h
    rcases List.mem_cons.1 h' with rfl|h1
    · exact ⟨z, by simp, up_len _ _⟩
    · obtain ⟨u, hu, e⟩ := upE_row h1
      exact ⟨u, by simp [hu], e⟩
structure IsP (t : TabV) (x : WhV) : Prop where
  r : x.rs = up 0 t.rs.length
  e : x.es.map RowN.ns = upE t.rs.length t.zs
  l : x.ls = up (t.rs.length + sumE t.zs) t.ls.length
theorem IsP.row {t : TabV} {x : WhV} (h : IsP t x) (hz : ∀ z ∈ t.zs, z.es.length ≤ 12) : ∀ y ∈ x.es, y.ns.length ≤ 12 := fun y hy => by
  have hm : y.ns ∈ upE t.rs.length t.zs := by rw [← h.e];exact List.mem_map.2 ⟨y, hy, rfl⟩
  obtain ⟨z, hz2, e⟩ := upE_row hm
  rw [e]
  exact hz z hz2
theorem checkP {W : World} {t : TabV} {x : WhV} (ht : Tab W) (h : HoldsT W t) (hx : HoldsW W x) (hp : IsP t x) (l1 : t.rs.length ≤ 12) (l2 : t.zs.length ≤ 10) (l3 : t.ls.length ≤ 16) (l4 : ∀ z ∈ t.zs, z.es.length ≤ 12) :
    Calls Tryz.prog 12 #[.agg #[t.rv, t.zv, t.lv], .agg #[x.rv, x.ev, x.lv]] W fun e w' => e = .returned (.agg (RCk.fcs (chkP t.rs t.zs t.ls))) ∧ Below W.heap.size W w' := by
  have := CkW.Check h hx ht l1 (by omega) (fun z hz => by have := l4 z hz;omega) (by omega) (by rw [hp.r, up_len];omega) (by rw [hp.l, up_len];omega) (fun y hy => by have := hp.row l4 y hy;omega)
  rw [hp.r, hp.e, hp.l] at this
  exact this
theorem plainP {W : World} {t : TabV} (h : HoldsT W t) (l1 : t.rs.length ≤ 12) (l2 : t.zs.length ≤ 10) (l3 : t.ls.length ≤ 16) (l4 : ∀ z ∈ t.zs, z.es.length ≤ 12) :
    Calls Tryz.prog 14 #[.agg #[t.rv, t.zv, t.lv]] W fun e w' => ∃ x : WhV, e = .returned (.agg #[x.rv, x.ev, x.lv]) ∧ HoldsW w' x ∧ Below W.heap.size W w' ∧ IsP t x :=
  (RCk.Plain h (by omega) (by omega) (fun z hz => by have := l4 z hz;omega) (by omega)).mono fun e w' ⟨x, h1, h2, h3, h4, h5, h6⟩ => ⟨x, h1, h2, h3, h4, h5, h6⟩
end CkL
end Go.Proofs.YtcfmchpoclkpgaaGreatDoor
