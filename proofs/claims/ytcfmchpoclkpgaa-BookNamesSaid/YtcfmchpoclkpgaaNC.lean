/-
  More base lemmas: what is later than a call's beginning.
-/
import Derived.Test.YtcfmchpoclkpgaaNB
import Derived.Deep.DeepCutAuto
import Derived.Deep.RegionHeld3
namespace Go.Proofs.Ytcfmchpoclkpgaa
open Go.RowKit
namespace NB
theorem bt {a b c : World} (h : Below a.heap.size a b) (h' : Below b.heap.size b c) : Below a.heap.size a c := h.trans (h'.mono h.size)
theorem ba {a b : World} {o : Obj} (h : Below a.heap.size a b) : Below a.heap.size a (b.alloc o) := h.alloc h.size _
theorem bd {a b : World} (h : Below a.heap.size a b) : Below a.heap.size a b.drew := h.drew
theorem bdn {a b : World} (h : Below a.heap.size a b) (n : Nat) : Below a.heap.size a (b.drewN n) := below_drewN h n
theorem bset {a b : World} {n o : Nat} {v : Value} (h : Below a.heap.size a b) (hn : a.heap.size ≤ n) : Below a.heap.size a (b.setCell ⟨n, o, none⟩ v) := h.setCell hn _
theorem ret_bi {a a' : Bool} (h : a = a') : Ending.returned (.bool a) = .returned (.bool a') := by rw [h]
theorem new_cell (X : World) (cs : Array Value) (t : TypeId) (o : Nat) : (X.alloc (.cells cs t)).cell? ⟨X.heap.size, o, none⟩ = cs[o]? := cell_of_row _ _ _ _ _ _ (heap_alloc_new X _)
theorem new_cell_drew (X : World) (cs : Array Value) (t : TypeId) (o : Nat) : (X.alloc (.cells cs t)).drew.cell? ⟨X.heap.size, o, none⟩ = cs[o]? := new_cell X cs t o
/-- one box, or two or three, ahead of what is later -/
theorem box1 {w V : World} {a : Array Value} {s : TypeId} (hV : V = w.alloc (.cells a s)) :
    w.heap.size < V.heap.size ∧ Below w.heap.size w V ∧ ∀ u, Below V.heap.size V u → (∀ o, u.cell? ⟨w.heap.size, o, none⟩ = a[o]?) ∧ V.heap.size ≤ u.heap.size := by
  have e : V.heap.size = w.heap.size + 1 := by rw [hV]; simp
  refine ⟨by omega, by rw [hV]; exact ba (Below.refl _ _), fun u hu => ⟨fun o => ?_, hu.size⟩⟩
  rw [hu.cell (p := ⟨w.heap.size, o, none⟩) (by rw [e]; exact Nat.lt_succ_self _), hV]
  exact new_cell w a s o
theorem box2 {w V : World} {a b : Array Value} {s t : TypeId} (hV : V = (w.alloc (.cells a s)).alloc (.cells b t)) :
    (w.heap.size < V.heap.size ∧ w.heap.size + 1 < V.heap.size) ∧ Below w.heap.size w V ∧ ∀ u, Below V.heap.size V u → (∀ o, u.cell? ⟨w.heap.size, o, none⟩ = a[o]?) ∧ (∀ o, u.cell? ⟨w.heap.size + 1, o, none⟩ = b[o]?) ∧ V.heap.size ≤ u.heap.size := by
  have e : V.heap.size = w.heap.size + 2 := by rw [hV]; simp
  refine ⟨by omega, by rw [hV]; exact ba (ba (Below.refl _ _)), fun u hu => ⟨fun o => ?_, fun o => ?_, hu.size⟩⟩
  · rw [hu.cell (p := ⟨w.heap.size, o, none⟩) (by rw [e]; show w.heap.size < _; omega), hV]
    rw [World.cell?_alloc_past _ _ _ (by simp)]
    exact new_cell w a s o
  · rw [hu.cell (p := ⟨w.heap.size + 1, o, none⟩) (by rw [e]; exact Nat.lt_succ_self _), hV]
    have := new_cell (w.alloc (.cells a s)) b t o
    rwa [World.size_alloc] at this
theorem new_free (X : World) (cs : Array Value) (t : TypeId) (o : Nat) : (X.alloc (.cells cs t)).frozen? ⟨X.heap.size, o, none⟩ = false := by
  unfold World.frozen?
  have h := heap_alloc_new X (.cells cs t)
  simp only
  rw [h]
  simp
theorem box1f {w V : World} {a : Array Value} {s : TypeId} (hV : V = w.alloc (.cells a s)) : ∀ u, Below V.heap.size V u → ∀ o, u.frozen? ⟨w.heap.size, o, none⟩ = false := by
  have e : V.heap.size = w.heap.size + 1 := by rw [hV]; simp
  intro u hu o
  rw [hu.frozen (p := ⟨w.heap.size, o, none⟩) (by rw [e]; exact Nat.lt_succ_self _), hV]
  exact new_free w a s o
theorem box2f {w V : World} {a b : Array Value} {s t : TypeId} (hV : V = (w.alloc (.cells a s)).alloc (.cells b t)) :
    ∀ u, Below V.heap.size V u → (∀ o, u.frozen? ⟨w.heap.size, o, none⟩ = false) ∧ (∀ o, u.frozen? ⟨w.heap.size + 1, o, none⟩ = false) := by
  have e : V.heap.size = w.heap.size + 2 := by rw [hV]; simp
  refine fun u hu => ⟨fun o => ?_, fun o => ?_⟩
  · rw [hu.frozen (p := ⟨w.heap.size, o, none⟩) (by rw [e]; show w.heap.size < _; omega), hV]
    rw [World.frozen?_alloc_past _ _ _ (by simp)]
    exact new_free w a s o
  · rw [hu.frozen (p := ⟨w.heap.size + 1, o, none⟩) (by rw [e]; exact Nat.lt_succ_self _), hV]
    have := new_free (w.alloc (.cells a s)) b t o
    rwa [World.size_alloc] at this
theorem toList_inj {a b : ByteArray} (h : a.toList = b.toList) : a = b := by
  rw [ByteArray.toList_eq, ByteArray.toList_eq] at h
  cases a; cases b
  simp only at h
  congr 1
  exact Array.ext' h
theorem str_ne {a b : ByteArray} (h : a ≠ b) : (a.toList == b.toList) = false := by
  rw [beq_eq_false_iff_ne]
  exact fun e => h (toList_inj e)
theorem str_eq {a b : ByteArray} (h : a = b) : (a.toList == b.toList) = true := by
  rw [h]; simp
/-- A block that holds such cells, and is not frozen. -/
def Box (w : World) (b : Nat) (cs : Array Value) (t : TypeId) : Prop := w.heap[b]? = some (.cells cs t)
theorem Box.lt {w : World} {b : Nat} {cs : Array Value} {t : TypeId} (h : Box w b cs t) : b < w.heap.size := (Array.getElem?_eq_some_iff.1 h).1
theorem Box.cell {w : World} {b : Nat} {cs : Array Value} {t : TypeId} (h : Box w b cs t) (o : Nat) : w.cell? ⟨b, o, none⟩ = cs[o]? := cell_of_row _ _ _ _ _ _ h
theorem Box.free {w : World} {b : Nat} {cs : Array Value} {t : TypeId} (h : Box w b cs t) (o : Nat) : w.frozen? ⟨b, o, none⟩ = false := by
  unfold World.frozen?
  simp only
  rw [show w.heap[b]? = some (.cells cs t) from h]
  simp
theorem Box.new (X : World) (cs : Array Value) (t : TypeId) : Box (X.alloc (.cells cs t)) X.heap.size cs t := heap_alloc_new X _
theorem Box.old {X : World} {b : Nat} {cs : Array Value} {t : TypeId} {o : Obj} (h : Box X b cs t) : Box (X.alloc o) b cs t := (Below.heap_alloc X o b h.lt).trans h
theorem Box.drew {X : World} {b : Nat} {cs : Array Value} {t : TypeId} (h : Box X b cs t) : Box X.drew b cs t := h
theorem Box.drewN {X : World} {b : Nat} {cs : Array Value} {t : TypeId} (h : Box X b cs t) (n : Nat) : Box (X.drewN n) b cs t := h
theorem Box.later {X Y : World} {b : Nat} {cs : Array Value} {t : TypeId} (h : Box X b cs t) (hb : Below X.heap.size X Y) : Box Y b cs t := (hb.block b h.lt).trans h
theorem Box.keep {w X Y : World} {b : Nat} {cs : Array Value} {t : TypeId} (h : Box X b cs t) (hb : Below w.heap.size X Y) (hl : b < w.heap.size) : Box Y b cs t := (hb.block b hl).trans h
theorem Box.other {X : World} {b n j : Nat} {cs : Array Value} {t : TypeId} {v : Value} (h : Box X b cs t) (hn : b ≠ n) : Box (X.setCell ⟨n, j, none⟩ v) b cs t := (Below.heap_setCell X ⟨n, j, none⟩ v b hn).trans h
theorem Box.set {X : World} {b j : Nat} {cs : Array Value} {t : TypeId} {v : Value} (h : Box X b cs t) : Box (X.setCell ⟨b, j, none⟩ v) b (cs.setIfInBounds j v) t := by
  unfold Box World.setCell
  simp only [Array.getElem?_modify]
  rw [show X.heap[b]? = some (.cells cs t) from h]
  simp
theorem Box.set3 {X : World} {b : Nat} {x y z x' y' z' : Value} {t : TypeId} (h : Box X b #[x, y, z] t) : Box (((X.setCell ⟨b, 0, none⟩ x').setCell ⟨b, 1, none⟩ y').setCell ⟨b, 2, none⟩ z') b #[x', y', z'] t :=
  ((h.set (j := 0) (v := x')).set (j := 1) (v := y')).set (j := 2) (v := z')
end NB
end Go.Proofs.Ytcfmchpoclkpgaa
