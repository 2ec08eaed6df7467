import Derived.Test.YtecmipgpldcfcaaGreatDoorG2
import Derived.Test.YtecmipgpldcfcaaGreatDoorG1
import Derived.Deep.DeepCutAuto
import Derived.Deep.RegionHeld3
import Derived.Shelf.Strings.Cut
import Derived.Test.YtecmipgpldcfcaaGreatDoorProg
import Derived.ChangeArms
import Derived.OpenShut
import Derived.Deep.Slices
import Derived.SizedLaws
namespace Go.Proofs.YtecmipgpldcfcaaGreatDoor
open Go.RowKit NB
namespace Rul
theorem right_spec {r : RuleV} (h : right r = true) : (-32767 ≤ r.fr ∧ r.fr ≤ r.to ∧ r.to ≤ 32767) ∧ Day.fits r.kind r.week r.day r.month = true ∧ (0 ≤ r.base ∧ r.base ≤ 2 ∧ 0 ≤ r.sec ∧ r.sec ≤ 172800) ∧ (-10800 ≤ r.save ∧ r.save ≤ 10800) := by
  unfold right at h
  simp only [Bool.and_eq_true, beq_iff_eq] at h
  obtain ⟨⟨⟨⟨⟨⟨h1, h2⟩, _⟩, _⟩, h5⟩, h6⟩, h7⟩ := h
  have hc := of_decide_eq_true h6
  unfold saves at h7
  simp only [Bool.and_eq_true, decide_eq_true_eq] at h7
  unfold toErr may at h1
  unfold frErr may at h2
  refine ⟨?_, h5, hc, h7⟩
  by_cases a : (decide (-32767 ≤ r.to) && decide (r.to ≤ 32767)) = true
  · rw [if_pos a] at h1
    by_cases b : (decide (-32767 ≤ r.fr) && decide (r.fr ≤ 32767)) = true
    · simp only [Bool.and_eq_true, decide_eq_true_eq] at a b
      by_cases c : r.to < r.fr
      · rw [if_pos c] at h1;cases h1
      · omega
    · rw [if_neg b] at h2;cases h2
  · rw [if_neg a] at h1;cases h1
end Rul
end Go.Proofs.YtecmipgpldcfcaaGreatDoor
namespace Go.Proofs.YtecmipgpldcfcaaGreatDoor
open Go.RowKit
namespace NB
theorem bt {a b c : World} (h : Below a.heap.size a b) (h' : Below b.heap.size b c) : Below a.heap.size a c := h.trans (h'.mono h.size)
theorem ba {a b : World} {o : Obj} (h : Below a.heap.size a b) : Below a.heap.size a (b.alloc o) := h.alloc h.size _
theorem bd {a b : World} (h : Below a.heap.size a b) : Below a.heap.size a b.drew := h.drew
theorem bdn {a b : World} (h : Below a.heap.size a b) (n : Nat) : Below a.heap.size a (b.drewN n) := below_drewN h n
theorem bset {a b : World} {n o : Nat} {v : Value} (h : Below a.heap.size a b) (hn : a.heap.size ≤ n) : Below a.heap.size a (b.setCell ⟨n, o, none⟩ v) := h.setCell hn _
theorem new_cell (X : World) (cs : Array Value) (t : TypeId) (o : Nat) : (X.alloc (.cells cs t)).cell? ⟨X.heap.size, o, none⟩ = cs[o]? := cell_of_row _ _ _ _ _ _ (heap_alloc_new X _)
theorem new_cell_drew (X : World) (cs : Array Value) (t : TypeId) (o : Nat) : (X.alloc (.cells cs t)).drew.cell? ⟨X.heap.size, o, none⟩ = cs[o]? := new_cell X cs t o
theorem box2 {w V : World} {a b : Array Value} {s t : TypeId} (hV : V = (w.alloc (.cells a s)).alloc (.cells b t)) :
    (w.heap.size < V.heap.size ∧ w.heap.size + 1 < V.heap.size) ∧ Below w.heap.size w V ∧ ∀ u, Below V.heap.size V u → (∀ o, u.cell? ⟨w.heap.size, o, none⟩ = a[o]?) ∧ (∀ o, u.cell? ⟨w.heap.size + 1, o, none⟩ = b[o]?) ∧ V.heap.size ≤ u.heap.size := by
  have e : V.heap.size = w.heap.size + 2 := by rw [hV];simp
  refine ⟨by omega, by rw [hV];exact ba (ba (Below.refl _ _)), fun u hu => ⟨fun o => ?_, fun o => ?_, hu.size⟩⟩
  · rw [hu.cell (p := ⟨w.heap.size, o, none⟩) (by rw [e];show w.heap.size < _;omega), hV]
    rw [World.cell?_alloc_past _ _ _ (by simp)]
    exact new_cell w a s o
  · rw [hu.cell (p := ⟨w.heap.size + 1, o, none⟩) (by rw [e];exact Nat.lt_succ_self _), hV]
    have := new_cell (w.alloc (.cells a s)) b t o
    rwa [World.size_alloc] at this
theorem new_free (X : World) (cs : Array Value) (t : TypeId) (o : Nat) : (X.alloc (.cells cs t)).frozen? ⟨X.heap.size, o, none⟩ = false := by
  unfold World.frozen?
  have h := heap_alloc_new X (.cells cs t)
  simp only
  rw [h]
  simp
theorem box2f {w V : World} {a b : Array Value} {s t : TypeId} (hV : V = (w.alloc (.cells a s)).alloc (.cells b t)) :
    ∀ u, Below V.heap.size V u → (∀ o, u.frozen? ⟨w.heap.size, o, none⟩ = false) ∧ (∀ o, u.frozen? ⟨w.heap.size + 1, o, none⟩ = false) := by
  have e : V.heap.size = w.heap.size + 2 := by rw [hV];simp
  refine fun u hu => ⟨fun o => ?_, fun o => ?_⟩
  · rw [hu.frozen (p := ⟨w.heap.size, o, none⟩) (by rw [e];show w.heap.size < _;omega), hV]
    rw [World.frozen?_alloc_past _ _ _ (by simp)]
    exact new_free w a s o
  · rw [hu.frozen (p := ⟨w.heap.size + 1, o, none⟩) (by rw [e];exact Nat.lt_succ_self _), hV]
    have := new_free (w.alloc (.cells a s)) b t o
    rwa [World.size_alloc] at this
theorem toList_inj {a b : ByteArray} (h : a.toList = b.toList) : a = b := by
  rw [ByteArray.toList_eq, ByteArray.toList_eq] at h
  cases a;cases b
  simp only at h
  congr 1
  exact Array.ext' h
theorem str_ne {a b : ByteArray} (h : a ≠ b) : (a.toList == b.toList) = false := by
  rw [beq_eq_false_iff_ne]
  exact fun e => h (toList_inj e)
theorem str_eq {a b : ByteArray} (h : a = b) : (a.toList == b.toList) = true := by
  rw [h];simp
def Box (w : World) (b : Nat) (cs : Array Value) (t : TypeId) : Prop := w.heap[b]? = some (.cells cs t)
theorem Box.lt {w : World} {b : Nat} {cs : Array Value} {t : TypeId} (h : Box w b cs t) : b < w.heap.size := (Array.getElem?_eq_some_iff.1 h).1
theorem Box.cell {w : World} {b : Nat} {cs : Array Value} {t : TypeId} (h : Box w b cs t) (o : Nat) : w.cell? ⟨b, o, none⟩ = cs[o]? := cell_of_row _ _ _ _ _ _ h
theorem Box.free {w : World} {b : Nat} {cs : Array Value} {t : TypeId} (h : Box w b cs t) (o : Nat) : w.frozen? ⟨b, o, none⟩ = false := by
  unfold World.frozen?
  simp only
  rw [show w.heap[b]? = some (.cells cs t) from h]
  simp
theorem Box.new (X : World) (cs : Array Value) (t : TypeId) : Box (X.alloc (.cells cs t)) X.heap.size cs t := heap_alloc_new X _
theorem Box.old {X : World} {b : Nat} {cs : Array Value} {t : TypeId} {o : Obj} (h : Box X b cs t) : Box (X.alloc o) b cs t := (Below.heap_alloc X o b h.lt).trans h
theorem Box.drew {X : World} {b : Nat} {cs : Array Value} {t : TypeId} (h : Box X b cs t) : Box X.drew b cs t := h
theorem Box.drewN {X : World} {b : Nat} {cs : Array Value} {t : TypeId} (h : Box X b cs t) (n : Nat) : Box (X.drewN n) b cs t := h
theorem Box.later {X Y : World} {b : Nat} {cs : Array Value} {t : TypeId} (h : Box X b cs t) (hb : Below X.heap.size X Y) : Box Y b cs t := (hb.block b h.lt).trans h
theorem Box.other {X : World} {b n j : Nat} {cs : Array Value} {t : TypeId} {v : Value} (h : Box X b cs t) (hn : b ≠ n) : Box (X.setCell ⟨n, j, none⟩ v) b cs t := (Below.heap_setCell X ⟨n, j, none⟩ v b hn).trans h
theorem Box.set {X : World} {b j : Nat} {cs : Array Value} {t : TypeId} {v : Value} (h : Box X b cs t) : Box (X.setCell ⟨b, j, none⟩ v) b (cs.setIfInBounds j v) t := by
  unfold Box World.setCell
  simp only [Array.getElem?_modify]
  rw [show X.heap[b]? = some (.cells cs t) from h]
  simp
theorem Box.set3 {X : World} {b : Nat} {x y z x' y' z' : Value} {t : TypeId} (h : Box X b #[x, y, z] t) : Box (((X.setCell ⟨b, 0, none⟩ x').setCell ⟨b, 1, none⟩ y').setCell ⟨b, 2, none⟩ z') b #[x', y', z'] t :=
  ((h.set (j := 0) (v := x')).set (j := 1) (v := y')).set (j := 2) (v := z')
end NB
end Go.Proofs.YtecmipgpldcfcaaGreatDoor
namespace Go.Proofs.YtecmipgpldcfcaaGreatDoor
open Go.RowKit
theorem bcq {p : Prop} (h : p := by repeat (first | (with_reducible exact Go.RowKit.Below.refl _ _) | (with_reducible assumption) | (with_reducible refine NB.ba ?_) | (with_reducible refine NB.bd ?_) | (with_reducible refine NB.bdn ?_ _) | (with_reducible refine NB.bset ?_ (by first | exact Nat.le_refl _ | omega | (simp; done) | (simp; omega))) | (with_reducible refine NB.bt ?_ (by with_reducible assumption)))) : p := h
theorem bxq {p : Prop} (h : p := by repeat (first | (with_reducible assumption) | (with_reducible exact NB.Box.new _ _ _) | (with_reducible refine NB.Box.old ?_) | (with_reducible refine NB.Box.drew ?_) | (with_reducible refine NB.Box.drewN ?_ _) | (with_reducible refine NB.Box.other ?_ (by first | assumption | omega | (simp; omega))) | (with_reducible refine NB.Box.later ?_ (by with_reducible assumption)))) : p := h
theorem szq {p : Prop} (h : p := by first | assumption | omega | (simp; done) | (simp; omega)) : p := h
theorem szb {b n : Nat} {X Y : World} (hb : Go.RowKit.Below n X Y) (h : b < X.heap.size := by first | assumption | omega | (simp; done) | (simp; omega)) : b < Y.heap.size := Nat.lt_of_lt_of_le h hb.size
theorem bcs {X Y : World} (hb : Go.RowKit.Below X.heap.size X Y) (b : Nat) (h : b < X.heap.size := by first | assumption | omega | (simp; done) | (simp; omega)) : (∀ o, Y.cell? ⟨b, o, none⟩ = X.cell? ⟨b, o, none⟩) ∧ (∀ o, Y.frozen? ⟨b, o, none⟩ = X.frozen? ⟨b, o, none⟩) ∧ b < Y.heap.size := ⟨fun o => (NB.bcell hb).1 b o h, fun o => (NB.bcell hb).2 b o h, Nat.lt_of_lt_of_le h hb.size⟩
end Go.Proofs.YtecmipgpldcfcaaGreatDoor
namespace Go.Proofs.YtecmipgpldcfcaaGreatDoor
open Go.Shelf
def Tryz.lays145_ren : Go.Shelf.Ren := ⟨fun|145 => 132|220 => 178|219 => 208|217 => 137|225 => 238|224 => 239|267 => 240|266 => 181|314 => 257|n => n, fun|9 => 9|4 => 4|59 => 172|3 => 3|5 => 5|46 => 97|146 => 268|51 => 267|n => n, fun|1 => 1|n => n⟩
theorem Tryz.lays145 : Go.Proofs.Lays.n145 Tryz.prog Tryz.lays145_ren := {
  mixed := by kernel_rfl,
  f145 := Tryz.func132.trans (congrArg some (by kernel_rfl)),
  f217 := Tryz.func137.trans (congrArg some (by kernel_rfl)),
  f219 := Tryz.func208.trans (congrArg some (by kernel_rfl)),
  f220 := Tryz.func178.trans (congrArg some (by kernel_rfl)),
  f224 := Tryz.func239.trans (congrArg some (by kernel_rfl)),
  f225 := Tryz.func238.trans (congrArg some (by kernel_rfl)),
  f266 := Tryz.func181.trans (congrArg some (by kernel_rfl)),
  f267 := Tryz.func240.trans (congrArg some (by kernel_rfl)),
  f314 := Tryz.func257.trans (congrArg some (by kernel_rfl)),
  t3 := Tryz.underlying3,
  a3 := Tryz.isAgg3,
  z3 := Tryz.sizeOf3,
  v3 := Tryz.zeroValue3,
  t4 := Tryz.underlying4,
  a4 := Tryz.isAgg4,
  z4 := Tryz.sizeOf4,
  v4 := Tryz.zeroValue4,
  t5 := Tryz.underlying5,
  a5 := Tryz.isAgg5,
  z5 := Tryz.sizeOf5,
  v5 := Tryz.zeroValue5,
  t9 := Tryz.underlying9,
  a9 := Tryz.isAgg9,
  z9 := Tryz.sizeOf9,
  v9 := Tryz.zeroValue9,
  t46 := Tryz.underlying97,
  a46 := Tryz.isAgg97,
  z46 := Tryz.sizeOf97,
  v46 := Tryz.zeroValue97,
  t51 := Tryz.underlying267,
  a51 := Tryz.isAgg267,
  z51 := Tryz.sizeOf267,
  v51 := Tryz.zeroValue267,
  t59 := Tryz.underlying172,
  a59 := Tryz.isAgg172,
  z59 := Tryz.sizeOf172,
  v59 := Tryz.zeroValue172,
  t146 := Tryz.underlying268,
  a146 := Tryz.isAgg268,
  z146 := Tryz.sizeOf268,
  v146 := Tryz.zeroValue268,
  g1 := by kernel_rfl }

open Go.RowKit NB
def Tab (w : World) : Prop := ∃ m, w.cell? ⟨1, 0, none⟩ = some (.int .i64 m)
theorem Tab.lt {w : World} (h : Tab w) : 1 < w.heap.size := by
  obtain ⟨m, hm⟩ := h
  unfold World.cell? at hm
  cases hh : w.heap[1]? with
  | none => simp only [hh] at hm;cases hm
  | some o => exact (Array.getElem?_eq_some_iff.1 hh).1
theorem Tab.later {w w' : World} (h : Tab w) (hb : Below w.heap.size w w') : Tab w' := by
  have hl := h.lt
  obtain ⟨m, hm⟩ := h
  exact ⟨m, (hb.cell (p := ⟨1, 0, none⟩) hl).trans hm⟩
namespace Lb
theorem Cut (s sep : ByteArray) (w : World) (hs : s.size < 4294967281) (hm : Tab w) :
    Calls Tryz.prog 132 #[.string s, .string sep] w fun e w' => e = .returned (.tuple #[.string ⟨(Go.Lib.cut s.data.toList sep.data.toList).1.toArray⟩, .string ⟨(Go.Lib.cut s.data.toList sep.data.toList).2.1.toArray⟩, .bool (Go.Lib.cut s.data.toList sep.data.toList).2.2]) ∧ Below w.heap.size w w' := by
  obtain ⟨m, hm⟩ := hm
  exact (Any.strings_Cut Tryz.lays145 s sep m w hs hm).mono fun _ _ ⟨he, n, hw⟩ => ⟨he, by rw [hw];exact below_drewN (Below.refl _ _) n⟩
end Lb
end Go.Proofs.YtecmipgpldcfcaaGreatDoor
namespace Go.Proofs.YtecmipgpldcfcaaGreatDoor
open Go.RowKit NB
namespace Fmt
def wd (l : List UInt8) : Bool := l.all (wset.contains ·)
theorem wordB_mk (l : List UInt8) : wordB ⟨l.toArray⟩ = wd l := by unfold wordB wd;rfl
def cutF (s : ByteArray) : Int × ByteArray × ByteArray :=
  let c1 := Go.Lib.cut s.data.toList [37, 115]
  let c2 := Go.Lib.cut s.data.toList [47]
  if s.toList = [37, 122] then (3, ⟨#[]⟩, ⟨#[]⟩)
  else if c1.2.2 = true ∧ wd c1.1 = true ∧ wd c1.2.1 = true then (2, ⟨c1.1.toArray⟩, ⟨c1.2.1.toArray⟩)
  else if c2.2.2 = true ∧ c2.1 ≠ [] ∧ c2.2.1 ≠ [] ∧ wd c2.1 = true ∧ wd c2.2.1 = true then (4, ⟨c2.1.toArray⟩, ⟨c2.2.1.toArray⟩)
  else if s.toList ≠ [] ∧ wordB s = true then (1, s, ⟨#[]⟩)
  else (0, ⟨#[]⟩, ⟨#[]⟩)
def checkE (s : ByteArray) : Int := if 16 < s.size then 9 else if (cutF s).1 = 0 then 4 else 0
theorem cut_size (s sep : List UInt8) : (Go.Lib.cut s sep).1.length ≤ s.length ∧ (Go.Lib.cut s sep).2.1.length ≤ s.length := by
  unfold Go.Lib.cut
  split
  · exact ⟨List.length_take_le' _ _, by simp⟩
  · exact ⟨Nat.le_refl _, Nat.zero_le _⟩
theorem isE (l : List UInt8) : (⟨l.toArray⟩ : ByteArray).toList.isEmpty = decide (l = []) := by
  rw [emp]
  cases l <;> simp
set_option maxHeartbeats 3200000 in
theorem cut (s : ByteArray) (hs : s.size < 4294967281) (w : World) (ht : Tab w) : Calls Tryz.prog 83 #[.string s] w fun e w' => e = .returned (.tuple #[.int .i64 (cutF s).1, .string (cutF s).2.1, .string (cutF s).2.2]) ∧ Below w.heap.size w w' := by
  have hc1 := fun W (h : Tab W) => Lb.Cut s ⟨#[37, 115]⟩ W hs h
  have hc2 := fun W (h : Tab W) => Lb.Cut s ⟨#[47]⟩ W hs h
  have z1 := cut_size s.data.toList [37, 115]
  have z2 := cut_size s.data.toList [47]
  simp only [Array.length_toList] at z1 z2
  have hsz : s.data.size = s.size := rfl
  unfold cutF
  simp only at hc1 hc2 ⊢
  generalize Go.Lib.cut s.data.toList [37, 115] = c1 at *
  generalize Go.Lib.cut s.data.toList [47] = c2 at *
  obtain ⟨a1, b1, i1⟩ := c1
  obtain ⟨a2, b2, i2⟩ := c2
  simp only at hc1 hc2 z1 z2 ⊢
  have wa1 := fun W => word ⟨a1.toArray⟩ (by show a1.toArray.size ≤ _;simp;omega) W
  have wb1 := fun W => word ⟨b1.toArray⟩ (by show b1.toArray.size ≤ _;simp;omega) W
  have wa2 := fun W => word ⟨a2.toArray⟩ (by show a2.toArray.size ≤ _;simp;omega) W
  have wb2 := fun W => word ⟨b2.toArray⟩ (by show b2.toArray.size ≤ _;simp;omega) W
  have ws := fun W => word s (by omega) W
  rw [wordB_mk] at wa1 wb1 wa2 wb2
  have ea := isE a2
  have eb := isE b2
  generalize wd a1 = g1 at *
  generalize wd b1 = g2 at *
  generalize wd a2 = g3 at *
  generalize wd b2 = g4 at *
  generalize wordB s = g5 at *
  obtain ⟨A1, hA1⟩ : ∃ x, x = (⟨a1.toArray⟩ : ByteArray) := ⟨_, rfl⟩
  obtain ⟨B1, hB1⟩ : ∃ x, x = (⟨b1.toArray⟩ : ByteArray) := ⟨_, rfl⟩
  obtain ⟨A2, hA2⟩ : ∃ x, x = (⟨a2.toArray⟩ : ByteArray) := ⟨_, rfl⟩
  obtain ⟨B2, hB2⟩ : ∃ x, x = (⟨b2.toArray⟩ : ByteArray) := ⟨_, rfl⟩
  rw [← hA1] at hc1 wa1 ⊢
  rw [← hB1] at hc1 wb1 ⊢
  rw [← hA2] at hc2 wa2 ea ⊢
  rw [← hB2] at hc2 wb2 eb ⊢
  have Hc1 := Lib.hid hc1
  have Hc2 := Lib.hid hc2
  have Wa1 := Lib.hid wa1
  have Wb1 := Lib.hid wb1
  have Wa2 := Lib.hid wa2
  have Wb2 := Lib.hid wb2
  have Ws := Lib.hid ws
  have HT := Lib.hid ht
  obtain ⟨ne, hne⟩ : ∃ x : Bool, x = decide (s.toList = []) := ⟨_, rfl⟩
  have es : s.toList.isEmpty = ne := by rw [hne];cases h : s.toList <;> simp
  clear hc1 hc2 wa1 wb1 wa2 wb2 ws hA1 hB1 hA2 hB2 z1 z2 hsz ht
  by_cases hz : s.toList = [37, 122]
  · have e1 : (s.toList == [37, 122]) = true := by simp [hz]
    rw [if_pos hz]
    clear hz hne es
    go_enter Tryz.func83, Tryz.ntmps83
    go_wp2
    go_ret3
    exact ⟨rfl, bcq⟩
  have e1 : (s.toList == [37, 122]) = false := by simp [hz]
  rw [if_neg hz]
  have en : (s.toList ≠ [] ↔ ne = false) := by rw [hne];simp
  have ea' : (a2 ≠ [] ↔ ¬ A2.toList = []) := by rw [← List.isEmpty_iff, ea];simp
  have eb' : (b2 ≠ [] ↔ ¬ B2.toList = []) := by rw [← List.isEmpty_iff, eb];simp
  simp only [en, ea', eb']
  clear hz hne en ea eb ea' eb'
  obtain ⟨pe, hpe⟩ : ∃ x : Int × ByteArray × ByteArray, x = (if i1 = true ∧ g1 = true ∧ g2 = true then (2, A1, B1) else if i2 = true ∧ ¬ A2.toList = [] ∧ ¬ B2.toList = [] ∧ g3 = true ∧ g4 = true then (4, A2, B2) else if ne = false ∧ g5 = true then (1, s, ⟨#[]⟩) else (0, ⟨#[]⟩, ⟨#[]⟩)) := ⟨_, rfl⟩
  rw [← hpe]
  have Hpe := Lib.hid hpe
  clear hpe
  go_enter Tryz.func83, Tryz.ntmps83
  go_wp2_with (first
    | (go_at_call_of 132 (({ data := #[37, 115] } : ByteArray));refine (Hc1.out _ ?_).mono ?_;(· exact HT.out.later bcq);rintro e w1 ⟨rfl, hb1⟩)
    | (go_at_call_of 132 (({ data := #[47] } : ByteArray));refine (Hc2.out _ ?_).mono ?_;(· exact HT.out.later bcq);rintro e w4 ⟨rfl, hb4⟩)
    | (with_reducible (go_at_call 133;(with_reducible refine (Wa1.out _).mono ?_);rintro e w2 ⟨rfl, hb2⟩;obtain ⟨hc2, hf2⟩ := bcell hb2))
    | (with_reducible (go_at_call 133;(with_reducible refine (Wb1.out _).mono ?_);rintro e w3 ⟨rfl, hb3⟩;obtain ⟨hc3, hf3⟩ := bcell hb3))
    | (with_reducible (go_at_call 133;(with_reducible refine (Wa2.out _).mono ?_);rintro e w5 ⟨rfl, hb5⟩;obtain ⟨hc5, hf5⟩ := bcell hb5))
    | (with_reducible (go_at_call 133;(with_reducible refine (Wb2.out _).mono ?_);rintro e w6 ⟨rfl, hb6⟩;obtain ⟨hc6, hf6⟩ := bcell hb6))
    | (with_reducible (go_at_call 133;(with_reducible refine (Ws.out _).mono ?_);rintro e w7 ⟨rfl, hb7⟩;obtain ⟨hc7, hf7⟩ := bcell hb7)))
  all_goals
    have hpe := Hpe.out
    simp only [*, if_true, if_false, true_and, and_true, false_and, and_false, Bool.false_eq_true, Bool.true_eq_false, eq_self, not_true_eq_false, not_false_eq_true] at hpe
    clear Hpe
    first
      | (subst hpe;go_ret3;exact ⟨rfl, bcq⟩)
      | (cases g4
         · (simp only [Bool.false_eq_true, if_false] at hpe;subst hpe;go_ret3;exact ⟨rfl, bcq⟩)
         · (exfalso;rename_i h0 h1;clear hpe;first|(simp only [List.isEmpty_eq_false_iff, Bool.not_eq_false', List.isEmpty_iff, *, Bool.true_eq_false, or_false, or_self] at h0;done)|simp_all))
theorem Check (s : ByteArray) (hs : s.size ≤ 9223372036854775807) (w : World) (ht : Tab w) : Calls Tryz.prog 52 #[.string s] w fun e w' => e = .returned (.int .i64 (checkE s)) ∧ Below w.heap.size w w' := by
  unfold checkE
  by_cases h : 16 < s.size
  · rw [if_pos h]
    go_enter Tryz.func52, Tryz.ntmps52
    go_wp2
    go_ret
    exact ⟨rfl, bcq⟩
  · rw [if_neg h]
    have cc := fun W (h' : Tab W) => cut s (by omega) W h'
    generalize cutF s = x at *
    obtain ⟨k, a, b⟩ := x
    simp only at cc ⊢
    have Cc := Lib.hid cc
    have HT := Lib.hid ht
    clear cc ht
    by_cases hk : k = 0
    · rw [if_pos hk]
      go_enter Tryz.func52, Tryz.ntmps52
      go_wp2_with (go_at_call 83;(with_reducible refine (Cc.out _ ?_).mono ?_);(· exact HT.out.later bcq);rintro e w1 ⟨rfl, hb1⟩;obtain ⟨hc1, hf1⟩ := bcell hb1)
      go_ret
      exact ⟨rfl, bcq⟩
    · rw [if_neg hk]
      go_enter Tryz.func52, Tryz.ntmps52
      go_wp2_with (go_at_call 83;(with_reducible refine (Cc.out _ ?_).mono ?_);(· exact HT.out.later bcq);rintro e w1 ⟨rfl, hb1⟩;obtain ⟨hc1, hf1⟩ := bcell hb1)
      go_ret
      exact ⟨rfl, bcq⟩
end Fmt
end Go.Proofs.YtecmipgpldcfcaaGreatDoor
namespace Go.Proofs.YtecmipgpldcfcaaGreatDoor
open Go.RowKit NB
def Lies (w : World) (b off sz : Nat) (cells : List (List Value)) : Prop := ∀ (i j : Nat) (cs : List Value) (v : Value), cells[i]? = some cs → cs[j]? = some v → w.cell? ⟨b, off + i * sz + j, none⟩ = some v
namespace Lgt
def lightR (r : RuleV) : Bool := decide (r.name.size ≤ 200) && decide (r.letter.size ≤ 200)
def light (l : List RuleV) : Bool := decide (l.length ≤ 12) && l.all lightR
theorem all_take_succ {α : Type} {p : α → Bool} {l : List α} {k : Nat} {r : α} (hr : l[k]? = some r) (h : (l.take k).all p = true) (hp : p r = true) : (l.take (k + 1)).all p = true := by
  rw [List.take_add_one, hr]
  simp only [Option.toList_some, List.all_append, List.all_cons, List.all_nil, Bool.and_true, Bool.and_eq_true]
  exact ⟨h, hp⟩
theorem all_false {α : Type} {p : α → Bool} {l : List α} {k : Nat} {r : α} (hr : l[k]? = some r) (hp : p r = false) : l.all p = false := by
  rw [Bool.eq_false_iff]
  intro h
  have := List.all_eq_true.mp h r (List.mem_of_getElem? hr)
  rw [hp] at this
  cases this
def Post (b : Bool) (w : World) (e : Ending) (w' : World) : Prop := e = .returned (.bool b) ∧ Below w.heap.size w w'
set_option maxHeartbeats 800000 in
theorem Light (b off cap : Nat) (l : List RuleV) (w : World) (hc : Lies w b off 11 (l.map RuleV.cells)) (hb : b < w.heap.size) (hcap : l.length ≤ 9223372036854775807) (hs : ∀ r ∈ l, r.Fit) : Calls Tryz.prog 37 #[.slice (some ⟨b, off, none⟩) l.length cap] w (Post (light l) w) := by
  have Hc := Lib.hid hc;clear hc
  have Hs := Lib.hid hs;clear hs
  by_cases hn : l.length ≤ 12
  · have hL : light l = l.all lightR := by unfold light;rw [decide_eq_true hn];rfl
    rw [hL]
    clear hL
    generalize hN : l.length = n at hn hcap
    have HN := Lib.hid hN;clear hN
    go_enter Tryz.func37, Tryz.ntmps37
    go_wp2
    go_loopw [10] (fun i wr => ∃ k : Nat, k ≤ n ∧ i = .int .i64 k ∧ ((l.take k).all lightR) = true ∧ Below w.heap.size w wr) (fun i _ => n - (intOf i).toNat)
    case atStart => exact ⟨0, Nat.zero_le _, rfl, rfl, Below.refl _ _⟩
    case round =>
      obtain ⟨k, hk, rfl, hall, hbel⟩ := hrel
      have Hall := Lib.hid hall;clear hall
      by_cases hlt : k < n
      · have hbs := hbel.size
        obtain ⟨r, hr⟩ : ∃ r, l[k]? = some r := ⟨l[k]'(by rw [HN.out];exact hlt), by simp⟩
        have Hbel := Lib.hid hbel;clear hbel
        have c (j : Nat) (v : Value) (hv : r.cells[j]? = some v) : wr.cell? ⟨b, off + k * 11 + j, none⟩ = some v := by
          rw [Hbel.out.cell (p := ⟨b, off + k * 11 + j, none⟩) hb]
          exact Hc.out k j _ v (by rw [List.getElem?_map, hr];rfl) hv
        have c0 := c 0 _ rfl
        have c1 := c 1 _ rfl
        have c2 := c 2 _ rfl
        have c3 := c 3 _ rfl
        have c4 := c 4 _ rfl
        have c5 := c 5 _ rfl
        have c6 := c 6 _ rfl
        have c7 := c 7 _ rfl
        have c8 := c 8 _ rfl
        have c9 := c 9 _ rfl
        have c10 := c 10 _ rfl
        simp only [Nat.add_zero] at c0
        clear c
        have hs1 := (Hs.out r (List.mem_of_getElem? hr)).n
        have hs2 := (Hs.out r (List.mem_of_getElem? hr)).l
        have Hr := Lib.hid hr;clear hr
        go_wp2
        all_goals first
          | (
            refine ⟨⟨k + 1, hlt, rfl, all_take_succ Hr.out Hall.out ?_, Hbel.out.alloc hbs _⟩, (by simp [intOf];omega)⟩
            unfold lightR
            rw [Bool.and_eq_true, decide_eq_true_eq, decide_eq_true_eq]
            omega)
          | (
            go_ret
            refine ⟨ret_bool (all_false Hr.out ?_).symm, Hbel.out.alloc hbs _⟩
            unfold lightR
            rw [Bool.and_eq_false_iff, decide_eq_false_iff_not, decide_eq_false_iff_not]
            omega)
      · go_wp2
        go_ret
        refine ⟨ret_bool ?_, hbel⟩
        have := Hall.out
        rw [List.take_of_length_le (by rw [HN.out];omega)] at this
        exact this.symm
  · have hL : light l = false := by unfold light;rw [decide_eq_false hn];rfl
    rw [hL]
    clear hL
    generalize l.length = n at hn hcap
    go_enter Tryz.func37, Tryz.ntmps37
    go_wp2
    go_ret
    exact ⟨rfl, Below.refl _ _⟩
end Lgt
end Go.Proofs.YtecmipgpldcfcaaGreatDoor
namespace Go.Proofs.YtecmipgpldcfcaaGreatDoor
open Go.RowKit Go.ChangeShapes Go.WideShapes
section
variable {H : Type} {enc : TypeId × Value → H} {w : World} {base : Nat} {spare : Nat → Bool} {held : Bool}
theorem open_i {fuel : Nat} {k : IntKind} {t : TypeId} {c : Value} {o : Option (DataW H × List MemPlace)} (ht : Tryz.prog.underlying t = some (.int k)) (h : DataW.trod enc Tryz.prog w base spare held fuel t [c] = o) (ho : ∃ y, o = some y) : ∃ n, c = .int k n ∧ (Lit.int k n).wf = true := by
  obtain ⟨y, rfl⟩ := ho
  obtain ⟨n, h1, _, h2⟩ := DataW.trod_int ht h
  simp only [List.cons.injEq, and_true] at h1
  exact ⟨n, h1, h2⟩
theorem open_s {fuel : Nat} {t : TypeId} {c : Value} {o : Option (DataW H × List MemPlace)} (ht : Tryz.prog.underlying t = some .string) (h : DataW.trod enc Tryz.prog w base spare held fuel t [c] = o) (ho : ∃ y, o = some y) : ∃ s : ByteArray, c = .string s ∧ s.size ≤ maxLen := by
  obtain ⟨y, rfl⟩ := ho
  obtain ⟨n, h1, _, h2⟩ := DataW.trod_string ht h
  simp only [List.cons.injEq, and_true] at h1
  exact ⟨n, h1, h2⟩
theorem c27 : Tryz.prog.cellsOf 104 = 11 := by kernel_rfl
theorem c23 : Tryz.prog.cellsOf 45 = 3 := by kernel_rfl
theorem c25 : Tryz.prog.cellsOf 47 = 2 := by kernel_rfl
theorem c9 : Tryz.prog.cellsOf 9 = 1 := by kernel_rfl
theorem c3 : Tryz.prog.cellsOf 3 = 1 := by kernel_rfl
theorem c2 : Tryz.prog.cellsOf 2 = 1 := by kernel_rfl
theorem at_some {α : Type} {l : List α} {n i : Nat} (h : l.length = n) (hi : i < n) : ∃ y, l[i]? = some y := ⟨l[i]'(by omega), List.getElem?_eq_getElem (by omega)⟩
set_option maxRecDepth 100000 in
theorem rule_cells {fuel : Nat} {cs : List Value} {x : DataW H × List MemPlace} (h : DataW.trod enc Tryz.prog w base spare held fuel 104 cs = some x) : ∃ r : RuleV, cs = r.cells ∧ r.Fit := by
  obtain ⟨xs, n, _, _, hlen, hxl, hg⟩ := DataW.trod_struct Tryz.underlying104 h
  match cs, hlen.trans c27 with
  | [v0, v1, v2, v3, v4, v5, v6, v7, v8, v9, v10], _ =>
    have hxl8 : xs.length = 8 := hxl
    have g0 : DataW.trod enc Tryz.prog w base spare held n 9 (([v0, v1, v2, v3, v4, v5, v6, v7, v8, v9, v10].drop 0).take (Tryz.prog.cellsOf 9)) = xs[0]? := hg 0 _ rfl
    rw [c9] at g0
    replace g0 : DataW.trod enc Tryz.prog w base spare held n 9 [v0] = xs[0]? := g0
    have g1 : DataW.trod enc Tryz.prog w base spare held n 3 (([v0, v1, v2, v3, v4, v5, v6, v7, v8, v9, v10].drop 1).take (Tryz.prog.cellsOf 3)) = xs[1]? := hg 1 _ rfl
    rw [c3] at g1
    replace g1 : DataW.trod enc Tryz.prog w base spare held n 3 [v1] = xs[1]? := g1
    have g2 : DataW.trod enc Tryz.prog w base spare held n 3 (([v0, v1, v2, v3, v4, v5, v6, v7, v8, v9, v10].drop 2).take (Tryz.prog.cellsOf 3)) = xs[2]? := hg 2 _ rfl
    rw [c3] at g2
    replace g2 : DataW.trod enc Tryz.prog w base spare held n 3 [v2] = xs[2]? := g2
    have g3 : DataW.trod enc Tryz.prog w base spare held n 3 (([v0, v1, v2, v3, v4, v5, v6, v7, v8, v9, v10].drop 3).take (Tryz.prog.cellsOf 3)) = xs[3]? := hg 3 _ rfl
    rw [c3] at g3
    replace g3 : DataW.trod enc Tryz.prog w base spare held n 3 [v3] = xs[3]? := g3
    have g4 : DataW.trod enc Tryz.prog w base spare held n 45 (([v0, v1, v2, v3, v4, v5, v6, v7, v8, v9, v10].drop 4).take (Tryz.prog.cellsOf 45)) = xs[4]? := hg 4 _ rfl
    rw [c23] at g4
    replace g4 : DataW.trod enc Tryz.prog w base spare held n 45 [v4, v5, v6] = xs[4]? := g4
    have g5 : DataW.trod enc Tryz.prog w base spare held n 47 (([v0, v1, v2, v3, v4, v5, v6, v7, v8, v9, v10].drop 7).take (Tryz.prog.cellsOf 47)) = xs[5]? := hg 5 _ rfl
    rw [c25] at g5
    replace g5 : DataW.trod enc Tryz.prog w base spare held n 47 [v7, v8] = xs[5]? := g5
    have g6 : DataW.trod enc Tryz.prog w base spare held n 2 (([v0, v1, v2, v3, v4, v5, v6, v7, v8, v9, v10].drop 9).take (Tryz.prog.cellsOf 2)) = xs[6]? := hg 6 _ rfl
    rw [c2] at g6
    replace g6 : DataW.trod enc Tryz.prog w base spare held n 2 [v9] = xs[6]? := g6
    have g7 : DataW.trod enc Tryz.prog w base spare held n 9 (([v0, v1, v2, v3, v4, v5, v6, v7, v8, v9, v10].drop 10).take (Tryz.prog.cellsOf 9)) = xs[7]? := hg 7 _ rfl
    rw [c9] at g7
    replace g7 : DataW.trod enc Tryz.prog w base spare held n 9 [v10] = xs[7]? := g7
    obtain ⟨s0, rfl, z0⟩ := open_s Tryz.underlying9 g0 (at_some hxl8 (by decide))
    obtain ⟨n1, rfl, z1⟩ := open_i Tryz.underlying3 g1 (at_some hxl8 (by decide))
    obtain ⟨n2, rfl, z2⟩ := open_i Tryz.underlying3 g2 (at_some hxl8 (by decide))
    obtain ⟨n3, rfl, z3⟩ := open_i Tryz.underlying3 g3 (at_some hxl8 (by decide))
    obtain ⟨n9, rfl, z9⟩ := open_i Tryz.underlying2 g6 (at_some hxl8 (by decide))
    obtain ⟨s10, rfl, z10⟩ := open_s Tryz.underlying9 g7 (at_some hxl8 (by decide))
    obtain ⟨y4, hy4⟩ := at_some (i := 4) hxl8 (by decide)
    obtain ⟨y5, hy5⟩ := at_some (i := 5) hxl8 (by decide)
    rw [hy4] at g4
    rw [hy5] at g5
    obtain ⟨xs4, n4', _, _, _, hl4, hg4⟩ := DataW.trod_struct Tryz.underlying45 g4
    obtain ⟨xs5, n5', _, _, _, hl5, hg5⟩ := DataW.trod_struct Tryz.underlying47 g5
    have hl43 : xs4.length = 3 := hl4
    have hl52 : xs5.length = 2 := hl5
    have k0 : DataW.trod enc Tryz.prog w base spare held n4' 3 (([v4, v5, v6].drop 0).take (Tryz.prog.cellsOf 3)) = xs4[0]? := hg4 0 _ rfl
    rw [c3] at k0
    replace k0 : DataW.trod enc Tryz.prog w base spare held n4' 3 [v4] = xs4[0]? := k0
    have k1 : DataW.trod enc Tryz.prog w base spare held n4' 3 (([v4, v5, v6].drop 1).take (Tryz.prog.cellsOf 3)) = xs4[1]? := hg4 1 _ rfl
    rw [c3] at k1
    replace k1 : DataW.trod enc Tryz.prog w base spare held n4' 3 [v5] = xs4[1]? := k1
    have k2 : DataW.trod enc Tryz.prog w base spare held n4' 3 (([v4, v5, v6].drop 2).take (Tryz.prog.cellsOf 3)) = xs4[2]? := hg4 2 _ rfl
    rw [c3] at k2
    replace k2 : DataW.trod enc Tryz.prog w base spare held n4' 3 [v6] = xs4[2]? := k2
    have k3 : DataW.trod enc Tryz.prog w base spare held n5' 2 (([v7, v8].drop 0).take (Tryz.prog.cellsOf 2)) = xs5[0]? := hg5 0 _ rfl
    rw [c2] at k3
    replace k3 : DataW.trod enc Tryz.prog w base spare held n5' 2 [v7] = xs5[0]? := k3
    have k4 : DataW.trod enc Tryz.prog w base spare held n5' 3 (([v7, v8].drop 1).take (Tryz.prog.cellsOf 3)) = xs5[1]? := hg5 1 _ rfl
    rw [c3] at k4
    replace k4 : DataW.trod enc Tryz.prog w base spare held n5' 3 [v8] = xs5[1]? := k4
    obtain ⟨n4, rfl, z4⟩ := open_i Tryz.underlying3 k0 (at_some hl43 (by decide))
    obtain ⟨n5, rfl, z5⟩ := open_i Tryz.underlying3 k1 (at_some hl43 (by decide))
    obtain ⟨n6, rfl, z6⟩ := open_i Tryz.underlying3 k2 (at_some hl43 (by decide))
    obtain ⟨n7, rfl, z7⟩ := open_i Tryz.underlying2 k3 (at_some hl52 (by decide))
    obtain ⟨n8, rfl, z8⟩ := open_i Tryz.underlying3 k4 (at_some hl52 (by decide))
    have wf : ∀ n : Int, (Lit.int .i64 n).wf = true → I64 n := by
      intro n hn
      have h1 : (decide (IntKind.i64.min ≤ n) && decide (n ≤ IntKind.i64.max)) = true := hn
      rw [show IntKind.i64.min = -9223372036854775808 from rfl, show IntKind.i64.max = 9223372036854775807 from rfl] at h1
      simp only [Bool.and_eq_true, decide_eq_true_eq] at h1
      exact h1
    exact ⟨⟨s0, n1, n2, n3, n4, n5, n6, n7, n8, n9, s10⟩, rfl, ⟨z0, z10, wf _ z1, wf _ z2, wf _ z7, wf _ z9⟩⟩
end
end Go.Proofs.YtecmipgpldcfcaaGreatDoor
namespace Go.Proofs.YtecmipgpldcfcaaGreatDoor
open Go.RowKit NB
structure Holds (w : World) (v : Value) (l : List RuleV) : Prop where
  lies : (∃ p cap, v = .slice p 0 cap ∧ l = []) ∨ (∃ b off cap, v = .slice (some ⟨b, off, none⟩) l.length cap ∧ b < w.heap.size ∧ Lies w b off 11 (l.map RuleV.cells))
  fit : ∀ r ∈ l, r.Fit
  len : l.length ≤ 9223372036854775807
theorem Holds.later {w w' : World} {v : Value} {l : List RuleV} (h : Holds w v l) (hb : Below w.heap.size w w') : Holds w' v l := by
  refine ⟨?_, h.fit, h.len⟩
  rcases h.lies with h1|⟨b, off, cap, h1, h2, h3⟩
  · exact .inl h1
  · refine .inr ⟨b, off, cap, h1, Nat.lt_of_lt_of_le h2 hb.size, fun i j cs v hi hj => ?_⟩
    rw [hb.cell (p := ⟨b, off + i * 11 + j, none⟩) h2]
    exact h3 i j cs v hi hj
theorem Holds.form {w : World} {v : Value} {l : List RuleV} (h : Holds w v l) : ∃ p cap, v = .slice p l.length cap := by
  rcases h.lies with ⟨p, cap, h1, h2⟩|⟨b, off, cap, h1, _, _⟩
  · exact ⟨p, cap, by rw [h1, h2];rfl⟩
  · exact ⟨_, cap, h1⟩
namespace Lgt
theorem LightE (p : Option Addr) (cap : Nat) (w : World) : Calls Tryz.prog 37 #[.slice p 0 cap] w (Post true w) := by
  go_enter Tryz.func37, Tryz.ntmps37
  go_wp2
  go_loopw [10] (fun i wr => i = .int .i64 0 ∧ Below w.heap.size w wr) (fun i _ => 0)
  case atStart => exact ⟨rfl, Below.refl _ _⟩
  case round =>
    obtain ⟨rfl, hbel⟩ := hrel
    go_wp2
    go_ret
    exact ⟨rfl, hbel⟩
theorem LightH {w : World} {v : Value} {l : List RuleV} (h : Holds w v l) : Calls Tryz.prog 37 #[v] w fun e w' => e = .returned (.bool (light l)) ∧ Below w.heap.size w w' := by
  rcases h.lies with ⟨p, cap, rfl, rfl⟩|⟨b, off, cap, rfl, h2, h3⟩
  · exact LightE p cap w
  · exact Light b off cap l w h3 h2 h.len h.fit
end Lgt
section
variable {H : Type} {enc : TypeId × Value → H} {w : World} {base : Nat} {spare : Nat → Bool} {held : Bool}
theorem addr_add (b off n : Nat) : (⟨b, off, none⟩ : Addr).add n = ⟨b, off + n, none⟩ := by unfold Addr.add;split <;> simp_all
theorem info_cells {a : Addr} {n : Nat} {cs : List Value} (h : w.cells? base a n = some cs) (hn : 0 < n) : a.spot = none ∧ a.block < w.heap.size := by
  obtain ⟨_, hlen, hcell⟩ := World.cells?_some h
  obtain ⟨v, hv⟩ : ∃ v, cs[0]? = some v := ⟨cs[0]'(by omega), List.getElem?_eq_getElem (by omega)⟩
  have h0 := hcell 0 hn
  have h1 : w.cell? a ≠ none := by
    intro hc
    have : (a.add 0) = a := by unfold Addr.add;simp
    rw [this, hc] at h0
    rw [← h0] at hv
    cases hv
  unfold World.cell? at h1
  cases hh : w.heap[a.block]? with
  | none => rw [hh] at h1;exact absurd rfl h1
  | some o =>
    refine ⟨?_, (Array.getElem?_eq_some_iff.1 hh).1⟩
    rw [hh] at h1
    cases o with
    | cells c t f =>
      simp only at h1
      cases hs : a.spot with
      | none => rfl
      | some x => rw [hs] at h1;simp at h1
    | _ => exact absurd rfl h1
theorem rules_open {fuel : Nat} {cs : List Value} {x : DataW H × List MemPlace} (h : DataW.trod enc Tryz.prog w base spare held fuel 22 cs = some x) : ∃ (v : Value) (l : List RuleV), cs = [v] ∧ Holds w v l ∧ (l = [] ∨ ∃ es sp, x.1 = .slice es sp ∧ es.length = l.length) := by
  rcases Deep.open_slice Tryz.underlying22 h with ⟨rfl, _⟩|⟨a, len, cap, m, n, D, Pl, rfl, hb, hl, hm, hmm, hxx, hx⟩
  · exact ⟨_, [], rfl, ⟨.inl ⟨_, _, rfl, rfl⟩, by simp, by simp⟩, .inl rfl⟩
  · have hlm : len ≤ m := by rw [hmm];split <;> omega
    have each : ∀ i, i < m → ∃ r : RuleV, w.cells? base (a.add (i * 11)) 11 = some r.cells ∧ r.Fit := by
      intro i hi
      obtain ⟨cs', h1, h2⟩ := hx i hi
      obtain ⟨r, rfl, hf⟩ := rule_cells h2
      rw [c27] at h1
      exact ⟨r, h1, hf⟩
    by_cases h0 : len = 0
    · subst h0
      exact ⟨_, [], rfl, ⟨.inl ⟨_, _, rfl, rfl⟩, by simp, by simp⟩, .inl rfl⟩
    · obtain ⟨q, hq⟩ : ∃ q : Nat → RuleV, ∀ i, i < m → w.cells? base (a.add (i * 11)) 11 = some (q i).cells ∧ (q i).Fit :=
        ⟨fun i => if hi : i < m then (each i hi).choose else ⟨⟨#[]⟩, 0, 0, 0, 0, 0, 0, 0, 0, 0, ⟨#[]⟩⟩, fun i hi => by simp only [dif_pos hi];exact (each i hi).choose_spec⟩
      obtain ⟨ha, hab⟩ := info_cells (hq 0 (by omega)).1 (by decide)
      have ha' : a = ⟨a.block, a.off, none⟩ := by
        have : (a.add (0 * 11)).spot = a.spot := by simp [Addr.add]
        rw [this] at ha
        cases a
        simp only at ha
        rw [ha]
      have hab' : a.block < w.heap.size := by
        have : (a.add (0 * 11)).block = a.block := by simp [Addr.add]
        rwa [this] at hab
      refine ⟨_, (List.range len).map q, rfl, ⟨.inr ⟨a.block, a.off, cap, by rw [← ha'];simp, hab', ?_⟩, ?_, by simp;unfold maxLen at hm;omega⟩, .inr ⟨_, _, by rw [hxx], by simp⟩⟩
      · intro i j c v hi hj
        rw [List.map_map, List.getElem?_map] at hi
        cases hr : (List.range len)[i]? with
        | none => rw [hr] at hi;cases hi
        | some k =>
          rw [hr] at hi
          cases hi
          obtain ⟨hk, rfl⟩ := List.getElem?_eq_some_iff.1 hr
          rw [List.length_range] at hk
          simp only [List.getElem_range] at hj ⊢
          obtain ⟨_, hlen, hcell⟩ := World.cells?_some (hq i (by omega)).1
          have hj11 : j < 11 := by
            have := (List.getElem?_eq_some_iff.1 hj).1
            exact this
          have := hcell j hj11
          rw [Deep.add_add] at this
          have he : a.add (i * 11 + j) = ⟨a.block, a.off + i * 11 + j, none⟩ := by
            rw [Nat.add_assoc]
            conv => lhs;rw [ha']
            exact addr_add _ _ _
          rw [he] at this
          rw [this]
          exact hj
      · intro r hr
        rw [List.mem_map] at hr
        obtain ⟨i, hi, rfl⟩ := hr
        exact (hq i (by rw [List.mem_range] at hi;omega)).2
end
end Go.Proofs.YtecmipgpldcfcaaGreatDoor
namespace Go.Proofs.YtecmipgpldcfcaaGreatDoor
open Go.RowKit NB
structure UntilV where
  has : Bool
  year : Int
  month : Int
  kind : Int
  week : Int
  day : Int
  sec : Int
  base : Int
deriving DecidableEq
def UntilV.cells (u : UntilV) : List Value := [.bool u.has, .int .i64 u.year, .int .i64 u.month, .int .i64 u.kind, .int .i64 u.week, .int .i64 u.day, .int .i64 u.sec, .int .i64 u.base]
structure EraV where
  off : Int
  kind : Int
  save : Int
  rules : ByteArray
  format : ByteArray
  u : UntilV
deriving DecidableEq
def EraV.cells (e : EraV) : List Value := [.int .i64 e.off, .int .i64 e.kind, .int .i64 e.save, .string e.rules, .string e.format, .bool e.u.has, .int .i64 e.u.year, .int .i64 e.u.month, .int .i64 e.u.kind, .int .i64 e.u.week, .int .i64 e.u.day, .int .i64 e.u.sec, .int .i64 e.u.base]
structure EraV.Fit (e : EraV) : Prop where
  r : e.rules.size ≤ 9223372036854775807
  f : e.format.size ≤ 9223372036854775807
  off : I64 e.off
  save : I64 e.save
  year : I64 e.u.year
  sec : I64 e.u.sec
structure UntilV.Fit (u : UntilV) : Prop where
  year : I64 u.year
  sec : I64 u.sec
theorem EraV.Fit.u {e : EraV} (h : e.Fit) : e.u.Fit := ⟨h.year, h.sec⟩
structure HoldsE (w : World) (v : Value) (es : List EraV) : Prop where
  lies : (∃ p cap, v = .slice p 0 cap ∧ es = []) ∨ (∃ b off cap, v = .slice (some ⟨b, off, none⟩) es.length cap ∧ b < w.heap.size ∧ Lies w b off 13 (es.map EraV.cells))
  fit : ∀ e ∈ es, e.Fit
  len : es.length ≤ 9223372036854775807
theorem HoldsE.later {w w' : World} {v : Value} {es : List EraV} (h : HoldsE w v es) (hb : Below w.heap.size w w') : HoldsE w' v es := by
  refine ⟨?_, h.fit, h.len⟩
  rcases h.lies with h1|⟨b, off, cap, h1, h2, h3⟩
  · exact .inl h1
  · refine .inr ⟨b, off, cap, h1, Nat.lt_of_lt_of_le h2 hb.size, fun i j cs v hi hj => ?_⟩
    rw [hb.cell (p := ⟨b, off + i * 13 + j, none⟩) h2]
    exact h3 i j cs v hi hj
theorem HoldsE.form {w : World} {v : Value} {es : List EraV} (h : HoldsE w v es) : ∃ p cap, v = .slice p es.length cap := by
  rcases h.lies with ⟨p, cap, h1, h2⟩|⟨b, off, cap, h1, _, _⟩
  · exact ⟨p, cap, by rw [h1, h2];rfl⟩
  · exact ⟨_, cap, h1⟩
theorem HoldsE.at {w : World} {v : Value} {es : List EraV} (h : HoldsE w v es) {k : Nat} {e : EraV} (he : es[k]? = some e) : ∃ b off cap, v = .slice (some ⟨b, off, none⟩) es.length cap ∧ b < w.heap.size ∧ ∀ (j : Nat) (u : Value), e.cells[j]? = some u → w.cell? ⟨b, off + k * 13 + j, none⟩ = some u := by
  rcases h.lies with ⟨p, cap, h1, h2⟩|⟨b, off, cap, h1, h2, h3⟩
  · rw [h2] at he;simp at he
  · exact ⟨b, off, cap, h1, h2, fun j u hu => h3 k j _ u (by rw [List.getElem?_map, he];rfl) hu⟩
end Go.Proofs.YtecmipgpldcfcaaGreatDoor
