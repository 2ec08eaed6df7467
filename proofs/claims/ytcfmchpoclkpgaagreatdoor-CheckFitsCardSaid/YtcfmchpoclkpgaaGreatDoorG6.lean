import Derived.Test.YtcfmchpoclkpgaaGreatDoorG5
import Derived.Test.YtcfmchpoclkpgaaGreatDoorG1
import Derived.Deep.DeepCutAuto
import Derived.Deep.RegionHeld3
import Derived.Shelf.Strings.Cut
import Derived.Test.YtcfmchpoclkpgaaGreatDoorProg
import Derived.Test.YtcfmchpoclkpgaaGreatDoorG2
namespace Go.Proofs.YtcfmchpoclkpgaaGreatDoor
open Go.RowKit NB
namespace Rul
theorem right_spec {r : RuleV} (h : right r = true) : (-32767 ≤ r.fr ∧ r.fr ≤ r.to ∧ r.to ≤ 32767) ∧ Day.fits r.kind r.week r.day r.month = true ∧ (0 ≤ r.base ∧ r.base ≤ 2 ∧ 0 ≤ r.sec ∧ r.sec ≤ 172800) ∧ (-10800 ≤ r.save ∧ r.save ≤ 10800) := by
  unfold right at h
  simp only [Bool.and_eq_true, beq_iff_eq] at h
  obtain ⟨⟨⟨⟨⟨⟨h1, h2⟩, _⟩, _⟩, h5⟩, h6⟩, h7⟩ := h
  have hc := of_decide_eq_true h6
  unfold saves at h7
  simp only [Bool.and_eq_true, decide_eq_true_eq] at h7
  unfold toErr may at h1
  unfold frErr may at h2
  refine ⟨?_, h5, hc, h7⟩
  by_cases a : (decide (-32767 ≤ r.to) && decide (r.to ≤ 32767)) = true
  · rw [if_pos a] at h1
    by_cases b : (decide (-32767 ≤ r.fr) && decide (r.fr ≤ 32767)) = true
    · simp only [Bool.and_eq_true, decide_eq_true_eq] at a b
      by_cases c : r.to < r.fr
      · rw [if_pos c] at h1;cases h1
      · omega
    · rw [if_neg b] at h2;cases h2
  · rw [if_neg a] at h1;cases h1
end Rul
end Go.Proofs.YtcfmchpoclkpgaaGreatDoor
namespace Go.Proofs.YtcfmchpoclkpgaaGreatDoor
open Go.RowKit
namespace NB
theorem bt {a b c : World} (h : Below a.heap.size a b) (h' : Below b.heap.size b c) : Below a.heap.size a c := h.trans (h'.mono h.size)
theorem ba {a b : World} {o : Obj} (h : Below a.heap.size a b) : Below a.heap.size a (b.alloc o) := h.alloc h.size _
theorem bd {a b : World} (h : Below a.heap.size a b) : Below a.heap.size a b.drew := h.drew
theorem bdn {a b : World} (h : Below a.heap.size a b) (n : Nat) : Below a.heap.size a (b.drewN n) := below_drewN h n
theorem bset {a b : World} {n o : Nat} {v : Value} (h : Below a.heap.size a b) (hn : a.heap.size ≤ n) : Below a.heap.size a (b.setCell ⟨n, o, none⟩ v) := h.setCell hn _
theorem new_cell (X : World) (cs : Array Value) (t : TypeId) (o : Nat) : (X.alloc (.cells cs t)).cell? ⟨X.heap.size, o, none⟩ = cs[o]? := cell_of_row _ _ _ _ _ _ (heap_alloc_new X _)
theorem new_cell_drew (X : World) (cs : Array Value) (t : TypeId) (o : Nat) : (X.alloc (.cells cs t)).drew.cell? ⟨X.heap.size, o, none⟩ = cs[o]? := new_cell X cs t o
theorem box2 {w V : World} {a b : Array Value} {s t : TypeId} (hV : V = (w.alloc (.cells a s)).alloc (.cells b t)) :
    (w.heap.size < V.heap.size ∧ w.heap.size + 1 < V.heap.size) ∧ Below w.heap.size w V ∧ ∀ u, Below V.heap.size V u → (∀ o, u.cell? ⟨w.heap.size, o, none⟩ = a[o]?) ∧ (∀ o, u.cell? ⟨w.heap.size + 1, o, none⟩ = b[o]?) ∧ V.heap.size ≤ u.heap.size := by
  have e : V.heap.size = w.heap.size + 2 := by rw [hV];simp
  refine ⟨by omega, by rw [hV];exact ba (ba (Below.refl _ _)), fun u hu => ⟨fun o => ?_, fun o => ?_, hu.size⟩⟩
  · rw [hu.cell (p := ⟨w.heap.size, o, none⟩) (by rw [e];show w.heap.size < _;omega), hV]
    rw [World.cell?_alloc_past _ _ _ (by simp)]
    exact new_cell w a s o
  · rw [hu.cell (p := ⟨w.heap.size + 1, o, none⟩) (by rw [e];exact Nat.lt_succ_self _), hV]
    have := new_cell (w.alloc (.cells a s)) b t o
    rwa [World.size_alloc] at this
theorem new_free (X : World) (cs : Array Value) (t : TypeId) (o : Nat) : (X.alloc (.cells cs t)).frozen? ⟨X.heap.size, o, none⟩ = false := by
  unfold World.frozen?
  have h := heap_alloc_new X (.cells cs t)
  simp only
  rw [h]
  simp
theorem box2f {w V : World} {a b : Array Value} {s t : TypeId} (hV : V = (w.alloc (.cells a s)).alloc (.cells b t)) :
    ∀ u, Below V.heap.size V u → (∀ o, u.frozen? ⟨w.heap.size, o, none⟩ = false) ∧ (∀ o, u.frozen? ⟨w.heap.size + 1, o, none⟩ = false) := by
  have e : V.heap.size = w.heap.size + 2 := by rw [hV];simp
  refine fun u hu => ⟨fun o => ?_, fun o => ?_⟩
  · rw [hu.frozen (p := ⟨w.heap.size, o, none⟩) (by rw [e];show w.heap.size < _;omega), hV]
    rw [World.frozen?_alloc_past _ _ _ (by simp)]
    exact new_free w a s o
  · rw [hu.frozen (p := ⟨w.heap.size + 1, o, none⟩) (by rw [e];exact Nat.lt_succ_self _), hV]
    have := new_free (w.alloc (.cells a s)) b t o
    rwa [World.size_alloc] at this
theorem toList_inj {a b : ByteArray} (h : a.toList = b.toList) : a = b := by
  rw [ByteArray.toList_eq, ByteArray.toList_eq] at h
  cases a;cases b
  simp only at h
  congr 1
  exact Array.ext' h
theorem str_ne {a b : ByteArray} (h : a ≠ b) : (a.toList == b.toList) = false := by
  rw [beq_eq_false_iff_ne]
  exact fun e => h (toList_inj e)
theorem str_eq {a b : ByteArray} (h : a = b) : (a.toList == b.toList) = true := by
  rw [h];simp
def Box (w : World) (b : Nat) (cs : Array Value) (t : TypeId) : Prop := w.heap[b]? = some (.cells cs t)
theorem Box.lt {w : World} {b : Nat} {cs : Array Value} {t : TypeId} (h : Box w b cs t) : b < w.heap.size := (Array.getElem?_eq_some_iff.1 h).1
theorem Box.cell {w : World} {b : Nat} {cs : Array Value} {t : TypeId} (h : Box w b cs t) (o : Nat) : w.cell? ⟨b, o, none⟩ = cs[o]? := cell_of_row _ _ _ _ _ _ h
theorem Box.free {w : World} {b : Nat} {cs : Array Value} {t : TypeId} (h : Box w b cs t) (o : Nat) : w.frozen? ⟨b, o, none⟩ = false := by
  unfold World.frozen?
  simp only
  rw [show w.heap[b]? = some (.cells cs t) from h]
  simp
theorem Box.new (X : World) (cs : Array Value) (t : TypeId) : Box (X.alloc (.cells cs t)) X.heap.size cs t := heap_alloc_new X _
theorem Box.old {X : World} {b : Nat} {cs : Array Value} {t : TypeId} {o : Obj} (h : Box X b cs t) : Box (X.alloc o) b cs t := (Below.heap_alloc X o b h.lt).trans h
theorem Box.drew {X : World} {b : Nat} {cs : Array Value} {t : TypeId} (h : Box X b cs t) : Box X.drew b cs t := h
theorem Box.drewN {X : World} {b : Nat} {cs : Array Value} {t : TypeId} (h : Box X b cs t) (n : Nat) : Box (X.drewN n) b cs t := h
theorem Box.later {X Y : World} {b : Nat} {cs : Array Value} {t : TypeId} (h : Box X b cs t) (hb : Below X.heap.size X Y) : Box Y b cs t := (hb.block b h.lt).trans h
theorem Box.keep {w X Y : World} {b : Nat} {cs : Array Value} {t : TypeId} (h : Box X b cs t) (hb : Below w.heap.size X Y) (hl : b < w.heap.size) : Box Y b cs t := (hb.block b hl).trans h
theorem Box.other {X : World} {b n j : Nat} {cs : Array Value} {t : TypeId} {v : Value} (h : Box X b cs t) (hn : b ≠ n) : Box (X.setCell ⟨n, j, none⟩ v) b cs t := (Below.heap_setCell X ⟨n, j, none⟩ v b hn).trans h
theorem Box.set {X : World} {b j : Nat} {cs : Array Value} {t : TypeId} {v : Value} (h : Box X b cs t) : Box (X.setCell ⟨b, j, none⟩ v) b (cs.setIfInBounds j v) t := by
  unfold Box World.setCell
  simp only [Array.getElem?_modify]
  rw [show X.heap[b]? = some (.cells cs t) from h]
  simp
theorem Box.set3 {X : World} {b : Nat} {x y z x' y' z' : Value} {t : TypeId} (h : Box X b #[x, y, z] t) : Box (((X.setCell ⟨b, 0, none⟩ x').setCell ⟨b, 1, none⟩ y').setCell ⟨b, 2, none⟩ z') b #[x', y', z'] t :=
  ((h.set (j := 0) (v := x')).set (j := 1) (v := y')).set (j := 2) (v := z')
end NB
end Go.Proofs.YtcfmchpoclkpgaaGreatDoor
namespace Go.Proofs.YtcfmchpoclkpgaaGreatDoor
open Go.Shelf
def Tryz.lays145_ren : Go.Shelf.Ren := ⟨fun|145 => 230|220 => 275|219 => 297|217 => 232|225 => 320|224 => 321|267 => 322|266 => 277|314 => 335|n => n, fun|9 => 9|4 => 4|59 => 296|3 => 3|5 => 5|46 => 172|146 => 360|51 => 234|n => n, fun|1 => 1|n => n⟩
theorem Tryz.lays145 : Go.Proofs.Lays.n145 Tryz.prog Tryz.lays145_ren := {
  mixed := by kernel_rfl,
  f145 := Tryz.func230.trans (congrArg some (by kernel_rfl)),
  f217 := Tryz.func232.trans (congrArg some (by kernel_rfl)),
  f219 := Tryz.func297.trans (congrArg some (by kernel_rfl)),
  f220 := Tryz.func275.trans (congrArg some (by kernel_rfl)),
  f224 := Tryz.func321.trans (congrArg some (by kernel_rfl)),
  f225 := Tryz.func320.trans (congrArg some (by kernel_rfl)),
  f266 := Tryz.func277.trans (congrArg some (by kernel_rfl)),
  f267 := Tryz.func322.trans (congrArg some (by kernel_rfl)),
  f314 := Tryz.func335.trans (congrArg some (by kernel_rfl)),
  t3 := Tryz.underlying3,
  a3 := Tryz.isAgg3,
  z3 := Tryz.sizeOf3,
  v3 := Tryz.zeroValue3,
  t4 := Tryz.underlying4,
  a4 := Tryz.isAgg4,
  z4 := Tryz.sizeOf4,
  v4 := Tryz.zeroValue4,
  t5 := Tryz.underlying5,
  a5 := Tryz.isAgg5,
  z5 := Tryz.sizeOf5,
  v5 := Tryz.zeroValue5,
  t9 := Tryz.underlying9,
  a9 := Tryz.isAgg9,
  z9 := Tryz.sizeOf9,
  v9 := Tryz.zeroValue9,
  t46 := Tryz.underlying172,
  a46 := Tryz.isAgg172,
  z46 := Tryz.sizeOf172,
  v46 := Tryz.zeroValue172,
  t51 := Tryz.underlying234,
  a51 := Tryz.isAgg234,
  z51 := Tryz.sizeOf234,
  v51 := Tryz.zeroValue234,
  t59 := Tryz.underlying296,
  a59 := Tryz.isAgg296,
  z59 := Tryz.sizeOf296,
  v59 := Tryz.zeroValue296,
  t146 := Tryz.underlying360,
  a146 := Tryz.isAgg360,
  z146 := Tryz.sizeOf360,
  v146 := Tryz.zeroValue360,
  g1 := by kernel_rfl }

open Go.RowKit NB
def Tab (w : World) : Prop := ∃ m, w.cell? ⟨1, 0, none⟩ = some (.int .i64 m)
theorem Tab.lt {w : World} (h : Tab w) : 1 < w.heap.size := by
  obtain ⟨m, hm⟩ := h
  unfold World.cell? at hm
  cases hh : w.heap[1]? with
  | none => simp only [hh] at hm;cases hm
  | some o => exact (Array.getElem?_eq_some_iff.1 hh).1
theorem Tab.later {w w' : World} (h : Tab w) (hb : Below w.heap.size w w') : Tab w' := by
  have hl := h.lt
  obtain ⟨m, hm⟩ := h
  exact ⟨m, (hb.cell (p := ⟨1, 0, none⟩) hl).trans hm⟩
namespace Lb
theorem Cut (s sep : ByteArray) (w : World) (hs : s.size < 4294967281) (hm : Tab w) :
    Calls Tryz.prog 230 #[.string s, .string sep] w fun e w' => e = .returned (.tuple #[.string ⟨(Go.Lib.cut s.data.toList sep.data.toList).1.toArray⟩, .string ⟨(Go.Lib.cut s.data.toList sep.data.toList).2.1.toArray⟩, .bool (Go.Lib.cut s.data.toList sep.data.toList).2.2]) ∧ Below w.heap.size w w' := by
  obtain ⟨m, hm⟩ := hm
  exact (Any.strings_Cut Tryz.lays145 s sep m w hs hm).mono fun _ _ ⟨he, n, hw⟩ => ⟨he, by rw [hw];exact below_drewN (Below.refl _ _) n⟩
end Lb
end Go.Proofs.YtcfmchpoclkpgaaGreatDoor
namespace Go.Proofs.YtcfmchpoclkpgaaGreatDoor
open Go.RowKit NB
namespace Fmt
def wd (l : List UInt8) : Bool := l.all (wset.contains ·)
theorem wordB_mk (l : List UInt8) : wordB ⟨l.toArray⟩ = wd l := by unfold wordB wd;rfl
def cutF (s : ByteArray) : Int × ByteArray × ByteArray :=
  let c1 := Go.Lib.cut s.data.toList [37, 115]
  let c2 := Go.Lib.cut s.data.toList [47]
  if s.toList = [37, 122] then (3, ⟨#[]⟩, ⟨#[]⟩)
  else if c1.2.2 = true ∧ wd c1.1 = true ∧ wd c1.2.1 = true then (2, ⟨c1.1.toArray⟩, ⟨c1.2.1.toArray⟩)
  else if c2.2.2 = true ∧ c2.1 ≠ [] ∧ c2.2.1 ≠ [] ∧ wd c2.1 = true ∧ wd c2.2.1 = true then (4, ⟨c2.1.toArray⟩, ⟨c2.2.1.toArray⟩)
  else if s.toList ≠ [] ∧ wordB s = true then (1, s, ⟨#[]⟩)
  else (0, ⟨#[]⟩, ⟨#[]⟩)
def checkE (s : ByteArray) : Int := if 16 < s.size then 9 else if (cutF s).1 = 0 then 4 else 0
theorem cut_size (s sep : List UInt8) : (Go.Lib.cut s sep).1.length ≤ s.length ∧ (Go.Lib.cut s sep).2.1.length ≤ s.length := by
  unfold Go.Lib.cut
  split
  · exact ⟨List.length_take_le' _ _, by simp⟩
  · exact ⟨Nat.le_refl _, Nat.zero_le _⟩
theorem isE (l : List UInt8) : (⟨l.toArray⟩ : ByteArray).toList.isEmpty = decide (l = []) := by
  rw [emp]
  cases l <;> simp
set_option maxHeartbeats 3200000 in
theorem cut (s : ByteArray) (hs : s.size < 4294967281) (w : World) (ht : Tab w) : Calls Tryz.prog 171 #[.string s] w fun e w' => e = .returned (.tuple #[.int .i64 (cutF s).1, .string (cutF s).2.1, .string (cutF s).2.2]) ∧ Below w.heap.size w w' := by
  have hc1 := fun W (h : Tab W) => Lb.Cut s ⟨#[37, 115]⟩ W hs h
  have hc2 := fun W (h : Tab W) => Lb.Cut s ⟨#[47]⟩ W hs h
  have z1 := cut_size s.data.toList [37, 115]
  have z2 := cut_size s.data.toList [47]
  simp only [Array.length_toList] at z1 z2
  have hsz : s.data.size = s.size := rfl
  unfold cutF
  simp only at hc1 hc2 ⊢
  generalize Go.Lib.cut s.data.toList [37, 115] = c1 at *
  generalize Go.Lib.cut s.data.toList [47] = c2 at *
  obtain ⟨a1, b1, i1⟩ := c1
  obtain ⟨a2, b2, i2⟩ := c2
  simp only at hc1 hc2 z1 z2 ⊢
  have wa1 := fun W => word ⟨a1.toArray⟩ (by show a1.toArray.size ≤ _;simp;omega) W
  have wb1 := fun W => word ⟨b1.toArray⟩ (by show b1.toArray.size ≤ _;simp;omega) W
  have wa2 := fun W => word ⟨a2.toArray⟩ (by show a2.toArray.size ≤ _;simp;omega) W
  have wb2 := fun W => word ⟨b2.toArray⟩ (by show b2.toArray.size ≤ _;simp;omega) W
  have ws := fun W => word s (by omega) W
  rw [wordB_mk] at wa1 wb1 wa2 wb2
  have ea := isE a2
  have eb := isE b2
  generalize wd a1 = g1 at *
  generalize wd b1 = g2 at *
  generalize wd a2 = g3 at *
  generalize wd b2 = g4 at *
  generalize wordB s = g5 at *
  obtain ⟨A1, hA1⟩ : ∃ x, x = (⟨a1.toArray⟩ : ByteArray) := ⟨_, rfl⟩
  obtain ⟨B1, hB1⟩ : ∃ x, x = (⟨b1.toArray⟩ : ByteArray) := ⟨_, rfl⟩
  obtain ⟨A2, hA2⟩ : ∃ x, x = (⟨a2.toArray⟩ : ByteArray) := ⟨_, rfl⟩
  obtain ⟨B2, hB2⟩ : ∃ x, x = (⟨b2.toArray⟩ : ByteArray) := ⟨_, rfl⟩
  rw [← hA1] at hc1 wa1 ⊢
  rw [← hB1] at hc1 wb1 ⊢
  rw [← hA2] at hc2 wa2 ea ⊢
  rw [← hB2] at hc2 wb2 eb ⊢
  have Hc1 := Lib.hid hc1
  have Hc2 := Lib.hid hc2
  have Wa1 := Lib.hid wa1
  have Wb1 := Lib.hid wb1
  have Wa2 := Lib.hid wa2
  have Wb2 := Lib.hid wb2
  have Ws := Lib.hid ws
  have HT := Lib.hid ht
  obtain ⟨ne, hne⟩ : ∃ x : Bool, x = decide (s.toList = []) := ⟨_, rfl⟩
  have es : s.toList.isEmpty = ne := by rw [hne];cases h : s.toList <;> simp
  clear hc1 hc2 wa1 wb1 wa2 wb2 ws hA1 hB1 hA2 hB2 z1 z2 hsz ht
  by_cases hz : s.toList = [37, 122]
  · have e1 : (s.toList == [37, 122]) = true := by simp [hz]
    rw [if_pos hz]
    clear hz hne es
    go_enter Tryz.func171, Tryz.ntmps171
    go_wp2
    go_ret3
    exact ⟨rfl, by repeat (first|(with_reducible exact Below.refl _ _)|(with_reducible assumption)|(with_reducible refine ba ?_)|(with_reducible refine bd ?_)|(with_reducible refine bdn ?_ _)|(with_reducible refine bset ?_ (by first|exact Nat.le_refl _|omega|(simp;done)|(simp;omega)))|(with_reducible refine bt ?_ (by with_reducible assumption)))⟩
  have e1 : (s.toList == [37, 122]) = false := by simp [hz]
  rw [if_neg hz]
  have en : (s.toList ≠ [] ↔ ne = false) := by rw [hne];simp
  have ea' : (a2 ≠ [] ↔ ¬ A2.toList = []) := by rw [← List.isEmpty_iff, ea];simp
  have eb' : (b2 ≠ [] ↔ ¬ B2.toList = []) := by rw [← List.isEmpty_iff, eb];simp
  simp only [en, ea', eb']
  clear hz hne en ea eb ea' eb'
  obtain ⟨pe, hpe⟩ : ∃ x : Int × ByteArray × ByteArray, x = (if i1 = true ∧ g1 = true ∧ g2 = true then (2, A1, B1) else if i2 = true ∧ ¬ A2.toList = [] ∧ ¬ B2.toList = [] ∧ g3 = true ∧ g4 = true then (4, A2, B2) else if ne = false ∧ g5 = true then (1, s, ⟨#[]⟩) else (0, ⟨#[]⟩, ⟨#[]⟩)) := ⟨_, rfl⟩
  rw [← hpe]
  have Hpe := Lib.hid hpe
  clear hpe
  go_enter Tryz.func171, Tryz.ntmps171
  go_wp2_with (first
    | (go_at_call_of 230 (({ data := #[37, 115] } : ByteArray));refine (Hc1.out _ ?_).mono ?_;(· exact HT.out.later (by repeat (first|(with_reducible exact Below.refl _ _)|(with_reducible assumption)|(with_reducible refine ba ?_)|(with_reducible refine bd ?_)|(with_reducible refine bdn ?_ _)|(with_reducible refine bset ?_ (by first|exact Nat.le_refl _|omega|(simp;done)|(simp;omega)))|(with_reducible refine bt ?_ (by with_reducible assumption)))));rintro e w1 ⟨rfl, hb1⟩)
    | (go_at_call_of 230 (({ data := #[47] } : ByteArray));refine (Hc2.out _ ?_).mono ?_;(· exact HT.out.later (by repeat (first|(with_reducible exact Below.refl _ _)|(with_reducible assumption)|(with_reducible refine ba ?_)|(with_reducible refine bd ?_)|(with_reducible refine bdn ?_ _)|(with_reducible refine bset ?_ (by first|exact Nat.le_refl _|omega|(simp;done)|(simp;omega)))|(with_reducible refine bt ?_ (by with_reducible assumption)))));rintro e w4 ⟨rfl, hb4⟩)
    | (with_reducible (go_at_call 231;(with_reducible refine (Wa1.out _).mono ?_);rintro e w2 ⟨rfl, hb2⟩;obtain ⟨hc2, hf2⟩ := bcell hb2))
    | (with_reducible (go_at_call 231;(with_reducible refine (Wb1.out _).mono ?_);rintro e w3 ⟨rfl, hb3⟩;obtain ⟨hc3, hf3⟩ := bcell hb3))
    | (with_reducible (go_at_call 231;(with_reducible refine (Wa2.out _).mono ?_);rintro e w5 ⟨rfl, hb5⟩;obtain ⟨hc5, hf5⟩ := bcell hb5))
    | (with_reducible (go_at_call 231;(with_reducible refine (Wb2.out _).mono ?_);rintro e w6 ⟨rfl, hb6⟩;obtain ⟨hc6, hf6⟩ := bcell hb6))
    | (with_reducible (go_at_call 231;(with_reducible refine (Ws.out _).mono ?_);rintro e w7 ⟨rfl, hb7⟩;obtain ⟨hc7, hf7⟩ := bcell hb7)))
  all_goals
    have hpe := Hpe.out
    simp only [*, if_true, if_false, true_and, and_true, false_and, and_false, Bool.false_eq_true, Bool.true_eq_false, eq_self, not_true_eq_false, not_false_eq_true] at hpe
    clear Hpe
    first
      | (subst hpe;go_ret3;exact ⟨rfl, by repeat (first|(with_reducible exact Below.refl _ _)|(with_reducible assumption)|(with_reducible refine ba ?_)|(with_reducible refine bd ?_)|(with_reducible refine bdn ?_ _)|(with_reducible refine bset ?_ (by first|exact Nat.le_refl _|omega|(simp;done)|(simp;omega)))|(with_reducible refine bt ?_ (by with_reducible assumption)))⟩)
      | (cases g4
         · (simp only [Bool.false_eq_true, if_false] at hpe;subst hpe;go_ret3;exact ⟨rfl, by repeat (first|(with_reducible exact Below.refl _ _)|(with_reducible assumption)|(with_reducible refine ba ?_)|(with_reducible refine bd ?_)|(with_reducible refine bdn ?_ _)|(with_reducible refine bset ?_ (by first|exact Nat.le_refl _|omega|(simp;done)|(simp;omega)))|(with_reducible refine bt ?_ (by with_reducible assumption)))⟩)
         · (exfalso;rename_i h0 h1;clear hpe;first|(simp only [List.isEmpty_eq_false_iff, Bool.not_eq_false', List.isEmpty_iff, *, Bool.true_eq_false, or_false, or_self] at h0;done)|simp_all))
theorem Check (s : ByteArray) (hs : s.size ≤ 9223372036854775807) (w : World) (ht : Tab w) : Calls Tryz.prog 115 #[.string s] w fun e w' => e = .returned (.int .i64 (checkE s)) ∧ Below w.heap.size w w' := by
  unfold checkE
  by_cases h : 16 < s.size
  · rw [if_pos h]
    go_enter Tryz.func115, Tryz.ntmps115
    go_wp2
    go_ret
    exact ⟨rfl, by repeat (first|(with_reducible exact Below.refl _ _)|(with_reducible assumption)|(with_reducible refine ba ?_)|(with_reducible refine bd ?_)|(with_reducible refine bdn ?_ _)|(with_reducible refine bset ?_ (by first|exact Nat.le_refl _|omega|(simp;done)|(simp;omega)))|(with_reducible refine bt ?_ (by with_reducible assumption)))⟩
  · rw [if_neg h]
    have cc := fun W (h' : Tab W) => cut s (by omega) W h'
    generalize cutF s = x at *
    obtain ⟨k, a, b⟩ := x
    simp only at cc ⊢
    have Cc := Lib.hid cc
    have HT := Lib.hid ht
    clear cc ht
    by_cases hk : k = 0
    · rw [if_pos hk]
      go_enter Tryz.func115, Tryz.ntmps115
      go_wp2_with (go_at_call 171;(with_reducible refine (Cc.out _ ?_).mono ?_);(· exact HT.out.later (by repeat (first|(with_reducible exact Below.refl _ _)|(with_reducible assumption)|(with_reducible refine ba ?_)|(with_reducible refine bd ?_)|(with_reducible refine bdn ?_ _)|(with_reducible refine bset ?_ (by first|exact Nat.le_refl _|omega|(simp;done)|(simp;omega)))|(with_reducible refine bt ?_ (by with_reducible assumption)))));rintro e w1 ⟨rfl, hb1⟩;obtain ⟨hc1, hf1⟩ := bcell hb1)
      go_ret
      exact ⟨rfl, by repeat (first|(with_reducible exact Below.refl _ _)|(with_reducible assumption)|(with_reducible refine ba ?_)|(with_reducible refine bd ?_)|(with_reducible refine bdn ?_ _)|(with_reducible refine bset ?_ (by first|exact Nat.le_refl _|omega|(simp;done)|(simp;omega)))|(with_reducible refine bt ?_ (by with_reducible assumption)))⟩
    · rw [if_neg hk]
      go_enter Tryz.func115, Tryz.ntmps115
      go_wp2_with (go_at_call 171;(with_reducible refine (Cc.out _ ?_).mono ?_);(· exact HT.out.later (by repeat (first|(with_reducible exact Below.refl _ _)|(with_reducible assumption)|(with_reducible refine ba ?_)|(with_reducible refine bd ?_)|(with_reducible refine bdn ?_ _)|(with_reducible refine bset ?_ (by first|exact Nat.le_refl _|omega|(simp;done)|(simp;omega)))|(with_reducible refine bt ?_ (by with_reducible assumption)))));rintro e w1 ⟨rfl, hb1⟩;obtain ⟨hc1, hf1⟩ := bcell hb1)
      go_ret
      exact ⟨rfl, by repeat (first|(with_reducible exact Below.refl _ _)|(with_reducible assumption)|(with_reducible refine ba ?_)|(with_reducible refine bd ?_)|(with_reducible refine bdn ?_ _)|(with_reducible refine bset ?_ (by first|exact Nat.le_refl _|omega|(simp;done)|(simp;omega)))|(with_reducible refine bt ?_ (by with_reducible assumption)))⟩
end Fmt
end Go.Proofs.YtcfmchpoclkpgaaGreatDoor
