import Derived.WalkKit
import Derived.WalkSpells
import Derived.WalkLawsBesides
import Derived.BigQuiet
import Derived.Deep.Quiet
import Derived.Deep.QuietTactic
import Derived.StillTail
import Derived.Lib.Hide
import Derived.Deep.DeepFit
import Derived.Shelf.Strings.SlTrimAscii
import Derived.Shelf.Small.Strs
import Derived.Test.YtkpjhgkmjcdobaaGreatDoorProg
import Derived.Deep.DeepCutAuto
import Derived.Deep.RegionHeld3
import Derived.Shelf.Strings.Cut
/-
  Base lemmas: worlds that are later than a given one, and regions that draw their order and hold calls which only make memory.
-/
namespace Go.Proofs.YtkpjhgkmjcdobaaGreatDoor
open Go.RowKit
namespace NB

/-- A world in which everything below block B is as it was in w. -/
structure Later (B : Nat) (w : World) where
  u : World
  h : Below B w u

instance later_nonempty (B : Nat) (w : World) : Nonempty (Later B w) := ⟨⟨w, Below.refl _ _⟩⟩

theorem Later.cell {B : Nat} {w : World} (x : Later B w) (b o : Nat) (h : b < B) : x.u.cell? ⟨b, o, none⟩ = w.cell? ⟨b, o, none⟩ := x.h.cell (p := ⟨b, o, none⟩) h
theorem Later.frozen {B : Nat} {w : World} (x : Later B w) (b o : Nat) (h : b < B) : x.u.frozen? ⟨b, o, none⟩ = w.frozen? ⟨b, o, none⟩ := x.h.frozen (p := ⟨b, o, none⟩) h

attribute [go_sem] Later.cell Later.frozen

/-- A region that draws its order: every operation reads, or calls what leaves old memory alone: one walk in the text's order serves all orders. -/
theorem region_later {P : Program} {id : Nat} {Q : Exit → Act → World → Prop} {a : Act} {w : World} {l : List Oper} (hm : P.follows .mixedOrders = true) (hB : Region.lexB .any l.toArray = true)
    (h : wpQuiet P l.toArray (fun w' => ∃ x : Later w.heap.size w, w' = x.u) (fun a' => ∀ w', (∃ x : Later w.heap.size w, w' = x.u) → Q .normal a' w') l a) : (Code.region id l.toArray true).wp P Q a w :=
  wp_region_quiet (C := fun w' => ∃ x : Later w.heap.size w, w' = x.u) hm hB ⟨⟨w.drew, (Below.refl _ _).drew⟩, rfl⟩ (by simpa using h)

/-- A contract of a callee, met in a later world. -/
theorem calls_later {P : Program} {f : FuncId} {args : Array Value} {B : Nat} {w : World} (x : Later B w) (hB : B ≤ w.heap.size) {v : Value}
    (h : Calls P f args x.u fun e w' => e = .returned v ∧ Below x.u.heap.size x.u w') : Calls P f args x.u fun e w'' => e = .returned v ∧ ∃ y : Later B w, w'' = y.u :=
  h.mono fun _ w'' ⟨he, hb⟩ => ⟨he, ⟨w'', x.h.trans (hb.mono (Nat.le_trans hB x.h.size))⟩, rfl⟩

/-- A contract that leaves the world as it was, as one that leaves old memory as it was. -/
theorem below_of_same {P : Program} {f : FuncId} {args : Array Value} {w : World} {v : Value} (h : Calls P f args w fun e w' => e = .returned v ∧ w = w') :
    Calls P f args w fun e w' => e = .returned v ∧ Below w.heap.size w w' :=
  h.mono fun _ _ ⟨he, hw⟩ => ⟨he, hw ▸ Below.refl _ _⟩

theorem quiet_left {P : Program} {f : FuncId} {args : Array Value} {w : World} {n : Nat} {v : Value}
    (h : Calls P f args (w.drewN n) fun e w' => e = .returned v ∧ w.drewN n = w') : Calls P f args (w.drewN n) fun e w'' => e = .returned v ∧ ∃ m, w'' = w.drewN m :=
  h.mono fun _ _ ⟨he, hm⟩ => ⟨he, n, hm.symm⟩
theorem quiet_add_left {P : Program} {f : FuncId} {args : Array Value} {w : World} {a n : Nat} {v : Value}
    (h : Calls P f args (w.drewN (a + n)) fun e w' => e = .returned v ∧ w.drewN (a + n) = w') : Calls P f args (w.drewN (a + n)) fun e w'' => e = .returned v ∧ ∃ m, w'' = w.drewN (a + m) :=
  h.mono fun _ _ ⟨he, hm⟩ => ⟨he, n, hm.symm⟩
theorem below_drewN {B : Nat} {a w : World} (h : Below B a w) (n : Nat) : Below B a (w.drewN n) := ⟨h.os, h.tape, h.output, h.size, h.block⟩
theorem sz1 {B : Nat} {a b : World} {o : Obj} (h : Below B (a.alloc o) b) : a.heap.size < b.heap.size := by
  have := h.size; simp only [World.size_alloc] at this; omega
theorem sz2 {B : Nat} {a b : World} {o p : Obj} (h : Below B ((a.alloc o).alloc p) b) : a.heap.size + 1 < b.heap.size := by
  have := h.size; simp only [World.size_alloc] at this; omega
theorem szd1 {B : Nat} {a b : World} {o : Obj} (h : Below B (a.alloc o).drew b) : a.heap.size < b.heap.size := sz1 (a := a) (o := o) ⟨h.os, h.tape, h.output, h.size, h.block⟩
theorem szd2 {B : Nat} {a b : World} {o p : Obj} (h : Below B ((a.alloc o).alloc p).drew b) : a.heap.size + 1 < b.heap.size := sz2 (a := a) (o := o) (p := p) ⟨h.os, h.tape, h.output, h.size, h.block⟩
theorem sz3 {B : Nat} {a b : World} {o p q : Obj} (h : Below B (((a.alloc o).alloc p).alloc q) b) : a.heap.size + 2 < b.heap.size := by
  have := h.size; simp only [World.size_alloc] at this; omega
theorem ret_bool {a b : Bool} (h : a = b) : Ending.returned (.bool a) = .returned (.bool b) := by rw [h]
theorem ret_int {k : IntKind} {a b : Int} (h : a = b) : Ending.returned (.int k a) = .returned (.int k b) := by rw [h]
theorem ret_ii {a b a' b' : Int} (h : a = a') (h2 : b = b') : Ending.returned (.tuple #[.int .i64 a, .int .i64 b]) = .returned (.tuple #[.int .i64 a', .int .i64 b']) := by rw [h, h2]
theorem ret_iii {a b c a' b' c' : Int} (h : a = a') (h2 : b = b') (h3 : c = c') : Ending.returned (.tuple #[.int .i64 a, .int .i64 b, .int .i64 c]) = .returned (.tuple #[.int .i64 a', .int .i64 b', .int .i64 c']) := by rw [h, h2, h3]
theorem ret_val {a b : Value} (h : a = b) : Ending.returned a = .returned b := by rw [h]
/-- The two facts on old cells that a walk uses by itself. -/
theorem bcell {B : Nat} {W w1 : World} (hb : Below B W w1) : (∀ b o, b < B → w1.cell? ⟨b, o, none⟩ = W.cell? ⟨b, o, none⟩) ∧ (∀ b o, b < B → w1.frozen? ⟨b, o, none⟩ = W.frozen? ⟨b, o, none⟩) :=
  ⟨fun b o h => hb.cell (p := ⟨b, o, none⟩) h, fun b o h => hb.frozen (p := ⟨b, o, none⟩) h⟩

end NB
end Go.Proofs.YtkpjhgkmjcdobaaGreatDoor
/-
  Go's library as this program has it: the shelf's contracts at this program's numbers.
-/
namespace Go.Proofs.YtkpjhgkmjcdobaaGreatDoor
open Go.Shelf
def Tryz.lays160_ren : Go.Shelf.Ren := ⟨fun | 160 => 199 | 232 => 222 | 231 => 221 | 227 => 223 | 234 => 225 | 233 => 224 | 236 => 227 | 235 => 226 | 228 => 239 | 271 => 242 | 151 => 241 | 197 => 240 | 120 => 257 | 152 => 256 | 260 => 255 | 137 => 122 | 119 => 266 | 224 => 237 | 225 => 236 | 217 => 164 | 266 => 200 | n => n, fun | 9 => 9 | 4 => 4 | 3 => 3 | 5 => 5 | 117 => 228 | 116 => 227 | 0 => 0 | 124 => 231 | 21 => 21 | 105 => 242 | 46 => 143 | 119 => 267 | 139 => 270 | 138 => 269 | n => n, fun | 3 => 2 | 4 => 3 | n => n⟩
theorem Tryz.lays160 : Go.Proofs.Lays.n160 Tryz.prog Tryz.lays160_ren := {
  mixed := by kernel_rfl,
  f119 := Tryz.func266.trans (congrArg some (by kernel_rfl)),
  f120 := Tryz.func257.trans (congrArg some (by kernel_rfl)),
  f137 := Tryz.func122.trans (congrArg some (by kernel_rfl)),
  f151 := Tryz.func241.trans (congrArg some (by kernel_rfl)),
  f152 := Tryz.func256.trans (congrArg some (by kernel_rfl)),
  f160 := Tryz.func199.trans (congrArg some (by kernel_rfl)),
  f197 := Tryz.func240.trans (congrArg some (by kernel_rfl)),
  f217 := Tryz.func164.trans (congrArg some (by kernel_rfl)),
  f224 := Tryz.func237.trans (congrArg some (by kernel_rfl)),
  f225 := Tryz.func236.trans (congrArg some (by kernel_rfl)),
  f227 := Tryz.func223.trans (congrArg some (by kernel_rfl)),
  f228 := Tryz.func239.trans (congrArg some (by kernel_rfl)),
  f231 := Tryz.func221.trans (congrArg some (by kernel_rfl)),
  f232 := Tryz.func222.trans (congrArg some (by kernel_rfl)),
  f233 := Tryz.func224.trans (congrArg some (by kernel_rfl)),
  f234 := Tryz.func225.trans (congrArg some (by kernel_rfl)),
  f235 := Tryz.func226.trans (congrArg some (by kernel_rfl)),
  f236 := Tryz.func227.trans (congrArg some (by kernel_rfl)),
  f260 := Tryz.func255.trans (congrArg some (by kernel_rfl)),
  f266 := Tryz.func200.trans (congrArg some (by kernel_rfl)),
  f271 := Tryz.func242.trans (congrArg some (by kernel_rfl)),
  t0 := Tryz.underlying0,
  a0 := Tryz.isAgg0,
  z0 := Tryz.sizeOf0,
  v0 := Tryz.zeroValue0,
  t3 := Tryz.underlying3,
  a3 := Tryz.isAgg3,
  z3 := Tryz.sizeOf3,
  v3 := Tryz.zeroValue3,
  t4 := Tryz.underlying4,
  a4 := Tryz.isAgg4,
  z4 := Tryz.sizeOf4,
  v4 := Tryz.zeroValue4,
  t5 := Tryz.underlying5,
  a5 := Tryz.isAgg5,
  z5 := Tryz.sizeOf5,
  v5 := Tryz.zeroValue5,
  t9 := Tryz.underlying9,
  a9 := Tryz.isAgg9,
  z9 := Tryz.sizeOf9,
  v9 := Tryz.zeroValue9,
  t21 := Tryz.underlying21,
  a21 := Tryz.isAgg21,
  z21 := Tryz.sizeOf21,
  v21 := Tryz.zeroValue21,
  t46 := Tryz.underlying143,
  a46 := Tryz.isAgg143,
  z46 := Tryz.sizeOf143,
  v46 := Tryz.zeroValue143,
  t105 := Tryz.underlying242,
  a105 := Tryz.isAgg242,
  z105 := Tryz.sizeOf242,
  v105 := Tryz.zeroValue242,
  t116 := Tryz.underlying227,
  a116 := Tryz.isAgg227,
  z116 := Tryz.sizeOf227,
  t117 := Tryz.underlying228,
  a117 := Tryz.isAgg228,
  z117 := Tryz.sizeOf228,
  v117 := Tryz.zeroValue228,
  t119 := Tryz.underlying267,
  a119 := Tryz.isAgg267,
  z119 := Tryz.sizeOf267,
  t124 := Tryz.underlying231,
  a124 := Tryz.isAgg231,
  z124 := Tryz.sizeOf231,
  v124 := Tryz.zeroValue231,
  t138 := Tryz.underlying269,
  a138 := Tryz.isAgg269,
  z138 := Tryz.sizeOf269,
  v138 := Tryz.zeroValue269,
  t139 := Tryz.underlying270,
  a139 := Tryz.isAgg270,
  z139 := Tryz.sizeOf270,
  v139 := Tryz.zeroValue270,
  g3 := by kernel_rfl,
  g4 := by kernel_rfl }
def Tryz.lays137_ren : Go.Shelf.Ren := ⟨fun | 137 => 122 | 217 => 164 | 266 => 200 | n => n, fun | 9 => 9 | 5 => 5 | 3 => 3 | n => n, fun | n => n⟩
theorem Tryz.lays137 : Go.Proofs.Lays.n137 Tryz.prog Tryz.lays137_ren := {
  mixed := by kernel_rfl,
  f137 := Tryz.func122.trans (congrArg some (by kernel_rfl)),
  f217 := Tryz.func164.trans (congrArg some (by kernel_rfl)),
  f266 := Tryz.func200.trans (congrArg some (by kernel_rfl)),
  t3 := Tryz.underlying3,
  a3 := Tryz.isAgg3,
  z3 := Tryz.sizeOf3,
  v3 := Tryz.zeroValue3,
  t5 := Tryz.underlying5,
  a5 := Tryz.isAgg5,
  z5 := Tryz.sizeOf5,
  v5 := Tryz.zeroValue5,
  t9 := Tryz.underlying9,
  a9 := Tryz.isAgg9,
  z9 := Tryz.sizeOf9,
  v9 := Tryz.zeroValue9 }

open Go.RowKit
namespace Lb
theorem Trim (s cutset : ByteArray) (w : World) (hs : s.size ≤ 9223372036854775807) (hcs : cutset.size < 4294967281) (hascii : ∀ (j : Nat) b, cutset.data.toList[j]? = some b → b.toNat < 128) :
    Calls Tryz.prog 199 #[.string s, .string cutset] w fun e w' => e = .returned (.string ⟨(Go.Lib.trimS s.data.toList cutset.data.toList).toArray⟩) ∧ Below w.heap.size w w' :=
  Any.strings_Trim_laid Tryz.lays160 (by kernel_rfl) s cutset w hs hcs hascii
theorem IndexByte (s : ByteArray) (c : Int) (w : World) :
    Calls Tryz.prog 122 #[.string s, .int .u8 c] w fun e w' => e = .returned (.int .i64 (Go.Lib.indexByte s.data.toList c.toNat.toUInt8)) ∧ w = w' :=
  (Any.strings_IndexByte Tryz.lays137 s c w).mono fun _ _ ⟨he, hw⟩ => ⟨he, hw.symm⟩
/-- a text as bytes: a new row that holds them -/
theorem bytes_of (w : World) (s : ByteArray) : ∃ (cap : Nat) (o : Obj), (convert 9 146 (.string s)).run Tryz.prog w = .ok (.slice (some ⟨w.heap.size, 0, none⟩) s.size cap) (w.alloc o).drew ∧
    ∀ (j : Nat) (c : UInt8), s.data.toList[j]? = some c → (w.alloc o).cell? ⟨w.heap.size, j, none⟩ = some (.int .u8 c.toNat) := by
  refine ⟨_, _, run_bytes_of_string w 9 146 5 s Tryz.underlying9 Tryz.underlying146 Tryz.underlying5, fun j c hc => ?_⟩
  have hj : j < s.data.size := by
    have := (List.getElem?_eq_some_iff.1 hc).1
    simpa using this
  have hb : (w.alloc (.cells (bytesRow s (grownCap w s.size 0 5)) 5 ((bytesRow s (grownCap w s.size 0 5)).size, (bytesRow s (grownCap w s.size 0 5)).size + 1))).heap[w.heap.size]? = some (.cells (bytesRow s (grownCap w s.size 0 5)) 5 ((bytesRow s (grownCap w s.size 0 5)).size, (bytesRow s (grownCap w s.size 0 5)).size + 1)) := heap_alloc_new w _
  rw [cell_of_row _ _ _ _ _ _ hb]
  unfold bytesRow
  rw [Array.getElem?_append_left (by simpa using hj), Array.getElem?_map]
  have : s.data[j]? = some c := by rw [← Array.getElem?_toList]; exact hc
  rw [this]; rfl
end Lb
end Go.Proofs.YtkpjhgkmjcdobaaGreatDoor
/-
  Plain lemmas on integers: bits of a 64-bit number, quotients, and the calendar. No program stands in this text.
-/
namespace Go.Proofs.YtkpjhgkmjcdobaaGreatDoor
open Go.RowKit
namespace Pl

theorem toInt_ofInt64 (a : Int) (h0 : -9223372036854775808 ≤ a) (h1 : a ≤ 9223372036854775807) : (BitVec.ofInt 64 a).toInt = a := by
  rw [BitVec.toInt_ofInt, Int.bmod_def]; omega
theorem wrap_toNat (x : BitVec 64) : IntKind.i64.wrap (x.toNat : Int) = x.toInt := by
  rw [IntKind.wrap_i64, BitVec.toInt_eq_toNat_cond]
  have := x.isLt
  split <;> omega
theorem bits_xor_eq (a b : Int) : bits .xor .i64 a b = (BitVec.ofInt 64 a ^^^ BitVec.ofInt 64 b).toInt := by
  rw [← wrap_toNat]; rfl
theorem bits_and_eq (a b : Int) : bits .and .i64 a b = (BitVec.ofInt 64 a &&& BitVec.ofInt 64 b).toInt := by
  rw [← wrap_toNat]; rfl
theorem xor_neg (a b : Int) (h0 : -9223372036854775808 ≤ a) (h1 : a ≤ 9223372036854775807) (h2 : -9223372036854775808 ≤ b) (h3 : b ≤ 9223372036854775807) :
    (bits .xor .i64 a b < 0) ↔ ((a < 0 ∧ 0 ≤ b) ∨ (0 ≤ a ∧ b < 0)) := by
  have e := bits_xor_eq a b
  have m := BitVec.msb_eq_toInt (x := BitVec.ofInt 64 a ^^^ BitVec.ofInt 64 b)
  have ma := BitVec.msb_eq_toInt (x := BitVec.ofInt 64 a)
  have mb := BitVec.msb_eq_toInt (x := BitVec.ofInt 64 b)
  rw [BitVec.msb_xor, ma, mb, toInt_ofInt64 a h0 h1, toInt_ofInt64 b h2 h3] at m
  rw [e]
  generalize (BitVec.ofInt 64 a ^^^ BitVec.ofInt 64 b).toInt = x at m
  by_cases ha : a < 0 <;> by_cases hb : b < 0 <;> simp only [ha, hb, decide_true, decide_false, bne_self_eq_false, Bool.bne_true, Bool.bne_false, Bool.not_false] at m
  · have : ¬ x < 0 := of_decide_eq_false m.symm
    omega
  · have : x < 0 := of_decide_eq_true (by simpa using m.symm)
    omega
  · have : x < 0 := of_decide_eq_true (by simpa using m.symm)
    omega
  · have : ¬ x < 0 := of_decide_eq_false m.symm
    omega
theorem and_mask (k : Nat) (a : Int) (hk : k < 63) :
    bits .and .i64 a ((2 ^ k - 1 : Nat) : Int) = a % ((2 ^ k : Nat) : Int) := by
  have hp : 2 ^ k < 2 ^ 63 := Nat.pow_lt_pow_right (by omega) hk
  have hp1 : 0 < 2 ^ k := Nat.two_pow_pos k
  show IntKind.i64.wrap ((BitVec.ofInt 64 a &&& BitVec.ofInt 64 ((2 ^ k - 1 : Nat) : Int)).toNat : Int) = _
  rw [BitVec.toNat_and, BitVec.ofInt_natCast, BitVec.toNat_ofNat]
  have e1 : (2 ^ k - 1) % 2 ^ 64 = 2 ^ k - 1 := Nat.mod_eq_of_lt (by omega)
  rw [e1, Nat.and_two_pow_sub_one_eq_mod]
  have e2 : ((BitVec.ofInt 64 a).toNat : Int) = a % 18446744073709551616 := by
    rw [BitVec.toNat_ofInt]
    have : (0 : Int) ≤ a % ((2 ^ 64 : Nat) : Int) := Int.emod_nonneg _ (by decide)
    omega
  have hdvd : ((2 ^ k : Nat) : Int) ∣ 18446744073709551616 := by
    refine ⟨((2 ^ (64 - k) : Nat) : Int), ?_⟩
    rw [← Int.natCast_mul, ← Nat.pow_add, show k + (64 - k) = 64 by omega]; rfl
  have e3 : (((BitVec.ofInt 64 a).toNat % 2 ^ k : Nat) : Int) = a % ((2 ^ k : Nat) : Int) := by
    rw [Int.natCast_emod, e2, Int.emod_emod_of_dvd _ hdvd]
  rw [e3, IntKind.wrap_i64]
  have h4 := Int.emod_nonneg a (show ((2 ^ k : Nat) : Int) ≠ 0 by omega)
  have h5 := Int.emod_lt_of_pos a (show (0 : Int) < ((2 ^ k : Nat) : Int) by omega)
  omega
theorem and3 (a : Int) : bits .and .i64 a 3 = a % 4 := and_mask 2 a (by omega)
theorem and15 (a : Int) : bits .and .i64 a 15 = a % 16 := and_mask 4 a (by omega)
theorem tdiv_neg' (a b : Int) (h : a < 0) (hb : 0 < b) (hr : a % b ≠ 0) : a.tdiv b = a / b + 1 := by
  rw [Int.tdiv_eq_ediv, if_neg, Int.sign_eq_one_of_pos hb]
  rintro (h' | h')
  · omega
  · exact hr (Int.emod_eq_zero_of_dvd h')
theorem tmod_neg' (a b : Int) (h : a < 0) (hb : 0 < b) (hr : a % b ≠ 0) : a.tmod b = a % b - b := by
  rw [Int.tmod_eq_emod, if_neg]
  · omega
  rintro (h' | h')
  · omega
  · exact hr (Int.emod_eq_zero_of_dvd h')
theorem tdiv_ex (a b : Int) (hr : a % b = 0) : a.tdiv b = a / b := by
  rw [Int.tdiv_eq_ediv, if_pos (Or.inr (Int.dvd_of_emod_eq_zero hr))]; omega
theorem tmod_ex (a b : Int) (hr : a % b = 0) : a.tmod b = 0 := by
  rw [Int.tmod_eq_emod, if_pos (Or.inr (Int.dvd_of_emod_eq_zero hr))]; omega

end Pl
end Go.Proofs.YtkpjhgkmjcdobaaGreatDoor
/-
  format: words and letters, as the program runs them.
-/
namespace Go.Proofs.YtkpjhgkmjcdobaaGreatDoor
open Go.RowKit NB
namespace Fmt
/-- the bytes that may stand in a name -/
def wset : List UInt8 := [65, 66, 67, 68, 69, 70, 71, 72, 73, 74, 75, 76, 77, 78, 79, 80, 81, 82, 83, 84, 85, 86, 87, 88, 89, 90, 97, 98, 99, 100, 101, 102, 103, 104, 105, 106, 107, 108, 109, 110, 111, 112, 113, 114, 115, 116, 117, 118, 119, 120, 121, 122, 48, 49, 50, 51, 52, 53, 54, 55, 56, 57, 43, 45]
def wordB (s : ByteArray) : Bool := s.data.toList.all (wset.contains ·)
theorem dropWhile_nil {l : List UInt8} {p : UInt8 → Bool} : l.dropWhile p = [] ↔ l.all p = true := by
  induction l with
  | nil => simp
  | cons a l ih =>
    by_cases h : p a = true
    · simp [h, ih]
    · simp [h]
theorem trim_nil (l cs : List UInt8) : Go.Lib.trimS l cs = [] ↔ l.all (cs.contains ·) = true := by
  unfold Go.Lib.trimS Go.Lib.trimLeftS Go.Lib.trimRightS
  rw [dropWhile_nil]
  constructor
  · intro h
    have h2 : (l.reverse.dropWhile (cs.contains ·)).all (cs.contains ·) = true := by
      rw [← List.all_reverse]; exact h
    rcases hd : l.reverse.dropWhile (cs.contains ·) with _ | ⟨a, t⟩
    · rw [dropWhile_nil, List.all_reverse] at hd; exact hd
    · have := List.head_dropWhile_not (l := l.reverse) (cs.contains ·) (by rw [hd]; simp)
      simp only [hd, List.head_cons] at this
      rw [hd] at h2
      simp only [List.all_cons, Bool.and_eq_true] at h2
      rw [this] at h2
      exact absurd h2.1 (by simp)
  · intro h
    have : l.reverse.dropWhile (cs.contains ·) = [] := by rw [dropWhile_nil, List.all_reverse]; exact h
    rw [this]; rfl
theorem emp (l : List UInt8) : (⟨l.toArray⟩ : ByteArray).toList.isEmpty = l.isEmpty := by rw [ByteArray.toList_eq]

theorem word (s : ByteArray) (hs : s.size ≤ 9223372036854775807) (w : World) : Calls Tryz.prog 163 #[.string s] w fun e w' => e = .returned (.bool (wordB s)) ∧ Below w.heap.size w w' := by
  have hcon := Lb.Trim s ⟨#[65, 66, 67, 68, 69, 70, 71, 72, 73, 74, 75, 76, 77, 78, 79, 80, 81, 82, 83, 84, 85, 86, 87, 88, 89, 90, 97, 98, 99, 100, 101, 102, 103, 104, 105, 106, 107, 108, 109, 110, 111, 112, 113, 114, 115, 116, 117, 118, 119, 120, 121, 122, 48, 49, 50, 51, 52, 53, 54, 55, 56, 57, 43, 45]⟩ w hs (by decide) (ascii_of_all (by decide))
  have hf : (⟨(Go.Lib.trimS s.data.toList wset).toArray⟩ : ByteArray).toList.isEmpty = wordB s := by
    rw [emp, Bool.eq_iff_iff, List.isEmpty_iff, trim_nil]; rfl
  change Calls Tryz.prog 199 _ _ (fun e w' => e = .returned (.string ⟨(Go.Lib.trimS s.data.toList wset).toArray⟩) ∧ Below w.heap.size w w') at hcon
  rw [← hf]
  generalize (⟨(Go.Lib.trimS s.data.toList wset).toArray⟩ : ByteArray) = r at hcon ⊢
  clear hf
  have Hcon := Lib.hid hcon; clear hcon
  go_enter Tryz.func163, Tryz.ntmps163
  go_wp2_with (go_at_call 199; refine Hcon.out.mono ?_; rintro e w' ⟨rfl, hB⟩)
  go_ret
  exact ⟨rfl, hB⟩

def letS (s : ByteArray) : ByteArray := if s.toList = [45] ∨ 6 < s.size ∨ s.toList = [] ∨ wordB s = false then ⟨#[]⟩ else s
def letE (s : ByteArray) : Int := if s.toList = [45] then 0 else if 6 < s.size then 9 else if s.toList = [] ∨ wordB s = false then 4 else 0
set_option maxHeartbeats 800000 in
theorem Letter (s : ByteArray) (hs : s.size ≤ 9223372036854775807) (w : World) : Calls Tryz.prog 177 #[.string s] w fun e w' => e = .returned (.tuple #[.string (letS s), .int .i64 (letE s)]) ∧ Below w.heap.size w w' := by
  unfold letS letE
  by_cases h1 : s.toList = [45]
  · have e1 : (s.toList == [45]) = true := by simp [h1]
    rw [if_pos (.inl h1), if_pos h1]
    clear h1
    go_enter Tryz.func177, Tryz.ntmps177
    go_wp2
    go_ret2
    exact ⟨rfl, Below.refl _ _⟩
  · have e1 : (s.toList == [45]) = false := by simp [h1]
    rw [if_neg h1]
    by_cases h2 : 6 < s.size
    · rw [if_pos (.inr (.inl h2)), if_pos h2]
      clear h1
      go_enter Tryz.func177, Tryz.ntmps177
      go_wp2
      go_ret2
      exact ⟨rfl, Below.refl _ _⟩
    · rw [if_neg h2]
      by_cases h3 : s.toList = []
      · have e3 : s.toList.isEmpty = true := by simp [h3]
        rw [if_pos (.inr (.inr (.inl h3))), if_pos (.inl h3)]
        clear h1
        have H3 := Lib.hid h3; clear h3
        go_enter Tryz.func177, Tryz.ntmps177
        go_wp2
        go_ret2
        exact ⟨rfl, Below.refl _ _⟩
      · have e3 : s.toList.isEmpty = false := by simp [h3]
        cases h4 : wordB s
        · rw [if_pos (.inr (.inr (.inr rfl))), if_pos (.inr rfl)]
          clear h1 h3
          have H4 := Lib.hid h4; clear h4
          go_enter Tryz.func177, Tryz.ntmps177
          go_wp2_with (go_at_call 163; refine (word _ (by omega) _).mono ?_; rw [H4.out]; rintro e w' ⟨rfl, hB⟩)
          go_ret2
          exact ⟨rfl, hB⟩
        · rw [if_neg (by simp [h1, h2, h3]), if_neg (by simp [h3])]
          clear h1 h3
          have H4 := Lib.hid h4; clear h4
          go_enter Tryz.func177, Tryz.ntmps177
          go_wp2_with (go_at_call 163; refine (word _ (by omega) _).mono ?_; rw [H4.out]; rintro e w' ⟨rfl, hB⟩)
          go_ret2
          exact ⟨rfl, hB⟩

/-- whether letters may be written -/
def letterOK (s : ByteArray) : Bool := decide (s.toList = []) || (!decide (s.toList = [45]) && decide (s.size ≤ 6) && wordB s)
theorem letter_ok {s : ByteArray} (h : s.toList ≠ []) : letterOK s = true ↔ letE s = 0 ∧ s.toList ≠ [45] := by
  unfold letterOK letE
  by_cases h1 : s.toList = [45]
  · simp [h1]
  · by_cases h2 : 6 < s.size
    · simp [h1, h2, h]; omega
    · cases h4 : wordB s <;> simp [h1, h2, h] <;> omega
def ltext (s : ByteArray) : ByteArray := if s.toList = [] then ⟨#[45]⟩ else if letterOK s then s else ⟨#[]⟩
set_option maxHeartbeats 800000 in
theorem LetterText (s : ByteArray) (hs : s.size ≤ 9223372036854775807) (w : World) : Calls Tryz.prog 146 #[.string s] w fun e w' => e = .returned (.tuple #[.string (ltext s), .int .i64 (if letterOK s then 0 else 4)]) ∧ Below w.heap.size w w' := by
  unfold ltext
  by_cases h1 : s.toList = []
  · have e1 : s.toList.isEmpty = true := by simp [h1]
    have e2 : letterOK s = true := by unfold letterOK; simp [h1]
    rw [if_pos h1, e2]
    clear h1 e2
    go_enter Tryz.func146, Tryz.ntmps146
    go_wp2
    go_ret2
    exact ⟨rfl, Below.refl _ _⟩
  · have e1 : s.toList.isEmpty = false := by simp [h1]
    rw [if_neg h1]
    have hk := letter_ok h1
    cases h4 : letterOK s
    · by_cases h5 : letE s = 0
      · have h6 : s.toList = [45] := by
          by_cases h6 : s.toList = [45]
          · exact h6
          · exact absurd (hk.2 ⟨h5, h6⟩) (by rw [h4]; simp)
        have h7 : letS s = ⟨#[]⟩ := by unfold letS; rw [if_pos (.inl h6)]
        have h8 : (([] : List UInt8) == s.toList) = false := by simp [h6]
        have H5 := Lib.hid h5; have H7 := Lib.hid h7
        clear hk h4 h5 h6 h7 h1
        go_enter Tryz.func146, Tryz.ntmps146
        go_wp2_with (go_at_call 177; refine (Letter _ (by omega) _).mono ?_; rw [H5.out, H7.out]; rintro e w' ⟨rfl, hB⟩)
        go_ret2
        exact ⟨rfl, hB⟩
      · have h6 : (letE s != 0) = true := by simp [h5]
        have h6' : (letE s == 0) = false := by simp [h5]
        clear hk h4 h5 h1
        go_enter Tryz.func146, Tryz.ntmps146
        go_wp2_with (go_at_call 177; refine (Letter _ (by omega) _).mono ?_; rintro e w' ⟨rfl, hB⟩)
        go_ret2
        exact ⟨rfl, hB⟩
    · obtain ⟨h5, h6⟩ := hk.1 h4
      have h7 : letS s = s := by
        unfold letS
        unfold letE at h5
        rw [if_neg h6] at h5
        rw [if_neg]
        rintro (h | h | h | h)
        · exact h6 h
        · rw [if_pos h] at h5; cases h5
        · exact h1 h
        · by_cases h2 : 6 < s.size
          · rw [if_pos h2] at h5; cases h5
          · rw [if_neg h2, if_pos (.inr h)] at h5; cases h5
      have H5 := Lib.hid h5; have H7 := Lib.hid h7
      clear hk h4 h5 h6 h7 h1
      go_enter Tryz.func146, Tryz.ntmps146
      go_wp2_with (go_at_call 177; refine (Letter _ (by omega) _).mono ?_; rw [H5.out, H7.out]; rintro e w' ⟨rfl, hB⟩)
      go_ret2
      exact ⟨rfl, hB⟩
end Fmt
end Go.Proofs.YtkpjhgkmjcdobaaGreatDoor
/-
  More base lemmas: what is later than a call's beginning.
-/
namespace Go.Proofs.YtkpjhgkmjcdobaaGreatDoor
open Go.RowKit
namespace NB
theorem bt {a b c : World} (h : Below a.heap.size a b) (h' : Below b.heap.size b c) : Below a.heap.size a c := h.trans (h'.mono h.size)
theorem ba {a b : World} {o : Obj} (h : Below a.heap.size a b) : Below a.heap.size a (b.alloc o) := h.alloc h.size _
theorem bd {a b : World} (h : Below a.heap.size a b) : Below a.heap.size a b.drew := h.drew
theorem bdn {a b : World} (h : Below a.heap.size a b) (n : Nat) : Below a.heap.size a (b.drewN n) := below_drewN h n
theorem bset {a b : World} {n o : Nat} {v : Value} (h : Below a.heap.size a b) (hn : a.heap.size ≤ n) : Below a.heap.size a (b.setCell ⟨n, o, none⟩ v) := h.setCell hn _
theorem ret_bi {a a' : Bool} (h : a = a') : Ending.returned (.bool a) = .returned (.bool a') := by rw [h]
theorem new_cell (X : World) (cs : Array Value) (t : TypeId) (o : Nat) : (X.alloc (.cells cs t)).cell? ⟨X.heap.size, o, none⟩ = cs[o]? := cell_of_row _ _ _ _ _ _ (heap_alloc_new X _)
theorem new_cell_drew (X : World) (cs : Array Value) (t : TypeId) (o : Nat) : (X.alloc (.cells cs t)).drew.cell? ⟨X.heap.size, o, none⟩ = cs[o]? := new_cell X cs t o
/-- one box, or two or three, ahead of what is later -/
theorem box1 {w V : World} {a : Array Value} {s : TypeId} (hV : V = w.alloc (.cells a s)) :
    w.heap.size < V.heap.size ∧ Below w.heap.size w V ∧ ∀ u, Below V.heap.size V u → (∀ o, u.cell? ⟨w.heap.size, o, none⟩ = a[o]?) ∧ V.heap.size ≤ u.heap.size := by
  have e : V.heap.size = w.heap.size + 1 := by rw [hV]; simp
  refine ⟨by omega, by rw [hV]; exact ba (Below.refl _ _), fun u hu => ⟨fun o => ?_, hu.size⟩⟩
  rw [hu.cell (p := ⟨w.heap.size, o, none⟩) (by rw [e]; exact Nat.lt_succ_self _), hV]
  exact new_cell w a s o
theorem box2 {w V : World} {a b : Array Value} {s t : TypeId} (hV : V = (w.alloc (.cells a s)).alloc (.cells b t)) :
    (w.heap.size < V.heap.size ∧ w.heap.size + 1 < V.heap.size) ∧ Below w.heap.size w V ∧ ∀ u, Below V.heap.size V u → (∀ o, u.cell? ⟨w.heap.size, o, none⟩ = a[o]?) ∧ (∀ o, u.cell? ⟨w.heap.size + 1, o, none⟩ = b[o]?) ∧ V.heap.size ≤ u.heap.size := by
  have e : V.heap.size = w.heap.size + 2 := by rw [hV]; simp
  refine ⟨by omega, by rw [hV]; exact ba (ba (Below.refl _ _)), fun u hu => ⟨fun o => ?_, fun o => ?_, hu.size⟩⟩
  · rw [hu.cell (p := ⟨w.heap.size, o, none⟩) (by rw [e]; show w.heap.size < _; omega), hV]
    rw [World.cell?_alloc_past _ _ _ (by simp)]
    exact new_cell w a s o
  · rw [hu.cell (p := ⟨w.heap.size + 1, o, none⟩) (by rw [e]; exact Nat.lt_succ_self _), hV]
    have := new_cell (w.alloc (.cells a s)) b t o
    rwa [World.size_alloc] at this
theorem new_free (X : World) (cs : Array Value) (t : TypeId) (o : Nat) : (X.alloc (.cells cs t)).frozen? ⟨X.heap.size, o, none⟩ = false := by
  unfold World.frozen?
  have h := heap_alloc_new X (.cells cs t)
  simp only
  rw [h]
  simp
theorem box1f {w V : World} {a : Array Value} {s : TypeId} (hV : V = w.alloc (.cells a s)) : ∀ u, Below V.heap.size V u → ∀ o, u.frozen? ⟨w.heap.size, o, none⟩ = false := by
  have e : V.heap.size = w.heap.size + 1 := by rw [hV]; simp
  intro u hu o
  rw [hu.frozen (p := ⟨w.heap.size, o, none⟩) (by rw [e]; exact Nat.lt_succ_self _), hV]
  exact new_free w a s o
theorem box2f {w V : World} {a b : Array Value} {s t : TypeId} (hV : V = (w.alloc (.cells a s)).alloc (.cells b t)) :
    ∀ u, Below V.heap.size V u → (∀ o, u.frozen? ⟨w.heap.size, o, none⟩ = false) ∧ (∀ o, u.frozen? ⟨w.heap.size + 1, o, none⟩ = false) := by
  have e : V.heap.size = w.heap.size + 2 := by rw [hV]; simp
  refine fun u hu => ⟨fun o => ?_, fun o => ?_⟩
  · rw [hu.frozen (p := ⟨w.heap.size, o, none⟩) (by rw [e]; show w.heap.size < _; omega), hV]
    rw [World.frozen?_alloc_past _ _ _ (by simp)]
    exact new_free w a s o
  · rw [hu.frozen (p := ⟨w.heap.size + 1, o, none⟩) (by rw [e]; exact Nat.lt_succ_self _), hV]
    have := new_free (w.alloc (.cells a s)) b t o
    rwa [World.size_alloc] at this
theorem toList_inj {a b : ByteArray} (h : a.toList = b.toList) : a = b := by
  rw [ByteArray.toList_eq, ByteArray.toList_eq] at h
  cases a; cases b
  simp only at h
  congr 1
  exact Array.ext' h
theorem str_ne {a b : ByteArray} (h : a ≠ b) : (a.toList == b.toList) = false := by
  rw [beq_eq_false_iff_ne]
  exact fun e => h (toList_inj e)
theorem str_eq {a b : ByteArray} (h : a = b) : (a.toList == b.toList) = true := by
  rw [h]; simp
/-- A block that holds such cells, and is not frozen. -/
def Box (w : World) (b : Nat) (cs : Array Value) (t : TypeId) : Prop := w.heap[b]? = some (.cells cs t)
theorem Box.lt {w : World} {b : Nat} {cs : Array Value} {t : TypeId} (h : Box w b cs t) : b < w.heap.size := (Array.getElem?_eq_some_iff.1 h).1
theorem Box.cell {w : World} {b : Nat} {cs : Array Value} {t : TypeId} (h : Box w b cs t) (o : Nat) : w.cell? ⟨b, o, none⟩ = cs[o]? := cell_of_row _ _ _ _ _ _ h
theorem Box.free {w : World} {b : Nat} {cs : Array Value} {t : TypeId} (h : Box w b cs t) (o : Nat) : w.frozen? ⟨b, o, none⟩ = false := by
  unfold World.frozen?
  simp only
  rw [show w.heap[b]? = some (.cells cs t) from h]
  simp
theorem Box.new (X : World) (cs : Array Value) (t : TypeId) : Box (X.alloc (.cells cs t)) X.heap.size cs t := heap_alloc_new X _
theorem Box.old {X : World} {b : Nat} {cs : Array Value} {t : TypeId} {o : Obj} (h : Box X b cs t) : Box (X.alloc o) b cs t := (Below.heap_alloc X o b h.lt).trans h
theorem Box.drew {X : World} {b : Nat} {cs : Array Value} {t : TypeId} (h : Box X b cs t) : Box X.drew b cs t := h
theorem Box.drewN {X : World} {b : Nat} {cs : Array Value} {t : TypeId} (h : Box X b cs t) (n : Nat) : Box (X.drewN n) b cs t := h
theorem Box.later {X Y : World} {b : Nat} {cs : Array Value} {t : TypeId} (h : Box X b cs t) (hb : Below X.heap.size X Y) : Box Y b cs t := (hb.block b h.lt).trans h
theorem Box.keep {w X Y : World} {b : Nat} {cs : Array Value} {t : TypeId} (h : Box X b cs t) (hb : Below w.heap.size X Y) (hl : b < w.heap.size) : Box Y b cs t := (hb.block b hl).trans h
theorem Box.other {X : World} {b n j : Nat} {cs : Array Value} {t : TypeId} {v : Value} (h : Box X b cs t) (hn : b ≠ n) : Box (X.setCell ⟨n, j, none⟩ v) b cs t := (Below.heap_setCell X ⟨n, j, none⟩ v b hn).trans h
theorem Box.set {X : World} {b j : Nat} {cs : Array Value} {t : TypeId} {v : Value} (h : Box X b cs t) : Box (X.setCell ⟨b, j, none⟩ v) b (cs.setIfInBounds j v) t := by
  unfold Box World.setCell
  simp only [Array.getElem?_modify]
  rw [show X.heap[b]? = some (.cells cs t) from h]
  simp
theorem Box.set3 {X : World} {b : Nat} {x y z x' y' z' : Value} {t : TypeId} (h : Box X b #[x, y, z] t) : Box (((X.setCell ⟨b, 0, none⟩ x').setCell ⟨b, 1, none⟩ y').setCell ⟨b, 2, none⟩ z') b #[x', y', z'] t :=
  ((h.set (j := 0) (v := x')).set (j := 1) (v := y')).set (j := 2) (v := z')
end NB
end Go.Proofs.YtkpjhgkmjcdobaaGreatDoor
/-
  strings.Cut as this program has it: the shelf's contract at this program's numbers.
-/
namespace Go.Proofs.YtkpjhgkmjcdobaaGreatDoor
open Go.Shelf
def Tryz.lays145_ren : Go.Shelf.Ren := ⟨fun | 145 => 162 | 220 => 198 | 219 => 220 | 217 => 164 | 225 => 236 | 224 => 237 | 267 => 238 | 266 => 200 | 314 => 254 | n => n, fun | 9 => 9 | 4 => 4 | 59 => 184 | 3 => 3 | 5 => 5 | 46 => 143 | 146 => 261 | 51 => 260 | n => n, fun | 1 => 1 | n => n⟩
theorem Tryz.lays145 : Go.Proofs.Lays.n145 Tryz.prog Tryz.lays145_ren := {
  mixed := by kernel_rfl,
  f145 := Tryz.func162.trans (congrArg some (by kernel_rfl)),
  f217 := Tryz.func164.trans (congrArg some (by kernel_rfl)),
  f219 := Tryz.func220.trans (congrArg some (by kernel_rfl)),
  f220 := Tryz.func198.trans (congrArg some (by kernel_rfl)),
  f224 := Tryz.func237.trans (congrArg some (by kernel_rfl)),
  f225 := Tryz.func236.trans (congrArg some (by kernel_rfl)),
  f266 := Tryz.func200.trans (congrArg some (by kernel_rfl)),
  f267 := Tryz.func238.trans (congrArg some (by kernel_rfl)),
  f314 := Tryz.func254.trans (congrArg some (by kernel_rfl)),
  t3 := Tryz.underlying3,
  a3 := Tryz.isAgg3,
  z3 := Tryz.sizeOf3,
  v3 := Tryz.zeroValue3,
  t4 := Tryz.underlying4,
  a4 := Tryz.isAgg4,
  z4 := Tryz.sizeOf4,
  v4 := Tryz.zeroValue4,
  t5 := Tryz.underlying5,
  a5 := Tryz.isAgg5,
  z5 := Tryz.sizeOf5,
  v5 := Tryz.zeroValue5,
  t9 := Tryz.underlying9,
  a9 := Tryz.isAgg9,
  z9 := Tryz.sizeOf9,
  v9 := Tryz.zeroValue9,
  t46 := Tryz.underlying143,
  a46 := Tryz.isAgg143,
  z46 := Tryz.sizeOf143,
  v46 := Tryz.zeroValue143,
  t51 := Tryz.underlying260,
  a51 := Tryz.isAgg260,
  z51 := Tryz.sizeOf260,
  v51 := Tryz.zeroValue260,
  t59 := Tryz.underlying184,
  a59 := Tryz.isAgg184,
  z59 := Tryz.sizeOf184,
  v59 := Tryz.zeroValue184,
  t146 := Tryz.underlying261,
  a146 := Tryz.isAgg261,
  z146 := Tryz.sizeOf261,
  v146 := Tryz.zeroValue261,
  g1 := by kernel_rfl }

open Go.RowKit NB
/-- what the library's own table holds -/
def Tab (w : World) : Prop := ∃ m, w.cell? ⟨1, 0, none⟩ = some (.int .i64 m)
theorem Tab.lt {w : World} (h : Tab w) : 1 < w.heap.size := by
  obtain ⟨m, hm⟩ := h
  unfold World.cell? at hm
  cases hh : w.heap[1]? with
  | none => simp only [hh] at hm; cases hm
  | some o => exact (Array.getElem?_eq_some_iff.1 hh).1
theorem Tab.later {w w' : World} (h : Tab w) (hb : Below w.heap.size w w') : Tab w' := by
  have hl := h.lt
  obtain ⟨m, hm⟩ := h
  exact ⟨m, (hb.cell (p := ⟨1, 0, none⟩) hl).trans hm⟩
namespace Lb
theorem Cut (s sep : ByteArray) (w : World) (hs : s.size < 4294967281) (hm : Tab w) :
    Calls Tryz.prog 162 #[.string s, .string sep] w fun e w' => e = .returned (.tuple #[.string ⟨(Go.Lib.cut s.data.toList sep.data.toList).1.toArray⟩, .string ⟨(Go.Lib.cut s.data.toList sep.data.toList).2.1.toArray⟩, .bool (Go.Lib.cut s.data.toList sep.data.toList).2.2]) ∧ Below w.heap.size w w' := by
  obtain ⟨m, hm⟩ := hm
  exact (Any.strings_Cut Tryz.lays145 s sep m w hs hm).mono fun _ _ ⟨he, n, hw⟩ => ⟨he, by rw [hw]; exact below_drewN (Below.refl _ _) n⟩
end Lb
end Go.Proofs.YtkpjhgkmjcdobaaGreatDoor
