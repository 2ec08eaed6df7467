import Derived.WalkKit
import Derived.WalkSpells
import Derived.WalkLawsBesides
import Derived.BigQuiet
import Derived.Deep.Quiet
import Derived.Deep.QuietTactic
import Derived.StillTail
import Derived.Lib.Hide
import Derived.Deep.DeepFit
import Derived.Shelf.Strings.SlTrimAscii
import Derived.Shelf.Small.Strs
import Derived.Test.YtcfmchpoclkpgaaGreatDoorProg
namespace Go.Proofs.YtcfmchpoclkpgaaGreatDoor
open Go.RowKit
namespace NB

structure Later (B : Nat) (w : World) where
  u : World
  h : Below B w u

instance later_nonempty (B : Nat) (w : World) : Nonempty (Later B w) := ⟨⟨w, Below.refl _ _⟩⟩

theorem Later.cell {B : Nat} {w : World} (x : Later B w) (b o : Nat) (h : b < B) : x.u.cell? ⟨b, o, none⟩ = w.cell? ⟨b, o, none⟩ := x.h.cell (p := ⟨b, o, none⟩) h
theorem Later.frozen {B : Nat} {w : World} (x : Later B w) (b o : Nat) (h : b < B) : x.u.frozen? ⟨b, o, none⟩ = w.frozen? ⟨b, o, none⟩ := x.h.frozen (p := ⟨b, o, none⟩) h

attribute [go_sem] Later.cell Later.frozen

theorem region_later {P : Program} {id : Nat} {Q : Exit → Act → World → Prop} {a : Act} {w : World} {l : List Oper} (hm : P.follows .mixedOrders = true) (hB : Region.lexB .any l.toArray = true)
    (h : wpQuiet P l.toArray (fun w' => ∃ x : Later w.heap.size w, w' = x.u) (fun a' => ∀ w', (∃ x : Later w.heap.size w, w' = x.u) → Q .normal a' w') l a) : (Code.region id l.toArray true).wp P Q a w :=
  wp_region_quiet (C := fun w' => ∃ x : Later w.heap.size w, w' = x.u) hm hB ⟨⟨w.drew, (Below.refl _ _).drew⟩, rfl⟩ (by simpa using h)

theorem calls_later {P : Program} {f : FuncId} {args : Array Value} {B : Nat} {w : World} (x : Later B w) (hB : B ≤ w.heap.size) {v : Value}
    (h : Calls P f args x.u fun e w' => e = .returned v ∧ Below x.u.heap.size x.u w') : Calls P f args x.u fun e w'' => e = .returned v ∧ ∃ y : Later B w, w'' = y.u :=
  h.mono fun _ w'' ⟨he, hb⟩ => ⟨he, ⟨w'', x.h.trans (hb.mono (Nat.le_trans hB x.h.size))⟩, rfl⟩

theorem below_of_same {P : Program} {f : FuncId} {args : Array Value} {w : World} {v : Value} (h : Calls P f args w fun e w' => e = .returned v ∧ w = w') :
    Calls P f args w fun e w' => e = .returned v ∧ Below w.heap.size w w' :=
  h.mono fun _ _ ⟨he, hw⟩ => ⟨he, hw ▸ Below.refl _ _⟩

theorem quiet_left {P : Program} {f : FuncId} {args : Array Value} {w : World} {n : Nat} {v : Value}
    (h : Calls P f args (w.drewN n) fun e w' => e = .returned v ∧ w.drewN n = w') : Calls P f args (w.drewN n) fun e w'' => e = .returned v ∧ ∃ m, w'' = w.drewN m :=
  h.mono fun _ _ ⟨he, hm⟩ => ⟨he, n, hm.symm⟩
theorem below_drewN {B : Nat} {a w : World} (h : Below B a w) (n : Nat) : Below B a (w.drewN n) := ⟨h.os, h.tape, h.output, h.size, h.block⟩
theorem sz1 {B : Nat} {a b : World} {o : Obj} (h : Below B (a.alloc o) b) : a.heap.size < b.heap.size := by
  have := h.size;simp only [World.size_alloc] at this;omega
theorem sz2 {B : Nat} {a b : World} {o p : Obj} (h : Below B ((a.alloc o).alloc p) b) : a.heap.size + 1 < b.heap.size := by
  have := h.size;simp only [World.size_alloc] at this;omega
theorem szd1 {B : Nat} {a b : World} {o : Obj} (h : Below B (a.alloc o).drew b) : a.heap.size < b.heap.size := sz1 (a := a) (o := o) ⟨h.os, h.tape, h.output, h.size, h.block⟩
theorem szd2 {B : Nat} {a b : World} {o p : Obj} (h : Below B ((a.alloc o).alloc p).drew b) : a.heap.size + 1 < b.heap.size := sz2 (a := a) (o := o) (p := p) ⟨h.os, h.tape, h.output, h.size, h.block⟩
theorem sz3 {B : Nat} {a b : World} {o p q : Obj} (h : Below B (((a.alloc o).alloc p).alloc q) b) : a.heap.size + 2 < b.heap.size := by
  have := h.size;simp only [World.size_alloc] at this;omega
theorem ret_bool {a b : Bool} (h : a = b) : Ending.returned (.bool a) = .returned (.bool b) := by rw [h]
theorem ret_int {k : IntKind} {a b : Int} (h : a = b) : Ending.returned (.int k a) = .returned (.int k b) := by rw [h]
theorem ret_ii {a b a' b' : Int} (h : a = a') (h2 : b = b') : Ending.returned (.tuple #[.int .i64 a, .int .i64 b]) = .returned (.tuple #[.int .i64 a', .int .i64 b']) := by rw [h, h2]
theorem ret_iii {a b c a' b' c' : Int} (h : a = a') (h2 : b = b') (h3 : c = c') : Ending.returned (.tuple #[.int .i64 a, .int .i64 b, .int .i64 c]) = .returned (.tuple #[.int .i64 a', .int .i64 b', .int .i64 c']) := by rw [h, h2, h3]
theorem bcell {B : Nat} {W w1 : World} (hb : Below B W w1) : (∀ b o, b < B → w1.cell? ⟨b, o, none⟩ = W.cell? ⟨b, o, none⟩) ∧ (∀ b o, b < B → w1.frozen? ⟨b, o, none⟩ = W.frozen? ⟨b, o, none⟩) :=
  ⟨fun b o h => hb.cell (p := ⟨b, o, none⟩) h, fun b o h => hb.frozen (p := ⟨b, o, none⟩) h⟩

end NB
end Go.Proofs.YtcfmchpoclkpgaaGreatDoor
namespace Go.Proofs.YtcfmchpoclkpgaaGreatDoor
open Go.Shelf
def Tryz.lays160_ren : Go.Shelf.Ren := ⟨fun|160 => 276|232 => 299|231 => 298|227 => 300|234 => 302|233 => 301|236 => 304|235 => 303|228 => 323|271 => 326|151 => 325|197 => 324|120 => 338|152 => 337|260 => 336|137 => 173|119 => 343|224 => 321|225 => 320|217 => 232|266 => 277|n => n, fun|9 => 9|4 => 4|3 => 3|5 => 5|117 => 336|116 => 335|0 => 0|124 => 339|21 => 21|105 => 354|46 => 172|119 => 364|139 => 367|138 => 366|n => n, fun|3 => 2|4 => 3|n => n⟩
theorem Tryz.lays160 : Go.Proofs.Lays.n160 Tryz.prog Tryz.lays160_ren := {
  mixed := by kernel_rfl,
  f119 := Tryz.func343.trans (congrArg some (by kernel_rfl)),
  f120 := Tryz.func338.trans (congrArg some (by kernel_rfl)),
  f137 := Tryz.func173.trans (congrArg some (by kernel_rfl)),
  f151 := Tryz.func325.trans (congrArg some (by kernel_rfl)),
  f152 := Tryz.func337.trans (congrArg some (by kernel_rfl)),
  f160 := Tryz.func276.trans (congrArg some (by kernel_rfl)),
  f197 := Tryz.func324.trans (congrArg some (by kernel_rfl)),
  f217 := Tryz.func232.trans (congrArg some (by kernel_rfl)),
  f224 := Tryz.func321.trans (congrArg some (by kernel_rfl)),
  f225 := Tryz.func320.trans (congrArg some (by kernel_rfl)),
  f227 := Tryz.func300.trans (congrArg some (by kernel_rfl)),
  f228 := Tryz.func323.trans (congrArg some (by kernel_rfl)),
  f231 := Tryz.func298.trans (congrArg some (by kernel_rfl)),
  f232 := Tryz.func299.trans (congrArg some (by kernel_rfl)),
  f233 := Tryz.func301.trans (congrArg some (by kernel_rfl)),
  f234 := Tryz.func302.trans (congrArg some (by kernel_rfl)),
  f235 := Tryz.func303.trans (congrArg some (by kernel_rfl)),
  f236 := Tryz.func304.trans (congrArg some (by kernel_rfl)),
  f260 := Tryz.func336.trans (congrArg some (by kernel_rfl)),
  f266 := Tryz.func277.trans (congrArg some (by kernel_rfl)),
  f271 := Tryz.func326.trans (congrArg some (by kernel_rfl)),
  t0 := Tryz.underlying0,
  a0 := Tryz.isAgg0,
  z0 := Tryz.sizeOf0,
  v0 := Tryz.zeroValue0,
  t3 := Tryz.underlying3,
  a3 := Tryz.isAgg3,
  z3 := Tryz.sizeOf3,
  v3 := Tryz.zeroValue3,
  t4 := Tryz.underlying4,
  a4 := Tryz.isAgg4,
  z4 := Tryz.sizeOf4,
  v4 := Tryz.zeroValue4,
  t5 := Tryz.underlying5,
  a5 := Tryz.isAgg5,
  z5 := Tryz.sizeOf5,
  v5 := Tryz.zeroValue5,
  t9 := Tryz.underlying9,
  a9 := Tryz.isAgg9,
  z9 := Tryz.sizeOf9,
  v9 := Tryz.zeroValue9,
  t21 := Tryz.underlying21,
  a21 := Tryz.isAgg21,
  z21 := Tryz.sizeOf21,
  v21 := Tryz.zeroValue21,
  t46 := Tryz.underlying172,
  a46 := Tryz.isAgg172,
  z46 := Tryz.sizeOf172,
  v46 := Tryz.zeroValue172,
  t105 := Tryz.underlying354,
  a105 := Tryz.isAgg354,
  z105 := Tryz.sizeOf354,
  v105 := Tryz.zeroValue354,
  t116 := Tryz.underlying335,
  a116 := Tryz.isAgg335,
  z116 := Tryz.sizeOf335,
  t117 := Tryz.underlying336,
  a117 := Tryz.isAgg336,
  z117 := Tryz.sizeOf336,
  v117 := Tryz.zeroValue336,
  t119 := Tryz.underlying364,
  a119 := Tryz.isAgg364,
  z119 := Tryz.sizeOf364,
  t124 := Tryz.underlying339,
  a124 := Tryz.isAgg339,
  z124 := Tryz.sizeOf339,
  v124 := Tryz.zeroValue339,
  t138 := Tryz.underlying366,
  a138 := Tryz.isAgg366,
  z138 := Tryz.sizeOf366,
  v138 := Tryz.zeroValue366,
  t139 := Tryz.underlying367,
  a139 := Tryz.isAgg367,
  z139 := Tryz.sizeOf367,
  v139 := Tryz.zeroValue367,
  g3 := by kernel_rfl,
  g4 := by kernel_rfl }
def Tryz.lays137_ren : Go.Shelf.Ren := ⟨fun|137 => 173|217 => 232|266 => 277|n => n, fun|9 => 9|5 => 5|3 => 3|n => n, fun|n => n⟩
theorem Tryz.lays137 : Go.Proofs.Lays.n137 Tryz.prog Tryz.lays137_ren := {
  mixed := by kernel_rfl,
  f137 := Tryz.func173.trans (congrArg some (by kernel_rfl)),
  f217 := Tryz.func232.trans (congrArg some (by kernel_rfl)),
  f266 := Tryz.func277.trans (congrArg some (by kernel_rfl)),
  t3 := Tryz.underlying3,
  a3 := Tryz.isAgg3,
  z3 := Tryz.sizeOf3,
  v3 := Tryz.zeroValue3,
  t5 := Tryz.underlying5,
  a5 := Tryz.isAgg5,
  z5 := Tryz.sizeOf5,
  v5 := Tryz.zeroValue5,
  t9 := Tryz.underlying9,
  a9 := Tryz.isAgg9,
  z9 := Tryz.sizeOf9,
  v9 := Tryz.zeroValue9 }

open Go.RowKit
namespace Lb
theorem Trim (s cutset : ByteArray) (w : World) (hs : s.size ≤ 9223372036854775807) (hcs : cutset.size < 4294967281) (hascii : ∀ (j : Nat) b, cutset.data.toList[j]? = some b → b.toNat < 128) :
    Calls Tryz.prog 276 #[.string s, .string cutset] w fun e w' => e = .returned (.string ⟨(Go.Lib.trimS s.data.toList cutset.data.toList).toArray⟩) ∧ Below w.heap.size w w' :=
  Any.strings_Trim_laid Tryz.lays160 (by kernel_rfl) s cutset w hs hcs hascii
theorem IndexByte (s : ByteArray) (c : Int) (w : World) :
    Calls Tryz.prog 173 #[.string s, .int .u8 c] w fun e w' => e = .returned (.int .i64 (Go.Lib.indexByte s.data.toList c.toNat.toUInt8)) ∧ w = w' :=
  (Any.strings_IndexByte Tryz.lays137 s c w).mono fun _ _ ⟨he, hw⟩ => ⟨he, hw.symm⟩
theorem bytes_of (w : World) (s : ByteArray) : ∃ (cap : Nat) (o : Obj), (convert 9 248 (.string s)).run Tryz.prog w = .ok (.slice (some ⟨w.heap.size, 0, none⟩) s.size cap) (w.alloc o).drew ∧
    ∀ (j : Nat) (c : UInt8), s.data.toList[j]? = some c → (w.alloc o).cell? ⟨w.heap.size, j, none⟩ = some (.int .u8 c.toNat) := by
  refine ⟨_, _, run_bytes_of_string w 9 248 5 s Tryz.underlying9 Tryz.underlying248 Tryz.underlying5, fun j c hc => ?_⟩
  have hj : j < s.data.size := by
    have := (List.getElem?_eq_some_iff.1 hc).1
    simpa using this
  have hb : (w.alloc (.cells (bytesRow s (grownCap w s.size 0 5)) 5 ((bytesRow s (grownCap w s.size 0 5)).size, (bytesRow s (grownCap w s.size 0 5)).size + 1))).heap[w.heap.size]? = some (.cells (bytesRow s (grownCap w s.size 0 5)) 5 ((bytesRow s (grownCap w s.size 0 5)).size, (bytesRow s (grownCap w s.size 0 5)).size + 1)) := heap_alloc_new w _
  rw [cell_of_row _ _ _ _ _ _ hb]
  unfold bytesRow
  rw [Array.getElem?_append_left (by simpa using hj), Array.getElem?_map]
  have : s.data[j]? = some c := by rw [← Array.getElem?_toList];exact hc
  rw [this];rfl
end Lb
end Go.Proofs.YtcfmchpoclkpgaaGreatDoor
namespace Go.Proofs.YtcfmchpoclkpgaaGreatDoor
open Go.RowKit
namespace Pl

theorem toInt_ofInt64 (a : Int) (h0 : -9223372036854775808 ≤ a) (h1 : a ≤ 9223372036854775807) : (BitVec.ofInt 64 a).toInt = a := by
  rw [BitVec.toInt_ofInt, Int.bmod_def];omega
theorem wrap_toNat (x : BitVec 64) : IntKind.i64.wrap (x.toNat : Int) = x.toInt := by
  rw [IntKind.wrap_i64, BitVec.toInt_eq_toNat_cond]
  have := x.isLt
  split <;> omega
theorem bits_xor_eq (a b : Int) : bits .xor .i64 a b = (BitVec.ofInt 64 a ^^^ BitVec.ofInt 64 b).toInt := by
  rw [← wrap_toNat];rfl
theorem xor_neg (a b : Int) (h0 : -9223372036854775808 ≤ a) (h1 : a ≤ 9223372036854775807) (h2 : -9223372036854775808 ≤ b) (h3 : b ≤ 9223372036854775807) :
    (bits .xor .i64 a b < 0) ↔ ((a < 0 ∧ 0 ≤ b) ∨ (0 ≤ a ∧ b < 0)) := by
  have e := bits_xor_eq a b
  have m := BitVec.msb_eq_toInt (x := BitVec.ofInt 64 a ^^^ BitVec.ofInt 64 b)
  have ma := BitVec.msb_eq_toInt (x := BitVec.ofInt 64 a)
  have mb := BitVec.msb_eq_toInt (x := BitVec.ofInt 64 b)
  rw [BitVec.msb_xor, ma, mb, toInt_ofInt64 a h0 h1, toInt_ofInt64 b h2 h3] at m
  rw [e]
  generalize (BitVec.ofInt 64 a ^^^ BitVec.ofInt 64 b).toInt = x at m
  by_cases ha : a < 0 <;> by_cases hb : b < 0 <;> simp only [ha, hb, decide_true, decide_false, bne_self_eq_false, Bool.bne_true, Bool.bne_false, Bool.not_false] at m
  · have : ¬ x < 0 := of_decide_eq_false m.symm
    omega
  · have : x < 0 := of_decide_eq_true (by simpa using m.symm)
    omega
  · have : x < 0 := of_decide_eq_true (by simpa using m.symm)
    omega
  · have : ¬ x < 0 := of_decide_eq_false m.symm
    omega
theorem and_mask (k : Nat) (a : Int) (hk : k < 63) :
    bits .and .i64 a ((2 ^ k - 1 : Nat) : Int) = a % ((2 ^ k : Nat) : Int) := by
  have hp : 2 ^ k < 2 ^ 63 := Nat.pow_lt_pow_right (by omega) hk
  have hp1 : 0 < 2 ^ k := Nat.two_pow_pos k
  show IntKind.i64.wrap ((BitVec.ofInt 64 a &&& BitVec.ofInt 64 ((2 ^ k - 1 : Nat) : Int)).toNat : Int) = _
  rw [BitVec.toNat_and, BitVec.ofInt_natCast, BitVec.toNat_ofNat]
  have e1 : (2 ^ k - 1) % 2 ^ 64 = 2 ^ k - 1 := Nat.mod_eq_of_lt (by omega)
  rw [e1, Nat.and_two_pow_sub_one_eq_mod]
  have e2 : ((BitVec.ofInt 64 a).toNat : Int) = a % 18446744073709551616 := by
    rw [BitVec.toNat_ofInt]
    have : (0 : Int) ≤ a % ((2 ^ 64 : Nat) : Int) := Int.emod_nonneg _ (by decide)
    omega
  have hdvd : ((2 ^ k : Nat) : Int) ∣ 18446744073709551616 := by
    refine ⟨((2 ^ (64 - k) : Nat) : Int), ?_⟩
    rw [← Int.natCast_mul, ← Nat.pow_add, show k + (64 - k) = 64 by omega];rfl
  have e3 : (((BitVec.ofInt 64 a).toNat % 2 ^ k : Nat) : Int) = a % ((2 ^ k : Nat) : Int) := by
    rw [Int.natCast_emod, e2, Int.emod_emod_of_dvd _ hdvd]
  rw [e3, IntKind.wrap_i64]
  have h4 := Int.emod_nonneg a (show ((2 ^ k : Nat) : Int) ≠ 0 by omega)
  have h5 := Int.emod_lt_of_pos a (show (0 : Int) < ((2 ^ k : Nat) : Int) by omega)
  omega
theorem and3 (a : Int) : bits .and .i64 a 3 = a % 4 := and_mask 2 a (by omega)
theorem and15 (a : Int) : bits .and .i64 a 15 = a % 16 := and_mask 4 a (by omega)
theorem tdiv_neg' (a b : Int) (h : a < 0) (hb : 0 < b) (hr : a % b ≠ 0) : a.tdiv b = a / b + 1 := by
  rw [Int.tdiv_eq_ediv, if_neg, Int.sign_eq_one_of_pos hb]
  rintro (h'|h')
  · omega
  · exact hr (Int.emod_eq_zero_of_dvd h')
theorem tmod_neg' (a b : Int) (h : a < 0) (hb : 0 < b) (hr : a % b ≠ 0) : a.tmod b = a % b - b := by
  rw [Int.tmod_eq_emod, if_neg]
  · omega
  rintro (h'|h')
  · omega
  · exact hr (Int.emod_eq_zero_of_dvd h')
theorem tdiv_ex (a b : Int) (hr : a % b = 0) : a.tdiv b = a / b := by
  rw [Int.tdiv_eq_ediv, if_pos (Or.inr (Int.dvd_of_emod_eq_zero hr))];omega
theorem tmod_ex (a b : Int) (hr : a % b = 0) : a.tmod b = 0 := by
  rw [Int.tmod_eq_emod, if_pos (Or.inr (Int.dvd_of_emod_eq_zero hr))];omega

end Pl
end Go.Proofs.YtcfmchpoclkpgaaGreatDoor
