import Derived.WalkKit
import Derived.WalkSpells
import Derived.WalkLawsBesides
import Derived.BigQuiet
import Derived.Deep.Quiet
import Derived.Deep.QuietTactic
import Derived.StillTail
import Derived.Lib.Hide
import Derived.Deep.DeepFit
import Derived.Shelf.Strings.SlTrimAscii
import Derived.Shelf.Small.Strs
import Derived.Test.YtecmipgpldcfcaaGreatDoorProg
namespace Go.Proofs.YtecmipgpldcfcaaGreatDoor
open Go.RowKit
namespace NB

structure Later (B : Nat) (w : World) where
  u : World
  h : Below B w u

instance later_nonempty (B : Nat) (w : World) : Nonempty (Later B w) := ⟨⟨w, Below.refl _ _⟩⟩

theorem Later.cell {B : Nat} {w : World} (x : Later B w) (b o : Nat) (h : b < B) : x.u.cell? ⟨b, o, none⟩ = w.cell? ⟨b, o, none⟩ := x.h.cell (p := ⟨b, o, none⟩) h
theorem Later.frozen {B : Nat} {w : World} (x : Later B w) (b o : Nat) (h : b < B) : x.u.frozen? ⟨b, o, none⟩ = w.frozen? ⟨b, o, none⟩ := x.h.frozen (p := ⟨b, o, none⟩) h

attribute [go_sem] Later.cell Later.frozen

theorem region_later {P : Program} {id : Nat} {Q : Exit → Act → World → Prop} {a : Act} {w : World} {l : List Oper} (hm : P.follows .mixedOrders = true) (hB : Region.lexB .any l.toArray = true)
    (h : wpQuiet P l.toArray (fun w' => ∃ x : Later w.heap.size w, w' = x.u) (fun a' => ∀ w', (∃ x : Later w.heap.size w, w' = x.u) → Q .normal a' w') l a) : (Code.region id l.toArray true).wp P Q a w :=
  wp_region_quiet (C := fun w' => ∃ x : Later w.heap.size w, w' = x.u) hm hB ⟨⟨w.drew, (Below.refl _ _).drew⟩, rfl⟩ (by simpa using h)

theorem calls_later {P : Program} {f : FuncId} {args : Array Value} {B : Nat} {w : World} (x : Later B w) (hB : B ≤ w.heap.size) {v : Value}
    (h : Calls P f args x.u fun e w' => e = .returned v ∧ Below x.u.heap.size x.u w') : Calls P f args x.u fun e w'' => e = .returned v ∧ ∃ y : Later B w, w'' = y.u :=
  h.mono fun _ w'' ⟨he, hb⟩ => ⟨he, ⟨w'', x.h.trans (hb.mono (Nat.le_trans hB x.h.size))⟩, rfl⟩

theorem below_of_same {P : Program} {f : FuncId} {args : Array Value} {w : World} {v : Value} (h : Calls P f args w fun e w' => e = .returned v ∧ w = w') :
    Calls P f args w fun e w' => e = .returned v ∧ Below w.heap.size w w' :=
  h.mono fun _ _ ⟨he, hw⟩ => ⟨he, hw ▸ Below.refl _ _⟩

theorem quiet_left {P : Program} {f : FuncId} {args : Array Value} {w : World} {n : Nat} {v : Value}
    (h : Calls P f args (w.drewN n) fun e w' => e = .returned v ∧ w.drewN n = w') : Calls P f args (w.drewN n) fun e w'' => e = .returned v ∧ ∃ m, w'' = w.drewN m :=
  h.mono fun _ _ ⟨he, hm⟩ => ⟨he, n, hm.symm⟩
theorem below_drewN {B : Nat} {a w : World} (h : Below B a w) (n : Nat) : Below B a (w.drewN n) := ⟨h.os, h.tape, h.output, h.size, h.block⟩
theorem sz1 {B : Nat} {a b : World} {o : Obj} (h : Below B (a.alloc o) b) : a.heap.size < b.heap.size := by
  have := h.size;simp only [World.size_alloc] at this;omega
theorem sz2 {B : Nat} {a b : World} {o p : Obj} (h : Below B ((a.alloc o).alloc p) b) : a.heap.size + 1 < b.heap.size := by
  have := h.size;simp only [World.size_alloc] at this;omega
theorem sz3 {B : Nat} {a b : World} {o p q : Obj} (h : Below B (((a.alloc o).alloc p).alloc q) b) : a.heap.size + 2 < b.heap.size := by
  have := h.size;simp only [World.size_alloc] at this;omega
theorem ret_bool {a b : Bool} (h : a = b) : Ending.returned (.bool a) = .returned (.bool b) := by rw [h]
theorem ret_int {k : IntKind} {a b : Int} (h : a = b) : Ending.returned (.int k a) = .returned (.int k b) := by rw [h]
theorem ret_ii {a b a' b' : Int} (h : a = a') (h2 : b = b') : Ending.returned (.tuple #[.int .i64 a, .int .i64 b]) = .returned (.tuple #[.int .i64 a', .int .i64 b']) := by rw [h, h2]
theorem bcell {B : Nat} {W w1 : World} (hb : Below B W w1) : (∀ b o, b < B → w1.cell? ⟨b, o, none⟩ = W.cell? ⟨b, o, none⟩) ∧ (∀ b o, b < B → w1.frozen? ⟨b, o, none⟩ = W.frozen? ⟨b, o, none⟩) :=
  ⟨fun b o h => hb.cell (p := ⟨b, o, none⟩) h, fun b o h => hb.frozen (p := ⟨b, o, none⟩) h⟩

end NB
end Go.Proofs.YtecmipgpldcfcaaGreatDoor
namespace Go.Proofs.YtecmipgpldcfcaaGreatDoor
open Go.Shelf
def Tryz.lays160_ren : Go.Shelf.Ren := ⟨fun|160 => 179|232 => 210|231 => 209|227 => 211|234 => 213|233 => 212|236 => 215|235 => 214|228 => 241|271 => 244|151 => 243|197 => 242|120 => 260|152 => 259|260 => 258|137 => 87|119 => 265|224 => 239|225 => 238|217 => 137|266 => 181|n => n, fun|9 => 9|4 => 4|3 => 3|5 => 5|117 => 231|116 => 230|0 => 0|124 => 234|21 => 21|105 => 259|46 => 97|119 => 272|139 => 275|138 => 274|n => n, fun|3 => 2|4 => 3|n => n⟩
theorem Tryz.lays160 : Go.Proofs.Lays.n160 Tryz.prog Tryz.lays160_ren := {
  mixed := by kernel_rfl,
  f119 := Tryz.func265.trans (congrArg some (by kernel_rfl)),
  f120 := Tryz.func260.trans (congrArg some (by kernel_rfl)),
  f137 := Tryz.func87.trans (congrArg some (by kernel_rfl)),
  f151 := Tryz.func243.trans (congrArg some (by kernel_rfl)),
  f152 := Tryz.func259.trans (congrArg some (by kernel_rfl)),
  f160 := Tryz.func179.trans (congrArg some (by kernel_rfl)),
  f197 := Tryz.func242.trans (congrArg some (by kernel_rfl)),
  f217 := Tryz.func137.trans (congrArg some (by kernel_rfl)),
  f224 := Tryz.func239.trans (congrArg some (by kernel_rfl)),
  f225 := Tryz.func238.trans (congrArg some (by kernel_rfl)),
  f227 := Tryz.func211.trans (congrArg some (by kernel_rfl)),
  f228 := Tryz.func241.trans (congrArg some (by kernel_rfl)),
  f231 := Tryz.func209.trans (congrArg some (by kernel_rfl)),
  f232 := Tryz.func210.trans (congrArg some (by kernel_rfl)),
  f233 := Tryz.func212.trans (congrArg some (by kernel_rfl)),
  f234 := Tryz.func213.trans (congrArg some (by kernel_rfl)),
  f235 := Tryz.func214.trans (congrArg some (by kernel_rfl)),
  f236 := Tryz.func215.trans (congrArg some (by kernel_rfl)),
  f260 := Tryz.func258.trans (congrArg some (by kernel_rfl)),
  f266 := Tryz.func181.trans (congrArg some (by kernel_rfl)),
  f271 := Tryz.func244.trans (congrArg some (by kernel_rfl)),
  t0 := Tryz.underlying0,
  a0 := Tryz.isAgg0,
  z0 := Tryz.sizeOf0,
  v0 := Tryz.zeroValue0,
  t3 := Tryz.underlying3,
  a3 := Tryz.isAgg3,
  z3 := Tryz.sizeOf3,
  v3 := Tryz.zeroValue3,
  t4 := Tryz.underlying4,
  a4 := Tryz.isAgg4,
  z4 := Tryz.sizeOf4,
  v4 := Tryz.zeroValue4,
  t5 := Tryz.underlying5,
  a5 := Tryz.isAgg5,
  z5 := Tryz.sizeOf5,
  v5 := Tryz.zeroValue5,
  t9 := Tryz.underlying9,
  a9 := Tryz.isAgg9,
  z9 := Tryz.sizeOf9,
  v9 := Tryz.zeroValue9,
  t21 := Tryz.underlying21,
  a21 := Tryz.isAgg21,
  z21 := Tryz.sizeOf21,
  v21 := Tryz.zeroValue21,
  t46 := Tryz.underlying97,
  a46 := Tryz.isAgg97,
  z46 := Tryz.sizeOf97,
  v46 := Tryz.zeroValue97,
  t105 := Tryz.underlying259,
  a105 := Tryz.isAgg259,
  z105 := Tryz.sizeOf259,
  v105 := Tryz.zeroValue259,
  t116 := Tryz.underlying230,
  a116 := Tryz.isAgg230,
  z116 := Tryz.sizeOf230,
  t117 := Tryz.underlying231,
  a117 := Tryz.isAgg231,
  z117 := Tryz.sizeOf231,
  v117 := Tryz.zeroValue231,
  t119 := Tryz.underlying272,
  a119 := Tryz.isAgg272,
  z119 := Tryz.sizeOf272,
  t124 := Tryz.underlying234,
  a124 := Tryz.isAgg234,
  z124 := Tryz.sizeOf234,
  v124 := Tryz.zeroValue234,
  t138 := Tryz.underlying274,
  a138 := Tryz.isAgg274,
  z138 := Tryz.sizeOf274,
  v138 := Tryz.zeroValue274,
  t139 := Tryz.underlying275,
  a139 := Tryz.isAgg275,
  z139 := Tryz.sizeOf275,
  v139 := Tryz.zeroValue275,
  g3 := by kernel_rfl,
  g4 := by kernel_rfl }
def Tryz.lays137_ren : Go.Shelf.Ren := ⟨fun|137 => 87|217 => 137|266 => 181|n => n, fun|9 => 9|5 => 5|3 => 3|n => n, fun|n => n⟩
theorem Tryz.lays137 : Go.Proofs.Lays.n137 Tryz.prog Tryz.lays137_ren := {
  mixed := by kernel_rfl,
  f137 := Tryz.func87.trans (congrArg some (by kernel_rfl)),
  f217 := Tryz.func137.trans (congrArg some (by kernel_rfl)),
  f266 := Tryz.func181.trans (congrArg some (by kernel_rfl)),
  t3 := Tryz.underlying3,
  a3 := Tryz.isAgg3,
  z3 := Tryz.sizeOf3,
  v3 := Tryz.zeroValue3,
  t5 := Tryz.underlying5,
  a5 := Tryz.isAgg5,
  z5 := Tryz.sizeOf5,
  v5 := Tryz.zeroValue5,
  t9 := Tryz.underlying9,
  a9 := Tryz.isAgg9,
  z9 := Tryz.sizeOf9,
  v9 := Tryz.zeroValue9 }

open Go.RowKit
namespace Lb
theorem Trim (s cutset : ByteArray) (w : World) (hs : s.size ≤ 9223372036854775807) (hcs : cutset.size < 4294967281) (hascii : ∀ (j : Nat) b, cutset.data.toList[j]? = some b → b.toNat < 128) :
    Calls Tryz.prog 179 #[.string s, .string cutset] w fun e w' => e = .returned (.string ⟨(Go.Lib.trimS s.data.toList cutset.data.toList).toArray⟩) ∧ Below w.heap.size w w' :=
  Any.strings_Trim_laid Tryz.lays160 (by kernel_rfl) s cutset w hs hcs hascii
theorem IndexByte (s : ByteArray) (c : Int) (w : World) :
    Calls Tryz.prog 87 #[.string s, .int .u8 c] w fun e w' => e = .returned (.int .i64 (Go.Lib.indexByte s.data.toList c.toNat.toUInt8)) ∧ w = w' :=
  (Any.strings_IndexByte Tryz.lays137 s c w).mono fun _ _ ⟨he, hw⟩ => ⟨he, hw.symm⟩
theorem bytes_of (w : World) (s : ByteArray) : ∃ (cap : Nat) (o : Obj), (convert 9 138 (.string s)).run Tryz.prog w = .ok (.slice (some ⟨w.heap.size, 0, none⟩) s.size cap) (w.alloc o).drew ∧
    ∀ (j : Nat) (c : UInt8), s.data.toList[j]? = some c → (w.alloc o).cell? ⟨w.heap.size, j, none⟩ = some (.int .u8 c.toNat) := by
  refine ⟨_, _, run_bytes_of_string w 9 138 5 s Tryz.underlying9 Tryz.underlying138 Tryz.underlying5, fun j c hc => ?_⟩
  have hj : j < s.data.size := by
    have := (List.getElem?_eq_some_iff.1 hc).1
    simpa using this
  have hb : (w.alloc (.cells (bytesRow s (grownCap w s.size 0 5)) 5 ((bytesRow s (grownCap w s.size 0 5)).size, (bytesRow s (grownCap w s.size 0 5)).size + 1))).heap[w.heap.size]? = some (.cells (bytesRow s (grownCap w s.size 0 5)) 5 ((bytesRow s (grownCap w s.size 0 5)).size, (bytesRow s (grownCap w s.size 0 5)).size + 1)) := heap_alloc_new w _
  rw [cell_of_row _ _ _ _ _ _ hb]
  unfold bytesRow
  rw [Array.getElem?_append_left (by simpa using hj), Array.getElem?_map]
  have : s.data[j]? = some c := by rw [← Array.getElem?_toList];exact hc
  rw [this];rfl
end Lb
end Go.Proofs.YtecmipgpldcfcaaGreatDoor
namespace Go.Proofs.YtecmipgpldcfcaaGreatDoor
open Go.RowKit
namespace Pl

theorem toInt_ofInt64 (a : Int) (h0 : -9223372036854775808 ≤ a) (h1 : a ≤ 9223372036854775807) : (BitVec.ofInt 64 a).toInt = a := by
  rw [BitVec.toInt_ofInt, Int.bmod_def];omega
theorem wrap_toNat (x : BitVec 64) : IntKind.i64.wrap (x.toNat : Int) = x.toInt := by
  rw [IntKind.wrap_i64, BitVec.toInt_eq_toNat_cond]
  have := x.isLt
  split <;> omega
theorem bits_xor_eq (a b : Int) : bits .xor .i64 a b = (BitVec.ofInt 64 a ^^^ BitVec.ofInt 64 b).toInt := by
  rw [← wrap_toNat];rfl
theorem xor_neg (a b : Int) (h0 : -9223372036854775808 ≤ a) (h1 : a ≤ 9223372036854775807) (h2 : -9223372036854775808 ≤ b) (h3 : b ≤ 9223372036854775807) :
    (bits .xor .i64 a b < 0) ↔ ((a < 0 ∧ 0 ≤ b) ∨ (0 ≤ a ∧ b < 0)) := by
  have e := bits_xor_eq a b
  have m := BitVec.msb_eq_toInt (x := BitVec.ofInt 64 a ^^^ BitVec.ofInt 64 b)
  have ma := BitVec.msb_eq_toInt (x := BitVec.ofInt 64 a)
  have mb := BitVec.msb_eq_toInt (x := BitVec.ofInt 64 b)
  rw [BitVec.msb_xor, ma, mb, toInt_ofInt64 a h0 h1, toInt_ofInt64 b h2 h3] at m
  rw [e]
  generalize (BitVec.ofInt 64 a ^^^ BitVec.ofInt 64 b).toInt = x at m
  by_cases ha : a < 0 <;> by_cases hb : b < 0 <;> simp only [ha, hb, decide_true, decide_false, bne_self_eq_false, Bool.bne_true, Bool.bne_false, Bool.not_false] at m
  · have : ¬ x < 0 := of_decide_eq_false m.symm
    omega
  · have : x < 0 := of_decide_eq_true (by simpa using m.symm)
    omega
  · have : x < 0 := of_decide_eq_true (by simpa using m.symm)
    omega
  · have : ¬ x < 0 := of_decide_eq_false m.symm
    omega
theorem and_mask (k : Nat) (a : Int) (hk : k < 63) :
    bits .and .i64 a ((2 ^ k - 1 : Nat) : Int) = a % ((2 ^ k : Nat) : Int) := by
  have hp : 2 ^ k < 2 ^ 63 := Nat.pow_lt_pow_right (by omega) hk
  have hp1 : 0 < 2 ^ k := Nat.two_pow_pos k
  show IntKind.i64.wrap ((BitVec.ofInt 64 a &&& BitVec.ofInt 64 ((2 ^ k - 1 : Nat) : Int)).toNat : Int) = _
  rw [BitVec.toNat_and, BitVec.ofInt_natCast, BitVec.toNat_ofNat]
  have e1 : (2 ^ k - 1) % 2 ^ 64 = 2 ^ k - 1 := Nat.mod_eq_of_lt (by omega)
  rw [e1, Nat.and_two_pow_sub_one_eq_mod]
  have e2 : ((BitVec.ofInt 64 a).toNat : Int) = a % 18446744073709551616 := by
    rw [BitVec.toNat_ofInt]
    have : (0 : Int) ≤ a % ((2 ^ 64 : Nat) : Int) := Int.emod_nonneg _ (by decide)
    omega
  have hdvd : ((2 ^ k : Nat) : Int) ∣ 18446744073709551616 := by
    refine ⟨((2 ^ (64 - k) : Nat) : Int), ?_⟩
    rw [← Int.natCast_mul, ← Nat.pow_add, show k + (64 - k) = 64 by omega];rfl
  have e3 : (((BitVec.ofInt 64 a).toNat % 2 ^ k : Nat) : Int) = a % ((2 ^ k : Nat) : Int) := by
    rw [Int.natCast_emod, e2, Int.emod_emod_of_dvd _ hdvd]
  rw [e3, IntKind.wrap_i64]
  have h4 := Int.emod_nonneg a (show ((2 ^ k : Nat) : Int) ≠ 0 by omega)
  have h5 := Int.emod_lt_of_pos a (show (0 : Int) < ((2 ^ k : Nat) : Int) by omega)
  omega
theorem and3 (a : Int) : bits .and .i64 a 3 = a % 4 := and_mask 2 a (by omega)
theorem and15 (a : Int) : bits .and .i64 a 15 = a % 16 := and_mask 4 a (by omega)
theorem tdiv_neg' (a b : Int) (h : a < 0) (hb : 0 < b) (hr : a % b ≠ 0) : a.tdiv b = a / b + 1 := by
  rw [Int.tdiv_eq_ediv, if_neg, Int.sign_eq_one_of_pos hb]
  rintro (h'|h')
  · omega
  · exact hr (Int.emod_eq_zero_of_dvd h')
theorem tmod_neg' (a b : Int) (h : a < 0) (hb : 0 < b) (hr : a % b ≠ 0) : a.tmod b = a % b - b := by
  rw [Int.tmod_eq_emod, if_neg]
  · omega
  rintro (h'|h')
  · omega
  · exact hr (Int.emod_eq_zero_of_dvd h')
theorem tdiv_ex (a b : Int) (hr : a % b = 0) : a.tdiv b = a / b := by
  rw [Int.tdiv_eq_ediv, if_pos (Or.inr (Int.dvd_of_emod_eq_zero hr))];omega
theorem tmod_ex (a b : Int) (hr : a % b = 0) : a.tmod b = 0 := by
  rw [Int.tmod_eq_emod, if_pos (Or.inr (Int.dvd_of_emod_eq_zero hr))];omega

end Pl
end Go.Proofs.YtecmipgpldcfcaaGreatDoor
namespace Go.Proofs.YtecmipgpldcfcaaGreatDoor
open Go.RowKit NB
namespace Txt
theorem info_u8 : (Tryz.prog.info? 5).map (fun i => (i.zero, i.size, i.bytes)) = some (some (.int .u8 0), 1, 1) := by kernel_rfl
def farI (n : Int) : Int := if n < 0 then -n else n
theorem far (n : Int) (h0 : -9223372036854775808 ≤ n) (h1 : n ≤ 9223372036854775807) (w : World) : Calls Tryz.prog 219 #[.int .i64 n] w fun e w' => e = .returned (.int .u64 (farI n)) ∧ w = w' := by
  unfold farI
  by_cases h : n < 0
  · rw [if_pos h]
    go_enter Tryz.func219, Tryz.ntmps219
    go_wp2
    go_ret
    refine ⟨ret_int ?_, rfl⟩
    rw [IntKind.wrap_u64, IntKind.wrap_u64];omega
  · rw [if_neg h]
    go_enter Tryz.func219, Tryz.ntmps219
    go_wp2
    go_ret
    exact ⟨rfl, rfl⟩
def SomeStr (w : World) (e : Ending) (w' : World) : Prop := ∃ r : ByteArray, e = .returned (.string r) ∧ Below w.heap.size w w'
def Fitp (p n : Nat) : Prop := p * 10 ^ n ≤ 10 ^ 22
theorem Fitp.start {p m : Nat} (h : p ≤ 9223372036854775808) (hm : m ≤ 1) : Fitp p m := by
  unfold Fitp
  have h1 : 10 ^ m ≤ 10 ^ 1 := Nat.pow_le_pow_right (by omega) hm
  exact Nat.le_trans (Nat.mul_le_mul h h1) (by decide)
theorem Fitp.len {p n : Nat} (h : Fitp p n) (hp : 1 ≤ p) : n ≤ 22 := by
  unfold Fitp at h
  have h2 : 10 ^ n ≤ 10 ^ 22 := Nat.le_trans (Nat.le_mul_of_pos_left _ hp) h
  exact (Nat.pow_le_pow_iff_right (by omega)).1 h2
theorem Fitp.next {p n : Nat} (h : Fitp p n) : Fitp (p / 10) (n + 1) := by
  unfold Fitp at *
  rw [Nat.pow_succ]
  have h1 : p / 10 * 10 ≤ p := Nat.div_mul_le_self p 10
  calc p / 10 * (10 ^ n * 10) = (p / 10 * 10) * 10 ^ n := by rw [Nat.mul_comm (10 ^ n) 10, Nat.mul_assoc]
    _ ≤ p * 10 ^ n := Nat.mul_le_mul_right _ h1
    _ ≤ 10 ^ 22 := h
def Bytes (xs : List Value) : Prop := ∀ x ∈ xs, ∃ c : UInt8, x = .int .u8 (c.toNat : Int)
theorem Bytes.list : ∀ {xs : List Value}, Bytes xs → ∃ l : List UInt8, xs = l.map fun c => Value.int .u8 (c.toNat : Int)
  | [], _ => ⟨[], rfl⟩
  | x :: xs, h => by
    obtain ⟨c, rfl⟩ := h x (by simp)
    obtain ⟨l, rfl⟩ := Bytes.list (xs := xs) (fun y hy => h y (by simp [hy]))
    exact ⟨c :: l, rfl⟩
theorem Bytes.snoc {xs : List Value} (h : Bytes xs) (d : Int) (h0 : 0 ≤ d) (h1 : d ≤ 255) : Bytes (xs ++ [.int .u8 d]) := by
  intro x hx
  rcases List.mem_append.1 hx with hx|hx
  · exact h x hx
  · simp only [List.mem_singleton] at hx
    subst hx
    refine ⟨UInt8.ofNat d.toNat, ?_⟩
    rw [UInt8.toNat_ofNat_of_lt' (by show d.toNat < 256;omega)]
    congr 1;omega
theorem str_of_own {w : World} {B m : Nat} {v : Value} {xs : List Value} (h : w.ownsRow B 5 1 v m xs) (hb : Bytes xs) :
    ∃ r, (convert 138 9 v).run Tryz.prog w = .ok (.string r) w := by
  obtain ⟨l, rfl⟩ := hb.list
  have hlen := h.1
  simp only [List.length_map, Nat.mul_one] at hlen
  rcases h.2 with ⟨hv, _⟩|⟨g, cap, cur, hv, hg, hh, hle, hcap, hcs, htk⟩
  · subst hv
    exact ⟨⟨#[]⟩, by kernel_rfl⟩
  · subst hv
    subst hlen
    refine ⟨_, run_convert_bytes_back w 138 9 5 ⟨g, 0, none⟩ cap l Tryz.underlying138 Tryz.underlying5 Tryz.underlying9 (fun j hj => ?_)⟩
    have := h.cells (g := g) rfl j (.int .u8 (l[j].toNat : Int)) (by rw [List.getElem?_map, List.getElem?_eq_getElem hj];rfl)
    exact this

set_option maxHeartbeats 1600000 in
set_option maxRecDepth 100000 in
theorem Text (n : Int) (h0 : -9223372036854775808 ≤ n) (h1 : n ≤ 9223372036854775807) (w : World) : Calls Tryz.prog 189 #[.int .i64 n] w (SomeStr w) := by
  obtain ⟨i0, hi, hz0, hz1, hz2⟩ := info_parts info_u8
  obtain ⟨u, hu⟩ := Int.eq_ofNat_of_zero_le (a := farI n) (by unfold farI;split <;> omega)
  have hu2 : (u : Int) ≤ 9223372036854775808 := by rw [← hu];unfold farI;split <;> omega
  have hu3 : u ≤ 9223372036854775808 := by omega
  have HU := Lib.hid hu;clear hu
  by_cases hneg : n < 0
  all_goals
    go_enter Tryz.func189, Tryz.ntmps189
    go_wp2_with (first
      | (at_make;refine wpList_make_own _ rfl _ _ 138 rfl w.heap.size 5 i0 (.int .u8 0) 1 Tryz.underlying138 hi hz0 hz1 _ _ _ 20 rfl rfl rfl (by rw [hz2];decide) (by decide) (Nat.le_refl _) ?_;intro w1 hown hg1)
      | (at_builtin;refine wpList_append_own _ rfl _ _ 138 rfl w.heap.size 5 i0 (.int .u8 0) 1 1 Tryz.underlying138 hi hz0 hz1 hz2 rfl (by decide) _ _ _ rfl (hown.alloc _) ⟨w1.heap.size, 0, none⟩ 1 1 [.int .u8 45] rfl rfl (cell_one_new _ _ _) (by intro u hu;simp at hu;subst hu;rfl) (by decide) (by decide) (by have := hg1.size;simp;omega) ?_;intro v2 w2 hown2 hg2 _)
      | (go_at_call 219;refine (far _ (by omega) (by omega) _).mono ?_;rw [HU.out];rintro e w' ⟨rfl, rfl⟩))
    go_loop [5] (fun x => ∃ p : Nat, x = .int .u64 p ∧ 1 ≤ p ∧ (p = 1 ∨ p ≤ u)) (fun x => u + 1 - (intOf x).toNat)
    case atStart => exact ⟨1, rfl, by omega, .inl rfl⟩
    case round =>
      obtain ⟨p, rfl, hp1, hpu⟩ := hrel
      have hq0 : (0 : Int) ≤ (u : Int) / (p : Int) := Int.ediv_nonneg (by omega) (by omega)
      have hq1 : (u : Int) / (p : Int) ≤ u := Int.ediv_le_self _ (by omega)
      have hp18 : (p : Int) ≤ 9223372036854775808 := by omega
      have hpz : ((p : Int) == 0) = false := by simp;omega
      by_cases hge : 10 ≤ u / p
      · have hge' : (10 : Int) ≤ (u : Int) / (p : Int) := by exact_mod_cast hge
        have hmul : 10 * p ≤ u := by
          have := (Nat.le_div_iff_mul_le (show 0 < p by omega)).1 hge
          exact this
        go_wp2
        go_round
        case rel => exact ⟨p * 10, by go_num, by omega, by omega⟩
        case measure => simp [intOf];omega
      · have hlt' : (u : Int) / (p : Int) < 10 := by
          have : u / p < 10 := by omega
          exact_mod_cast this
        go_wp2
        go_loopw [3, 5] (fun b x wr => ∃ (q m : Nat) (xs : List Value), x = .int .u64 q ∧ q ≤ 9223372036854775808 ∧ wr.ownsRow w.heap.size 5 1 b m xs ∧ Bytes xs ∧ Fitp q m ∧ Below w.heap.size w wr) (fun _ x _ => (intOf x).toNat)
        case atStart =>
          first
            | exact ⟨p, 0 + 1, _, rfl, by omega, hown2, by intro x hx;simp at hx;exact ⟨45, hx⟩, Fitp.start (by omega) (by omega), (((Below.refl _ _).grown hg1 (Nat.le_refl _) (fun _ h => by cases h)).alloc hg1.size _).grown hg2 (by have := hg1.size;simp;omega) (fun k hk => (hown.lt k hk).1)⟩
            | exact ⟨p, 0, _, rfl, by omega, hown, by intro x hx;simp at hx, Fitp.start (by omega) (by omega), (Below.refl _ _).grown hg1 (Nat.le_refl _) (fun _ h => by cases h)⟩
        case round =>
          obtain ⟨q, m, xs, rfl, hq, hO, hX, hF, hBl⟩ := hrel
          have hBs := hBl.size
          by_cases hz : q = 0
          · subst hz
            obtain ⟨r, hr⟩ := str_of_own hO hX
            clear hO hX
            go_wp2
            go_ret
            exact ⟨r, rfl, hBl⟩
          · have hq1' : 0 < q := by omega
            have hm := hF.len hq1'
            have a0 : (0 : Int) ≤ (u : Int) / (q : Int) := Int.ediv_nonneg (by omega) (by omega)
            have a1 : (u : Int) / (q : Int) ≤ u := Int.ediv_le_self _ (by omega)
            have b0 : 0 ≤ (u : Int) / (q : Int) % 10 := by omega
            have b1 : (u : Int) / (q : Int) % 10 ≤ 9 := by omega
            have hqz : ((q : Int) == 0) = false := by simp;omega
            have HX := Lib.hid (hX.snoc (48 + (u : Int) / (q : Int) % 10) (by omega) (by omega))
            have HF := Lib.hid hF.next
            clear hX hF
            go_wp2_with (at_builtin;refine wpList_append_own _ rfl _ _ 138 rfl w.heap.size 5 i0 (.int .u8 0) 1 1 Tryz.underlying138 hi hz0 hz1 hz2 rfl (by decide) _ _ _ rfl (hO.alloc _) ⟨wr.heap.size, 0, none⟩ 1 1 [.int .u8 (48 + (u : Int) / (q : Int) % 10)] rfl rfl (cell_one_new _ _ _) (by intro u hu;simp at hu;subst hu;rfl) (by unfold maxLen;omega) (by omega) (by simp;omega) ?_;intro v3 w3 hown3 hg3 _)
            go_roundw
            case rel => exact ⟨q / 10, m + 1, _, by go_num, by omega, hown3, HX.out, HF.out, (hBl.alloc hBl.size _).grown hg3 (by simp;omega) (fun k hk => (hO.lt k hk).1)⟩
            case measure => simp [intOf];omega
end Txt
end Go.Proofs.YtecmipgpldcfcaaGreatDoor
namespace Go.Proofs.YtecmipgpldcfcaaGreatDoor
open Go.RowKit NB
namespace Nam
def okFirst (c : UInt8) : Bool := (decide (97 ≤ (c ||| 32).toNat) && decide ((c ||| 32).toNat ≤ 122)) || c == 95
def okOther (c : UInt8) : Bool := (decide (48 ≤ c.toNat) && decide (c.toNat ≤ 57)) || decide (0 ≤ Go.Lib.indexByte [45, 43, 47, 46] c)
def okAt (l : List UInt8) (j : Nat) : Bool := match l[j]? with
  | none => true
  | some c => okFirst c || (decide (0 < j) && okOther c)
def okAll (l : List UInt8) : Bool := (List.range l.length).all (okAt l)
def nameR (s : ByteArray) : Int := if okAll s.data.toList then (if s.data.toList = [] then 10 else 0) else 10
def nameE (s : ByteArray) : Int := if 64 < s.size then 9 else nameR s
theorem or32 (c : UInt8) : bits .or .u8 (c.toNat : Int) 32 = ((c ||| 32).toNat : Int) := by
  rw [u8_or _ _ (by omega) (by have := c.toNat_lt;omega) (by omega) (by omega)]
  simp [UInt8.toNat_or]
theorem okAt_iff {l : List UInt8} {k : Nat} {c : UInt8} (h : l[k]? = some c) :
    okAt l k = true ↔ (97 ≤ ((c ||| 32).toNat : Int) ∧ ((c ||| 32).toNat : Int) ≤ 122) ∨ (c.toNat : Int) = 95 ∨ (0 < (k : Int) ∧ ((48 ≤ (c.toNat : Int) ∧ (c.toNat : Int) ≤ 57) ∨ 0 ≤ Go.Lib.indexByte [45, 43, 47, 46] c)) := by
  have e : (c == 95) = true ↔ (c.toNat : Int) = 95 := by
    rw [beq_iff_eq]
    constructor
    · rintro rfl;rfl
    · intro h;apply UInt8.toNat_inj.1;show c.toNat = 95;omega
  unfold okAt okFirst okOther
  rw [h]
  simp only [Bool.or_eq_true, Bool.and_eq_true, decide_eq_true_eq, e]
  omega
theorem all_succ {l : List UInt8} {k : Nat} (h : (List.range k).all (okAt l) = true) (h2 : okAt l k = true) : (List.range (k + 1)).all (okAt l) = true := by
  rw [List.range_succ, List.all_append, h];simp [h2]
theorem not_all {l : List UInt8} {k : Nat} (hk : k < l.length) (h2 : ¬ okAt l k = true) : okAll l = false := by
  unfold okAll
  rw [Bool.eq_false_iff]
  intro h
  exact h2 (List.all_eq_true.1 h k (List.mem_range.2 hk))

set_option maxRecDepth 100000 in
set_option maxHeartbeats 1600000 in
theorem Name_le (s : ByteArray) (hs : s.size ≤ 64) (w : World) : Calls Tryz.prog 54 #[.string s] w fun e w' => e = .returned (.int .i64 (nameR s)) ∧ Below w.heap.size w w' := by
  obtain ⟨cap, o, hrun, hcell⟩ := Lb.bytes_of w s
  have Hcell := Lib.hid hcell;clear hcell
  have hlen : s.data.toList.length = s.size := by simp
  have Hlen := Lib.hid hlen;clear hlen
  have hB : Below w.heap.size w (w.alloc o).drew := ((Below.refl _ _).alloc (Nat.le_refl _) _).drew
  have HB := Lib.hid hB;clear hB
  go_enter Tryz.func54, Tryz.ntmps54
  go_wp2
  go_loop [11] (fun i => ∃ k : Nat, k ≤ s.size ∧ i = .int .i64 k ∧ (List.range k).all (okAt s.data.toList) = true) (fun i => s.size - (intOf i).toNat)
  case atStart => exact ⟨0, Nat.zero_le _, rfl, rfl⟩
  case round =>
    obtain ⟨k, hk, rfl, hall⟩ := hrel
    have Hall := Lib.hid hall;clear hall
    by_cases hlt : k < s.size
    · obtain ⟨c, hc⟩ : ∃ c, s.data.toList[k]? = some c := ⟨s.data.toList[k]'(by rw [Hlen.out];exact hlt), by simp⟩
      have c1 := Hcell.out k c hc
      have hiff := Lib.hid (okAt_iff hc)
      have Hc := Lib.hid hc;clear hc
      have hor := or32 c
      have hcb : (c.toNat : Int) < 256 := by have := c.toNat_lt;omega
      generalize (c ||| 32).toNat = t at hor hiff
      generalize hix : Go.Lib.indexByte [45, 43, 47, 46] c = ix at hiff
      have hcu : (c.toNat : Int).toNat.toUInt8 = c := by simp
      rw [← hcu] at hix
      have Hix := Lib.hid hix;clear hix hcu
      go_wp2_with (go_at_call 87;refine (Lb.IndexByte _ _ _).mono ?_;rw [Hix.out];rintro e w' ⟨rfl, rfl⟩)
      all_goals
        first
          | (go_round
             case rel =>
               refine ⟨k + 1, by omega, by go_num, all_succ Hall.out (hiff.out.2 ?_)⟩
               simp only [beq_iff_eq, beq_eq_false_iff_ne, ne_eq] at *
               omega
             case measure => simp [intOf];omega)
          | (go_ret
             refine ⟨ret_int ?_, HB.out⟩
             unfold nameR
             rw [not_all (k := k) (by rw [Hlen.out];exact hlt) (by
               rw [hiff.out]
               simp only [beq_eq_false_iff_ne, ne_eq] at *
               omega)]
             rfl)
    · have hks : k = s.size := by omega
      have hfin : okAll s.data.toList = true := by
        unfold okAll;rw [Hlen.out, ← hks];exact Hall.out
      have Hfin := Lib.hid hfin;clear hfin hks
      by_cases he : s.toList = []
      · have e1 : s.toList.isEmpty = true := by simp [he]
        have e2 : s.data.toList = [] := by rw [← ByteArray.toList_eq];exact he
        have E2 := Lib.hid e2;clear e2 he
        go_wp2
        go_ret
        refine ⟨ret_int ?_, HB.out⟩
        unfold nameR
        rw [if_pos Hfin.out, if_pos E2.out]
      · have e1 : s.toList.isEmpty = false := by simp [he]
        have e2 : ¬ s.data.toList = [] := by rw [← ByteArray.toList_eq];exact he
        have E2 := Lib.hid e2;clear e2 he
        go_wp2
        go_ret
        refine ⟨ret_int ?_, HB.out⟩
        unfold nameR
        rw [if_pos Hfin.out, if_neg E2.out]

theorem Name (s : ByteArray) (hm : s.size ≤ 9223372036854775807) (w : World) : Calls Tryz.prog 54 #[.string s] w fun e w' => e = .returned (.int .i64 (nameE s)) ∧ Below w.heap.size w w' := by
  unfold nameE
  by_cases h : 64 < s.size
  · rw [if_pos h]
    go_enter Tryz.func54, Tryz.ntmps54
    go_wp2
    go_ret
    exact ⟨rfl, Below.refl _ _⟩
  · rw [if_neg h]
    exact Name_le s (by omega) w
end Nam
end Go.Proofs.YtecmipgpldcfcaaGreatDoor
namespace Go.Proofs.YtecmipgpldcfcaaGreatDoor
open Go.RowKit NB
namespace Fmt
def wset : List UInt8 := [65, 66, 67, 68, 69, 70, 71, 72, 73, 74, 75, 76, 77, 78, 79, 80, 81, 82, 83, 84, 85, 86, 87, 88, 89, 90, 97, 98, 99, 100, 101, 102, 103, 104, 105, 106, 107, 108, 109, 110, 111, 112, 113, 114, 115, 116, 117, 118, 119, 120, 121, 122, 48, 49, 50, 51, 52, 53, 54, 55, 56, 57, 43, 45]
def wordB (s : ByteArray) : Bool := s.data.toList.all (wset.contains ·)
theorem dropWhile_nil {l : List UInt8} {p : UInt8 → Bool} : l.dropWhile p = [] ↔ l.all p = true := by
  induction l with
  | nil => simp
  | cons a l ih =>
    by_cases h : p a = true
    · simp [h, ih]
    · simp [h]
theorem trim_nil (l cs : List UInt8) : Go.Lib.trimS l cs = [] ↔ l.all (cs.contains ·) = true := by
  unfold Go.Lib.trimS Go.Lib.trimLeftS Go.Lib.trimRightS
  rw [dropWhile_nil]
  constructor
  · intro h
    have h2 : (l.reverse.dropWhile (cs.contains ·)).all (cs.contains ·) = true := by
      rw [← List.all_reverse];exact h
    rcases hd : l.reverse.dropWhile (cs.contains ·) with _|⟨a, t⟩
    · rw [dropWhile_nil, List.all_reverse] at hd;exact hd
    · have := List.head_dropWhile_not (l := l.reverse) (cs.contains ·) (by rw [hd];simp)
      simp only [hd, List.head_cons] at this
      rw [hd] at h2
      simp only [List.all_cons, Bool.and_eq_true] at h2
      rw [this] at h2
      exact absurd h2.1 (by simp)
  · intro h
    have : l.reverse.dropWhile (cs.contains ·) = [] := by rw [dropWhile_nil, List.all_reverse];exact h
    rw [this];rfl
theorem emp (l : List UInt8) : (⟨l.toArray⟩ : ByteArray).toList.isEmpty = l.isEmpty := by rw [ByteArray.toList_eq]

theorem word (s : ByteArray) (hs : s.size ≤ 9223372036854775807) (w : World) : Calls Tryz.prog 133 #[.string s] w fun e w' => e = .returned (.bool (wordB s)) ∧ Below w.heap.size w w' := by
  have hcon := Lb.Trim s ⟨#[65, 66, 67, 68, 69, 70, 71, 72, 73, 74, 75, 76, 77, 78, 79, 80, 81, 82, 83, 84, 85, 86, 87, 88, 89, 90, 97, 98, 99, 100, 101, 102, 103, 104, 105, 106, 107, 108, 109, 110, 111, 112, 113, 114, 115, 116, 117, 118, 119, 120, 121, 122, 48, 49, 50, 51, 52, 53, 54, 55, 56, 57, 43, 45]⟩ w hs (by decide) (ascii_of_all (by decide))
  have hf : (⟨(Go.Lib.trimS s.data.toList wset).toArray⟩ : ByteArray).toList.isEmpty = wordB s := by
    rw [emp, Bool.eq_iff_iff, List.isEmpty_iff, trim_nil];rfl
  change Calls Tryz.prog 179 _ _ (fun e w' => e = .returned (.string ⟨(Go.Lib.trimS s.data.toList wset).toArray⟩) ∧ Below w.heap.size w w') at hcon
  rw [← hf]
  generalize (⟨(Go.Lib.trimS s.data.toList wset).toArray⟩ : ByteArray) = r at hcon ⊢
  clear hf
  have Hcon := Lib.hid hcon;clear hcon
  go_enter Tryz.func133, Tryz.ntmps133
  go_wp2_with (go_at_call 179;refine Hcon.out.mono ?_;rintro e w' ⟨rfl, hB⟩)
  go_ret
  exact ⟨rfl, hB⟩

def letS (s : ByteArray) : ByteArray := if s.toList = [45] ∨ 6 < s.size ∨ s.toList = [] ∨ wordB s = false then ⟨#[]⟩ else s
def letE (s : ByteArray) : Int := if s.toList = [45] then 0 else if 6 < s.size then 9 else if s.toList = [] ∨ wordB s = false then 4 else 0
set_option maxHeartbeats 800000 in
theorem Letter (s : ByteArray) (hs : s.size ≤ 9223372036854775807) (w : World) : Calls Tryz.prog 190 #[.string s] w fun e w' => e = .returned (.tuple #[.string (letS s), .int .i64 (letE s)]) ∧ Below w.heap.size w w' := by
  unfold letS letE
  by_cases h1 : s.toList = [45]
  · have e1 : (s.toList == [45]) = true := by simp [h1]
    rw [if_pos (.inl h1), if_pos h1]
    clear h1
    go_enter Tryz.func190, Tryz.ntmps190
    go_wp2
    go_ret2
    exact ⟨rfl, Below.refl _ _⟩
  · have e1 : (s.toList == [45]) = false := by simp [h1]
    rw [if_neg h1]
    by_cases h2 : 6 < s.size
    · rw [if_pos (.inr (.inl h2)), if_pos h2]
      clear h1
      go_enter Tryz.func190, Tryz.ntmps190
      go_wp2
      go_ret2
      exact ⟨rfl, Below.refl _ _⟩
    · rw [if_neg h2]
      by_cases h3 : s.toList = []
      · have e3 : s.toList.isEmpty = true := by simp [h3]
        rw [if_pos (.inr (.inr (.inl h3))), if_pos (.inl h3)]
        clear h1
        have H3 := Lib.hid h3;clear h3
        go_enter Tryz.func190, Tryz.ntmps190
        go_wp2
        go_ret2
        exact ⟨rfl, Below.refl _ _⟩
      · have e3 : s.toList.isEmpty = false := by simp [h3]
        cases h4 : wordB s
        · rw [if_pos (.inr (.inr (.inr rfl))), if_pos (.inr rfl)]
          clear h1 h3
          have H4 := Lib.hid h4;clear h4
          go_enter Tryz.func190, Tryz.ntmps190
          go_wp2_with (go_at_call 133;refine (word _ (by omega) _).mono ?_;rw [H4.out];rintro e w' ⟨rfl, hB⟩)
          go_ret2
          exact ⟨rfl, hB⟩
        · rw [if_neg (by simp [h1, h2, h3]), if_neg (by simp [h3])]
          clear h1 h3
          have H4 := Lib.hid h4;clear h4
          go_enter Tryz.func190, Tryz.ntmps190
          go_wp2_with (go_at_call 133;refine (word _ (by omega) _).mono ?_;rw [H4.out];rintro e w' ⟨rfl, hB⟩)
          go_ret2
          exact ⟨rfl, hB⟩

def letterOK (s : ByteArray) : Bool := decide (s.toList = []) || (!decide (s.toList = [45]) && decide (s.size ≤ 6) && wordB s)
theorem letter_ok {s : ByteArray} (h : s.toList ≠ []) : letterOK s = true ↔ letE s = 0 ∧ s.toList ≠ [45] := by
  unfold letterOK letE
  by_cases h1 : s.toList = [45]
  · simp [h1]
  · by_cases h2 : 6 < s.size
    · simp [h1, h2, h];omega
    · cases h4 : wordB s <;> simp [h1, h2, h] <;> omega
def ltext (s : ByteArray) : ByteArray := if s.toList = [] then ⟨#[45]⟩ else if letterOK s then s else ⟨#[]⟩
set_option maxHeartbeats 800000 in
theorem LetterText (s : ByteArray) (hs : s.size ≤ 9223372036854775807) (w : World) : Calls Tryz.prog 146 #[.string s] w fun e w' => e = .returned (.tuple #[.string (ltext s), .int .i64 (if letterOK s then 0 else 4)]) ∧ Below w.heap.size w w' := by
  unfold ltext
  by_cases h1 : s.toList = []
  · have e1 : s.toList.isEmpty = true := by simp [h1]
    have e2 : letterOK s = true := by unfold letterOK;simp [h1]
    rw [if_pos h1, e2]
    clear h1 e2
    go_enter Tryz.func146, Tryz.ntmps146
    go_wp2
    go_ret2
    exact ⟨rfl, Below.refl _ _⟩
  · have e1 : s.toList.isEmpty = false := by simp [h1]
    rw [if_neg h1]
    have hk := letter_ok h1
    cases h4 : letterOK s
    · by_cases h5 : letE s = 0
      · have h6 : s.toList = [45] := by
          by_cases h6 : s.toList = [45]
          · exact h6
          · exact absurd (hk.2 ⟨h5, h6⟩) (by rw [h4];simp)
        have h7 : letS s = ⟨#[]⟩ := by unfold letS;rw [if_pos (.inl h6)]
        have h8 : (([] : List UInt8) == s.toList) = false := by simp [h6]
        have H5 := Lib.hid h5;have H7 := Lib.hid h7
        clear hk h4 h5 h6 h7 h1
        go_enter Tryz.func146, Tryz.ntmps146
        go_wp2_with (go_at_call 190;refine (Letter _ (by omega) _).mono ?_;rw [H5.out, H7.out];rintro e w' ⟨rfl, hB⟩)
        go_ret2
        exact ⟨rfl, hB⟩
      · have h6 : (letE s != 0) = true := by simp [h5]
        have h6' : (letE s == 0) = false := by simp [h5]
        clear hk h4 h5 h1
        go_enter Tryz.func146, Tryz.ntmps146
        go_wp2_with (go_at_call 190;refine (Letter _ (by omega) _).mono ?_;rintro e w' ⟨rfl, hB⟩)
        go_ret2
        exact ⟨rfl, hB⟩
    · obtain ⟨h5, h6⟩ := hk.1 h4
      have h7 : letS s = s := by
        unfold letS
        unfold letE at h5
        rw [if_neg h6] at h5
        rw [if_neg]
        rintro (h|h|h|h)
        · exact h6 h
        · rw [if_pos h] at h5;cases h5
        · exact h1 h
        · by_cases h2 : 6 < s.size
          · rw [if_pos h2] at h5;cases h5
          · rw [if_neg h2, if_pos (.inr h)] at h5;cases h5
      have H5 := Lib.hid h5;have H7 := Lib.hid h7
      clear hk h4 h5 h6 h7 h1
      go_enter Tryz.func146, Tryz.ntmps146
      go_wp2_with (go_at_call 190;refine (Letter _ (by omega) _).mono ?_;rw [H5.out, H7.out];rintro e w' ⟨rfl, hB⟩)
      go_ret2
      exact ⟨rfl, hB⟩
end Fmt
end Go.Proofs.YtecmipgpldcfcaaGreatDoor
