/-
  Go's library as this program has it: the shelf's contracts at this program's numbers.
-/
import Derived.Shelf.Strings.SlTrimAscii
import Derived.Shelf.Small.Strs
import Derived.Test.YtopdjebnfhfpcaaGreatDoorNB
import Derived.Test.YtopdjebnfhfpcaaGreatDoorProg
namespace Go.Proofs.YtopdjebnfhfpcaaGreatDoor
open Go.Shelf
def Tryz.lays160_ren : Go.Shelf.Ren := ⟨fun | 160 => 111 | 232 => 115 | 231 => 114 | 227 => 116 | 234 => 118 | 233 => 117 | 236 => 120 | 235 => 119 | 228 => 121 | 271 => 124 | 151 => 123 | 197 => 122 | 120 => 127 | 152 => 126 | 260 => 125 | 137 => 82 | 119 => 128 | 224 => 129 | 225 => 130 | 217 => 100 | 266 => 112 | n => n, fun | 9 => 9 | 4 => 4 | 3 => 3 | 5 => 5 | 117 => 118 | 116 => 117 | 0 => 0 | 124 => 121 | 21 => 21 | 105 => 122 | 46 => 127 | 119 => 126 | 139 => 130 | 138 => 129 | n => n, fun | 3 => 1 | 4 => 2 | n => n⟩
theorem Tryz.lays160 : Go.Proofs.Lays.n160 Tryz.prog Tryz.lays160_ren := {
  mixed := by kernel_rfl,
  f119 := Tryz.func128.trans (congrArg some (by kernel_rfl)),
  f120 := Tryz.func127.trans (congrArg some (by kernel_rfl)),
  f137 := Tryz.func82.trans (congrArg some (by kernel_rfl)),
  f151 := Tryz.func123.trans (congrArg some (by kernel_rfl)),
  f152 := Tryz.func126.trans (congrArg some (by kernel_rfl)),
  f160 := Tryz.func111.trans (congrArg some (by kernel_rfl)),
  f197 := Tryz.func122.trans (congrArg some (by kernel_rfl)),
  f217 := Tryz.func100.trans (congrArg some (by kernel_rfl)),
  f224 := Tryz.func129.trans (congrArg some (by kernel_rfl)),
  f225 := Tryz.func130.trans (congrArg some (by kernel_rfl)),
  f227 := Tryz.func116.trans (congrArg some (by kernel_rfl)),
  f228 := Tryz.func121.trans (congrArg some (by kernel_rfl)),
  f231 := Tryz.func114.trans (congrArg some (by kernel_rfl)),
  f232 := Tryz.func115.trans (congrArg some (by kernel_rfl)),
  f233 := Tryz.func117.trans (congrArg some (by kernel_rfl)),
  f234 := Tryz.func118.trans (congrArg some (by kernel_rfl)),
  f235 := Tryz.func119.trans (congrArg some (by kernel_rfl)),
  f236 := Tryz.func120.trans (congrArg some (by kernel_rfl)),
  f260 := Tryz.func125.trans (congrArg some (by kernel_rfl)),
  f266 := Tryz.func112.trans (congrArg some (by kernel_rfl)),
  f271 := Tryz.func124.trans (congrArg some (by kernel_rfl)),
  t0 := Tryz.underlying0,
  a0 := Tryz.isAgg0,
  z0 := Tryz.sizeOf0,
  v0 := Tryz.zeroValue0,
  t3 := Tryz.underlying3,
  a3 := Tryz.isAgg3,
  z3 := Tryz.sizeOf3,
  v3 := Tryz.zeroValue3,
  t4 := Tryz.underlying4,
  a4 := Tryz.isAgg4,
  z4 := Tryz.sizeOf4,
  v4 := Tryz.zeroValue4,
  t5 := Tryz.underlying5,
  a5 := Tryz.isAgg5,
  z5 := Tryz.sizeOf5,
  v5 := Tryz.zeroValue5,
  t9 := Tryz.underlying9,
  a9 := Tryz.isAgg9,
  z9 := Tryz.sizeOf9,
  v9 := Tryz.zeroValue9,
  t21 := Tryz.underlying21,
  a21 := Tryz.isAgg21,
  z21 := Tryz.sizeOf21,
  v21 := Tryz.zeroValue21,
  t46 := Tryz.underlying127,
  a46 := Tryz.isAgg127,
  z46 := Tryz.sizeOf127,
  v46 := Tryz.zeroValue127,
  t105 := Tryz.underlying122,
  a105 := Tryz.isAgg122,
  z105 := Tryz.sizeOf122,
  v105 := Tryz.zeroValue122,
  t116 := Tryz.underlying117,
  a116 := Tryz.isAgg117,
  z116 := Tryz.sizeOf117,
  t117 := Tryz.underlying118,
  a117 := Tryz.isAgg118,
  z117 := Tryz.sizeOf118,
  v117 := Tryz.zeroValue118,
  t119 := Tryz.underlying126,
  a119 := Tryz.isAgg126,
  z119 := Tryz.sizeOf126,
  t124 := Tryz.underlying121,
  a124 := Tryz.isAgg121,
  z124 := Tryz.sizeOf121,
  v124 := Tryz.zeroValue121,
  t138 := Tryz.underlying129,
  a138 := Tryz.isAgg129,
  z138 := Tryz.sizeOf129,
  v138 := Tryz.zeroValue129,
  t139 := Tryz.underlying130,
  a139 := Tryz.isAgg130,
  z139 := Tryz.sizeOf130,
  v139 := Tryz.zeroValue130,
  g3 := by kernel_rfl,
  g4 := by kernel_rfl }
def Tryz.lays137_ren : Go.Shelf.Ren := ⟨fun | 137 => 82 | 217 => 100 | 266 => 112 | n => n, fun | 9 => 9 | 5 => 5 | 3 => 3 | n => n, fun | n => n⟩
theorem Tryz.lays137 : Go.Proofs.Lays.n137 Tryz.prog Tryz.lays137_ren := {
  mixed := by kernel_rfl,
  f137 := Tryz.func82.trans (congrArg some (by kernel_rfl)),
  f217 := Tryz.func100.trans (congrArg some (by kernel_rfl)),
  f266 := Tryz.func112.trans (congrArg some (by kernel_rfl)),
  t3 := Tryz.underlying3,
  a3 := Tryz.isAgg3,
  z3 := Tryz.sizeOf3,
  v3 := Tryz.zeroValue3,
  t5 := Tryz.underlying5,
  a5 := Tryz.isAgg5,
  z5 := Tryz.sizeOf5,
  v5 := Tryz.zeroValue5,
  t9 := Tryz.underlying9,
  a9 := Tryz.isAgg9,
  z9 := Tryz.sizeOf9,
  v9 := Tryz.zeroValue9 }

open Go.RowKit
namespace Lb
theorem Trim (s cutset : ByteArray) (w : World) (hs : s.size ≤ 9223372036854775807) (hcs : cutset.size < 4294967281) (hascii : ∀ (j : Nat) b, cutset.data.toList[j]? = some b → b.toNat < 128) :
    Calls Tryz.prog 111 #[.string s, .string cutset] w fun e w' => e = .returned (.string ⟨(Go.Lib.trimS s.data.toList cutset.data.toList).toArray⟩) ∧ Below w.heap.size w w' :=
  Any.strings_Trim_laid Tryz.lays160 (by kernel_rfl) s cutset w hs hcs hascii
theorem IndexByte (s : ByteArray) (c : Int) (w : World) :
    Calls Tryz.prog 82 #[.string s, .int .u8 c] w fun e w' => e = .returned (.int .i64 (Go.Lib.indexByte s.data.toList c.toNat.toUInt8)) ∧ w = w' :=
  (Any.strings_IndexByte Tryz.lays137 s c w).mono fun _ _ ⟨he, hw⟩ => ⟨he, hw.symm⟩
/-- a text as bytes: a new row that holds them -/
theorem bytes_of (w : World) (s : ByteArray) : ∃ (cap : Nat) (o : Obj), (convert 9 90 (.string s)).run Tryz.prog w = .ok (.slice (some ⟨w.heap.size, 0, none⟩) s.size cap) (w.alloc o).drew ∧
    ∀ (j : Nat) (c : UInt8), s.data.toList[j]? = some c → (w.alloc o).cell? ⟨w.heap.size, j, none⟩ = some (.int .u8 c.toNat) := by
  refine ⟨_, _, run_bytes_of_string w 9 90 5 s Tryz.underlying9 Tryz.underlying90 Tryz.underlying5, fun j c hc => ?_⟩
  have hj : j < s.data.size := by
    have := (List.getElem?_eq_some_iff.1 hc).1
    simpa using this
  have hb : (w.alloc (.cells (bytesRow s (grownCap w s.size 0 5)) 5 ((bytesRow s (grownCap w s.size 0 5)).size, (bytesRow s (grownCap w s.size 0 5)).size + 1))).heap[w.heap.size]? = some (.cells (bytesRow s (grownCap w s.size 0 5)) 5 ((bytesRow s (grownCap w s.size 0 5)).size, (bytesRow s (grownCap w s.size 0 5)).size + 1)) := heap_alloc_new w _
  rw [cell_of_row _ _ _ _ _ _ hb]
  unfold bytesRow
  rw [Array.getElem?_append_left (by simpa using hj), Array.getElem?_map]
  have : s.data[j]? = some c := by rw [← Array.getElem?_toList]; exact hc
  rw [this]; rfl
end Lb
end Go.Proofs.YtopdjebnfhfpcaaGreatDoor
