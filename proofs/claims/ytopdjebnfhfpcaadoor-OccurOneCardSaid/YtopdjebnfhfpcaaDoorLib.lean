/-
  Go's library as this program has it: the shelf's contracts at this program's numbers.
-/
import Derived.Shelf.Strings.SlTrimAscii
import Derived.Shelf.Small.Strs
import Derived.Test.YtopdjebnfhfpcaaDoorNB
import Derived.Test.YtopdjebnfhfpcaaDoorProg
namespace Go.Proofs.YtopdjebnfhfpcaaDoor
open Go.Shelf
def Tryd.lays160_ren : Go.Shelf.Ren := ⟨fun | 160 => 101 | 232 => 106 | 231 => 105 | 227 => 107 | 234 => 109 | 233 => 108 | 236 => 111 | 235 => 110 | 228 => 112 | 271 => 115 | 151 => 114 | 197 => 113 | 120 => 118 | 152 => 117 | 260 => 116 | 137 => 79 | 119 => 119 | 224 => 120 | 225 => 121 | 217 => 95 | 266 => 102 | n => n, fun | 9 => 9 | 4 => 4 | 3 => 3 | 5 => 5 | 117 => 126 | 116 => 125 | 0 => 0 | 124 => 129 | 21 => 21 | 105 => 130 | 46 => 135 | 119 => 134 | 139 => 138 | 138 => 137 | n => n, fun | 3 => 1 | 4 => 2 | n => n⟩
theorem Tryd.lays160 : Go.Proofs.Lays.n160 Tryd.prog Tryd.lays160_ren := {
  mixed := by kernel_rfl,
  f119 := Tryd.func119.trans (congrArg some (by kernel_rfl)),
  f120 := Tryd.func118.trans (congrArg some (by kernel_rfl)),
  f137 := Tryd.func79.trans (congrArg some (by kernel_rfl)),
  f151 := Tryd.func114.trans (congrArg some (by kernel_rfl)),
  f152 := Tryd.func117.trans (congrArg some (by kernel_rfl)),
  f160 := Tryd.func101.trans (congrArg some (by kernel_rfl)),
  f197 := Tryd.func113.trans (congrArg some (by kernel_rfl)),
  f217 := Tryd.func95.trans (congrArg some (by kernel_rfl)),
  f224 := Tryd.func120.trans (congrArg some (by kernel_rfl)),
  f225 := Tryd.func121.trans (congrArg some (by kernel_rfl)),
  f227 := Tryd.func107.trans (congrArg some (by kernel_rfl)),
  f228 := Tryd.func112.trans (congrArg some (by kernel_rfl)),
  f231 := Tryd.func105.trans (congrArg some (by kernel_rfl)),
  f232 := Tryd.func106.trans (congrArg some (by kernel_rfl)),
  f233 := Tryd.func108.trans (congrArg some (by kernel_rfl)),
  f234 := Tryd.func109.trans (congrArg some (by kernel_rfl)),
  f235 := Tryd.func110.trans (congrArg some (by kernel_rfl)),
  f236 := Tryd.func111.trans (congrArg some (by kernel_rfl)),
  f260 := Tryd.func116.trans (congrArg some (by kernel_rfl)),
  f266 := Tryd.func102.trans (congrArg some (by kernel_rfl)),
  f271 := Tryd.func115.trans (congrArg some (by kernel_rfl)),
  t0 := Tryd.underlying0,
  a0 := Tryd.isAgg0,
  z0 := Tryd.sizeOf0,
  v0 := Tryd.zeroValue0,
  t3 := Tryd.underlying3,
  a3 := Tryd.isAgg3,
  z3 := Tryd.sizeOf3,
  v3 := Tryd.zeroValue3,
  t4 := Tryd.underlying4,
  a4 := Tryd.isAgg4,
  z4 := Tryd.sizeOf4,
  v4 := Tryd.zeroValue4,
  t5 := Tryd.underlying5,
  a5 := Tryd.isAgg5,
  z5 := Tryd.sizeOf5,
  v5 := Tryd.zeroValue5,
  t9 := Tryd.underlying9,
  a9 := Tryd.isAgg9,
  z9 := Tryd.sizeOf9,
  v9 := Tryd.zeroValue9,
  t21 := Tryd.underlying21,
  a21 := Tryd.isAgg21,
  z21 := Tryd.sizeOf21,
  v21 := Tryd.zeroValue21,
  t46 := Tryd.underlying135,
  a46 := Tryd.isAgg135,
  z46 := Tryd.sizeOf135,
  v46 := Tryd.zeroValue135,
  t105 := Tryd.underlying130,
  a105 := Tryd.isAgg130,
  z105 := Tryd.sizeOf130,
  v105 := Tryd.zeroValue130,
  t116 := Tryd.underlying125,
  a116 := Tryd.isAgg125,
  z116 := Tryd.sizeOf125,
  t117 := Tryd.underlying126,
  a117 := Tryd.isAgg126,
  z117 := Tryd.sizeOf126,
  v117 := Tryd.zeroValue126,
  t119 := Tryd.underlying134,
  a119 := Tryd.isAgg134,
  z119 := Tryd.sizeOf134,
  t124 := Tryd.underlying129,
  a124 := Tryd.isAgg129,
  z124 := Tryd.sizeOf129,
  v124 := Tryd.zeroValue129,
  t138 := Tryd.underlying137,
  a138 := Tryd.isAgg137,
  z138 := Tryd.sizeOf137,
  v138 := Tryd.zeroValue137,
  t139 := Tryd.underlying138,
  a139 := Tryd.isAgg138,
  z139 := Tryd.sizeOf138,
  v139 := Tryd.zeroValue138,
  g3 := by kernel_rfl,
  g4 := by kernel_rfl }
def Tryd.lays137_ren : Go.Shelf.Ren := ⟨fun | 137 => 79 | 217 => 95 | 266 => 102 | n => n, fun | 9 => 9 | 5 => 5 | 3 => 3 | n => n, fun | n => n⟩
theorem Tryd.lays137 : Go.Proofs.Lays.n137 Tryd.prog Tryd.lays137_ren := {
  mixed := by kernel_rfl,
  f137 := Tryd.func79.trans (congrArg some (by kernel_rfl)),
  f217 := Tryd.func95.trans (congrArg some (by kernel_rfl)),
  f266 := Tryd.func102.trans (congrArg some (by kernel_rfl)),
  t3 := Tryd.underlying3,
  a3 := Tryd.isAgg3,
  z3 := Tryd.sizeOf3,
  v3 := Tryd.zeroValue3,
  t5 := Tryd.underlying5,
  a5 := Tryd.isAgg5,
  z5 := Tryd.sizeOf5,
  v5 := Tryd.zeroValue5,
  t9 := Tryd.underlying9,
  a9 := Tryd.isAgg9,
  z9 := Tryd.sizeOf9,
  v9 := Tryd.zeroValue9 }

open Go.RowKit
namespace Lb
theorem Trim (s cutset : ByteArray) (w : World) (hs : s.size ≤ 9223372036854775807) (hcs : cutset.size < 4294967281) (hascii : ∀ (j : Nat) b, cutset.data.toList[j]? = some b → b.toNat < 128) :
    Calls Tryd.prog 101 #[.string s, .string cutset] w fun e w' => e = .returned (.string ⟨(Go.Lib.trimS s.data.toList cutset.data.toList).toArray⟩) ∧ Below w.heap.size w w' :=
  Any.strings_Trim_laid Tryd.lays160 (by kernel_rfl) s cutset w hs hcs hascii
theorem IndexByte (s : ByteArray) (c : Int) (w : World) :
    Calls Tryd.prog 79 #[.string s, .int .u8 c] w fun e w' => e = .returned (.int .i64 (Go.Lib.indexByte s.data.toList c.toNat.toUInt8)) ∧ w = w' :=
  (Any.strings_IndexByte Tryd.lays137 s c w).mono fun _ _ ⟨he, hw⟩ => ⟨he, hw.symm⟩
/-- a text as bytes: a new row that holds them -/
theorem bytes_of (w : World) (s : ByteArray) : ∃ (cap : Nat) (o : Obj), (convert 9 101 (.string s)).run Tryd.prog w = .ok (.slice (some ⟨w.heap.size, 0, none⟩) s.size cap) (w.alloc o).drew ∧
    ∀ (j : Nat) (c : UInt8), s.data.toList[j]? = some c → (w.alloc o).cell? ⟨w.heap.size, j, none⟩ = some (.int .u8 c.toNat) := by
  refine ⟨_, _, run_bytes_of_string w 9 101 5 s Tryd.underlying9 Tryd.underlying101 Tryd.underlying5, fun j c hc => ?_⟩
  have hj : j < s.data.size := by
    have := (List.getElem?_eq_some_iff.1 hc).1
    simpa using this
  have hb : (w.alloc (.cells (bytesRow s (grownCap w s.size 0 5)) 5 ((bytesRow s (grownCap w s.size 0 5)).size, (bytesRow s (grownCap w s.size 0 5)).size + 1))).heap[w.heap.size]? = some (.cells (bytesRow s (grownCap w s.size 0 5)) 5 ((bytesRow s (grownCap w s.size 0 5)).size, (bytesRow s (grownCap w s.size 0 5)).size + 1)) := heap_alloc_new w _
  rw [cell_of_row _ _ _ _ _ _ hb]
  unfold bytesRow
  rw [Array.getElem?_append_left (by simpa using hj), Array.getElem?_map]
  have : s.data[j]? = some c := by rw [← Array.getElem?_toList]; exact hc
  rw [this]; rfl
end Lb
end Go.Proofs.YtopdjebnfhfpcaaDoor
