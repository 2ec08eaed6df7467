import Derived.Test.YtcfmchpoclkpgaaGreatDoorG17
import Derived.Test.YtcfmchpoclkpgaaGreatDoorG18
import Derived.OwnWalk
import Derived.Lib.SliceRun
import Derived.Lib.AppendZeros
import Derived.Laws.AppendOwnNone
import Derived.Test.YtcfmchpoclkpgaaGreatDoorG13
import Derived.Shelf.SortM.Plain
import Derived.Shelf.SortM.SortNone
import Derived.Shelf.SlIter.Nil
import Derived.Sort.OwnSorted
import Derived.Shelf.SlGeneric
import Derived.Sort.Walk0
namespace Go.Proofs.YtcfmchpoclkpgaaGreatDoor
open Go.RowKit NB
namespace RBk
open Eqs
def stepV (o : Option ByteArray) : Value := .tuple #[.string (o.getD ⟨#[]⟩), .bool o.isSome]
def followV (o : Option ByteArray) : Value := .tuple #[.string (o.getD ⟨#[]⟩), .int .i64 (if o.isSome then 0 else 13)]
def mem (s : ByteArray) (l : List ByteArray) : Bool := l.any fun x => decide (x = s)
def zn (t : TabV) : List ByteArray := t.zs.map ZoneV.name
def findR (t : TabV) (s : ByteArray) : Int × Int := Bk.find (zn t) t.ls s
def pairV (x : Int × Int) : Value := .tuple #[.int .i64 x.1, .int .i64 x.2]
end RBk
end Go.Proofs.YtcfmchpoclkpgaaGreatDoor
namespace Go.Proofs.YtcfmchpoclkpgaaGreatDoor
open Go.RowKit NB
namespace Bk
def ltb (a b : S) : Bool := Op.bytesLess a.toList b.toList
def putStep (s : S) (st : List S × Bool) (x : S) : List S × Bool := ((if !st.2 && ltb s x then st.1 ++ [s] else st.1) ++ [x], (!st.2 && ltb s x) || (st.2 || decide (s = x)))
def putL (s : S) (l : List S) : List S × Bool := l.foldl (putStep s) ([], false)
def rput (l : List S) (s : S) : List S := if (putL s l).2 then (putL s l).1 else (putL s l).1 ++ [s]
end Bk
namespace RBk
open Eqs
end RBk
end Go.Proofs.YtcfmchpoclkpgaaGreatDoor
namespace Go.Proofs.YtcfmchpoclkpgaaGreatDoor
open Go.RowKit NB
namespace Bk
def okN (zs : List S) (ls : List LinkV) (s : S) : Bool := decide ((find zs ls s).2 = 0)
def rnames (zs : List S) (ls : List LinkV) : List S := ((zs ++ ls.map LinkV.name).filter (okN zs ls)).foldl rput []
def ralias (zs : List S) (ls : List LinkV) (z : Int) : List S := (rnames zs ls).filter fun s => decide ((find zs ls s).1 = z)
end Bk
namespace RBk
open Eqs
def out (zs : List ByteArray) (ls : List LinkV) (l : List ByteArray) : List ByteArray := (l.filter (Bk.okN zs ls)).foldl Bk.rput []
end RBk
end Go.Proofs.YtcfmchpoclkpgaaGreatDoor
namespace Go.Proofs.YtcfmchpoclkpgaaGreatDoor
open Go.RowKit NB
namespace Bk
def twStep (st : List S × Int) (x : S) : List S × Int := (st.1 ++ [x], if st.2 < 0 ∧ (st.1.any fun y => decide (y = x)) = true then (st.1.length : Int) else st.2)
def tw (done l : List S) : List S × Int := l.foldl twStep (done, -1)
def twice (done l : List S) : Int := if (tw done l).2 < 0 then -1 else (tw done l).2 - done.length
theorem twice_nil (done : List S) : twice done [] = -1 := rfl
end Bk
namespace RBk
open Eqs
def alia (zs : List ByteArray) (ls : List LinkV) (z : Int) (l : List ByteArray) : List ByteArray := l.filter fun s => decide ((Bk.find zs ls s).1 = z)
end RBk
end Go.Proofs.YtcfmchpoclkpgaaGreatDoor
namespace Go.Proofs.YtcfmchpoclkpgaaGreatDoor
open Go.RowKit NB
namespace RBk
open Eqs
def twiceV (zs : List ByteArray) (ls : List LinkV) : Value := .tuple #[.int .i64 (Bk.twice [] zs), .int .i64 (Bk.twice zs (ls.map LinkV.name))]
end RBk
end Go.Proofs.YtcfmchpoclkpgaaGreatDoor
namespace Go.Proofs.YtcfmchpoclkpgaaGreatDoor
open Go.RowKit NB
namespace Bk
def nmap (zs : List S) (ls : List LinkV) : List Mp.Ent := fold ((ls.map fun x => ((x.name, .bool true) : Mp.Ent)).reverse) (fold ((zs.map fun z => ((z, .bool true) : Mp.Ent)).reverse) [])
def keys (zs : List S) (ls : List LinkV) : List S := SrtS.sortL ((nmap zs ls).map (·.1))
def palias (zs : List S) (ls : List LinkV) (i : Nat) : List S := (keys zs ls).filter fun s => decide (find zs ls s = ((i : Int), 0))
end Bk
namespace BkW
abbrev strT : TypeId := 9
def At (W : World) (p : Nat) (zs : List ByteArray) (ls : List LinkV) : Prop :=
  ∃ (bz bn ab : Nat) (vs : List Value), Box W p #[.map (some bz), .map (some bn), .slice (some ⟨ab, 0, none⟩) zs.length zs.length] 99 ∧
    Mp.Lies W Tryz.prog 9 bz (Bk.zmap zs) ∧ Mp.Lies W Tryz.prog 9 bn (Bk.lmap ls) ∧ Box W ab vs.toArray 64 ∧ vs.length = zs.length ∧
    ∀ i v, vs[i]? = some v → OwnS W 0 v (Bk.palias zs ls i)
theorem At.lt {W : World} {p : Nat} {zs : List ByteArray} {ls : List LinkV} (h : At W p zs ls) : p < W.heap.size := by
  obtain ⟨bz, bn, ab, vs, h1, _⟩ := h
  exact h1.lt
theorem law : Maps.Keyed Tryz.prog 9 := Maps.string_keyed Tryz.underlying9
theorem zero_s (w : World) : (zeroValue 9).run Tryz.prog w = .ok (.string ⟨#[]⟩) w := by kernel_rfl
theorem zero_i (w : World) : (zeroValue 3).run Tryz.prog w = .ok (.int .i64 0) w := by kernel_rfl
theorem zero_b (w : World) : (zeroValue 4).run Tryz.prog w = .ok (.bool false) w := by kernel_rfl
open RBk (pairV)
set_option maxRecDepth 100000 in
set_option maxHeartbeats 3200000 in
theorem Find {w : World} {p : Nat} {zs : List ByteArray} {ls : List LinkV} (h : ∃ (bz bn : Nat) (u : Value), Box w p #[.map (some bz), .map (some bn), u] 99 ∧ Mp.Lies w Tryz.prog 9 bz (Bk.zmap zs) ∧ Mp.Lies w Tryz.prog 9 bn (Bk.lmap ls)) (_hz : zs.length ≤ 100000) (hl : ls.length ≤ 100000)
    (hf : ∀ x ∈ ls, x.target.size ≤ 9223372036854775807) (s : ByteArray) (hs : s.size ≤ 9223372036854775807) :
    Calls Tryz.prog 18 #[.pointer (some ⟨p, 0, none⟩), .string s] w fun e w' => e = .returned (pairV (Bk.find zs ls s)) ∧ w = w' := by
  obtain ⟨bz, bn, u, hb, hzm, hlm⟩ := h
  have c0 := hb.cell 0
  have c1 := hb.cell 1
  have hlen := fun ty => hlm.len Tryz.underlying96 ty
  obtain ⟨d, hd⟩ : ∃ d, d = (Bk.lmap ls).length := ⟨_, rfl⟩
  have hdl := Bk.lmap_len ls
  rw [← hd] at hlen hdl
  obtain ⟨R, hR⟩ : ∃ R, R = Bk.find zs ls s := ⟨_, rfl⟩
  rw [← hR]
  unfold Bk.find at hR
  rw [← Bk.follow_lmap, ← hd] at hR
  have hlook : ∀ x : ByteArray, x.size ≤ 9223372036854775807 → (Instr.lookup 96 (.map (some bn)) (.string x) true).run Tryz.prog w = .ok (.tuple #[.string ((Bk.step ls x).getD ⟨#[]⟩), .bool (Bk.step ls x).isSome]) w := fun x hx => by
    have := hlm.look true law Tryz.underlying96 (zero_s w) (s := x) (WideMaps.keyOf_string_mk Tryz.underlying9 hx)
    rw [Bk.get_lmap] at this
    rw [this]
    cases Bk.step ls x <;> rfl
  have hlookz : ∀ x : ByteArray, x.size ≤ 9223372036854775807 → (Instr.lookup 95 (.map (some bz)) (.string x) true).run Tryz.prog w = .ok (.tuple #[.int .i64 (match Bk.zat zs x with|some i => (i : Int)|none => 0), .bool (Bk.zat zs x).isSome]) w := fun x hx => by
    have := hzm.look true law Tryz.underlying95 (zero_i w) (s := x) (WideMaps.keyOf_string_mk Tryz.underlying9 hx)
    rw [Bk.get_zmap] at this
    rw [this]
    cases Bk.zat zs x <;> rfl
  have HR := Lib.hid hR;have HL := Lib.hid hlook;have HZ := Lib.hid hlookz
  have HF := Lib.hid hf
  clear hR hlook hlookz hzm hlm hd hf hb
  go_enter Tryz.func18, Tryz.ntmps18
  go_wp2
  go_loop [18, 1] (fun i c => ∃ (k : Nat) (x : ByteArray), i = .int .i64 k ∧ c = .string x ∧ k ≤ d + 1 ∧ x.size ≤ 9223372036854775807 ∧ Hid (R = Bk.findV zs (Bk.follow (Bk.step ls) (d + 1 - k) x))) (fun i _ => d + 1 - (intOf i).toNat)
  case atStart => exact ⟨0, s, rfl, rfl, Nat.zero_le _, hs, HR.out⟩
  case round =>
    obtain ⟨k, x, rfl, rfl, hk, hx, HS⟩ := hrel
    by_cases hlt : k ≤ d
    · have hs := HS.out
      rw [show d + 1 - k = (d - k) + 1 by omega] at hs
      have hc := HL.out x hx
      obtain ⟨o, ho⟩ : ∃ o, o = Bk.step ls x := ⟨_, rfl⟩
      unfold Bk.follow at hs
      rw [← ho] at hc hs
      have q1 : (k : Int) < (d : Int) + 1 := by omega
      cases o with
      | some y =>
        simp only [Option.getD_some, Option.isSome_some] at hc
        have hy : y.size ≤ 9223372036854775807 := by
          unfold Bk.step at ho
          obtain ⟨z, hz, e⟩ := Option.map_eq_some_iff.1 ho.symm
          rw [← e]
          exact HF.out z (List.mem_of_find?_eq_some hz)
        have HE := Lib.hid hs
        clear hs ho
        go_wp2
        go_round
        case rel => exact ⟨k + 1, y, by go_num, rfl, by omega, hy, by rw [show d + 1 - (k + 1) = d - k by omega];exact HE.out⟩
        case measure => simp [intOf];omega
      | none =>
        simp only [Option.getD_none, Option.isSome_none] at hc
        have hcz := HZ.out x hx
        dsimp only [Bk.findV] at hs
        obtain ⟨o2, ho2⟩ : ∃ o, o = Bk.zat zs x := ⟨_, rfl⟩
        rw [← ho2] at hcz hs
        clear ho ho2
        cases o2 with
        | none =>
          simp only [Option.isSome_none] at hcz
          have HE := Lib.hid hs
          clear hs
          go_wp2
          go_ret2
          exact ⟨by rw [HE.out];rfl, rfl⟩
        | some i =>
          simp only [Option.isSome_some] at hcz
          have HE := Lib.hid hs
          clear hs
          go_wp2
          go_ret2
          exact ⟨by rw [HE.out];rfl, rfl⟩
    · obtain rfl : k = d + 1 := by omega
      have hs := HS.out
      rw [Nat.sub_self] at hs
      have HE := Lib.hid hs
      clear hs
      have q1 : ¬ ((d : Int) + 1 < (d : Int) + 1) := by omega
      go_wp2
      go_ret2
      exact ⟨by rw [HE.out];rfl, rfl⟩
end BkW
end Go.Proofs.YtcfmchpoclkpgaaGreatDoor
namespace Go.Proofs.YtcfmchpoclkpgaaGreatDoor
open Go.RowKit NB
namespace StrL
end StrL
end Go.Proofs.YtcfmchpoclkpgaaGreatDoor
namespace Go.Proofs.YtcfmchpoclkpgaaGreatDoor
open Go.RowKit NB
namespace BkW
def paliasI (zs : List ByteArray) (ls : List LinkV) (z : Int) : List ByteArray := if 0 ≤ z ∧ z < zs.length then Bk.palias zs ls z.toNat else []
end BkW
end Go.Proofs.YtcfmchpoclkpgaaGreatDoor
namespace Go.Proofs.YtcfmchpoclkpgaaGreatDoor
open Go.RowKit NB Go.Sort Go.Shelf
def Tryz.sortS_ren : Go.Shelf.Ren := ⟨fun|6 => 56|8 => 100|9 => 99|19 => 161|20 => 162|21 => 152|22 => 153|23 => 154|24 => 155|25 => 156|26 => 157|27 => 158|28 => 159|29 => 160|36 => 217|31 => 218|32 => 219|37 => 220|38 => 221|39 => 222|41 => 273|n => n, fun|27 => 64|29 => 9|3 => 3|32 => 172|26 => 64|0 => 0|44 => 234|46 => 236|4 => 4|36 => 227|35 => 226|41 => 111|5 => 5|9 => 9|53 => 285|57 => 289|63 => 315|64 => 44|n => n, fun|n => n⟩
theorem Tryz.sortS : Go.Proofs.SlLaysM.n6 Tryz.prog Tryz.sortS_ren := {
  mixed := by kernel_rfl,
  f6 := ⟨Tryz.f56.name, by decide, Tryz.func56.trans (congrArg some (by kernel_rfl))⟩,
  f8 := Tryz.func100.trans (congrArg some (by kernel_rfl)),
  f9 := ⟨Tryz.f99.name, by decide, Tryz.func99.trans (congrArg some (by kernel_rfl))⟩,
  f19 := Tryz.func161.trans (congrArg some (by kernel_rfl)),
  f20 := Tryz.func162.trans (congrArg some (by kernel_rfl)),
  f21 := ⟨Tryz.f152.name, by decide, Tryz.func152.trans (congrArg some (by kernel_rfl))⟩,
  f22 := ⟨Tryz.f153.name, by decide, Tryz.func153.trans (congrArg some (by kernel_rfl))⟩,
  f23 := ⟨Tryz.f154.name, by decide, Tryz.func154.trans (congrArg some (by kernel_rfl))⟩,
  f24 := ⟨Tryz.f155.name, by decide, Tryz.func155.trans (congrArg some (by kernel_rfl))⟩,
  f25 := ⟨Tryz.f156.name, by decide, Tryz.func156.trans (congrArg some (by kernel_rfl))⟩,
  f26 := ⟨Tryz.f157.name, by decide, Tryz.func157.trans (congrArg some (by kernel_rfl))⟩,
  f27 := ⟨Tryz.f158.name, by decide, Tryz.func158.trans (congrArg some (by kernel_rfl))⟩,
  f28 := ⟨Tryz.f159.name, by decide, Tryz.func159.trans (congrArg some (by kernel_rfl))⟩,
  f29 := ⟨Tryz.f160.name, by decide, Tryz.func160.trans (congrArg some (by kernel_rfl))⟩,
  f31 := Tryz.func218.trans (congrArg some (by kernel_rfl)),
  f32 := Tryz.func219.trans (congrArg some (by kernel_rfl)),
  f36 := ⟨Tryz.f217.name, by decide, Tryz.func217.trans (congrArg some (by kernel_rfl))⟩,
  f37 := ⟨Tryz.f220.name, by decide, Tryz.func220.trans (congrArg some (by kernel_rfl))⟩,
  f38 := ⟨Tryz.f221.name, by decide, Tryz.func221.trans (congrArg some (by kernel_rfl))⟩,
  f39 := ⟨Tryz.f222.name, by decide, Tryz.func222.trans (congrArg some (by kernel_rfl))⟩,
  f41 := ⟨Tryz.f273.name, by decide, Tryz.func273.trans (congrArg some (by kernel_rfl))⟩,
  t0 := Tryz.underlying0,
  a0 := Tryz.isAgg0,
  z0 := Tryz.sizeOf0,
  v0 := Tryz.zeroValue0,
  t3 := Tryz.underlying3,
  a3 := Tryz.isAgg3,
  z3 := Tryz.sizeOf3,
  v3 := Tryz.zeroValue3,
  t4 := Tryz.underlying4,
  a4 := Tryz.isAgg4,
  z4 := Tryz.sizeOf4,
  v4 := Tryz.zeroValue4,
  t5 := Tryz.underlying5,
  a5 := Tryz.isAgg5,
  z5 := Tryz.sizeOf5,
  v5 := Tryz.zeroValue5,
  t9 := Tryz.underlying9,
  a9 := Tryz.isAgg9,
  z9 := Tryz.sizeOf9,
  v9 := Tryz.zeroValue9,
  t26 := Tryz.underlying64,
  a26 := Tryz.isAgg64,
  z26 := Tryz.sizeOf64,
  v26 := Tryz.zeroValue64,
  t27 := Tryz.underlying64,
  a27 := Tryz.isAgg64,
  z27 := Tryz.sizeOf64,
  v27 := Tryz.zeroValue64,
  t29 := Tryz.underlying9,
  a29 := Tryz.isAgg9,
  z29 := Tryz.sizeOf9,
  v29 := Tryz.zeroValue9,
  t32 := Tryz.underlying172,
  a32 := Tryz.isAgg172,
  z32 := Tryz.sizeOf172,
  v32 := Tryz.zeroValue172,
  t35 := Tryz.underlying226,
  a35 := Tryz.isAgg226,
  z35 := Tryz.sizeOf226,
  v35 := Tryz.zeroValue226,
  t36 := Tryz.underlying227,
  a36 := Tryz.isAgg227,
  z36 := Tryz.sizeOf227,
  v36 := Tryz.zeroValue227,
  t41 := Tryz.underlying111,
  a41 := Tryz.isAgg111,
  z41 := Tryz.sizeOf111,
  v41 := Tryz.zeroValue111,
  t44 := Tryz.underlying234,
  a44 := Tryz.isAgg234,
  z44 := Tryz.sizeOf234,
  v44 := Tryz.zeroValue234,
  t46 := Tryz.underlying236,
  a46 := Tryz.isAgg236,
  z46 := Tryz.sizeOf236,
  v46 := Tryz.zeroValue236,
  t53 := Tryz.underlying285,
  a53 := Tryz.isAgg285,
  z53 := Tryz.sizeOf285,
  v53 := Tryz.zeroValue285,
  t57 := Tryz.underlying289,
  a57 := Tryz.isAgg289,
  z57 := Tryz.sizeOf289,
  v57 := Tryz.zeroValue289,
  t63 := Tryz.underlying315,
  a63 := Tryz.isAgg315,
  z63 := Tryz.sizeOf315,
  v63 := Tryz.zeroValue315,
  t64 := Tryz.underlying44,
  a64 := Tryz.isAgg44,
  z64 := Tryz.sizeOf44,
  v64 := Tryz.zeroValue44 }
def Tryz.keysS_ren : Go.Shelf.Ren := ⟨fun|7 => 46|10 => 81|n => n, fun|23 => 90|26 => 9|3 => 4|28 => 108|0 => 0|27 => 107|33 => 131|4 => 4|n => n, fun|n => n⟩
theorem Tryz.keysS : Go.Proofs.SlLaysZ.n7 Tryz.prog Tryz.keysS_ren := {
  mixed := by kernel_rfl,
  f7 := ⟨Tryz.f46.name, by decide, Tryz.func46.trans (congrArg some (by kernel_rfl))⟩,
  f10 := ⟨Tryz.f81.name, by decide, Tryz.func81.trans (congrArg some (by kernel_rfl))⟩,
  t0 := Tryz.underlying0,
  a0 := Tryz.isAgg0,
  z0 := Tryz.sizeOf0,
  v0 := Tryz.zeroValue0,
  t4 := Tryz.underlying4,
  a4 := Tryz.isAgg4,
  z4 := Tryz.sizeOf4,
  v4 := Tryz.zeroValue4,
  t23 := Tryz.underlying90,
  a23 := Tryz.isAgg90,
  z23 := Tryz.sizeOf90,
  v23 := Tryz.zeroValue90,
  t26 := Tryz.underlying9,
  a26 := Tryz.isAgg9,
  z26 := Tryz.sizeOf9,
  v26 := Tryz.zeroValue9,
  t27 := Tryz.underlying107,
  a27 := Tryz.isAgg107,
  z27 := Tryz.sizeOf107,
  v27 := Tryz.zeroValue107,
  t28 := Tryz.underlying108,
  a28 := Tryz.isAgg108,
  z28 := Tryz.sizeOf108,
  v28 := Tryz.zeroValue108,
  t33 := Tryz.underlying131,
  a33 := Tryz.isAgg131,
  z33 := Tryz.sizeOf131,
  v33 := Tryz.zeroValue131 }
def Tryz.sortedS_ren : Go.Shelf.Ren := ⟨fun|6 => 45|8 => 80|9 => 56|11 => 135|13 => 100|12 => 99|23 => 161|24 => 162|14 => 152|15 => 153|16 => 154|17 => 155|18 => 156|19 => 157|20 => 158|21 => 159|22 => 160|25 => 217|26 => 218|27 => 219|28 => 220|29 => 221|30 => 222|31 => 273|n => n, fun|26 => 9|28 => 108|24 => 64|0 => 0|3 => 3|37 => 172|48 => 234|50 => 236|4 => 4|40 => 227|39 => 226|45 => 111|5 => 5|9 => 9|51 => 285|55 => 289|57 => 315|58 => 44|33 => 131|n => n, fun|n => n⟩
theorem Tryz.sortedS : Go.Proofs.SlLaysZ.n6 Tryz.prog Tryz.sortedS_ren := {
  mixed := by kernel_rfl,
  f6 := ⟨Tryz.f45.name, by decide, Tryz.func45.trans (congrArg some (by kernel_rfl))⟩,
  f8 := ⟨Tryz.f80.name, by decide, Tryz.func80.trans (congrArg some (by kernel_rfl))⟩,
  f11 := ⟨Tryz.f135.name, by decide, Tryz.func135.trans (congrArg some (by kernel_rfl))⟩,
  t0 := Tryz.underlying0,
  a0 := Tryz.isAgg0,
  z0 := Tryz.sizeOf0,
  v0 := Tryz.zeroValue0,
  t24 := Tryz.underlying64,
  a24 := Tryz.isAgg64,
  z24 := Tryz.sizeOf64,
  v24 := Tryz.zeroValue64,
  t26 := Tryz.underlying9,
  a26 := Tryz.isAgg9,
  z26 := Tryz.sizeOf9,
  v26 := Tryz.zeroValue9,
  t28 := Tryz.underlying108,
  a28 := Tryz.isAgg108,
  z28 := Tryz.sizeOf108,
  v28 := Tryz.zeroValue108,
  i26 := by kernel_rfl }

namespace SrtS
theorem enc_unb (l : List (List UInt8)) : l.map encStr = (unb l).flatMap strc := by
  induction l with
  | nil => rfl
  | cons x r ih => rw [List.map_cons, ih];rfl
theorem unb_len (l : List (List UInt8)) : (unb l).length = l.length := List.length_map _
theorem sorts (m : Nat) : AnyZ.SortsIn Tryz.prog Tryz.sortedS_ren Fence.wide m :=
  ⟨fun blk off cap ss W hH hblk hsz => callsIn_wide.2 (AnyM.slices_Sort_string Tryz.sortS blk off cap ss W hH hblk hsz),
   fun p cap W => callsIn_wide.2 (AnyM.slices_Sort_string_none Tryz.sortS p cap W)⟩
theorem Keys (mb : Option Nat) (w : World) : Calls Tryz.prog 46 #[.map mb] w fun e w' => e = .returned (.func (.func 81) #[] #[.pointer (some ⟨w.heap.size, 0, none⟩)]) ∧ w' = w.alloc (.cells #[.map mb] 90) :=
  callsIn_wide.1 (AnyZ.keys_in Tryz.keysS Fence.wide 6 trivial rfl mb w)
theorem Sorted {w : World} {b Bm : Nat} {L : List Mp.Ent} (h : Mp.Lies w Tryz.prog 9 b L) (hv : ∀ p ∈ L, ∃ x, p.2 = .bool x) (hB : Box w Bm #[.map (some b)] 90) (hL : L.length ≤ 100000) :
    Calls Tryz.prog 45 #[.func (.func 81) #[] #[.pointer (some ⟨Bm, 0, none⟩)]] w fun e w' => ∃ v, e = .returned v ∧
      OwnS w' w.heap.size v (sortL (L.map (·.1))) ∧ Below w.heap.size w w' := by
  obtain ⟨D, hown, hsz, hperm⟩ := h.owns (H := Unit) Tryz.underlying9 Tryz.underlying4 hv
  have hseq : SeqGives Fence.wide 2 Tryz.prog 81 #[.pointer (some ⟨Bm, 0, none⟩)] encStr (fun ss => ss.Perm (strKeys D)) (Maps.size D) w :=
    AnyZ.keys_gives (ρ := Tryz.keysS_ren) { Tryz.keysS with } Fence.wide _ trivial rfl (by omega) Bm b _ D _ hB.lt (hB.cell 0) hown
  have cS := AnyZ.sorted_in Tryz.sortedS Fence.wide 5 trivial trivial trivial trivial rfl (by omega) (sorts _) (enters_of Tryz.func56 (by kernel_rfl) rfl) 81 #[.pointer (some ⟨Bm, 0, none⟩)] trivial (enters_of Tryz.func81 (by kernel_rfl) rfl) _ _ (by unfold maxLen;omega) (by omega) _ hseq
  refine (show Calls Tryz.prog 45 _ w _ from callsIn_wide.1 cS).mono ?_
  rintro e w' ⟨v, ss, rfl, hS, hrow, _, hb⟩
  refine ⟨v, rfl, ?_, hb⟩
  have h1 : ss.mergeSort (fun x y => decide (x ≤ y)) = (bts (L.map (·.1))).mergeSort fun x y => decide (x ≤ y) := by
    have := hS.trans hperm
    unfold bts
    rw [List.map_map]
    exact mergeSort_of_perm this
  rw [h1, enc_unb] at hrow
  have h2 : ss.length = (sortL (L.map (·.1))).length := by
    rw [← List.length_mergeSort ss, h1]
    exact (unb_len _).symm
  unfold OwnS
  rw [← h2]
  exact hrow
end SrtS
end Go.Proofs.YtcfmchpoclkpgaaGreatDoor
namespace Go.Proofs.YtcfmchpoclkpgaaGreatDoor
open Go.RowKit NB
namespace Bk
def pall (zs : List S) (ls : List LinkV) : List (List S) := (List.range zs.length).map (palias zs ls)
def pnames (zs : List S) (ls : List LinkV) : List S := SrtS.sortL (pall zs ls).flatten
end Bk
namespace BkW
end BkW
end Go.Proofs.YtcfmchpoclkpgaaGreatDoor
namespace Go.Proofs.YtcfmchpoclkpgaaGreatDoor
namespace Bk
def lt (a b : S) : Prop := a.data.toList < b.data.toList
abbrev Rising (l : List S) : Prop := l.Pairwise lt
open Classical in
noncomputable def ins (s : S) : List S → List S
  | [] => [s]
  | x :: r => if lt s x then s :: x :: r else if s = x then x :: r else x :: ins s r
end Bk
end Go.Proofs.YtcfmchpoclkpgaaGreatDoor
namespace Go.Proofs.YtcfmchpoclkpgaaGreatDoor
namespace Bk
def cnt (zs : List S) (ls : List LinkV) (k : Nat) : Nat := ((List.range k).map fun i => (palias zs ls i).length).sum
end Bk
end Go.Proofs.YtcfmchpoclkpgaaGreatDoor
