import Derived.Test.YtcfmchpoclkpgaaGreatDoorG17
import Derived.Test.YtcfmchpoclkpgaaGreatDoorG18
import Derived.OwnWalk
import Derived.Lib.SliceRun
import Derived.Lib.AppendZeros
import Derived.Laws.AppendOwnNone
import Derived.Test.YtcfmchpoclkpgaaGreatDoorG13
namespace Go.Proofs.YtcfmchpoclkpgaaGreatDoor
open Go.RowKit NB
namespace RBk
open Eqs
def stepV (o : Option ByteArray) : Value := .tuple #[.string (o.getD ⟨#[]⟩), .bool o.isSome]
def followV (o : Option ByteArray) : Value := .tuple #[.string (o.getD ⟨#[]⟩), .int .i64 (if o.isSome then 0 else 13)]
def mem (s : ByteArray) (l : List ByteArray) : Bool := l.any fun x => decide (x = s)
def zn (t : TabV) : List ByteArray := t.zs.map ZoneV.name
def findR (t : TabV) (s : ByteArray) : Int × Int := Bk.find (zn t) t.ls s
def pairV (x : Int × Int) : Value := .tuple #[.int .i64 x.1, .int .i64 x.2]
end RBk
end Go.Proofs.YtcfmchpoclkpgaaGreatDoor
namespace Go.Proofs.YtcfmchpoclkpgaaGreatDoor
open Go.RowKit NB
namespace Bk
def ltb (a b : S) : Bool := Op.bytesLess a.toList b.toList
def putStep (s : S) (st : List S × Bool) (x : S) : List S × Bool := ((if !st.2 && ltb s x then st.1 ++ [s] else st.1) ++ [x], (!st.2 && ltb s x) || (st.2 || decide (s = x)))
def putL (s : S) (l : List S) : List S × Bool := l.foldl (putStep s) ([], false)
def rput (l : List S) (s : S) : List S := if (putL s l).2 then (putL s l).1 else (putL s l).1 ++ [s]
end Bk
namespace RBk
open Eqs
end RBk
end Go.Proofs.YtcfmchpoclkpgaaGreatDoor
namespace Go.Proofs.YtcfmchpoclkpgaaGreatDoor
open Go.RowKit NB
namespace Bk
def okN (zs : List S) (ls : List LinkV) (s : S) : Bool := decide ((find zs ls s).2 = 0)
def rnames (zs : List S) (ls : List LinkV) : List S := ((zs ++ ls.map LinkV.name).filter (okN zs ls)).foldl rput []
def ralias (zs : List S) (ls : List LinkV) (z : Int) : List S := (rnames zs ls).filter fun s => decide ((find zs ls s).1 = z)
end Bk
namespace RBk
open Eqs
def out (zs : List ByteArray) (ls : List LinkV) (l : List ByteArray) : List ByteArray := (l.filter (Bk.okN zs ls)).foldl Bk.rput []
end RBk
end Go.Proofs.YtcfmchpoclkpgaaGreatDoor
namespace Go.Proofs.YtcfmchpoclkpgaaGreatDoor
open Go.RowKit NB
namespace Bk
def twStep (st : List S × Int) (x : S) : List S × Int := (st.1 ++ [x], if st.2 < 0 ∧ (st.1.any fun y => decide (y = x)) = true then (st.1.length : Int) else st.2)
def tw (done l : List S) : List S × Int := l.foldl twStep (done, -1)
theorem tw_fst (done l : List S) : (tw done l).1 = done ++ l := by
  have h : ∀ (l : List S) (st : List S × Int), (l.foldl twStep st).1 = st.1 ++ l := by
    intro l
    induction l with
    | nil => intro st;simp
    | cons x r ih => intro st;rw [List.foldl_cons, ih];simp [twStep]
  exact h l _
def twice (done l : List S) : Int := if (tw done l).2 < 0 then -1 else (tw done l).2 - done.length
theorem tw_lo (done l : List S) : (tw done l).2 = -1 ∨ (done.length : Int) ≤ (tw done l).2 := by
  have h : ∀ (l : List S) (st : List S × Int), done.length ≤ st.1.length → (st.2 = -1 ∨ (done.length : Int) ≤ st.2) → ((l.foldl twStep st).2 = -1 ∨ (done.length : Int) ≤ (l.foldl twStep st).2) := by
    intro l
    induction l with
    | nil => intro st _ h;exact h
    | cons x r ih =>
      intro st h0 h
      rw [List.foldl_cons]
      refine ih _ (by simp [twStep];omega) ?_
      unfold twStep
      dsimp only
      split
      · exact .inr (by omega)
      · exact h
  exact h l _ (Nat.le_refl _) (.inl rfl)
theorem tw_succ {done l : List S} {k : Nat} {x : S} (hx : l[k]? = some x) : tw done (l.take (k + 1)) = twStep (tw done (l.take k)) x := by
  unfold tw
  rw [List.take_add_one, hx, List.foldl_append]
  rfl
theorem twice_nil (done : List S) : twice done [] = -1 := rfl
theorem twice_succ {done l : List S} {k : Nat} {x : S} (hk : k < l.length) (hx : l[k]? = some x) : twice done (l.take (k + 1)) = if twice done (l.take k) < 0 ∧ ((done ++ l.take k).any fun y => decide (y = x)) = true then (k : Int) else twice done (l.take k) := by
  have h1 := tw_lo done (l.take k)
  have h3 : (done ++ l.take k).length = done.length + k := by rw [List.length_append, List.length_take, Nat.min_eq_left (Nat.le_of_lt hk)]
  unfold twice
  rw [tw_succ hx]
  unfold twStep
  rw [tw_fst, h3]
  dsimp only
  by_cases hm : ((done ++ l.take k).any fun y => decide (y = x)) = true
  · rcases h1 with h1|h1
    · rw [h1]
      simp [hm]
      omega
    · have : ¬ (tw done (l.take k)).2 < 0 := by omega
      have h5 : ¬ ((tw done (l.take k)).2 - done.length < 0) := by omega
      simp only [this, false_and, if_false, h5]
  · simp only [hm]
    simp
end Bk
namespace RBk
open Eqs
def alia (zs : List ByteArray) (ls : List LinkV) (z : Int) (l : List ByteArray) : List ByteArray := l.filter fun s => decide ((Bk.find zs ls s).1 = z)
end RBk
end Go.Proofs.YtcfmchpoclkpgaaGreatDoor
namespace Go.Proofs.YtcfmchpoclkpgaaGreatDoor
open Go.RowKit NB
namespace RBk
open Eqs
def twiceV (zs : List ByteArray) (ls : List LinkV) : Value := .tuple #[.int .i64 (Bk.twice [] zs), .int .i64 (Bk.twice zs (ls.map LinkV.name))]
end RBk
end Go.Proofs.YtcfmchpoclkpgaaGreatDoor
namespace Go.Proofs.YtcfmchpoclkpgaaGreatDoor
open Go.RowKit NB
namespace Bk
def nmap (zs : List S) (ls : List LinkV) : List Mp.Ent := fold ((ls.map fun x => ((x.name, .bool true) : Mp.Ent)).reverse) (fold ((zs.map fun z => ((z, .bool true) : Mp.Ent)).reverse) [])
def keys (zs : List S) (ls : List LinkV) : List S := SrtS.sortL ((nmap zs ls).map (·.1))
def palias (zs : List S) (ls : List LinkV) (i : Nat) : List S := (keys zs ls).filter fun s => decide (find zs ls s = ((i : Int), 0))
end Bk
namespace BkW
abbrev strT : TypeId := 9
def At (W : World) (p : Nat) (zs : List ByteArray) (ls : List LinkV) : Prop :=
  ∃ (bz bn ab : Nat) (vs : List Value), Box W p #[.map (some bz), .map (some bn), .slice (some ⟨ab, 0, none⟩) zs.length zs.length] 99 ∧
    Mp.Lies W Tryz.prog 9 bz (Bk.zmap zs) ∧ Mp.Lies W Tryz.prog 9 bn (Bk.lmap ls) ∧ Box W ab vs.toArray 64 ∧ vs.length = zs.length ∧
    ∀ i v, vs[i]? = some v → OwnS W 0 v (Bk.palias zs ls i)
theorem At.later {W V : World} {p : Nat} {zs : List ByteArray} {ls : List LinkV} (h : At W p zs ls) (hb : Below W.heap.size W V) : At V p zs ls := by
  obtain ⟨bz, bn, ab, vs, h1, h2, h3, h4, h5, h6⟩ := h
  exact ⟨bz, bn, ab, vs, h1.later hb, h2.later hb, h3.later hb, h4.later hb, h5, fun i v hv => RBk.own_lat (h6 i v hv) hb⟩
theorem At.lt {W : World} {p : Nat} {zs : List ByteArray} {ls : List LinkV} (h : At W p zs ls) : p < W.heap.size := by
  obtain ⟨bz, bn, ab, vs, h1, _⟩ := h
  exact h1.lt
theorem law : Maps.Keyed Tryz.prog 9 := Maps.string_keyed Tryz.underlying9
theorem zero_s (w : World) : (zeroValue 9).run Tryz.prog w = .ok (.string ⟨#[]⟩) w := by kernel_rfl
theorem zero_i (w : World) : (zeroValue 3).run Tryz.prog w = .ok (.int .i64 0) w := by kernel_rfl
theorem zero_b (w : World) : (zeroValue 4).run Tryz.prog w = .ok (.bool false) w := by kernel_rfl
open RBk (pairV)
set_option maxRecDepth 100000 in
set_option maxHeartbeats 3200000 in
theorem Find {w : World} {p : Nat} {zs : List ByteArray} {ls : List LinkV} (h : ∃ (bz bn : Nat) (u : Value), Box w p #[.map (some bz), .map (some bn), u] 99 ∧ Mp.Lies w Tryz.prog 9 bz (Bk.zmap zs) ∧ Mp.Lies w Tryz.prog 9 bn (Bk.lmap ls)) (_hz : zs.length ≤ 100000) (hl : ls.length ≤ 100000)
    (hf : ∀ x ∈ ls, x.target.size ≤ 9223372036854775807) (s : ByteArray) (hs : s.size ≤ 9223372036854775807) :
    Calls Tryz.prog 18 #[.pointer (some ⟨p, 0, none⟩), .string s] w fun e w' => e = .returned (pairV (Bk.find zs ls s)) ∧ w = w' := by
  obtain ⟨bz, bn, u, hb, hzm, hlm⟩ := h
  have c0 := hb.cell 0
  have c1 := hb.cell 1
  have hlen := fun ty => hlm.len Tryz.underlying96 ty
  obtain ⟨d, hd⟩ : ∃ d, d = (Bk.lmap ls).length := ⟨_, rfl⟩
  have hdl := Bk.lmap_len ls
  rw [← hd] at hlen hdl
  obtain ⟨R, hR⟩ : ∃ R, R = Bk.find zs ls s := ⟨_, rfl⟩
  rw [← hR]
  unfold Bk.find at hR
  rw [← Bk.follow_lmap, ← hd] at hR
  have hlook : ∀ x : ByteArray, x.size ≤ 9223372036854775807 → (Instr.lookup 96 (.map (some bn)) (.string x) true).run Tryz.prog w = .ok (.tuple #[.string ((Bk.step ls x).getD ⟨#[]⟩), .bool (Bk.step ls x).isSome]) w := fun x hx => by
    have := hlm.look true law Tryz.underlying96 (zero_s w) (s := x) (WideMaps.keyOf_string_mk Tryz.underlying9 hx)
    rw [Bk.get_lmap] at this
    rw [this]
    cases Bk.step ls x <;> rfl
  have hlookz : ∀ x : ByteArray, x.size ≤ 9223372036854775807 → (Instr.lookup 95 (.map (some bz)) (.string x) true).run Tryz.prog w = .ok (.tuple #[.int .i64 (match Bk.zat zs x with|some i => (i : Int)|none => 0), .bool (Bk.zat zs x).isSome]) w := fun x hx => by
    have := hzm.look true law Tryz.underlying95 (zero_i w) (s := x) (WideMaps.keyOf_string_mk Tryz.underlying9 hx)
    rw [Bk.get_zmap] at this
    rw [this]
    cases Bk.zat zs x <;> rfl
  have HR := Lib.hid hR;have HL := Lib.hid hlook;have HZ := Lib.hid hlookz
  have HF := Lib.hid hf
  clear hR hlook hlookz hzm hlm hd hf hb
  go_enter Tryz.func18, Tryz.ntmps18
  go_wp2
  go_loop [18, 1] (fun i c => ∃ (k : Nat) (x : ByteArray), i = .int .i64 k ∧ c = .string x ∧ k ≤ d + 1 ∧ x.size ≤ 9223372036854775807 ∧ Hid (R = Bk.findV zs (Bk.follow (Bk.step ls) (d + 1 - k) x))) (fun i _ => d + 1 - (intOf i).toNat)
  case atStart => exact ⟨0, s, rfl, rfl, Nat.zero_le _, hs, HR.out⟩
  case round =>
    obtain ⟨k, x, rfl, rfl, hk, hx, HS⟩ := hrel
    by_cases hlt : k ≤ d
    · have hs := HS.out
      rw [show d + 1 - k = (d - k) + 1 by omega] at hs
      have hc := HL.out x hx
      obtain ⟨o, ho⟩ : ∃ o, o = Bk.step ls x := ⟨_, rfl⟩
      unfold Bk.follow at hs
      rw [← ho] at hc hs
      have q1 : (k : Int) < (d : Int) + 1 := by omega
      cases o with
      | some y =>
        simp only [Option.getD_some, Option.isSome_some] at hc
        have hy : y.size ≤ 9223372036854775807 := by
          unfold Bk.step at ho
          obtain ⟨z, hz, e⟩ := Option.map_eq_some_iff.1 ho.symm
          rw [← e]
          exact HF.out z (List.mem_of_find?_eq_some hz)
        have HE := Lib.hid hs
        clear hs ho
        go_wp2
        go_round
        case rel => exact ⟨k + 1, y, by go_num, rfl, by omega, hy, by rw [show d + 1 - (k + 1) = d - k by omega];exact HE.out⟩
        case measure => simp [intOf];omega
      | none =>
        simp only [Option.getD_none, Option.isSome_none] at hc
        have hcz := HZ.out x hx
        dsimp only [Bk.findV] at hs
        obtain ⟨o2, ho2⟩ : ∃ o, o = Bk.zat zs x := ⟨_, rfl⟩
        rw [← ho2] at hcz hs
        clear ho ho2
        cases o2 with
        | none =>
          simp only [Option.isSome_none] at hcz
          have HE := Lib.hid hs
          clear hs
          go_wp2
          go_ret2
          exact ⟨by rw [HE.out];rfl, rfl⟩
        | some i =>
          simp only [Option.isSome_some] at hcz
          have HE := Lib.hid hs
          clear hs
          go_wp2
          go_ret2
          exact ⟨by rw [HE.out];rfl, rfl⟩
    · obtain rfl : k = d + 1 := by omega
      have hs := HS.out
      rw [Nat.sub_self] at hs
      have HE := Lib.hid hs
      clear hs
      have q1 : ¬ ((d : Int) + 1 < (d : Int) + 1) := by omega
      go_wp2
      go_ret2
      exact ⟨by rw [HE.out];rfl, rfl⟩
end BkW
end Go.Proofs.YtcfmchpoclkpgaaGreatDoor
namespace Go.Proofs.YtcfmchpoclkpgaaGreatDoor
open Go.RowKit NB
namespace StrL
end StrL
end Go.Proofs.YtcfmchpoclkpgaaGreatDoor
namespace Go.Proofs.YtcfmchpoclkpgaaGreatDoor
open Go.RowKit NB
namespace BkW
def paliasI (zs : List ByteArray) (ls : List LinkV) (z : Int) : List ByteArray := if 0 ≤ z ∧ z < zs.length then Bk.palias zs ls z.toNat else []
end BkW
end Go.Proofs.YtcfmchpoclkpgaaGreatDoor
