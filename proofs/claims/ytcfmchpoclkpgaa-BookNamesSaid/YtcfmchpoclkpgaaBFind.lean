/-
  book.Book as it lies, and (*book.Book).Find.
-/
import Derived.Test.YtcfmchpoclkpgaaStrs
import Derived.Test.YtcfmchpoclkpgaaBookP
import Derived.Test.YtcfmchpoclkpgaaRFind
namespace Go.Proofs.Ytcfmchpoclkpgaa
open Go.RowKit NB
namespace Bk
/-- the names' own map -/
def nmap (zs : List S) (ls : List LinkV) : List Mp.Ent := fold ((ls.map fun x => ((x.name, .bool true) : Mp.Ent)).reverse) (fold ((zs.map fun z => ((z, .bool true) : Mp.Ent)).reverse) [])
/-- the names, rising -/
def keys (zs : List S) (ls : List LinkV) : List S := SrtS.sortL ((nmap zs ls).map (·.1))
/-- those that lead to one zone -/
def palias (zs : List S) (ls : List LinkV) (i : Nat) : List S := (keys zs ls).filter fun s => decide (find zs ls s = ((i : Int), 0))
end Bk
namespace BkW
abbrev strT : TypeId := 9
/-- a book as it lies: its two maps, and each zone's names -/
def At (W : World) (p : Nat) (zs : List ByteArray) (ls : List LinkV) : Prop :=
  ∃ (bz bn ab : Nat) (vs : List Value), Box W p #[.map (some bz), .map (some bn), .slice (some ⟨ab, 0, none⟩) zs.length zs.length] 106 ∧
    Mp.Lies W Try.prog 9 bz (Bk.zmap zs) ∧ Mp.Lies W Try.prog 9 bn (Bk.lmap ls) ∧ Box W ab vs.toArray 48 ∧ vs.length = zs.length ∧
    ∀ i v, vs[i]? = some v → OwnS W 0 v (Bk.palias zs ls i)
theorem At.later {W V : World} {p : Nat} {zs : List ByteArray} {ls : List LinkV} (h : At W p zs ls) (hb : Below W.heap.size W V) : At V p zs ls := by
  obtain ⟨bz, bn, ab, vs, h1, h2, h3, h4, h5, h6⟩ := h
  exact ⟨bz, bn, ab, vs, h1.later hb, h2.later hb, h3.later hb, h4.later hb, h5, fun i v hv => RBk.own_lat (h6 i v hv) hb⟩
theorem At.lt {W : World} {p : Nat} {zs : List ByteArray} {ls : List LinkV} (h : At W p zs ls) : p < W.heap.size := by
  obtain ⟨bz, bn, ab, vs, h1, _⟩ := h
  exact h1.lt
theorem law : Maps.Keyed Try.prog 9 := Maps.string_keyed Try.underlying9
theorem zero_s (w : World) : (zeroValue 9).run Try.prog w = .ok (.string ⟨#[]⟩) w := by kernel_rfl
theorem zero_i (w : World) : (zeroValue 3).run Try.prog w = .ok (.int .i64 0) w := by kernel_rfl
theorem zero_b (w : World) : (zeroValue 4).run Try.prog w = .ok (.bool false) w := by kernel_rfl
open RBk (pairV)
theorem FindNil (s : ByteArray) (w : World) : Calls Try.prog 21 #[.pointer none, .string s] w fun e w' => e = .returned (.tuple #[.int .i64 0, .int .i64 12]) ∧ w = w' := by
  go_enter Try.func21, Try.ntmps21
  go_wp2
  go_ret2
  exact ⟨rfl, rfl⟩
set_option maxRecDepth 100000 in
set_option maxHeartbeats 3200000 in
theorem Find {w : World} {p : Nat} {zs : List ByteArray} {ls : List LinkV} (h : ∃ (bz bn : Nat) (u : Value), Box w p #[.map (some bz), .map (some bn), u] 106 ∧ Mp.Lies w Try.prog 9 bz (Bk.zmap zs) ∧ Mp.Lies w Try.prog 9 bn (Bk.lmap ls)) (hz : zs.length ≤ 100000) (hl : ls.length ≤ 100000)
    (hf : ∀ x ∈ ls, x.target.size ≤ 9223372036854775807) (s : ByteArray) (hs : s.size ≤ 9223372036854775807) :
    Calls Try.prog 21 #[.pointer (some ⟨p, 0, none⟩), .string s] w fun e w' => e = .returned (pairV (Bk.find zs ls s)) ∧ w = w' := by
  obtain ⟨bz, bn, u, hb, hzm, hlm⟩ := h
  have c0 := hb.cell 0
  have c1 := hb.cell 1
  have hlen := fun ty => hlm.len Try.underlying103 ty
  obtain ⟨d, hd⟩ : ∃ d, d = (Bk.lmap ls).length := ⟨_, rfl⟩
  have hdl := Bk.lmap_len ls
  rw [← hd] at hlen hdl
  obtain ⟨R, hR⟩ : ∃ R, R = Bk.find zs ls s := ⟨_, rfl⟩
  rw [← hR]
  unfold Bk.find at hR
  rw [← Bk.follow_lmap, ← hd] at hR
  have hlook : ∀ x : ByteArray, x.size ≤ 9223372036854775807 → (Instr.lookup 103 (.map (some bn)) (.string x) true).run Try.prog w = .ok (.tuple #[.string ((Bk.step ls x).getD ⟨#[]⟩), .bool (Bk.step ls x).isSome]) w := fun x hx => by
    have := hlm.look true law Try.underlying103 (zero_s w) (s := x) (WideMaps.keyOf_string_mk Try.underlying9 hx)
    rw [Bk.get_lmap] at this
    rw [this]
    cases Bk.step ls x <;> rfl
  have hlookz : ∀ x : ByteArray, x.size ≤ 9223372036854775807 → (Instr.lookup 102 (.map (some bz)) (.string x) true).run Try.prog w = .ok (.tuple #[.int .i64 (match Bk.zat zs x with | some i => (i : Int) | none => 0), .bool (Bk.zat zs x).isSome]) w := fun x hx => by
    have := hzm.look true law Try.underlying102 (zero_i w) (s := x) (WideMaps.keyOf_string_mk Try.underlying9 hx)
    rw [Bk.get_zmap] at this
    rw [this]
    cases Bk.zat zs x <;> rfl
  have HR := Lib.hid hR; have HL := Lib.hid hlook; have HZ := Lib.hid hlookz
  have HF := Lib.hid hf
  clear hR hlook hlookz hzm hlm hd hf hb
  go_enter Try.func21, Try.ntmps21
  go_wp2
  go_loop [18, 1] (fun i c => ∃ (k : Nat) (x : ByteArray), i = .int .i64 k ∧ c = .string x ∧ k ≤ d + 1 ∧ x.size ≤ 9223372036854775807 ∧ Hid (R = Bk.findV zs (Bk.follow (Bk.step ls) (d + 1 - k) x))) (fun i _ => d + 1 - (intOf i).toNat)
  case atStart => exact ⟨0, s, rfl, rfl, Nat.zero_le _, hs, HR.out⟩
  case round =>
    obtain ⟨k, x, rfl, rfl, hk, hx, HS⟩ := hrel
    by_cases hlt : k ≤ d
    · have hs := HS.out
      rw [show d + 1 - k = (d - k) + 1 by omega] at hs
      have hc := HL.out x hx
      obtain ⟨o, ho⟩ : ∃ o, o = Bk.step ls x := ⟨_, rfl⟩
      unfold Bk.follow at hs
      rw [← ho] at hc hs
      have q1 : (k : Int) < (d : Int) + 1 := by omega
      cases o with
      | some y =>
        simp only [Option.getD_some, Option.isSome_some] at hc
        have hy : y.size ≤ 9223372036854775807 := by
          unfold Bk.step at ho
          obtain ⟨z, hz, e⟩ := Option.map_eq_some_iff.1 ho.symm
          rw [← e]
          exact HF.out z (List.mem_of_find?_eq_some hz)
        have HE := Lib.hid hs
        clear hs ho
        go_wp2
        go_round
        case rel => exact ⟨k + 1, y, by go_num, rfl, by omega, hy, by rw [show d + 1 - (k + 1) = d - k by omega]; exact HE.out⟩
        case measure => simp [intOf]; omega
      | none =>
        simp only [Option.getD_none, Option.isSome_none] at hc
        have hcz := HZ.out x hx
        dsimp only [Bk.findV] at hs
        obtain ⟨o2, ho2⟩ : ∃ o, o = Bk.zat zs x := ⟨_, rfl⟩
        rw [← ho2] at hcz hs
        clear ho ho2
        cases o2 with
        | none =>
          simp only [Option.isSome_none] at hcz
          have HE := Lib.hid hs
          clear hs
          go_wp2
          go_ret2
          exact ⟨by rw [HE.out]; rfl, rfl⟩
        | some i =>
          simp only [Option.isSome_some] at hcz
          have HE := Lib.hid hs
          clear hs
          go_wp2
          go_ret2
          exact ⟨by rw [HE.out]; rfl, rfl⟩
    · obtain rfl : k = d + 1 := by omega
      have hs := HS.out
      rw [Nat.sub_self] at hs
      have HE := Lib.hid hs
      clear hs
      have q1 : ¬ ((d : Int) + 1 < (d : Int) + 1) := by omega
      go_wp2
      go_ret2
      exact ⟨by rw [HE.out]; rfl, rfl⟩
end BkW
end Go.Proofs.Ytcfmchpoclkpgaa
