import Derived.Test.YtecmipgpldcfcaaGreatDoorG12
import Derived.Test.YtecmipgpldcfcaaGreatDoorG8
import Derived.Test.YtecmipgpldcfcaaGreatDoorG6
import Derived.Test.YtecmipgpldcfcaaGreatDoorG2
import Derived.Deep.DeepCutAuto
import Derived.Deep.RegionHeld3
import Derived.Test.YtecmipgpldcfcaaGreatDoorG3
import Derived.Test.YtecmipgpldcfcaaGreatDoorG10
import Derived.Deep.AppendLies
import Derived.Test.YtecmipgpldcfcaaGreatDoorG5
import Derived.Test.YtecmipgpldcfcaaGreatDoorUntil
import Derived.Deep.Slices
import Derived.SizedLaws
import Derived.Laws.AppendOwn
import Derived.Test.YtecmipgpldcfcaaGreatDoorProg
import Derived.WalkKit
import Derived.Deep.QuietTactic
import Derived.BigQuiet
import Derived.Maps.AppendAt
import Derived.Maps.OwnIn
import Derived.Maps.OwnSet
import Derived.Sort.KeysCollected
import Derived.WideKeyEntry
namespace Go.Proofs.YtecmipgpldcfcaaGreatDoor
open Go.RowKit NB Nxt
namespace Unt
def NearP (l : List RuleV) (e : EraV) (a b : Int) : Prop := e.kind = 2 ∧ ∃ x, Occ.All l e.rules l.length x ∧ a < Chn.inst l e.rules e.off x ∧ Chn.inst l e.rules e.off x < b
open Classical in
noncomputable def nearB (l : List RuleV) (e : EraV) (a b : Int) : Bool := decide (NearP l e a b)
theorem near_true {l : List RuleV} {e : EraV} {a b : Int} (h : NearP l e a b) : nearB l e a b = true := by unfold nearB;simpa using h
theorem near_false {l : List RuleV} {e : EraV} {a b : Int} (h : ¬ NearP l e a b) : nearB l e a b = false := by unfold nearB;simpa using h
def Still (l : List RuleV) (name : ByteArray) (off a b : Int) (c : Option OccV) : Prop := ∀ x, Occ.All l name l.length x → a < Chn.inst l name off x → Chn.inst l name off x < b → ∃ o, c = some o ∧ (x = o ∨ Occ.less o x = true)
theorem cnt {c : Int} : ∀ {L : List Int}, L.Pairwise (· ≠ ·) → L.length ≤ (L.filter fun x => decide (x ≠ c)).length + 1
  | [], _ => Nat.zero_le _
  | x :: xs, h => by
    obtain ⟨h1, h2⟩ := List.pairwise_cons.1 h
    by_cases hx : x = c
    · subst hx
      rw [List.filter_cons_of_neg (by simp)]
      have : (xs.filter fun y => decide (y ≠ x)) = xs := by
        rw [List.filter_eq_self]
        intro y hy
        simpa using fun e => h1 y hy e.symm
      rw [this]
      simp
    · rw [List.filter_cons_of_pos (by simpa using hx)]
      have := cnt (c := c) h2
      simp only [List.length_cons]
      omega
theorem pig : ∀ (n : Nat) (L : List Int), L.Pairwise (· ≠ ·) → (∀ x ∈ L, 0 ≤ x ∧ x < n) → L.length ≤ n
  | 0, L, _, h => by
    cases L with
    | nil => exact Nat.le_refl _
    | cons x xs => have := h x List.mem_cons_self;omega
  | n + 1, L, hp, h => by
    have h1 := cnt (c := (n : Int)) hp
    have h2 := pig n (L.filter fun x => decide (x ≠ (n : Int))) (hp.filter _) (by
      intro x hx
      rw [List.mem_filter] at hx
      have h3 := h x hx.1
      have h4 : x ≠ n := by simpa using hx.2
      omega)
    omega
theorem inL_sorted {l : List RuleV} {name : ByteArray} {T : Int} : ∀ {n : Nat} {fr : OccV}, (Occ.inL l name T fr n).Pairwise (fun a b => Occ.less a b = true)
  | 0, _ => by unfold Occ.inL;exact List.Pairwise.nil
  | n + 1, fr => by
    unfold Occ.inL
    cases h : Occ.nextO l name fr with
    | none => exact List.Pairwise.nil
    | some o =>
      simp only
      split
      · exact List.pairwise_cons.2 ⟨fun x hx => (Occ.inL_all hx).2.2, inL_sorted⟩
      · exact List.Pairwise.nil
theorem inL_few {l : List RuleV} {name : ByteArray} {a T : Int} (h : T - a ≤ 27820800) {n : Nat} : (Occ.inL l name T ⟨-1, 0, a⟩ n).length ≤ l.length := by
  have hp : ((Occ.inL l name T ⟨-1, 0, a⟩ n).map (·.rule)).Pairwise (· ≠ ·) := by
    rw [List.pairwise_map]
    refine List.Pairwise.imp_of_mem ?_ inL_sorted
    intro x y hx hy hl he
    obtain ⟨x1, x2, x3⟩ := Occ.inL_all hx
    obtain ⟨y1, y2, y3⟩ := Occ.inL_all hy
    obtain ⟨i, r, e1, hi, hr, hn, hR, u1, u2, u3⟩ := ChW.rule_of x1
    obtain ⟨j, s, f1, hj, hs, hm, hS, v1, v2, v3⟩ := ChW.rule_of y1
    have hij : i = j := by omega
    subst hij
    rw [hr] at hs
    cases hs
    have hl' := Occ.less_iff.1 hl
    rw [Occ.less_iff] at x3 y3
    simp only at x3 y3
    have hy : x.year < y.year := (Occ.nom_lt hR).1 (by omega)
    have := Occ.nom_mono hR hy
    omega
  have := pig l.length _ hp (by
    intro z hz
    rw [List.mem_map] at hz
    obtain ⟨x, hx, rfl⟩ := hz
    exact (Occ.all_bd (Occ.inL_all hx).1).2.2)
  simpa using this
end Unt
end Go.Proofs.YtecmipgpldcfcaaGreatDoor
namespace Go.Proofs.YtecmipgpldcfcaaGreatDoor
open Go.RowKit NB Nxt
namespace Unt
def nearO (l : List RuleV) (o : Option EraV) (a b : Int) : Prop := match o with|some e => NearP l e a b|none => False
open Classical in
noncomputable def badAt (l : List RuleV) (es : List EraV) (L : List Int) (i : Nat) : Int := match L[i]? with
  | none => 0
  | some t =>
    let p := if 0 < i then (L[i - 1]?).getD 0 else t - 345600
    if t ≤ p then 14 else if t - p < 345600 ∨ nearO l es[i]? (t - 172800) t ∨ nearO l es[i + 1]? t (t + 172800) then 15 else 0
noncomputable def first (f : Nat → Int) : Nat → Nat → Int × Int
  | 0, _ => (-1, 0)
  | c + 1, k => if f k = 0 then first f c (k + 1) else (k, f k)
noncomputable def checkU (l : List RuleV) (es : List EraV) : Int × Int := if Zn.zoneB es then first (badAt l es (Zn.endsL l es)) (Zn.endsL l es).length 0 else (-1, 4)
theorem first_at {f : Nat → Int} {m k : Nat} (h : k < m) : first f (m - k) k = if f k = 0 then first f (m - (k + 1)) (k + 1) else (k, f k) := by
  obtain ⟨d, hd⟩ : ∃ d, m - k = d + 1 := ⟨m - k - 1, by omega⟩
  rw [hd, show m - (k + 1) = d by omega]
  rfl
theorem ends_take {l : List RuleV} {es : List EraV} (h : Zn.OkTo es es.length) : ∀ k : Nat, k < es.length → Zn.endsL l (es.take k) = (es.take k).map fun e => (instU l e).1
  | 0, _ => by simp [Zn.endsL]
  | k + 1, hk => by
    obtain ⟨e, he⟩ : ∃ e, es[k]? = some e := ⟨es[k], by simp⟩
    have ih := ends_take (l := l) h k (by omega)
    have hok := h k e (by omega) he
    unfold Zn.okAt at hok
    simp only [Bool.and_eq_true, beq_iff_eq] at hok
    have hh : e.u.has = true := by rw [hok.2];simpa using hk
    rw [Zn.endsL_succ he, ih, if_pos hh, List.take_add_one, he, List.map_append]
    rfl
theorem ends_all {l : List RuleV} {es : List EraV} (h0 : 0 < es.length) (h : Zn.OkTo es es.length) : Zn.endsL l es = (es.take (es.length - 1)).map fun e => (instU l e).1 := by
  obtain ⟨n, hn⟩ : ∃ n, es.length = n + 1 := ⟨es.length - 1, by omega⟩
  obtain ⟨e, he⟩ : ∃ e, es[n]? = some e := ⟨es[n], by simp⟩
  have hok := h n e (by omega) he
  unfold Zn.okAt at hok
  simp only [Bool.and_eq_true, beq_iff_eq] at hok
  have hh : e.u.has = false := by rw [hok.2];simp;omega
  have h1 : Zn.endsL l es = Zn.endsL l (es.take (n + 1)) := by rw [← hn, List.take_length]
  rw [h1, Zn.endsL_succ he, hh, hn]
  simp only [Bool.false_eq_true, if_false, List.append_nil, Nat.add_sub_cancel]
  exact ends_take h n (by omega)
theorem ends_len {l : List RuleV} {es : List EraV} (hz : Zn.zoneB es = true) : (Zn.endsL l es).length + 1 = es.length := by
  obtain ⟨h0, h⟩ := Zn.zone_iff.1 hz
  rw [ends_all h0 h, List.length_map, List.length_take]
  omega
theorem end_at {l : List RuleV} {es : List EraV} (hz : Zn.zoneB es = true) {i : Nat} {t : Int} (ht : (Zn.endsL l es)[i]? = some t) : ∃ e f, es[i]? = some e ∧ es[i + 1]? = some f ∧ Er.rightB e = true ∧ Er.rightB f = true ∧ t = (instU l e).1 ∧ -3000000000000 ≤ t ∧ t ≤ 3000000000000 := by
  obtain ⟨h0, h⟩ := Zn.zone_iff.1 hz
  have hl := ends_len (l := l) hz
  have hi : i < (Zn.endsL l es).length := (List.getElem?_eq_some_iff.1 ht).1
  obtain ⟨e, he⟩ : ∃ e, es[i]? = some e := ⟨es[i]'(by omega), by simp⟩
  obtain ⟨f, hf⟩ : ∃ e, es[i + 1]? = some e := ⟨es[i + 1]'(by omega), by simp⟩
  have oe := h i e (by omega) he
  have of' := h (i + 1) f (by omega) hf
  unfold Zn.okAt at oe of'
  simp only [Bool.and_eq_true, beq_iff_eq] at oe of'
  have hh : e.u.has = true := by rw [oe.2];simp;omega
  rw [ends_all h0 h, List.getElem?_map, List.getElem?_take, if_pos (by omega), he] at ht
  have htt : t = (instU l e).1 := by cases ht;rfl
  refine ⟨e, f, he, hf, oe.1, of'.1, htt, ?_⟩
  have rs := right_spec oe.1
  have es' := end_spec hh rs.2.1
  have sb := saved_bd (l := l) oe.1 (nomV e.u)
  have sh := Chn.shift_bd (base := e.u.base) (Chn.may_iff.2 rs.1) sb.1 sb.2
  have : (instU l e).1 = nomV e.u - Chn.shift e.off e.u.base (savedE l e (nomV e.u)) := by
    unfold instU
    rw [if_pos oe.1, if_pos hh]
  omega
end Unt
end Go.Proofs.YtecmipgpldcfcaaGreatDoor
namespace Go.Proofs.YtecmipgpldcfcaaGreatDoor
open Go.RowKit NB Nxt
namespace Unt
theorem first_or {f : Nat → Int} : ∀ (c k : Nat), (first f c k = (-1, 0) ∧ ∀ j, k ≤ j → j < k + c → f j = 0) ∨ ∃ j : Nat, first f c k = ((j : Int), f j) ∧ f j ≠ 0 ∧ j < k + c
  | 0, k => .inl ⟨rfl, fun j h1 h2 => by omega⟩
  | c + 1, k => by
    unfold first
    by_cases h : f k = 0
    · rw [if_pos h]
      rcases first_or (f := f) c (k + 1) with ⟨h1, h2⟩|⟨j, h1, h2, h3⟩
      · refine .inl ⟨h1, fun j h3 h4 => ?_⟩
        by_cases hj : j = k
        · rw [hj];exact h
        · exact h2 j (by omega) (by omega)
      · exact .inr ⟨j, h1, h2, by omega⟩
    · rw [if_neg h]
      exact .inr ⟨k, rfl, h, by omega⟩
theorem bad_val (l : List RuleV) (es : List EraV) (L : List Int) (i : Nat) : badAt l es L i = 0 ∨ badAt l es L i = 14 ∨ badAt l es L i = 15 := by
  unfold badAt
  cases L[i]? with
  | none => exact .inl rfl
  | some t =>
    simp only
    generalize (if 0 < i then (L[i - 1]?).getD 0 else t - 345600) = q
    split
    · exact .inr (.inl rfl)
    · split
      · exact .inr (.inr rfl)
      · exact .inl rfl
theorem check_form {l : List RuleV} {es : List EraV} (h : Zn.zoneB es = false) : checkU l es = (-1, 4) ∧ Zn.endsE es = 4 ∧ Zn.endsR l es = [] := by
  refine ⟨?_, ?_, ?_⟩
  · unfold checkU;rw [h];rfl
  · unfold Zn.endsE;rw [h];rfl
  · unfold Zn.endsR;rw [h];rfl
theorem check_zone {l : List RuleV} {es : List EraV} (h : Zn.zoneB es = true) : Zn.endsE es = 0 ∧ Zn.endsR l es = Zn.endsL l es ∧ ((checkU l es = (-1, 0) ∧ ∀ i, i < (Zn.endsL l es).length → badAt l es (Zn.endsL l es) i = 0) ∨ ∃ (j : Nat) (s : Int), checkU l es = ((j : Int), s) ∧ (s = 14 ∨ s = 15) ∧ j < (Zn.endsL l es).length) := by
  refine ⟨?_, ?_, ?_⟩
  · unfold Zn.endsE;rw [if_pos h]
  · unfold Zn.endsR;rw [if_pos h]
  · unfold checkU
    rw [if_pos h]
    rcases first_or (f := badAt l es (Zn.endsL l es)) (Zn.endsL l es).length 0 with ⟨h1, h2⟩|⟨j, h1, h2, h3⟩
    · exact .inl ⟨h1, fun i hi => h2 i (by omega) (by omega)⟩
    · refine .inr ⟨j, _, h1, ?_, by omega⟩
      rcases bad_val l es (Zn.endsL l es) j with h|h|h
      · exact absurd h h2
      · exact .inl h
      · exact .inr h
end Unt
end Go.Proofs.YtecmipgpldcfcaaGreatDoor
namespace Go.Proofs.YtecmipgpldcfcaaGreatDoor
open Go.RowKit NB
namespace Fmt
def dig (k : Int) : List Int := [48 + k / 10, 48 + k % 10]
def hms (n : Int) : List Int := dig (n / 3600) ++ ((if 0 < n % 3600 then dig (n / 60 % 60) else []) ++ (if 0 < n % 60 then dig (n % 60) else []))
def bytesOf (l : List Int) : ByteArray := ⟨(l.map fun d => UInt8.ofNat d.toNat).toArray⟩
def writtenL (off : Int) : List Int := if off < 0 then 45 :: hms (-off) else 43 :: hms off
def writtenB (off : Int) : ByteArray := bytesOf (writtenL off)
theorem bytes_app (a b : List Int) : bytesOf a ++ bytesOf b = bytesOf (a ++ b) := by
  unfold bytesOf
  apply ByteArray.ext
  simp
def abbrF (s : ByteArray) (off save : Int) (letter : ByteArray) : ByteArray × Int :=
  if checkE s ≠ 0 then (⟨#[]⟩, checkE s)
  else if off < -359999 ∨ 359999 < off then (⟨#[]⟩, 1)
  else if (cutF s).1 = 2 then ((cutF s).2.1 ++ letter ++ (cutF s).2.2, 0)
  else if (cutF s).1 = 3 then (writtenB off, 0)
  else if (cutF s).1 = 4 ∧ save ≠ 0 then ((cutF s).2.2, 0)
  else ((cutF s).2.1, 0)
theorem kind_cases (s : ByteArray) (h : (cutF s).1 ≠ 0) :
    (s.data.toList = [37, 122] ∧ cutF s = (3, ⟨#[]⟩, ⟨#[]⟩)) ∨ (s.data.toList ≠ [37, 122] ∧ ∃ a b, s.data.toList = a ++ 37 :: 115 :: b ∧ wd a = true ∧ wd b = true ∧ cutF s = (2, ⟨a.toArray⟩, ⟨b.toArray⟩)) ∨ (s.data.toList ≠ [37, 122] ∧ ∃ a b, s.data.toList = a ++ 47 :: b ∧ wd a = true ∧ wd b = true ∧ cutF s = (4, ⟨a.toArray⟩, ⟨b.toArray⟩)) ∨ (s.data.toList ≠ [37, 122] ∧ wd s.data.toList = true ∧ cutF s = (1, s, ⟨#[]⟩)) := by
  have e : s.toList = s.data.toList := ByteArray.toList_eq s
  have ew : wordB s = wd s.data.toList := rfl
  unfold cutF at h ⊢
  simp only [e, ew] at h ⊢
  by_cases h0 : s.data.toList = [37, 122]
  · exact .inl ⟨h0, if_pos h0⟩
  · rw [if_neg h0] at h ⊢
    by_cases h1 : (Go.Lib.cut s.data.toList [37, 115]).2.2 = true ∧ wd (Go.Lib.cut s.data.toList [37, 115]).1 = true ∧ wd (Go.Lib.cut s.data.toList [37, 115]).2.1 = true
    · rw [if_pos h1] at h ⊢
      exact .inr (.inl ⟨h0, _, _, (cut_is h1.1).trans (List.append_assoc _ _ _), h1.2.1, h1.2.2, rfl⟩)
    · rw [if_neg h1] at h ⊢
      by_cases h2 : (Go.Lib.cut s.data.toList [47]).2.2 = true ∧ (Go.Lib.cut s.data.toList [47]).1 ≠ [] ∧ (Go.Lib.cut s.data.toList [47]).2.1 ≠ [] ∧ wd (Go.Lib.cut s.data.toList [47]).1 = true ∧ wd (Go.Lib.cut s.data.toList [47]).2.1 = true
      · rw [if_pos h2] at h ⊢
        exact .inr (.inr (.inl ⟨h0, _, _, (cut_is h2.1).trans (List.append_assoc _ _ _), h2.2.2.2.1, h2.2.2.2.2, rfl⟩))
      · rw [if_neg h2] at h ⊢
        by_cases h3 : s.data.toList ≠ [] ∧ wd s.data.toList = true
        · rw [if_pos h3] at h ⊢
          exact .inr (.inr (.inr ⟨h0, h3.2, rfl⟩))
        · rw [if_neg h3] at h
          exact absurd rfl h
theorem check_kind {s : ByteArray} (h : checkE s = 0) : (cutF s).1 ≠ 0 ∧ s.size ≤ 16 := by
  unfold checkE at h
  split at h
  · cases h
  · rename_i h1
    split at h
    · cases h
    · rename_i h2
      exact ⟨h2, by omega⟩
def sub (s : ByteArray) (i j : Nat) : ByteArray := ⟨((s.data.toList.take j).drop i).toArray⟩
theorem abbr_ref {s : ByteArray} {off save : Int} {letter : ByteArray} (hc : checkE s = 0) (h1 : ¬ (off < -359999 ∨ 359999 < off)) {p q : Int} (hp : FindIs s.data.toList 37 p) (hq : FindIs s.data.toList 47 q) :
    (s.data.toList = [37, 122] ∧ abbrF s off save letter = (writtenB off, 0)) ∨ (s.data.toList ≠ [37, 122] ∧ ∃ i : Nat, p = i ∧ i + 2 ≤ s.size ∧ abbrF s off save letter = (sub s 0 i ++ letter ++ sub s (i + 2) s.size, 0)) ∨ (s.data.toList ≠ [37, 122] ∧ p < 0 ∧ ∃ i : Nat, q = i ∧ i + 1 ≤ s.size ∧ abbrF s off save letter = (if save = 0 then sub s 0 i else sub s (i + 1) s.size, 0)) ∨ (s.data.toList ≠ [37, 122] ∧ p < 0 ∧ q < 0 ∧ abbrF s off save letter = (s, 0)) := by
  have hk := (check_kind hc).1
  have hsz : s.size = s.data.toList.length := (Array.length_toList).symm
  unfold abbrF sub
  rw [if_neg (by simpa using hc), if_neg h1, hsz]
  rcases kind_cases s hk with ⟨h0, hcut⟩|⟨h0, a, b, e, ha, hb, hcut⟩|⟨h0, a, b, e, ha, hb, hcut⟩|⟨h0, hw, hcut⟩
  · rw [hcut]
    exact .inl ⟨h0, by simp⟩
  · rw [hcut]
    refine .inr (.inl ⟨h0, a.length, ?_, ?_, ?_⟩)
    · have hb1 : ∀ j : Nat, (115 :: b : List UInt8)[j]? ≠ some 37 := by
        have := no_in (a := []) (r := b) (c := 37) (d := 115) (by decide) (by simp) (wd_not hb not37)
        simpa using this
      have po := pos_one (wd_not ha not37) hb1
      rw [← e] at po
      exact find_one hp po.1 po.2
    · rw [e];simp
    · rw [e]
      simp only [if_true]
      congr 2
      · congr 1
        simp
      · rw [List.take_length, show a.length + 2 = (a ++ [37, 115]).length by simp, show a ++ 37 :: 115 :: b = (a ++ [37, 115]) ++ b by simp, List.drop_left]
  · rw [hcut]
    have po := pos_one (wd_not ha not47) (wd_not hb not47)
    rw [← e] at po
    have n37 := no_in (a := a) (r := b) (c := 37) (d := 47) (by decide) (wd_not ha not37) (wd_not hb not37)
    rw [← e] at n37
    have ep := find_none hp n37
    refine .inr (.inr (.inl ⟨h0, by omega, a.length, find_one hq po.1 po.2, by rw [e];simp, ?_⟩))
    rw [e]
    have e1 : ((a ++ 47 :: b).take a.length).drop 0 = a := by simp
    have e2 : ((a ++ 47 :: b).take (a ++ 47 :: b).length).drop (a.length + 1) = b := by
      rw [List.take_length, show a.length + 1 = (a ++ [47]).length by simp, show a ++ 47 :: b = (a ++ [47]) ++ b by simp, List.drop_left]
    rw [e1, e2]
    by_cases hs : save = 0
    · simp [hs]
    · simp [hs]
  · rw [hcut]
    have ep := find_none hp (wd_not hw not37)
    have eq' := find_none hq (wd_not hw not47)
    exact .inr (.inr (.inr ⟨h0, by omega, by omega, by simp⟩))
end Fmt
end Go.Proofs.YtecmipgpldcfcaaGreatDoor
namespace Go.Proofs.YtecmipgpldcfcaaGreatDoor
namespace Frc
section
variable {γ : Type} {S : OccV → Prop} {I : OccV → Int} {val : OccV → γ} {fst : γ}
structure Line (S : OccV → Prop) (I : OccV → Int) : Prop where
  mono : ∀ x y, S x → S y → Occ.less x y = true → I x < I y
  tri : ∀ x y, S x → S y → Occ.less x y = true ∨ x = y ∨ Occ.less y x = true
def Last (S : OccV → Prop) (I : OccV → Int) (t : Int) : Option OccV → Prop
  | none => ∀ x, S x → t < I x
  | some o => S o ∧ I o ≤ t ∧ ∀ x, S x → Occ.less o x = true → t < I x
def state (val : OccV → γ) (fst : γ) : Option OccV → γ
  | none => fst
  | some o => val o
def After : Option OccV → OccV → Prop
  | none, _ => True
  | some o, x => Occ.less o x = true
def Nxt (S : OccV → Prop) (val : OccV → γ) (c : Option OccV) (v : γ) : Option OccV → Prop
  | none => ∀ x, S x → After c x → val x = v
  | some y => S y ∧ After c y ∧ val y ≠ v ∧ ∀ x, S x → After c x → Occ.less x y = true → val x = v
def Prv (S : OccV → Prop) (val : OccV → γ) (o : OccV) (v : γ) : Option OccV → Prop
  | none => ∀ x, S x → Occ.less x o = true → val x = v
  | some y => S y ∧ Occ.less y o = true ∧ val y ≠ v ∧ ∀ x, S x → Occ.less x o = true → Occ.less y x = true → val x = v
def Suc (S : OccV → Prop) (c : Option OccV) : Option OccV → Prop
  | none => ∀ x, S x → ¬ After c x
  | some q => S q ∧ After c q ∧ ∀ x, S x → After c x → Occ.less x q = false
def Began (S : OccV → Prop) (val : OccV → γ) (fst : γ) (c r : Option OccV) : Prop := match c with
  | none => r = none
  | some o => (∃ x, Prv S val o (val o) (some x) ∧ Suc S (some x) r) ∨ (Prv S val o (val o) none ∧ fst = val o ∧ r = none) ∨ (Prv S val o (val o) none ∧ fst ≠ val o ∧ Suc S none r)
theorem Last.at (L : Line S I) {y : OccV} (hy : S y) : Last S I (I y) (some y) := ⟨hy, Int.le_refl _, fun x hx hl => L.mono y x hy hx hl⟩
def Told (S : OccV → Prop) (I : OccV → Int) (val : OccV → γ) (fst : γ) (t : Int) (o q : OccV) : Prop :=
  S q ∧ (q = o ∨ Occ.less q o = true) ∧ I q ≤ t ∧ val q = val o ∧ (∀ x, S x → (x = q ∨ Occ.less q x = true) → (x = o ∨ Occ.less x o = true) → val x = val o) ∧ ∀ d, Last S I (I q - 1) d → state val fst d ≠ val o ∧ Suc S d (some q)
end
end Frc
end Go.Proofs.YtecmipgpldcfcaaGreatDoor
namespace Go.Proofs.YtecmipgpldcfcaaGreatDoor
open Go.RowKit NB
namespace Apt
def wLow (r : RuleV) : Int := (Cal.cum 2001 r.month + 1 + Day.winLow r.kind r.day r.month - 2) * 86400 + r.sec
def wHigh (r : RuleV) : Int := (Cal.cum 2001 r.month + 1 + Day.winHigh r.kind r.day r.month - 2) * 86400 + r.sec
theorem win_bd {k wk d m : Int} (h : Day.fits k wk d m = true) : -10 ≤ Day.winLow k d m ∧ Day.winLow k d m ≤ 40 ∧ -10 ≤ Day.winHigh k d m ∧ Day.winHigh k d m ≤ 40 := by
  obtain ⟨_, _, _, _⟩ := Day.days31 h
  have h1 := Cal.len_le 1 m
  have h4 := Cal.len_le 4 m
  obtain ⟨h1m, h2m, _, _⟩ := Day.fits_spec h
  have h5 := Cal.len_bd 1 m h1m h2m
  unfold Day.winLow Day.winHigh
  repeat' split
  all_goals omega

end Apt
end Go.Proofs.YtecmipgpldcfcaaGreatDoor
namespace Go.Proofs.YtecmipgpldcfcaaGreatDoor
open Go.RowKit NB
namespace Apt
def meetB (a b : RuleV) (n : Int) : Bool := decide (a.fr + n ≤ b.to) && decide (b.fr ≤ a.to + n)
def Yr (r : RuleV) : Prop := (-100000 ≤ r.fr ∧ r.fr ≤ 100000) ∧ (-100000 ≤ r.to ∧ r.to ≤ 100000)
def clearB (h l n : Int) : Bool := decide (345600 ≤ l + n - h)
def Sm (n : Int) : Prop := -1000000000000 ≤ n ∧ n ≤ 1000000000000
structure Ok (r : RuleV) : Prop where
  f : Day.fits r.kind r.week r.day r.month = true
  s0 : 0 ≤ r.sec
  s1 : r.sec ≤ 172800
  y : Yr r
theorem win_sm {r : RuleV} (h : Ok r) : Sm (wLow r) ∧ Sm (wHigh r) := by
  obtain ⟨m1, m2, _, _⟩ := Day.fits_spec h.f
  obtain ⟨b1, b2, b3, b4⟩ := win_bd h.f
  have hc1 := Cal.cum_bd 2001 r.month m1 m2
  have hlp := Cal.lp_01 2001
  have hlen := Cal.len_bd 2001 r.month m1 m2
  have := h.s0
  have := h.s1
  unfold Sm wLow wHigh
  omega
def nearB (a b : RuleV) : Bool := (meetB a b 0 && !clearB (wHigh a) (wLow b) 0 && !clearB (wHigh b) (wLow a) 0) || (meetB a b 1 && !clearB (wHigh a) (wLow b) 31536000) || (meetB b a 1 && !clearB (wHigh b) (wLow a) 31536000)

end Apt
end Go.Proofs.YtecmipgpldcfcaaGreatDoor
namespace Go.Proofs.YtecmipgpldcfcaaGreatDoor
open Go.RowKit NB
namespace Apt
theorem ok_of {r : RuleV} (h : Rul.right r = true) : Ok r := by
  obtain ⟨h1, h2, h3, _⟩ := Rul.right_spec h
  refine ⟨h2, h3.2.2.1, h3.2.2.2, ?_⟩
  unfold Yr
  omega
def pairE (a b : RuleV) : Int := if Rul.right a && Rul.right b then (if nearB a b then 15 else 0) else 4
end Apt
end Go.Proofs.YtecmipgpldcfcaaGreatDoor
namespace Go.Proofs.YtecmipgpldcfcaaGreatDoor
open Go.RowKit NB
namespace Chk
def firstBad (r : RuleV) : List RuleV → Int
  | [] => 0
  | x :: xs => if Apt.pairE x r = 0 then firstBad r xs else Apt.pairE x r
def same (r : RuleV) (done : List RuleV) : List RuleV := done.filter fun x => decide (x.name = r.name)
def scan : List RuleV → List RuleV → Int → Int × Int
  | _, [], _ => (-1, 0)
  | done, r :: rs, i => if firstBad r (same r done) = 0 then scan (done ++ [r]) rs (i + 1) else (i, firstBad r (same r done))
def check (l : List RuleV) : Int × Int := scan [] l 0
theorem check_at {l : List RuleV} {k : Nat} {r : RuleV} (hr : l[k]? = some r) : scan (l.take k) (l.drop k) k = if firstBad r (same r (l.take k)) = 0 then scan (l.take (k + 1)) (l.drop (k + 1)) (k + 1 : Nat) else (k, firstBad r (same r (l.take k))) := by
  obtain ⟨hk, rfl⟩ := List.getElem?_eq_some_iff.1 hr
  rw [List.drop_eq_getElem_cons hk, scan, List.take_add_one, hr]
  rfl
def F (done : List RuleV) : Value → List Value
  | .string s => (done.filter fun x => decide (x.name = s)).flatMap RuleV.cells
  | _ => []
theorem cells_len (r : RuleV) : r.cells.length = 11 := rfl
def Post (X : Int × Int) (w : World) (e : Ending) (w' : World) : Prop := e = .returned (.tuple #[.int .i64 X.1, .int .i64 X.2]) ∧ Below w.heap.size w w'
end Chk
end Go.Proofs.YtecmipgpldcfcaaGreatDoor
namespace Go.Proofs.YtecmipgpldcfcaaGreatDoor
open Go.RowKit NB
namespace Far
def sh (m y : Int) : Int := if 3 ≤ m then Cal.lp y else 0
end Far
end Go.Proofs.YtecmipgpldcfcaaGreatDoor
namespace Go.Proofs.YtecmipgpldcfcaaGreatDoor
open Go.RowKit
structure ValV where
  off : Int
  save : Int
  abbr : ByteArray
deriving DecidableEq
def ValV.cells (v : ValV) : List Value := [.int .i64 v.off, .int .i64 v.save, .string v.abbr]
namespace Frc
def valR (e : EraV) (save : Int) (letter : ByteArray) : ValV := ⟨wrap64 (e.off + save), save, (Fmt.abbrF e.format (wrap64 (e.off + save)) save letter).1⟩
def valO (e : EraV) (r : RuleV) : ValV := valR e r.save r.letter
def valAt (l : List RuleV) (e : EraV) (i : Int) : ValV := match Chn.ruleAt l i with|some r => valO e r|none => ⟨0, 0, ⟨#[]⟩⟩
def firstV (l : List RuleV) (e : EraV) : ValV := match l.find? (fun r => decide (r.name = e.rules) && decide (r.save = 0)) with|some r => valR e 0 r.letter|none => valR e 0 ⟨#[]⟩
noncomputable def lastP (l : List RuleV) (e : EraV) (t : Int) : Option OccV := Chn.lastO l e.rules e.off t
noncomputable def stateV (l : List RuleV) (e : EraV) (t : Int) : ValV := match lastP l e t with|some o => valAt l e o.rule|none => firstV l e
noncomputable def atV (l : List RuleV) (e : EraV) (t : Int) : ValV × Int := if Er.rightB e then (if e.kind = 2 then (stateV l e t, 0) else (valR e e.save ⟨#[]⟩, 0)) else (⟨0, 0, ⟨#[]⟩⟩, 4)
def othV (l : List RuleV) (e : EraV) (v : ValV) : List RuleV := l.map fun r => if r.name = e.rules ∧ valO e r = v then { r with name := ⟨#[]⟩ } else r
def startO : OccV := ⟨-1, 0, -2192387558400⟩
noncomputable def nextF (l : List RuleV) (e : EraV) (t : Int) : Option OccV := Occ.nextO (othV l e (stateV l e t)) e.rules ((lastP l e t).getD startO)
noncomputable def prevF (l : List RuleV) (e : EraV) (t : Int) : Option OccV := match lastP l e t with
  | none => none
  | some o => match Occ.prevO (othV l e (stateV l e t)) e.rules o with
    | some x => Occ.nextO l e.rules x
    | none => if firstV l e = stateV l e t then none else Occ.nextO l e.rules startO
def tell (l : List RuleV) (e : EraV) : Option OccV → Int × Bool|some o => (Chn.inst l e.rules e.off o, true)|none => (0, false)
noncomputable def nextV (l : List RuleV) (e : EraV) (t : Int) : Int × Bool := if Er.rightB e = true ∧ e.kind = 2 then tell l e (nextF l e t) else (0, false)
noncomputable def prevV (l : List RuleV) (e : EraV) (t : Int) : Int × Bool := if Er.rightB e = true ∧ e.kind = 2 then tell l e (prevF l e t) else (0, false)
theorem rule_of {l : List RuleV} {name : ByteArray} {n : Nat} {o : OccV} (h : Occ.All l name n o) : ∃ (i : Nat) (r : RuleV), o.rule = i ∧ i < n ∧ l[i]? = some r ∧ r.name = name ∧ Rul.right r = true := by
  obtain ⟨i, r, hi, hr, hn, hR, _, _, e⟩ := h
  exact ⟨i, r, by rw [e];rfl, hi, hr, hn, hR⟩
theorem val_rule {l : List RuleV} {e : EraV} {i : Nat} {r : RuleV} (h : l[i]? = some r) : valAt l e (i : Int) = valO e r := by
  unfold valAt
  rw [Chn.rule_at h]
def SA (l : List RuleV) (e : EraV) : OccV → Prop := Occ.All l e.rules l.length
def IA (l : List RuleV) (e : EraV) : OccV → Int := Chn.inst l e.rules e.off
def VA (l : List RuleV) (e : EraV) : OccV → ValV := fun o => valAt l e o.rule
section
variable {l : List RuleV} {e : EraV} (hc : (Chk.check l).2 = 0) (hm : Chn.may e.off = true) (hn : e.rules ≠ ⟨#[]⟩) {t : Int} (h0 : -1999000000000 ≤ t) (h1 : t ≤ 1999000000000)
include hc hm hn h0 h1
end
end Frc
end Go.Proofs.YtecmipgpldcfcaaGreatDoor
namespace Go.Proofs.YtecmipgpldcfcaaGreatDoor
open Go.RowKit
namespace L33
open Frc
noncomputable def AV (l : List RuleV) (e : EraV) (s : Int) : ValV := (atV l e s).1
section
variable {l : List RuleV} {e : EraV} (hc : (Chk.check l).2 = 0) (hR : Er.rightB e = true) {t : Int} (h0 : -1999000000000 ≤ t) (h1 : t ≤ 1999000000000)
include hc hR h0 h1
end
end L33
end Go.Proofs.YtecmipgpldcfcaaGreatDoor
namespace Go.Proofs.YtecmipgpldcfcaaGreatDoor
open Go.RowKit NB
structure HoldsG {α : Type} (k : Nat) (f : α → List Value) (w : World) (v : Value) (l : List α) : Prop where
  lies : (∃ p cap, v = .slice p 0 cap ∧ l = []) ∨ (∃ b off cap, v = .slice (some ⟨b, off, none⟩) l.length cap ∧ b < w.heap.size ∧ Lies w b off k (l.map f))
  len : l.length ≤ 9223372036854775807
namespace HoldsG
variable {α : Type} {k : Nat} {f : α → List Value} {w w' : World} {v : Value} {l : List α}
theorem later (h : HoldsG k f w v l) (hb : Below w.heap.size w w') : HoldsG k f w' v l := by
  refine ⟨?_, h.len⟩
  rcases h.lies with h1|⟨b, off, cap, h1, h2, h3⟩
  · exact .inl h1
  · refine .inr ⟨b, off, cap, h1, Nat.lt_of_lt_of_le h2 hb.size, fun i j cs v hi hj => ?_⟩
    rw [hb.cell (p := ⟨b, off + i * k + j, none⟩) h2]
    exact h3 i j cs v hi hj
theorem form (h : HoldsG k f w v l) : ∃ p cap, v = .slice p l.length cap := by
  rcases h.lies with ⟨p, cap, h1, h2⟩|⟨b, off, cap, h1, _, _⟩
  · exact ⟨p, cap, by rw [h1, h2];rfl⟩
  · exact ⟨_, cap, h1⟩
theorem keep (h : HoldsG k f w v l) (hsz : w.heap.size ≤ w'.heap.size) (hb : ∀ b, v.ownBlock = some b → b < w.heap.size → w'.heap[b]? = w.heap[b]?) : HoldsG k f w' v l := by
  refine ⟨?_, h.len⟩
  rcases h.lies with h1|⟨b, off, cap, h1, h2, h3⟩
  · exact .inl h1
  · refine .inr ⟨b, off, cap, h1, Nat.lt_of_lt_of_le h2 hsz, fun i j cs v hi hj => ?_⟩
    rw [World.cell?_of_block (w := w) (hb b (by rw [h1];rfl) h2)]
    exact h3 i j cs v hi hj
end HoldsG
theorem flatG_at {α : Type} {k : Nat} {f : α → List Value} (hf : ∀ x, (f x).length = k) : ∀ (l : List α) (i j : Nat) (x : α) (u : Value), l[i]? = some x → (f x)[j]? = some u → (l.flatMap f)[i * k + j]? = some u
  | [], i, j, x, u, h, _ => by simp at h
  | y :: r, 0, j, x, u, h, hu => by
    simp at h;subst h
    rw [List.flatMap_cons, Nat.zero_mul, Nat.zero_add, List.getElem?_append_left (List.getElem?_eq_some_iff.1 hu).1]
    exact hu
  | y :: r, i + 1, j, x, u, h, hu => by
    rw [List.flatMap_cons, List.getElem?_append_right (by rw [hf, Nat.add_mul];omega), hf, show (i + 1) * k + j - k = i * k + j by rw [Nat.add_mul];omega]
    exact flatG_at hf r i j x u (by simpa using h) hu
theorem flatG_len {α : Type} {k : Nat} {f : α → List Value} (hf : ∀ x, (f x).length = k) : ∀ (l : List α), (l.flatMap f).length = l.length * k
  | [] => by simp
  | y :: r => by rw [List.flatMap_cons, List.length_append, hf, flatG_len hf r, List.length_cons, Nat.add_mul];omega
theorem flatG_one {α : Type} {f : α → List Value} (h1 : ∀ x, ∀ u ∈ f x, u.oneCell' = true) (l : List α) : ∀ u ∈ l.flatMap f, u.oneCell' = true := by
  intro u hu
  obtain ⟨x, _, hx⟩ := List.mem_flatMap.1 hu
  exact h1 x u hx
theorem HoldsG.of_own {α : Type} {k : Nat} {f : α → List Value} (hf : ∀ x, (f x).length = k) {w : World} {base e : Nat} {v : Value} {l : List α} (h : w.ownsRow base e k v l.length (l.flatMap f)) : HoldsG k f w v l := by
  rcases h.2 with ⟨rfl, hn⟩|⟨g, cap, cur, rfl, hb, hg, hnc, hcm, hsz, htk⟩
  · exact ⟨.inl ⟨_, _, by rw [List.eq_nil_of_length_eq_zero hn];exact ⟨rfl, rfl⟩⟩, by omega⟩
  · refine ⟨.inr ⟨g, 0, cap, rfl, (Array.getElem?_eq_some_iff.1 hg).1, fun i j cs u hi hj => ?_⟩, by unfold maxLen at hcm;omega⟩
    rw [List.getElem?_map] at hi
    cases hx : l[i]? with
    | none => rw [hx] at hi;cases hi
    | some x =>
      rw [hx] at hi
      cases hi
      rw [Nat.zero_add]
      exact h.cells (g := g) rfl (i * k + j) u (flatG_at hf l i j x u hx hj) |> fun e => by
        rw [addr_add, Nat.zero_add] at e
        exact e
section
variable {H : Type} {enc : TypeId × Value → H} {w : World} {base : Nat} {spare : Nat → Bool} {held : Bool}
theorem slice_open {α : Type} [Inhabited α] {k : Nat} {f : α → List Value} {F : α → Prop} (hf : ∀ x, (f x).length = k) (hk0 : 0 < k) {T E : TypeId} (hu : Tryz.prog.underlying T = some (.slice E)) (hk : Tryz.prog.cellsOf E = k)
    (el : ∀ {fuel : Nat} {cs : List Value} {x : DataW H × List MemPlace}, DataW.trod enc Tryz.prog w base spare held fuel E cs = some x → ∃ a : α, cs = f a ∧ F a)
    {fuel : Nat} {cs : List Value} {x : DataW H × List MemPlace} (h : DataW.trod enc Tryz.prog w base spare held fuel T cs = some x) :
    ∃ (v : Value) (l : List α), cs = [v] ∧ (HoldsG k f w v l ∧ ∀ a ∈ l, F a) ∧ (l = [] ∨ ∃ es sp, x.1 = .slice es sp ∧ es.length = l.length) := by
  rcases Deep.open_slice hu h with ⟨rfl, _⟩|⟨a, len, cap, m, n, D, Pl, rfl, hb, hl, hm, hmm, hxx, hx⟩
  · exact ⟨_, [], rfl, ⟨⟨.inl ⟨_, _, rfl, rfl⟩, by simp⟩, by simp⟩, .inl rfl⟩
  · rw [hk] at hx
    have hlm : len ≤ m := by rw [hmm];split <;> omega
    have each : ∀ i, i < m → ∃ r : α, w.cells? base (a.add (i * k)) k = some (f r) ∧ F r := by
      intro i hi
      obtain ⟨cs', h1, h2⟩ := hx i hi
      obtain ⟨r, rfl, hf⟩ := el h2
      exact ⟨r, h1, hf⟩
    by_cases h0 : len = 0
    · subst h0
      exact ⟨_, [], rfl, ⟨⟨.inl ⟨_, _, rfl, rfl⟩, by simp⟩, by simp⟩, .inl rfl⟩
    · obtain ⟨q, hq⟩ : ∃ q : Nat → α, ∀ i, i < m → w.cells? base (a.add (i * k)) k = some (f (q i)) ∧ F (q i) :=
        ⟨fun i => if hi : i < m then (each i hi).choose else default, fun i hi => by simp only [dif_pos hi];exact (each i hi).choose_spec⟩
      obtain ⟨ha, hab⟩ := info_cells (hq 0 (by omega)).1 hk0
      have ha' : a = ⟨a.block, a.off, none⟩ := by
        have : (a.add (0 * k)).spot = a.spot := by simp [Addr.add]
        rw [this] at ha
        cases a
        simp only at ha
        rw [ha]
      have hab' : a.block < w.heap.size := by
        have : (a.add (0 * k)).block = a.block := by simp [Addr.add]
        rwa [this] at hab
      refine ⟨_, (List.range len).map q, rfl, ⟨⟨.inr ⟨a.block, a.off, cap, by rw [← ha'];simp, hab', ?_⟩, by simp;unfold maxLen at hm;omega⟩, ?_⟩, .inr ⟨_, _, by rw [hxx], by simp⟩⟩
      · intro i j c v hi hj
        rw [List.map_map, List.getElem?_map] at hi
        cases hr : (List.range len)[i]? with
        | none => rw [hr] at hi;cases hi
        | some y =>
          rw [hr] at hi
          cases hi
          obtain ⟨hy, rfl⟩ := List.getElem?_eq_some_iff.1 hr
          rw [List.length_range] at hy
          simp only [List.getElem_range, Function.comp] at hj ⊢
          obtain ⟨_, hlen, hcell⟩ := World.cells?_some (hq i (by omega)).1
          have hj11 : j < k := by
            have := (List.getElem?_eq_some_iff.1 hj).1
            rwa [hf] at this
          have := hcell j hj11
          rw [Deep.add_add] at this
          have he : a.add (i * k + j) = ⟨a.block, a.off + i * k + j, none⟩ := by
            rw [Nat.add_assoc]
            conv => lhs;rw [ha']
            exact addr_add _ _ _
          rw [he] at this
          rw [this]
          exact hj
      · intro r hr
        rw [List.mem_map] at hr
        obtain ⟨i, hi, rfl⟩ := hr
        exact (hq i (by rw [List.mem_range] at hi;omega)).2
end
end Go.Proofs.YtecmipgpldcfcaaGreatDoor
namespace Go.Proofs.YtecmipgpldcfcaaGreatDoor
open Go.RowKit NB
theorem HoldsG.pk {α : Type} {k : Nat} {f : α → List Value} {w : World} {v : Value} {l : List α} (h : HoldsG k f w v l) : ∃ p cap, v = .slice p l.length cap ∧ ∀ i x, l[i]? = some x → ∃ b off, p = some ⟨b, off, none⟩ ∧ b < w.heap.size ∧ ∀ j u, (f x)[j]? = some u → w.cell? ⟨b, off + i * k + j, none⟩ = some u := by
  rcases h.lies with ⟨p, cap, rfl, rfl⟩|⟨b, off, cap, rfl, hb, hl⟩
  · exact ⟨p, cap, rfl, fun i x hx => by simp at hx⟩
  · refine ⟨_, cap, rfl, fun i x hx => ⟨b, off, rfl, hb, fun j u hu => hl i j (f x) u ?_ hu⟩⟩
    rw [List.getElem?_map, hx];rfl
theorem HoldsE.g {w : World} {v : Value} {es : List EraV} (h : HoldsE w v es) : HoldsG 13 EraV.cells w v es := ⟨h.lies, h.len⟩
theorem Holds.g {w : World} {v : Value} {l : List RuleV} (h : Holds w v l) : HoldsG 11 RuleV.cells w v l := ⟨h.lies, h.len⟩
namespace Eqs
end Eqs
end Go.Proofs.YtecmipgpldcfcaaGreatDoor
namespace Go.Proofs.YtecmipgpldcfcaaGreatDoor
open Go.RowKit NB
def strc (s : ByteArray) : List Value := [.string s]
abbrev HoldsS (w : World) (v : Value) (l : List ByteArray) : Prop := HoldsG 1 strc w v l
abbrev OwnS (w : World) (base : Nat) (v : Value) (l : List ByteArray) : Prop := w.ownsRow base 9 1 v l.length (l.flatMap strc)
theorem HoldsG.pk1 {w : World} {v : Value} {l : List ByteArray} (h : HoldsG 1 strc w v l) : ∃ p cap, v = .slice p l.length cap ∧ ∀ i s, l[i]? = some s → ∃ b off, p = some ⟨b, off, none⟩ ∧ b < w.heap.size ∧ w.cell? ⟨b, off + i, none⟩ = some (.string s) := by
  obtain ⟨p, cap, e, hp⟩ := h.pk
  refine ⟨p, cap, e, fun i s hs => ?_⟩
  obtain ⟨b, off, e1, hb, hc⟩ := hp i s hs
  have := hc 0 _ rfl
  simp only [Nat.mul_one, Nat.add_zero] at this
  exact ⟨b, off, e1, hb, this⟩
theorem HoldsS.of_own {w : World} {base : Nat} {v : Value} {l : List ByteArray} (h : OwnS w base v l) : HoldsS w v l := HoldsG.of_own (k := 1) (f := strc) (fun _ => rfl) h
theorem strc_snoc (l : List ByteArray) (s : ByteArray) : (l ++ [s]).flatMap strc = l.flatMap strc ++ [.string s] := by simp [strc]
theorem infoS : (Tryz.prog.info? 9).map (fun i => (i.zero, i.size, i.bytes)) = some (some (.string .empty), 1, 16) := by kernel_rfl
abbrev OwnR (w : World) (base : Nat) (v : Value) (m : Nat) (l : List ByteArray) : Prop := w.ownsRow base 9 1 v m (l.flatMap strc)
theorem OwnR.len {w : World} {base m : Nat} {v : Value} {l : List ByteArray} (h : OwnR w base v m l) : l.length = m := by
  have := h.1
  rw [flatG_len (k := 1) (fun _ => rfl)] at this
  omega
theorem OwnR.s {w : World} {base m : Nat} {v : Value} {l : List ByteArray} (h : OwnR w base v m l) : OwnS w base v l := by
  have := OwnR.len h
  subst this
  exact h
theorem OwnR.snoc {w : World} {base m : Nat} {v : Value} {l : List ByteArray} {s : ByteArray} (h : w.ownsRow base 9 1 v m (l.flatMap strc ++ [.string s])) : OwnR w base v m (l ++ [s]) := by
  unfold OwnR
  rw [strc_snoc]
  exact h
namespace RBk
theorem own_lat {w w' : World} {B m : Nat} {e : TypeId} {sz : Nat} {v : Value} {xs : List Value} (h : w.ownsRow B e sz v m xs) (hb : Below w.heap.size w w') : w'.ownsRow B e sz v m xs :=
  h.kept (row := none) ⟨hb.os, hb.tape, hb.output, hb.size, fun k hk _ => hb.block k hk⟩ (by cases v.ownBlock <;> simp)
end RBk
theorem cell_one_at {w : World} {x : Value} {t : TypeId} {N : Nat} (h : N = w.heap.size) : ∀ j u, [x][j]? = some u → (w.alloc (.cells #[x] t)).cell? ((⟨N, 0, none⟩ : Addr).add j) = some u := by
  subst h
  exact cell_one_new w x t
namespace Strs
open Eqs
end Strs
end Go.Proofs.YtecmipgpldcfcaaGreatDoor
namespace Go.Proofs.YtecmipgpldcfcaaGreatDoor
namespace Mp
open Go.RowKit Go.ChangeMaps Go.MapKept Go.ChangeShapes
open Go.WideElems (Fit rd rg pl rd_val rd_mk other_key)
open Go.Maps (Keyed)
abbrev Ent := ByteArray × Value
def get (L : List Ent) (s : ByteArray) : Option Value := (L.find? fun p => decide (p.1 = s)).map (·.2)
def put : List Ent → ByteArray → Value → List Ent
  | [], s, v => [(s, v)]
  | p :: r, s, v => if p.1 = s then (s, v) :: r else p :: put r s v
def Lies (w : World) (P : Program) (k : TypeId) (b : Nat) (L : List Ent) : Prop :=
  ∃ es clock, w.heap[b]? = some (.map es clock) ∧ Fit P k Grp.R0 es clock ∧ es.toList.map (fun x => (x.key, x.val)) = L.map fun p => (Value.string p.1, p.2)
variable {w : World} {P : Program} {k e t : TypeId} {b : Nat} {L : List Ent}
theorem made (w : World) (P : Program) (k : TypeId) : Lies (w.alloc (.map #[] 0)) P k w.heap.size [] := ⟨#[], 0, (MapKept.heap_alloc w _).1, ⟨by simp, stamped_empty 0, by simp⟩, rfl⟩
theorem Lies.lt (h : Lies w P k b L) : b < w.heap.size := by
  obtain ⟨es, clock, hb, _⟩ := h
  exact (Array.getElem?_eq_some_iff.1 hb).1
theorem Lies.same {w' : World} (h : Lies w P k b L) (he : w'.heap[b]? = w.heap[b]?) : Lies w' P k b L := by
  obtain ⟨es, clock, hb, r⟩ := h
  exact ⟨es, clock, he.trans hb, r⟩
theorem Lies.kept {w' : World} {row : Option Nat} (h : Lies w P k b L) (hg : w.grownBy w' row) (hne : some b ≠ row) : Lies w' P k b L := h.same (hg.block b h.lt hne)
theorem Lies.later {w' : World} (h : Lies w P k b L) (hb : Below w.heap.size w w') : Lies w' P k b L := h.same (hb.block b h.lt)
theorem Lies.old (h : Lies w P k b L) (o : Obj) : Lies (w.alloc o) P k b L := h.later ((Below.refl _ _).alloc (Nat.le_refl _) _)
theorem Lies.other {n j : Nat} {v : Value} (h : Lies w P k b L) (hn : b ≠ n) : Lies (w.setCell ⟨n, j, none⟩ v) P k b L := h.same (Below.heap_setCell w ⟨n, j, none⟩ v b hn)
end Mp
end Go.Proofs.YtecmipgpldcfcaaGreatDoor
