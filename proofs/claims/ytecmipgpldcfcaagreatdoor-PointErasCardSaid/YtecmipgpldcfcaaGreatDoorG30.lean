import Derived.Test.YtecmipgpldcfcaaGreatDoorForceV
import Derived.Test.YtecmipgpldcfcaaGreatDoorChain
import Derived.Test.YtecmipgpldcfcaaGreatDoorG10
import Derived.Test.YtecmipgpldcfcaaGreatDoorG3
import Derived.Lib.SliceRun
import Derived.Test.YtecmipgpldcfcaaGreatDoorG29
import Derived.Test.YtecmipgpldcfcaaGreatDoorG28
import Derived.Test.YtecmipgpldcfcaaGreatDoorG12
import Derived.Test.YtecmipgpldcfcaaGreatDoorG14
import Derived.Test.YtecmipgpldcfcaaGreatDoorG7
import Derived.Deep.RegionHeld3
import Derived.Test.YtecmipgpldcfcaaGreatDoorG5
namespace Go.Proofs.YtecmipgpldcfcaaGreatDoor
open Go.RowKit NB Nxt
namespace Frc
theorem flat_len (l : List RuleV) : (l.flatMap RuleV.cells).length = l.length * 11 := by
  induction l with
  | nil => rfl
  | cons y r ih => rw [List.flatMap_cons, List.length_append, ih, show y.cells.length = 11 from rfl, List.length_cons];omega
end Frc
end Go.Proofs.YtecmipgpldcfcaaGreatDoor
namespace Go.Proofs.YtecmipgpldcfcaaGreatDoor
open Go.RowKit NB Nxt
namespace Frc
def ox (e : EraV) (v : ValV) (x : RuleV) : RuleV := if valX e x = v then { x with name := ⟨#[]⟩ } else x
def othX (l : List RuleV) (e : EraV) (v : ValV) : List RuleV := l.map (ox e v)
def Done (l : List RuleV) (e : EraV) (v : ValV) (k : Nat) (C : Array Value) : Prop := ∀ (i : Nat) (x : RuleV), l[i]? = some x → ∀ (j : Nat) (u : Value), (if i < k then ox e v x else x).cells[j]? = some u → C[i * 11 + j]? = some u
end Frc
end Go.Proofs.YtecmipgpldcfcaaGreatDoor
namespace Go.Proofs.YtecmipgpldcfcaaGreatDoor
open Go.RowKit NB Nxt
namespace Frc
noncomputable def atR (l : List RuleV) (e : EraV) (t : Int) : ValV × OccV × Bool := if e.kind = 2 then (stateV l e t, (lastP l e t).getD ⟨0, 0, 0⟩, (lastP l e t).isSome) else (valR e e.save ⟨#[]⟩, ⟨0, 0, 0⟩, false)
theorem atW {w : World} {b g : Nat} {l : List RuleV} {e : EraV} {r : Value} (hv : View w b l e r g) (he : e.Fit) (ht : Tab w) (t : Int) (hn : l.length ≤ 100000) :
    Calls Tryz.prog 29 #[.pointer (some ⟨b, 0, none⟩), .int .i64 t] w fun x w' => x = .returned (.tuple #[.agg (atR l e t).1.cells.toArray, .agg (atR l e t).2.1.cells.toArray, .bool (atR l e t).2.2]) ∧ Below w.heap.size w w' := by
  unfold atR
  by_cases hk : e.kind = 2
  · rw [if_pos hk]
    cases hl : lastP l e t with
    | none => exact atN hv he ht t hk hn hl
    | some o => exact atS hv he ht t hk hn o hl
  · rw [if_neg hk]
    exact atK hv he ht t hk
set_option maxHeartbeats 3200000 in
set_option maxRecDepth 100000 in
theorem At {w : World} {r : Value} {l : List RuleV} (hr : Holds w r l) (e : EraV) (he : e.Fit) (t : Int) (ht : Tab w) (hs : ∀ x ∈ l, x.letter.size ≤ 1000000) (hn : l.length ≤ 100000) :
    Calls Tryz.prog 14 #[r, .agg e.cells.toArray, .int .i64 t] w fun x w' => x = .returned (.tuple #[.agg (atV l e t).1.cells.toArray, .int .i64 (atV l e t).2]) ∧ Below w.heap.size w w' := by
  have cr := fun W (h : Tab W) => Er.Right e he W h
  have co := fun W (h : Holds W r l) (ht : Tab W) => of1 e he h ht hs hn
  have HH := Lib.hid hr
  have HT := Lib.hid ht
  unfold atV
  cases hR : Er.rightB e
  · rw [hR] at cr
    rw [if_neg (by decide)]
    unfold EraV.cells ValV.cells at *
    have Cr := Lib.hid cr
    clear cr co hr ht hs
    go_enter Tryz.func14, Tryz.ntmps14
    go_wp2_with (go_at_call 26;(with_reducible refine (Cr.out _ ?_).mono ?_);(· exact HT.out.later bcq);rintro e w1 ⟨rfl, hb1⟩;obtain ⟨hc1_0, hf1_0, _⟩ := bcs hb1 (w.heap.size);obtain ⟨hc1_1, hf1_1, hz1_1⟩ := bcs hb1 (w.heap.size + 1);have hz1_0 : w.heap.size < w1.heap.size := (by first|exact sz1 hb1|exact sz2 hb1|exact sz3 hb1|(have := hb1.size;(try simp only [World.size_alloc] at this);omega)))
    refine bodyPost_ret (v := .tuple #[.agg #[.int .i64 0, .int .i64 0, .string ⟨#[]⟩], .int .i64 4]) ?_ rfl ⟨rfl, ?_⟩
    · simp only [results, Tryz.results14]
      go_simp
    · exact bcq
  · rw [hR] at cr
    rw [if_pos rfl]
    have ca := fun W b g (h : View W b l e r g) (h' : Tab W) => atW h he h' t hn
    obtain ⟨y, hy⟩ : ∃ y, y = (atR l e t).1 := ⟨_, rfl⟩
    have hy' : y = (if e.kind = 2 then (stateV l e t, (0 : Int)) else (valR e e.save ⟨#[]⟩, 0)).1 := by rw [hy];unfold atR;split <;> rfl
    have hy2 : (if e.kind = 2 then (stateV l e t, (0 : Int)) else (valR e e.save ⟨#[]⟩, 0)) = (y, 0) := by rw [hy'];split <;> rfl
    rw [hy2]
    rw [← hy] at ca
    obtain ⟨o, ho⟩ : ∃ o, o = (atR l e t).2.1 := ⟨_, rfl⟩
    obtain ⟨f, hf⟩ : ∃ f, f = (atR l e t).2.2 := ⟨_, rfl⟩
    rw [← ho, ← hf] at ca
    simp only
    unfold EraV.cells ValV.cells OccV.cells at *
    have Cr := Lib.hid cr
    have Co := Lib.hid co
    have Ca := Lib.hid ca
    clear cr co ca hr ht hs hy hy' hy2 ho hf
    go_enter Tryz.func14, Tryz.ntmps14
    go_wp2_with (first
      | (go_at_call 26;(with_reducible refine (Cr.out _ ?_).mono ?_);(· exact HT.out.later bcq);rintro e w1 ⟨rfl, hb1⟩;obtain ⟨hc1_0, hf1_0, _⟩ := bcs hb1 (w.heap.size);obtain ⟨hc1_1, hf1_1, hz1_1⟩ := bcs hb1 (w.heap.size + 1);have hz1_0 : w.heap.size < w1.heap.size := (by first|exact sz1 hb1|exact sz2 hb1|exact sz3 hb1|(have := hb1.size;(try simp only [World.size_alloc] at this);omega)))
      | (go_at_call 28;(with_reducible refine (Co.out _ ?_ ?_).mono ?_);(· exact HH.out.later bcq);(· exact HT.out.later bcq);rintro z w2 ⟨b, g, rfl, hvw, hb2⟩;obtain ⟨hc2_0, hf2_0, hz2_0⟩ := bcs hb2 (w.heap.size);obtain ⟨hc2_1, hf2_1, hz2_1⟩ := bcs hb2 (w.heap.size + 1))
      | (go_at_call 29;(with_reducible refine (Ca.out _ _ _ hvw ?_).mono ?_);(· exact HT.out.later bcq);rintro z w3 ⟨rfl, hb3⟩;obtain ⟨hc3_0, hf3_0, hz3_0⟩ := bcs hb3 (w.heap.size);obtain ⟨hc3_1, hf3_1, hz3_1⟩ := bcs hb3 (w.heap.size + 1)))
    refine bodyPost_ret (v := .tuple #[.agg #[.int .i64 y.off, .int .i64 y.save, .string y.abbr], .int .i64 0]) ?_ rfl ⟨rfl, ?_⟩
    · simp only [results, Tryz.results14]
      go_simp
    · exact bcq
end Frc
end Go.Proofs.YtecmipgpldcfcaaGreatDoor
namespace Go.Proofs.YtecmipgpldcfcaaGreatDoor
open Go.RowKit NB
namespace Pt
structure Ok (t : TabV) : Prop where
  good : GoodT t
  lets : ∀ x ∈ t.rs, x.letter.size ≤ 1000000
  rn : t.rs.length ≤ 1000
  zn : t.zs.length ≤ 1000
  en : ∀ z ∈ t.zs, z.es.length ≤ 1000
theorem ints_eq (L : List Int) : Zn.ints L = L.flatMap intC := by
  induction L with
  | nil => rfl
  | cons a r ih =>
    rw [List.flatMap_cons, ← ih]
    rfl
theorem ends_h {l : List RuleV} {es : List EraV} (hg : GoodE l es) {w w' : World} {e : Ending} (h : Zn.EndsPost w l es e w') : ∃ v, e = .returned (.tuple #[v, .int .i64 0]) ∧ HoldsG 1 intC w' v (Zn.endsL l es) ∧ Below w.heap.size w w' := by
  obtain ⟨v, rfl, ho, hb⟩ := h
  obtain ⟨h1, h2, _⟩ := Unt.check_zone (l := l) hg.zone
  rw [h1]
  rw [h2, ints_eq] at ho
  exact ⟨v, rfl, HoldsG.of_own (k := 1) (f := intC) (fun _ => rfl) ho, hb⟩
theorem ends_c {w : World} {t : TabV} (ht : HoldsT w t) (hf : Ok t) (tb : Tab w) {z : ZoneV} (hz : z ∈ t.zs) : Calls Tryz.prog 13 #[t.rv, .agg #[.string z.name, z.v]] w fun e w' => ∃ v, e = .returned (.tuple #[v, .int .i64 0]) ∧ HoldsG 1 intC w' v (Zn.endsL t.rs z.es) ∧ Below w.heap.size w w' :=
  (Zn.Ends ht.r (ht.zf z hz).e z.name (by have := hf.en z hz;omega) tb).mono fun _ _ h => ends_h (hf.good z hz) h
set_option maxRecDepth 100000 in
set_option maxHeartbeats 3200000 in
theorem Era {w : World} {t : TabV} (ht : HoldsT w t) (hf : Ok t) (tb : Tab w) (zone s : Int) (_hs : I64 s) :
    Calls Tryz.prog 9 #[.agg #[t.rv, t.zv, t.lv], .int .i64 zone, .int .i64 s] w fun e w' => e = .returned (.tuple #[.int .i64 (eraV t zone s).1, .int .i64 (eraV t zone s).2]) ∧ Below w.heap.size w w' := by
  have ce := fun (W : World) (h : HoldsT W t) (tb : Tab W) (z : ZoneV) hz => ends_c h hf tb (z := z) hz
  have HTT := Lib.hid ht
  have HTB := Lib.hid tb
  obtain ⟨p, cap, e1⟩ := ht.r.form
  obtain ⟨pz, capz, e3, hpz⟩ := ht.z.pk
  have hfz := ht.zf
  by_cases h0 : zone < 0
  · rw [(val_none s (zone_none (t := t) (.inl h0))).2]
    obtain ⟨rv, zv, lv, rs, zs, ls⟩ := t
    dsimp only at e1 e3 ⊢
    subst e1 e3
    clear ce HTT HTB hpz hfz ht hf tb
    go_enter Tryz.func9, Tryz.ntmps9
    go_wp2
    go_ret2
    exact ⟨rfl, bcq⟩
  by_cases h1 : (t.zs.length : Int) ≤ zone
  · rw [(val_none s (zone_none (t := t) (.inr h1))).2]
    obtain ⟨rv, zv, lv, rs, zs, ls⟩ := t
    dsimp only at e1 e3 h1 ⊢
    subst e1 e3
    clear ce HTT HTB hpz hfz ht hf tb
    go_enter Tryz.func9, Tryz.ntmps9
    go_wp2
    go_ret2
    exact ⟨rfl, bcq⟩
  obtain ⟨k, rfl⟩ : ∃ k : Nat, zone = (k : Int) := ⟨zone.toNat, by omega⟩
  obtain ⟨z, hzz, hz⟩ := zone_some (t := t) (zone := (k : Int)) (by omega) (by omega)
  rw [Int.toNat_natCast] at hz
  by_cases ho : s < lo ∨ hi < s
  · rw [(val_out hzz ho).2]
    obtain ⟨rv, zv, lv, rs, zs, ls⟩ := t
    dsimp only at e1 e3 h1 ⊢
    subst e1 e3
    clear ce HTT HTB hpz hfz ht hf tb hz hzz
    unfold lo hi at ho
    by_cases h2 : s < -1096193779200
    · go_enter Tryz.func9, Tryz.ntmps9
      go_wp2
      go_ret2
      exact ⟨rfl, bcq⟩
    · have h3 : 971890963199 < s := by omega
      go_enter Tryz.func9, Tryz.ntmps9
      go_wp2
      go_ret2
      exact ⟨rfl, bcq⟩
  have hzm := (zone_mem hzz).2.2.2
  have hg := hf.good z hzm
  have hen := hf.en z hzm
  have hev : eraV t (k : Int) s = (((idx (Zn.endsL t.rs z.es) s : Nat) : Int), 0) := by
    unfold eraV
    rw [hzz]
    simp only
    rw [if_neg ho]
  have hsr : ∀ (W : World) (v : Value), HoldsG 1 intC W v (Zn.endsL t.rs z.es) → Calls Tryz.prog 23 #[v, .int .i64 (s + 1)] W fun e w' => (∃ u : Value, e = .returned (.tuple #[.int .i64 (idx (Zn.endsL t.rs z.es) s), u])) ∧ Below W.heap.size W w' := fun W v h => (search h (by have := Unt.ends_len (l := t.rs) hg.zone;omega) hg.sort s).mono fun e w' hh => ⟨hh.1, hh.2 ▸ Below.refl _ _⟩
  have ce2 := fun (W : World) (h : HoldsT W t) (tb : Tab W) => ce W h tb z hzm
  clear ce
  rw [hev]
  unfold lo hi at ho
  obtain ⟨I, hI⟩ : ∃ I, I = idx (Zn.endsL t.rs z.es) s := ⟨_, rfl⟩
  rw [← hI] at hsr ⊢
  obtain ⟨L, hL⟩ : ∃ L, L = Zn.endsL t.rs z.es := ⟨_, rfl⟩
  rw [← hL] at hsr ce2
  clear hI hL hg hen hev
  obtain ⟨g1, o1, e4, hg1, d1⟩ := hpz k z hz
  have x0 := d1 0 _ rfl
  have x1 := d1 1 _ rfl
  rw [Nat.add_zero] at x0
  obtain ⟨pp, cc, e5⟩ := (hfz z hzm).e.form
  obtain ⟨rv, zv, lv, rs, zs, ls⟩ := t
  obtain ⟨nm, xv, es⟩ := z
  dsimp only at e1 e3 e4 e5 h1 ce2 x0 x1 HTT ⊢
  subst e1 e3 e4 e5
  generalize es.length = m at *
  generalize rs.length = n at *
  generalize zs.length = nz at *
  have CE := Lib.hid ce2;have CS := Lib.hid hsr
  clear ce2 hsr hpz hfz ht hf tb hz hzz hzm d1
  have q1 : ¬ s < -1096193779200 := by omega
  have q2 : ¬ 971890963199 < s := by omega
  have q3 : k < nz := by omega
  clear ho
  go_enter Tryz.func9, Tryz.ntmps9
  go_upto_region 1 with fail
  obtain ⟨w1, hw1⟩ : ∃ V, V = w.alloc (.cells #[.slice p n cap, .slice (some ⟨g1, o1, none⟩) nz capz, lv] 26) := ⟨_, rfl⟩
  have b1 : Box w1 w.heap.size #[.slice p n cap, .slice (some ⟨g1, o1, none⟩) nz capz, lv] 26 := by rw [hw1];exact Box.new _ _ _
  have hB1 : Below w.heap.size w w1 := by rw [hw1];exact bcq
  rw [← hw1]
  clear hw1
  have HS := Lib.hid (fun (V : World) (h : Below w1.heap.size w1 V) => (⟨(b1.later h).cell, ((hB1.trans (h.mono hB1.size)).cell (p := ⟨g1, o1 + k * 2, none⟩) hg1).trans x0, ((hB1.trans (h.mono hB1.size)).cell (p := ⟨g1, o1 + k * 2 + 1, none⟩) hg1).trans x1⟩ : (∀ j, V.cell? ⟨w.heap.size, j, none⟩ = (#[.slice p n cap, .slice (some ⟨g1, o1, none⟩) nz capz, lv] : Array Value)[j]?) ∧ V.cell? ⟨g1, o1 + k * 2, none⟩ = some (.string nm) ∧ V.cell? ⟨g1, o1 + k * 2 + 1, none⟩ = some (.slice pp m cc)))
  obtain ⟨c1, y0, y1⟩ := HS.out w1 (Below.refl _ _)
  have HB1 := Lib.hid hB1
  clear x0 x1 hB1
  go_upto_region 5 with fail
  go_region_held3 (fun w' => (∀ j, w'.cell? ⟨w.heap.size, j, none⟩ = (#[.slice p n cap, .slice (some ⟨g1, o1, none⟩) nz capz, lv] : Array Value)[j]?) ∧ w'.cell? ⟨g1, o1 + k * 2, none⟩ = some (.string nm) ∧ w'.cell? ⟨g1, o1 + k * 2 + 1, none⟩ = some (.slice pp m cc)) ((refine HS.out _ ?_;exact bcq)) (first
    | (go_at_call 13;(with_reducible refine (CE.out _ ?_ ?_).mono ?_);(· exact HTT.out.later (HB1.out.trans (Below.mono bcq HB1.out.size)));(· exact HTB.out.later (HB1.out.trans (Below.mono bcq HB1.out.size)));rintro e w2 ⟨v2, rfl, hl2, hb2⟩;have HL2 := Lib.hid hl2;clear hl2))
  go_wp2_with (go_at_call 23;(with_reducible refine (CS.out _ _ HL2.out).mono ?_);rintro e w3 ⟨⟨u, rfl⟩, hb3⟩)
  go_ret2
  exact ⟨rfl, HB1.out.trans (Below.mono bcq HB1.out.size)⟩
end Pt
end Go.Proofs.YtecmipgpldcfcaaGreatDoor
namespace Go.Proofs.YtecmipgpldcfcaaGreatDoor
open Go.RowKit NB Nxt
def Sta (w : World) : Prop := Box w 0 #[.int .i64 (-1), .int .i64 0, .int .i64 (-2192387558400)] 67
theorem Sta.later {w w' : World} (h : Sta w) (hb : Below w.heap.size w w') : Sta w' := Box.later h hb
namespace Frc
end Frc
end Go.Proofs.YtecmipgpldcfcaaGreatDoor
namespace Go.Proofs.YtecmipgpldcfcaaGreatDoor
open Go.RowKit NB Nxt
namespace Frc
def prevR (l : List RuleV) (e : EraV) (F v : ValV) : Option OccV → Option OccV
  | some x => Occ.nextO l e.rules x
  | none => if F = v then none else Occ.nextO l e.rules startO
end Frc
end Go.Proofs.YtecmipgpldcfcaaGreatDoor
namespace Go.Proofs.YtecmipgpldcfcaaGreatDoor
open Go.RowKit NB
namespace Nw
theorem rule_len (r : RuleV) : r.cells.length = 11 := rfl
end Nw
end Go.Proofs.YtecmipgpldcfcaaGreatDoor
namespace Go.Proofs.YtecmipgpldcfcaaGreatDoor
open Go.RowKit NB Nxt
namespace L33
open Frc
theorem East (w : World) : Calls Tryz.prog 42 #[] w fun z w' => z = .returned (.agg #[.int .i64 (-18000), .int .i64 2, .int .i64 0, .string { data := #[85, 83] }, .string { data := #[69, 37, 115, 84] }, .bool false, .int .i64 0, .int .i64 0, .int .i64 0, .int .i64 0, .int .i64 0, .int .i64 0, .int .i64 0]) ∧ Below w.heap.size w w' := by
  go_enter Tryz.func42, Tryz.ntmps42
  go_wp2
  refine bodyPost_ret (v := .agg #[.int .i64 (-18000), .int .i64 2, .int .i64 0, .string { data := #[85, 83] }, .string { data := #[69, 37, 115, 84] }, .bool false, .int .i64 0, .int .i64 0, .int .i64 0, .int .i64 0, .int .i64 0, .int .i64 0, .int .i64 0]) ?_ rfl ⟨rfl, ?_⟩
  · simp only [results, Tryz.results42]
    go_simp
  · exact bcq
end L33
end Go.Proofs.YtecmipgpldcfcaaGreatDoor
namespace Go.Proofs.YtecmipgpldcfcaaGreatDoor
open Go.RowKit NB
namespace L34
open Pt
theorem boxN {X : World} {n : Nat} {cs : Array Value} {t : TypeId} (h : X.heap.size = n) : Box (X.alloc (.cells cs t)) n cs t := by subst h;exact Box.new _ _ _
theorem of_boxG {α : Type} {k : Nat} {f : α → List Value} (hf : ∀ x, (f x).length = k) {W : World} {b : Nat} {l : List α} {t : TypeId} {cs : Array Value} (m : Nat) (h : Box W b cs t) (hc : cs.toList.take (m * k) = l.flatMap f) (hm : m = l.length) (hl : l.length ≤ 1000) (c : Nat) : HoldsG k f W (.slice (some ⟨b, 0, none⟩) m c) l := by
  subst hm
  refine ⟨.inr ⟨b, 0, c, rfl, h.lt, fun i j x v hi hj => ?_⟩, by omega⟩
  rw [List.getElem?_map] at hi
  obtain ⟨y, hy, rfl⟩ := Option.map_eq_some_iff.1 hi
  rw [h.cell, Nat.zero_add]
  have h1 := flatG_at hf l i j y v hy hj
  rw [← hc, List.getElem?_take] at h1
  split at h1
  · simpa using h1
  · cases h1
abbrev usC : Array Value := #[.string ⟨#[85, 83]⟩, .int .i64 2007, .int .i64 32767, .int .i64 3, .int .i64 2, .int .i64 0, .int .i64 8, .int .i64 7200, .int .i64 0, .int .i64 3600, .string ⟨#[68]⟩, .string ⟨#[85, 83]⟩, .int .i64 2007, .int .i64 32767, .int .i64 11, .int .i64 2, .int .i64 0, .int .i64 1, .int .i64 7200, .int .i64 0, .int .i64 0, .string ⟨#[83]⟩]
abbrev eraA : Array Value := #[.int .i64 3600, .int .i64 0, .int .i64 0, .string ⟨#[]⟩, .string ⟨#[88]⟩, .bool true, .int .i64 1950, .int .i64 1, .int .i64 0, .int .i64 0, .int .i64 1, .int .i64 0, .int .i64 0]
abbrev eraAB : Array Value := #[.int .i64 3600, .int .i64 0, .int .i64 0, .string ⟨#[]⟩, .string ⟨#[88]⟩, .bool true, .int .i64 1950, .int .i64 1, .int .i64 0, .int .i64 0, .int .i64 1, .int .i64 0, .int .i64 0, .int .i64 7200, .int .i64 0, .int .i64 0, .string ⟨#[]⟩, .string ⟨#[89]⟩, .bool false, .int .i64 0, .int .i64 0, .int .i64 0, .int .i64 0, .int .i64 0, .int .i64 0, .int .i64 0]
abbrev eraE : Array Value := #[.int .i64 (-18000), .int .i64 2, .int .i64 0, .string ⟨#[85, 83]⟩, .string ⟨#[69, 37, 115, 84]⟩, .bool false, .int .i64 0, .int .i64 0, .int .i64 0, .int .i64 0, .int .i64 0, .int .i64 0, .int .i64 0]
theorem two_h {W : World} {a b c d : Nat} {t1 t2 t3 t4 : TypeId} (h1 : Box W a usC t1) (h2 : Box W b #[.string ⟨#[65]⟩, .slice (some ⟨c, 0, none⟩) 2 2, .string ⟨#[69]⟩, .slice (some ⟨d, 0, none⟩) 1 1] t2) (h3 : Box W c eraAB t3) (h4 : Box W d eraE t4) :
    HoldsT W (two (.slice (some ⟨a, 0, none⟩) 2 2) (.slice (some ⟨b, 0, none⟩) 2 2) (.slice (some ⟨c, 0, none⟩) 2 2) (.slice (some ⟨d, 0, none⟩) 1 1)) := by
  refine ⟨⟨(of_boxG (k := 11) (f := RuleV.cells) (fun _ => rfl) 2 (l := [Us.us0, Us.us1]) h1 rfl rfl (by decide) 2).lies, ?_, by show (2 : Nat) ≤ _;decide⟩, of_boxG (k := 2) (f := ZoneV.cells) (fun _ => rfl) 2 (l := [zA (.slice (some ⟨c, 0, none⟩) 2 2), zE (.slice (some ⟨d, 0, none⟩) 1 1)]) h2 rfl rfl (by simp) 2, ?_, ⟨.inl ⟨_, _, rfl, rfl⟩, by show (0 : Nat) ≤ _;decide⟩, fun x hx => by cases hx⟩
  · intro r hr
    replace hr : r ∈ [Us.us0, Us.us1] := hr
    simp only [List.mem_cons, List.not_mem_nil, or_false] at hr
    rcases hr with rfl|rfl
    · exact Us.fit_us0
    · exact Us.fit_us1
  · intro z hz
    rcases List.mem_cons.1 hz with rfl|hz
    · refine ⟨by show (1 : Nat) ≤ _;decide, ⟨(of_boxG (k := 13) (f := EraV.cells) (fun _ => rfl) 2 (l := [eA, eB]) h3 rfl rfl (by decide) 2).lies, ?_, by show (2 : Nat) ≤ _;decide⟩⟩
      intro e he
      simp only [zA, List.mem_cons, List.not_mem_nil, or_false] at he
      rcases he with rfl|rfl
      · exact fit_eA
      · exact fit_eB
    · rcases List.mem_cons.1 hz with rfl|hz
      · refine ⟨by show (1 : Nat) ≤ _;decide, ⟨(of_boxG (k := 13) (f := EraV.cells) (fun _ => rfl) 1 (l := [L33.eE]) h4 rfl rfl (by decide) 1).lies, ?_, by show (1 : Nat) ≤ _;decide⟩⟩
        intro e he
        simp only [zE, List.mem_cons, List.not_mem_nil, or_false] at he
        subst he
        exact L33.fit_eE
      · cases hz
theorem ok_two (rv zv va ve : Value) : Ok (two rv zv va ve) where
  good := good rv zv va ve
  lets := by
    intro x hx
    simp only [two, List.mem_cons, List.not_mem_nil, or_false] at hx
    rcases hx with rfl|rfl <;> decide
  rn := by show (2 : Nat) ≤ _;decide
  zn := by show (2 : Nat) ≤ _;decide
  en := by
    intro z hz
    rcases List.mem_cons.1 hz with rfl|hz
    · show (2 : Nat) ≤ _;decide
    · rcases List.mem_cons.1 hz with rfl|hz
      · show (1 : Nat) ≤ _;decide
      · cases hz
def TwoPost (w : World) (e : Ending) (w' : World) : Prop := ∃ a b c d : Nat, e = .returned (.agg #[.slice (some ⟨a, 0, none⟩) 2 2, .slice (some ⟨b, 0, none⟩) 2 2, .slice none 0 0]) ∧ HoldsT w' (two (.slice (some ⟨a, 0, none⟩) 2 2) (.slice (some ⟨b, 0, none⟩) 2 2) (.slice (some ⟨c, 0, none⟩) 2 2) (.slice (some ⟨d, 0, none⟩) 1 1)) ∧ Below w.heap.size w w'
set_option maxRecDepth 100000 in
set_option maxHeartbeats 6400000 in
theorem Two (w : World) : Calls Tryz.prog 22 #[] w (TwoPost w) := by
  have cu := fun W => (Us.Us W).mono (fun e w' (h : _ ∧ _) => (⟨h.1, by rw [h.2];exact ⟨Box.new W usC 104, ba (Below.refl _ W)⟩⟩ : e = .returned (.slice (some ⟨W.heap.size, 0, none⟩) 2 2) ∧ Box w' W.heap.size usC 104 ∧ Below W.heap.size W w'))
  have ce := L33.East
  have CU := Lib.hid cu;have CE := Lib.hid ce
  clear cu ce
  go_enter Tryz.func22, Tryz.ntmps22
  go_upto_region 1 with fail
  go_upto_region 2 with fail
  obtain ⟨w1, hw1⟩ : ∃ V, V = (w.alloc (.cells #[.slice none 0 0, .slice none 0 0, .slice none 0 0] 26)).alloc (.cells eraA 51) := ⟨_, rfl⟩
  have b0 : Box w1 w.heap.size #[.slice none 0 0, .slice none 0 0, .slice none 0 0] 26 := by rw [hw1];exact (Box.new w _ _).old
  have b1 : Box w1 (w.heap.size + 1) eraA 51 := by
    have := (Box.new (w.alloc (.cells #[.slice none 0 0, .slice none 0 0, .slice none 0 0] 26)) eraA 51)
    rw [World.size_alloc] at this
    rw [hw1];exact this
  have hB1 : Below w.heap.size w w1 := by rw [hw1];exact bcq
  rw [← hw1]
  clear hw1
  have s1 := b0.lt
  have s2 := b1.lt
  have HB1 := Lib.hid hB1
  have HR := Lib.hid (fun (V : World) (h : Below w1.heap.size w1 V) => (⟨(b0.later h).cell, (b0.later h).free, (b0.later h).lt⟩ : (∀ o, V.cell? ⟨w.heap.size, o, none⟩ = (#[.slice none 0 0, .slice none 0 0, .slice none 0 0] : Array Value)[o]?) ∧ (∀ o, V.frozen? ⟨w.heap.size, o, none⟩ = false) ∧ w.heap.size < V.heap.size))
  have HS := Lib.hid (fun (V : World) (h : Below w1.heap.size w1 V) => (b1.later h).cell)
  have k1 := b0.cell;have f1 := b0.free;have c1 := b1.cell
  clear b0 hB1
  go_region_held3 (fun w' => ∀ o, w'.cell? ⟨w.heap.size + 1, o, none⟩ = (#[.int .i64 3600, .int .i64 0, .int .i64 0, .string ⟨#[]⟩, .string ⟨#[88]⟩, .bool true, .int .i64 1950, .int .i64 1, .int .i64 0, .int .i64 0, .int .i64 1, .int .i64 0, .int .i64 0] : Array Value)[o]?) ((first|(refine HS.out _ ?_;(repeat (first|(with_reducible exact Below.refl _ _)|(with_reducible assumption)|(with_reducible refine ba ?_)|(with_reducible refine bd ?_)|(with_reducible refine bdn ?_ _)|(with_reducible refine bset ?_ (by first|exact Nat.le_refl _|omega|(simp;done)|(simp;omega)))|(with_reducible refine bt ?_ (by with_reducible assumption))));done)|(refine Box.cell (t := 51) ?_;exact bxq))) (first
    | (go_at_call 41;(with_reducible refine (CU.out _).mono ?_);rintro e w5 ⟨rfl, hbx5, hb5⟩;have hB5 : Below w1.heap.size w1 w5 := bcq;have HX5 := Lib.hid hbx5;obtain ⟨k5, f5, s5⟩ := HR.out w5 hB5;have s5b : w.heap.size < w5.heap.size + 1 := (by omega);have s5c : w.heap.size < w5.heap.size + 1 + 1 := (by omega);have s5d : w.heap.size ≠ w5.heap.size := (by omega);have s5e : w.heap.size ≠ w5.heap.size + 1 := (by omega);have s5f : w.heap.size ≠ w5.heap.size + 1 + 1 := (by omega);clear hbx5)
    | (go_at_call 42;(with_reducible refine (CE.out _).mono ?_);rintro e w6 ⟨rfl, hb6⟩;have hB6 : Below w1.heap.size w1 w6 := bcq;obtain ⟨k6, f6, s6⟩ := HR.out w6 hB6;have s6b : w.heap.size < w6.heap.size + 1 := (by omega);have s6c : w.heap.size < w6.heap.size + 1 + 1 := (by omega);have s6d : w.heap.size ≠ w6.heap.size := (by omega);have s6e : w.heap.size ≠ w6.heap.size + 1 := (by omega);have s6f : w.heap.size ≠ w6.heap.size + 1 + 1 := (by omega)))
  · have hx5 := HX5.out
    try simp only [World.size_drew] at hx5
    have HE6 := Lib.hid (bt HB1.out hB6)
    clear hB6 hB5
    go_wp2
    refine bodyPost_ret (v := .agg #[.slice (some ⟨w1.heap.size, 0, none⟩) 2 2, .slice (some ⟨w6.heap.size + 1, 0, none⟩) 2 2, .slice none 0 0]) ?_ rfl ⟨w1.heap.size, w6.heap.size + 1, w5.heap.size, w6.heap.size, rfl, two_h (t1 := 104) (t2 := 39) (t3 := 51) (t4 := 51) ?_ ?_ ?_ ?_, ?_⟩
    · simp only [results, Tryz.results22]
      go_simp
    · repeat (first|(with_reducible assumption)|(with_reducible refine boxN (by first|rfl|(simp;done)))|(with_reducible refine Box.old ?_)|(with_reducible refine Box.drew ?_)|(with_reducible refine Box.other ?_ (by omega))|(with_reducible refine Box.later ?_ (by with_reducible assumption)))
    · repeat (first|(with_reducible assumption)|(with_reducible refine boxN (by first|rfl|(simp;done)))|(with_reducible refine Box.old ?_)|(with_reducible refine Box.drew ?_)|(with_reducible refine Box.other ?_ (by omega))|(with_reducible refine Box.later ?_ (by with_reducible assumption)))
    · repeat (first|(with_reducible assumption)|(with_reducible refine boxN (by first|rfl|(simp;done)))|(with_reducible refine Box.old ?_)|(with_reducible refine Box.drew ?_)|(with_reducible refine Box.other ?_ (by omega))|(with_reducible refine Box.later ?_ (by with_reducible assumption)))
    · repeat (first|(with_reducible assumption)|(with_reducible refine boxN (by first|rfl|(simp;done)))|(with_reducible refine Box.old ?_)|(with_reducible refine Box.drew ?_)|(with_reducible refine Box.other ?_ (by omega))|(with_reducible refine Box.later ?_ (by with_reducible assumption)))
    · have hE6 := HE6.out
      clear hb5 hb6
      exact bcq
  · have hx5 := HX5.out
    try simp only [World.size_drew] at hx5
    have HE6 := Lib.hid (bt HB1.out hB6)
    clear hB6 hB5
    go_wp2
    refine bodyPost_ret (v := .agg #[.slice (some ⟨w1.heap.size, 0, none⟩) 2 2, .slice (some ⟨w6.heap.size + 1 + 1, 0, none⟩) 2 2, .slice none 0 0]) ?_ rfl ⟨w1.heap.size, w6.heap.size + 1 + 1, w6.heap.size, w6.heap.size + 1, rfl, two_h (t1 := 104) (t2 := 39) (t3 := 51) (t4 := 51) ?_ ?_ ?_ ?_, ?_⟩
    · simp only [results, Tryz.results22]
      go_simp
    · repeat (first|(with_reducible assumption)|(with_reducible refine boxN (by first|rfl|(simp;done)))|(with_reducible refine Box.old ?_)|(with_reducible refine Box.drew ?_)|(with_reducible refine Box.other ?_ (by omega))|(with_reducible refine Box.later ?_ (by with_reducible assumption)))
    · repeat (first|(with_reducible assumption)|(with_reducible refine boxN (by first|rfl|(simp;done)))|(with_reducible refine Box.old ?_)|(with_reducible refine Box.drew ?_)|(with_reducible refine Box.other ?_ (by omega))|(with_reducible refine Box.later ?_ (by with_reducible assumption)))
    · repeat (first|(with_reducible assumption)|(with_reducible refine boxN (by first|rfl|(simp;done)))|(with_reducible refine Box.old ?_)|(with_reducible refine Box.drew ?_)|(with_reducible refine Box.other ?_ (by omega))|(with_reducible refine Box.later ?_ (by with_reducible assumption)))
    · repeat (first|(with_reducible assumption)|(with_reducible refine boxN (by first|rfl|(simp;done)))|(with_reducible refine Box.old ?_)|(with_reducible refine Box.drew ?_)|(with_reducible refine Box.other ?_ (by omega))|(with_reducible refine Box.later ?_ (by with_reducible assumption)))
    · have hE6 := HE6.out
      clear hb5 hb6
      exact bcq
  · have hx5 := HX5.out
    try simp only [World.size_drew] at hx5
    have HE6 := Lib.hid (bt HB1.out hB6)
    clear hB6 hB5
    go_wp2
    refine bodyPost_ret (v := .agg #[.slice (some ⟨w1.heap.size, 0, none⟩) 2 2, .slice (some ⟨w6.heap.size + 1 + 1, 0, none⟩) 2 2, .slice none 0 0]) ?_ rfl ⟨w1.heap.size, w6.heap.size + 1 + 1, w6.heap.size + 1, w6.heap.size, rfl, two_h (t1 := 104) (t2 := 39) (t3 := 51) (t4 := 51) ?_ ?_ ?_ ?_, ?_⟩
    · simp only [results, Tryz.results22]
      go_simp
    · repeat (first|(with_reducible assumption)|(with_reducible refine boxN (by first|rfl|(simp;done)))|(with_reducible refine Box.old ?_)|(with_reducible refine Box.drew ?_)|(with_reducible refine Box.other ?_ (by omega))|(with_reducible refine Box.later ?_ (by with_reducible assumption)))
    · repeat (first|(with_reducible assumption)|(with_reducible refine boxN (by first|rfl|(simp;done)))|(with_reducible refine Box.old ?_)|(with_reducible refine Box.drew ?_)|(with_reducible refine Box.other ?_ (by omega))|(with_reducible refine Box.later ?_ (by with_reducible assumption)))
    · repeat (first|(with_reducible assumption)|(with_reducible refine boxN (by first|rfl|(simp;done)))|(with_reducible refine Box.old ?_)|(with_reducible refine Box.drew ?_)|(with_reducible refine Box.other ?_ (by omega))|(with_reducible refine Box.later ?_ (by with_reducible assumption)))
    · repeat (first|(with_reducible assumption)|(with_reducible refine boxN (by first|rfl|(simp;done)))|(with_reducible refine Box.old ?_)|(with_reducible refine Box.drew ?_)|(with_reducible refine Box.other ?_ (by omega))|(with_reducible refine Box.later ?_ (by with_reducible assumption)))
    · have hE6 := HE6.out
      clear hb5 hb6
      exact bcq
  · have hx5 := HX5.out
    try simp only [World.size_alloc, World.size_drew] at hx5
    have HE6 := Lib.hid (bt HB1.out hB6)
    clear hB6 hB5
    go_wp2
    refine bodyPost_ret (v := .agg #[.slice (some ⟨w1.heap.size + 1, 0, none⟩) 2 2, .slice (some ⟨w6.heap.size + 1, 0, none⟩) 2 2, .slice none 0 0]) ?_ rfl ⟨w1.heap.size + 1, w6.heap.size + 1, w1.heap.size, w6.heap.size, rfl, two_h (t1 := 104) (t2 := 39) (t3 := 51) (t4 := 51) ?_ ?_ ?_ ?_, ?_⟩
    · simp only [results, Tryz.results22]
      go_simp
    · repeat (first|(with_reducible assumption)|(with_reducible refine boxN (by first|rfl|(simp;done)))|(with_reducible refine Box.old ?_)|(with_reducible refine Box.drew ?_)|(with_reducible refine Box.other ?_ (by omega))|(with_reducible refine Box.later ?_ (by with_reducible assumption)))
    · repeat (first|(with_reducible assumption)|(with_reducible refine boxN (by first|rfl|(simp;done)))|(with_reducible refine Box.old ?_)|(with_reducible refine Box.drew ?_)|(with_reducible refine Box.other ?_ (by omega))|(with_reducible refine Box.later ?_ (by with_reducible assumption)))
    · repeat (first|(with_reducible assumption)|(with_reducible refine boxN (by first|rfl|(simp;done)))|(with_reducible refine Box.old ?_)|(with_reducible refine Box.drew ?_)|(with_reducible refine Box.other ?_ (by omega))|(with_reducible refine Box.later ?_ (by with_reducible assumption)))
    · repeat (first|(with_reducible assumption)|(with_reducible refine boxN (by first|rfl|(simp;done)))|(with_reducible refine Box.old ?_)|(with_reducible refine Box.drew ?_)|(with_reducible refine Box.other ?_ (by omega))|(with_reducible refine Box.later ?_ (by with_reducible assumption)))
    · have hE6 := HE6.out
      clear hb5 hb6
      exact bcq
end L34
end Go.Proofs.YtecmipgpldcfcaaGreatDoor
namespace Go.Proofs.YtecmipgpldcfcaaGreatDoor
open Go.RowKit NB
namespace Pt
set_option maxRecDepth 100000 in
set_option maxHeartbeats 6400000 in
theorem ValueC {w : World} {t : TabV} (ht : HoldsT w t) (hf : Ok t) (tb : Tab w) (zone s : Int) (hs : I64 s) :
    Calls Tryz.prog 11 #[.agg #[t.rv, t.zv, t.lv], .int .i64 zone, .int .i64 s] w fun e w' => e = .returned (.tuple #[.agg (valV t zone s).1.cells.toArray, .int .i64 (valV t zone s).2]) ∧ Below w.heap.size w w' := by
  have ce := fun (W : World) (h : HoldsT W t) (tb : Tab W) => Era h hf tb zone s hs
  have HTT := Lib.hid ht
  have HTB := Lib.hid tb
  obtain ⟨p, cap, e1⟩ := ht.r.form
  obtain ⟨pz, capz, e3, hpz⟩ := ht.z.pk
  obtain ⟨pl, capl, e7⟩ := ht.l.form
  have hfz := ht.zf
  by_cases hbad : ∃ c : Int, c ≠ 0 ∧ valV t zone s = (zeroV, c) ∧ eraV t zone s = (0, c)
  · obtain ⟨c, hc0, hv, he⟩ := hbad
    rw [hv]
    rw [he] at ce
    obtain ⟨rv, zv, lv, rs, zs, ls⟩ := t
    dsimp only at e1 e3 e7 ce HTT ⊢
    subst e1 e3 e7
    generalize rs.length = n at *
    generalize zs.length = nz at *
    generalize ls.length = nl at *
    have CE := Lib.hid ce
    clear ce hpz hfz ht hf tb hv he
    have q0 : (c != 0) = true := by simpa using hc0
    go_enter Tryz.func11, Tryz.ntmps11
    go_wp2_with (go_at_call 9;(with_reducible refine (CE.out _ ?_ ?_).mono ?_);(· exact HTT.out.later bcq);(· exact HTB.out.later bcq);rintro e w1 ⟨rfl, hb1⟩;obtain ⟨hc1_0, hf1_0, _⟩ := bcs hb1 (w.heap.size);obtain ⟨hc1_1, hf1_1, hz1_1⟩ := bcs hb1 (w.heap.size + 1);have hz1_0 : w.heap.size < w1.heap.size := (by first|exact sz1 hb1|exact sz2 hb1|exact sz3 hb1|(have := hb1.size;(try simp only [World.size_alloc] at this);omega)))
    refine bodyPost_ret (v := .tuple #[.agg #[.int .i64 0, .int .i64 0, .string ⟨#[]⟩], .int .i64 c]) ?_ rfl ⟨rfl, bcq⟩
    simp only [results, Tryz.results11]
    go_simp
  by_cases hin : 0 ≤ zone ∧ zone < t.zs.length
  case neg =>
    have := val_none s (zone_none (t := t) (zone := zone) (by omega))
    exact absurd ⟨12, by decide, this.1, this.2⟩ hbad
  obtain ⟨k, rfl⟩ : ∃ k : Nat, zone = (k : Int) := ⟨zone.toNat, by omega⟩
  obtain ⟨z, hzz, hz⟩ := zone_some (t := t) (zone := (k : Int)) (by omega) (by omega)
  rw [Int.toNat_natCast] at hz
  by_cases ho : s < lo ∨ hi < s
  · have := val_out hzz ho
    exact absurd ⟨1, by decide, this.1, this.2⟩ hbad
  have hzm := (zone_mem hzz).2.2.2
  have hg := hf.good z hzm
  have hen := hf.en z hzm
  have hii := era_in hg s
  obtain ⟨x, hx⟩ : ∃ x, z.es[idx (Zn.endsL t.rs z.es) s]? = some x := ⟨_, List.getElem?_eq_getElem hii⟩
  have hvi := val_in hzz (by omega) (by omega) hx
  rw [hvi.2] at ce
  rw [hvi.1]
  have hxf : x.Fit := (hfz z hzm).e.fit x (List.mem_of_getElem? hx)
  have ca := fun (W : World) (h : Holds W t.rv t.rs) (tb : Tab W) => Frc.At h x hxf s tb hf.lets (by have := hf.rn;omega)
  generalize Frc.atV t.rs x s = A at *
  obtain ⟨⟨ao, av, aa⟩, aw⟩ := A
  unfold ValV.cells EraV.cells at ca
  dsimp only [ValV.cells] at ca ⊢
  obtain ⟨I, hI⟩ : ∃ I, I = idx (Zn.endsL t.rs z.es) s := ⟨_, rfl⟩
  rw [← hI] at ce hii hx
  clear hI hbad hvi
  obtain ⟨g1, o1, e4, hg1, d1⟩ := hpz k z hz
  have x0 := d1 0 _ rfl
  have x1 := d1 1 _ rfl
  rw [Nat.add_zero] at x0
  obtain ⟨g2, o2, cc, e5, hg2, d2⟩ := (hfz z hzm).e.at hx
  have y0 := d2 0 _ rfl
  have y1 := d2 1 _ rfl
  have y2 := d2 2 _ rfl
  have y3 := d2 3 _ rfl
  have y4 := d2 4 _ rfl
  have y5 := d2 5 _ rfl
  have y6 := d2 6 _ rfl
  have y7 := d2 7 _ rfl
  have y8 := d2 8 _ rfl
  have y9 := d2 9 _ rfl
  have y10 := d2 10 _ rfl
  have y11 := d2 11 _ rfl
  have y12 := d2 12 _ rfl
  rw [Nat.add_zero] at y0
  obtain ⟨rv, zv, lv, rs, zs, ls⟩ := t
  obtain ⟨nm, xv, es⟩ := z
  dsimp only at e1 e3 e4 e5 e7 hin ce ca x0 x1 hii HTT ⊢
  subst e1 e3 e4 e5 e7
  generalize es.length = m at *
  generalize rs.length = n at *
  generalize zs.length = nz at *
  generalize ls.length = nl at *
  have CE := Lib.hid ce;have CA := Lib.hid ca;have hhr := Lib.hid ht.r
  clear ce ca hpz hfz ht hf tb hz hzz hzm d1 d2 hg hen hx ho
  have q3 : k < nz := by omega
  clear hin
  go_enter Tryz.func11, Tryz.ntmps11
  go_upto_region 1 with fail
  obtain ⟨w1, hw1⟩ : ∃ V, V = w.alloc (.cells #[.slice p n cap, .slice (some ⟨g1, o1, none⟩) nz capz, .slice pl nl capl] 26) := ⟨_, rfl⟩
  have b1 : Box w1 w.heap.size #[.slice p n cap, .slice (some ⟨g1, o1, none⟩) nz capz, .slice pl nl capl] 26 := by rw [hw1];exact Box.new _ _ _
  have hB1 : Below w.heap.size w w1 := by rw [hw1];exact bcq
  have hR : w1.heap.size = w.heap.size + 1 := by rw [hw1];simp
  rw [← hw1]
  clear hw1
  have HS := Lib.hid (fun (V : World) (h : Below w1.heap.size w1 V) => (⟨(b1.later h).cell, ((hB1.trans (h.mono hB1.size)).cell (p := ⟨g1, o1 + k * 2, none⟩) hg1).trans x0, ((hB1.trans (h.mono hB1.size)).cell (p := ⟨g1, o1 + k * 2 + 1, none⟩) hg1).trans x1, ((hB1.trans (h.mono hB1.size)).cell (p := ⟨g2, o2 + I * 13, none⟩) hg2).trans y0, ((hB1.trans (h.mono hB1.size)).cell (p := ⟨g2, o2 + I * 13 + 1, none⟩) hg2).trans y1, ((hB1.trans (h.mono hB1.size)).cell (p := ⟨g2, o2 + I * 13 + 2, none⟩) hg2).trans y2, ((hB1.trans (h.mono hB1.size)).cell (p := ⟨g2, o2 + I * 13 + 3, none⟩) hg2).trans y3, ((hB1.trans (h.mono hB1.size)).cell (p := ⟨g2, o2 + I * 13 + 4, none⟩) hg2).trans y4, ((hB1.trans (h.mono hB1.size)).cell (p := ⟨g2, o2 + I * 13 + 5, none⟩) hg2).trans y5, ((hB1.trans (h.mono hB1.size)).cell (p := ⟨g2, o2 + I * 13 + 6, none⟩) hg2).trans y6, ((hB1.trans (h.mono hB1.size)).cell (p := ⟨g2, o2 + I * 13 + 7, none⟩) hg2).trans y7, ((hB1.trans (h.mono hB1.size)).cell (p := ⟨g2, o2 + I * 13 + 8, none⟩) hg2).trans y8, ((hB1.trans (h.mono hB1.size)).cell (p := ⟨g2, o2 + I * 13 + 9, none⟩) hg2).trans y9, ((hB1.trans (h.mono hB1.size)).cell (p := ⟨g2, o2 + I * 13 + 10, none⟩) hg2).trans y10, ((hB1.trans (h.mono hB1.size)).cell (p := ⟨g2, o2 + I * 13 + 11, none⟩) hg2).trans y11, ((hB1.trans (h.mono hB1.size)).cell (p := ⟨g2, o2 + I * 13 + 12, none⟩) hg2).trans y12⟩ : (∀ j, V.cell? ⟨w.heap.size, j, none⟩ = (#[.slice p n cap, .slice (some ⟨g1, o1, none⟩) nz capz, .slice pl nl capl] : Array Value)[j]?) ∧ V.cell? ⟨g1, o1 + k * 2, none⟩ = some (.string nm) ∧ V.cell? ⟨g1, o1 + k * 2 + 1, none⟩ = some (.slice (some ⟨g2, o2, none⟩) m cc) ∧ V.cell? ⟨g2, o2 + I * 13, none⟩ = some (.int .i64 x.off) ∧ V.cell? ⟨g2, o2 + I * 13 + 1, none⟩ = some (.int .i64 x.kind) ∧ V.cell? ⟨g2, o2 + I * 13 + 2, none⟩ = some (.int .i64 x.save) ∧ V.cell? ⟨g2, o2 + I * 13 + 3, none⟩ = some (.string x.rules) ∧ V.cell? ⟨g2, o2 + I * 13 + 4, none⟩ = some (.string x.format) ∧ V.cell? ⟨g2, o2 + I * 13 + 5, none⟩ = some (.bool x.u.has) ∧ V.cell? ⟨g2, o2 + I * 13 + 6, none⟩ = some (.int .i64 x.u.year) ∧ V.cell? ⟨g2, o2 + I * 13 + 7, none⟩ = some (.int .i64 x.u.month) ∧ V.cell? ⟨g2, o2 + I * 13 + 8, none⟩ = some (.int .i64 x.u.kind) ∧ V.cell? ⟨g2, o2 + I * 13 + 9, none⟩ = some (.int .i64 x.u.week) ∧ V.cell? ⟨g2, o2 + I * 13 + 10, none⟩ = some (.int .i64 x.u.day) ∧ V.cell? ⟨g2, o2 + I * 13 + 11, none⟩ = some (.int .i64 x.u.sec) ∧ V.cell? ⟨g2, o2 + I * 13 + 12, none⟩ = some (.int .i64 x.u.base)))
  have HB1 := Lib.hid hB1
  clear x0 x1 hB1 y0 y1 y2 y3 y4 y5 y6 y7 y8 y9 y10 y11 y12
  obtain ⟨w2, hw2⟩ : ∃ V, V = w1.alloc (.cells #[.int .i64 0, .int .i64 0, .string ⟨#[]⟩] 33) := ⟨_, rfl⟩
  have b2 : Box w2 (w.heap.size + 1) #[.int .i64 0, .int .i64 0, .string ⟨#[]⟩] 33 := by rw [hw2, ← hR];exact Box.new _ _ _
  have hB2 : Below w1.heap.size w1 w2 := by rw [hw2];exact bcq
  rw [← hw2]
  clear hw2 b1
  have b2c := b2.cell
  obtain ⟨c1, _⟩ := HS.out w2 hB2
  go_upto_region 2 with (go_at_call 9;(with_reducible refine (CE.out _ ?_ ?_).mono ?_);(· exact HTT.out.later (HB1.out.trans (hB2.mono HB1.out.size)));(· exact HTB.out.later (HB1.out.trans (hB2.mono HB1.out.size)));rintro e w3 ⟨rfl, hb3⟩)
  have hB3 : Below w1.heap.size w1 w3 := bcq
  have b3 := b2.later hb3
  have hbn : w1.heap.size < w3.heap.size := by have := b3.lt;omega
  clear b2 c1 b2c hB2 hb3
  have SS := HS.out w3 hB3
  obtain ⟨c1, z0, z1, y0, y1, y2, y3, y4, y5, y6, y7, y8, y9, y10, y11, y12⟩ := SS
  go_upto_region 4 with fail
  have HB3 := Lib.hid b3
  clear b3
  go_region_held3 (fun w' => (∀ j, w'.cell? ⟨w.heap.size, j, none⟩ = (#[.slice p n cap, .slice (some ⟨g1, o1, none⟩) nz capz, .slice pl nl capl] : Array Value)[j]?) ∧ w'.cell? ⟨g1, o1 + k * 2, none⟩ = some (.string nm) ∧ w'.cell? ⟨g1, o1 + k * 2 + 1, none⟩ = some (.slice (some ⟨g2, o2, none⟩) m cc) ∧ w'.cell? ⟨g2, o2 + I * 13, none⟩ = some (.int .i64 x.off) ∧ w'.cell? ⟨g2, o2 + I * 13 + 1, none⟩ = some (.int .i64 x.kind) ∧ w'.cell? ⟨g2, o2 + I * 13 + 2, none⟩ = some (.int .i64 x.save) ∧ w'.cell? ⟨g2, o2 + I * 13 + 3, none⟩ = some (.string x.rules) ∧ w'.cell? ⟨g2, o2 + I * 13 + 4, none⟩ = some (.string x.format) ∧ w'.cell? ⟨g2, o2 + I * 13 + 5, none⟩ = some (.bool x.u.has) ∧ w'.cell? ⟨g2, o2 + I * 13 + 6, none⟩ = some (.int .i64 x.u.year) ∧ w'.cell? ⟨g2, o2 + I * 13 + 7, none⟩ = some (.int .i64 x.u.month) ∧ w'.cell? ⟨g2, o2 + I * 13 + 8, none⟩ = some (.int .i64 x.u.kind) ∧ w'.cell? ⟨g2, o2 + I * 13 + 9, none⟩ = some (.int .i64 x.u.week) ∧ w'.cell? ⟨g2, o2 + I * 13 + 10, none⟩ = some (.int .i64 x.u.day) ∧ w'.cell? ⟨g2, o2 + I * 13 + 11, none⟩ = some (.int .i64 x.u.sec) ∧ w'.cell? ⟨g2, o2 + I * 13 + 12, none⟩ = some (.int .i64 x.u.base)) ((refine HS.out _ ?_;exact bcq)) (first
    | (go_at_call 14;(with_reducible refine (CA.out _ ?_ ?_).mono ?_);(· exact hhr.out.later (HB1.out.trans (Below.mono bcq HB1.out.size)));(· exact HTB.out.later (HB1.out.trans (Below.mono bcq HB1.out.size)));rintro e w4 ⟨rfl, hb4⟩;have b4 := HB3.out.later (show Below w3.heap.size w3 w4 from bcq);have b4c := b4.cell;have b4f := b4.free;have b4l := b4.lt))
  have hB4 : Below w1.heap.size w1 w4 := bcq
  have hE := HB1.out.trans ((bset (bset (bset hB4 (n := w.heap.size + 1) (o := 0) (v := .int .i64 ao) (by omega)) (n := w.heap.size + 1) (o := 1) (v := .int .i64 av) (by omega)) (n := w.heap.size + 1) (o := 2) (v := .string aa) (by omega)).mono HB1.out.size)
  have HE := Lib.hid hE
  clear hE hB4 hB3 hb4
  go_wp2
  refine bodyPost_ret (v := .tuple #[.agg #[.int .i64 ao, .int .i64 av, .string aa], .int .i64 aw]) ?_ rfl ⟨rfl, HE.out⟩
  simp only [results, Tryz.results11]
  go_simp
end Pt
end Go.Proofs.YtecmipgpldcfcaaGreatDoor
