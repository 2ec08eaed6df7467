import Derived.Test.YtcfmchpoclkpgaaGreatDoorUntil
import Derived.Test.YtcfmchpoclkpgaaGreatDoorG11
import Derived.Test.YtcfmchpoclkpgaaGreatDoorG13
import Derived.Test.YtcfmchpoclkpgaaGreatDoorG12
import Derived.Maps.AppendAt
import Derived.RangeFuncBox
import Derived.Test.YtcfmchpoclkpgaaGreatDoorG9
namespace Go.Proofs.YtcfmchpoclkpgaaGreatDoor
open Go.RowKit NB Nxt
namespace RUnt
open Unt
set_option maxHeartbeats 1600000 in
theorem Nom (u : UntilV) (_hu : u.Fit) (w : World) : Calls Tryz.prog 121 #[.agg u.cells.toArray] w fun x w' => x = .returned (.tuple #[.int .i64 (nomU u).1, .int .i64 (nomU u).2]) ∧ Below w.heap.size w w' := by
  have cr := fun W => REr.End u W
  have cd := fun W => RDay.Days u.kind u.week u.day u.year u.month W
  unfold nomU UntilV.cells
  unfold UntilV.cells at cr
  cases hh : u.has
  · rw [if_neg (by decide)]
    clear cr cd hh
    go_enter Tryz.func121, Tryz.ntmps121
    go_wp2
    go_ret2
    exact ⟨rfl, by repeat (first|(with_reducible exact Below.refl _ _)|(with_reducible assumption)|(with_reducible refine ba ?_)|(with_reducible refine bd ?_)|(with_reducible refine bdn ?_ _)|(with_reducible refine bset ?_ (by first|exact Nat.le_refl _|omega|(simp;done)|(simp;omega)))|(with_reducible refine bt ?_ (by with_reducible assumption)))⟩
  rw [hh] at cr
  rw [if_pos rfl]
  cases he : Er.endB u
  · rw [if_neg (by decide)]
    rw [he] at cr
    have Cr := Lib.hid cr
    clear cr cd hh he
    go_enter Tryz.func121, Tryz.ntmps121
    go_wp2_with (go_at_call 179;(with_reducible refine (Cr.out _).mono ?_);rintro e w1 ⟨rfl, hb1⟩;obtain ⟨hc1, hf1⟩ := bcell hb1;have hc1_0 := fun o => hc1 (w.heap.size) o (by first|assumption|omega|(simp;done)|(simp;omega));have hf1_0 := fun o => hf1 (w.heap.size) o (by first|assumption|omega|(simp;done)|(simp;omega));clear hc1 hf1;have hz1_0 : w.heap.size < w1.heap.size := (by first|exact sz1 hb1|exact sz2 hb1|exact sz3 hb1|(have := hb1.size;(try simp only [World.size_alloc, World.size_drew] at this);omega)))
    go_ret2
    exact ⟨rfl, by repeat (first|(with_reducible exact Below.refl _ _)|(with_reducible assumption)|(with_reducible refine ba ?_)|(with_reducible refine bd ?_)|(with_reducible refine bdn ?_ _)|(with_reducible refine bset ?_ (by first|exact Nat.le_refl _|omega|(simp;done)|(simp;omega)))|(with_reducible refine bt ?_ (by with_reducible assumption)))⟩
  · rw [if_pos rfl]
    obtain ⟨s1, s2, s3, s4, s5, s6⟩ := end_spec hh he
    rw [he] at cr
    rw [s2, if_pos rfl, if_pos (by omega)] at cd
    unfold nomV at *
    generalize Day.dayI u.kind u.week u.day u.year u.month = d at *
    have Cr := Lib.hid cr
    have Cd := Lib.hid cd
    clear cr cd hh he s2
    go_enter Tryz.func121, Tryz.ntmps121
    go_wp2_with (first
      | (go_at_call 179;(with_reducible refine (Cr.out _).mono ?_);rintro e w1 ⟨rfl, hb1⟩;obtain ⟨hc1, hf1⟩ := bcell hb1;have hc1_0 := fun o => hc1 (w.heap.size) o (by first|assumption|omega|(simp;done)|(simp;omega));have hf1_0 := fun o => hf1 (w.heap.size) o (by first|assumption|omega|(simp;done)|(simp;omega));clear hc1 hf1;have hz1_0 : w.heap.size < w1.heap.size := (by first|exact sz1 hb1|exact sz2 hb1|exact sz3 hb1|(have := hb1.size;(try simp only [World.size_alloc, World.size_drew] at this);omega)))
      | (go_at_call 181;(with_reducible refine (Cd.out _).mono ?_);rintro e w2 ⟨rfl, hb2⟩;obtain ⟨hc2, hf2⟩ := bcell hb2;have hc2_0 := fun o => hc2 (w.heap.size) o (by first|assumption|omega|(simp;done)|(simp;omega));have hf2_0 := fun o => hf2 (w.heap.size) o (by first|assumption|omega|(simp;done)|(simp;omega));clear hc2 hf2;have hz2_0 : w.heap.size < w2.heap.size := (by first|exact sz1 hb2|exact sz2 hb2|exact sz3 hb2|(have := hb2.size;(try simp only [World.size_alloc, World.size_drew] at this);omega))))
    go_ret2
    exact ⟨rfl, by repeat (first|(with_reducible exact Below.refl _ _)|(with_reducible assumption)|(with_reducible refine ba ?_)|(with_reducible refine bd ?_)|(with_reducible refine bdn ?_ _)|(with_reducible refine bset ?_ (by first|exact Nat.le_refl _|omega|(simp;done)|(simp;omega)))|(with_reducible refine bt ?_ (by with_reducible assumption)))⟩
set_option maxRecDepth 100000 in
set_option maxHeartbeats 3200000 in
theorem Instant {w : World} {v : Value} {l : List RuleV} (h : Holds w v l) (e : EraV) (he : e.Fit) : Calls Tryz.prog 69 #[v, .agg e.cells.toArray] w fun x w' => x = .returned (.tuple #[.int .i64 (instU l e).1, .int .i64 (instU l e).2]) ∧ Below w.heap.size w w' := by
  have cr := fun W => REr.Right e he W
  have cn := fun W => Nom e.u he.u W
  have ck := fun W (h : Holds W v l) => RCh.Saved h e.rules ⟨-1, 0, nomV e.u⟩
  unfold instU
  cases hR : Er.rightB e
  · rw [hR] at cr
    rw [if_neg (by decide)]
    unfold EraV.cells at *
    have Cr := Lib.hid cr
    obtain ⟨q, cap, rfl⟩ := h.form
    clear cr cn ck h hR
    generalize l.length = n at *
    go_enter Tryz.func69, Tryz.ntmps69
    go_wp2_with (go_at_call 120;(with_reducible refine (Cr.out _).mono ?_);rintro e w1 ⟨rfl, hb1⟩;obtain ⟨hc1, hf1⟩ := bcell hb1;have hc1_0 := fun o => hc1 (w.heap.size) o (by first|assumption|omega|(simp;done)|(simp;omega));have hf1_0 := fun o => hf1 (w.heap.size) o (by first|assumption|omega|(simp;done)|(simp;omega));clear hc1 hf1;have hz1_0 : w.heap.size < w1.heap.size := (by first|exact sz1 hb1|exact sz2 hb1|exact sz3 hb1|(have := hb1.size;(try simp only [World.size_alloc, World.size_drew] at this);omega)))
    go_ret2
    exact ⟨rfl, by repeat (first|(with_reducible exact Below.refl _ _)|(with_reducible assumption)|(with_reducible refine ba ?_)|(with_reducible refine bd ?_)|(with_reducible refine bdn ?_ _)|(with_reducible refine bset ?_ (by first|exact Nat.le_refl _|omega|(simp;done)|(simp;omega)))|(with_reducible refine bt ?_ (by with_reducible assumption)))⟩
  obtain ⟨r1, r2, r3, r4⟩ := right_spec hR
  have sb := saved_bd (l := l) hR (nomV e.u)
  rw [hR] at cr
  rw [if_pos rfl]
  unfold nomU at cn
  obtain ⟨q, cap, rfl⟩ := h.form
  obtain ⟨off, kind, save, rules, format, u⟩ := e
  simp only at *
  unfold EraV.cells at *
  unfold UntilV.cells at *
  simp only at *
  cases hh : u.has
  · rw [hh] at cr cn
    rw [if_neg (by decide)] at cn ⊢
    have Cr := Lib.hid cr
    have Cn := Lib.hid cn
    clear cr cn ck h hR he
    generalize l.length = n at *
    go_enter Tryz.func69, Tryz.ntmps69
    go_wp2_with (first
      | (go_at_call 120;(with_reducible refine (Cr.out _).mono ?_);rintro e w1 ⟨rfl, hb1⟩;obtain ⟨hc1, hf1⟩ := bcell hb1;have hc1_0 := fun o => hc1 (w.heap.size) o (by first|assumption|omega|(simp;done)|(simp;omega));have hf1_0 := fun o => hf1 (w.heap.size) o (by first|assumption|omega|(simp;done)|(simp;omega));clear hc1 hf1;have hz1_0 : w.heap.size < w1.heap.size := (by first|exact sz1 hb1|exact sz2 hb1|exact sz3 hb1|(have := hb1.size;(try simp only [World.size_alloc, World.size_drew] at this);omega)))
      | (go_at_call 121;(with_reducible refine (Cn.out _).mono ?_);rintro e w2 ⟨rfl, hb2⟩;obtain ⟨hc2, hf2⟩ := bcell hb2;have hc2_0 := fun o => hc2 (w.heap.size) o (by first|assumption|omega|(simp;done)|(simp;omega));have hf2_0 := fun o => hf2 (w.heap.size) o (by first|assumption|omega|(simp;done)|(simp;omega));clear hc2 hf2;have hz2_0 : w.heap.size < w2.heap.size := (by first|exact sz1 hb2|exact sz2 hb2|exact sz3 hb2|(have := hb2.size;(try simp only [World.size_alloc, World.size_drew] at this);omega))))
    go_ret2
    exact ⟨rfl, by repeat (first|(with_reducible exact Below.refl _ _)|(with_reducible assumption)|(with_reducible refine ba ?_)|(with_reducible refine bd ?_)|(with_reducible refine bdn ?_ _)|(with_reducible refine bset ?_ (by first|exact Nat.le_refl _|omega|(simp;done)|(simp;omega)))|(with_reducible refine bt ?_ (by with_reducible assumption)))⟩
  obtain ⟨s1, s2, s3, s4, s5, s6⟩ := end_spec hh r2
  rw [hh] at cr cn
  rw [if_pos rfl, if_pos r2] at cn
  rw [if_pos rfl]
  unfold savedE at *
  simp only at *
  generalize nomV u = n at *
  by_cases hk : kind = 2
  · subst hk
    rw [if_pos rfl] at sb ⊢
    have ck1 := fun W h => ck W h (by unfold I64;omega)
    unfold OccV.cells at ck1
    generalize Chn.saved l rules ⟨-1, 0, n⟩ = s at *
    simp only at ck1
    unfold Chn.shift
    have HH := Lib.hid h
    have Cr := Lib.hid cr
    have Cn := Lib.hid cn
    have Ck := Lib.hid ck1
    clear cr cn ck ck1 h hR he r2 s2 hh
    generalize l.length = m at *
    have hb : u.base = 0 ∨ u.base = 1 ∨ u.base = 2 := by omega
    obtain ⟨has, year, month, uk, week, day, sec, base⟩ := u
    simp only at *
    rcases hb with rfl|rfl|rfl
    all_goals
      go_enter Tryz.func69, Tryz.ntmps69
      go_wp2_with (first
        | (go_at_call 120;(with_reducible refine (Cr.out _).mono ?_);rintro e w1 ⟨rfl, hb1⟩;obtain ⟨hc1, hf1⟩ := bcell hb1;have hc1_0 := fun o => hc1 (w.heap.size) o (by first|assumption|omega|(simp;done)|(simp;omega));have hf1_0 := fun o => hf1 (w.heap.size) o (by first|assumption|omega|(simp;done)|(simp;omega));clear hc1 hf1;have hz1_0 : w.heap.size < w1.heap.size := (by first|exact sz1 hb1|exact sz2 hb1|exact sz3 hb1|(have := hb1.size;(try simp only [World.size_alloc, World.size_drew] at this);omega)))
        | (go_at_call 121;(with_reducible refine (Cn.out _).mono ?_);rintro e w2 ⟨rfl, hb2⟩;obtain ⟨hc2, hf2⟩ := bcell hb2;have hc2_0 := fun o => hc2 (w.heap.size) o (by first|assumption|omega|(simp;done)|(simp;omega));have hf2_0 := fun o => hf2 (w.heap.size) o (by first|assumption|omega|(simp;done)|(simp;omega));clear hc2 hf2;have hz2_0 : w.heap.size < w2.heap.size := (by first|exact sz1 hb2|exact sz2 hb2|exact sz3 hb2|(have := hb2.size;(try simp only [World.size_alloc, World.size_drew] at this);omega)))
        | (go_at_call 122;(with_reducible refine (Ck.out _ ?_).mono ?_);(· exact HH.out.later (by repeat (first|(with_reducible exact Below.refl _ _)|(with_reducible assumption)|(with_reducible refine ba ?_)|(with_reducible refine bd ?_)|(with_reducible refine bdn ?_ _)|(with_reducible refine bset ?_ (by first|exact Nat.le_refl _|omega|(simp;done)|(simp;omega)))|(with_reducible refine bt ?_ (by with_reducible assumption)))));rintro e w3 ⟨rfl, hb3⟩;obtain ⟨hc3, hf3⟩ := bcell hb3;have hc3_0 := fun o => hc3 (w.heap.size) o (by first|assumption|omega|(simp;done)|(simp;omega));have hf3_0 := fun o => hf3 (w.heap.size) o (by first|assumption|omega|(simp;done)|(simp;omega));clear hc3 hf3;have hz3_0 : w.heap.size < w3.heap.size := (by first|exact sz1 hb3|exact sz2 hb3|exact sz3 hb3|(have := hb3.size;(try simp only [World.size_alloc, World.size_drew] at this);omega))))
      go_ret2
      exact ⟨ret_ii (by first|rfl|omega|(simp;done)|(simp;omega)) rfl, by repeat (first|(with_reducible exact Below.refl _ _)|(with_reducible assumption)|(with_reducible refine ba ?_)|(with_reducible refine bd ?_)|(with_reducible refine bdn ?_ _)|(with_reducible refine bset ?_ (by first|exact Nat.le_refl _|omega|(simp;done)|(simp;omega)))|(with_reducible refine bt ?_ (by with_reducible assumption)))⟩
  · rw [if_neg hk] at sb ⊢
    unfold Chn.shift
    have Cr := Lib.hid cr
    have Cn := Lib.hid cn
    clear cr cn ck h hR he r2 s2 hh
    generalize l.length = m at *
    have hb : u.base = 0 ∨ u.base = 1 ∨ u.base = 2 := by omega
    obtain ⟨has, year, month, uk, week, day, sec, base⟩ := u
    simp only at *
    rcases hb with rfl|rfl|rfl
    all_goals
      go_enter Tryz.func69, Tryz.ntmps69
      go_wp2_with (first
        | (go_at_call 120;(with_reducible refine (Cr.out _).mono ?_);rintro e w1 ⟨rfl, hb1⟩;obtain ⟨hc1, hf1⟩ := bcell hb1;have hc1_0 := fun o => hc1 (w.heap.size) o (by first|assumption|omega|(simp;done)|(simp;omega));have hf1_0 := fun o => hf1 (w.heap.size) o (by first|assumption|omega|(simp;done)|(simp;omega));clear hc1 hf1;have hz1_0 : w.heap.size < w1.heap.size := (by first|exact sz1 hb1|exact sz2 hb1|exact sz3 hb1|(have := hb1.size;(try simp only [World.size_alloc, World.size_drew] at this);omega)))
        | (go_at_call 121;(with_reducible refine (Cn.out _).mono ?_);rintro e w2 ⟨rfl, hb2⟩;obtain ⟨hc2, hf2⟩ := bcell hb2;have hc2_0 := fun o => hc2 (w.heap.size) o (by first|assumption|omega|(simp;done)|(simp;omega));have hf2_0 := fun o => hf2 (w.heap.size) o (by first|assumption|omega|(simp;done)|(simp;omega));clear hc2 hf2;have hz2_0 : w.heap.size < w2.heap.size := (by first|exact sz1 hb2|exact sz2 hb2|exact sz3 hb2|(have := hb2.size;(try simp only [World.size_alloc, World.size_drew] at this);omega))))
      go_ret2
      exact ⟨ret_ii (by first|rfl|omega|(simp;done)|(simp;omega)) rfl, by repeat (first|(with_reducible exact Below.refl _ _)|(with_reducible assumption)|(with_reducible refine ba ?_)|(with_reducible refine bd ?_)|(with_reducible refine bdn ?_ _)|(with_reducible refine bset ?_ (by first|exact Nat.le_refl _|omega|(simp;done)|(simp;omega)))|(with_reducible refine bt ?_ (by with_reducible assumption)))⟩
end RUnt
end Go.Proofs.YtcfmchpoclkpgaaGreatDoor
namespace Go.Proofs.YtcfmchpoclkpgaaGreatDoor
open Go.RowKit NB Nxt
namespace Zn
def okAt (n : Nat) (x : EraV × Nat) : Bool := Er.rightB x.1 && (x.1.u.has == decide (x.2 + 1 < n))
def zoneB (es : List EraV) : Bool := decide (0 < es.length) && es.zipIdx.all (okAt es.length)
def OkTo (es : List EraV) (k : Nat) : Prop := ∀ (j : Nat) (e : EraV), j < k → es[j]? = some e → okAt es.length (e, j) = true
theorem zone_iff {es : List EraV} : zoneB es = true ↔ 0 < es.length ∧ OkTo es es.length := by
  unfold zoneB OkTo
  rw [Bool.and_eq_true, decide_eq_true_eq, List.all_eq_true]
  constructor
  · rintro ⟨h1, h2⟩
    exact ⟨h1, fun j e hj he => h2 (e, j) (List.mem_zipIdx_iff_getElem?.2 he)⟩
  · rintro ⟨h1, h2⟩
    refine ⟨h1, fun x hx => ?_⟩
    have he := List.mem_zipIdx_iff_getElem?.1 hx
    exact h2 x.2 x.1 (List.getElem?_eq_some_iff.1 he).1 he
theorem OkTo.succ {es : List EraV} {k : Nat} (h : OkTo es k) {e : EraV} (he : es[k]? = some e) (hk : okAt es.length (e, k) = true) : OkTo es (k + 1) := by
  intro j x hj hx
  rcases (by omega : j < k ∨ j = k) with h1|rfl
  · exact h j x h1 hx
  · rw [he] at hx
    cases hx
    exact hk
theorem zone_not {es : List EraV} {k : Nat} {e : EraV} (he : es[k]? = some e) (hk : okAt es.length (e, k) = false) : zoneB es = false := by
  rw [Bool.eq_false_iff]
  intro h
  have := (zone_iff.1 h).2 k e (List.getElem?_eq_some_iff.1 he).1 he
  rw [hk] at this
  cases this
set_option maxRecDepth 100000 in
set_option maxHeartbeats 3200000 in
theorem Zone {w : World} {v : Value} {es : List EraV} (h : HoldsE w v es) (name : ByteArray) : Calls Tryz.prog 68 #[.agg #[.string name, v]] w fun e w' => e = .returned (.bool (zoneB es)) ∧ Below w.heap.size w w' := by
  have hat := fun (k : Nat) (e : EraV) (he : es[k]? = some e) => h.at he
  have hfit := h.fit
  have hln := h.len
  obtain ⟨p, cap, rfl⟩ := h.form
  have cr := fun (e : EraV) (he : e.Fit) W => REr.Right e he W
  have hll : ∀ k : Nat, k < es.length → ∃ e, es[k]? = some e := fun k hk => ⟨es[k], by simp⟩
  have hzn := fun (k : Nat) (e : EraV) (he : es[k]? = some e) => zone_not (k := k) he
  have hok : ∀ k, k = es.length → OkTo es k → zoneB es = decide (0 < es.length) := by
    intro k hk ho
    by_cases h0 : 0 < es.length
    · rw [zone_iff.2 ⟨h0, hk ▸ ho⟩];simp [h0]
    · unfold zoneB;simp [h0]
  have hsc := fun (k : Nat) (ho : OkTo es k) (e : EraV) (he : es[k]? = some e) => ho.succ he
  generalize zoneB es = zb at *
  generalize es.length = n at *
  have Hat := Lib.hid hat
  have Hft := Lib.hid hfit
  have HLL := Lib.hid hll
  have Hzn := Lib.hid hzn
  have Hok := Lib.hid hok
  have Hsc := Lib.hid hsc
  have Cr := Lib.hid cr
  clear hat hfit hll hzn hok hsc cr h
  go_enter Tryz.func68, Tryz.ntmps68
  go_wp2
  go_loopw [8] (fun z wr => ∃ k : Nat, z = .int .i64 k ∧ k ≤ n ∧ OkTo es k ∧ Below w.heap.size w wr ∧ Box wr w.heap.size #[.string name, .slice p n cap] 42) (fun z _ => n - (intOf z).toNat)
  case atStart => exact ⟨0, rfl, Nat.zero_le _, fun j e hj => absurd hj (Nat.not_lt_zero _), by repeat (first|(with_reducible exact Below.refl _ _)|(with_reducible assumption)|(with_reducible refine ba ?_)|(with_reducible refine bd ?_)|(with_reducible refine bdn ?_ _)|(with_reducible refine bset ?_ (by first|exact Nat.le_refl _|omega|(simp;done)|(simp;omega)))|(with_reducible refine bt ?_ (by with_reducible assumption))), Box.new _ _ _⟩
  case round =>
    obtain ⟨k, rfl, hk, hto, hbel, hbx⟩ := hrel
    have c0 := hbx.cell 0
    have c1 := hbx.cell 1
    have l0 := hbx.lt
    have Hto := Lib.hid hto
    have Hbel := Lib.hid hbel
    have Hbx := Lib.hid hbx
    clear hto hbel hbx
    by_cases hlt : k < n
    · obtain ⟨e, he⟩ := HLL.out k hlt
      obtain ⟨b, off, cap', hq, hb, hcl⟩ := Hat.out k e he
      simp only [Value.slice.injEq] at hq
      obtain ⟨rfl, -, -⟩ := hq
      have cr := fun W => Cr.out e (Hft.out e (List.mem_of_getElem? he)) W
      have hsc := Hsc.out k Hto.out e he
      have hzn := Hzn.out k e he
      unfold okAt at hsc hzn
      simp only at hsc hzn
      generalize Er.rightB e = g at *
      have hd : ∀ (j : Nat) (u : Value), e.cells[j]? = some u → wr.cell? ⟨b, off + k * 13 + j, none⟩ = some u := fun j u hu => (Hbel.out.cell (p := ⟨b, off + k * 13 + j, none⟩) hb).trans (hcl j u hu)
      unfold EraV.cells at hd cr
      have d0 := hd 0 _ rfl
      have d1 := hd 1 _ rfl
      have d2 := hd 2 _ rfl
      have d3 := hd 3 _ rfl
      have d4 := hd 4 _ rfl
      have d5 := hd 5 _ rfl
      have d6 := hd 6 _ rfl
      have d7 := hd 7 _ rfl
      have d8 := hd 8 _ rfl
      have d9 := hd 9 _ rfl
      have d10 := hd 10 _ rfl
      have d11 := hd 11 _ rfl
      have d12 := hd 12 _ rfl
      simp only [Nat.add_zero] at d0
      clear hd hcl he hb
      generalize e.u.has = has at *
      have CR := Lib.hid cr
      clear cr
      have hki : ((k : Int) < n - 1) ↔ (k + 1 < n) := by omega
      cases g <;> cases has <;> by_cases hkn : k + 1 < n
      all_goals
        first
          | have hki2 : decide ((k : Int) < n - 1) = true := by rw [decide_eq_true_eq];exact hki.2 hkn
          | have hki2 : decide ((k : Int) < n - 1) = false := by rw [decide_eq_false_iff_not];exact fun h => hkn (hki.1 h)
        clear hki
        first
          | (have HZ := Lib.hid (hzn (by simp [hkn]))
             clear hsc hzn
             go_wp2_with (go_at_call 120;(with_reducible refine (CR.out _).mono ?_);rintro e w1 ⟨rfl, hb1⟩;obtain ⟨hc1, hf1⟩ := bcell hb1;have hc1_0 := fun o => hc1 (w.heap.size) o (by first|assumption|omega|(simp;done)|(simp;omega));have hf1_0 := fun o => hf1 (w.heap.size) o (by first|assumption|omega|(simp;done)|(simp;omega));have hc1_1 := fun o => hc1 (wr.heap.size) o (by first|assumption|omega|(simp;done)|(simp;omega));have hf1_1 := fun o => hf1 (wr.heap.size) o (by first|assumption|omega|(simp;done)|(simp;omega));clear hc1 hf1;have hz1_0 : w.heap.size < w1.heap.size := (by first|exact sz1 hb1|exact sz2 hb1|exact sz3 hb1|(have := hb1.size;(try simp only [World.size_alloc] at this);omega));have hz1_1 : wr.heap.size < w1.heap.size := (by first|exact sz1 hb1|exact sz2 hb1|exact sz3 hb1|(have := hb1.size;(try simp only [World.size_alloc, World.size_drew] at this);omega)))
             go_ret
             exact ⟨congrArg (fun v => Ending.returned (Value.bool v)) HZ.out.symm, by have hbel := Hbel.out;repeat (first|(with_reducible exact Below.refl _ _)|(with_reducible assumption)|(with_reducible refine ba ?_)|(with_reducible refine bd ?_)|(with_reducible refine bdn ?_ _)|(with_reducible refine bset ?_ (by first|exact Nat.le_refl _|omega|(simp;done)|(simp;omega)))|(with_reducible refine bt ?_ (by with_reducible assumption)))⟩)
          | (have HS := Lib.hid (hsc (by simp [hkn]))
             clear hsc hzn
             go_wp2_with (go_at_call 120;(with_reducible refine (CR.out _).mono ?_);rintro e w1 ⟨rfl, hb1⟩;obtain ⟨hc1, hf1⟩ := bcell hb1;have hc1_0 := fun o => hc1 (w.heap.size) o (by first|assumption|omega|(simp;done)|(simp;omega));have hf1_0 := fun o => hf1 (w.heap.size) o (by first|assumption|omega|(simp;done)|(simp;omega));have hc1_1 := fun o => hc1 (wr.heap.size) o (by first|assumption|omega|(simp;done)|(simp;omega));have hf1_1 := fun o => hf1 (wr.heap.size) o (by first|assumption|omega|(simp;done)|(simp;omega));clear hc1 hf1;have hz1_0 : w.heap.size < w1.heap.size := (by first|exact sz1 hb1|exact sz2 hb1|exact sz3 hb1|(have := hb1.size;(try simp only [World.size_alloc] at this);omega));have hz1_1 : wr.heap.size < w1.heap.size := (by first|exact sz1 hb1|exact sz2 hb1|exact sz3 hb1|(have := hb1.size;(try simp only [World.size_alloc, World.size_drew] at this);omega)))
             have hbel := Hbel.out
             have hbx := Hbx.out
             go_roundw
             case rel => exact ⟨k + 1, by go_num, hlt, HS.out, by repeat (first|(with_reducible exact Below.refl _ _)|(with_reducible assumption)|(with_reducible refine ba ?_)|(with_reducible refine bd ?_)|(with_reducible refine bdn ?_ _)|(with_reducible refine bset ?_ (by first|exact Nat.le_refl _|omega|(simp;done)|(simp;omega)))|(with_reducible refine bt ?_ (by with_reducible assumption))), by repeat (first|(with_reducible assumption)|(with_reducible exact Box.new _ _ _)|(with_reducible refine Box.old ?_)|(with_reducible refine Box.drew ?_)|(with_reducible refine Box.drewN ?_ _)|(with_reducible refine Box.other ?_ (by first|assumption|omega|(simp;omega)))|(with_reducible refine Box.later ?_ (by with_reducible assumption)))⟩
             case measure => simp [intOf];omega)
    · have hkn : k = n := by omega
      have HR := Lib.hid (Hok.out k hkn Hto.out)
      by_cases hn0 : 0 < n
      · have hn1 : (0 : Int) < n := by omega
        go_wp2
        go_ret
        exact ⟨congrArg (fun v => Ending.returned (Value.bool v)) (by rw [HR.out];simp [hn0]), Hbel.out⟩
      · have hn1 : n = 0 := by omega
        subst hn1
        go_wp2
        go_ret
        exact ⟨congrArg (fun v => Ending.returned (Value.bool v)) (by rw [HR.out];simp), Hbel.out⟩
end Zn
end Go.Proofs.YtcfmchpoclkpgaaGreatDoor
namespace Go.Proofs.YtcfmchpoclkpgaaGreatDoor
open Go.RowKit Go.Shelf NB Nxt
attribute [local go_sem] Oper.semAt_some
namespace Spn
end Spn
namespace All
def RowPost (w : World) (l : List OccV) (e : Ending) (w' : World) : Prop := ∃ v, e = .returned v ∧ w'.ownsRow w.heap.size 149 3 v l.length (l.flatMap OccV.cells) ∧ Below w.heap.size w w'
theorem info_occ : (Tryz.prog.info? 149).map (fun i => (i.zero, i.size, i.bytes)) = some (some (.agg #[.int .i64 0, .int .i64 0, .int .i64 0]), 3, 24) := by kernel_rfl
theorem own_mono {w : World} {B B' : Nat} {e : TypeId} {sz n : Nat} {v : Value} {xs : List Value} (h : w.ownsRow B e sz v n xs) (hB : B' ≤ B) : w.ownsRow B' e sz v n xs := by
  refine ⟨h.1, ?_⟩
  rcases h.2 with h2|⟨g, cap, cur, h1, h2, h3⟩
  · exact .inl h2
  · exact .inr ⟨g, cap, cur, h1, Nat.le_trans hB h2, h3⟩
theorem grown_set (W : World) (b o : Nat) (v : Value) : W.grownBy (W.setCell ⟨b, o, none⟩ v) (some b) :=
  ⟨rfl, rfl, rfl, (KeepsWalks.setCell W _ v).size, fun k _ hk => Below.heap_setCell _ _ _ k (fun e => hk (by rw [e]))⟩
theorem row_ge {w : World} {B : Nat} {e : TypeId} {sz n : Nat} {v : Value} {xs : List Value} (h : w.ownsRow B e sz v n xs) : ∀ k, v.ownBlock = some k → B ≤ k := by
  intro k hk
  rcases h.2 with ⟨rfl, _⟩|⟨g, cap, cur, rfl, h2, _⟩
  · simp [Value.ownBlock] at hk
  · obtain rfl : g = k := by simpa [Value.ownBlock] using hk
    exact h2
theorem row_not {w : World} {B c : Nat} {e : TypeId} {sz n : Nat} {v : Value} {xs : List Value} (h : w.ownsRow B e sz v n xs) (hc : c < B) : some c ≠ v.ownBlock := by
  intro e'
  have := row_ge h c e'.symm
  omega
theorem news_box {w : World} {b : Nat} {cs : Array Value} {t : TypeId} (h : Box w b cs t) : ∀ j u, cs.toList[j]? = some u → w.cell? ((⟨b, 0, none⟩ : Addr).add j) = some u := by
  intro j u hu
  have hadd : (⟨b, 0, none⟩ : Addr).add j = ⟨b, j, none⟩ := by unfold Addr.add;split <;> simp_all
  rw [hadd, h.cell]
  simpa using hu
def inO (l : List RuleV) (name : ByteArray) (fr tt most : Int) : List OccV := if fr < tt then Occ.inL l name tt ⟨-1, 0, fr⟩ most.toNat else []
variable {F : Fence} {n : Nat}
end All
end Go.Proofs.YtcfmchpoclkpgaaGreatDoor
