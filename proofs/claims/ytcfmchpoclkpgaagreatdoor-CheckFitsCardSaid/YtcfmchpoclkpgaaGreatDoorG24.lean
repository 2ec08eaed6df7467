import Derived.Test.YtcfmchpoclkpgaaGreatDoorG14
import Derived.Test.YtcfmchpoclkpgaaGreatDoorG7
import Derived.Test.YtcfmchpoclkpgaaGreatDoorG18
import Derived.Test.YtcfmchpoclkpgaaGreatDoorG17
namespace Go.Proofs.YtcfmchpoclkpgaaGreatDoor
open Go.RowKit NB Nxt
namespace Zn
end Zn
end Go.Proofs.YtcfmchpoclkpgaaGreatDoor
namespace Go.Proofs.YtcfmchpoclkpgaaGreatDoor
open Go.RowKit NB
namespace Zn
def lightE (e : EraV) : Bool := decide (e.rules.size ≤ 200) && decide (e.format.size ≤ 200)
def lightZ (name : ByteArray) (es : List EraV) : Bool := decide (es.length ≤ 12) && decide (name.size ≤ 200) && es.all lightE
set_option maxRecDepth 100000 in
set_option maxHeartbeats 3200000 in
theorem LightZ {w : World} {v : Value} {es : List EraV} (h : HoldsE w v es) (name : ByteArray) (hnm : name.size ≤ 9223372036854775807) : Calls Tryz.prog 25 #[.agg #[.string name, v]] w fun e w' => e = .returned (.bool (lightZ name es)) ∧ Below w.heap.size w w' := by
  have hat := fun (k : Nat) (e : EraV) (he : es[k]? = some e) => h.at he
  have hfit := h.fit
  have hln := h.len
  obtain ⟨p, cap, rfl⟩ := h.form
  unfold lightZ
  have hll : ∀ k : Nat, k < es.length → ∃ e, es[k]? = some e := fun k hk => ⟨es[k], by simp⟩
  have hsc : ∀ (k : Nat) (e : EraV), es[k]? = some e → (es.take k).all lightE = true → lightE e = true → (es.take (k + 1)).all lightE = true := by
    intro k e he h1 h2
    rw [List.take_add_one, he, List.all_append, h1]
    simp [h2]
  have hno : ∀ (k : Nat) (e : EraV), es[k]? = some e → lightE e = false → es.all lightE = false := by
    intro k e he h1
    rw [Bool.eq_false_iff]
    intro h2
    rw [List.all_eq_true] at h2
    rw [h2 e (List.mem_of_getElem? he)] at h1
    cases h1
  have hfin : ∀ k, k = es.length → (es.take k).all lightE = es.all lightE := fun k hk => by rw [hk, List.take_length]
  obtain ⟨al, hal⟩ : ∃ x, x = es.all lightE := ⟨_, rfl⟩
  rw [← hal]
  rw [← hal] at hno hfin
  generalize es.length = n at *
  have Hat := Lib.hid hat
  have Hft := Lib.hid hfit
  have HLL := Lib.hid hll
  have Hsc := Lib.hid hsc
  have Hno := Lib.hid hno
  have Hfin := Lib.hid hfin
  clear hat hfit hll hsc hno hfin h hal
  by_cases h12 : n ≤ 12
  case neg =>
    rw [show decide (n ≤ 12) = false by simpa using h12]
    go_enter Tryz.func25, Tryz.ntmps25
    go_wp2
    go_ret
    exact ⟨rfl, by repeat (first|(with_reducible exact Below.refl _ _)|(with_reducible assumption)|(with_reducible refine ba ?_)|(with_reducible refine bd ?_)|(with_reducible refine bdn ?_ _)|(with_reducible refine bset ?_ (by first|exact Nat.le_refl _|omega|(simp;done)|(simp;omega)))|(with_reducible refine bt ?_ (by with_reducible assumption)))⟩
  rw [show decide (n ≤ 12) = true by simpa using h12]
  by_cases h200 : name.size ≤ 200
  case neg =>
    rw [show decide (name.size ≤ 200) = false by simpa using h200]
    go_enter Tryz.func25, Tryz.ntmps25
    go_wp2
    go_ret
    exact ⟨rfl, by repeat (first|(with_reducible exact Below.refl _ _)|(with_reducible assumption)|(with_reducible refine ba ?_)|(with_reducible refine bd ?_)|(with_reducible refine bdn ?_ _)|(with_reducible refine bset ?_ (by first|exact Nat.le_refl _|omega|(simp;done)|(simp;omega)))|(with_reducible refine bt ?_ (by with_reducible assumption)))⟩
  rw [show decide (name.size ≤ 200) = true by simpa using h200, Bool.true_and, Bool.true_and]
  go_enter Tryz.func25, Tryz.ntmps25
  go_wp2
  go_loopw [18] (fun z wr => ∃ k : Nat, z = .int .i64 k ∧ k ≤ n ∧ (es.take k).all lightE = true ∧ Below w.heap.size w wr) (fun z _ => n - (intOf z).toNat)
  case atStart => exact ⟨0, rfl, Nat.zero_le _, rfl, by repeat (first|(with_reducible exact Below.refl _ _)|(with_reducible assumption)|(with_reducible refine ba ?_)|(with_reducible refine bd ?_)|(with_reducible refine bdn ?_ _)|(with_reducible refine bset ?_ (by first|exact Nat.le_refl _|omega|(simp;done)|(simp;omega)))|(with_reducible refine bt ?_ (by with_reducible assumption)))⟩
  case round =>
    obtain ⟨k, rfl, hk, hto, hbel⟩ := hrel
    have Hto := Lib.hid hto
    have Hbel := Lib.hid hbel
    clear hto hbel
    by_cases hlt : k < n
    · obtain ⟨e, he⟩ := HLL.out k hlt
      obtain ⟨b, off, cap', hq, hb, hcl⟩ := Hat.out k e he
      simp only [Value.slice.injEq] at hq
      obtain ⟨rfl, -, -⟩ := hq
      have hsc := Hsc.out k e he Hto.out
      have hno := Hno.out k e he
      have ef := Hft.out e (List.mem_of_getElem? he)
      have er := ef.r
      have ef2 := ef.f
      unfold lightE at hsc hno
      have hd : ∀ (j : Nat) (u : Value), e.cells[j]? = some u → wr.cell? ⟨b, off + k * 13 + j, none⟩ = some u := fun j u hu => (Hbel.out.cell (p := ⟨b, off + k * 13 + j, none⟩) hb).trans (hcl j u hu)
      unfold EraV.cells at hd
      have d0 := hd 0 _ rfl
      have d1 := hd 1 _ rfl
      have d2 := hd 2 _ rfl
      have d3 := hd 3 _ rfl
      have d4 := hd 4 _ rfl
      have d5 := hd 5 _ rfl
      have d6 := hd 6 _ rfl
      have d7 := hd 7 _ rfl
      have d8 := hd 8 _ rfl
      have d9 := hd 9 _ rfl
      have d10 := hd 10 _ rfl
      have d11 := hd 11 _ rfl
      have d12 := hd 12 _ rfl
      simp only [Nat.add_zero] at d0
      clear hd hcl he hb ef
      by_cases hg : e.rules.size ≤ 200 ∧ e.format.size ≤ 200
      · have HS := Lib.hid (hsc (by simp [hg.1, hg.2]))
        obtain ⟨g1, g2⟩ := hg
        clear hsc hno
        go_wp2
        have hbel := Hbel.out
        go_roundw
        case rel => exact ⟨k + 1, by go_num, hlt, HS.out, by repeat (first|(with_reducible exact Below.refl _ _)|(with_reducible assumption)|(with_reducible refine ba ?_)|(with_reducible refine bd ?_)|(with_reducible refine bdn ?_ _)|(with_reducible refine bset ?_ (by first|exact Nat.le_refl _|omega|(simp;done)|(simp;omega)))|(with_reducible refine bt ?_ (by with_reducible assumption)))⟩
        case measure => simp [intOf];omega
      · have HZ := Lib.hid (hno (by
          rw [Bool.and_eq_false_iff]
          simp only [decide_eq_false_iff_not]
          omega))
        clear hsc hno
        rcases (by omega : 200 < e.rules.size ∨ (e.rules.size ≤ 200 ∧ 200 < e.format.size)) with g1|⟨g1, g2⟩
        all_goals
          clear hg
          go_wp2
          have hbel := Hbel.out
          go_ret
          exact ⟨congrArg (fun v => Ending.returned (Value.bool v)) HZ.out.symm, by repeat (first|(with_reducible exact Below.refl _ _)|(with_reducible assumption)|(with_reducible refine ba ?_)|(with_reducible refine bd ?_)|(with_reducible refine bdn ?_ _)|(with_reducible refine bset ?_ (by first|exact Nat.le_refl _|omega|(simp;done)|(simp;omega)))|(with_reducible refine bt ?_ (by with_reducible assumption)))⟩
    · have hkn : k = n := by omega
      have HR := Lib.hid ((Hfin.out k hkn).symm.trans Hto.out)
      go_wp2
      go_ret
      exact ⟨congrArg (fun v => Ending.returned (Value.bool v)) HR.out.symm, Hbel.out⟩
end Zn
end Go.Proofs.YtcfmchpoclkpgaaGreatDoor
namespace Go.Proofs.YtcfmchpoclkpgaaGreatDoor
open Go.RowKit NB
namespace Eqs
end Eqs
end Go.Proofs.YtcfmchpoclkpgaaGreatDoor
namespace Go.Proofs.YtcfmchpoclkpgaaGreatDoor
open Go.RowKit NB
namespace Eqs
def eqK (x y : LinkV) : Bool := decide (x = y)
def eqR (x y : RuleV) : Bool := decide (x = y)
def eqE (x y : EraV) : Bool := decide (x = y)
def zd (z : ZoneV) : ByteArray × List EraV := (z.name, z.es)
def td (t : TabV) : List RuleV × List LinkV × List (ByteArray × List EraV) := (t.rs, t.ls, t.zs.map zd)
end Eqs
end Go.Proofs.YtcfmchpoclkpgaaGreatDoor
namespace Go.Proofs.YtcfmchpoclkpgaaGreatDoor
open Go.RowKit NB
namespace Eqs
def lightK (x : LinkV) : Bool := decide (x.name.size ≤ 200) && decide (x.target.size ≤ 200)
def lightT (t : TabV) : Bool := Lgt.light t.rs && (decide (t.zs.length ≤ 10) && (decide (t.ls.length ≤ 16) && (t.zs.all (fun z => Zn.lightZ z.name z.es) && t.ls.all lightK)))
theorem take_all {α : Type} {l : List α} {p : α → Bool} {k : Nat} {x : α} (hx : l[k]? = some x) (h : (l.take k).all p = true) (hp : p x = true) : (l.take (k + 1)).all p = true := by
  rw [List.take_add_one, hx, List.all_append, h];simp [hp]
theorem not_all {α : Type} {l : List α} {p : α → Bool} {k : Nat} {x : α} (hx : l[k]? = some x) (hp : p x = false) : l.all p = false := by
  rw [Bool.eq_false_iff]
  intro h
  rw [List.all_eq_true] at h
  rw [h x (List.mem_of_getElem? hx)] at hp
  cases hp
set_option maxRecDepth 100000 in
set_option maxHeartbeats 3200000 in
theorem Light {w : World} {t : TabV} (ht : HoldsT w t) : Calls Tryz.prog 7 #[.agg #[t.rv, t.zv, t.lv]] w fun e w' => e = .returned (.bool (lightT t)) ∧ Below w.heap.size w w' := by
  obtain ⟨rv, zv, lv, rs, zs, ls⟩ := t
  have hr := ht.r
  obtain ⟨p, cap, e1, _⟩ := ht.r.g.pk
  obtain ⟨pz, capz, e3, hpz⟩ := ht.z.pk
  obtain ⟨pl, capl, e5, hpl⟩ := ht.l.pk
  have l3 := ht.z.len;have l5 := ht.l.len
  have zf := ht.zf;have lf := ht.lf
  dsimp only at e1 e3 e5 hpz hpl l3 l5 zf lf hr ⊢
  subst e1 e3 e5
  clear ht
  unfold lightT
  dsimp only
  have HR := Lib.hid hr
  obtain ⟨n, hn⟩ : ∃ n, n = rs.length := ⟨_, rfl⟩
  obtain ⟨nz, hnz⟩ : ∃ nz, nz = zs.length := ⟨_, rfl⟩
  obtain ⟨nl, hnl⟩ : ∃ nl, nl = ls.length := ⟨_, rfl⟩
  have hlen := hr.len
  rw [← hnz] at l3 ⊢
  rw [← hnl] at l5 ⊢
  rw [← hn] at hlen ⊢
  have HPZ := Lib.hid hpz;have HPL := Lib.hid hpl;have ZF := Lib.hid zf;have LF := Lib.hid lf;have HN := Lib.hid hn;have HNZ := Lib.hid hnz;have HNL := Lib.hid hnl
  clear hpz hpl zf lf hr hnz hnl
  have cr : ∀ X, Below w.heap.size w X → Calls Tryz.prog 24 #[.slice p n cap] X fun e w' => e = .returned (.bool (Lgt.light rs)) ∧ Below X.heap.size X w' := fun X hX => by rw [hn];exact Lgt.LightH (HR.out.later hX)
  have CR := Lib.hid cr
  clear cr hn
  obtain ⟨lr, hlr⟩ : ∃ lr, lr = Lgt.light rs := ⟨_, rfl⟩
  rw [← hlr] at CR ⊢
  clear hlr
  cases lr
  · go_enter Tryz.func7, Tryz.ntmps7
    go_wp2_with (go_at_call 24;(with_reducible refine (CR.out _ ?_).mono ?_);(· repeat (first|(with_reducible exact Below.refl _ _)|(with_reducible assumption)|(with_reducible refine ba ?_)|(with_reducible refine bd ?_)|(with_reducible refine bdn ?_ _)|(with_reducible refine bset ?_ (by first|exact Nat.le_refl _|omega|(simp;done)|(simp;omega)))|(with_reducible refine bt ?_ (by with_reducible assumption))));rintro e w1 ⟨rfl, hb1⟩;obtain ⟨hc1, hf1⟩ := bcell hb1)
    go_ret
    exact ⟨rfl, by repeat (first|(with_reducible exact Below.refl _ _)|(with_reducible assumption)|(with_reducible refine ba ?_)|(with_reducible refine bd ?_)|(with_reducible refine bdn ?_ _)|(with_reducible refine bset ?_ (by first|exact Nat.le_refl _|omega|(simp;done)|(simp;omega)))|(with_reducible refine bt ?_ (by with_reducible assumption)))⟩
  by_cases hz : nz ≤ 10
  case neg =>
    rw [decide_eq_false hz]
    go_enter Tryz.func7, Tryz.ntmps7
    go_wp2_with (go_at_call 24;(with_reducible refine (CR.out _ ?_).mono ?_);(· repeat (first|(with_reducible exact Below.refl _ _)|(with_reducible assumption)|(with_reducible refine ba ?_)|(with_reducible refine bd ?_)|(with_reducible refine bdn ?_ _)|(with_reducible refine bset ?_ (by first|exact Nat.le_refl _|omega|(simp;done)|(simp;omega)))|(with_reducible refine bt ?_ (by with_reducible assumption))));rintro e w1 ⟨rfl, hb1⟩;obtain ⟨hc1, hf1⟩ := bcell hb1;have hc1_0 := fun o => hc1 (w.heap.size) o (by first|assumption|omega|(simp;done)|(simp;omega));have hf1_0 := fun o => hf1 (w.heap.size) o (by first|assumption|omega|(simp;done)|(simp;omega));clear hc1 hf1;have hz1_0 : w.heap.size < w1.heap.size := (by first|exact sz1 hb1|exact sz2 hb1|exact sz3 hb1|(have := hb1.size;(try simp only [World.size_alloc, World.size_drew] at this);omega)))
    go_ret
    exact ⟨rfl, by repeat (first|(with_reducible exact Below.refl _ _)|(with_reducible assumption)|(with_reducible refine ba ?_)|(with_reducible refine bd ?_)|(with_reducible refine bdn ?_ _)|(with_reducible refine bset ?_ (by first|exact Nat.le_refl _|omega|(simp;done)|(simp;omega)))|(with_reducible refine bt ?_ (by with_reducible assumption)))⟩
  by_cases hl : nl ≤ 16
  case neg =>
    rw [decide_eq_true hz, decide_eq_false hl]
    go_enter Tryz.func7, Tryz.ntmps7
    go_wp2_with (go_at_call 24;(with_reducible refine (CR.out _ ?_).mono ?_);(· repeat (first|(with_reducible exact Below.refl _ _)|(with_reducible assumption)|(with_reducible refine ba ?_)|(with_reducible refine bd ?_)|(with_reducible refine bdn ?_ _)|(with_reducible refine bset ?_ (by first|exact Nat.le_refl _|omega|(simp;done)|(simp;omega)))|(with_reducible refine bt ?_ (by with_reducible assumption))));rintro e w1 ⟨rfl, hb1⟩;obtain ⟨hc1, hf1⟩ := bcell hb1;have hc1_0 := fun o => hc1 (w.heap.size) o (by first|assumption|omega|(simp;done)|(simp;omega));have hf1_0 := fun o => hf1 (w.heap.size) o (by first|assumption|omega|(simp;done)|(simp;omega));clear hc1 hf1;have hz1_0 : w.heap.size < w1.heap.size := (by first|exact sz1 hb1|exact sz2 hb1|exact sz3 hb1|(have := hb1.size;(try simp only [World.size_alloc, World.size_drew] at this);omega)))
    go_ret
    exact ⟨rfl, by repeat (first|(with_reducible exact Below.refl _ _)|(with_reducible assumption)|(with_reducible refine ba ?_)|(with_reducible refine bd ?_)|(with_reducible refine bdn ?_ _)|(with_reducible refine bset ?_ (by first|exact Nat.le_refl _|omega|(simp;done)|(simp;omega)))|(with_reducible refine bt ?_ (by with_reducible assumption)))⟩
  rw [decide_eq_true hz, decide_eq_true hl, Bool.true_and, Bool.true_and, Bool.true_and]
  go_enter Tryz.func7, Tryz.ntmps7
  go_wp2_with (go_at_call 24;(with_reducible refine (CR.out _ ?_).mono ?_);(· repeat (first|(with_reducible exact Below.refl _ _)|(with_reducible assumption)|(with_reducible refine ba ?_)|(with_reducible refine bd ?_)|(with_reducible refine bdn ?_ _)|(with_reducible refine bset ?_ (by first|exact Nat.le_refl _|omega|(simp;done)|(simp;omega)))|(with_reducible refine bt ?_ (by with_reducible assumption))));rintro e w1 ⟨rfl, hb1⟩;obtain ⟨hc1, hf1⟩ := bcell hb1;have hc1_0 := fun o => hc1 (w.heap.size) o (by first|assumption|omega|(simp;done)|(simp;omega));have hf1_0 := fun o => hf1 (w.heap.size) o (by first|assumption|omega|(simp;done)|(simp;omega));clear hc1 hf1;have hz1_0 : w.heap.size < w1.heap.size := (by first|exact sz1 hb1|exact sz2 hb1|exact sz3 hb1|(have := hb1.size;(try simp only [World.size_alloc, World.size_drew] at this);omega)))
  have b1 : Box w1 w.heap.size #[.slice p n cap, .slice pz nz capz, .slice pl nl capl] 26 := (Box.new w _ _).later hb1
  have hB1 : Below w.heap.size w w1 := by repeat (first|(with_reducible exact Below.refl _ _)|(with_reducible assumption)|(with_reducible refine ba ?_)|(with_reducible refine bd ?_)|(with_reducible refine bdn ?_ _)|(with_reducible refine bset ?_ (by first|exact Nat.le_refl _|omega|(simp;done)|(simp;omega)))|(with_reducible refine bt ?_ (by with_reducible assumption)))
  go_loopw [26] (fun i wr => ∃ k : Nat, i = .int .i64 k ∧ k ≤ nz ∧ Below w1.heap.size w1 wr ∧ Hid ((zs.take k).all (fun z => Zn.lightZ z.name z.es) = true)) (fun i _ => nz - (intOf i).toNat)
  case atStart => exact ⟨0, rfl, Nat.zero_le _, Below.refl _ _, rfl⟩
  case round =>
    obtain ⟨k, rfl, hk, hbr, HS⟩ := hrel
    obtain ⟨w2, rfl⟩ : ∃ w2 : World, w2 = wr := ⟨_, rfl⟩
    have hbw : Below w.heap.size w w2 := hB1.trans (hbr.mono hB1.size)
    have b2 := b1.later hbr
    have c2 := b2.cell;have m2 := b2.lt
    by_cases hlt : k < nz
    · obtain ⟨x, hx⟩ : ∃ x, zs[k]? = some x := ⟨_, List.getElem?_eq_getElem (by rw [← HNZ.out];exact hlt)⟩
      obtain ⟨g1, o1, rfl, hg1, d1⟩ := HPZ.out k x hx
      have x0 := (hbw.cell (p := ⟨g1, o1 + k * 2 + 0, none⟩) hg1).trans (d1 0 _ rfl)
      have x1 := (hbw.cell (p := ⟨g1, o1 + k * 2 + 1, none⟩) hg1).trans (d1 1 _ rfl)
      rw [Nat.add_zero] at x0
      have zfx := ZF.out x (List.mem_of_getElem? hx)
      obtain ⟨nm, xv, es⟩ := x
      obtain ⟨pp, cc, hv⟩ := zfx.e.form
      dsimp only at hv x0 x1
      subst hv
      have CZ := Lib.hid (fun (X : World) (hX : Below w.heap.size w X) => Zn.LightZ (zfx.later hX).e nm zfx.n)
      have HX := Lib.hid hx
      obtain ⟨q, hq⟩ : ∃ q, q = Zn.lightZ nm es := ⟨_, rfl⟩
      rw [← hq] at CZ
      have HQ := Lib.hid hq
      clear d1 hx zfx hq
      cases q
      · go_wp2_with (go_at_call 25;(with_reducible refine (CZ.out _ ?_).mono ?_);(· repeat (first|(with_reducible exact Below.refl _ _)|(with_reducible assumption)|(with_reducible refine ba ?_)|(with_reducible refine bd ?_)|(with_reducible refine bdn ?_ _)|(with_reducible refine bset ?_ (by first|exact Nat.le_refl _|omega|(simp;done)|(simp;omega)))|(with_reducible refine bt ?_ (by with_reducible assumption))));rintro e w3 ⟨rfl, hb3⟩;obtain ⟨hc3, hf3⟩ := bcell hb3;have hc3_0 := fun o => hc3 (w.heap.size) o (by first|assumption|omega|(simp;done)|(simp;omega));have hf3_0 := fun o => hf3 (w.heap.size) o (by first|assumption|omega|(simp;done)|(simp;omega));clear hc3 hf3;have hz3_0 : w.heap.size < w3.heap.size := (by first|exact sz1 hb3|exact sz2 hb3|exact sz3 hb3|(have := hb3.size;(try simp only [World.size_alloc] at this);omega)))
        go_ret
        exact ⟨by rw [not_all HX.out HQ.out.symm];rfl, by repeat (first|(with_reducible exact Below.refl _ _)|(with_reducible assumption)|(with_reducible refine ba ?_)|(with_reducible refine bd ?_)|(with_reducible refine bdn ?_ _)|(with_reducible refine bset ?_ (by first|exact Nat.le_refl _|omega|(simp;done)|(simp;omega)))|(with_reducible refine bt ?_ (by with_reducible assumption)))⟩
      · go_wp2_with (go_at_call 25;(with_reducible refine (CZ.out _ ?_).mono ?_);(· repeat (first|(with_reducible exact Below.refl _ _)|(with_reducible assumption)|(with_reducible refine ba ?_)|(with_reducible refine bd ?_)|(with_reducible refine bdn ?_ _)|(with_reducible refine bset ?_ (by first|exact Nat.le_refl _|omega|(simp;done)|(simp;omega)))|(with_reducible refine bt ?_ (by with_reducible assumption))));rintro e w3 ⟨rfl, hb3⟩;obtain ⟨hc3, hf3⟩ := bcell hb3;have hc3_0 := fun o => hc3 (w.heap.size) o (by first|assumption|omega|(simp;done)|(simp;omega));have hf3_0 := fun o => hf3 (w.heap.size) o (by first|assumption|omega|(simp;done)|(simp;omega));clear hc3 hf3;have hz3_0 : w.heap.size < w3.heap.size := (by first|exact sz1 hb3|exact sz2 hb3|exact sz3 hb3|(have := hb3.size;(try simp only [World.size_alloc] at this);omega)))
        go_roundw
        case rel => exact ⟨k + 1, by go_num, by omega, by repeat (first|(with_reducible exact Below.refl _ _)|(with_reducible assumption)|(with_reducible refine ba ?_)|(with_reducible refine bd ?_)|(with_reducible refine bdn ?_ _)|(with_reducible refine bset ?_ (by first|exact Nat.le_refl _|omega|(simp;done)|(simp;omega)))|(with_reducible refine bt ?_ (by with_reducible assumption))), take_all HX.out HS.out HQ.out.symm⟩
        case measure => simp [intOf];omega
    · obtain rfl : k = nz := by omega
      have hZ : zs.all (fun z => Zn.lightZ z.name z.es) = true := by have := HS.out;rwa [List.take_of_length_le (by rw [← HNZ.out];exact Nat.le_refl _)] at this
      have HZ := Lib.hid hZ
      clear hZ HS
      go_wp2
      go_loopw [37] (fun i wr => ∃ k : Nat, i = .int .i64 k ∧ k ≤ nl ∧ Below w2.heap.size w2 wr ∧ Hid ((ls.take k).all lightK = true)) (fun i _ => nl - (intOf i).toNat)
      case atStart => exact ⟨0, rfl, Nat.zero_le _, Below.refl _ _, rfl⟩
      case round =>
        obtain ⟨j, rfl, hj, hbr3, HS3⟩ := hrel
        have hbw3 : Below w.heap.size w wr := hbw.trans (hbr3.mono hbw.size)
        by_cases hlt3 : j < nl
        · obtain ⟨x, hx⟩ : ∃ x, ls[j]? = some x := ⟨_, List.getElem?_eq_getElem (by rw [← HNL.out];exact hlt3)⟩
          obtain ⟨g1, o1, rfl, hg1, d1⟩ := HPL.out j x hx
          have x0 := (hbw3.cell (p := ⟨g1, o1 + j * 2 + 0, none⟩) hg1).trans (d1 0 _ rfl)
          have x1 := (hbw3.cell (p := ⟨g1, o1 + j * 2 + 1, none⟩) hg1).trans (d1 1 _ rfl)
          rw [Nat.add_zero] at x0
          have lfx := LF.out x (List.mem_of_getElem? hx)
          have z1 := lfx.t;have z2 := lfx.n
          have HX := Lib.hid hx
          clear d1 hx lfx
          by_cases h1 : x.name.size ≤ 200
          · by_cases h2 : x.target.size ≤ 200
            · have HK := Lib.hid (show lightK x = true by unfold lightK;rw [decide_eq_true h1, decide_eq_true h2];rfl)
              go_wp2
              go_roundw
              case rel => exact ⟨j + 1, by go_num, by omega, by repeat (first|(with_reducible exact Below.refl _ _)|(with_reducible assumption)|(with_reducible refine ba ?_)|(with_reducible refine bd ?_)|(with_reducible refine bdn ?_ _)|(with_reducible refine bset ?_ (by first|exact Nat.le_refl _|omega|(simp;done)|(simp;omega)))|(with_reducible refine bt ?_ (by with_reducible assumption))), take_all HX.out HS3.out HK.out⟩
              case measure => simp [intOf];omega
            · have HK := Lib.hid (show lightK x = false by unfold lightK;rw [decide_eq_false h2, Bool.and_false])
              have h3 : 200 < x.target.size := by omega
              clear h2
              go_wp2
              go_ret
              exact ⟨by rw [HZ.out, not_all HX.out HK.out];rfl, by repeat (first|(with_reducible exact Below.refl _ _)|(with_reducible assumption)|(with_reducible refine ba ?_)|(with_reducible refine bd ?_)|(with_reducible refine bdn ?_ _)|(with_reducible refine bset ?_ (by first|exact Nat.le_refl _|omega|(simp;done)|(simp;omega)))|(with_reducible refine bt ?_ (by with_reducible assumption)))⟩
          · have HK := Lib.hid (show lightK x = false by unfold lightK;rw [decide_eq_false h1, Bool.false_and])
            have h3 : 200 < x.name.size := by omega
            clear h1
            go_wp2
            go_ret
            exact ⟨by rw [HZ.out, not_all HX.out HK.out];rfl, by repeat (first|(with_reducible exact Below.refl _ _)|(with_reducible assumption)|(with_reducible refine ba ?_)|(with_reducible refine bd ?_)|(with_reducible refine bdn ?_ _)|(with_reducible refine bset ?_ (by first|exact Nat.le_refl _|omega|(simp;done)|(simp;omega)))|(with_reducible refine bt ?_ (by with_reducible assumption)))⟩
        · obtain rfl : j = nl := by omega
          have hL : ls.all lightK = true := by have := HS3.out;rwa [List.take_of_length_le (by rw [← HNL.out];exact Nat.le_refl _)] at this
          have HL := Lib.hid hL
          clear hL
          go_wp2
          go_ret
          exact ⟨by rw [HZ.out, HL.out];rfl, by repeat (first|(with_reducible exact Below.refl _ _)|(with_reducible assumption)|(with_reducible refine ba ?_)|(with_reducible refine bd ?_)|(with_reducible refine bdn ?_ _)|(with_reducible refine bset ?_ (by first|exact Nat.le_refl _|omega|(simp;done)|(simp;omega)))|(with_reducible refine bt ?_ (by with_reducible assumption)))⟩
end Eqs
end Go.Proofs.YtcfmchpoclkpgaaGreatDoor
