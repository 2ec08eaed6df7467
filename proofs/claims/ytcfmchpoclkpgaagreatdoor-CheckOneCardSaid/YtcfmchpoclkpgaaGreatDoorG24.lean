import Derived.Test.YtcfmchpoclkpgaaGreatDoorG14
import Derived.Test.YtcfmchpoclkpgaaGreatDoorG7
import Derived.Test.YtcfmchpoclkpgaaGreatDoorG18
import Derived.Test.YtcfmchpoclkpgaaGreatDoorG17
namespace Go.Proofs.YtcfmchpoclkpgaaGreatDoor
open Go.RowKit NB Nxt
namespace Zn
end Zn
end Go.Proofs.YtcfmchpoclkpgaaGreatDoor
namespace Go.Proofs.YtcfmchpoclkpgaaGreatDoor
open Go.RowKit NB
namespace Zn
def lightE (e : EraV) : Bool := decide (e.rules.size ≤ 200) && decide (e.format.size ≤ 200)
def lightZ (name : ByteArray) (es : List EraV) : Bool := decide (es.length ≤ 12) && decide (name.size ≤ 200) && es.all lightE
set_option maxRecDepth 100000 in
set_option maxHeartbeats 3200000 in
theorem LightZ {w : World} {v : Value} {es : List EraV} (h : HoldsE w v es) (name : ByteArray) (hnm : name.size ≤ 9223372036854775807) : Calls Tryz.prog 25 #[.agg #[.string name, v]] w fun e w' => e = .returned (.bool (lightZ name es)) ∧ Below w.heap.size w w' := by
  have hat := fun (k : Nat) (e : EraV) (he : es[k]? = some e) => h.at he
  have hfit := h.fit
  have hln := h.len
  obtain ⟨p, cap, rfl⟩ := h.form
  unfold lightZ
  have hll : ∀ k : Nat, k < es.length → ∃ e, es[k]? = some e := fun k hk => ⟨es[k], by simp⟩
  have hsc : ∀ (k : Nat) (e : EraV), es[k]? = some e → (es.take k).all lightE = true → lightE e = true → (es.take (k + 1)).all lightE = true := by
    intro k e he h1 h2
    rw [List.take_add_one, he, List.all_append, h1]
    simp [h2]
  have hno : ∀ (k : Nat) (e : EraV), es[k]? = some e → lightE e = false → es.all lightE = false := by
    intro k e he h1
    rw [Bool.eq_false_iff]
    intro h2
    rw [List.all_eq_true] at h2
    rw [h2 e (List.mem_of_getElem? he)] at h1
    cases h1
  have hfin : ∀ k, k = es.length → (es.take k).all lightE = es.all lightE := fun k hk => by rw [hk, List.take_length]
  obtain ⟨al, hal⟩ : ∃ x, x = es.all lightE := ⟨_, rfl⟩
  rw [← hal]
  rw [← hal] at hno hfin
  generalize es.length = n at *
  have Hat := Lib.hid hat
  have Hft := Lib.hid hfit
  have HLL := Lib.hid hll
  have Hsc := Lib.hid hsc
  have Hno := Lib.hid hno
  have Hfin := Lib.hid hfin
  clear hat hfit hll hsc hno hfin h hal
  by_cases h12 : n ≤ 12
  case neg =>
    rw [show decide (n ≤ 12) = false by simpa using h12]
    go_enter Tryz.func25, Tryz.ntmps25
    go_wp2
    go_ret
    exact ⟨rfl, by repeat (first|(with_reducible exact Below.refl _ _)|(with_reducible assumption)|(with_reducible refine ba ?_)|(with_reducible refine bd ?_)|(with_reducible refine bdn ?_ _)|(with_reducible refine bset ?_ (by first|exact Nat.le_refl _|omega|(simp;done)|(simp;omega)))|(with_reducible refine bt ?_ (by with_reducible assumption)))⟩
  rw [show decide (n ≤ 12) = true by simpa using h12]
  by_cases h200 : name.size ≤ 200
  case neg =>
    rw [show decide (name.size ≤ 200) = false by simpa using h200]
    go_enter Tryz.func25, Tryz.ntmps25
    go_wp2
    go_ret
    exact ⟨rfl, by repeat (first|(with_reducible exact Below.refl _ _)|(with_reducible assumption)|(with_reducible refine ba ?_)|(with_reducible refine bd ?_)|(with_reducible refine bdn ?_ _)|(with_reducible refine bset ?_ (by first|exact Nat.le_refl _|omega|(simp;done)|(simp;omega)))|(with_reducible refine bt ?_ (by with_reducible assumption)))⟩
  rw [show decide (name.size ≤ 200) = true by simpa using h200, Bool.true_and, Bool.true_and]
  go_enter Tryz.func25, Tryz.ntmps25
  go_wp2
  go_loopw [18] (fun z wr => ∃ k : Nat, z = .int .i64 k ∧ k ≤ n ∧ (es.take k).all lightE = true ∧ Below w.heap.size w wr) (fun z _ => n - (intOf z).toNat)
  case atStart => exact ⟨0, rfl, Nat.zero_le _, rfl, by repeat (first|(with_reducible exact Below.refl _ _)|(with_reducible assumption)|(with_reducible refine ba ?_)|(with_reducible refine bd ?_)|(with_reducible refine bdn ?_ _)|(with_reducible refine bset ?_ (by first|exact Nat.le_refl _|omega|(simp;done)|(simp;omega)))|(with_reducible refine bt ?_ (by with_reducible assumption)))⟩
  case round =>
    obtain ⟨k, rfl, hk, hto, hbel⟩ := hrel
    have Hto := Lib.hid hto
    have Hbel := Lib.hid hbel
    clear hto hbel
    by_cases hlt : k < n
    · obtain ⟨e, he⟩ := HLL.out k hlt
      obtain ⟨b, off, cap', hq, hb, hcl⟩ := Hat.out k e he
      simp only [Value.slice.injEq] at hq
      obtain ⟨rfl, -, -⟩ := hq
      have hsc := Hsc.out k e he Hto.out
      have hno := Hno.out k e he
      have ef := Hft.out e (List.mem_of_getElem? he)
      have er := ef.r
      have ef2 := ef.f
      unfold lightE at hsc hno
      have hd : ∀ (j : Nat) (u : Value), e.cells[j]? = some u → wr.cell? ⟨b, off + k * 13 + j, none⟩ = some u := fun j u hu => (Hbel.out.cell (p := ⟨b, off + k * 13 + j, none⟩) hb).trans (hcl j u hu)
      unfold EraV.cells at hd
      have d0 := hd 0 _ rfl
      have d1 := hd 1 _ rfl
      have d2 := hd 2 _ rfl
      have d3 := hd 3 _ rfl
      have d4 := hd 4 _ rfl
      have d5 := hd 5 _ rfl
      have d6 := hd 6 _ rfl
      have d7 := hd 7 _ rfl
      have d8 := hd 8 _ rfl
      have d9 := hd 9 _ rfl
      have d10 := hd 10 _ rfl
      have d11 := hd 11 _ rfl
      have d12 := hd 12 _ rfl
      simp only [Nat.add_zero] at d0
      clear hd hcl he hb ef
      by_cases hg : e.rules.size ≤ 200 ∧ e.format.size ≤ 200
      · have HS := Lib.hid (hsc (by simp [hg.1, hg.2]))
        obtain ⟨g1, g2⟩ := hg
        clear hsc hno
        go_wp2
        have hbel := Hbel.out
        go_roundw
        case rel => exact ⟨k + 1, by go_num, hlt, HS.out, by repeat (first|(with_reducible exact Below.refl _ _)|(with_reducible assumption)|(with_reducible refine ba ?_)|(with_reducible refine bd ?_)|(with_reducible refine bdn ?_ _)|(with_reducible refine bset ?_ (by first|exact Nat.le_refl _|omega|(simp;done)|(simp;omega)))|(with_reducible refine bt ?_ (by with_reducible assumption)))⟩
        case measure => simp [intOf];omega
      · have HZ := Lib.hid (hno (by
          rw [Bool.and_eq_false_iff]
          simp only [decide_eq_false_iff_not]
          omega))
        clear hsc hno
        rcases (by omega : 200 < e.rules.size ∨ (e.rules.size ≤ 200 ∧ 200 < e.format.size)) with g1|⟨g1, g2⟩
        all_goals
          clear hg
          go_wp2
          have hbel := Hbel.out
          go_ret
          exact ⟨congrArg (fun v => Ending.returned (Value.bool v)) HZ.out.symm, by repeat (first|(with_reducible exact Below.refl _ _)|(with_reducible assumption)|(with_reducible refine ba ?_)|(with_reducible refine bd ?_)|(with_reducible refine bdn ?_ _)|(with_reducible refine bset ?_ (by first|exact Nat.le_refl _|omega|(simp;done)|(simp;omega)))|(with_reducible refine bt ?_ (by with_reducible assumption)))⟩
    · have hkn : k = n := by omega
      have HR := Lib.hid ((Hfin.out k hkn).symm.trans Hto.out)
      go_wp2
      go_ret
      exact ⟨congrArg (fun v => Ending.returned (Value.bool v)) HR.out.symm, Hbel.out⟩
end Zn
end Go.Proofs.YtcfmchpoclkpgaaGreatDoor
namespace Go.Proofs.YtcfmchpoclkpgaaGreatDoor
open Go.RowKit NB
namespace Eqs
end Eqs
end Go.Proofs.YtcfmchpoclkpgaaGreatDoor
namespace Go.Proofs.YtcfmchpoclkpgaaGreatDoor
open Go.RowKit NB
namespace Eqs
def eqK (x y : LinkV) : Bool := decide (x = y)
def eqR (x y : RuleV) : Bool := decide (x = y)
def eqE (x y : EraV) : Bool := decide (x = y)
def zd (z : ZoneV) : ByteArray × List EraV := (z.name, z.es)
def td (t : TabV) : List RuleV × List LinkV × List (ByteArray × List EraV) := (t.rs, t.ls, t.zs.map zd)
end Eqs
end Go.Proofs.YtcfmchpoclkpgaaGreatDoor
