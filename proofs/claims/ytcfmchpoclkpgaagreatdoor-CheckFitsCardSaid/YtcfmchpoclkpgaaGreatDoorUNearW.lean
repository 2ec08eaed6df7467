import Derived.Test.YtcfmchpoclkpgaaGreatDoorG15
namespace Go.Proofs.YtcfmchpoclkpgaaGreatDoor
open Go.RowKit NB Nxt
namespace Unt
set_option maxRecDepth 100000 in
set_option maxHeartbeats 6400000 in
theorem near {w : World} {v : Value} {l : List RuleV} (h : Holds w v l) (e : EraV) (hR : Er.rightB e = true) (a b : Int) (hb0 : -4000000000000 ≤ b) (hb1 : b ≤ 4000000000000) :
    Calls Tryz.prog 47 #[v, .agg e.cells.toArray, .int .i64 a, .int .i64 b] w fun x w' => x = .returned (.bool (nearB l e a b)) ∧ Below w.heap.size w w' := by
  by_cases hk : e.kind = 2
  case neg =>
    rw [near_false (fun h => hk h.1)]
    obtain ⟨q, cap, rfl⟩ := h.form
    unfold EraV.cells
    generalize l.length = n at *
    go_enter Tryz.func47, Tryz.ntmps47
    go_wp2
    go_ret
    exact ⟨rfl, by repeat (first|(with_reducible exact Below.refl _ _)|(with_reducible assumption)|(with_reducible refine ba ?_)|(with_reducible refine bd ?_)|(with_reducible refine bdn ?_ _)|(with_reducible refine bset ?_ (by first|exact Nat.le_refl _|omega|(simp;done)|(simp;omega)))|(with_reducible refine bt ?_ (by with_reducible assumption)))⟩
  have hm : Chn.may e.off = true := Chn.may_iff.2 (right_spec hR).1
  have ca := fun W (h : Holds W v l) => ChW.After h e.rules e.off a
  have ci := fun W (h : Holds W v l) (o : OccV) => ChW.Instant h e.rules e.off o
  have cn := fun W (h : Holds W v l) (o : OccV) => NxH.Next h e.rules o
  have hie := fun (o : OccV) (ho : Occ.All l e.rules l.length o) => Chn.instE_all hm ho
  have hib := fun (o : OccV) => Chn.inst_bd (l := l) (name := e.rules) hm o
  have har := fun (o : OccV) (ho : Occ.All l e.rules l.length o) => Chn.all_range ho
  have hst0 := still0 (l := l) (name := e.rules) (a := a) (b := b) hm
  have hal0 := fun (o : OccV) (ho : Chn.afterO l e.rules e.off a = some o) => after_all hm ho
  have hnx := fun (o : OccV) (hs : Still l e.rules e.off a b (some o)) hn => still_next hs hn
  have hfr := fun (o : OccV) (hs : Still l e.rules e.off a b (some o)) hn hf => near_false (l := l) (e := e) (fun h => still_far hm hs hn hf h.2)
  have hno := fun (hs : Still l e.rules e.off a b none) => near_false (l := l) (e := e) (fun h => still_none hs h.2)
  have hye := fun (o : OccV) (ho : Occ.All l e.rules l.length o) h1 h2 => near_true (l := l) (e := e) (a := a) (b := b) ⟨hk, o, ho, h1, h2⟩
  have hnl := fun (o q : OccV) (hq : Occ.nextO l e.rules o = some q) => (Occ.next_all hq).1
  generalize nearB l e a b = nb at *
  obtain ⟨off, kind, save, rules, format, u⟩ := e
  simp only at *
  subst hk
  generalize Chn.afterO l rules off a = c0 at *
  obtain ⟨i0, y0, k0, eV, eC⟩ := All.opt_parts c0
  obtain ⟨g0, hg0⟩ : ∃ g, g = c0.isSome := ⟨_, rfl⟩
  rw [eV, ← hg0] at ca
  obtain ⟨q, cap, rfl⟩ := h.form
  unfold OccV.cells at *
  unfold EraV.cells
  simp only at *
  have HH := Lib.hid h
  have Ca := Lib.hid ca
  have Ci := Lib.hid ci
  have Cn := Lib.hid cn
  have Hie := Lib.hid hie
  have Hib := Lib.hid hib
  have Har := Lib.hid har
  have Hst0 := Lib.hid hst0
  have Hal0 := Lib.hid hal0
  have Hnx := Lib.hid hnx
  have Hfr := Lib.hid hfr
  have Hno := Lib.hid hno
  have Hye := Lib.hid hye
  have Hnl := Lib.hid hnl
  have Ec := Lib.hid eC
  have Hg := Lib.hid hg0
  clear h ca ci cn hie hib har hst0 hal0 hnx hfr hno hye hnl eC hg0 eV hR hm
  generalize l.length = n at *
  go_enter Tryz.func47, Tryz.ntmps47
  go_wp2_with (first
    | (go_at_call 82;(with_reducible refine (Ca.out _ ?_).mono ?_);(· exact HH.out.later (by repeat (first|(with_reducible exact Below.refl _ _)|(with_reducible assumption)|(with_reducible refine ba ?_)|(with_reducible refine bd ?_)|(with_reducible refine bdn ?_ _)|(with_reducible refine bset ?_ (by first|exact Nat.le_refl _|omega|(simp;done)|(simp;omega)))|(with_reducible refine bt ?_ (by with_reducible assumption)))));rintro e w1 ⟨rfl, hb1⟩;obtain ⟨hc1, hf1⟩ := bcell hb1;have hc1_0 := fun o => hc1 (w.heap.size) o (by first|assumption|omega|(simp;done)|(simp;omega));have hf1_0 := fun o => hf1 (w.heap.size) o (by first|assumption|omega|(simp;done)|(simp;omega));clear hc1 hf1;have hz1_0 : w.heap.size < w1.heap.size := (by first|exact sz1 hb1|exact sz2 hb1|exact sz3 hb1|(have := hb1.size;(try simp only [World.size_alloc, World.size_drew] at this);omega))))
  obtain ⟨B, hB⟩ : ∃ B, B = w1.heap.size := ⟨_, rfl⟩
  obtain ⟨V, hV⟩ : ∃ V, V = w1.alloc (.cells #[.int .i64 i0, .int .i64 y0, .int .i64 k0] 149) := ⟨_, rfl⟩
  have hBV : Below w.heap.size w V := by rw [hV];repeat (first|(with_reducible exact Below.refl _ _)|(with_reducible assumption)|(with_reducible refine ba ?_)|(with_reducible refine bd ?_)|(with_reducible refine bdn ?_ _)|(with_reducible refine bset ?_ (by first|exact Nat.le_refl _|omega|(simp;done)|(simp;omega)))|(with_reducible refine bt ?_ (by with_reducible assumption)))
  have hwB : w.heap.size < B := by omega
  have kB : Box V B #[.int .i64 i0, .int .i64 y0, .int .i64 k0] 149 := by rw [hV, hB];exact Box.new _ _ _
  have kR : Box V w.heap.size #[.int .i64 off, .int .i64 2, .int .i64 save, .string rules, .string format, .bool u.has, .int .i64 u.year, .int .i64 u.month, .int .i64 u.kind, .int .i64 u.week, .int .i64 u.day, .int .i64 u.sec, .int .i64 u.base] 61 := by rw [hV];exact ((Box.new w _ _).later hb1).old
  rw [← hB, ← hV]
  clear hc1_0 hf1_0 hz1_0 hB hV hb1
  go_loopw [10] (fun m wr => ∃ c : Option OccV, m = .bool c.isSome ∧ Still l rules off a b c ∧ (∀ o, c = some o → Occ.All l rules n o) ∧ Box wr B (All.optC c) 149 ∧ Box wr w.heap.size #[.int .i64 off, .int .i64 2, .int .i64 save, .string rules, .string format, .bool u.has, .int .i64 u.year, .int .i64 u.month, .int .i64 u.kind, .int .i64 u.week, .int .i64 u.day, .int .i64 u.sec, .int .i64 u.base] 61 ∧ Below w.heap.size w wr) (fun m wr => All.meas (Occ.nextO l rules) B m wr)
  case atStart => exact ⟨c0, by rw [Hg.out], Hst0.out, Hal0.out, by rw [Ec.out];exact kB, kR, hBV⟩
  case round =>
    clear kB kR hBV
    obtain ⟨c, rfl, hst, hal, hbx, hbr, hbel⟩ := hrel
    have r0 := hbr.cell
    have u0 := hbr.lt
    have u1 := hbx.lt
    have Hbel := Lib.hid hbel
    have Hbr := Lib.hid hbr
    have Hst := Lib.hid hst
    clear hbel hbr hst
    cases c with
    | none =>
      have hr := Lib.hid (Hno.out Hst.out)
      clear hbx hal
      go_wp2
      go_ret
      exact ⟨congrArg (fun v => Ending.returned (Value.bool v)) hr.out.symm, Hbel.out⟩
    | some o =>
      have ho := hal o rfl
      have hbx2 : Box wr B #[.int .i64 o.rule, .int .i64 o.year, .int .i64 o.nom] 149 := hbx
      have b0 := hbx2.cell
      have ci1 := fun W h => Ci.out W h o
      rw [Hie.out o ho] at ci1
      have ib := Hib.out o
      have ar := Har.out o ho
      have hye := Hye.out o ho
      have hnx := Hnx.out o Hst.out
      have hfr := Hfr.out o Hst.out
      generalize Chn.inst l rules off o = x at *
      simp only at ci1
      have Ci1 := Lib.hid ci1
      have Hbx := Lib.hid hbx2
      have Hho := Lib.hid ho
      clear ci1 hal hbx hbx2 ho
      by_cases hx : a < x ∧ x < b
      · have hr := Lib.hid (hye hx.1 hx.2)
        obtain ⟨hx1, hx2⟩ := hx
        clear hye hnx hfr
        go_wp2_with (first
          | (go_at_call 83;(with_reducible refine (Ci1.out _ ?_).mono ?_);(· exact HH.out.later (bt Hbel.out (by repeat (first|(with_reducible exact Below.refl _ _)|(with_reducible assumption)|(with_reducible refine ba ?_)|(with_reducible refine bd ?_)|(with_reducible refine bdn ?_ _)|(with_reducible refine bset ?_ (by first|exact Nat.le_refl _|omega|(simp;done)|(simp;omega)))|(with_reducible refine bt ?_ (by with_reducible assumption))))));rintro e w2 ⟨rfl, hb2⟩;obtain ⟨hc2, hf2⟩ := bcell hb2;have hc2_0 := fun o => hc2 (w.heap.size) o (by first|assumption|omega|(simp;done)|(simp;omega));have hf2_0 := fun o => hf2 (w.heap.size) o (by first|assumption|omega|(simp;done)|(simp;omega));have hc2_1 := fun o => hc2 (B) o (by first|assumption|omega|(simp;done)|(simp;omega));have hf2_1 := fun o => hf2 (B) o (by first|assumption|omega|(simp;done)|(simp;omega));clear hc2 hf2;have hz2_0 : w.heap.size < w2.heap.size := (by first|exact sz1 hb2|exact sz2 hb2|exact sz3 hb2|(have := hb2.size;(try simp only [World.size_alloc, World.size_drew] at this);omega));have hz2_1 : B < w2.heap.size := (by first|exact sz1 hb2|exact sz2 hb2|exact sz3 hb2|(have := hb2.size;(try simp only [World.size_alloc, World.size_drew] at this);omega))))
        have hbel := Hbel.out
        go_ret
        exact ⟨congrArg (fun v => Ending.returned (Value.bool v)) hr.out.symm, by repeat (first|(with_reducible exact Below.refl _ _)|(with_reducible assumption)|(with_reducible refine ba ?_)|(with_reducible refine bd ?_)|(with_reducible refine bdn ?_ _)|(with_reducible refine bset ?_ (by first|exact Nat.le_refl _|omega|(simp;done)|(simp;omega)))|(with_reducible refine bt ?_ (by with_reducible assumption)))⟩
      · by_cases hf : b + 64800 < o.nom
        · have hr := Lib.hid (hfr hx hf)
          clear hye hnx hfr
          have hf2 : b + 54000 + 10800 < o.nom := by omega
          rcases (by omega : x ≤ a ∨ (a < x ∧ b ≤ x)) with hx|⟨hx1, hx2⟩
          all_goals
            go_wp2_with (first
              | (go_at_call 83;(with_reducible refine (Ci1.out _ ?_).mono ?_);(· exact HH.out.later (bt Hbel.out (by repeat (first|(with_reducible exact Below.refl _ _)|(with_reducible assumption)|(with_reducible refine ba ?_)|(with_reducible refine bd ?_)|(with_reducible refine bdn ?_ _)|(with_reducible refine bset ?_ (by first|exact Nat.le_refl _|omega|(simp;done)|(simp;omega)))|(with_reducible refine bt ?_ (by with_reducible assumption))))));rintro e w2 ⟨rfl, hb2⟩;obtain ⟨hc2, hf2⟩ := bcell hb2;have hc2_0 := fun o => hc2 (w.heap.size) o (by first|assumption|omega|(simp;done)|(simp;omega));have hf2_0 := fun o => hf2 (w.heap.size) o (by first|assumption|omega|(simp;done)|(simp;omega));have hc2_1 := fun o => hc2 (B) o (by first|assumption|omega|(simp;done)|(simp;omega));have hf2_1 := fun o => hf2 (B) o (by first|assumption|omega|(simp;done)|(simp;omega));clear hc2 hf2;have hz2_0 : w.heap.size < w2.heap.size := (by first|exact sz1 hb2|exact sz2 hb2|exact sz3 hb2|(have := hb2.size;(try simp only [World.size_alloc, World.size_drew] at this);omega));have hz2_1 : B < w2.heap.size := (by first|exact sz1 hb2|exact sz2 hb2|exact sz3 hb2|(have := hb2.size;(try simp only [World.size_alloc, World.size_drew] at this);omega))))
            have hbel := Hbel.out
            go_ret
            exact ⟨congrArg (fun v => Ending.returned (Value.bool v)) hr.out.symm, by repeat (first|(with_reducible exact Below.refl _ _)|(with_reducible assumption)|(with_reducible refine ba ?_)|(with_reducible refine bd ?_)|(with_reducible refine bdn ?_ _)|(with_reducible refine bset ?_ (by first|exact Nat.le_refl _|omega|(simp;done)|(simp;omega)))|(with_reducible refine bt ?_ (by with_reducible assumption)))⟩
        · have hn := Lib.hid (hnx hx)
          clear hye hnx hfr
          have hf2 : ¬ b + 54000 + 10800 < o.nom := by omega
          obtain ⟨i1, y1, k1, eV1, eC1⟩ := All.opt_parts (Occ.nextO l rules o)
          obtain ⟨g1, hg1⟩ : ∃ g, g = (Occ.nextO l rules o).isSome := ⟨_, rfl⟩
          have cp1 := fun W h => Cn.out W h o
          rw [eV1, ← hg1] at cp1
          have Cp1 := Lib.hid cp1
          have Hg1 := Lib.hid hg1
          have Ec1 := Lib.hid eC1
          clear eV1 cp1 hg1 eC1
          rcases (by omega : x ≤ a ∨ (a < x ∧ b ≤ x)) with hx|⟨hx1, hx2⟩
          all_goals
            go_wp2_with (first
              | (go_at_call 83;(with_reducible refine (Ci1.out _ ?_).mono ?_);(· exact HH.out.later (bt Hbel.out (by repeat (first|(with_reducible exact Below.refl _ _)|(with_reducible assumption)|(with_reducible refine ba ?_)|(with_reducible refine bd ?_)|(with_reducible refine bdn ?_ _)|(with_reducible refine bset ?_ (by first|exact Nat.le_refl _|omega|(simp;done)|(simp;omega)))|(with_reducible refine bt ?_ (by with_reducible assumption))))));rintro e w2 ⟨rfl, hb2⟩;obtain ⟨hc2, hf2⟩ := bcell hb2;have hc2_0 := fun o => hc2 (w.heap.size) o (by first|assumption|omega|(simp;done)|(simp;omega));have hf2_0 := fun o => hf2 (w.heap.size) o (by first|assumption|omega|(simp;done)|(simp;omega));have hc2_1 := fun o => hc2 (B) o (by first|assumption|omega|(simp;done)|(simp;omega));have hf2_1 := fun o => hf2 (B) o (by first|assumption|omega|(simp;done)|(simp;omega));clear hc2 hf2;have hz2_0 : w.heap.size < w2.heap.size := (by first|exact sz1 hb2|exact sz2 hb2|exact sz3 hb2|(have := hb2.size;(try simp only [World.size_alloc, World.size_drew] at this);omega));have hz2_1 : B < w2.heap.size := (by first|exact sz1 hb2|exact sz2 hb2|exact sz3 hb2|(have := hb2.size;(try simp only [World.size_alloc, World.size_drew] at this);omega)))
              | (go_at_call 84;(with_reducible refine (Cp1.out _ ?_).mono ?_);(· exact HH.out.later (bt Hbel.out (by repeat (first|(with_reducible exact Below.refl _ _)|(with_reducible assumption)|(with_reducible refine ba ?_)|(with_reducible refine bd ?_)|(with_reducible refine bdn ?_ _)|(with_reducible refine bset ?_ (by first|exact Nat.le_refl _|omega|(simp;done)|(simp;omega)))|(with_reducible refine bt ?_ (by with_reducible assumption))))));rintro e w3 ⟨rfl, hb3⟩;have hb5 := (Hbx.out.later hb2).later hb3;have bf := hb5.free;have b5 := hb5.cell))
            have hb6 : Box (((w3.setCell ⟨B, 0, none⟩ (.int .i64 i1)).setCell ⟨B, 1, none⟩ (.int .i64 y1)).setCell ⟨B, 2, none⟩ (.int .i64 k1)) B (All.optC (Occ.nextO l rules o)) 149 := by rw [Ec1.out];exact hb5.set3
            have hb7 := ((((Hbr.out.later hb2).later hb3).other (n := B) (j := 0) (v := .int .i64 i1) (by omega)).other (n := B) (j := 1) (v := .int .i64 y1) (by omega)).other (n := B) (j := 2) (v := .int .i64 k1) (by omega)
            go_roundw
            case rel =>
              refine ⟨Occ.nextO l rules o, by rw [Hg1.out], hn.out, fun q hq => Hnl.out o q hq, hb6, hb7, ?_⟩
              have hbel := Hbel.out
              repeat (first|(with_reducible exact Below.refl _ _)|(with_reducible assumption)|(with_reducible refine ba ?_)|(with_reducible refine bd ?_)|(with_reducible refine bdn ?_ _)|(with_reducible refine bset ?_ (by first|exact Nat.le_refl _|omega|(simp;done)|(simp;omega)))|(with_reducible refine bt ?_ (by with_reducible assumption)))
            case measure =>
              have m1 := All.meas_eq (nx := Occ.nextO l rules) hb6
              have m2 := All.meas_eq (nx := Occ.nextO l rules) (c := some o) Hbx.out
              rw [Hg1.out, m1]
              refine Nat.lt_of_lt_of_eq (Occ.leftO_next o) ?_
              exact m2.symm
end Unt
end Go.Proofs.YtcfmchpoclkpgaaGreatDoor
