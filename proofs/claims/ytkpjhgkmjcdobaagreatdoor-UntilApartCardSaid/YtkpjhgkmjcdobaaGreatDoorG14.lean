import Derived.Test.YtkpjhgkmjcdobaaGreatDoorG13
import Derived.Test.YtkpjhgkmjcdobaaGreatDoorRIn
import Derived.Test.YtkpjhgkmjcdobaaGreatDoorEnds
/-
  noontideref28.near: as the program runs it.
-/
namespace Go.Proofs.YtkpjhgkmjcdobaaGreatDoor
open Go.RowKit NB Nxt
namespace RUnt
open Unt
theorem near_list {l : List RuleV} {e : EraV} {a b : Int} (hl : l.length < 10000) (hab : b - a ≤ 200000) (hm : Chn.may e.off = true) (h : ∀ x ∈ Occ.inL l e.rules (b + 64801) ⟨-1, 0, a - 64800⟩ 10000, ¬ (a < Chn.inst l e.rules e.off x ∧ Chn.inst l e.rules e.off x < b)) : ¬ NearP l e a b := by
  rintro ⟨_, x, hx, h1, h2⟩
  have ib := Chn.inst_bd (l := l) (name := e.rules) hm x
  have hr := (Occ.all_bd hx).2.2.1
  rcases Occ.inL_mem hx (T := b + 64801) (by omega) 10000 ⟨-1, 0, a - 64800⟩ (by rw [Occ.less_iff]; simp only; omega) with h3 | h3
  · exact h x h3 ⟨h1, h2⟩
  · have := inL_few (l := l) (name := e.rules) (a := a - 64800) (T := b + 64801) (by omega) (n := 10000)
    omega
set_option maxRecDepth 100000 in
set_option maxHeartbeats 6400000 in
theorem near {w : World} {v : Value} {l : List RuleV} (h : Holds w v l) (e : EraV) (hR : Er.rightB e = true) (a b : Int) (ha0 : -4000000000000 ≤ a) (hab0 : a ≤ b) (hab : b - a ≤ 200000) (hb1 : b ≤ 4000000000000) (hl : l.length ≤ 12) :
    Calls Tryz.prog 47 #[v, .agg e.cells.toArray, .int .i64 a, .int .i64 b] w fun x w' => x = .returned (.bool (nearB l e a b)) ∧ Below w.heap.size w w' := by
  by_cases hk : e.kind = 2
  case neg =>
    rw [near_false (fun h => hk h.1)]
    obtain ⟨q, cap, rfl⟩ := h.form
    unfold EraV.cells
    generalize l.length = n at *
    go_enter Tryz.func47, Tryz.ntmps47
    go_wp2
    go_ret
    exact ⟨rfl, by repeat (first | (with_reducible exact Below.refl _ _) | (with_reducible assumption) | (with_reducible refine ba ?_) | (with_reducible refine bd ?_) | (with_reducible refine bdn ?_ _) | (with_reducible refine bset ?_ (by first | exact Nat.le_refl _ | omega | (simp; done) | (simp; omega))) | (with_reducible refine bt ?_ (by with_reducible assumption)))⟩
  have hm : Chn.may e.off = true := Chn.may_iff.2 (right_spec hR).1
  have cn := fun W (h : Holds W v l) => RIn.In h e.rules (a - 64800) (b + 64801) 10000 (by unfold I64; omega) (by decide)
  rw [show All.inO l e.rules (a - 64800) (b + 64801) 10000 = Occ.inL l e.rules (b + 64801) ⟨-1, 0, a - 64800⟩ 10000 by unfold All.inO; rw [if_pos (by omega)]; rfl] at cn
  have ci := fun W (h : Holds W v l) (o : OccV) => RCh.Instant h e.rules e.off o
  have hnl := fun hh => near_false (near_list (l := l) (e := e) (a := a) (b := b) (by omega) hab hm hh)
  have hlen := Occ.inL_len l e.rules (b + 64801) 10000 ⟨-1, 0, a - 64800⟩
  have hall := fun x (hx : x ∈ Occ.inL l e.rules (b + 64801) ⟨-1, 0, a - 64800⟩ 10000) => (Occ.inL_all hx).1
  generalize Occ.inL l e.rules (b + 64801) ⟨-1, 0, a - 64800⟩ 10000 = L at *
  have hie := fun (o : OccV) (ho : o ∈ L) => Chn.instE_all hm (hall o ho)
  have hye := fun (o : OccV) (ho : o ∈ L) h1 h2 => near_true (l := l) (e := e) (a := a) (b := b) ⟨hk, o, hall o ho, h1, h2⟩
  generalize nearB l e a b = nb at *
  obtain ⟨off, kind, save, rules, format, u⟩ := e
  simp only at *
  subst hk
  obtain ⟨q, cap, rfl⟩ := h.form
  unfold OccV.cells at *
  unfold EraV.cells
  simp only at *
  have HH := Lib.hid h
  have Cn := Lib.hid cn
  have Ci := Lib.hid ci
  have Hnl := Lib.hid hnl
  have Hie := Lib.hid hie
  have Hye := Lib.hid hye
  clear h cn ci hnl hall hie hye hR hm
  generalize l.length = n at *
  go_enter Tryz.func47, Tryz.ntmps47
  go_upto_region 4 with (first
    | (go_at_call 93; (with_reducible refine (Cn.out _ ?_).mono ?_); (· exact HH.out.later (by repeat (first | (with_reducible exact Below.refl _ _) | (with_reducible assumption) | (with_reducible refine ba ?_) | (with_reducible refine bd ?_) | (with_reducible refine bdn ?_ _) | (with_reducible refine bset ?_ (by first | exact Nat.le_refl _ | omega | (simp; done) | (simp; omega))) | (with_reducible refine bt ?_ (by with_reducible assumption))))); rintro e W0 ⟨rv, rfl, hrow, hb3⟩; obtain ⟨rq, rc, hrv⟩ := Grp.own_form hrow; subst hrv))
  have kR : Box W0 w.heap.size #[.int .i64 off, .int .i64 2, .int .i64 save, .string rules, .string format, .bool u.has, .int .i64 u.year, .int .i64 u.month, .int .i64 u.kind, .int .i64 u.week, .int .i64 u.day, .int .i64 u.sec, .int .i64 u.base] 30 := (Box.new w _ _).later hb3
  have hW0 : Below w.heap.size w W0 := by repeat (first | (with_reducible exact Below.refl _ _) | (with_reducible assumption) | (with_reducible refine ba ?_) | (with_reducible refine bd ?_) | (with_reducible refine bdn ?_ _) | (with_reducible refine bset ?_ (by first | exact Nat.le_refl _ | omega | (simp; done) | (simp; omega))) | (with_reducible refine bt ?_ (by with_reducible assumption)))
  obtain ⟨m, hmL⟩ : ∃ m, m = L.length := ⟨_, rfl⟩
  rw [← hmL] at hrow hlen ⊢
  have hcell : 0 < m → ∃ g, rq = some ⟨g, 0, none⟩ ∧ g < W0.heap.size ∧ ∀ (j : Nat) (x : OccV), L[j]? = some x → ∀ u, Below W0.heap.size W0 u → u.cell? ⟨g, j * 3, none⟩ = some (.int .i64 x.rule) ∧ u.cell? ⟨g, j * 3 + 1, none⟩ = some (.int .i64 x.year) ∧ u.cell? ⟨g, j * 3 + 2, none⟩ = some (.int .i64 x.nom) := by
    intro h0
    obtain ⟨g, ⟨c1, hq⟩, _, l1, r1⟩ := Grp.own_cell (j := 0) hrow h0
    simp only [Value.slice.injEq] at hq
    refine ⟨g, hq.1, l1, fun j x hx u hu => ⟨?_, ?_, ?_⟩⟩
    · exact (hu.cell (p := ⟨g, j * 3, none⟩) l1).trans (r1 _ _ (Grp.flat_at (f := OccV.cells) (sz := 3) (fun _ => rfl) L j 0 x _ hx rfl))
    · exact (hu.cell (p := ⟨g, j * 3 + 1, none⟩) l1).trans (r1 _ _ (Grp.flat_at (f := OccV.cells) (sz := 3) (fun _ => rfl) L j 1 x _ hx rfl))
    · exact (hu.cell (p := ⟨g, j * 3 + 2, none⟩) l1).trans (r1 _ _ (Grp.flat_at (f := OccV.cells) (sz := 3) (fun _ => rfl) L j 2 x _ hx rfl))
  have HB0 := Lib.hid hW0
  have HG := Lib.hid hcell
  have HM := Lib.hid hmL
  have HK := Lib.hid kR
  clear hW0 hcell hrow hmL hb3 kR
  go_loopw [26] (fun i wr => ∃ k : Nat, i = .int .i64 k ∧ k ≤ m ∧ (∀ (j : Nat) (x : OccV), j < k → L[j]? = some x → ¬ (a < Chn.inst l rules off x ∧ Chn.inst l rules off x < b)) ∧ Below W0.heap.size W0 wr) (fun i _ => m - (intOf i).toNat)
  case atStart => exact ⟨0, rfl, Nat.zero_le _, fun j x hj => absurd hj (Nat.not_lt_zero _), Below.refl _ _⟩
  case round =>
    obtain ⟨k, rfl, hkm, hsp, hbel⟩ := hrel
    have Hsp := Lib.hid hsp
    have hbx := HK.out.later hbel
    have r0 := hbx.cell
    have u0 := hbx.lt
    have HbW := Lib.hid (HB0.out.trans (hbel.mono HB0.out.size))
    have Hbel := Lib.hid hbel
    clear hsp hbx
    by_cases hlt : k < m
    · obtain ⟨g, rfl, hgl, hgc⟩ := HG.out (by omega)
      obtain ⟨o, ho⟩ : ∃ o, L[k]? = some o := ⟨L[k]'(by rw [← HM.out]; exact hlt), by simp⟩
      have hom := List.mem_of_getElem? ho
      obtain ⟨x0, x1, x2⟩ := hgc k o ho wr hbel
      have ci1 := fun W h => Ci.out W h o
      rw [Hie.out o hom] at ci1
      have hye := Hye.out o hom
      have Ho := Lib.hid ho
      obtain ⟨x, hx⟩ : ∃ x, x = Chn.inst l rules off o := ⟨_, rfl⟩
      rw [← hx] at ci1 hye
      simp only at ci1
      have Ci1 := Lib.hid ci1
      have Hx := Lib.hid hx
      clear ci1 hgc hbel hx ho hom
      by_cases hin : a < x ∧ x < b
      · have hr := Lib.hid (hye hin.1 hin.2)
        obtain ⟨h1, h2⟩ := hin
        clear hye
        go_wp2_with (first
          | (go_at_call 65; (with_reducible refine (Ci1.out _ ?_).mono ?_); (· exact HH.out.later (bt HbW.out (by repeat (first | (with_reducible exact Below.refl _ _) | (with_reducible assumption) | (with_reducible refine ba ?_) | (with_reducible refine bd ?_) | (with_reducible refine bdn ?_ _) | (with_reducible refine bset ?_ (by first | exact Nat.le_refl _ | omega | (simp; done) | (simp; omega))) | (with_reducible refine bt ?_ (by with_reducible assumption)))))); rintro e w2 ⟨rfl, hb2⟩; obtain ⟨hc2, hf2⟩ := bcell hb2))
        have hbel := HbW.out
        go_ret
        exact ⟨congrArg (fun v => Ending.returned (Value.bool v)) hr.out.symm, by repeat (first | (with_reducible exact Below.refl _ _) | (with_reducible assumption) | (with_reducible refine ba ?_) | (with_reducible refine bd ?_) | (with_reducible refine bdn ?_ _) | (with_reducible refine bset ?_ (by first | exact Nat.le_refl _ | omega | (simp; done) | (simp; omega))) | (with_reducible refine bt ?_ (by with_reducible assumption)))⟩
      · clear hye
        rcases (by omega : x ≤ a ∨ (a < x ∧ b ≤ x)) with hx | ⟨hx1, hx2⟩
        all_goals
          have Hin := Lib.hid hin
          clear hin
          go_wp2_with (first
            | (go_at_call 65; (with_reducible refine (Ci1.out _ ?_).mono ?_); (· exact HH.out.later (bt HbW.out (by repeat (first | (with_reducible exact Below.refl _ _) | (with_reducible assumption) | (with_reducible refine ba ?_) | (with_reducible refine bd ?_) | (with_reducible refine bdn ?_ _) | (with_reducible refine bset ?_ (by first | exact Nat.le_refl _ | omega | (simp; done) | (simp; omega))) | (with_reducible refine bt ?_ (by with_reducible assumption)))))); rintro e w2 ⟨rfl, hb2⟩; obtain ⟨hc2, hf2⟩ := bcell hb2))
          have hbel := Hbel.out
          go_roundw
          case rel =>
            refine ⟨k + 1, by go_num, hlt, fun j y hj hy => ?_, by repeat (first | (with_reducible exact Below.refl _ _) | (with_reducible assumption) | (with_reducible refine ba ?_) | (with_reducible refine bd ?_) | (with_reducible refine bdn ?_ _) | (with_reducible refine bset ?_ (by first | exact Nat.le_refl _ | omega | (simp; done) | (simp; omega))) | (with_reducible refine bt ?_ (by with_reducible assumption)))⟩
            rcases (by omega : j < k ∨ j = k) with h1 | rfl
            · exact Hsp.out j y h1 hy
            · rw [Ho.out] at hy
              cases hy
              rw [← Hx.out]
              exact Hin.out
          case measure => simp [intOf]; omega
    · have hkm' : k = m := by omega
      have hr := Lib.hid (Hnl.out (fun x hx => by
        obtain ⟨j, hj⟩ := List.mem_iff_getElem?.1 hx
        refine Hsp.out j x ?_ hj
        have := (List.getElem?_eq_some_iff.1 hj).1
        have := HM.out
        omega))
      clear hbel
      go_wp2
      go_ret
      exact ⟨congrArg (fun v => Ending.returned (Value.bool v)) hr.out.symm, HbW.out⟩
end RUnt
end Go.Proofs.YtkpjhgkmjcdobaaGreatDoor
/-
  noontideref28.Ends: what it gives, as the program runs it.
-/
namespace Go.Proofs.YtkpjhgkmjcdobaaGreatDoor
open Go.RowKit NB Nxt
namespace Zn
set_option maxRecDepth 100000 in
set_option maxHeartbeats 6400000 in
theorem REnds {w : World} {v r : Value} {l : List RuleV} {es : List EraV} (hr : Holds w r l) (h : HoldsE w v es) (name : ByteArray) (hn : es.length ≤ 100000) : Calls Tryz.prog 17 #[r, .agg #[.string name, v]] w (EndsPost w l es) := by
  have hat := fun (k : Nat) (e : EraV) (he : es[k]? = some e) => h.at he
  have hfit := h.fit
  have cz := fun W (h : HoldsE W v es) => Zone h name
  obtain ⟨p, cap, rfl⟩ := h.form
  obtain ⟨j0, hj0, hz0, hz1, hz2⟩ := info_parts info_i64
  have ci := fun (e : EraV) (he : e.Fit) W (h : Holds W r l) => RUnt.Instant h e he
  have hll : ∀ k : Nat, k < es.length → ∃ e, es[k]? = some e := fun k hk => ⟨es[k], by simp⟩
  have hok : zoneB es = true → OkTo es es.length := fun hz => (zone_iff.1 hz).2
  have hfin : ∀ k, k = es.length → endsL l (es.take k) = endsL l es := fun k hk => by rw [hk, List.take_length]
  obtain ⟨rp, rc, rfl⟩ := hr.form
  unfold EndsPost endsR endsE
  have HE := Lib.hid h
  have HH := Lib.hid hr
  clear h hr
  cases hzb : zoneB es
  · rw [hzb] at cz
    have Cz := Lib.hid cz
    clear cz hok hzb hat hfit ci hll hfin
    generalize es.length = n at *
    generalize l.length = ln at *
    go_enter Tryz.func17, Tryz.ntmps17
    go_wp2_with (go_at_call 45; (with_reducible refine (Cz.out _ ?_).mono ?_); (· exact HE.out.later (by repeat (first | (with_reducible exact Below.refl _ _) | (with_reducible assumption) | (with_reducible refine ba ?_) | (with_reducible refine bd ?_) | (with_reducible refine bdn ?_ _) | (with_reducible refine bset ?_ (by first | exact Nat.le_refl _ | omega | (simp; done) | (simp; omega))) | (with_reducible refine bt ?_ (by with_reducible assumption))))); rintro e w1 ⟨rfl, hb1⟩; obtain ⟨hc1, hf1⟩ := bcell hb1; have hc1_0 := fun o => hc1 (w.heap.size) o (by first | assumption | omega | (simp; done) | (simp; omega)); have hf1_0 := fun o => hf1 (w.heap.size) o (by first | assumption | omega | (simp; done) | (simp; omega)); clear hc1 hf1; have hz1_0 : w.heap.size < w1.heap.size := (by first | exact sz1 hb1 | exact sz2 hb1 | exact sz3 hb1 | (have := hb1.size; (try simp only [World.size_alloc, World.size_drew] at this); omega)))
    go_ret2
    exact ⟨_, rfl, World.ownsRow_nil _ _ _ _, by repeat (first | (with_reducible exact Below.refl _ _) | (with_reducible assumption) | (with_reducible refine ba ?_) | (with_reducible refine bd ?_) | (with_reducible refine bdn ?_ _) | (with_reducible refine bset ?_ (by first | exact Nat.le_refl _ | omega | (simp; done) | (simp; omega))) | (with_reducible refine bt ?_ (by with_reducible assumption)))⟩
  · rw [hzb] at cz
    have hto := hok hzb
    unfold OkTo okAt at hto
    have hright : ∀ k e, k < es.length → es[k]? = some e → Er.rightB e = true := fun k e hk he => by
      have := hto k e hk he
      rw [Bool.and_eq_true] at this
      exact this.1
    have Cz := Lib.hid cz
    have Hat := Lib.hid hat
    have Hft := Lib.hid hfit
    have HLL := Lib.hid hll
    have Hfin := Lib.hid hfin
    have Ci := Lib.hid ci
    clear cz hok hzb hto hat hfit ci hll hfin
    generalize es.length = n at *
    generalize l.length = ln at *
    have HRt := Lib.hid hright
    clear hright
    go_enter Tryz.func17, Tryz.ntmps17
    go_wp2_with (go_at_call 45; (with_reducible refine (Cz.out _ ?_).mono ?_); (· exact HE.out.later (by repeat (first | (with_reducible exact Below.refl _ _) | (with_reducible assumption) | (with_reducible refine ba ?_) | (with_reducible refine bd ?_) | (with_reducible refine bdn ?_ _) | (with_reducible refine bset ?_ (by first | exact Nat.le_refl _ | omega | (simp; done) | (simp; omega))) | (with_reducible refine bt ?_ (by with_reducible assumption))))); rintro e w1 ⟨rfl, hb1⟩; obtain ⟨hc1, hf1⟩ := bcell hb1; have hc1_0 := fun o => hc1 (w.heap.size) o (by first | assumption | omega | (simp; done) | (simp; omega)); have hf1_0 := fun o => hf1 (w.heap.size) o (by first | assumption | omega | (simp; done) | (simp; omega)); clear hc1 hf1; have hz1_0 : w.heap.size < w1.heap.size := (by first | exact sz1 hb1 | exact sz2 hb1 | exact sz3 hb1 | (have := hb1.size; (try simp only [World.size_alloc, World.size_drew] at this); omega)))
    have hBV : Below w.heap.size w w1 := by repeat (first | (with_reducible exact Below.refl _ _) | (with_reducible assumption) | (with_reducible refine ba ?_) | (with_reducible refine bd ?_) | (with_reducible refine bdn ?_ _) | (with_reducible refine bset ?_ (by first | exact Nat.le_refl _ | omega | (simp; done) | (simp; omega))) | (with_reducible refine bt ?_ (by with_reducible assumption)))
    clear hb1 hc1_0 hf1_0
    go_loopw [17, 6] (fun z out wr => ∃ (k : Nat) (q : Option Addr) (c : Nat), z = .int .i64 k ∧ k ≤ n ∧ out = .slice q (endsL l (es.take k)).length c ∧ wr.ownsRow w.heap.size 2 1 (.slice q (endsL l (es.take k)).length c) (endsL l (es.take k)).length (ints (endsL l (es.take k))) ∧ Below w.heap.size w wr) (fun z _ _ => n - (intOf z).toNat)
    case atStart => exact ⟨0, none, 0, rfl, Nat.zero_le _, rfl, World.ownsRow_nil _ _ _ _, hBV⟩
    case round =>
      clear hBV
      obtain ⟨k, q, c, rfl, hk, rfl, hown, hbel⟩ := hrel
      have hLk := endsL_len l es k
      have Hbel := Lib.hid hbel
      have hbs := hbel.size
      by_cases hlt : k < n
      · obtain ⟨e, he⟩ := HLL.out k hlt
        have hes := endsL_succ (l := l) he
        generalize endsL l (es.take k) = L at *
        have Hown := Lib.hid hown
        have HES := Lib.hid hes
        clear hbel hown hes
        obtain ⟨b, off, cap', hq, hb, hcl⟩ := Hat.out k e he
        simp only [Value.slice.injEq] at hq
        obtain ⟨rfl, -, -⟩ := hq
        have ci := fun W h => Ci.out e (Hft.out e (List.mem_of_getElem? he)) W h
        have hg := HRt.out k e hlt he
        have hi : (Unt.instU l e).2 = if e.u.has then 0 else 12 := by
          unfold Unt.instU
          rw [if_pos hg]
          split <;> rfl
        generalize (Unt.instU l e).1 = t at *
        generalize (Unt.instU l e).2 = tw at *
        have hd : ∀ (j : Nat) (u : Value), e.cells[j]? = some u → wr.cell? ⟨b, off + k * 13 + j, none⟩ = some u := fun j u hu => (Hbel.out.cell (p := ⟨b, off + k * 13 + j, none⟩) hb).trans (hcl j u hu)
        unfold EraV.cells at hd ci
        have d0 := hd 0 _ rfl
        have d1 := hd 1 _ rfl
        have d2 := hd 2 _ rfl
        have d3 := hd 3 _ rfl
        have d4 := hd 4 _ rfl
        have d5 := hd 5 _ rfl
        have d6 := hd 6 _ rfl
        have d7 := hd 7 _ rfl
        have d8 := hd 8 _ rfl
        have d9 := hd 9 _ rfl
        have d10 := hd 10 _ rfl
        have d11 := hd 11 _ rfl
        have d12 := hd 12 _ rfl
        simp only [Nat.add_zero] at d0
        clear hd hcl he hb hg
        generalize e.u.has = has at *
        have CI := Lib.hid ci
        clear ci
        cases has
        all_goals
          have hes := HES.out
          simp only [if_true, if_false, Bool.false_eq_true, List.append_nil] at hes hi
          have HEQ := Lib.hid hes
          clear HES hes
          go_wp2_with (first
            | (go_at_call 15; (with_reducible refine (CI.out _ ?_).mono ?_); (· exact HH.out.later (bt Hbel.out (by repeat (first | (with_reducible exact Below.refl _ _) | (with_reducible assumption) | (with_reducible refine ba ?_) | (with_reducible refine bd ?_) | (with_reducible refine bdn ?_ _) | (with_reducible refine bset ?_ (by first | exact Nat.le_refl _ | omega | (simp; done) | (simp; omega))) | (with_reducible refine bt ?_ (by with_reducible assumption)))))); rintro x w2 ⟨rfl, hb2⟩; have hs2 := hb2.size)
            | (at_builtin; refine wpList_append_own _ (by rfl) _ _ 41 (by rfl) w.heap.size 2 j0 _ 1 8 Tryz.underlying41 hj0 hz0 hz1 hz2 (by rfl) (by decide) _ L.length _ (by rfl) ((own_later Hown.out (show Below wr.heap.size wr w2 by repeat (first | (with_reducible exact Below.refl _ _) | (with_reducible assumption) | (with_reducible refine ba ?_) | (with_reducible refine bd ?_) | (with_reducible refine bdn ?_ _) | (with_reducible refine bset ?_ (by first | exact Nat.le_refl _ | omega | (simp; done) | (simp; omega))) | (with_reducible refine bt ?_ (by with_reducible assumption))))).alloc _) ⟨w2.heap.size, 0, none⟩ 1 1 [.int .i64 t] (by rfl) (by rfl) (All.news_box (cs := #[.int .i64 t]) (t := 2) (Box.new _ _ _)) ?_ ?_ ?_ ?_ ?_; (· intro u hu; simp only [List.mem_cons, List.not_mem_nil, or_false] at hu; rcases hu with rfl; rfl); (· unfold maxLen; omega); (· first | omega | (simp; done) | (simp at *; omega)); (· first | omega | (simp; done) | (simp at *; omega)); intro v' w4 hown' hgrow _; obtain ⟨g4, cap4, rfl⟩ := ownsRow_succ hown'))
          have hbel := Hbel.out
          first
            | (have hB4 : Below w.heap.size w w4 := (ba (show Below w.heap.size w w2 by repeat (first | (with_reducible exact Below.refl _ _) | (with_reducible assumption) | (with_reducible refine ba ?_) | (with_reducible refine bd ?_) | (with_reducible refine bdn ?_ _) | (with_reducible refine bset ?_ (by first | exact Nat.le_refl _ | omega | (simp; done) | (simp; omega))) | (with_reducible refine bt ?_ (by with_reducible assumption))))).grown hgrow (by simp at *; omega) (fun j e => ROcc.own_row Hown.out j e)
               have e1 : (L ++ [t]).length = L.length + 1 := by simp
               have e2 : ints (L ++ [t]) = ints L ++ [.int .i64 t] := by simp [ints]
               go_roundw
               case rel => exact ⟨k + 1, some ⟨g4, 0, none⟩, cap4, by go_num, hlt, by rw [HEQ.out, e1], by rw [HEQ.out, e1, e2]; exact hown', hB4⟩
               case measure => simp [intOf]; omega)
            | (go_roundw
               case rel => exact ⟨k + 1, q, c, by go_num, hlt, by rw [HEQ.out], by rw [HEQ.out]; exact own_later Hown.out (by repeat (first | (with_reducible exact Below.refl _ _) | (with_reducible assumption) | (with_reducible refine ba ?_) | (with_reducible refine bd ?_) | (with_reducible refine bdn ?_ _) | (with_reducible refine bset ?_ (by first | exact Nat.le_refl _ | omega | (simp; done) | (simp; omega))) | (with_reducible refine bt ?_ (by with_reducible assumption)))), by repeat (first | (with_reducible exact Below.refl _ _) | (with_reducible assumption) | (with_reducible refine ba ?_) | (with_reducible refine bd ?_) | (with_reducible refine bdn ?_ _) | (with_reducible refine bset ?_ (by first | exact Nat.le_refl _ | omega | (simp; done) | (simp; omega))) | (with_reducible refine bt ?_ (by with_reducible assumption)))⟩
               case measure => simp [intOf]; omega)
      · have hkn : k = n := by omega
        have hL := Hfin.out k hkn
        rw [hL] at hown ⊢
        have Hown := Lib.hid hown
        clear hown hbel
        go_wp2
        go_ret2
        exact ⟨_, rfl, by simpa using Hown.out, Hbel.out⟩
end Zn
end Go.Proofs.YtkpjhgkmjcdobaaGreatDoor
