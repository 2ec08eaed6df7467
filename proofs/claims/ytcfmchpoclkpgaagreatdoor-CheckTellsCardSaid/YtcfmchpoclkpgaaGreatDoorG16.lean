import Derived.Test.YtcfmchpoclkpgaaGreatDoorG15
import Derived.Test.YtcfmchpoclkpgaaGreatDoorG3
import Derived.Deep.DeepCutAuto
import Derived.Deep.RegionHeld3
namespace Go.Proofs.YtcfmchpoclkpgaaGreatDoor
open Go.RowKit NB Nxt
namespace Unt
def NearP (l : List RuleV) (e : EraV) (a b : Int) : Prop := e.kind = 2 ∧ ∃ x, Occ.All l e.rules l.length x ∧ a < Chn.inst l e.rules e.off x ∧ Chn.inst l e.rules e.off x < b
open Classical in
noncomputable def nearB (l : List RuleV) (e : EraV) (a b : Int) : Bool := decide (NearP l e a b)
theorem near_true {l : List RuleV} {e : EraV} {a b : Int} (h : NearP l e a b) : nearB l e a b = true := by unfold nearB;simpa using h
theorem near_false {l : List RuleV} {e : EraV} {a b : Int} (h : ¬ NearP l e a b) : nearB l e a b = false := by unfold nearB;simpa using h
def Still (l : List RuleV) (name : ByteArray) (off a b : Int) (c : Option OccV) : Prop := ∀ x, Occ.All l name l.length x → a < Chn.inst l name off x → Chn.inst l name off x < b → ∃ o, c = some o ∧ (x = o ∨ Occ.less o x = true)
theorem still0 {l : List RuleV} {name : ByteArray} {off a b : Int} (hm : Chn.may off = true) : Still l name off a b (Chn.afterO l name off a) := by
  intro x hx h1 h2
  have hA := Chn.after_spec (l := l) (name := name) (t := a) hm
  cases hp : Chn.afterO l name off a with
  | none =>
    rw [hp] at hA
    have := Chn.clamp_le hm hx (hA x hx)
    omega
  | some p =>
    rw [hp] at hA
    obtain ⟨p1, p2, p3⟩ := hA
    refine ⟨p, rfl, ?_⟩
    rcases Occ.less_tri hx p1 with h|h|h
    · have := Chn.clamp_le hm hx (p3 x hx h)
      omega
    · exact .inl h
    · exact .inr h
theorem after_all {l : List RuleV} {name : ByteArray} {off a : Int} {o : OccV} (hm : Chn.may off = true) (h : Chn.afterO l name off a = some o) : Occ.All l name l.length o := by
  have hA := Chn.after_spec (l := l) (name := name) (t := a) hm
  rw [h] at hA
  exact hA.1
theorem still_next {l : List RuleV} {name : ByteArray} {off a b : Int} {o : OccV} (h : Still l name off a b (some o)) (hn : ¬ (a < Chn.inst l name off o ∧ Chn.inst l name off o < b)) : Still l name off a b (Occ.nextO l name o) := by
  intro x hx h1 h2
  obtain ⟨o', ho, hc⟩ := h x hx h1 h2
  cases ho
  rcases hc with rfl|hc
  · exact absurd ⟨h1, h2⟩ hn
  · cases hq : Occ.nextO l name o with
    | none =>
      have hb := Occ.best_next l name o
      rw [hq] at hb
      rw [hb x hx] at hc
      cases hc
    | some q => exact ⟨q, rfl, Occ.next_le hq hx hc⟩
theorem still_far {l : List RuleV} {name : ByteArray} {off a b : Int} {o : OccV} (hm : Chn.may off = true) (h : Still l name off a b (some o)) (hn : ¬ (a < Chn.inst l name off o ∧ Chn.inst l name off o < b)) (hf : b + 64800 < o.nom) : ¬ ∃ x, Occ.All l name l.length x ∧ a < Chn.inst l name off x ∧ Chn.inst l name off x < b := by
  rintro ⟨x, hx, h1, h2⟩
  obtain ⟨o', ho, hc⟩ := h x hx h1 h2
  cases ho
  rcases hc with rfl|hc
  · exact hn ⟨h1, h2⟩
  · have := Occ.less_iff.1 hc
    have := (Chn.inst_bd (l := l) (name := name) hm x).1
    omega
theorem still_none {l : List RuleV} {name : ByteArray} {off a b : Int} (h : Still l name off a b none) : ¬ ∃ x, Occ.All l name l.length x ∧ a < Chn.inst l name off x ∧ Chn.inst l name off x < b := by
  rintro ⟨x, hx, h1, h2⟩
  obtain ⟨o, ho, _⟩ := h x hx h1 h2
  cases ho
theorem cnt {c : Int} : ∀ {L : List Int}, L.Pairwise (· ≠ ·) → L.length ≤ (L.filter fun x => decide (x ≠ c)).length + 1
  | [], _ => Nat.zero_le _
  | x :: xs, h => by
    obtain ⟨h1, h2⟩ := List.pairwise_cons.1 h
    by_cases hx : x = c
    · subst hx
      rw [List.filter_cons_of_neg (by simp)]
      have : (xs.filter fun y => decide (y ≠ x)) = xs := by
        rw [List.filter_eq_self]
        intro y hy
        simpa using fun e => h1 y hy e.symm
      rw [this]
      simp
    · rw [List.filter_cons_of_pos (by simpa using hx)]
      have := cnt (c := c) h2
      simp only [List.length_cons]
      omega
theorem pig : ∀ (n : Nat) (L : List Int), L.Pairwise (· ≠ ·) → (∀ x ∈ L, 0 ≤ x ∧ x < n) → L.length ≤ n
  | 0, L, _, h => by
    cases L with
    | nil => exact Nat.le_refl _
    | cons x xs => have := h x List.mem_cons_self;omega
  | n + 1, L, hp, h => by
    have h1 := cnt (c := (n : Int)) hp
    have h2 := pig n (L.filter fun x => decide (x ≠ (n : Int))) (hp.filter _) (by
      intro x hx
      rw [List.mem_filter] at hx
      have h3 := h x hx.1
      have h4 : x ≠ n := by simpa using hx.2
      omega)
    omega
theorem inL_sorted {l : List RuleV} {name : ByteArray} {T : Int} : ∀ {n : Nat} {fr : OccV}, (Occ.inL l name T fr n).Pairwise (fun a b => Occ.less a b = true)
  | 0, _ => by unfold Occ.inL;exact List.Pairwise.nil
  | n + 1, fr => by
    unfold Occ.inL
    cases h : Occ.nextO l name fr with
    | none => exact List.Pairwise.nil
    | some o =>
      simp only
      split
      · exact List.pairwise_cons.2 ⟨fun x hx => (Occ.inL_all hx).2.2, inL_sorted⟩
      · exact List.Pairwise.nil
theorem inL_few {l : List RuleV} {name : ByteArray} {a T : Int} (h : T - a ≤ 27820800) {n : Nat} : (Occ.inL l name T ⟨-1, 0, a⟩ n).length ≤ l.length := by
  have hp : ((Occ.inL l name T ⟨-1, 0, a⟩ n).map (·.rule)).Pairwise (· ≠ ·) := by
    rw [List.pairwise_map]
    refine List.Pairwise.imp_of_mem ?_ inL_sorted
    intro x y hx hy hl he
    obtain ⟨x1, x2, x3⟩ := Occ.inL_all hx
    obtain ⟨y1, y2, y3⟩ := Occ.inL_all hy
    obtain ⟨i, r, e1, hi, hr, hn, hR, u1, u2, u3⟩ := ChW.rule_of x1
    obtain ⟨j, s, f1, hj, hs, hm, hS, v1, v2, v3⟩ := ChW.rule_of y1
    have hij : i = j := by omega
    subst hij
    rw [hr] at hs
    cases hs
    have hl' := Occ.less_iff.1 hl
    rw [Occ.less_iff] at x3 y3
    simp only at x3 y3
    have hy : x.year < y.year := (Occ.nom_lt hR).1 (by omega)
    have := Occ.nom_mono hR hy
    omega
  have := pig l.length _ hp (by
    intro z hz
    rw [List.mem_map] at hz
    obtain ⟨x, hx, rfl⟩ := hz
    exact (Occ.all_bd (Occ.inL_all hx).1).2.2)
  simpa using this
end Unt
end Go.Proofs.YtcfmchpoclkpgaaGreatDoor
namespace Go.Proofs.YtcfmchpoclkpgaaGreatDoor
open Go.RowKit NB Nxt
namespace Unt
def nearO (l : List RuleV) (o : Option EraV) (a b : Int) : Prop := match o with|some e => NearP l e a b|none => False
open Classical in
noncomputable def badAt (l : List RuleV) (es : List EraV) (L : List Int) (i : Nat) : Int := match L[i]? with
  | none => 0
  | some t =>
    let p := if 0 < i then (L[i - 1]?).getD 0 else t - 345600
    if t ≤ p then 14 else if t - p < 345600 ∨ nearO l es[i]? (t - 172800) t ∨ nearO l es[i + 1]? t (t + 172800) then 15 else 0
noncomputable def first (f : Nat → Int) : Nat → Nat → Int × Int
  | 0, _ => (-1, 0)
  | c + 1, k => if f k = 0 then first f c (k + 1) else (k, f k)
noncomputable def checkU (l : List RuleV) (es : List EraV) : Int × Int := if Zn.zoneB es then first (badAt l es (Zn.endsL l es)) (Zn.endsL l es).length 0 else (-1, 4)
theorem first_at {f : Nat → Int} {m k : Nat} (h : k < m) : first f (m - k) k = if f k = 0 then first f (m - (k + 1)) (k + 1) else (k, f k) := by
  obtain ⟨d, hd⟩ : ∃ d, m - k = d + 1 := ⟨m - k - 1, by omega⟩
  rw [hd, show m - (k + 1) = d by omega]
  rfl
theorem ends_take {l : List RuleV} {es : List EraV} (h : Zn.OkTo es es.length) : ∀ k : Nat, k < es.length → Zn.endsL l (es.take k) = (es.take k).map fun e => (instU l e).1
  | 0, _ => by simp [Zn.endsL]
  | k + 1, hk => by
    obtain ⟨e, he⟩ : ∃ e, es[k]? = some e := ⟨es[k], by simp⟩
    have ih := ends_take (l := l) h k (by omega)
    have hok := h k e (by omega) he
    unfold Zn.okAt at hok
    simp only [Bool.and_eq_true, beq_iff_eq] at hok
    have hh : e.u.has = true := by rw [hok.2];simpa using hk
    rw [Zn.endsL_succ he, ih, if_pos hh, List.take_add_one, he, List.map_append]
    rfl
theorem ends_all {l : List RuleV} {es : List EraV} (h0 : 0 < es.length) (h : Zn.OkTo es es.length) : Zn.endsL l es = (es.take (es.length - 1)).map fun e => (instU l e).1 := by
  obtain ⟨n, hn⟩ : ∃ n, es.length = n + 1 := ⟨es.length - 1, by omega⟩
  obtain ⟨e, he⟩ : ∃ e, es[n]? = some e := ⟨es[n], by simp⟩
  have hok := h n e (by omega) he
  unfold Zn.okAt at hok
  simp only [Bool.and_eq_true, beq_iff_eq] at hok
  have hh : e.u.has = false := by rw [hok.2];simp;omega
  have h1 : Zn.endsL l es = Zn.endsL l (es.take (n + 1)) := by rw [← hn, List.take_length]
  rw [h1, Zn.endsL_succ he, hh, hn]
  simp only [Bool.false_eq_true, if_false, List.append_nil, Nat.add_sub_cancel]
  exact ends_take h n (by omega)
theorem ends_len {l : List RuleV} {es : List EraV} (hz : Zn.zoneB es = true) : (Zn.endsL l es).length + 1 = es.length := by
  obtain ⟨h0, h⟩ := Zn.zone_iff.1 hz
  rw [ends_all h0 h, List.length_map, List.length_take]
  omega
theorem end_at {l : List RuleV} {es : List EraV} (hz : Zn.zoneB es = true) {i : Nat} {t : Int} (ht : (Zn.endsL l es)[i]? = some t) : ∃ e f, es[i]? = some e ∧ es[i + 1]? = some f ∧ Er.rightB e = true ∧ Er.rightB f = true ∧ t = (instU l e).1 ∧ -3000000000000 ≤ t ∧ t ≤ 3000000000000 := by
  obtain ⟨h0, h⟩ := Zn.zone_iff.1 hz
  have hl := ends_len (l := l) hz
  have hi : i < (Zn.endsL l es).length := (List.getElem?_eq_some_iff.1 ht).1
  obtain ⟨e, he⟩ : ∃ e, es[i]? = some e := ⟨es[i]'(by omega), by simp⟩
  obtain ⟨f, hf⟩ : ∃ e, es[i + 1]? = some e := ⟨es[i + 1]'(by omega), by simp⟩
  have oe := h i e (by omega) he
  have of' := h (i + 1) f (by omega) hf
  unfold Zn.okAt at oe of'
  simp only [Bool.and_eq_true, beq_iff_eq] at oe of'
  have hh : e.u.has = true := by rw [oe.2];simp;omega
  rw [ends_all h0 h, List.getElem?_map, List.getElem?_take, if_pos (by omega), he] at ht
  have htt : t = (instU l e).1 := by cases ht;rfl
  refine ⟨e, f, he, hf, oe.1, of'.1, htt, ?_⟩
  have rs := right_spec oe.1
  have es' := end_spec hh rs.2.1
  have sb := saved_bd (l := l) oe.1 (nomV e.u)
  have sh := Chn.shift_bd (base := e.u.base) (Chn.may_iff.2 rs.1) sb.1 sb.2
  have : (instU l e).1 = nomV e.u - Chn.shift e.off e.u.base (savedE l e (nomV e.u)) := by
    unfold instU
    rw [if_pos oe.1, if_pos hh]
  omega
end Unt
end Go.Proofs.YtcfmchpoclkpgaaGreatDoor
namespace Go.Proofs.YtcfmchpoclkpgaaGreatDoor
open Go.RowKit NB
namespace Apt
set_option maxHeartbeats 800000 in
theorem YearDay (m : Int) (h1 : 1 ≤ m) (h2 : m ≤ 12) (w : World) :
    Calls Tryz.prog 194 #[.agg #[.int .i64 2001, .int .i64 m, .int .i64 1]] w fun e w' => e = .returned (.tuple #[.int .i64 (Cal.cum 2001 m + 1), .int .i64 0]) ∧ Below w.heap.size w w' := by
  have hr : Civ.right 2001 m 1 = true := Day.right_first (by decide) (by decide) h1 h2
  have e1 := Cal.number_eq 2001 m 1 h1 h2
  have e2 := Cal.number_eq 2001 1 1 (by decide) (by decide)
  have hc1 := Cal.cum_bd 2001 m h1 h2
  have hlp := Cal.lp_01 2001
  have hlen := Cal.len_bd 2001 m h1 h2
  have hd : Cal.number 2001 m 1 - Cal.number 2001 1 1 = Cal.cum 2001 m := by
    rw [e1, e2];unfold Cal.days
    have : Cal.cum 2001 1 = 0 := by decide
    omega
  have ha := Cal.ahead_bd 2001 (by decide) (by decide)
  have n1 : -20000000 ≤ Cal.number 2001 m 1 := by rw [e1];unfold Cal.days;omega
  have n2 : Cal.number 2001 m 1 ≤ 20000000 := by rw [e1];unfold Cal.days;omega
  have n3 : -20000000 ≤ Cal.number 2001 1 1 := by rw [e2];unfold Cal.days;have : Cal.cum 2001 1 = 0 := by decide
                                                  omega
  have n4 : Cal.number 2001 1 1 ≤ 20000000 := by rw [e2];unfold Cal.days;have : Cal.cum 2001 1 = 0 := by decide
                                                 omega
  rw [← hd]
  have Hr := Lib.hid hr
  clear hr e1 e2 hc1 hlp hlen hd ha
  go_enter Tryz.func194, Tryz.ntmps194
  go_wp2_with (go_at_call 252;refine (Civ.Right _ _ _ _).mono ?_;rw [Hr.out];rintro e w1 ⟨rfl, hb⟩;obtain ⟨hc, hf⟩ := bcell hb;have hz : w.heap.size < w1.heap.size := by (have := hb.size;simp at this;omega))
  refine region_later (by kernel_rfl) (by kernel_rfl) ?_
  repeat (go_big_quiet_step (first
    | (go_at_call_of 253 (Value.int .i64 m);rename_i xL;exact calls_later xL (Nat.le_refl _) (Civ.number _ _ _ (by decide) (by decide) h1 h2 (by decide) (by decide) _))
    | (go_at_call 253;rename_i xL;exact calls_later xL (Nat.le_refl _) (Civ.number _ _ _ (by decide) (by decide) (by decide) (by decide) (by decide) (by decide) _))))
  refine wpQuiet_nil ?_
  rintro _ ⟨⟨u, hu⟩, rfl⟩
  go_wp2
  go_ret2
  exact ⟨rfl, (((Below.refl _ _).alloc (Nat.le_refl _) _).trans (hb.mono (by simp))).trans (hu.mono (by omega))⟩
def wLow (r : RuleV) : Int := (Cal.cum 2001 r.month + 1 + Day.winLow r.kind r.day r.month - 2) * 86400 + r.sec
def wHigh (r : RuleV) : Int := (Cal.cum 2001 r.month + 1 + Day.winHigh r.kind r.day r.month - 2) * 86400 + r.sec
theorem win_bd {k wk d m : Int} (h : Day.fits k wk d m = true) : -10 ≤ Day.winLow k d m ∧ Day.winLow k d m ≤ 40 ∧ -10 ≤ Day.winHigh k d m ∧ Day.winHigh k d m ≤ 40 := by
  obtain ⟨_, _, _, _⟩ := Day.days31 h
  have h1 := Cal.len_le 1 m
  have h4 := Cal.len_le 4 m
  obtain ⟨h1m, h2m, _, _⟩ := Day.fits_spec h
  have h5 := Cal.len_bd 1 m h1m h2m
  unfold Day.winLow Day.winHigh
  repeat' split
  all_goals omega

theorem of1 (d n sec : Int) (bn br : Nat) (w : World) (hd0 : -1000 ≤ d) (hd1 : d ≤ 1000) (hn0 : -1000 ≤ n) (hn1 : n ≤ 1000) (hs0 : -1000000 ≤ sec) (hs1 : sec ≤ 1000000)
    (hn : w.cell? ⟨bn, 0, none⟩ = some (.int .i64 n)) (hs : w.cell? ⟨br, 7, none⟩ = some (.int .i64 sec)) :
    Calls Tryz.prog 196 #[.int .i64 d, .pointer (some ⟨bn, 0, none⟩), .pointer (some ⟨br, 0, none⟩)] w fun e w' => e = .returned (.int .i64 ((n + d - 2) * 86400 + sec)) ∧ w = w' := by
  go_enter Tryz.func196, Tryz.ntmps196
  go_wp2
  go_ret
  exact ⟨rfl, rfl⟩

set_option maxHeartbeats 1600000 in
theorem of (r : RuleV) (hf : Day.fits r.kind r.week r.day r.month = true) (hs0 : 0 ≤ r.sec) (hs1 : r.sec ≤ 172800) (w : World) :
    Calls Tryz.prog 132 #[.agg r.cells.toArray] w fun e w' => e = .returned (.agg #[.int .i64 (wLow r), .int .i64 (wHigh r)]) ∧ Below w.heap.size w w' := by
  obtain ⟨m1, m2, _, _⟩ := Day.fits_spec hf
  obtain ⟨b1, b2, b3, b4⟩ := win_bd hf
  have hc1 := Cal.cum_bd 2001 r.month m1 m2
  have hlp := Cal.lp_01 2001
  have hlen := Cal.len_bd 2001 r.month m1 m2
  have c1 : 0 ≤ Cal.cum 2001 r.month := by omega
  have c2 : Cal.cum 2001 r.month ≤ 366 := by omega
  have Hf := Lib.hid hf
  clear hf hc1 hlp hlen
  unfold RuleV.cells wLow wHigh
  go_enter Tryz.func132, Tryz.ntmps132
  go_wp2_with (first
    | (go_at_call 194;refine (YearDay _ m1 m2 _).mono ?_;rintro e w1 ⟨rfl, hb1⟩;obtain ⟨hc1, hf1⟩ := bcell hb1;have hz1 : w.heap.size + 1 < w1.heap.size := sz2 hb1;have hy1 : w.heap.size < w1.heap.size := by omega)
    | (go_at_call 195;refine (Day.Window _ _ _ _ _).mono ?_;rw [Hf.out, if_pos rfl];rintro e w2 ⟨rfl, hb2⟩;obtain ⟨hc2, hf2⟩ := bcell hb2;have hz2 : w1.heap.size < w2.heap.size := sz1 hb2;have hy2 : w.heap.size + 1 < w2.heap.size := (by omega);have hx2 : w.heap.size < w2.heap.size := (by omega);have n2 : w2.cell? ⟨w1.heap.size, 0, none⟩ = some (.int .i64 (Cal.cum 2001 r.month + 1)) := (by go_simp);have s2 : w2.cell? ⟨w.heap.size, 7, none⟩ = some (.int .i64 r.sec) := (by go_simp))
    | (go_at_call 196;refine (of1 _ _ _ _ _ _ (by omega) (by omega) (by omega) (by omega) (by omega) (by omega) n2 s2).mono ?_;rintro e w3 ⟨rfl, rfl⟩))
  refine bodyPost_ret (v := .agg #[.int .i64 ((Cal.cum 2001 r.month + 1 + Day.winLow r.kind r.day r.month - 2) * 86400 + r.sec), .int .i64 ((Cal.cum 2001 r.month + 1 + Day.winHigh r.kind r.day r.month - 2) * 86400 + r.sec)]) ?_ rfl ⟨rfl, ?_⟩
  · simp only [results, Tryz.results132]
    go_simp
  · exact (((((((Below.refl _ _).alloc (Nat.le_refl _) _).alloc (by simp) _).trans (hb1.mono (by simp;omega))).alloc (by omega) _).trans (hb2.mono (by simp;omega))).setCell (by simp) _).setCell (by simp) _
end Apt
end Go.Proofs.YtcfmchpoclkpgaaGreatDoor
namespace Go.Proofs.YtcfmchpoclkpgaaGreatDoor
open Go.RowKit NB
namespace Apt
def meetB (a b : RuleV) (n : Int) : Bool := decide (a.fr + n ≤ b.to) && decide (b.fr ≤ a.to + n)
def Yr (r : RuleV) : Prop := (-100000 ≤ r.fr ∧ r.fr ≤ 100000) ∧ (-100000 ≤ r.to ∧ r.to ≤ 100000)
theorem meet (a b : RuleV) (n : Int) (ha : Yr a) (hb : Yr b) (hn : 0 ≤ n) (hn1 : n ≤ 1) (w : World) :
    Calls Tryz.prog 133 #[.agg a.cells.toArray, .agg b.cells.toArray, .int .i64 n] w fun e w' => e = .returned (.bool (meetB a b n)) ∧ Below w.heap.size w w' := by
  obtain ⟨⟨a1, a2⟩, a3, a4⟩ := ha
  obtain ⟨⟨b1, b2⟩, b3, b4⟩ := hb
  unfold RuleV.cells
  go_enter Tryz.func133, Tryz.ntmps133
  go_wp2
  all_goals
    go_ret
    refine ⟨ret_bool ?_, (((Below.refl _ _).alloc (Nat.le_refl _) _).alloc (by simp) _)⟩
    simp [meetB, *]
    try omega
def clearB (h l n : Int) : Bool := decide (345600 ≤ l + n - h)
def Sm (n : Int) : Prop := -1000000000000 ≤ n ∧ n ≤ 1000000000000
theorem clear (l1 h1 l2 h2 n : Int) (s1 : Sm h1) (s2 : Sm l2) (hn : 0 ≤ n) (hn1 : n ≤ 31536000) (w : World) :
    Calls Tryz.prog 134 #[.agg #[.int .i64 l1, .int .i64 h1], .agg #[.int .i64 l2, .int .i64 h2], .int .i64 n] w fun e w' => e = .returned (.bool (clearB h1 l2 n)) ∧ Below w.heap.size w w' := by
  obtain ⟨a1, a2⟩ := s1
  obtain ⟨b1, b2⟩ := s2
  unfold clearB
  go_enter Tryz.func134, Tryz.ntmps134
  go_wp2
  go_ret
  exact ⟨rfl, (((Below.refl _ _).alloc (Nat.le_refl _) _).alloc (by simp) _)⟩
structure Ok (r : RuleV) : Prop where
  f : Day.fits r.kind r.week r.day r.month = true
  s0 : 0 ≤ r.sec
  s1 : r.sec ≤ 172800
  y : Yr r
theorem win_sm {r : RuleV} (h : Ok r) : Sm (wLow r) ∧ Sm (wHigh r) := by
  obtain ⟨m1, m2, _, _⟩ := Day.fits_spec h.f
  obtain ⟨b1, b2, b3, b4⟩ := win_bd h.f
  have hc1 := Cal.cum_bd 2001 r.month m1 m2
  have hlp := Cal.lp_01 2001
  have hlen := Cal.len_bd 2001 r.month m1 m2
  have := h.s0
  have := h.s1
  unfold Sm wLow wHigh
  omega
def nearB (a b : RuleV) : Bool := (meetB a b 0 && !clearB (wHigh a) (wLow b) 0 && !clearB (wHigh b) (wLow a) 0) || (meetB a b 1 && !clearB (wHigh a) (wLow b) 31536000) || (meetB b a 1 && !clearB (wHigh b) (wLow a) 31536000)

set_option maxHeartbeats 12000000 in
theorem near (a b : RuleV) (ha : Ok a) (hb : Ok b) (w : World) :
    Calls Tryz.prog 77 #[.agg a.cells.toArray, .agg b.cells.toArray] w fun e w' => e = .returned (.bool (nearB a b)) ∧ Below w.heap.size w w' := by
  have ca := fun W => of a ha.f ha.s0 ha.s1 W
  have cb := fun W => of b hb.f hb.s0 hb.s1 W
  have cm0 := fun W => meet a b 0 ha.y hb.y (by decide) (by decide) W
  have cm1 := fun W => meet a b 1 ha.y hb.y (by decide) (by decide) W
  have cm2 := fun W => meet b a 1 hb.y ha.y (by decide) (by decide) W
  have cc0 := fun W => clear (wLow a) (wHigh a) (wLow b) (wHigh b) 0 (win_sm ha).2 (win_sm hb).1 (by decide) (by decide) W
  have cc1 := fun W => clear (wLow b) (wHigh b) (wLow a) (wHigh a) 0 (win_sm hb).2 (win_sm ha).1 (by decide) (by decide) W
  have cc2 := fun W => clear (wLow a) (wHigh a) (wLow b) (wHigh b) 31536000 (win_sm ha).2 (win_sm hb).1 (by decide) (by decide) W
  have cc3 := fun W => clear (wLow b) (wHigh b) (wLow a) (wHigh a) 31536000 (win_sm hb).2 (win_sm ha).1 (by decide) (by decide) W
  have Ca := Lib.hid ca
  have Cb := Lib.hid cb
  have Cm0 := Lib.hid cm0
  have Cm1 := Lib.hid cm1
  have Cm2 := Lib.hid cm2
  have Cc0 := Lib.hid cc0
  have Cc1 := Lib.hid cc1
  have Cc2 := Lib.hid cc2
  have Cc3 := Lib.hid cc3
  clear ca cb cm0 cm1 cm2 cc0 cc1 cc2 cc3 ha hb
  unfold nearB
  generalize wLow a = la at *
  generalize wHigh a = ga at *
  generalize wLow b = lb at *
  generalize wHigh b = gb at *
  generalize hm0 : meetB a b 0 = m0 at *
  generalize hm1 : meetB a b 1 = m1 at *
  generalize hm2 : meetB b a 1 = m2 at *
  generalize clearB ga lb 0 = k0 at *
  generalize clearB gb la 0 = k1 at *
  generalize clearB ga lb 31536000 = k2 at *
  generalize clearB gb la 31536000 = k3 at *
  clear hm0 hm1 hm2
  unfold RuleV.cells at *
  go_enter Tryz.func77, Tryz.ntmps77
  go_upto_region 1 with fail
  obtain ⟨W, hW, h1, h2, hsz⟩ : ∃ W : World, W = ((w.alloc (Obj.cells #[.string a.name, .int .i64 a.fr, .int .i64 a.to, .int .i64 a.month, .int .i64 a.kind, .int .i64 a.week, .int .i64 a.day, .int .i64 a.sec, .int .i64 a.base, .int .i64 a.save, .string a.letter] 63)).alloc (Obj.cells #[.string b.name, .int .i64 b.fr, .int .i64 b.to, .int .i64 b.month, .int .i64 b.kind, .int .i64 b.week, .int .i64 b.day, .int .i64 b.sec, .int .i64 b.base, .int .i64 b.save, .string b.letter] 63)) ∧
      (∀ o, W.cell? ⟨w.heap.size, o, none⟩ = (#[.string a.name, .int .i64 a.fr, .int .i64 a.to, .int .i64 a.month, .int .i64 a.kind, .int .i64 a.week, .int .i64 a.day, .int .i64 a.sec, .int .i64 a.base, .int .i64 a.save, .string a.letter] : Array Value)[o]?) ∧ (∀ o, W.cell? ⟨w.heap.size + 1, o, none⟩ = (#[.string b.name, .int .i64 b.fr, .int .i64 b.to, .int .i64 b.month, .int .i64 b.kind, .int .i64 b.week, .int .i64 b.day, .int .i64 b.sec, .int .i64 b.base, .int .i64 b.save, .string b.letter] : Array Value)[o]?) ∧ W.heap.size = w.heap.size + 2 :=
    ⟨_, rfl, fun o => cell_of_row _ _ _ _ _ _ (heap_alloc2_old w _ _), fun o => cell_of_row _ _ _ _ _ _ (heap_alloc2_new w _ _), by simp⟩
  have hBW : Below w.heap.size w W := by rw [hW];exact ((Below.refl _ _).alloc (Nat.le_refl _) _).alloc (by simp) _
  rw [← hW]
  clear hW
  have hsz1 : w.heap.size < W.heap.size := by omega
  have hsz2 : w.heap.size + 1 < W.heap.size := by omega
  have HSZ := Lib.hid hsz
  clear hsz
  have HBW := Lib.hid hBW
  clear hBW
  go_cut [5, 6] (fun s5 s6 wx => ∃ p q : Nat, s5 = .pointer (some ⟨p, 0, none⟩) ∧ s6 = .pointer (some ⟨q, 0, none⟩) ∧ wx.cell? ⟨p, 0, none⟩ = some (.int .i64 la) ∧ wx.cell? ⟨p, 1, none⟩ = some (.int .i64 ga) ∧ wx.cell? ⟨q, 0, none⟩ = some (.int .i64 lb) ∧ wx.cell? ⟨q, 1, none⟩ = some (.int .i64 gb) ∧ Below W.heap.size W wx)
  case first =>
    have hS : ∀ u : World, Below W.heap.size W u → (∀ o, u.cell? ⟨w.heap.size, o, none⟩ = (#[.string a.name, .int .i64 a.fr, .int .i64 a.to, .int .i64 a.month, .int .i64 a.kind, .int .i64 a.week, .int .i64 a.day, .int .i64 a.sec, .int .i64 a.base, .int .i64 a.save, .string a.letter] : Array Value)[o]?) ∧ (∀ o, u.cell? ⟨w.heap.size + 1, o, none⟩ = (#[.string b.name, .int .i64 b.fr, .int .i64 b.to, .int .i64 b.month, .int .i64 b.kind, .int .i64 b.week, .int .i64 b.day, .int .i64 b.sec, .int .i64 b.base, .int .i64 b.save, .string b.letter] : Array Value)[o]?) ∧ Below W.heap.size W u :=
      fun u hu => ⟨fun o => (hu.cell (p := ⟨w.heap.size, o, none⟩) hsz1).trans (h1 o), fun o => (hu.cell (p := ⟨w.heap.size + 1, o, none⟩) hsz2).trans (h2 o), hu⟩
    have HS := Lib.hid hS
    clear hS
    go_region_held3 (fun w' => (∀ o, w'.cell? ⟨w.heap.size, o, none⟩ = (#[.string a.name, .int .i64 a.fr, .int .i64 a.to, .int .i64 a.month, .int .i64 a.kind, .int .i64 a.week, .int .i64 a.day, .int .i64 a.sec, .int .i64 a.base, .int .i64 a.save, .string a.letter] : Array Value)[o]?) ∧ (∀ o, w'.cell? ⟨w.heap.size + 1, o, none⟩ = (#[.string b.name, .int .i64 b.fr, .int .i64 b.to, .int .i64 b.month, .int .i64 b.kind, .int .i64 b.week, .int .i64 b.day, .int .i64 b.sec, .int .i64 b.base, .int .i64 b.save, .string b.letter] : Array Value)[o]?) ∧ Below W.heap.size W w')
      ((apply HS.out
        repeat (first
          | exact hBb
          | exact hBa
          | exact Below.refl _ _
          | refine Below.drew ?_
          | (refine Below.alloc ?_ (by first|exact Nat.le_refl _|exact hBb.size|exact hBa.size|(simp;done)|(simp;have := hBb.size;omega)|(simp;have := hBa.size;omega)) _)
          | (refine Below.setCell ?_ (by first|exact Nat.le_refl _|exact hBb.size|exact hBa.size|(simp;done)|(simp;have := hBa.size;omega)) _))))
      (first
        | (go_at_call_of 132 (a.name);refine (Ca.out _).mono ?_;rintro e wa ⟨rfl, hbc⟩;rename_i hH _ _;have hBa : Below W.heap.size W wa := hH.2.2.trans (hbc.mono hH.2.2.size);obtain ⟨hca, hfa⟩ := bcell hbc;first|(have z0 := szd2 hbc;have z1 := Nat.lt_of_succ_lt z0)|(have z1 := szd1 hbc)|skip)
        | (go_at_call_of 132 (b.name);refine (Cb.out _).mono ?_;rintro e wb ⟨rfl, hbd⟩;rename_i hH _ _;have hBb : Below W.heap.size W wb := hH.2.2.trans (hbd.mono hH.2.2.size);obtain ⟨hcb, hfb⟩ := bcell hbd;first|(have y0 := sz2 hbd;have y1 := Nat.lt_of_succ_lt y0)|(have y1 := sz1 hbd)|skip;have q1 := hbd.size;first|(simp only [World.size_alloc] at q1)|skip;first|(have x1 : W.heap.size < wb.heap.size := (by omega))|skip;first|(have x0 : W.heap.size + 1 < wb.heap.size := (by omega))|skip))
    all_goals
      rename_i hH
      go_wp2_with fail
      go_meet
      refine ⟨_, _, rfl, rfl, ?_, ?_, ?_, ?_, hH.2.2⟩ <;> first|(go_simp;done)|(go_simp;apply World.cell?_setCell_same (u := .int .i64 0);go_simp)
  case rest =>
    obtain ⟨p, q, rfl, rfl, c1, c2, c3, c4, hB⟩ := hcut
    have hp := World.block_lt_of_cell? wc _ c1
    have hq := World.block_lt_of_cell? wc _ c3
    have hF : ∀ u : World, Below wc.heap.size wc u → (∀ o, u.cell? ⟨w.heap.size, o, none⟩ = (#[.string a.name, .int .i64 a.fr, .int .i64 a.to, .int .i64 a.month, .int .i64 a.kind, .int .i64 a.week, .int .i64 a.day, .int .i64 a.sec, .int .i64 a.base, .int .i64 a.save, .string a.letter] : Array Value)[o]?) ∧ (∀ o, u.cell? ⟨w.heap.size + 1, o, none⟩ = (#[.string b.name, .int .i64 b.fr, .int .i64 b.to, .int .i64 b.month, .int .i64 b.kind, .int .i64 b.week, .int .i64 b.day, .int .i64 b.sec, .int .i64 b.base, .int .i64 b.save, .string b.letter] : Array Value)[o]?) ∧
        u.cell? ⟨p, 0, none⟩ = some (.int .i64 la) ∧ u.cell? ⟨p, 1, none⟩ = some (.int .i64 ga) ∧ u.cell? ⟨q, 0, none⟩ = some (.int .i64 lb) ∧ u.cell? ⟨q, 1, none⟩ = some (.int .i64 gb) :=
      fun u hu => ⟨fun o => (hu.cell (p := ⟨w.heap.size, o, none⟩) (Nat.lt_of_lt_of_le hsz1 hB.size)).trans ((hB.cell (p := ⟨w.heap.size, o, none⟩) hsz1).trans (h1 o)), fun o => (hu.cell (p := ⟨w.heap.size + 1, o, none⟩) (Nat.lt_of_lt_of_le hsz2 hB.size)).trans ((hB.cell (p := ⟨w.heap.size + 1, o, none⟩) hsz2).trans (h2 o)),
        (hu.cell (p := ⟨p, 0, none⟩) hp).trans c1, (hu.cell (p := ⟨p, 1, none⟩) hp).trans c2, (hu.cell (p := ⟨q, 0, none⟩) hq).trans c3, (hu.cell (p := ⟨q, 1, none⟩) hq).trans c4⟩
    have HF := Lib.hid hF
    have hfin : Below w.heap.size w wc := HBW.out.trans (hB.mono (by omega))
    have Hfin := Lib.hid hfin
    have hI : Below wc.heap.size wc wc := Below.refl _ _
    clear hF hfin hB hp hq c1 c2 c3 c4 h1 h2
    obtain ⟨f1, f2, f3, f4, f5, f6⟩ := HF.out _ hI
    go_wp2_with (first
      | (go_at_call_of 133 (Value.int .i64 0);refine (Cm0.out _).mono ?_;rintro e wn ⟨rfl, hbn⟩;replace hI := hI.trans (hbn.mono hI.size);clear f1 f2 f3 f4 f5 f6 hbn;obtain ⟨f1, f2, f3, f4, f5, f6⟩ := HF.out _ hI)
      | (go_at_call 133;(with_reducible first|refine (Cm1.out _).mono ?_|refine (Cm2.out _).mono ?_);rintro e wn ⟨rfl, hbn⟩;replace hI := hI.trans (hbn.mono hI.size);clear f1 f2 f3 f4 f5 f6 hbn;obtain ⟨f1, f2, f3, f4, f5, f6⟩ := HF.out _ hI)
      | (go_at_call 134;(with_reducible first|refine (Cc0.out _).mono ?_|refine (Cc1.out _).mono ?_|refine (Cc2.out _).mono ?_|refine (Cc3.out _).mono ?_);rintro e wn ⟨rfl, hbn⟩;replace hI := hI.trans (hbn.mono hI.size);clear f1 f2 f3 f4 f5 f6 hbn;obtain ⟨f1, f2, f3, f4, f5, f6⟩ := HF.out _ hI))
    all_goals
      go_ret
      refine ⟨ret_bool ?_, Hfin.out.trans (hI.mono Hfin.out.size)⟩
      simp [*]
end Apt
end Go.Proofs.YtcfmchpoclkpgaaGreatDoor
namespace Go.Proofs.YtcfmchpoclkpgaaGreatDoor
open Go.RowKit NB
namespace Apt
theorem ok_of {r : RuleV} (h : Rul.right r = true) : Ok r := by
  obtain ⟨h1, h2, h3, _⟩ := Rul.right_spec h
  refine ⟨h2, h3.2.2.1, h3.2.2.2, ?_⟩
  unfold Yr
  omega
def pairE (a b : RuleV) : Int := if Rul.right a && Rul.right b then (if nearB a b then 15 else 0) else 4
set_option maxHeartbeats 1600000 in
theorem Pair (a b : RuleV) (ha : a.Fit) (hb : b.Fit) (w : World) :
    Calls Tryz.prog 42 #[.agg a.cells.toArray, .agg b.cells.toArray] w fun e w' => e = .returned (.int .i64 (pairE a b)) ∧ Below w.heap.size w w' := by
  have ca := fun W => Rul.Right a ha W
  have cb := fun W => Rul.Right b hb W
  have cn := fun (h1 : Rul.right a = true) (h2 : Rul.right b = true) W => near a b (ok_of h1) (ok_of h2) W
  have Ca := Lib.hid ca
  have Cb := Lib.hid cb
  have Cn := Lib.hid cn
  clear ca cb cn ha hb
  unfold pairE
  cases h1 : Rul.right a
  · have H1 := Lib.hid h1;clear h1
    have hf : (if (false && Rul.right b) = true then (if nearB a b then (15 : Int) else 0) else 4) = 4 := rfl
    rw [hf]
    clear hf
    unfold RuleV.cells at *
    go_enter Tryz.func42, Tryz.ntmps42
    go_wp2_with (go_at_call 76;refine (Ca.out _).mono ?_;rw [H1.out];rintro e w1 ⟨rfl, hb1⟩)
    go_ret
    exact ⟨rfl, ((((Below.refl _ _).alloc (Nat.le_refl _) _).alloc (by simp) _).trans (hb1.mono (by simp;omega)))⟩
  · cases h2 : Rul.right b
    · have H1 := Lib.hid h1;clear h1
      have H2 := Lib.hid h2;clear h2
      have hf : (if (true && false) = true then (if nearB a b then (15 : Int) else 0) else 4) = 4 := rfl
      rw [hf]
      clear hf
      unfold RuleV.cells at *
      go_enter Tryz.func42, Tryz.ntmps42
      go_wp2_with (first
        | (go_at_call_of 76 (a.name);refine (Ca.out _).mono ?_;rw [H1.out];rintro e w1 ⟨rfl, hb1⟩;obtain ⟨hc1, hf1⟩ := bcell hb1;have hz1 : w.heap.size + 1 < w1.heap.size := sz2 hb1;have hy1 : w.heap.size < w1.heap.size := (by omega))
        | (go_at_call_of 76 (b.name);refine (Cb.out _).mono ?_;rw [H2.out];rintro e w2 ⟨rfl, hb2⟩))
      go_ret
      exact ⟨rfl, (((((Below.refl _ _).alloc (Nat.le_refl _) _).alloc (by simp) _).trans (hb1.mono (by simp;omega))).trans (hb2.mono (by omega)))⟩
    · have C := Lib.hid (Cn.out h1 h2)
      have H1 := Lib.hid h1;clear h1
      have H2 := Lib.hid h2;clear h2
      have hf : (if (true && true) = true then (if nearB a b then (15 : Int) else 0) else 4) = if nearB a b then 15 else 0 := rfl
      rw [hf]
      clear hf Cn
      cases hn : nearB a b
      all_goals
        have Hn := Lib.hid hn;clear hn
        first
          | rw [if_pos rfl]
          | rw [if_neg (by decide)]
        unfold RuleV.cells at *
        go_enter Tryz.func42, Tryz.ntmps42
        go_wp2_with (first
          | (go_at_call 77;refine (C.out _).mono ?_;rw [Hn.out];rintro e w3 ⟨rfl, hb3⟩)
          | (go_at_call_of 76 (a.name);refine (Ca.out _).mono ?_;rw [H1.out];rintro e w1 ⟨rfl, hb1⟩;obtain ⟨hc1, hf1⟩ := bcell hb1;have hz1 : w.heap.size + 1 < w1.heap.size := sz2 hb1;have hy1 : w.heap.size < w1.heap.size := (by omega))
          | (go_at_call_of 76 (b.name);refine (Cb.out _).mono ?_;rw [H2.out];rintro e w2 ⟨rfl, hb2⟩;obtain ⟨hc2, hf2⟩ := bcell hb2;have hz2 : w.heap.size + 1 < w2.heap.size := Nat.lt_of_lt_of_le hz1 hb2.size;have hy2 : w.heap.size < w2.heap.size := (by omega)))
        go_ret
        exact ⟨rfl, ((((((Below.refl _ _).alloc (Nat.le_refl _) _).alloc (by simp) _).trans (hb1.mono (by simp;omega))).trans (hb2.mono (by omega))).trans (hb3.mono (by omega)))⟩

end Apt
end Go.Proofs.YtcfmchpoclkpgaaGreatDoor
