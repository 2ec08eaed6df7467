import Derived.Test.YtcfmchpoclkpgaaGreatDoorG14
import Derived.Test.YtcfmchpoclkpgaaGreatDoorG5
namespace Go.Proofs.YtcfmchpoclkpgaaGreatDoor
open Go.RowKit NB Nxt
namespace Unt
def NearP (l : List RuleV) (e : EraV) (a b : Int) : Prop := e.kind = 2 ∧ ∃ x, Occ.All l e.rules l.length x ∧ a < Chn.inst l e.rules e.off x ∧ Chn.inst l e.rules e.off x < b
open Classical in
noncomputable def nearB (l : List RuleV) (e : EraV) (a b : Int) : Bool := decide (NearP l e a b)
theorem near_true {l : List RuleV} {e : EraV} {a b : Int} (h : NearP l e a b) : nearB l e a b = true := by unfold nearB;simpa using h
theorem near_false {l : List RuleV} {e : EraV} {a b : Int} (h : ¬ NearP l e a b) : nearB l e a b = false := by unfold nearB;simpa using h
def Still (l : List RuleV) (name : ByteArray) (off a b : Int) (c : Option OccV) : Prop := ∀ x, Occ.All l name l.length x → a < Chn.inst l name off x → Chn.inst l name off x < b → ∃ o, c = some o ∧ (x = o ∨ Occ.less o x = true)
theorem still0 {l : List RuleV} {name : ByteArray} {off a b : Int} (hm : Chn.may off = true) : Still l name off a b (Chn.afterO l name off a) := by
  intro x hx h1 h2
  have hA := Chn.after_spec (l := l) (name := name) (t := a) hm
  cases hp : Chn.afterO l name off a with
  | none =>
    rw [hp] at hA
    have := Chn.clamp_le hm hx (hA x hx)
    omega
  | some p =>
    rw [hp] at hA
    obtain ⟨p1, p2, p3⟩ := hA
    refine ⟨p, rfl, ?_⟩
    rcases Occ.less_tri hx p1 with h|h|h
    · have := Chn.clamp_le hm hx (p3 x hx h)
      omega
    · exact .inl h
    · exact .inr h
theorem after_all {l : List RuleV} {name : ByteArray} {off a : Int} {o : OccV} (hm : Chn.may off = true) (h : Chn.afterO l name off a = some o) : Occ.All l name l.length o := by
  have hA := Chn.after_spec (l := l) (name := name) (t := a) hm
  rw [h] at hA
  exact hA.1
theorem still_next {l : List RuleV} {name : ByteArray} {off a b : Int} {o : OccV} (h : Still l name off a b (some o)) (hn : ¬ (a < Chn.inst l name off o ∧ Chn.inst l name off o < b)) : Still l name off a b (Occ.nextO l name o) := by
  intro x hx h1 h2
  obtain ⟨o', ho, hc⟩ := h x hx h1 h2
  cases ho
  rcases hc with rfl|hc
  · exact absurd ⟨h1, h2⟩ hn
  · cases hq : Occ.nextO l name o with
    | none =>
      have hb := Occ.best_next l name o
      rw [hq] at hb
      rw [hb x hx] at hc
      cases hc
    | some q => exact ⟨q, rfl, Occ.next_le hq hx hc⟩
theorem still_far {l : List RuleV} {name : ByteArray} {off a b : Int} {o : OccV} (hm : Chn.may off = true) (h : Still l name off a b (some o)) (hn : ¬ (a < Chn.inst l name off o ∧ Chn.inst l name off o < b)) (hf : b + 64800 < o.nom) : ¬ ∃ x, Occ.All l name l.length x ∧ a < Chn.inst l name off x ∧ Chn.inst l name off x < b := by
  rintro ⟨x, hx, h1, h2⟩
  obtain ⟨o', ho, hc⟩ := h x hx h1 h2
  cases ho
  rcases hc with rfl|hc
  · exact hn ⟨h1, h2⟩
  · have := Occ.less_iff.1 hc
    have := (Chn.inst_bd (l := l) (name := name) hm x).1
    omega
theorem still_none {l : List RuleV} {name : ByteArray} {off a b : Int} (h : Still l name off a b none) : ¬ ∃ x, Occ.All l name l.length x ∧ a < Chn.inst l name off x ∧ Chn.inst l name off x < b := by
  rintro ⟨x, hx, h1, h2⟩
  obtain ⟨o, ho, _⟩ := h x hx h1 h2
  cases ho
end Unt
end Go.Proofs.YtcfmchpoclkpgaaGreatDoor
namespace Go.Proofs.YtcfmchpoclkpgaaGreatDoor
open Go.RowKit NB Nxt
namespace Unt
def nearO (l : List RuleV) (o : Option EraV) (a b : Int) : Prop := match o with|some e => NearP l e a b|none => False
open Classical in
noncomputable def badAt (l : List RuleV) (es : List EraV) (L : List Int) (i : Nat) : Int := match L[i]? with
  | none => 0
  | some t =>
    let p := if 0 < i then (L[i - 1]?).getD 0 else t - 345600
    if t ≤ p then 14 else if t - p < 345600 ∨ nearO l es[i]? (t - 172800) t ∨ nearO l es[i + 1]? t (t + 172800) then 15 else 0
noncomputable def first (f : Nat → Int) : Nat → Nat → Int × Int
  | 0, _ => (-1, 0)
  | c + 1, k => if f k = 0 then first f c (k + 1) else (k, f k)
noncomputable def checkU (l : List RuleV) (es : List EraV) : Int × Int := if Zn.zoneB es then first (badAt l es (Zn.endsL l es)) (Zn.endsL l es).length 0 else (-1, 4)
theorem first_at {f : Nat → Int} {m k : Nat} (h : k < m) : first f (m - k) k = if f k = 0 then first f (m - (k + 1)) (k + 1) else (k, f k) := by
  obtain ⟨d, hd⟩ : ∃ d, m - k = d + 1 := ⟨m - k - 1, by omega⟩
  rw [hd, show m - (k + 1) = d by omega]
  rfl
theorem ends_take {l : List RuleV} {es : List EraV} (h : Zn.OkTo es es.length) : ∀ k : Nat, k < es.length → Zn.endsL l (es.take k) = (es.take k).map fun e => (instU l e).1
  | 0, _ => by simp [Zn.endsL]
  | k + 1, hk => by
    obtain ⟨e, he⟩ : ∃ e, es[k]? = some e := ⟨es[k], by simp⟩
    have ih := ends_take (l := l) h k (by omega)
    have hok := h k e (by omega) he
    unfold Zn.okAt at hok
    simp only [Bool.and_eq_true, beq_iff_eq] at hok
    have hh : e.u.has = true := by rw [hok.2];simpa using hk
    rw [Zn.endsL_succ he, ih, if_pos hh, List.take_add_one, he, List.map_append]
    rfl
theorem ends_all {l : List RuleV} {es : List EraV} (h0 : 0 < es.length) (h : Zn.OkTo es es.length) : Zn.endsL l es = (es.take (es.length - 1)).map fun e => (instU l e).1 := by
  obtain ⟨n, hn⟩ : ∃ n, es.length = n + 1 := ⟨es.length - 1, by omega⟩
  obtain ⟨e, he⟩ : ∃ e, es[n]? = some e := ⟨es[n], by simp⟩
  have hok := h n e (by omega) he
  unfold Zn.okAt at hok
  simp only [Bool.and_eq_true, beq_iff_eq] at hok
  have hh : e.u.has = false := by rw [hok.2];simp;omega
  have h1 : Zn.endsL l es = Zn.endsL l (es.take (n + 1)) := by rw [← hn, List.take_length]
  rw [h1, Zn.endsL_succ he, hh, hn]
  simp only [Bool.false_eq_true, if_false, List.append_nil, Nat.add_sub_cancel]
  exact ends_take h n (by omega)
theorem ends_len {l : List RuleV} {es : List EraV} (hz : Zn.zoneB es = true) : (Zn.endsL l es).length + 1 = es.length := by
  obtain ⟨h0, h⟩ := Zn.zone_iff.1 hz
  rw [ends_all h0 h, List.length_map, List.length_take]
  omega
theorem end_at {l : List RuleV} {es : List EraV} (hz : Zn.zoneB es = true) {i : Nat} {t : Int} (ht : (Zn.endsL l es)[i]? = some t) : ∃ e f, es[i]? = some e ∧ es[i + 1]? = some f ∧ Er.rightB e = true ∧ Er.rightB f = true ∧ t = (instU l e).1 ∧ -3000000000000 ≤ t ∧ t ≤ 3000000000000 := by
  obtain ⟨h0, h⟩ := Zn.zone_iff.1 hz
  have hl := ends_len (l := l) hz
  have hi : i < (Zn.endsL l es).length := (List.getElem?_eq_some_iff.1 ht).1
  obtain ⟨e, he⟩ : ∃ e, es[i]? = some e := ⟨es[i]'(by omega), by simp⟩
  obtain ⟨f, hf⟩ : ∃ e, es[i + 1]? = some e := ⟨es[i + 1]'(by omega), by simp⟩
  have oe := h i e (by omega) he
  have of' := h (i + 1) f (by omega) hf
  unfold Zn.okAt at oe of'
  simp only [Bool.and_eq_true, beq_iff_eq] at oe of'
  have hh : e.u.has = true := by rw [oe.2];simp;omega
  rw [ends_all h0 h, List.getElem?_map, List.getElem?_take, if_pos (by omega), he] at ht
  have htt : t = (instU l e).1 := by cases ht;rfl
  refine ⟨e, f, he, hf, oe.1, of'.1, htt, ?_⟩
  have rs := right_spec oe.1
  have es' := end_spec hh rs.2.1
  have sb := saved_bd (l := l) oe.1 (nomV e.u)
  have sh := Chn.shift_bd (base := e.u.base) (Chn.may_iff.2 rs.1) sb.1 sb.2
  have : (instU l e).1 = nomV e.u - Chn.shift e.off e.u.base (savedE l e (nomV e.u)) := by
    unfold instU
    rw [if_pos oe.1, if_pos hh]
  omega
end Unt
end Go.Proofs.YtcfmchpoclkpgaaGreatDoor
namespace Go.Proofs.YtcfmchpoclkpgaaGreatDoor
open Go.RowKit NB
namespace Apt
set_option maxHeartbeats 800000 in
theorem YearDay (m : Int) (h1 : 1 ≤ m) (h2 : m ≤ 12) (w : World) :
    Calls Tryz.prog 194 #[.agg #[.int .i64 2001, .int .i64 m, .int .i64 1]] w fun e w' => e = .returned (.tuple #[.int .i64 (Cal.cum 2001 m + 1), .int .i64 0]) ∧ Below w.heap.size w w' := by
  have hr : Civ.right 2001 m 1 = true := Day.right_first (by decide) (by decide) h1 h2
  have e1 := Cal.number_eq 2001 m 1 h1 h2
  have e2 := Cal.number_eq 2001 1 1 (by decide) (by decide)
  have hc1 := Cal.cum_bd 2001 m h1 h2
  have hlp := Cal.lp_01 2001
  have hlen := Cal.len_bd 2001 m h1 h2
  have hd : Cal.number 2001 m 1 - Cal.number 2001 1 1 = Cal.cum 2001 m := by
    rw [e1, e2];unfold Cal.days
    have : Cal.cum 2001 1 = 0 := by decide
    omega
  have ha := Cal.ahead_bd 2001 (by decide) (by decide)
  have n1 : -20000000 ≤ Cal.number 2001 m 1 := by rw [e1];unfold Cal.days;omega
  have n2 : Cal.number 2001 m 1 ≤ 20000000 := by rw [e1];unfold Cal.days;omega
  have n3 : -20000000 ≤ Cal.number 2001 1 1 := by rw [e2];unfold Cal.days;have : Cal.cum 2001 1 = 0 := by decide
                                                  omega
  have n4 : Cal.number 2001 1 1 ≤ 20000000 := by rw [e2];unfold Cal.days;have : Cal.cum 2001 1 = 0 := by decide
                                                 omega
  rw [← hd]
  have Hr := Lib.hid hr
  clear hr e1 e2 hc1 hlp hlen hd ha
  go_enter Tryz.func194, Tryz.ntmps194
  go_wp2_with (go_at_call 252;refine (Civ.Right _ _ _ _).mono ?_;rw [Hr.out];rintro e w1 ⟨rfl, hb⟩;obtain ⟨hc, hf⟩ := bcell hb;have hz : w.heap.size < w1.heap.size := by (have := hb.size;simp at this;omega))
  refine region_later (by kernel_rfl) (by kernel_rfl) ?_
  repeat (go_big_quiet_step (first
    | (go_at_call_of 253 (Value.int .i64 m);rename_i xL;exact calls_later xL (Nat.le_refl _) (Civ.number _ _ _ (by decide) (by decide) h1 h2 (by decide) (by decide) _))
    | (go_at_call 253;rename_i xL;exact calls_later xL (Nat.le_refl _) (Civ.number _ _ _ (by decide) (by decide) (by decide) (by decide) (by decide) (by decide) _))))
  refine wpQuiet_nil ?_
  rintro _ ⟨⟨u, hu⟩, rfl⟩
  go_wp2
  go_ret2
  exact ⟨rfl, (((Below.refl _ _).alloc (Nat.le_refl _) _).trans (hb.mono (by simp))).trans (hu.mono (by omega))⟩
def wLow (r : RuleV) : Int := (Cal.cum 2001 r.month + 1 + Day.winLow r.kind r.day r.month - 2) * 86400 + r.sec
def wHigh (r : RuleV) : Int := (Cal.cum 2001 r.month + 1 + Day.winHigh r.kind r.day r.month - 2) * 86400 + r.sec
theorem win_bd {k wk d m : Int} (h : Day.fits k wk d m = true) : -10 ≤ Day.winLow k d m ∧ Day.winLow k d m ≤ 40 ∧ -10 ≤ Day.winHigh k d m ∧ Day.winHigh k d m ≤ 40 := by
  obtain ⟨_, _, _, _⟩ := Day.days31 h
  have h1 := Cal.len_le 1 m
  have h4 := Cal.len_le 4 m
  obtain ⟨h1m, h2m, _, _⟩ := Day.fits_spec h
  have h5 := Cal.len_bd 1 m h1m h2m
  unfold Day.winLow Day.winHigh
  repeat' split
  all_goals omega

theorem of1 (d n sec : Int) (bn br : Nat) (w : World) (hd0 : -1000 ≤ d) (hd1 : d ≤ 1000) (hn0 : -1000 ≤ n) (hn1 : n ≤ 1000) (hs0 : -1000000 ≤ sec) (hs1 : sec ≤ 1000000)
    (hn : w.cell? ⟨bn, 0, none⟩ = some (.int .i64 n)) (hs : w.cell? ⟨br, 7, none⟩ = some (.int .i64 sec)) :
    Calls Tryz.prog 196 #[.int .i64 d, .pointer (some ⟨bn, 0, none⟩), .pointer (some ⟨br, 0, none⟩)] w fun e w' => e = .returned (.int .i64 ((n + d - 2) * 86400 + sec)) ∧ w = w' := by
  go_enter Tryz.func196, Tryz.ntmps196
  go_wp2
  go_ret
  exact ⟨rfl, rfl⟩

set_option maxHeartbeats 1600000 in
theorem of (r : RuleV) (hf : Day.fits r.kind r.week r.day r.month = true) (hs0 : 0 ≤ r.sec) (hs1 : r.sec ≤ 172800) (w : World) :
    Calls Tryz.prog 132 #[.agg r.cells.toArray] w fun e w' => e = .returned (.agg #[.int .i64 (wLow r), .int .i64 (wHigh r)]) ∧ Below w.heap.size w w' := by
  obtain ⟨m1, m2, _, _⟩ := Day.fits_spec hf
  obtain ⟨b1, b2, b3, b4⟩ := win_bd hf
  have hc1 := Cal.cum_bd 2001 r.month m1 m2
  have hlp := Cal.lp_01 2001
  have hlen := Cal.len_bd 2001 r.month m1 m2
  have c1 : 0 ≤ Cal.cum 2001 r.month := by omega
  have c2 : Cal.cum 2001 r.month ≤ 366 := by omega
  have Hf := Lib.hid hf
  clear hf hc1 hlp hlen
  unfold RuleV.cells wLow wHigh
  go_enter Tryz.func132, Tryz.ntmps132
  go_wp2_with (first
    | (go_at_call 194;refine (YearDay _ m1 m2 _).mono ?_;rintro e w1 ⟨rfl, hb1⟩;obtain ⟨hc1, hf1⟩ := bcell hb1;have hz1 : w.heap.size + 1 < w1.heap.size := sz2 hb1;have hy1 : w.heap.size < w1.heap.size := by omega)
    | (go_at_call 195;refine (Day.Window _ _ _ _ _).mono ?_;rw [Hf.out, if_pos rfl];rintro e w2 ⟨rfl, hb2⟩;obtain ⟨hc2, hf2⟩ := bcell hb2;have hz2 : w1.heap.size < w2.heap.size := sz1 hb2;have hy2 : w.heap.size + 1 < w2.heap.size := (by omega);have hx2 : w.heap.size < w2.heap.size := (by omega);have n2 : w2.cell? ⟨w1.heap.size, 0, none⟩ = some (.int .i64 (Cal.cum 2001 r.month + 1)) := (by go_simp);have s2 : w2.cell? ⟨w.heap.size, 7, none⟩ = some (.int .i64 r.sec) := (by go_simp))
    | (go_at_call 196;refine (of1 _ _ _ _ _ _ (by omega) (by omega) (by omega) (by omega) (by omega) (by omega) n2 s2).mono ?_;rintro e w3 ⟨rfl, rfl⟩))
  refine bodyPost_ret (v := .agg #[.int .i64 ((Cal.cum 2001 r.month + 1 + Day.winLow r.kind r.day r.month - 2) * 86400 + r.sec), .int .i64 ((Cal.cum 2001 r.month + 1 + Day.winHigh r.kind r.day r.month - 2) * 86400 + r.sec)]) ?_ rfl ⟨rfl, ?_⟩
  · simp only [results, Tryz.results132]
    go_simp
  · exact (((((((Below.refl _ _).alloc (Nat.le_refl _) _).alloc (by simp) _).trans (hb1.mono (by simp;omega))).alloc (by omega) _).trans (hb2.mono (by simp;omega))).setCell (by simp) _).setCell (by simp) _
end Apt
end Go.Proofs.YtcfmchpoclkpgaaGreatDoor
