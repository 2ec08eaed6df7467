import Derived.Test.YtecmipgpldcfcaaGreatDoorCardB
import Derived.Test.YtecmipgpldcfcaaGreatDoorChain
import Derived.Test.YtecmipgpldcfcaaGreatDoorForceV
import Derived.Test.YtecmipgpldcfcaaGreatDoorG1
import Derived.Test.YtecmipgpldcfcaaGreatDoorG10
import Derived.Test.YtecmipgpldcfcaaGreatDoorG11
import Derived.Test.YtecmipgpldcfcaaGreatDoorG12
import Derived.Test.YtecmipgpldcfcaaGreatDoorG13
import Derived.Test.YtecmipgpldcfcaaGreatDoorG14
import Derived.Test.YtecmipgpldcfcaaGreatDoorG15
import Derived.Test.YtecmipgpldcfcaaGreatDoorG16
import Derived.Test.YtecmipgpldcfcaaGreatDoorG17
import Derived.Test.YtecmipgpldcfcaaGreatDoorG18
import Derived.Test.YtecmipgpldcfcaaGreatDoorG19
import Derived.Test.YtecmipgpldcfcaaGreatDoorG2
import Derived.Test.YtecmipgpldcfcaaGreatDoorG20
import Derived.Test.YtecmipgpldcfcaaGreatDoorG21
import Derived.Test.YtecmipgpldcfcaaGreatDoorG22
import Derived.Test.YtecmipgpldcfcaaGreatDoorG23
import Derived.Test.YtecmipgpldcfcaaGreatDoorG24
import Derived.Test.YtecmipgpldcfcaaGreatDoorG25
import Derived.Test.YtecmipgpldcfcaaGreatDoorG26
import Derived.Test.YtecmipgpldcfcaaGreatDoorG27
import Derived.Test.YtecmipgpldcfcaaGreatDoorG28
import Derived.Test.YtecmipgpldcfcaaGreatDoorG29
import Derived.Test.YtecmipgpldcfcaaGreatDoorG3
import Derived.Test.YtecmipgpldcfcaaGreatDoorG30
import Derived.Test.YtecmipgpldcfcaaGreatDoorG31
import Derived.Test.YtecmipgpldcfcaaGreatDoorG32
import Derived.Test.YtecmipgpldcfcaaGreatDoorG33
import Derived.Test.YtecmipgpldcfcaaGreatDoorG34
import Derived.Test.YtecmipgpldcfcaaGreatDoorG35
import Derived.Test.YtecmipgpldcfcaaGreatDoorG36
import Derived.Test.YtecmipgpldcfcaaGreatDoorG37
import Derived.Test.YtecmipgpldcfcaaGreatDoorG4
import Derived.Test.YtecmipgpldcfcaaGreatDoorG5
import Derived.Test.YtecmipgpldcfcaaGreatDoorG6
import Derived.Test.YtecmipgpldcfcaaGreatDoorG7
import Derived.Test.YtecmipgpldcfcaaGreatDoorG8
import Derived.Test.YtecmipgpldcfcaaGreatDoorG9
import Derived.Test.YtecmipgpldcfcaaGreatDoorOpenE
import Derived.Test.YtecmipgpldcfcaaGreatDoorOpenO
import Derived.Test.YtecmipgpldcfcaaGreatDoorRCkC
import Derived.Test.YtecmipgpldcfcaaGreatDoorRCkX
import Derived.Test.YtecmipgpldcfcaaGreatDoorRDay
import Derived.Test.YtecmipgpldcfcaaGreatDoorRNext
import Derived.Test.YtecmipgpldcfcaaGreatDoorRRule
import Derived.Test.YtecmipgpldcfcaaGreatDoorRUCheck
import Derived.Test.YtecmipgpldcfcaaGreatDoorRdz
import Derived.Test.YtecmipgpldcfcaaGreatDoorUntil
namespace Go.Proofs.YtecmipgpldcfcaaGreatDoor
open Go.RowKit
namespace Frc
theorem last_is {l : List RuleV} {e : EraV} (hm : Chn.may e.off = true) {t : Int} (h0 : -2000000000000 ≤ t) (h1 : t ≤ 2000000000000) : Last (SA l e) (IA l e) t (lastP l e t) := by
  have h := Chn.last_spec (l := l) (name := e.rules) (off := e.off) (t := t) hm
  have hcl : Chn.clampE t = t := by
    unfold Chn.clampE Occ.clampI
    rw [if_neg (by omega), if_neg (by omega)]
  rw [hcl] at h
  unfold lastP
  cases hp : Chn.lastO l e.rules e.off t with
  | none => rw [hp] at h;exact h
  | some o => rw [hp] at h;exact h
section
variable {l : List RuleV} {e : EraV} (hc : (Chk.check l).2 = 0) (hm : Chn.may e.off = true) (hn : e.rules ≠ ⟨#[]⟩) {t : Int} (h0 : -1999000000000 ≤ t) (h1 : t ≤ 1999000000000)
include hc hm hn h0 h1
end
end Frc
end Go.Proofs.YtecmipgpldcfcaaGreatDoor
namespace Go.Proofs.YtecmipgpldcfcaaGreatDoor
open Go.RowKit
namespace L33
open Frc
theorem at_right {l : List RuleV} {e : EraV} (h : Er.rightB e = true) (t : Int) : atV l e t = (AV l e t, 0) := by
  unfold AV atV
  rw [if_pos h]
  by_cases hk : e.kind = 2
  · rw [if_pos hk]
  · rw [if_neg hk]
theorem av_two {l : List RuleV} {e : EraV} (h : Er.rightB e = true) (hk : e.kind = 2) (t : Int) : AV l e t = stateV l e t := by
  unfold AV atV
  rw [if_pos h, if_pos hk]
section
variable {l : List RuleV} {e : EraV} (hc : (Chk.check l).2 = 0) (hR : Er.rightB e = true) {t : Int} (h0 : -1999000000000 ≤ t) (h1 : t ≤ 1999000000000)
include hc hR h0 h1
end
end L33
end Go.Proofs.YtecmipgpldcfcaaGreatDoor
namespace Go.Proofs.YtecmipgpldcfcaaGreatDoor
open Go.RowKit NB
namespace Pt
theorem idx_ahead : ∀ {L : List Int} {t : Int} {i : Nat} {s : Int}, i < idx L t → L[i]? = some s → s ≤ t
  | [], _, _, _, h, _ => absurd h (by simp [idx])
  | a :: r, t, i, s, h, hs => by
    rw [idx_cons] at h
    by_cases ha : t < a
    · rw [if_pos ha] at h;omega
    · rw [if_neg ha] at h
      cases i with
      | zero => simp only [List.getElem?_cons_zero, Option.some.injEq] at hs;omega
      | succ i => exact idx_ahead (L := r) (i := i) (by omega) (by simpa using hs)
theorem idx_here : ∀ {L : List Int} {t s : Int}, L[idx L t]? = some s → t < s
  | [], _, _, h => by simp at h
  | a :: r, t, s, h => by
    rw [idx_cons] at h
    by_cases ha : t < a
    · rw [if_pos ha] at h;simp only [List.getElem?_cons_zero, Option.some.injEq] at h;omega
    · rw [if_neg ha] at h;exact idx_here (L := r) (by simpa using h)
theorem end_range {l : List RuleV} {es : List EraV} (hz : Zn.zoneB es = true) {i : Nat} {t : Int} (ht : (Zn.endsL l es)[i]? = some t) : lo < t ∧ t ≤ hi := by
  obtain ⟨e, f, _, _, hR, _, rfl, _, _⟩ := Unt.end_at hz ht
  unfold Unt.instU lo hi
  rw [if_pos hR]
  cases hh : e.u.has
  · simp
  · have hs := Unt.right_spec hR
    obtain ⟨⟨y1, y2⟩, hf, ⟨s1, s2⟩, _, _, _⟩ := Unt.end_spec hh hs.2.1
    have hd := Occ.day_near hf (y := e.u.year)
    have hm := Day.fits_spec hf
    have hc := Cal.cum_bd e.u.year e.u.month hm.1 hm.2.1
    have hl := Cal.len_le e.u.year e.u.month
    have hp := Cal.lp_01 e.u.year
    have a1 := Cal.ahead_mono (a := -32766) (b := e.u.year) (by omega)
    have a2 := Cal.ahead_mono (a := e.u.year) (b := 32766) (by omega)
    rw [show Cal.ahead (-32766) = -12687063 by decide] at a1
    rw [show Cal.ahead 32766 = 11248008 by decide] at a2
    have hsv := Unt.saved_bd (l := l) hR (Unt.nomV e.u)
    have hsh : -64800 ≤ Chn.shift e.off e.u.base (Unt.savedE l e (Unt.nomV e.u)) ∧ Chn.shift e.off e.u.base (Unt.savedE l e (Unt.nomV e.u)) ≤ 64800 := by
      unfold Chn.shift
      split
      · omega
      · split <;> omega
    simp only [if_true]
    generalize Chn.shift e.off e.u.base (Unt.savedE l e (Unt.nomV e.u)) = S at *
    unfold Unt.nomV
    generalize Day.dayI e.u.kind e.u.week e.u.day e.u.year e.u.month = D at *
    unfold Cal.days at hd
    omega
theorem good_right {l : List RuleV} {es : List EraV} (h : GoodE l es) {i : Nat} {e : EraV} (he : es[i]? = some e) : Er.rightB e = true := by
  have hi := (List.getElem?_eq_some_iff.1 he).1
  have := (Zn.zone_iff.1 h.zone).2 i e hi he
  unfold Zn.okAt at this
  simp only [Bool.and_eq_true] at this
  exact this.1
theorem off_r {e : EraV} (h : Er.rightB e = true) {s : Int} (h0 : -10800 ≤ s) (h1 : s ≤ 10800) (x : ByteArray) : -64800 ≤ (Frc.valR e s x).off ∧ (Frc.valR e s x).off ≤ 64800 := by
  have := (Unt.right_spec h).1
  show -64800 ≤ wrap64 (e.off + s) ∧ wrap64 (e.off + s) ≤ 64800
  rw [show wrap64 (e.off + s) = e.off + s from by unfold wrap64;omega]
  omega
theorem off_bd {l : List RuleV} {e : EraV} (h : Er.rightB e = true) {s : Int} (h0 : lo ≤ s) (h1 : s ≤ hi) : -64800 ≤ (L33.AV l e s).off ∧ (L33.AV l e s).off ≤ 64800 := by
  unfold lo at h0
  unfold hi at h1
  by_cases hk : e.kind = 2
  · rw [L33.av_two h hk]
    have hm : Chn.may e.off = true := Chn.may_iff.2 (Unt.right_spec h).1
    have hl := Frc.last_is (l := l) hm (t := s) (by omega) (by omega)
    unfold Frc.stateV
    cases hp : Frc.lastP l e s with
    | none =>
      show -64800 ≤ (Frc.firstV l e).off ∧ (Frc.firstV l e).off ≤ 64800
      unfold Frc.firstV
      split <;> exact off_r h (by decide) (by decide) _
    | some o =>
      rw [hp] at hl
      obtain ⟨i, r, e1, _, hr, _, hR⟩ := Frc.rule_of hl.1
      show -64800 ≤ (Frc.valAt l e o.rule).off ∧ (Frc.valAt l e o.rule).off ≤ 64800
      rw [e1, Frc.val_rule hr]
      have := (Rul.right_spec hR).2.2.2
      exact off_r h this.1 this.2 _
  · unfold L33.AV Frc.atV
    rw [if_pos h, if_neg hk]
    exact off_r h (Unt.right_spec h).2.2.1.1 (Unt.right_spec h).2.2.1.2 _
theorem idx_mono {L : List Int} {s t : Int} (h : s ≤ t) : idx L s ≤ idx L t := by
  refine Nat.le_of_not_lt fun hn => ?_
  obtain ⟨x, hx⟩ : ∃ x, L[idx L t]? = some x := ⟨_, List.getElem?_eq_getElem (Nat.lt_of_lt_of_le hn (idx_le L s))⟩
  have := idx_here hx
  have := idx_ahead hn hx
  omega
theorem idx_end {L : List Int} (hs : L.Pairwise (· < ·)) {i : Nat} {x : Int} (hx : L[i]? = some x) : idx L (x - 1) = i ∧ idx L x = i + 1 := by
  have hi := (List.getElem?_eq_some_iff.1 hx).1
  have hp : ∀ a b s t, a < b → L[a]? = some s → L[b]? = some t → s < t := fun a b s t hab h1 h2 => by
    obtain ⟨ha, rfl⟩ := List.getElem?_eq_some_iff.1 h1
    obtain ⟨hb, rfl⟩ := List.getElem?_eq_some_iff.1 h2
    exact List.pairwise_iff_getElem.1 hs a b ha hb hab
  refine ⟨idx_of (by omega) (fun s h => ?_) (fun j s hj h => ?_), idx_of (by omega) (fun s h => ?_) (fun j s hj h => ?_)⟩
  · rw [hx] at h;cases h;omega
  · have := hp j i s x hj h hx;omega
  · exact hp i (i + 1) x s (by omega) hx h
  · by_cases hji : j = i
    · subst hji;rw [hx] at h;cases h;omega
    · have := hp j i s x (by omega) h hx;omega
end Pt
end Go.Proofs.YtecmipgpldcfcaaGreatDoor
namespace Go.Proofs.YtecmipgpldcfcaaGreatDoor
open Go.RowKit NB
namespace L34
open Pt
set_option maxRecDepth 100000 in
set_option maxHeartbeats 6400000 in
theorem eras {w : World} {t : TabV} (ht : HoldsT w t) (tb : Tab w) (zone s u : Int) (hs : I64 s) (hu : I64 u) :
    Calls Tryz.prog 4 #[.agg #[t.rv, t.zv, t.lv], .int .i64 zone, .int .i64 s, .int .i64 u] w fun e w' => e = .returned (.bool true) ∧ Below w.heap.size w w' := by
  have cf := fun W (h : HoldsT W t) => RdR.Fits h
  have cl := fun W (h : Tab W) => lives W h
  have HTT := Lib.hid ht
  have HTB := Lib.hid tb
  obtain ⟨p, cap, e1⟩ := ht.r.form
  obtain ⟨pz, capz, e3, hpz⟩ := ht.z.pk
  obtain ⟨pl, capl, e7⟩ := ht.l.form
  have hfz := ht.zf
  cases hfit : Ck.fitsT t
  · rw [hfit] at cf
    obtain ⟨rv, zv, lv, rs, zs, ls⟩ := t
    dsimp only at e1 e3 e7 cf HTT ⊢
    subst e1 e3 e7
    generalize rs.length = n at *
    generalize zs.length = nz at *
    generalize ls.length = nl at *
    have CF := Lib.hid cf;have CL := Lib.hid cl
    clear cf cl ht tb hfit hpz hfz
    go_enter Tryz.func4, Tryz.ntmps4
    go_wp2_with (first
      | (go_at_call 8;(with_reducible refine (CL.out _ ?_).mono ?_);(· exact HTB.out.later bcq);rintro e w1 ⟨rfl, hb1⟩;obtain ⟨hc1_0, hf1_0, hz1_0⟩ := bcs hb1 (w.heap.size))
      | (go_at_call 7;(with_reducible refine (CF.out _ ?_).mono ?_);(· exact HTT.out.later bcq);rintro e w2 ⟨rfl, hb2⟩;obtain ⟨hc2, hf2⟩ := bcell hb2))
    go_ret
    exact ⟨rfl, bcq⟩
  have ok := fits_ok hfit
  rw [hfit] at cf
  have c1 := fun W (h : HoldsT W t) (tb : Tab W) => Era h ok tb zone s hs
  have c2 := fun W (h : HoldsT W t) (tb : Tab W) => Era h ok tb zone u hu
  by_cases hgo : ∃ (k : Nat) (z : ZoneV), zone = (k : Int) ∧ zoneAt t zone = some z ∧ t.zs[k]? = some z ∧ (lo ≤ s ∧ s ≤ hi) ∧ (lo ≤ u ∧ u ≤ hi) ∧ s ≤ u
  case neg =>
    have hb : (eraV t zone s).2 ≠ 0 ∨ (eraV t zone u).2 ≠ 0 ∨ u < s := by
      by_cases hin : 0 ≤ zone ∧ zone < t.zs.length
      case neg =>
        have := (val_none s (zone_none (t := t) (zone := zone) (by omega))).2
        exact .inl (by rw [this];decide)
      obtain ⟨z, hzz, hz⟩ := zone_some (t := t) hin.1 hin.2
      by_cases h1 : s < lo ∨ hi < s
      · exact .inl (by rw [(val_out hzz h1).2];decide)
      by_cases h2 : u < lo ∨ hi < u
      · exact .inr (.inl (by rw [(val_out hzz h2).2];decide))
      refine .inr (.inr (Classical.byContradiction fun h3 => hgo ⟨zone.toNat, z, by omega, hzz, hz, by omega, by omega, by omega⟩))
    generalize eraV t zone s = E1 at *
    generalize eraV t zone u = E2 at *
    obtain ⟨i1, w1⟩ := E1
    obtain ⟨i2, w2⟩ := E2
    obtain ⟨rv, zv, lv, rs, zs, ls⟩ := t
    dsimp only at e1 e3 e7 cf c1 c2 hb HTT ⊢
    subst e1 e3 e7
    generalize rs.length = n at *
    generalize zs.length = nz at *
    generalize ls.length = nl at *
    have CF := Lib.hid cf;have CL := Lib.hid cl;have C1 := Lib.hid c1;have C2 := Lib.hid c2
    clear cf cl c1 c2 ht tb hfit hpz hfz ok hgo
    have hcs : (w1 != 0) = true ∨ ((w1 != 0) = false ∧ (w2 != 0) = true) ∨ ((w1 != 0) = false ∧ (w2 != 0) = false ∧ u < s) := by
      by_cases h1 : w1 = 0
      · by_cases h2 : w2 = 0
        · exact .inr (.inr ⟨by simp [h1], by simp [h2], by omega⟩)
        · exact .inr (.inl ⟨by simp [h1], by simpa using h2⟩)
      · exact .inl (by simpa using h1)
    clear hb
    rcases hcs with h1|⟨h1, h2⟩|⟨h1, h2, h3⟩
    all_goals
      go_enter Tryz.func4, Tryz.ntmps4
      go_wp2_with (first
        | (go_at_call 8;(with_reducible refine (CL.out _ ?_).mono ?_);(· exact HTB.out.later bcq);rintro e w1 ⟨rfl, hb1⟩;obtain ⟨hc1_0, hf1_0, hz1_0⟩ := bcs hb1 (w.heap.size))
        | (go_at_call 7;(with_reducible refine (CF.out _ ?_).mono ?_);(· exact HTT.out.later bcq);rintro e w2 ⟨rfl, hb2⟩;obtain ⟨hc2_0, hf2_0, hz2_0⟩ := bcs hb2 (w.heap.size))
        | (go_at_call 9;(with_reducible refine (C1.out _ ?_ ?_).mono ?_);(· exact HTT.out.later bcq);(· exact HTB.out.later bcq);rintro e w3 ⟨rfl, hb3⟩;obtain ⟨hc3_0, hf3_0, hz3_0⟩ := bcs hb3 (w.heap.size))
        | (go_at_call 9;(with_reducible refine (C2.out _ ?_ ?_).mono ?_);(· exact HTT.out.later bcq);(· exact HTB.out.later bcq);rintro e w4 ⟨rfl, hb4⟩;obtain ⟨hc4, hf4⟩ := bcell hb4))
      go_ret
      exact ⟨rfl, bcq⟩
  obtain ⟨k, z, rfl, hzz, hz, hsr, hur, hsu⟩ := hgo
  have hzm := (zone_mem hzz).2.2.2
  have hg := ok.good z hzm
  have hen := ok.en z hzm
  have hii := era_in hg s
  have hjj := era_in hg u
  have hij := idx_mono (L := Zn.endsL t.rs z.es) hsu
  have hlen := Unt.ends_len (l := t.rs) hg.zone
  obtain ⟨x, hx⟩ : ∃ x, z.es[idx (Zn.endsL t.rs z.es) s]? = some x := ⟨_, List.getElem?_eq_getElem hii⟩
  obtain ⟨y, hy⟩ : ∃ x, z.es[idx (Zn.endsL t.rs z.es) u]? = some x := ⟨_, List.getElem?_eq_getElem hjj⟩
  have hR := good_right hg hx
  have hvi := val_in hzz hsr.1 hsr.2 hx
  have hvu := val_in hzz hur.1 hur.2 hy
  rw [hvi.2] at c1
  rw [hvu.2] at c2
  have hxf : x.Fit := (hfz z hzm).e.fit x (List.mem_of_getElem? hx)
  have cv := fun (W : World) (h : HoldsT W t) (tb : Tab W) => ValueC h ok tb (k : Int) s hs
  rw [hvi.1, L33.at_right hR] at cv
  have ca := fun (W : World) (h : Holds W t.rv t.rs) (tb : Tab W) => Frc.At h x hxf s tb ok.lets (by have := ok.rn;omega)
  rw [L33.at_right hR] at ca
  have hoff := off_bd (l := t.rs) hR hsr.1 hsr.2
  have ce := fun (W : World) (h : HoldsT W t) (tb : Tab W) => ends_c h ok tb hzm
  have cn : ∀ (j : Nat) (e : Int), (Zn.endsL t.rs z.es)[j]? = some e → (I64 e ∧ -9000000000000000000 ≤ e ∧ e ≤ 9000000000000000000) ∧ (∀ W, HoldsT W t → Tab W → Calls Tryz.prog 9 #[.agg #[t.rv, t.zv, t.lv], .int .i64 (k : Int), .int .i64 (e - 1)] W fun z w' => z = .returned (.tuple #[.int .i64 (j : Int), .int .i64 0]) ∧ Below W.heap.size W w') ∧ (∀ W, HoldsT W t → Tab W → Calls Tryz.prog 9 #[.agg #[t.rv, t.zv, t.lv], .int .i64 (k : Int), .int .i64 e] W fun z w' => z = .returned (.tuple #[.int .i64 ((j : Int) + 1), .int .i64 0]) ∧ Below W.heap.size W w') := by
    intro j e he
    have hj := (List.getElem?_eq_some_iff.1 he).1
    obtain ⟨r1, r2⟩ := end_range hg.zone he
    have h64 : I64 e ∧ I64 (e - 1) ∧ (-9000000000000000000 ≤ e ∧ e ≤ 9000000000000000000) := by unfold I64;unfold lo at r1;unfold hi at r2;omega
    obtain ⟨i1, i2⟩ := idx_end hg.sort he
    obtain ⟨y1, hy1⟩ : ∃ x, z.es[idx (Zn.endsL t.rs z.es) (e - 1)]? = some x := ⟨_, List.getElem?_eq_getElem (by omega)⟩
    obtain ⟨y2, hy2⟩ : ∃ x, z.es[idx (Zn.endsL t.rs z.es) e]? = some x := ⟨_, List.getElem?_eq_getElem (by omega)⟩
    have v1 := (val_in hzz (s := e - 1) (by omega) (by omega) hy1).2
    have v2 := (val_in hzz (s := e) (by omega) (by omega) hy2).2
    rw [i1] at v1
    rw [i2] at v2
    refine ⟨⟨h64.1, h64.2.2⟩, fun W h tb => ?_, fun W h tb => ?_⟩
    · have := Era h ok tb (k : Int) (e - 1) h64.2.1
      rw [v1] at this
      exact this
    · have := Era h ok tb (k : Int) e h64.1
      rw [v2] at this
      exact this
  have a1 := fun q (h : (Zn.endsL t.rs z.es)[idx (Zn.endsL t.rs z.es) s]? = some q) => idx_here h
  have a2 := fun (h0 : 0 < idx (Zn.endsL t.rs z.es) s) q (h : (Zn.endsL t.rs z.es)[idx (Zn.endsL t.rs z.es) s - 1]? = some q) => idx_ahead (show idx (Zn.endsL t.rs z.es) s - 1 < idx (Zn.endsL t.rs z.es) s by omega) h
  have hil := idx_le (Zn.endsL t.rs z.es) s
  generalize L33.AV t.rs x s = A at *
  obtain ⟨ao, av, aa⟩ := A
  unfold ValV.cells EraV.cells at ca
  unfold ValV.cells at cv
  dsimp only at ca cv hoff
  clear hvi hvu hy hR y
  generalize idx (Zn.endsL t.rs z.es) s = I at *
  generalize idx (Zn.endsL t.rs z.es) u = J at *
  generalize Zn.endsL t.rs z.es = L at *
  obtain ⟨g1, o1, e4, hg1, d1⟩ := hpz k z hz
  have x0 := d1 0 _ rfl
  have x1 := d1 1 _ rfl
  rw [Nat.add_zero] at x0
  obtain ⟨g2, o2, cc, e5, hg2, d2⟩ := (hfz z hzm).e.at hx
  have y0 := d2 0 _ rfl
  have y1 := d2 1 _ rfl
  have y2 := d2 2 _ rfl
  have y3 := d2 3 _ rfl
  have y4 := d2 4 _ rfl
  have y5 := d2 5 _ rfl
  have y6 := d2 6 _ rfl
  have y7 := d2 7 _ rfl
  have y8 := d2 8 _ rfl
  have y9 := d2 9 _ rfl
  have y10 := d2 10 _ rfl
  have y11 := d2 11 _ rfl
  have y12 := d2 12 _ rfl
  rw [Nat.add_zero] at y0
  have hkz := (zone_mem hzz).2.1
  obtain ⟨rv, zv, lv, rs, zs, ls⟩ := t
  obtain ⟨nm, xv, es⟩ := z
  dsimp only at e1 e3 e4 e5 e7 cf c1 c2 cv ca ce cn x0 x1 hii hjj hlen hkz HTT ⊢
  subst e1 e3 e4 e5 e7
  obtain ⟨N, hN⟩ : ∃ N, N = L.length := ⟨_, rfl⟩
  rw [← hN] at hlen hil
  generalize es.length = m at *
  generalize rs.length = n at *
  generalize zs.length = nz at *
  generalize ls.length = nl at *
  have CF := Lib.hid cf;have CL := Lib.hid cl;have C1 := Lib.hid c1;have C2 := Lib.hid c2;have CV := Lib.hid cv;have CA := Lib.hid ca;have CE := Lib.hid ce;have CN := Lib.hid cn;have A1 := Lib.hid a1;have A2 := Lib.hid a2;have HHR := Lib.hid ht.r;have HN := Lib.hid hN;have HOFF := Lib.hid hoff
  clear cf cl c1 c2 cv ca ce cn a1 a2 ht tb hfit hpz hfz ok hzz hz hzm hg hx d1 d2 hN hoff hxf hsr hur
  have q1 : ¬ u < s := by omega
  have q3 : k < nz := by omega
  have q4 : ¬ (J : Int) < (I : Int) := by omega
  have q5 : ¬ (m : Int) ≤ (J : Int) := by omega
  clear hkz hsu
  go_enter Tryz.func4, Tryz.ntmps4
  go_upto_region 7 with (first
    | (go_at_call 8;(with_reducible refine (CL.out _ ?_).mono ?_);(· exact HTB.out.later bcq);rintro e w1 ⟨rfl, hb1⟩;obtain ⟨hc1_0, hf1_0, hz1_0⟩ := bcs hb1 (w.heap.size))
    | (go_at_call 7;(with_reducible refine (CF.out _ ?_).mono ?_);(· exact HTT.out.later bcq);rintro e w2 ⟨rfl, hb2⟩;obtain ⟨hc2_0, hf2_0, hz2_0⟩ := bcs hb2 (w.heap.size))
    | (go_at_call 9;(with_reducible refine (C1.out _ ?_ ?_).mono ?_);(· exact HTT.out.later bcq);(· exact HTB.out.later bcq);rintro e w3 ⟨rfl, hb3⟩;obtain ⟨hc3_0, hf3_0, hz3_0⟩ := bcs hb3 (w.heap.size))
    | (go_at_call 9;(with_reducible refine (C2.out _ ?_ ?_).mono ?_);(· exact HTT.out.later bcq);(· exact HTB.out.later bcq);rintro e w4 ⟨rfl, hb4⟩;obtain ⟨hc4_0, hf4_0, hz4_0⟩ := bcs hb4 (w.heap.size)))
  have hB4 : Below w.heap.size w w4 := bcq
  have bT4 := ((((Box.new w #[.slice p n cap, .slice (some ⟨g1, o1, none⟩) nz capz, .slice pl nl capl] 26).later hb1).later hb2).later hb3).later hb4
  clear hb1 hb2 hb3 hb4 hc1_0 hf1_0 hz1_0 hc2_0 hf2_0 hz2_0 hc3_0 hf3_0 hz3_0 hc4_0 hf4_0 hz4_0
  replace x0 := (hB4.cell (p := ⟨g1, o1 + k * 2, none⟩) hg1).trans x0
  replace x1 := (hB4.cell (p := ⟨g1, o1 + k * 2 + 1, none⟩) hg1).trans x1
  replace y0 := (hB4.cell (p := ⟨g2, o2 + I * 13, none⟩) hg2).trans y0
  replace y1 := (hB4.cell (p := ⟨g2, o2 + I * 13 + 1, none⟩) hg2).trans y1
  replace y2 := (hB4.cell (p := ⟨g2, o2 + I * 13 + 2, none⟩) hg2).trans y2
  replace y3 := (hB4.cell (p := ⟨g2, o2 + I * 13 + 3, none⟩) hg2).trans y3
  replace y4 := (hB4.cell (p := ⟨g2, o2 + I * 13 + 4, none⟩) hg2).trans y4
  replace y5 := (hB4.cell (p := ⟨g2, o2 + I * 13 + 5, none⟩) hg2).trans y5
  replace y6 := (hB4.cell (p := ⟨g2, o2 + I * 13 + 6, none⟩) hg2).trans y6
  replace y7 := (hB4.cell (p := ⟨g2, o2 + I * 13 + 7, none⟩) hg2).trans y7
  replace y8 := (hB4.cell (p := ⟨g2, o2 + I * 13 + 8, none⟩) hg2).trans y8
  replace y9 := (hB4.cell (p := ⟨g2, o2 + I * 13 + 9, none⟩) hg2).trans y9
  replace y10 := (hB4.cell (p := ⟨g2, o2 + I * 13 + 10, none⟩) hg2).trans y10
  replace y11 := (hB4.cell (p := ⟨g2, o2 + I * 13 + 11, none⟩) hg2).trans y11
  replace y12 := (hB4.cell (p := ⟨g2, o2 + I * 13 + 12, none⟩) hg2).trans y12
  replace hg2 : g2 < w4.heap.size := Nat.lt_of_lt_of_le hg2 hB4.size
  have c4 := bT4.cell
  have l4 := bT4.lt
  go_upto_region 10 with fail
  obtain ⟨w5, hw5⟩ : ∃ V, V = w4.alloc (.cells #[.string nm, .slice (some ⟨g2, o2, none⟩) m cc] 39) := ⟨_, rfl⟩
  have bZ5 : Box w5 w4.heap.size #[.string nm, .slice (some ⟨g2, o2, none⟩) m cc] 39 := by rw [hw5];exact Box.new _ _ _
  have hB45 : Below w4.heap.size w4 w5 := by rw [hw5];exact bcq
  rw [← hw5]
  clear hw5
  have hB5 := hB4.trans (hB45.mono hB4.size)
  have HT5 := Lib.hid (HTT.out.later hB5)
  have HTB5 := Lib.hid (HTB.out.later hB5)
  have HH5 := Lib.hid (HHR.out.later hB5)
  have HS := Lib.hid (fun (V : World) (h : Below w5.heap.size w5 V) => (⟨((bT4.later hB45).later h).cell, (bZ5.later h).cell, ((hB45.trans (h.mono hB45.size)).cell (p := ⟨g2, o2 + I * 13, none⟩) hg2).trans y0, ((hB45.trans (h.mono hB45.size)).cell (p := ⟨g2, o2 + I * 13 + 1, none⟩) hg2).trans y1, ((hB45.trans (h.mono hB45.size)).cell (p := ⟨g2, o2 + I * 13 + 2, none⟩) hg2).trans y2, ((hB45.trans (h.mono hB45.size)).cell (p := ⟨g2, o2 + I * 13 + 3, none⟩) hg2).trans y3, ((hB45.trans (h.mono hB45.size)).cell (p := ⟨g2, o2 + I * 13 + 4, none⟩) hg2).trans y4, ((hB45.trans (h.mono hB45.size)).cell (p := ⟨g2, o2 + I * 13 + 5, none⟩) hg2).trans y5, ((hB45.trans (h.mono hB45.size)).cell (p := ⟨g2, o2 + I * 13 + 6, none⟩) hg2).trans y6, ((hB45.trans (h.mono hB45.size)).cell (p := ⟨g2, o2 + I * 13 + 7, none⟩) hg2).trans y7, ((hB45.trans (h.mono hB45.size)).cell (p := ⟨g2, o2 + I * 13 + 8, none⟩) hg2).trans y8, ((hB45.trans (h.mono hB45.size)).cell (p := ⟨g2, o2 + I * 13 + 9, none⟩) hg2).trans y9, ((hB45.trans (h.mono hB45.size)).cell (p := ⟨g2, o2 + I * 13 + 10, none⟩) hg2).trans y10, ((hB45.trans (h.mono hB45.size)).cell (p := ⟨g2, o2 + I * 13 + 11, none⟩) hg2).trans y11, ((hB45.trans (h.mono hB45.size)).cell (p := ⟨g2, o2 + I * 13 + 12, none⟩) hg2).trans y12⟩ : (∀ j, V.cell? ⟨w.heap.size, j, none⟩ = (#[.slice p n cap, .slice (some ⟨g1, o1, none⟩) nz capz, .slice pl nl capl] : Array Value)[j]?) ∧ (∀ j, V.cell? ⟨w4.heap.size, j, none⟩ = (#[.string nm, .slice (some ⟨g2, o2, none⟩) m cc] : Array Value)[j]?) ∧ V.cell? ⟨g2, o2 + I * 13, none⟩ = some (.int .i64 x.off) ∧ V.cell? ⟨g2, o2 + I * 13 + 1, none⟩ = some (.int .i64 x.kind) ∧ V.cell? ⟨g2, o2 + I * 13 + 2, none⟩ = some (.int .i64 x.save) ∧ V.cell? ⟨g2, o2 + I * 13 + 3, none⟩ = some (.string x.rules) ∧ V.cell? ⟨g2, o2 + I * 13 + 4, none⟩ = some (.string x.format) ∧ V.cell? ⟨g2, o2 + I * 13 + 5, none⟩ = some (.bool x.u.has) ∧ V.cell? ⟨g2, o2 + I * 13 + 6, none⟩ = some (.int .i64 x.u.year) ∧ V.cell? ⟨g2, o2 + I * 13 + 7, none⟩ = some (.int .i64 x.u.month) ∧ V.cell? ⟨g2, o2 + I * 13 + 8, none⟩ = some (.int .i64 x.u.kind) ∧ V.cell? ⟨g2, o2 + I * 13 + 9, none⟩ = some (.int .i64 x.u.week) ∧ V.cell? ⟨g2, o2 + I * 13 + 10, none⟩ = some (.int .i64 x.u.day) ∧ V.cell? ⟨g2, o2 + I * 13 + 11, none⟩ = some (.int .i64 x.u.sec) ∧ V.cell? ⟨g2, o2 + I * 13 + 12, none⟩ = some (.int .i64 x.u.base)))
  have HB5 := Lib.hid hB5
  have m5 := bZ5.lt
  clear c4 x0 x1 y0 y1 y2 y3 y4 y5 y6 y7 y8 y9 y10 y11 y12 bT4 hB4 hB45 hB5 bZ5 HHR HTT HTB hg1 hg2
  obtain ⟨c5, z5, y0, y1, y2, y3, y4, y5, y6, y7, y8, y9, y10, y11, y12⟩ := HS.out w5 (Below.refl _ _)
  go_upto_region 12 with (first
    | (go_at_call 13;(with_reducible refine (CE.out _ ?_ ?_).mono ?_);(· exact HT5.out);(· exact HTB5.out);rintro e w6 ⟨v6, rfl, hl6, hb6⟩;obtain ⟨pe, cp, rfl, hpe⟩ := HoldsG.pkI hl6;rw [← HN.out];have HPE := Lib.hid hpe;clear hl6 hpe;obtain ⟨c6, z6, _⟩ := HS.out w6 hb6)
    | (go_at_call 11;(with_reducible refine (CV.out _ ?_ ?_).mono ?_);(· exact HT5.out.later bcq);(· exact HTB5.out.later bcq);rintro e w7 ⟨rfl, hb7⟩))
  obtain ⟨w8, hw8⟩ : ∃ V, V = w7.alloc (.cells #[.int .i64 ao, .int .i64 av, .string aa] 33) := ⟨_, rfl⟩
  have bV8 : Box w8 w7.heap.size #[.int .i64 ao, .int .i64 av, .string aa] 33 := by rw [hw8];exact Box.new _ _ _
  have hb78 : Below w7.heap.size w7 w8 := by rw [hw8];exact bcq
  rw [← hw8]
  clear hw8
  have hb68 : Below w6.heap.size w6 w8 := bcq
  have hb58 : Below w5.heap.size w5 w8 := bcq
  have s58 := hb58.size
  have HB68 := Lib.hid hb68
  clear c5 z5 c6 z6 y0 y1 y2 y3 y4 y5 y6 y7 y8 y9 y10 y11 y12 hb6 hb7 hb78 hb68
  obtain ⟨c8, z8, y0, y1, y2, y3, y4, y5, y6, y7, y8, y9, y10, y11, y12⟩ := HS.out w8 hb58
  have v8 := bV8.cell
  go_upto_region 14 with fail
  go_cut [18, 19] (fun s18 s19 wx => ∃ B, s18 = .pointer (some ⟨B, 0, none⟩) ∧ s19 = .int .i64 0 ∧ Box wx B #[.int .i64 ao, .int .i64 av, .string aa] 33 ∧ Below w8.heap.size w8 wx)
  case first =>
    clear v8
    go_region_held3 (fun w' => (∀ j, w'.cell? ⟨w.heap.size, j, none⟩ = (#[.slice p n cap, .slice (some ⟨g1, o1, none⟩) nz capz, .slice pl nl capl] : Array Value)[j]?) ∧ (∀ j, w'.cell? ⟨w4.heap.size, j, none⟩ = (#[.string nm, .slice (some ⟨g2, o2, none⟩) m cc] : Array Value)[j]?) ∧ w'.cell? ⟨g2, o2 + I * 13, none⟩ = some (.int .i64 x.off) ∧ w'.cell? ⟨g2, o2 + I * 13 + 1, none⟩ = some (.int .i64 x.kind) ∧ w'.cell? ⟨g2, o2 + I * 13 + 2, none⟩ = some (.int .i64 x.save) ∧ w'.cell? ⟨g2, o2 + I * 13 + 3, none⟩ = some (.string x.rules) ∧ w'.cell? ⟨g2, o2 + I * 13 + 4, none⟩ = some (.string x.format) ∧ w'.cell? ⟨g2, o2 + I * 13 + 5, none⟩ = some (.bool x.u.has) ∧ w'.cell? ⟨g2, o2 + I * 13 + 6, none⟩ = some (.int .i64 x.u.year) ∧ w'.cell? ⟨g2, o2 + I * 13 + 7, none⟩ = some (.int .i64 x.u.month) ∧ w'.cell? ⟨g2, o2 + I * 13 + 8, none⟩ = some (.int .i64 x.u.kind) ∧ w'.cell? ⟨g2, o2 + I * 13 + 9, none⟩ = some (.int .i64 x.u.week) ∧ w'.cell? ⟨g2, o2 + I * 13 + 10, none⟩ = some (.int .i64 x.u.day) ∧ w'.cell? ⟨g2, o2 + I * 13 + 11, none⟩ = some (.int .i64 x.u.sec) ∧ w'.cell? ⟨g2, o2 + I * 13 + 12, none⟩ = some (.int .i64 x.u.base)) ((first|(refine HS.out _ ?_;(repeat (first|(with_reducible exact Below.refl _ _)|(with_reducible assumption)|(with_reducible refine ba ?_)|(with_reducible refine bd ?_)|(with_reducible refine bdn ?_ _)|(with_reducible refine bset ?_ (by first|exact Nat.le_refl _|omega|(simp;done)|(simp;omega)))|(with_reducible refine bt ?_ (by with_reducible assumption))));done))) (first
      | (go_at_call 14;(with_reducible refine (CA.out _ ?_ ?_).mono ?_);(· exact HH5.out.later bcq);(· exact HTB5.out.later bcq);rintro e w9 ⟨rfl, hb9⟩;have s9 : w8.heap.size ≤ w9.heap.size := (by have := hb9.size;(try simp only [World.size_alloc, World.size_drew] at this);omega);obtain ⟨hcq9, hfq9⟩ := bcell hb9;(try have h9a := fun o => hcq9 (w8.heap.size) o szq);(try have h9b := fun o => hfq9 (w8.heap.size) o szq);clear hcq9 hfq9;(try have bq : Box w9 w8.heap.size #[.int .i64 0, .int .i64 0, .string ⟨#[]⟩] 33 := (by refine Box.later ?_ hb9;first|exact Box.new _ _ _|exact Box.drew (Box.new _ _ _)|exact Box.new w8.drew _ _))))
    all_goals
      go_wp2
      go_meet
      first
        | exact ⟨_, rfl, rfl, Box.new _ _ _, bcq⟩
        | exact ⟨_, rfl, rfl, bq.set3, bcq⟩
  case rest =>
    obtain ⟨B, rfl, rfl, bB, hb10⟩ := hcut
    have hbc : Below w5.heap.size w5 wc := bt hb58 hb10
    have vV := (bV8.later hb10).cell
    have vB := bB.cell
    have HB6c := Lib.hid (bt HB68.out hb10)
    obtain ⟨cc8, zc8, _⟩ := HS.out wc hbc
    clear c8 z8 v8 bV8 bB hb58 hb10 s58 HB68 y0 y1 y2 y3 y4 y5 y6 y7 y8 y9 y10 y11 y12
    have t1 : ¬ 64800 < ao := by have := HOFF.out;omega
    have t2 : ¬ ao < -64800 := by have := HOFF.out;omega
    go_upto_region 15 with fail
    go_cut [152] (fun s152 wx => s152 = .bool false ∧ wx = wc)
    case first =>
      by_cases hIN : I < N
      · obtain ⟨q, hq⟩ : ∃ q, L[I]? = some q := ⟨_, List.getElem?_eq_getElem (by rw [← HN.out];exact hIN)⟩
        have r1 := A1.out q hq
        obtain ⟨b, off, rfl, hb, c0⟩ := HPE.out I q hq
        replace c0 := (HB6c.out.cell (p := ⟨b, off + I, none⟩) hb).trans c0
        have hIN2 : (I : Int) < (N : Int) := by omega
        by_cases hI0 : 0 < I
        · obtain ⟨I', rfl⟩ : ∃ I', I = I' + 1 := ⟨I - 1, by omega⟩
          obtain ⟨q', hq'⟩ : ∃ q, L[I']? = some q := ⟨_, List.getElem?_eq_getElem (by rw [← HN.out];omega)⟩
          have r2 := A2.out (by omega) q' (by rw [Nat.add_sub_cancel];exact hq')
          obtain ⟨b', off', e, hb', c0'⟩ := HPE.out I' q' hq'
          cases e
          replace c0' := (HB6c.out.cell (p := ⟨b, off + I', none⟩) hb').trans c0'
          clear hq hq'
          go_wp2
          go_meet
          first|exact ⟨rfl, rfl⟩|exact ⟨by simp;omega, rfl⟩
        · obtain rfl : I = 0 := by omega
          rw [Nat.add_zero] at c0
          clear hq
          go_wp2
          go_meet
          first|exact ⟨rfl, rfl⟩|exact ⟨by simp;omega, rfl⟩
      · by_cases hI0 : 0 < I
        · obtain ⟨I', rfl⟩ : ∃ I', I = I' + 1 := ⟨I - 1, by omega⟩
          obtain ⟨q', hq'⟩ : ∃ q, L[I']? = some q := ⟨_, List.getElem?_eq_getElem (by rw [← HN.out];omega)⟩
          have r2 := A2.out (by omega) q' (by rw [Nat.add_sub_cancel];exact hq')
          obtain ⟨b, off, rfl, hb', c0'⟩ := HPE.out I' q' hq'
          replace c0' := (HB6c.out.cell (p := ⟨b, off + I', none⟩) hb').trans c0'
          clear hq'
          go_wp2
          go_meet
          first|exact ⟨rfl, rfl⟩|exact ⟨by simp;omega, rfl⟩
        · obtain rfl : I = 0 := by omega
          go_wp2
          go_meet
          first|exact ⟨rfl, rfl⟩|exact ⟨by simp;omega, rfl⟩
    case rest =>
      obtain ⟨rfl, hwx⟩ := hcut
      subst hwx
      go_upto_region 18 with fail
      go_loopw [155] (fun i wr => ∃ j : Nat, i = .int .i64 j ∧ j ≤ N ∧ Below wc.heap.size wc wr) (fun i _ => N - (intOf i).toNat)
      case atStart => exact ⟨0, rfl, Nat.zero_le _, Below.refl _ _⟩
      case round =>
        obtain ⟨j, rfl, hj, hbr⟩ := hrel
        by_cases hlt : j < N
        · obtain ⟨e, he⟩ : ∃ e, L[j]? = some e := ⟨_, List.getElem?_eq_getElem (by rw [← HN.out];exact hlt)⟩
          obtain ⟨⟨h64, hl1, hl2⟩, cn1, cn2⟩ := CN.out j e he
          obtain ⟨b, off, rfl, hb, c0⟩ := HPE.out j e he
          have c6 := HB6c.out
          replace c0 := ((bt c6 hbr).cell (p := ⟨b, off + j, none⟩) hb).trans c0
          have cT := (HS.out wr (bt hbc hbr)).1
          have hTr := Lib.hid (HT5.out.later (bt hbc hbr));have hBr := Lib.hid (HTB5.out.later (bt hbc hbr))
          have D1 := Lib.hid cn1;have D2 := Lib.hid cn2
          have hTl : w.heap.size < wr.heap.size := by have := (bt hbc hbr).size;omega
          have q9 : (j : Int) < (N : Int) := by omega
          clear he cn1 cn2 h64 c6
          go_wp2_with (first
            | (go_at_call 9;(with_reducible refine (D1.out _ ?_ ?_).mono ?_);(· exact hTr.out.later bcq);(· exact hBr.out.later bcq);rintro e w11 ⟨rfl, hb11⟩;obtain ⟨hc11_0, hf11_0, hz11_0⟩ := bcs hb11 (w.heap.size))
            | (go_at_call 9;(with_reducible refine (D2.out _ ?_ ?_).mono ?_);(· exact hTr.out.later bcq);(· exact hBr.out.later bcq);rintro e w12 ⟨rfl, hb12⟩;obtain ⟨hc12, hf12⟩ := bcell hb12))
          go_roundw
          case rel => exact ⟨j + 1, by go_num, by omega, bcq⟩
          case measure => simp [intOf];omega
        · obtain rfl : j = N := by omega
          go_wp2
          go_ret
          exact ⟨rfl, bt HB5.out (bt hbc hbr)⟩
theorem erasW (t : TabV) (zone s u : Int) (W : World) (h : HoldsT W t) (_ : I64 zone) (hs : I64 s) (hu : I64 u) (tb : Tab W) :
    Calls Tryz.prog 4 #[.agg t.cells.toArray, .int .i64 zone, .int .i64 s, .int .i64 u] W fun e w' => e = .returned (.bool true) ∧ Below W.heap.size W w' := eras h tb zone s u hs hu
end L34
end Go.Proofs.YtecmipgpldcfcaaGreatDoor
