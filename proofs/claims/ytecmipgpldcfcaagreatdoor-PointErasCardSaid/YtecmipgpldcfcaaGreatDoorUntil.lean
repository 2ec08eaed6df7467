import Derived.Test.YtecmipgpldcfcaaGreatDoorG4
import Derived.Test.YtecmipgpldcfcaaGreatDoorChain
namespace Go.Proofs.YtecmipgpldcfcaaGreatDoor
open Go.RowKit NB Nxt
namespace Unt
def nomV (u : UntilV) : Int := Day.dayI u.kind u.week u.day u.year u.month * 86400 + u.sec
def nomU (u : UntilV) : Int × Int := if u.has then (if Er.endB u then (nomV u, 0) else (0, 4)) else (0, 12)
theorem end_spec {u : UntilV} (hh : u.has = true) (h : Er.endB u = true) : (-32767 < u.year ∧ u.year < 32767) ∧ Day.fits u.kind u.week u.day u.month = true ∧ (0 ≤ u.sec ∧ u.sec ≤ 172800) ∧ (0 ≤ u.base ∧ u.base ≤ 2) ∧ -2000000000000 ≤ nomV u ∧ nomV u ≤ 2000000000000 := by
  unfold Er.endB Er.yearB Rul.clockRight at h
  rw [if_pos hh] at h
  simp only [Bool.and_eq_true, decide_eq_true_eq] at h
  obtain ⟨⟨⟨h1, h2⟩, h3⟩, h4⟩ := h
  have hb := Nom.day_bd h3 (y := u.year) (by omega) (by omega)
  have hs : (0 ≤ u.sec ∧ u.sec ≤ 172800) ∧ (0 ≤ u.base ∧ u.base ≤ 2) := by omega
  unfold nomV
  exact ⟨⟨h1, h2⟩, h3, hs.1, hs.2, by omega, by omega⟩
def savedE (l : List RuleV) (e : EraV) (n : Int) : Int := if e.kind = 2 then Chn.saved l e.rules ⟨-1, 0, n⟩ else e.save
def instU (l : List RuleV) (e : EraV) : Int × Int := if Er.rightB e then (if e.u.has then (nomV e.u - Chn.shift e.off e.u.base (savedE l e (nomV e.u)), 0) else (0, 12)) else (0, 4)
theorem right_spec {e : EraV} (h : Er.rightB e = true) : (-54000 ≤ e.off ∧ e.off ≤ 54000) ∧ Er.endB e.u = true ∧ (-10800 ≤ e.save ∧ e.save ≤ 10800) ∧ (0 ≤ e.kind ∧ e.kind ≤ 2) := by
  unfold Er.rightB at h
  split at h
  · rename_i h1
    obtain ⟨h1, h2, h3⟩ := h1
    simp only [Bool.and_eq_true, decide_eq_true_eq] at h1
    refine ⟨h1, h3, ?_⟩
    split at h
    · rename_i hk
      simp only [Bool.and_eq_true, decide_eq_true_eq] at h
      omega
    · split at h
      · rename_i hk
        simp only [Bool.and_eq_true, decide_eq_true_eq] at h
        omega
      · split at h
        · rename_i hk
          simp only [Bool.and_eq_true, decide_eq_true_eq] at h
          omega
        · cases h
  · cases h
theorem saved_bd {l : List RuleV} {e : EraV} (h : Er.rightB e = true) (n : Int) : -10800 ≤ savedE l e n ∧ savedE l e n ≤ 10800 := by
  unfold savedE
  split
  · exact Chn.saved_bd _ _ _
  · exact (right_spec h).2.2.1
def exU (u : UntilV) : EraV := ⟨0, 0, 0, ⟨#[]⟩, ⟨#[88]⟩, u⟩
theorem fit_ex {u : UntilV} (hu : u.Fit) : (exU u).Fit := ⟨by show (⟨#[]⟩ : ByteArray).size ≤ _;decide, by show (⟨#[88]⟩ : ByteArray).size ≤ _;decide, by show I64 0;unfold I64;decide, by show I64 0;unfold I64;decide, hu.year, hu.sec⟩
theorem checkX : Fmt.checkE ⟨#[88]⟩ = 0 := by decide +kernel
theorem right_ex (u : UntilV) : Er.rightB (exU u) = Er.endB u := by
  unfold Er.rightB exU
  simp only [checkX]
  cases Er.endB u <;> simp
set_option maxHeartbeats 1600000 in
theorem Nom (u : UntilV) (hu : u.Fit) (w : World) (ht : Tab w) : Calls Tryz.prog 55 #[.agg u.cells.toArray] w fun x w' => x = .returned (.tuple #[.int .i64 (nomU u).1, .int .i64 (nomU u).2]) ∧ Below w.heap.size w w' := by
  have cr := fun W h => Er.Right (exU u) (fit_ex hu) W h
  rw [right_ex] at cr
  have cd := fun W => Day.Days u.kind u.week u.day u.year u.month W
  unfold nomU UntilV.cells
  unfold exU EraV.cells at cr
  simp only at cr
  cases hh : u.has
  · rw [if_neg (by decide)]
    clear cr cd ht hh
    go_enter Tryz.func55, Tryz.ntmps55
    go_wp2
    go_ret2
    exact ⟨rfl, bcq⟩
  rw [hh] at cr
  rw [if_pos rfl]
  have HT := Lib.hid ht
  clear ht
  cases he : Er.endB u
  · rw [if_neg (by decide)]
    rw [he] at cr
    have Cr := Lib.hid cr
    clear cr cd hh he
    go_enter Tryz.func55, Tryz.ntmps55
    go_wp2_with (go_at_call 26;(with_reducible refine (Cr.out _ ?_).mono ?_);(· exact HT.out.later bcq);rintro e w1 ⟨rfl, hb1⟩;obtain ⟨hc1_0, hf1_0, hz1_0⟩ := bcs hb1 (w.heap.size))
    go_ret2
    exact ⟨rfl, bcq⟩
  · rw [if_pos rfl]
    obtain ⟨s1, s2, s3, s4, s5, s6⟩ := end_spec hh he
    rw [he] at cr
    rw [s2, if_pos rfl, if_pos (by omega)] at cd
    unfold nomV at *
    generalize Day.dayI u.kind u.week u.day u.year u.month = d at *
    have Cr := Lib.hid cr
    have Cd := Lib.hid cd
    clear cr cd hh he s2
    go_enter Tryz.func55, Tryz.ntmps55
    go_wp2_with (first
      | (go_at_call 26;(with_reducible refine (Cr.out _ ?_).mono ?_);(· exact HT.out.later bcq);rintro e w1 ⟨rfl, hb1⟩;obtain ⟨hc1_0, hf1_0, hz1_0⟩ := bcs hb1 (w.heap.size))
      | (go_at_call 88;(with_reducible refine (Cd.out _).mono ?_);rintro e w2 ⟨rfl, hb2⟩;obtain ⟨hc2_0, hf2_0, hz2_0⟩ := bcs hb2 (w.heap.size)))
    go_ret2
    exact ⟨rfl, bcq⟩
set_option maxRecDepth 100000 in
set_option maxHeartbeats 3200000 in
theorem Instant {w : World} {v : Value} {l : List RuleV} (h : Holds w v l) (e : EraV) (he : e.Fit) (ht : Tab w) : Calls Tryz.prog 27 #[v, .agg e.cells.toArray] w fun x w' => x = .returned (.tuple #[.int .i64 (instU l e).1, .int .i64 (instU l e).2]) ∧ Below w.heap.size w w' := by
  have cr := fun W h => Er.Right e he W h
  have cn := fun W h => Nom e.u he.u W h
  have ck := fun W (h : Holds W v l) => ChW.Clock h e.rules e.off (nomV e.u) e.u.base
  unfold instU
  cases hR : Er.rightB e
  · rw [hR] at cr
    rw [if_neg (by decide)]
    unfold EraV.cells at *
    have Cr := Lib.hid cr
    have HT := Lib.hid ht
    obtain ⟨q, cap, rfl⟩ := h.form
    clear cr cn ck ht h hR
    generalize l.length = n at *
    go_enter Tryz.func27, Tryz.ntmps27
    go_wp2_with (go_at_call 26;(with_reducible refine (Cr.out _ ?_).mono ?_);(· exact HT.out.later bcq);rintro e w1 ⟨rfl, hb1⟩;obtain ⟨hc1_0, hf1_0, hz1_0⟩ := bcs hb1 (w.heap.size))
    go_ret2
    exact ⟨rfl, bcq⟩
  obtain ⟨r1, r2, r3, r4⟩ := right_spec hR
  have sb := saved_bd (l := l) hR (nomV e.u)
  rw [hR] at cr
  rw [if_pos rfl]
  unfold nomU at cn
  obtain ⟨q, cap, rfl⟩ := h.form
  obtain ⟨off, kind, save, rules, format, u⟩ := e
  simp only at *
  unfold EraV.cells at *
  unfold UntilV.cells at *
  simp only at *
  cases hh : u.has
  · rw [hh] at cr cn
    rw [if_neg (by decide)] at cn ⊢
    have Cr := Lib.hid cr
    have Cn := Lib.hid cn
    have HT := Lib.hid ht
    clear cr cn ck ht h hR he
    generalize l.length = n at *
    go_enter Tryz.func27, Tryz.ntmps27
    go_wp2_with (first
      | (go_at_call 26;(with_reducible refine (Cr.out _ ?_).mono ?_);(· exact HT.out.later bcq);rintro e w1 ⟨rfl, hb1⟩;obtain ⟨hc1_0, hf1_0, hz1_0⟩ := bcs hb1 (w.heap.size))
      | (go_at_call 55;(with_reducible refine (Cn.out _ ?_).mono ?_);(· exact HT.out.later bcq);rintro e w2 ⟨rfl, hb2⟩;obtain ⟨hc2_0, hf2_0, hz2_0⟩ := bcs hb2 (w.heap.size)))
    go_ret2
    exact ⟨rfl, bcq⟩
  obtain ⟨s1, s2, s3, s4, s5, s6⟩ := end_spec hh r2
  rw [hh] at cr cn
  rw [if_pos rfl, if_pos r2] at cn
  rw [if_pos rfl]
  have hck : kind = 2 → Chn.clockE l rules off (nomV u) u.base = (nomV u - Chn.shift off u.base (Chn.saved l rules ⟨-1, 0, nomV u⟩), 0) := by
    intro _
    unfold Chn.clockE
    rw [if_neg (by rw [Chn.may_iff.2 r1];simp;omega), if_neg (by omega)]
  unfold savedE at *
  simp only at *
  generalize nomV u = n at *
  by_cases hk : kind = 2
  · subst hk
    rw [hck rfl] at ck
    rw [if_pos rfl] at sb ⊢
    generalize Chn.shift off u.base (Chn.saved l rules ⟨-1, 0, n⟩) = s at *
    simp only at ck
    have HH := Lib.hid h
    have Cr := Lib.hid cr
    have Cn := Lib.hid cn
    have Ck := Lib.hid ck
    have HT := Lib.hid ht
    clear cr cn ck ht h hR he hck r2 s2 hh
    generalize l.length = m at *
    go_enter Tryz.func27, Tryz.ntmps27
    go_wp2_with (first
      | (go_at_call 26;(with_reducible refine (Cr.out _ ?_).mono ?_);(· exact HT.out.later bcq);rintro e w1 ⟨rfl, hb1⟩;obtain ⟨hc1_0, hf1_0, hz1_0⟩ := bcs hb1 (w.heap.size))
      | (go_at_call 55;(with_reducible refine (Cn.out _ ?_).mono ?_);(· exact HT.out.later bcq);rintro e w2 ⟨rfl, hb2⟩;obtain ⟨hc2_0, hf2_0, hz2_0⟩ := bcs hb2 (w.heap.size))
      | (go_at_call 56;(with_reducible refine (Ck.out _ ?_).mono ?_);(· exact HH.out.later bcq);rintro e w3 ⟨rfl, hb3⟩;obtain ⟨hc3_0, hf3_0, hz3_0⟩ := bcs hb3 (w.heap.size)))
    go_ret2
    exact ⟨rfl, bcq⟩
  · rw [if_neg hk] at sb ⊢
    unfold Chn.shift
    have Cr := Lib.hid cr
    have Cn := Lib.hid cn
    have HT := Lib.hid ht
    clear cr cn ck ht h hR he hck r2 s2 hh
    generalize l.length = m at *
    have hb : u.base = 0 ∨ u.base = 1 ∨ u.base = 2 := by omega
    obtain ⟨has, year, month, uk, week, day, sec, base⟩ := u
    simp only at *
    rcases hb with rfl|rfl|rfl
    all_goals
      go_enter Tryz.func27, Tryz.ntmps27
      go_wp2_with (first
        | (go_at_call 26;(with_reducible refine (Cr.out _ ?_).mono ?_);(· exact HT.out.later bcq);rintro e w1 ⟨rfl, hb1⟩;obtain ⟨hc1_0, hf1_0, hz1_0⟩ := bcs hb1 (w.heap.size))
        | (go_at_call 55;(with_reducible refine (Cn.out _ ?_).mono ?_);(· exact HT.out.later bcq);rintro e w2 ⟨rfl, hb2⟩;obtain ⟨hc2_0, hf2_0, hz2_0⟩ := bcs hb2 (w.heap.size)))
      go_ret2
      exact ⟨ret_ii (by first|rfl|omega|(simp;done)|(simp;omega)) rfl, bcq⟩
end Unt
end Go.Proofs.YtecmipgpldcfcaaGreatDoor
