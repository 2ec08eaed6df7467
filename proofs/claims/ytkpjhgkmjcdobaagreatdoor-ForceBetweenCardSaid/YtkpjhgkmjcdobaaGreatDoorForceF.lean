import Derived.Test.YtkpjhgkmjcdobaaGreatDoorForceV
import Derived.Test.YtkpjhgkmjcdobaaGreatDoorChain
/-
  force: what holds ahead of all occurrences, what holds at a second, an occurrence's instant.
-/
namespace Go.Proofs.YtkpjhgkmjcdobaaGreatDoor
open Go.RowKit NB Nxt
namespace Frc
theorem find_hit {α : Type} {p : α → Bool} : ∀ {l : List α} {k : Nat} {x : α}, l[k]? = some x → p x = true → (∀ (j : Nat) (y : α), j < k → l[j]? = some y → p y = false) → l.find? p = some x
  | [], k, x, h, _, _ => by simp at h
  | a :: l, 0, x, h, hp, _ => by
    simp only [List.getElem?_cons_zero, Option.some.injEq] at h
    subst h
    rw [List.find?_cons_of_pos hp]
  | a :: l, k + 1, x, h, hp, hn => by
    rw [List.getElem?_cons_succ] at h
    rw [List.find?_cons_of_neg (by rw [hn 0 a (by omega) rfl]; decide)]
    exact find_hit h hp (fun j y hj hy => hn (j + 1) y (by omega) (by rw [List.getElem?_cons_succ]; exact hy))
theorem find_miss {α : Type} {p : α → Bool} {l : List α} (hn : ∀ (j : Nat) (y : α), l[j]? = some y → p y = false) : l.find? p = none := by
  rw [List.find?_eq_none]
  intro x hx
  obtain ⟨j, hj⟩ := List.mem_iff_getElem?.1 hx
  rw [hn j x hj]
  decide
def ahead (e : EraV) (r : RuleV) : Bool := decide (r.name = e.rules) && decide (r.save = 0)
theorem first_hit {l : List RuleV} {e : EraV} {k : Nat} {x : RuleV} (hx : l[k]? = some x) (hp : ahead e x = true) (hn : ∀ (j : Nat) (y : RuleV), j < k → l[j]? = some y → ahead e y = false) : firstV l e = valX e x := by
  unfold firstV
  rw [show l.find? (fun r => decide (r.name = e.rules) && decide (r.save = 0)) = some x from find_hit hx hp hn]
  unfold ahead at hp
  simp only [Bool.and_eq_true, decide_eq_true_eq] at hp
  unfold valX valO
  rw [if_pos hp.1, hp.2]
theorem first_miss {l : List RuleV} {e : EraV} (hn : ∀ (j : Nat) (y : RuleV), l[j]? = some y → ahead e y = false) : firstV l e = valR e 0 ⟨#[]⟩ := by
  unfold firstV
  rw [show l.find? (fun r => decide (r.name = e.rules) && decide (r.save = 0)) = none from find_miss hn]
set_option maxHeartbeats 3200000 in
set_option maxRecDepth 100000 in
theorem first {w : World} {b g : Nat} {l : List RuleV} {e : EraV} {r : Value} (hv : View w b l e r g) (he : e.Fit) (ht : Tab w) (hn : l.length ≤ 100000) :
    Calls Tryz.prog 67 #[.pointer (some ⟨b, 0, none⟩)] w fun x w' => x = .returned (.agg (firstV l e).cells.toArray) ∧ Below w.heap.size w w' := by
  obtain ⟨rp, rc, rfl⟩ := hv.rules.form
  have cval := fun W h h' => value e he.f (.slice rp l.length rc) g l.length b 0 ⟨#[]⟩ (by decide) W h h'
  obtain ⟨F, hF⟩ : ∃ F, F = firstV l e := ⟨_, rfl⟩
  rw [← hF]
  have HF := Lib.hid hF
  have HR := Lib.hid hv.rules
  have HV := Lib.hid hv.vals
  have lg := hv.lt
  have HT := Lib.hid ht
  have hb := hv.box
  clear hv ht hF
  obtain ⟨n, hnl⟩ : ∃ n, n = l.length := ⟨_, rfl⟩
  rw [← hnl] at hn hb cval HR
  have HN := Lib.hid hnl
  have Cval := Lib.hid cval
  clear hnl cval
  have HB := Lib.hid hb
  unfold viewC at hb
  have c0 := hb.cell
  have l0 := hb.lt
  clear hb
  go_enter Tryz.func67, Tryz.ntmps67
  go_upto_region 2 with fail
  have bR : Box (w.alloc (.cells #[.int .i64 0, .int .i64 0, .string ⟨#[]⟩] 58)) w.heap.size #[.int .i64 0, .int .i64 0, .string ⟨#[]⟩] 58 := Box.new w _ _
  have hbel : Below w.heap.size w (w.alloc (.cells #[.int .i64 0, .int .i64 0, .string ⟨#[]⟩] 58)) := by repeat (first | (with_reducible exact Below.refl _ _) | (with_reducible assumption) | (with_reducible refine ba ?_) | (with_reducible refine bd ?_) | (with_reducible refine bdn ?_ _) | (with_reducible refine bset ?_ (by first | exact Nat.le_refl _ | omega | (simp; done) | (simp; omega))) | (with_reducible refine bt ?_ (by with_reducible assumption)))
  generalize (w.alloc (.cells #[.int .i64 0, .int .i64 0, .string ⟨#[]⟩] 58)) = X at *
  clear c0
  go_loopw [10] (fun i wr => ∃ k : Nat, i = .int .i64 k ∧ k ≤ n ∧ (∀ (j : Nat) (y : RuleV), j < k → l[j]? = some y → ahead e y = false) ∧ Below w.heap.size w wr ∧ Box wr w.heap.size #[.int .i64 0, .int .i64 0, .string ⟨#[]⟩] 58) (fun i _ => n - (intOf i).toNat)
  case atStart => exact ⟨0, rfl, Nat.zero_le _, fun j y hj => absurd hj (Nat.not_lt_zero _), hbel, bR⟩
  case round =>
    clear hbel bR
    obtain ⟨k, rfl, hk, hno, hbel, bR⟩ := hrel
    have Hno := Lib.hid hno
    have HbW := Lib.hid hbel
    have HbR := Lib.hid bR
    have bV : Box wr b (viewC e (.slice rp n rc) g n) 126 := HB.out.later hbel
    have HbV := Lib.hid bV
    unfold viewC at bV
    have cV := bV.cell
    have lV := bV.lt
    have cR := bR.cell
    have lR := bR.lt
    have fR := bR.free
    clear hno hbel bR bV
    by_cases hlt : k < n
    · obtain ⟨x, hx⟩ : ∃ x, l[k]? = some x := ⟨l[k]'(by rw [← HN.out]; exact hlt), by simp⟩
      obtain ⟨rb, off, cap, hq, hb, hcl⟩ := hat HR.out hx
      simp only [Value.slice.injEq] at hq
      obtain ⟨rfl, -, rfl⟩ := hq
      have hd : ∀ (j : Nat) (u : Value), x.cells[j]? = some u → wr.cell? ⟨rb, off + k * 11 + j, none⟩ = some u := fun j u hu => (HbW.out.cell (p := ⟨rb, off + k * 11 + j, none⟩) hb).trans (hcl j u hu)
      have hbU : rb < wr.heap.size := Nat.lt_of_lt_of_le hb HbW.out.size
      have d0 := hd 0 _ rfl
      have d1 := hd 1 _ rfl
      have d2 := hd 2 _ rfl
      have d3 := hd 3 _ rfl
      have d4 := hd 4 _ rfl
      have d5 := hd 5 _ rfl
      have d6 := hd 6 _ rfl
      have d7 := hd 7 _ rfl
      have d8 := hd 8 _ rfl
      have d9 := hd 9 _ rfl
      have d10 := hd 10 _ rfl
      simp only [Nat.add_zero] at d0
      have hgU : g < wr.heap.size := Nat.lt_of_lt_of_le lg HbW.out.size
      have hvv : ∀ (j : Nat) (u : Value), (valX e x).cells[j]? = some u → wr.cell? ⟨g, k * 3 + j, none⟩ = some u := fun j u hu => (HbW.out.cell (p := ⟨g, k * 3 + j, none⟩) lg).trans (HV.out k x hx j u hu)
      obtain ⟨y, hy⟩ : ∃ y, y = valX e x := ⟨_, rfl⟩
      rw [← hy] at hvv
      have y0 := hvv 0 _ rfl
      have y1 := hvv 1 _ rfl
      have y2 := hvv 2 _ rfl
      simp only [Nat.add_zero] at y0
      have HY := Lib.hid hy
      have Hx := Lib.hid hx
      clear hd hcl hx hvv hy
      by_cases hp : ahead e x = true
      · have hr := Lib.hid (HF.out.trans ((first_hit Hx.out hp Hno.out).trans HY.out.symm))
        unfold ahead at hp
        simp only [Bool.and_eq_true, decide_eq_true_eq] at hp
        obtain ⟨hnm, hsv⟩ := hp
        have e1 := str_eq hnm
        clear hnm
        go_wp2
        go_quiet (fail)
        go_wp2
        have hbel := HbW.out
        refine bodyPost_ret (v := .agg #[.int .i64 y.off, .int .i64 y.save, .string y.abbr]) ?_ rfl ⟨by rw [hr.out]; rfl, ?_⟩
        · simp only [results, Tryz.results67]
          go_simp
        · repeat (first | (with_reducible exact Below.refl _ _) | (with_reducible assumption) | (with_reducible refine ba ?_) | (with_reducible refine bd ?_) | (with_reducible refine bdn ?_ _) | (with_reducible refine bset ?_ (by first | exact Nat.le_refl _ | omega | (simp; done) | (simp; omega))) | (with_reducible refine bt ?_ (by with_reducible assumption)))
      · have hno' : ∀ (j : Nat) (z : RuleV), j < k + 1 → l[j]? = some z → ahead e z = false := by
          intro j z hj hz
          rcases (by omega : j < k ∨ j = k) with h | rfl
          · exact Hno.out j z h hz
          · rw [Hx.out] at hz
            cases hz
            simpa using hp
        have Hno2 := Lib.hid hno'
        clear hno'
        by_cases hnm : x.name = e.rules
        · have hsv : ¬ x.save = 0 := fun h => hp (by unfold ahead; simp [hnm, h])
          have e1 := str_eq hnm
          clear hnm hp
          go_wp2
          go_quiet (fail)
          go_wp2
          have hbel := HbW.out
          have bR := HbR.out
          go_roundw
          case rel => exact ⟨k + 1, by go_num, hlt, Hno2.out, by repeat (first | (with_reducible exact Below.refl _ _) | (with_reducible assumption) | (with_reducible refine ba ?_) | (with_reducible refine bd ?_) | (with_reducible refine bdn ?_ _) | (with_reducible refine bset ?_ (by first | exact Nat.le_refl _ | omega | (simp; done) | (simp; omega))) | (with_reducible refine bt ?_ (by with_reducible assumption))), by repeat (first | (with_reducible assumption) | (with_reducible exact Box.new _ _ _) | (with_reducible refine Box.old ?_) | (with_reducible refine Box.drew ?_) | (with_reducible refine Box.drewN ?_ _) | (with_reducible refine Box.other ?_ (by first | assumption | omega | (simp; omega))) | (with_reducible refine Box.later ?_ (by with_reducible assumption)))⟩
          case measure => simp [intOf]; omega
        · have e1 := str_ne hnm
          clear hnm hp
          go_wp2
          go_quiet (fail)
          go_wp2
          have hbel := HbW.out
          have bR := HbR.out
          go_roundw
          case rel => exact ⟨k + 1, by go_num, hlt, Hno2.out, by repeat (first | (with_reducible exact Below.refl _ _) | (with_reducible assumption) | (with_reducible refine ba ?_) | (with_reducible refine bd ?_) | (with_reducible refine bdn ?_ _) | (with_reducible refine bset ?_ (by first | exact Nat.le_refl _ | omega | (simp; done) | (simp; omega))) | (with_reducible refine bt ?_ (by with_reducible assumption))), by repeat (first | (with_reducible assumption) | (with_reducible exact Box.new _ _ _) | (with_reducible refine Box.old ?_) | (with_reducible refine Box.drew ?_) | (with_reducible refine Box.drewN ?_ _) | (with_reducible refine Box.other ?_ (by first | assumption | omega | (simp; omega))) | (with_reducible refine Box.later ?_ (by with_reducible assumption)))⟩
          case measure => simp [intOf]; omega
    · have hr := Lib.hid (HF.out.trans (first_miss fun j z hz => Hno.out j z (by have := (List.getElem?_eq_some_iff.1 hz).1; rw [← HN.out] at this; omega) hz))
      obtain ⟨y, hy⟩ : ∃ y, y = valR e 0 ⟨#[]⟩ := ⟨_, rfl⟩
      have cval : ∀ W, Box W b (viewC e (.slice rp n rc) g n) 126 → Tab W → Calls Tryz.prog 98 #[.pointer (some ⟨b, 0, none⟩), .int .i64 0, .string ⟨#[]⟩] W fun z w' => z = .returned (.agg #[.int .i64 y.off, .int .i64 y.save, .string y.abbr]) ∧ Below W.heap.size W w' := fun W h h' => by rw [hy]; exact Cval.out W h h'
      rw [← hy] at hr
      have Cv := Lib.hid cval
      clear cval hy cV
      go_wp2_with (go_at_call 98; (with_reducible refine (Cv.out _ ?_ ?_).mono ?_); (· have bV := HbV.out; repeat (first | (with_reducible assumption) | (with_reducible exact Box.new _ _ _) | (with_reducible refine Box.old ?_) | (with_reducible refine Box.drew ?_) | (with_reducible refine Box.drewN ?_ _) | (with_reducible refine Box.other ?_ (by first | assumption | omega | (simp; omega))) | (with_reducible refine Box.later ?_ (by with_reducible assumption)))); (· exact HT.out.later (bt HbW.out (by repeat (first | (with_reducible exact Below.refl _ _) | (with_reducible assumption) | (with_reducible refine ba ?_) | (with_reducible refine bd ?_) | (with_reducible refine bdn ?_ _) | (with_reducible refine bset ?_ (by first | exact Nat.le_refl _ | omega | (simp; done) | (simp; omega))) | (with_reducible refine bt ?_ (by with_reducible assumption)))))); rintro e2 w2 ⟨rfl, hb2⟩; obtain ⟨hc2, hf2⟩ := bcell hb2; have hc2_0 := fun o => hc2 (w.heap.size) o (by first | assumption | omega | (simp; done) | (simp; omega)); have hf2_0 := fun o => hf2 (w.heap.size) o (by first | assumption | omega | (simp; done) | (simp; omega)); clear hc2 hf2; have hz2_0 : w.heap.size < w2.heap.size := (by first | exact sz1 hb2 | exact sz2 hb2 | exact sz3 hb2 | (have := hb2.size; (try simp only [World.size_alloc, World.size_drew] at this); omega)))
      have hbel := HbW.out
      refine bodyPost_ret (v := .agg #[.int .i64 y.off, .int .i64 y.save, .string y.abbr]) ?_ rfl ⟨by rw [hr.out]; rfl, ?_⟩
      · simp only [results, Tryz.results67]
        go_simp
      · repeat (first | (with_reducible exact Below.refl _ _) | (with_reducible assumption) | (with_reducible refine ba ?_) | (with_reducible refine bd ?_) | (with_reducible refine bdn ?_ _) | (with_reducible refine bset ?_ (by first | exact Nat.le_refl _ | omega | (simp; done) | (simp; omega))) | (with_reducible refine bt ?_ (by with_reducible assumption)))
end Frc
end Go.Proofs.YtkpjhgkmjcdobaaGreatDoor
