import Derived.Test.YtkpjhgkmjcdobaaGreatDoorG13
import Derived.Test.YtkpjhgkmjcdobaaGreatDoorRFormat
import Derived.Test.YtkpjhgkmjcdobaaGreatDoorRAbbr
import Derived.Test.YtkpjhgkmjcdobaaGreatDoorForceN
import Derived.Test.YtkpjhgkmjcdobaaGreatDoorRChain
/-
  noontideref22: End and Right, as the program runs them.
-/
namespace Go.Proofs.YtkpjhgkmjcdobaaGreatDoor
open Go.RowKit NB Er
namespace REr
set_option maxHeartbeats 1600000 in
theorem End (u : UntilV) (w : World) : Calls Tryz.prog 40 #[.agg u.cells.toArray] w fun e w' => e = .returned (.bool (endB u)) ∧ Below w.heap.size w w' := by
  have cf := fun W => RDay.Fits u.kind u.week u.day u.month W
  have cc := fun W => RRule.ClockRight u.sec u.base W
  unfold endB UntilV.cells
  cases hh : u.has
  · rw [if_neg (by decide)]
    clear cf cc hh
    unfold noneB
    go_enter Tryz.func40, Tryz.ntmps40
    go_wp2
    all_goals
      go_ret
      exact ⟨ret_bool (by simp [*]), by repeat (first | (with_reducible exact Below.refl _ _) | (with_reducible assumption) | (with_reducible refine ba ?_) | (with_reducible refine bd ?_) | (with_reducible refine bdn ?_ _) | (with_reducible refine bset ?_ (by first | exact Nat.le_refl _ | omega | (simp; done) | (simp; omega))) | (with_reducible refine bt ?_ (by with_reducible assumption)))⟩
  · rw [if_pos rfl]
    unfold yearB
    generalize Day.fits u.kind u.week u.day u.month = g2 at *
    generalize Rul.clockRight u.sec u.base = g3 at *
    have Cf := Lib.hid cf
    have Cc := Lib.hid cc
    clear cf cc hh
    go_enter Tryz.func40, Tryz.ntmps40
    go_wp2_with (first
      | (go_at_call 82; (with_reducible refine (Cf.out _).mono ?_); rintro e w1 ⟨rfl, hb1⟩; obtain ⟨hc1, hf1⟩ := bcell hb1; have hc1_0 := fun o => hc1 (w.heap.size) o (by first | assumption | omega | (simp; done) | (simp; omega)); have hf1_0 := fun o => hf1 (w.heap.size) o (by first | assumption | omega | (simp; done) | (simp; omega)); clear hc1 hf1; have hz1_0 : w.heap.size < w1.heap.size := (by first | exact sz1 hb1 | exact sz2 hb1 | exact sz3 hb1 | (have := hb1.size; (try simp only [World.size_alloc, World.size_drew] at this); omega)))
      | (go_at_call 83; (with_reducible refine (Cc.out _).mono ?_); rintro e w2 ⟨rfl, hb2⟩; obtain ⟨hc2, hf2⟩ := bcell hb2; have hc2_0 := fun o => hc2 (w.heap.size) o (by first | assumption | omega | (simp; done) | (simp; omega)); have hf2_0 := fun o => hf2 (w.heap.size) o (by first | assumption | omega | (simp; done) | (simp; omega)); clear hc2 hf2; have hz2_0 : w.heap.size < w2.heap.size := (by first | exact sz1 hb2 | exact sz2 hb2 | exact sz3 hb2 | (have := hb2.size; (try simp only [World.size_alloc, World.size_drew] at this); omega))))
    all_goals
      go_ret
      exact ⟨ret_bool (by simp [*]; try (intros; omega)), by repeat (first | (with_reducible exact Below.refl _ _) | (with_reducible assumption) | (with_reducible refine ba ?_) | (with_reducible refine bd ?_) | (with_reducible refine bdn ?_ _) | (with_reducible refine bset ?_ (by first | exact Nat.le_refl _ | omega | (simp; done) | (simp; omega))) | (with_reducible refine bt ?_ (by with_reducible assumption)))⟩
set_option maxRecDepth 100000 in
set_option maxHeartbeats 6400000 in
theorem Right (e : EraV) (he : e.Fit) (w : World) : Calls Tryz.prog 43 #[.agg e.cells.toArray] w fun x w' => x = .returned (.bool (rightB e)) ∧ Below w.heap.size w w' := by
  have c3 := fun W => RFmt.Check e.format he.f W
  have c4 := fun W => End e.u W
  have c5 := fun W => RRule.Name e.rules he.r W
  obtain ⟨off, kind, save, rules, format, u⟩ := e
  simp only at c3 c4 c5
  have hoff : I64 off := he.off
  have hsave : I64 save := he.save
  unfold rightB EraV.cells
  unfold UntilV.cells at c4
  simp only
  generalize Fmt.checkE format = k1 at *
  generalize endB u = g3 at *
  generalize Nam.nameE rules = k2 at *
  obtain ⟨ne, hne⟩ : ∃ x, x = rules.toList.isEmpty := ⟨_, rfl⟩
  rw [← hne]
  have es : rules.toList.isEmpty = ne := hne.symm
  obtain ⟨g1, hg1⟩ : ∃ x, x = (decide (-54000 ≤ off) && decide (off ≤ 54000)) := ⟨_, rfl⟩
  obtain ⟨g2, hg2⟩ : ∃ x, x = (decide (-10800 ≤ save) && decide (save ≤ 10800)) := ⟨_, rfl⟩
  rw [← hg1, ← hg2]
  obtain ⟨pe, hpe⟩ : ∃ x : Bool, x = (if g1 = true ∧ k1 = 0 ∧ g3 = true then (if kind = 0 then decide (save = 0) && ne else if kind = 1 then g2 && ne else if kind = 2 then decide (save = 0) && decide (k2 = 0) else false) else false) := ⟨_, rfl⟩
  rw [← hpe]
  have Hpe := Lib.hid hpe
  have C3 := Lib.hid c3
  have C4 := Lib.hid c4
  have C5 := Lib.hid c5
  clear hpe c3 c4 c5 hne he
  have hk : kind = 0 ∨ kind = 1 ∨ kind = 2 ∨ (¬ kind = 0 ∧ ¬ kind = 1 ∧ ¬ kind = 2) := by omega
  have ho : off < -54000 ∨ 54000 < off ∨ (-54000 ≤ off ∧ off ≤ 54000) := by omega
  have hs : save < -10800 ∨ 10800 < save ∨ (-10800 ≤ save ∧ save ≤ 10800) := by omega
  rcases hk with rfl | rfl | rfl | ⟨k0, k1', k2'⟩ <;> rcases ho with ho | ho | ho <;> rcases hs with hs | hs | hs
  all_goals
    first
      | have eg1 : g1 = true := by rw [hg1]; simp; omega
      | have eg1 : g1 = false := by rw [hg1]; simp; omega
    first
      | have eg2 : g2 = true := by rw [hg2]; simp; omega
      | have eg2 : g2 = false := by rw [hg2]; simp; omega
    clear hg1 hg2
    go_enter Tryz.func43, Tryz.ntmps43
    go_wp2_with (first
      | (go_at_call 90; (with_reducible refine (C3.out _).mono ?_); rintro e w' ⟨rfl, rfl⟩)
      | (go_at_call 40; (with_reducible refine (C4.out _).mono ?_); rintro e w2 ⟨rfl, hb2⟩; obtain ⟨hc2, hf2⟩ := bcell hb2; have hc2_0 := fun o => hc2 (w.heap.size) o (by first | assumption | omega | (simp; done) | (simp; omega)); have hf2_0 := fun o => hf2 (w.heap.size) o (by first | assumption | omega | (simp; done) | (simp; omega)); clear hc2 hf2; have hz2_0 : w.heap.size < w2.heap.size := (by first | exact sz1 hb2 | exact sz2 hb2 | exact sz3 hb2 | (have := hb2.size; (try simp only [World.size_alloc, World.size_drew] at this); omega)))
      | (go_at_call 91; (with_reducible refine (C5.out _).mono ?_); rintro e w' ⟨rfl, rfl⟩))
  all_goals
    go_ret
    have hpe := Hpe.out
    simp only [*, if_true, if_false, true_and, false_and, and_false, Bool.false_eq_true, Int.reduceEq, eq_self, decide_true, decide_false, Bool.true_and, Bool.false_and] at hpe
    refine ⟨ret_bool ?_, by repeat (first | (with_reducible exact Below.refl _ _) | (with_reducible assumption) | (with_reducible refine ba ?_) | (with_reducible refine bd ?_) | (with_reducible refine bdn ?_ _) | (with_reducible refine bset ?_ (by first | exact Nat.le_refl _ | omega | (simp; done) | (simp; omega))) | (with_reducible refine bt ?_ (by with_reducible assumption)))⟩
    first
      | (rw [hpe]; done)
      | (rw [hpe]; first
        | rfl
        | (simp [*]; done)
        | (rw [Bool.eq_iff_iff]; simp [*]; done)
        | (rw [Bool.eq_iff_iff]; simp [*]; omega)
        | (cases g3
           · first
             | (exfalso; rename_i hx; exact absurd hx.2 (by decide))
             | rfl
             | (simp [*]; done)
           · first
             | rfl
             | (simp [*]; done)
             | (exfalso; simp only [Bool.not_true, Bool.false_eq_true, or_false] at *; omega)))
end REr
end Go.Proofs.YtkpjhgkmjcdobaaGreatDoor
/-
  What holds in an era: the document's way, as the program runs it.
-/
namespace Go.Proofs.YtkpjhgkmjcdobaaGreatDoor
open Go.RowKit NB Nxt
namespace RFrc
open Frc
set_option maxHeartbeats 1600000 in
theorem value (e : EraV) (he : e.format.size ≤ 9223372036854775807) (save : Int) (letter : ByteArray) (hl : letter.size ≤ 1000000) (w : World) :
    Calls Tryz.prog 57 #[.agg e.cells.toArray, .int .i64 save, .string letter] w fun x w' => x = .returned (.agg (valR e save letter).cells.toArray) ∧ Below w.heap.size w w' := by
  have ca := fun W => RFmt.Abbr e.format he (wrap64 (e.off + save)) save letter hl W
  unfold valR ValV.cells
  simp only
  generalize (Fmt.abbrF e.format (wrap64 (e.off + save)) save letter) = ab at *
  obtain ⟨ab1, ab2⟩ := ab
  simp only at ca ⊢
  unfold EraV.cells
  have Ca := Lib.hid ca
  clear ca
  go_enter Tryz.func57, Tryz.ntmps57
  go_wp2_with (go_at_call 100; (with_reducible refine (Ca.out _).mono ?_); rintro e w1 ⟨rfl, hb1⟩; obtain ⟨hc1, hf1⟩ := bcell hb1; have hc1_0 := fun o => hc1 (w.heap.size) o (by first | assumption | omega | (simp; done) | (simp; omega)); have hf1_0 := fun o => hf1 (w.heap.size) o (by first | assumption | omega | (simp; done) | (simp; omega)); have hc1_1 := fun o => hc1 (w.heap.size + 1) o (by first | assumption | omega | (simp; done) | (simp; omega)); have hf1_1 := fun o => hf1 (w.heap.size + 1) o (by first | assumption | omega | (simp; done) | (simp; omega)); clear hc1 hf1; have hz1_0 : w.heap.size < w1.heap.size := (by first | exact sz1 hb1 | exact sz2 hb1 | exact sz3 hb1 | (have := hb1.size; (try simp only [World.size_alloc] at this); omega)); have hz1_1 : w.heap.size + 1 < w1.heap.size := (by first | exact sz1 hb1 | exact sz2 hb1 | exact sz3 hb1 | (have := hb1.size; (try simp only [World.size_alloc, World.size_drew] at this); omega)))
  refine bodyPost_ret (v := .agg #[.int .i64 (wrap64 (e.off + save)), .int .i64 save, .string ab1]) ?_ rfl ⟨rfl, ?_⟩
  · simp only [results, Tryz.results57]
    go_simp
  · repeat (first | (with_reducible exact Below.refl _ _) | (with_reducible assumption) | (with_reducible refine ba ?_) | (with_reducible refine bd ?_) | (with_reducible refine bdn ?_ _) | (with_reducible refine bset ?_ (by first | exact Nat.le_refl _ | omega | (simp; done) | (simp; omega))) | (with_reducible refine bt ?_ (by with_reducible assumption)))
theorem firstR_hit {l : List RuleV} {e : EraV} {k : Nat} {x : RuleV} (hx : l[k]? = some x) (hp : Frc.ahead e x = true) (hn : ∀ (j : Nat) (y : RuleV), j < k → l[j]? = some y → Frc.ahead e y = false) : firstV l e = valR e 0 x.letter := by
  rw [first_hit hx hp hn]
  unfold Frc.ahead at hp
  simp only [Bool.and_eq_true, decide_eq_true_eq] at hp
  unfold valX valO
  rw [if_pos hp.1, hp.2]
set_option maxHeartbeats 3200000 in
set_option maxRecDepth 100000 in
theorem first {w : World} {r : Value} {l : List RuleV} (hr : Holds w r l) (e : EraV) (he : e.Fit) (hs : ∀ x ∈ l, x.letter.size ≤ 1000000) (hn : l.length ≤ 100000) :
    Calls Tryz.prog 59 #[r, .agg e.cells.toArray] w fun x w' => x = .returned (.agg (firstV l e).cells.toArray) ∧ Below w.heap.size w w' := by
  have cval := fun W (letter : ByteArray) hl => value e he.f 0 letter hl W
  obtain ⟨F, hF⟩ : ∃ F, F = firstV l e := ⟨_, rfl⟩
  rw [← hF]
  have HF := Lib.hid hF
  have HR := Lib.hid hr
  have Hs := Lib.hid hs
  obtain ⟨rp, rc, rfl⟩ := hr.form
  unfold EraV.cells ValV.cells at *
  have Cval := Lib.hid cval
  clear cval hr hF hs
  obtain ⟨n, hnl⟩ : ∃ n, n = l.length := ⟨_, rfl⟩
  rw [← hnl] at hn HR ⊢
  have HN := Lib.hid hnl
  clear hnl
  go_enter Tryz.func59, Tryz.ntmps59
  go_upto_region 2 with fail
  have bE : Box ((w.alloc (.cells #[.int .i64 e.off, .int .i64 e.kind, .int .i64 e.save, .string e.rules, .string e.format, .bool e.u.has, .int .i64 e.u.year, .int .i64 e.u.month, .int .i64 e.u.kind, .int .i64 e.u.week, .int .i64 e.u.day, .int .i64 e.u.sec, .int .i64 e.u.base] 30)).alloc (.cells #[.int .i64 0, .int .i64 0, .string ⟨#[]⟩] 58)) w.heap.size #[.int .i64 e.off, .int .i64 e.kind, .int .i64 e.save, .string e.rules, .string e.format, .bool e.u.has, .int .i64 e.u.year, .int .i64 e.u.month, .int .i64 e.u.kind, .int .i64 e.u.week, .int .i64 e.u.day, .int .i64 e.u.sec, .int .i64 e.u.base] 30 := Box.old (Box.new _ _ _)
  have bR : Box ((w.alloc (.cells #[.int .i64 e.off, .int .i64 e.kind, .int .i64 e.save, .string e.rules, .string e.format, .bool e.u.has, .int .i64 e.u.year, .int .i64 e.u.month, .int .i64 e.u.kind, .int .i64 e.u.week, .int .i64 e.u.day, .int .i64 e.u.sec, .int .i64 e.u.base] 30)).alloc (.cells #[.int .i64 0, .int .i64 0, .string ⟨#[]⟩] 58)) (w.heap.size + 1) #[.int .i64 0, .int .i64 0, .string ⟨#[]⟩] 58 := by
    have := Box.new (w.alloc (.cells #[.int .i64 e.off, .int .i64 e.kind, .int .i64 e.save, .string e.rules, .string e.format, .bool e.u.has, .int .i64 e.u.year, .int .i64 e.u.month, .int .i64 e.u.kind, .int .i64 e.u.week, .int .i64 e.u.day, .int .i64 e.u.sec, .int .i64 e.u.base] 30)) #[.int .i64 0, .int .i64 0, .string ⟨#[]⟩] 58
    rwa [World.size_alloc] at this
  have hbel : Below w.heap.size w ((w.alloc (.cells #[.int .i64 e.off, .int .i64 e.kind, .int .i64 e.save, .string e.rules, .string e.format, .bool e.u.has, .int .i64 e.u.year, .int .i64 e.u.month, .int .i64 e.u.kind, .int .i64 e.u.week, .int .i64 e.u.day, .int .i64 e.u.sec, .int .i64 e.u.base] 30)).alloc (.cells #[.int .i64 0, .int .i64 0, .string ⟨#[]⟩] 58)) := by repeat (first | (with_reducible exact Below.refl _ _) | (with_reducible assumption) | (with_reducible refine ba ?_) | (with_reducible refine bd ?_) | (with_reducible refine bdn ?_ _) | (with_reducible refine bset ?_ (by first | exact Nat.le_refl _ | omega | (simp; done) | (simp; omega))) | (with_reducible refine bt ?_ (by with_reducible assumption)))
  generalize ((w.alloc (.cells #[.int .i64 e.off, .int .i64 e.kind, .int .i64 e.save, .string e.rules, .string e.format, .bool e.u.has, .int .i64 e.u.year, .int .i64 e.u.month, .int .i64 e.u.kind, .int .i64 e.u.week, .int .i64 e.u.day, .int .i64 e.u.sec, .int .i64 e.u.base] 30)).alloc (.cells #[.int .i64 0, .int .i64 0, .string ⟨#[]⟩] 58)) = X at *
  go_loopw [9] (fun i wr => ∃ k : Nat, i = .int .i64 k ∧ k ≤ n ∧ (∀ (j : Nat) (y : RuleV), j < k → l[j]? = some y → Frc.ahead e y = false) ∧ Below w.heap.size w wr ∧ Box wr w.heap.size #[.int .i64 e.off, .int .i64 e.kind, .int .i64 e.save, .string e.rules, .string e.format, .bool e.u.has, .int .i64 e.u.year, .int .i64 e.u.month, .int .i64 e.u.kind, .int .i64 e.u.week, .int .i64 e.u.day, .int .i64 e.u.sec, .int .i64 e.u.base] 30 ∧ Box wr (w.heap.size + 1) #[.int .i64 0, .int .i64 0, .string ⟨#[]⟩] 58) (fun i _ => n - (intOf i).toNat)
  case atStart => exact ⟨0, rfl, Nat.zero_le _, fun j y hj => absurd hj (Nat.not_lt_zero _), hbel, bE, bR⟩
  case round =>
    clear hbel bR bE
    obtain ⟨k, rfl, hk, hno, hbel, bE, bR⟩ := hrel
    have Hno := Lib.hid hno
    have HbW := Lib.hid hbel
    have HbR := Lib.hid bR
    have HbE := Lib.hid bE
    have cR := bR.cell
    have lR := bR.lt
    have fR := bR.free
    have cE := bE.cell
    have lE := bE.lt
    clear hno hbel bR bE
    by_cases hlt : k < n
    · obtain ⟨x, hx⟩ : ∃ x, l[k]? = some x := ⟨l[k]'(by rw [← HN.out]; exact hlt), by simp⟩
      obtain ⟨rb, off, cap, hq, hb, hcl⟩ := hat HR.out hx
      simp only [Value.slice.injEq] at hq
      obtain ⟨rfl, -, rfl⟩ := hq
      have hd : ∀ (j : Nat) (u : Value), x.cells[j]? = some u → wr.cell? ⟨rb, off + k * 11 + j, none⟩ = some u := fun j u hu => (HbW.out.cell (p := ⟨rb, off + k * 11 + j, none⟩) hb).trans (hcl j u hu)
      have hbU : rb < wr.heap.size := Nat.lt_of_lt_of_le hb HbW.out.size
      have d0 := hd 0 _ rfl
      have d1 := hd 1 _ rfl
      have d2 := hd 2 _ rfl
      have d3 := hd 3 _ rfl
      have d4 := hd 4 _ rfl
      have d5 := hd 5 _ rfl
      have d6 := hd 6 _ rfl
      have d7 := hd 7 _ rfl
      have d8 := hd 8 _ rfl
      have d9 := hd 9 _ rfl
      have d10 := hd 10 _ rfl
      simp only [Nat.add_zero] at d0
      have hlx := Hs.out x (List.mem_of_getElem? hx)
      have Hx := Lib.hid hx
      clear hd hcl hx
      by_cases hp : Frc.ahead e x = true
      · have hr := Lib.hid (HF.out.trans (firstR_hit Hx.out hp Hno.out))
        unfold Frc.ahead at hp
        simp only [Bool.and_eq_true, decide_eq_true_eq] at hp
        obtain ⟨hnm, hsv⟩ := hp
        have e1 := str_eq hnm
        have cv : ∀ W, Calls Tryz.prog 57 #[.agg #[.int .i64 e.off, .int .i64 e.kind, .int .i64 e.save, .string e.rules, .string e.format, .bool e.u.has, .int .i64 e.u.year, .int .i64 e.u.month, .int .i64 e.u.kind, .int .i64 e.u.week, .int .i64 e.u.day, .int .i64 e.u.sec, .int .i64 e.u.base], .int .i64 0, .string x.letter] W fun z w' => z = .returned (.agg #[.int .i64 F.off, .int .i64 F.save, .string F.abbr]) ∧ Below W.heap.size W w' := fun W => by rw [hr.out]; exact Cval.out W x.letter hlx
        have Cv := Lib.hid cv
        clear hnm cv
        go_wp2_with (go_at_call 57; (with_reducible refine (Cv.out _).mono ?_); rintro e w1 ⟨rfl, hb1⟩; obtain ⟨hc1, hf1⟩ := bcell hb1; have hc1_0 := fun o => hc1 (w.heap.size + 1) o (by first | assumption | omega | (simp; done) | (simp; omega)); have hf1_0 := fun o => hf1 (w.heap.size + 1) o (by first | assumption | omega | (simp; done) | (simp; omega)); clear hc1 hf1; have hz1_0 : w.heap.size + 1 < w1.heap.size := (by first | exact sz1 hb1 | exact sz2 hb1 | exact sz3 hb1 | (have := hb1.size; (try simp only [World.size_alloc] at this); omega)))
        have hbel := HbW.out
        refine bodyPost_ret (v := .agg #[.int .i64 F.off, .int .i64 F.save, .string F.abbr]) ?_ rfl ⟨rfl, ?_⟩
        · simp only [results, Tryz.results59]
          go_simp
        · repeat (first | (with_reducible exact Below.refl _ _) | (with_reducible assumption) | (with_reducible refine ba ?_) | (with_reducible refine bd ?_) | (with_reducible refine bdn ?_ _) | (with_reducible refine bset ?_ (by first | exact Nat.le_refl _ | omega | (simp; done) | (simp; omega))) | (with_reducible refine bt ?_ (by with_reducible assumption)))
      · have hno' : ∀ (j : Nat) (z : RuleV), j < k + 1 → l[j]? = some z → Frc.ahead e z = false := by
          intro j z hj hz
          rcases (by omega : j < k ∨ j = k) with h | rfl
          · exact Hno.out j z h hz
          · rw [Hx.out] at hz
            cases hz
            simpa using hp
        have Hno2 := Lib.hid hno'
        clear hno'
        by_cases hnm : x.name = e.rules
        · have hsv : ¬ x.save = 0 := fun h => hp (by unfold Frc.ahead; simp [hnm, h])
          have e1 := str_eq hnm
          clear hnm hp
          go_wp2
          have hbel := HbW.out
          have bR := HbR.out
          have bE := HbE.out
          go_roundw
          case rel => exact ⟨k + 1, by go_num, hlt, Hno2.out, by repeat (first | (with_reducible exact Below.refl _ _) | (with_reducible assumption) | (with_reducible refine ba ?_) | (with_reducible refine bd ?_) | (with_reducible refine bdn ?_ _) | (with_reducible refine bset ?_ (by first | exact Nat.le_refl _ | omega | (simp; done) | (simp; omega))) | (with_reducible refine bt ?_ (by with_reducible assumption))), by repeat (first | (with_reducible assumption) | (with_reducible exact Box.new _ _ _) | (with_reducible refine Box.old ?_) | (with_reducible refine Box.drew ?_) | (with_reducible refine Box.drewN ?_ _) | (with_reducible refine Box.other ?_ (by first | assumption | omega | (simp; omega))) | (with_reducible refine Box.later ?_ (by with_reducible assumption))), by repeat (first | (with_reducible assumption) | (with_reducible exact Box.new _ _ _) | (with_reducible refine Box.old ?_) | (with_reducible refine Box.drew ?_) | (with_reducible refine Box.drewN ?_ _) | (with_reducible refine Box.other ?_ (by first | assumption | omega | (simp; omega))) | (with_reducible refine Box.later ?_ (by with_reducible assumption)))⟩
          case measure => simp [intOf]; omega
        · have e1 := str_ne hnm
          clear hnm hp
          go_wp2
          have hbel := HbW.out
          have bR := HbR.out
          have bE := HbE.out
          go_roundw
          case rel => exact ⟨k + 1, by go_num, hlt, Hno2.out, by repeat (first | (with_reducible exact Below.refl _ _) | (with_reducible assumption) | (with_reducible refine ba ?_) | (with_reducible refine bd ?_) | (with_reducible refine bdn ?_ _) | (with_reducible refine bset ?_ (by first | exact Nat.le_refl _ | omega | (simp; done) | (simp; omega))) | (with_reducible refine bt ?_ (by with_reducible assumption))), by repeat (first | (with_reducible assumption) | (with_reducible exact Box.new _ _ _) | (with_reducible refine Box.old ?_) | (with_reducible refine Box.drew ?_) | (with_reducible refine Box.drewN ?_ _) | (with_reducible refine Box.other ?_ (by first | assumption | omega | (simp; omega))) | (with_reducible refine Box.later ?_ (by with_reducible assumption))), by repeat (first | (with_reducible assumption) | (with_reducible exact Box.new _ _ _) | (with_reducible refine Box.old ?_) | (with_reducible refine Box.drew ?_) | (with_reducible refine Box.drewN ?_ _) | (with_reducible refine Box.other ?_ (by first | assumption | omega | (simp; omega))) | (with_reducible refine Box.later ?_ (by with_reducible assumption)))⟩
          case measure => simp [intOf]; omega
    · have hr := Lib.hid (HF.out.trans (first_miss fun j z hz => Hno.out j z (by have := (List.getElem?_eq_some_iff.1 hz).1; rw [← HN.out] at this; omega) hz))
      have cv : ∀ W, Calls Tryz.prog 57 #[.agg #[.int .i64 e.off, .int .i64 e.kind, .int .i64 e.save, .string e.rules, .string e.format, .bool e.u.has, .int .i64 e.u.year, .int .i64 e.u.month, .int .i64 e.u.kind, .int .i64 e.u.week, .int .i64 e.u.day, .int .i64 e.u.sec, .int .i64 e.u.base], .int .i64 0, .string ⟨#[]⟩] W fun z w' => z = .returned (.agg #[.int .i64 F.off, .int .i64 F.save, .string F.abbr]) ∧ Below W.heap.size W w' := fun W => by rw [hr.out]; exact Cval.out W ⟨#[]⟩ (by decide)
      have Cv := Lib.hid cv
      clear cv
      go_wp2_with (go_at_call 57; (with_reducible refine (Cv.out _).mono ?_); rintro e w1 ⟨rfl, hb1⟩; obtain ⟨hc1, hf1⟩ := bcell hb1; have hc1_0 := fun o => hc1 (w.heap.size + 1) o (by first | assumption | omega | (simp; done) | (simp; omega)); have hf1_0 := fun o => hf1 (w.heap.size + 1) o (by first | assumption | omega | (simp; done) | (simp; omega)); clear hc1 hf1; have hz1_0 : w.heap.size + 1 < w1.heap.size := (by first | exact sz1 hb1 | exact sz2 hb1 | exact sz3 hb1 | (have := hb1.size; (try simp only [World.size_alloc, World.size_drew] at this); omega)))
      have hbel := HbW.out
      refine bodyPost_ret (v := .agg #[.int .i64 F.off, .int .i64 F.save, .string F.abbr]) ?_ rfl ⟨rfl, ?_⟩
      · simp only [results, Tryz.results59]
        go_simp
      · repeat (first | (with_reducible exact Below.refl _ _) | (with_reducible assumption) | (with_reducible refine ba ?_) | (with_reducible refine bd ?_) | (with_reducible refine bdn ?_ _) | (with_reducible refine bset ?_ (by first | exact Nat.le_refl _ | omega | (simp; done) | (simp; omega))) | (with_reducible refine bt ?_ (by with_reducible assumption)))
end RFrc
end Go.Proofs.YtkpjhgkmjcdobaaGreatDoor
