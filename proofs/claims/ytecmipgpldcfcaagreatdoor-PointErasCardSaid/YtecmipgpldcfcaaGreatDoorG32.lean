import Derived.Test.YtecmipgpldcfcaaGreatDoorG17
import Derived.Test.YtecmipgpldcfcaaGreatDoorG30
import Derived.Test.YtecmipgpldcfcaaGreatDoorG11
import Derived.Test.YtecmipgpldcfcaaGreatDoorG9
namespace Go.Proofs.YtecmipgpldcfcaaGreatDoor
open Go.RowKit NB Nxt
namespace RFrc
open Frc
set_option maxHeartbeats 1600000 in
theorem value (e : EraV) (he : e.format.size ≤ 9223372036854775807) (save : Int) (letter : ByteArray) (hl : letter.size ≤ 1000000) (w : World) :
    Calls Tryz.prog 48 #[.agg e.cells.toArray, .int .i64 save, .string letter] w fun x w' => x = .returned (.agg (valR e save letter).cells.toArray) ∧ Below w.heap.size w w' := by
  have ca := fun W => RFmt.Abbr e.format he (wrap64 (e.off + save)) save letter hl W
  unfold valR ValV.cells
  simp only
  generalize (Fmt.abbrF e.format (wrap64 (e.off + save)) save letter) = ab at *
  obtain ⟨ab1, ab2⟩ := ab
  simp only at ca ⊢
  unfold EraV.cells
  have Ca := Lib.hid ca
  clear ca
  go_enter Tryz.func48, Tryz.ntmps48
  go_wp2_with (go_at_call 78;(with_reducible refine (Ca.out _).mono ?_);rintro e w1 ⟨rfl, hb1⟩;obtain ⟨hc1_0, hf1_0, _⟩ := bcs hb1 (w.heap.size);obtain ⟨hc1_1, hf1_1, hz1_1⟩ := bcs hb1 (w.heap.size + 1);have hz1_0 : w.heap.size < w1.heap.size := (by first|exact sz1 hb1|exact sz2 hb1|exact sz3 hb1|(have := hb1.size;(try simp only [World.size_alloc] at this);omega)))
  refine bodyPost_ret (v := .agg #[.int .i64 (wrap64 (e.off + save)), .int .i64 save, .string ab1]) ?_ rfl ⟨rfl, ?_⟩
  · simp only [results, Tryz.results48]
    go_simp
  · exact bcq
theorem firstR_hit {l : List RuleV} {e : EraV} {k : Nat} {x : RuleV} (hx : l[k]? = some x) (hp : Frc.ahead e x = true) (hn : ∀ (j : Nat) (y : RuleV), j < k → l[j]? = some y → Frc.ahead e y = false) : firstV l e = valR e 0 x.letter := by
  rw [first_hit hx hp hn]
  unfold Frc.ahead at hp
  simp only [Bool.and_eq_true, decide_eq_true_eq] at hp
  unfold valX valO
  rw [if_pos hp.1, hp.2]
set_option maxHeartbeats 3200000 in
set_option maxRecDepth 100000 in
theorem first {w : World} {r : Value} {l : List RuleV} (hr : Holds w r l) (e : EraV) (he : e.Fit) (hs : ∀ x ∈ l, x.letter.size ≤ 1000000) (hn : l.length ≤ 100000) :
    Calls Tryz.prog 50 #[r, .agg e.cells.toArray] w fun x w' => x = .returned (.agg (firstV l e).cells.toArray) ∧ Below w.heap.size w w' := by
  have cval := fun W (letter : ByteArray) hl => value e he.f 0 letter hl W
  obtain ⟨F, hF⟩ : ∃ F, F = firstV l e := ⟨_, rfl⟩
  rw [← hF]
  have HF := Lib.hid hF
  have HR := Lib.hid hr
  have Hs := Lib.hid hs
  obtain ⟨rp, rc, rfl⟩ := hr.form
  unfold EraV.cells ValV.cells at *
  have Cval := Lib.hid cval
  clear cval hr hF hs
  obtain ⟨n, hnl⟩ : ∃ n, n = l.length := ⟨_, rfl⟩
  rw [← hnl] at hn HR ⊢
  have HN := Lib.hid hnl
  clear hnl
  go_enter Tryz.func50, Tryz.ntmps50
  go_upto_region 2 with fail
  have bE : Box ((w.alloc (.cells #[.int .i64 e.off, .int .i64 e.kind, .int .i64 e.save, .string e.rules, .string e.format, .bool e.u.has, .int .i64 e.u.year, .int .i64 e.u.month, .int .i64 e.u.kind, .int .i64 e.u.week, .int .i64 e.u.day, .int .i64 e.u.sec, .int .i64 e.u.base] 51)).alloc (.cells #[.int .i64 0, .int .i64 0, .string ⟨#[]⟩] 33)) w.heap.size #[.int .i64 e.off, .int .i64 e.kind, .int .i64 e.save, .string e.rules, .string e.format, .bool e.u.has, .int .i64 e.u.year, .int .i64 e.u.month, .int .i64 e.u.kind, .int .i64 e.u.week, .int .i64 e.u.day, .int .i64 e.u.sec, .int .i64 e.u.base] 51 := Box.old (Box.new _ _ _)
  have bR : Box ((w.alloc (.cells #[.int .i64 e.off, .int .i64 e.kind, .int .i64 e.save, .string e.rules, .string e.format, .bool e.u.has, .int .i64 e.u.year, .int .i64 e.u.month, .int .i64 e.u.kind, .int .i64 e.u.week, .int .i64 e.u.day, .int .i64 e.u.sec, .int .i64 e.u.base] 51)).alloc (.cells #[.int .i64 0, .int .i64 0, .string ⟨#[]⟩] 33)) (w.heap.size + 1) #[.int .i64 0, .int .i64 0, .string ⟨#[]⟩] 33 := by
    have := Box.new (w.alloc (.cells #[.int .i64 e.off, .int .i64 e.kind, .int .i64 e.save, .string e.rules, .string e.format, .bool e.u.has, .int .i64 e.u.year, .int .i64 e.u.month, .int .i64 e.u.kind, .int .i64 e.u.week, .int .i64 e.u.day, .int .i64 e.u.sec, .int .i64 e.u.base] 51)) #[.int .i64 0, .int .i64 0, .string ⟨#[]⟩] 33
    rwa [World.size_alloc] at this
  have hbel : Below w.heap.size w ((w.alloc (.cells #[.int .i64 e.off, .int .i64 e.kind, .int .i64 e.save, .string e.rules, .string e.format, .bool e.u.has, .int .i64 e.u.year, .int .i64 e.u.month, .int .i64 e.u.kind, .int .i64 e.u.week, .int .i64 e.u.day, .int .i64 e.u.sec, .int .i64 e.u.base] 51)).alloc (.cells #[.int .i64 0, .int .i64 0, .string ⟨#[]⟩] 33)) := bcq
  generalize ((w.alloc (.cells #[.int .i64 e.off, .int .i64 e.kind, .int .i64 e.save, .string e.rules, .string e.format, .bool e.u.has, .int .i64 e.u.year, .int .i64 e.u.month, .int .i64 e.u.kind, .int .i64 e.u.week, .int .i64 e.u.day, .int .i64 e.u.sec, .int .i64 e.u.base] 51)).alloc (.cells #[.int .i64 0, .int .i64 0, .string ⟨#[]⟩] 33)) = X at *
  go_loopw [9] (fun i wr => ∃ k : Nat, i = .int .i64 k ∧ k ≤ n ∧ (∀ (j : Nat) (y : RuleV), j < k → l[j]? = some y → Frc.ahead e y = false) ∧ Below w.heap.size w wr ∧ Box wr w.heap.size #[.int .i64 e.off, .int .i64 e.kind, .int .i64 e.save, .string e.rules, .string e.format, .bool e.u.has, .int .i64 e.u.year, .int .i64 e.u.month, .int .i64 e.u.kind, .int .i64 e.u.week, .int .i64 e.u.day, .int .i64 e.u.sec, .int .i64 e.u.base] 51 ∧ Box wr (w.heap.size + 1) #[.int .i64 0, .int .i64 0, .string ⟨#[]⟩] 33) (fun i _ => n - (intOf i).toNat)
  case atStart => exact ⟨0, rfl, Nat.zero_le _, fun j y hj => absurd hj (Nat.not_lt_zero _), hbel, bE, bR⟩
  case round =>
    clear hbel bR bE
    obtain ⟨k, rfl, hk, hno, hbel, bE, bR⟩ := hrel
    have Hno := Lib.hid hno
    have HbW := Lib.hid hbel
    have HbR := Lib.hid bR
    have HbE := Lib.hid bE
    have cR := bR.cell
    have lR := bR.lt
    have fR := bR.free
    have cE := bE.cell
    have lE := bE.lt
    clear hno hbel bR bE
    by_cases hlt : k < n
    · obtain ⟨x, hx⟩ : ∃ x, l[k]? = some x := ⟨l[k]'(by rw [← HN.out];exact hlt), by simp⟩
      obtain ⟨rb, off, cap, hq, hb, hcl⟩ := hat HR.out hx
      simp only [Value.slice.injEq] at hq
      obtain ⟨rfl, -, rfl⟩ := hq
      have hd : ∀ (j : Nat) (u : Value), x.cells[j]? = some u → wr.cell? ⟨rb, off + k * 11 + j, none⟩ = some u := fun j u hu => (HbW.out.cell (p := ⟨rb, off + k * 11 + j, none⟩) hb).trans (hcl j u hu)
      have hbU : rb < wr.heap.size := Nat.lt_of_lt_of_le hb HbW.out.size
      have d0 := hd 0 _ rfl
      have d1 := hd 1 _ rfl
      have d2 := hd 2 _ rfl
      have d3 := hd 3 _ rfl
      have d4 := hd 4 _ rfl
      have d5 := hd 5 _ rfl
      have d6 := hd 6 _ rfl
      have d7 := hd 7 _ rfl
      have d8 := hd 8 _ rfl
      have d9 := hd 9 _ rfl
      have d10 := hd 10 _ rfl
      simp only [Nat.add_zero] at d0
      have hlx := Hs.out x (List.mem_of_getElem? hx)
      have Hx := Lib.hid hx
      clear hd hcl hx
      by_cases hp : Frc.ahead e x = true
      · have hr := Lib.hid (HF.out.trans (firstR_hit Hx.out hp Hno.out))
        unfold Frc.ahead at hp
        simp only [Bool.and_eq_true, decide_eq_true_eq] at hp
        obtain ⟨hnm, hsv⟩ := hp
        have e1 := str_eq hnm
        have cv : ∀ W, Calls Tryz.prog 48 #[.agg #[.int .i64 e.off, .int .i64 e.kind, .int .i64 e.save, .string e.rules, .string e.format, .bool e.u.has, .int .i64 e.u.year, .int .i64 e.u.month, .int .i64 e.u.kind, .int .i64 e.u.week, .int .i64 e.u.day, .int .i64 e.u.sec, .int .i64 e.u.base], .int .i64 0, .string x.letter] W fun z w' => z = .returned (.agg #[.int .i64 F.off, .int .i64 F.save, .string F.abbr]) ∧ Below W.heap.size W w' := fun W => by rw [hr.out];exact Cval.out W x.letter hlx
        have Cv := Lib.hid cv
        clear hnm cv
        go_wp2_with (go_at_call 48;(with_reducible refine (Cv.out _).mono ?_);rintro e w1 ⟨rfl, hb1⟩;obtain ⟨hc1_0, hf1_0, _⟩ := bcs hb1 (w.heap.size + 1);have hz1_0 : w.heap.size + 1 < w1.heap.size := (by first|exact sz1 hb1|exact sz2 hb1|exact sz3 hb1|(have := hb1.size;(try simp only [World.size_alloc] at this);omega)))
        have hbel := HbW.out
        refine bodyPost_ret (v := .agg #[.int .i64 F.off, .int .i64 F.save, .string F.abbr]) ?_ rfl ⟨rfl, ?_⟩
        · simp only [results, Tryz.results50]
          go_simp
        · exact bcq
      · have hno' : ∀ (j : Nat) (z : RuleV), j < k + 1 → l[j]? = some z → Frc.ahead e z = false := by
          intro j z hj hz
          rcases (by omega : j < k ∨ j = k) with h|rfl
          · exact Hno.out j z h hz
          · rw [Hx.out] at hz
            cases hz
            simpa using hp
        have Hno2 := Lib.hid hno'
        clear hno'
        by_cases hnm : x.name = e.rules
        · have hsv : ¬ x.save = 0 := fun h => hp (by unfold Frc.ahead;simp [hnm, h])
          have e1 := str_eq hnm
          clear hnm hp
          go_wp2
          have hbel := HbW.out
          have bR := HbR.out
          have bE := HbE.out
          go_roundw
          case rel => exact ⟨k + 1, by go_num, hlt, Hno2.out, bcq, bxq, bxq⟩
          case measure => simp [intOf];omega
        · have e1 := str_ne hnm
          clear hnm hp
          go_wp2
          have hbel := HbW.out
          have bR := HbR.out
          have bE := HbE.out
          go_roundw
          case rel => exact ⟨k + 1, by go_num, hlt, Hno2.out, bcq, bxq, bxq⟩
          case measure => simp [intOf];omega
    · have hr := Lib.hid (HF.out.trans (first_miss fun j z hz => Hno.out j z (by have := (List.getElem?_eq_some_iff.1 hz).1;rw [← HN.out] at this;omega) hz))
      have cv : ∀ W, Calls Tryz.prog 48 #[.agg #[.int .i64 e.off, .int .i64 e.kind, .int .i64 e.save, .string e.rules, .string e.format, .bool e.u.has, .int .i64 e.u.year, .int .i64 e.u.month, .int .i64 e.u.kind, .int .i64 e.u.week, .int .i64 e.u.day, .int .i64 e.u.sec, .int .i64 e.u.base], .int .i64 0, .string ⟨#[]⟩] W fun z w' => z = .returned (.agg #[.int .i64 F.off, .int .i64 F.save, .string F.abbr]) ∧ Below W.heap.size W w' := fun W => by rw [hr.out];exact Cval.out W ⟨#[]⟩ (by decide)
      have Cv := Lib.hid cv
      clear cv
      go_wp2_with (go_at_call 48;(with_reducible refine (Cv.out _).mono ?_);rintro e w1 ⟨rfl, hb1⟩;obtain ⟨hc1_0, hf1_0, hz1_0⟩ := bcs hb1 (w.heap.size + 1))
      have hbel := HbW.out
      refine bodyPost_ret (v := .agg #[.int .i64 F.off, .int .i64 F.save, .string F.abbr]) ?_ rfl ⟨rfl, ?_⟩
      · simp only [results, Tryz.results50]
        go_simp
      · exact bcq
end RFrc
end Go.Proofs.YtecmipgpldcfcaaGreatDoor
namespace Go.Proofs.YtecmipgpldcfcaaGreatDoor
open Go.RowKit NB Nxt
namespace RFrc
open Frc
set_option maxHeartbeats 3200000 in
set_option maxRecDepth 100000 in
theorem At {w : World} {r : Value} {l : List RuleV} (hr : Holds w r l) (e : EraV) (he : e.Fit) (t : Int) (hs : ∀ x ∈ l, x.letter.size ≤ 1000000) (hn : l.length ≤ 100000) :
    Calls Tryz.prog 25 #[r, .agg e.cells.toArray, .int .i64 t] w fun x w' => x = .returned (.tuple #[.agg (atV l e t).1.cells.toArray, .int .i64 (atV l e t).2]) ∧ Below w.heap.size w w' := by
  have cr := fun W => REr.Right e he W
  have cval := fun W (save : Int) (letter : ByteArray) hl => value e he.f save letter hl W
  have HH := Lib.hid hr
  unfold atV
  cases hR : Er.rightB e
  · rw [hR] at cr
    rw [if_neg (by decide)]
    obtain ⟨rp, rc, rfl⟩ := hr.form
    unfold EraV.cells ValV.cells at *
    have Cr := Lib.hid cr
    clear cr cval hr hs
    go_enter Tryz.func25, Tryz.ntmps25
    go_wp2_with (go_at_call 47;(with_reducible refine (Cr.out _).mono ?_);rintro e w1 ⟨rfl, hb1⟩;obtain ⟨hc1_0, hf1_0, hz1_0⟩ := bcs hb1 (w.heap.size);obtain ⟨hc1_1, hf1_1, hz1_1⟩ := bcs hb1 (w.heap.size + 1))
    refine bodyPost_ret (v := .tuple #[.agg #[.int .i64 0, .int .i64 0, .string ⟨#[]⟩], .int .i64 4]) ?_ rfl ⟨rfl, ?_⟩
    · simp only [results, Tryz.results25]
      go_simp
    · exact bcq
  · rw [hR] at cr
    rw [if_pos rfl]
    by_cases hk : e.kind = 2
    rotate_left
    · rw [if_neg hk]
      obtain ⟨y, hy⟩ : ∃ y, y = valR e e.save ⟨#[]⟩ := ⟨_, rfl⟩
      have cv : ∀ W, Calls Tryz.prog 48 #[.agg #[.int .i64 e.off, .int .i64 e.kind, .int .i64 e.save, .string e.rules, .string e.format, .bool e.u.has, .int .i64 e.u.year, .int .i64 e.u.month, .int .i64 e.u.kind, .int .i64 e.u.week, .int .i64 e.u.day, .int .i64 e.u.sec, .int .i64 e.u.base], .int .i64 e.save, .string ⟨#[]⟩] W fun z w' => z = .returned (.agg #[.int .i64 y.off, .int .i64 y.save, .string y.abbr]) ∧ Below W.heap.size W w' := fun W => by rw [hy];exact cval W e.save ⟨#[]⟩ (by decide)
      rw [← hy]
      obtain ⟨rp, rc, rfl⟩ := hr.form
      unfold EraV.cells ValV.cells at *
      have Cr := Lib.hid cr
      have Cv := Lib.hid cv
      clear cr cv cval hr hs hy
      simp only
      go_enter Tryz.func25, Tryz.ntmps25
      go_wp2_with (first
        | (go_at_call 47;(with_reducible refine (Cr.out _).mono ?_);rintro e w1 ⟨rfl, hb1⟩;obtain ⟨hc1_0, hf1_0, hz1_0⟩ := bcs hb1 (w.heap.size);obtain ⟨hc1_1, hf1_1, hz1_1⟩ := bcs hb1 (w.heap.size + 1))
        | (go_at_call 48;(with_reducible refine (Cv.out _).mono ?_);rintro e w2 ⟨rfl, hb2⟩;obtain ⟨hc2_0, hf2_0, hz2_0⟩ := bcs hb2 (w.heap.size);obtain ⟨hc2_1, hf2_1, hz2_1⟩ := bcs hb2 (w.heap.size + 1)))
      refine bodyPost_ret (v := .tuple #[.agg #[.int .i64 y.off, .int .i64 y.save, .string y.abbr], .int .i64 0]) ?_ rfl ⟨rfl, ?_⟩
      · simp only [results, Tryz.results25]
        go_simp
      · exact bcq
    rw [if_pos hk]
    obtain ⟨y, hy⟩ : ∃ y, y = stateV l e t := ⟨_, rfl⟩
    rw [← hy]
    have cl := fun W (h : Holds W r l) => RCh.Last h e.rules e.off t
    have hlp : lastP l e t = Chn.lastO l e.rules e.off t := rfl
    rw [← hlp] at cl
    cases hl : lastP l e t with
    | none =>
      rw [hl] at cl
      have hyf : y = firstV l e := by rw [hy];unfold stateV;rw [hl]
      have cf : ∀ W, Holds W r l → Calls Tryz.prog 50 #[r, .agg #[.int .i64 e.off, .int .i64 2, .int .i64 e.save, .string e.rules, .string e.format, .bool e.u.has, .int .i64 e.u.year, .int .i64 e.u.month, .int .i64 e.u.kind, .int .i64 e.u.week, .int .i64 e.u.day, .int .i64 e.u.sec, .int .i64 e.u.base]] W fun z w' => z = .returned (.agg #[.int .i64 y.off, .int .i64 y.save, .string y.abbr]) ∧ Below W.heap.size W w' := fun W h => by rw [hyf, ← hk];exact first h e he hs hn
      unfold optV at cl
      obtain ⟨rp, rc, rfl⟩ := hr.form
      unfold EraV.cells ValV.cells at *
      rw [hk] at cr
      have Cr := Lib.hid cr
      have Cl := Lib.hid cl
      have Cf := Lib.hid cf
      clear cr cl cf cval hr hs hy hyf hl hlp
      generalize l.length = n at *
      rw [hk]
      simp only
      go_enter Tryz.func25, Tryz.ntmps25
      go_wp2_with (first
        | (go_at_call 47;(with_reducible refine (Cr.out _).mono ?_);rintro e w1 ⟨rfl, hb1⟩;obtain ⟨hc1_0, hf1_0, hz1_0⟩ := bcs hb1 (w.heap.size);obtain ⟨hc1_1, hf1_1, hz1_1⟩ := bcs hb1 (w.heap.size + 1))
        | (go_at_call 49;(with_reducible refine (Cl.out _ ?_).mono ?_);(· exact HH.out.later bcq);rintro e w2 ⟨rfl, hb2⟩;obtain ⟨hc2_0, hf2_0, hz2_0⟩ := bcs hb2 (w.heap.size);obtain ⟨hc2_1, hf2_1, hz2_1⟩ := bcs hb2 (w.heap.size + 1))
        | (go_at_call 50;(with_reducible refine (Cf.out _ ?_).mono ?_);(· exact HH.out.later bcq);rintro e w3 ⟨rfl, hb3⟩;obtain ⟨hc3_0, hf3_0, hz3_0⟩ := bcs hb3 (w.heap.size);obtain ⟨hc3_1, hf3_1, hz3_1⟩ := bcs hb3 (w.heap.size + 1)))
      refine bodyPost_ret (v := .tuple #[.agg #[.int .i64 y.off, .int .i64 y.save, .string y.abbr], .int .i64 0]) ?_ rfl ⟨rfl, ?_⟩
      · simp only [results, Tryz.results25]
        go_simp
      · exact bcq
    | some o =>
      rw [hl] at cl
      obtain ⟨i, x, hoi, hil, hxi, hxn, _⟩ := rule_of (last_all hl)
      have hyx : y = valR e x.save x.letter := by
        rw [hy]
        unfold stateV
        rw [hl]
        show valAt l e o.rule = _
        rw [hoi, val_rule hxi]
        rfl
      have cv : ∀ W, Calls Tryz.prog 48 #[.agg #[.int .i64 e.off, .int .i64 2, .int .i64 e.save, .string e.rules, .string e.format, .bool e.u.has, .int .i64 e.u.year, .int .i64 e.u.month, .int .i64 e.u.kind, .int .i64 e.u.week, .int .i64 e.u.day, .int .i64 e.u.sec, .int .i64 e.u.base], .int .i64 x.save, .string x.letter] W fun z w' => z = .returned (.agg #[.int .i64 y.off, .int .i64 y.save, .string y.abbr]) ∧ Below W.heap.size W w' := fun W => by rw [hyx, ← hk];exact cval W x.save x.letter (hs x (List.mem_of_getElem? hxi))
      obtain ⟨rb, off, cap, hq, hb, hcl⟩ := hat hr hxi
      obtain ⟨orl, oyr, onm⟩ := o
      simp only at hoi
      subst hoi
      unfold optV OccV.cells at cl
      unfold EraV.cells ValV.cells at *
      rw [hk] at cr
      rw [hq] at cl HH ⊢
      have d9 := hcl 9 _ rfl
      have d10 := hcl 10 _ rfl
      have Cr := Lib.hid cr
      have Cl := Lib.hid cl
      have Cv := Lib.hid cv
      clear cr cl cv cval hr hs hy hyx hl hlp hcl hxi hxn hq
      generalize l.length = n at *
      rw [hk]
      simp only
      go_enter Tryz.func25, Tryz.ntmps25
      go_upto_region 8 with (first
        | (go_at_call 47;(with_reducible refine (Cr.out _).mono ?_);rintro e w1 ⟨rfl, hb1⟩;obtain ⟨hc1_0, hf1_0, hz1_0⟩ := bcs hb1 (w.heap.size);obtain ⟨hc1_1, hf1_1, hz1_1⟩ := bcs hb1 (w.heap.size + 1);obtain ⟨hc1_2, hf1_2, hz1_2⟩ := bcs hb1 (rb))
        | (go_at_call 49;(with_reducible refine (Cl.out _ ?_).mono ?_);(· exact HH.out.later bcq);rintro e w2 ⟨rfl, hb2⟩;obtain ⟨hc2_0, hf2_0, hz2_0⟩ := bcs hb2 (w.heap.size);obtain ⟨hc2_1, hf2_1, hz2_1⟩ := bcs hb2 (w.heap.size + 1);obtain ⟨hc2_2, hf2_2, hz2_2⟩ := bcs hb2 (rb)))
      go_region_with ((go_at_call 48;(with_reducible refine (Cv.out _).mono ?_);rintro e w3 ⟨rfl, hb3⟩;obtain ⟨hc3_0, hf3_0, hz3_0⟩ := bcs hb3 (w.heap.size);obtain ⟨hc3_1, hf3_1, hz3_1⟩ := bcs hb3 (w.heap.size + 1)))
      all_goals
        go_wp2
        refine bodyPost_ret (v := .tuple #[.agg #[.int .i64 y.off, .int .i64 y.save, .string y.abbr], .int .i64 0]) ?_ rfl ⟨rfl, ?_⟩
        · simp only [results, Tryz.results25]
          go_simp
        · exact bcq
end RFrc
end Go.Proofs.YtecmipgpldcfcaaGreatDoor
