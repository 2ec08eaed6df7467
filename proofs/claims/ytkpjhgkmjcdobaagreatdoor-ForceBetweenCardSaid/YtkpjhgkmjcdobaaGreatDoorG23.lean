import Derived.Test.YtkpjhgkmjcdobaaGreatDoorG22
import Derived.Test.YtkpjhgkmjcdobaaGreatDoorRIn
/-
  until.Ends: what it gives, as the program runs it.
-/
namespace Go.Proofs.YtkpjhgkmjcdobaaGreatDoor
open Go.RowKit NB Nxt
namespace Zn
theorem info_i64 : (Tryz.prog.info? 2).map (fun i => (i.zero, i.size, i.bytes)) = some (some (.int .i64 0), 1, 8) := by kernel_rfl
def ints (L : List Int) : List Value := L.map fun t => .int .i64 t
/-- the instants of those ends that are there -/
def endsL (l : List RuleV) (es : List EraV) : List Int := (es.filter fun e => e.u.has).map fun e => (Unt.instU l e).1
/-- the instants of a zone's ends, and what is wrong -/
def endsR (l : List RuleV) (es : List EraV) : List Int := if zoneB es then endsL l es else []
def endsE (es : List EraV) : Int := if zoneB es then 0 else 4
theorem endsL_succ {l : List RuleV} {es : List EraV} {k : Nat} {e : EraV} (he : es[k]? = some e) : endsL l (es.take (k + 1)) = endsL l (es.take k) ++ (if e.u.has then [(Unt.instU l e).1] else []) := by
  unfold endsL
  rw [List.take_add_one, he, List.filter_append, List.map_append]
  cases h : e.u.has <;> simp [h]
theorem endsL_len (l : List RuleV) (es : List EraV) (k : Nat) : (endsL l (es.take k)).length ≤ k := by
  unfold endsL
  rw [List.length_map]
  refine Nat.le_trans (List.length_filter_le _ _) ?_
  rw [List.length_take]
  exact Nat.min_le_left _ _
theorem own_later {w w' : World} {B : Nat} {e : TypeId} {sz n : Nat} {v : Value} {xs : List Value} (h : w.ownsRow B e sz v n xs) (hb : Below w.heap.size w w') : w'.ownsRow B e sz v n xs :=
  h.kept ⟨hb.os, hb.tape, hb.output, hb.size, fun k hk _ => hb.block k hk⟩ (by cases v.ownBlock <;> simp : v.ownBlock = none ∨ v.ownBlock ≠ none)
def EndsPost (w : World) (l : List RuleV) (es : List EraV) (x : Ending) (w' : World) : Prop := ∃ v, x = .returned (.tuple #[v, .int .i64 (endsE es)]) ∧ w'.ownsRow w.heap.size 2 1 v (endsR l es).length (ints (endsR l es)) ∧ Below w.heap.size w w'
set_option maxRecDepth 100000 in
set_option maxHeartbeats 6400000 in
theorem Ends {w : World} {v r : Value} {l : List RuleV} {es : List EraV} (hr : Holds w r l) (h : HoldsE w v es) (name : ByteArray) (hn : es.length ≤ 100000) (ht : Tab w) : Calls Tryz.prog 16 #[r, .agg #[.string name, v]] w (EndsPost w l es) := by
  have hat := fun (k : Nat) (e : EraV) (he : es[k]? = some e) => h.at he
  have hfit := h.fit
  obtain ⟨p, cap, rfl⟩ := h.form
  obtain ⟨j0, hj0, hz0, hz1, hz2⟩ := info_parts info_i64
  have cr := fun (e : EraV) (he : e.Fit) W h => Er.Right e he W h
  have ci := fun (e : EraV) (he : e.Fit) W (h : Holds W r l) h' => Unt.Instant h e he h'
  have hll : ∀ k : Nat, k < es.length → ∃ e, es[k]? = some e := fun k hk => ⟨es[k], by simp⟩
  have hzn := fun (k : Nat) (e : EraV) (he : es[k]? = some e) => zone_not (k := k) he
  have hok : ∀ k, k = es.length → OkTo es k → 0 < es.length → zoneB es = true := fun k hk ho h0 => zone_iff.2 ⟨h0, hk ▸ ho⟩
  have hz0' : es.length = 0 → zoneB es = false := fun h0 => by unfold zoneB; simp [h0]
  have hsc := fun (k : Nat) (ho : OkTo es k) (e : EraV) (he : es[k]? = some e) => ho.succ he
  have hfin : ∀ k, k = es.length → endsL l (es.take k) = endsL l es := fun k hk => by rw [hk, List.take_length]
  obtain ⟨rp, rc, rfl⟩ := hr.form
  unfold EndsPost endsR endsE
  generalize zoneB es = zb at *
  generalize es.length = n at *
  have Hat := Lib.hid hat
  have Hft := Lib.hid hfit
  have HLL := Lib.hid hll
  have Hzn := Lib.hid hzn
  have Hok := Lib.hid hok
  have Hz0 := Lib.hid hz0'
  have Hsc := Lib.hid hsc
  have Hfin := Lib.hid hfin
  have Cr := Lib.hid cr
  have Ci := Lib.hid ci
  have HH := Lib.hid hr
  have HT := Lib.hid ht
  clear hat hfit hll hzn hok hsc cr ci h hr ht hfin hz0'
  generalize l.length = ln at *
  go_enter Tryz.func16, Tryz.ntmps16
  go_wp2
  obtain ⟨V, hV⟩ : ∃ V, V = w.alloc (.cells #[.string name, .slice p n cap] 33) := ⟨_, rfl⟩
  have hBV : Below w.heap.size w V := by rw [hV]; exact ba (Below.refl _ _)
  rw [← hV]
  clear hV
  go_loopw [19, 6] (fun z out wr => ∃ (k : Nat) (q : Option Addr) (c : Nat), z = .int .i64 k ∧ k ≤ n ∧ OkTo es k ∧ out = .slice q (endsL l (es.take k)).length c ∧ wr.ownsRow w.heap.size 2 1 (.slice q (endsL l (es.take k)).length c) (endsL l (es.take k)).length (ints (endsL l (es.take k))) ∧ Below w.heap.size w wr) (fun z _ _ => n - (intOf z).toNat)
  case atStart => exact ⟨0, none, 0, rfl, Nat.zero_le _, fun j e hj => absurd hj (Nat.not_lt_zero _), rfl, World.ownsRow_nil _ _ _ _, hBV⟩
  case round =>
    clear hBV
    obtain ⟨k, q, c, rfl, hk, hto, rfl, hown, hbel⟩ := hrel
    have hLk := endsL_len l es k
    have Hto := Lib.hid hto
    have Hbel := Lib.hid hbel
    have hbs := hbel.size
    by_cases hlt : k < n
    · obtain ⟨e, he⟩ := HLL.out k hlt
      have hes := endsL_succ (l := l) he
      generalize endsL l (es.take k) = L at *
      have Hown := Lib.hid hown
      have HES := Lib.hid hes
      clear hto hbel hown hes
      obtain ⟨b, off, cap', hq, hb, hcl⟩ := Hat.out k e he
      simp only [Value.slice.injEq] at hq
      obtain ⟨rfl, -, -⟩ := hq
      have cr := fun W h => Cr.out e (Hft.out e (List.mem_of_getElem? he)) W h
      have ci := fun W h h' => Ci.out e (Hft.out e (List.mem_of_getElem? he)) W h h'
      have hsc := Hsc.out k Hto.out e he
      have hzn := Hzn.out k e he
      unfold okAt at hsc hzn
      simp only at hsc hzn
      have hi : Er.rightB e = true → (Unt.instU l e).2 = if e.u.has then 0 else 12 := by
        intro h
        unfold Unt.instU
        rw [if_pos h]
        split <;> rfl
      generalize Er.rightB e = g at *
      generalize (Unt.instU l e).1 = t at *
      generalize (Unt.instU l e).2 = tw at *
      have hd : ∀ (j : Nat) (u : Value), e.cells[j]? = some u → wr.cell? ⟨b, off + k * 13 + j, none⟩ = some u := fun j u hu => (Hbel.out.cell (p := ⟨b, off + k * 13 + j, none⟩) hb).trans (hcl j u hu)
      unfold EraV.cells at hd cr ci
      have d0 := hd 0 _ rfl
      have d1 := hd 1 _ rfl
      have d2 := hd 2 _ rfl
      have d3 := hd 3 _ rfl
      have d4 := hd 4 _ rfl
      have d5 := hd 5 _ rfl
      have d6 := hd 6 _ rfl
      have d7 := hd 7 _ rfl
      have d8 := hd 8 _ rfl
      have d9 := hd 9 _ rfl
      have d10 := hd 10 _ rfl
      have d11 := hd 11 _ rfl
      have d12 := hd 12 _ rfl
      simp only [Nat.add_zero] at d0
      clear hd hcl he hb
      generalize e.u.has = has at *
      have CR := Lib.hid cr
      have CI := Lib.hid ci
      have HI := Lib.hid hi
      clear cr ci hi
      have hki : ((k : Int) < n - 1) ↔ (k + 1 < n) := by omega
      cases g <;> cases has <;> by_cases hkn : k + 1 < n
      all_goals
        first
          | have hki2 : decide ((k : Int) < n - 1) = true := by rw [decide_eq_true_eq]; exact hki.2 hkn
          | have hki2 : decide ((k : Int) < n - 1) = false := by rw [decide_eq_false_iff_not]; exact fun h => hkn (hki.1 h)
        clear hki
        first
          | (have hz := hzn (by simp [hkn])
             subst hz
             clear hsc hzn
             go_wp2_with (go_at_call 38; (with_reducible refine (CR.out _ ?_).mono ?_); (· exact HT.out.later (bt Hbel.out (by repeat (first | (with_reducible exact Below.refl _ _) | (with_reducible assumption) | (with_reducible refine ba ?_) | (with_reducible refine bd ?_) | (with_reducible refine bdn ?_ _) | (with_reducible refine bset ?_ (by first | exact Nat.le_refl _ | omega | (simp; done) | (simp; omega))) | (with_reducible refine bt ?_ (by with_reducible assumption)))))); rintro e w1 ⟨rfl, hb1⟩; obtain ⟨hc1, hf1⟩ := bcell hb1; have hc1_0 := fun o => hc1 (wr.heap.size) o (by first | assumption | omega | (simp; done) | (simp; omega)); have hf1_0 := fun o => hf1 (wr.heap.size) o (by first | assumption | omega | (simp; done) | (simp; omega)); clear hc1 hf1; have hz1_0 : wr.heap.size < w1.heap.size := (by first | exact sz1 hb1 | exact sz2 hb1 | exact sz3 hb1 | (have := hb1.size; (try simp only [World.size_alloc, World.size_drew] at this); omega)))
             go_ret2
             exact ⟨_, rfl, World.ownsRow_nil _ _ _ _, by have hbel := Hbel.out; repeat (first | (with_reducible exact Below.refl _ _) | (with_reducible assumption) | (with_reducible refine ba ?_) | (with_reducible refine bd ?_) | (with_reducible refine bdn ?_ _) | (with_reducible refine bset ?_ (by first | exact Nat.le_refl _ | omega | (simp; done) | (simp; omega))) | (with_reducible refine bt ?_ (by with_reducible assumption)))⟩)
          | (have HS := Lib.hid (hsc (by simp [hkn]))
             clear hsc hzn
             have htw := HI.out rfl
             simp only [if_true, if_false, Bool.false_eq_true] at htw
             subst htw
             have hes := HES.out
             simp only [if_true, if_false, Bool.false_eq_true, List.append_nil] at hes
             have HEQ := Lib.hid hes
             clear HES hes
             go_wp2_with (first
               | (go_at_call 38; (with_reducible refine (CR.out _ ?_).mono ?_); (· exact HT.out.later (bt Hbel.out (by repeat (first | (with_reducible exact Below.refl _ _) | (with_reducible assumption) | (with_reducible refine ba ?_) | (with_reducible refine bd ?_) | (with_reducible refine bdn ?_ _) | (with_reducible refine bset ?_ (by first | exact Nat.le_refl _ | omega | (simp; done) | (simp; omega))) | (with_reducible refine bt ?_ (by with_reducible assumption)))))); rintro e w1 ⟨rfl, hb1⟩; obtain ⟨hc1, hf1⟩ := bcell hb1; have hc1_0 := fun o => hc1 (wr.heap.size) o (by first | assumption | omega | (simp; done) | (simp; omega)); have hf1_0 := fun o => hf1 (wr.heap.size) o (by first | assumption | omega | (simp; done) | (simp; omega)); clear hc1 hf1; have hz1_0 : wr.heap.size < w1.heap.size := (by first | exact sz1 hb1 | exact sz2 hb1 | exact sz3 hb1 | (have := hb1.size; (try simp only [World.size_alloc, World.size_drew] at this); omega)))
               | (go_at_call 14; (with_reducible refine (CI.out _ ?_ ?_).mono ?_); (· exact HH.out.later (bt Hbel.out (by repeat (first | (with_reducible exact Below.refl _ _) | (with_reducible assumption) | (with_reducible refine ba ?_) | (with_reducible refine bd ?_) | (with_reducible refine bdn ?_ _) | (with_reducible refine bset ?_ (by first | exact Nat.le_refl _ | omega | (simp; done) | (simp; omega))) | (with_reducible refine bt ?_ (by with_reducible assumption)))))); (· exact HT.out.later (bt Hbel.out (by repeat (first | (with_reducible exact Below.refl _ _) | (with_reducible assumption) | (with_reducible refine ba ?_) | (with_reducible refine bd ?_) | (with_reducible refine bdn ?_ _) | (with_reducible refine bset ?_ (by first | exact Nat.le_refl _ | omega | (simp; done) | (simp; omega))) | (with_reducible refine bt ?_ (by with_reducible assumption)))))); rintro x w2 ⟨rfl, hb2⟩; have hs2 := hb2.size)
               | (at_builtin; (refine wpList_append_own _ (by rfl) _ _ 41 (by rfl) w.heap.size 2 j0 _ 1 8 Tryz.underlying41 hj0 hz0 hz1 hz2 (by rfl) (by decide) _ L.length _ (by rfl) ((own_later Hown.out (show Below wr.heap.size wr w2 by repeat (first | (with_reducible exact Below.refl _ _) | (with_reducible assumption) | (with_reducible refine ba ?_) | (with_reducible refine bd ?_) | (with_reducible refine bdn ?_ _) | (with_reducible refine bset ?_ (by first | exact Nat.le_refl _ | omega | (simp; done) | (simp; omega))) | (with_reducible refine bt ?_ (by with_reducible assumption))))).alloc _) ⟨w2.heap.size, 0, none⟩ 1 1 [.int .i64 t] (by rfl) (by rfl) (All.news_box (cs := #[.int .i64 t]) (t := 2) (Box.new _ _ _)) ?_ ?_ ?_ ?_ ?_; (· intro u hu; simp only [List.mem_cons, List.not_mem_nil, or_false] at hu; rcases hu with rfl; rfl); (· unfold maxLen; omega); (· first | omega | (simp; done) | (simp; omega)); (· first | omega | (simp; done) | (simp; omega)); intro v' w4 hown' hgrow _; obtain ⟨g4, cap4, rfl⟩ := ownsRow_succ hown')))
             have hbel := Hbel.out
             first
               | (have hB4 : Below w.heap.size w w4 := (ba (show Below w.heap.size w w2 by repeat (first | (with_reducible exact Below.refl _ _) | (with_reducible assumption) | (with_reducible refine ba ?_) | (with_reducible refine bd ?_) | (with_reducible refine bdn ?_ _) | (with_reducible refine bset ?_ (by first | exact Nat.le_refl _ | omega | (simp; done) | (simp; omega))) | (with_reducible refine bt ?_ (by with_reducible assumption))))).grown hgrow (by simp; omega) (fun j e => ROcc.own_row Hown.out j e)
                  have e1 : (L ++ [t]).length = L.length + 1 := by simp
                  have e2 : ints (L ++ [t]) = ints L ++ [.int .i64 t] := by simp [ints]
                  go_roundw
                  case rel => exact ⟨k + 1, some ⟨g4, 0, none⟩, cap4, by go_num, hlt, HS.out, by rw [HEQ.out, e1], by rw [HEQ.out, e1, e2]; exact hown', hB4⟩
                  case measure => simp [intOf]; omega)
               | (go_roundw
                  case rel => exact ⟨k + 1, q, c, by go_num, hlt, HS.out, by rw [HEQ.out], by rw [HEQ.out]; exact own_later Hown.out (by repeat (first | (with_reducible exact Below.refl _ _) | (with_reducible assumption) | (with_reducible refine ba ?_) | (with_reducible refine bd ?_) | (with_reducible refine bdn ?_ _) | (with_reducible refine bset ?_ (by first | exact Nat.le_refl _ | omega | (simp; done) | (simp; omega))) | (with_reducible refine bt ?_ (by with_reducible assumption)))), by repeat (first | (with_reducible exact Below.refl _ _) | (with_reducible assumption) | (with_reducible refine ba ?_) | (with_reducible refine bd ?_) | (with_reducible refine bdn ?_ _) | (with_reducible refine bset ?_ (by first | exact Nat.le_refl _ | omega | (simp; done) | (simp; omega))) | (with_reducible refine bt ?_ (by with_reducible assumption)))⟩
                  case measure => simp [intOf]; omega))
    · have hkn : k = n := by omega
      have hL := Hfin.out k hkn
      rw [hL] at hown ⊢
      by_cases hn0 : 0 < n
      · have hz := Hok.out k hkn Hto.out hn0
        subst hz
        have hn1 : ¬ (n : Int) - 1 < 0 := by omega
        have Hown := Lib.hid hown
        clear hown hto hbel
        go_wp2
        go_ret2
        exact ⟨_, rfl, by simpa using Hown.out, Hbel.out⟩
      · have hz := Hz0.out (by omega)
        subst hz
        have hn1 : (n : Int) - 1 < 0 := by omega
        clear hown hto hbel
        go_wp2
        go_ret2
        exact ⟨_, rfl, World.ownsRow_nil _ _ _ _, Hbel.out⟩
end Zn
end Go.Proofs.YtkpjhgkmjcdobaaGreatDoor
/-
  noontideref28: Light and Same, as the program runs them.
-/
namespace Go.Proofs.YtkpjhgkmjcdobaaGreatDoor
open Go.RowKit NB Nxt
namespace Zn
def lightE (e : EraV) : Bool := decide (e.rules.size ≤ 200) && decide (e.format.size ≤ 200)
/-- whether a zone is not too much -/
def lightZ (name : ByteArray) (es : List EraV) : Bool := decide (es.length ≤ 12) && decide (name.size ≤ 200) && es.all lightE
set_option maxRecDepth 100000 in
set_option maxHeartbeats 3200000 in
theorem LightZ {w : World} {v : Value} {es : List EraV} (h : HoldsE w v es) (name : ByteArray) (hnm : name.size ≤ 9223372036854775807) : Calls Tryz.prog 10 #[.agg #[.string name, v]] w fun e w' => e = .returned (.bool (lightZ name es)) ∧ Below w.heap.size w w' := by
  have hat := fun (k : Nat) (e : EraV) (he : es[k]? = some e) => h.at he
  have hfit := h.fit
  have hln := h.len
  obtain ⟨p, cap, rfl⟩ := h.form
  unfold lightZ
  have hll : ∀ k : Nat, k < es.length → ∃ e, es[k]? = some e := fun k hk => ⟨es[k], by simp⟩
  have hsc : ∀ (k : Nat) (e : EraV), es[k]? = some e → (es.take k).all lightE = true → lightE e = true → (es.take (k + 1)).all lightE = true := by
    intro k e he h1 h2
    rw [List.take_add_one, he, List.all_append, h1]
    simp [h2]
  have hno : ∀ (k : Nat) (e : EraV), es[k]? = some e → lightE e = false → es.all lightE = false := by
    intro k e he h1
    rw [Bool.eq_false_iff]
    intro h2
    rw [List.all_eq_true] at h2
    rw [h2 e (List.mem_of_getElem? he)] at h1
    cases h1
  have hfin : ∀ k, k = es.length → (es.take k).all lightE = es.all lightE := fun k hk => by rw [hk, List.take_length]
  obtain ⟨al, hal⟩ : ∃ x, x = es.all lightE := ⟨_, rfl⟩
  rw [← hal]
  rw [← hal] at hno hfin
  generalize es.length = n at *
  have Hat := Lib.hid hat
  have Hft := Lib.hid hfit
  have HLL := Lib.hid hll
  have Hsc := Lib.hid hsc
  have Hno := Lib.hid hno
  have Hfin := Lib.hid hfin
  clear hat hfit hll hsc hno hfin h hal
  by_cases h12 : n ≤ 12
  case neg =>
    rw [show decide (n ≤ 12) = false by simpa using h12]
    go_enter Tryz.func10, Tryz.ntmps10
    go_wp2
    go_ret
    exact ⟨rfl, by repeat (first | (with_reducible exact Below.refl _ _) | (with_reducible assumption) | (with_reducible refine ba ?_) | (with_reducible refine bd ?_) | (with_reducible refine bdn ?_ _) | (with_reducible refine bset ?_ (by first | exact Nat.le_refl _ | omega | (simp; done) | (simp; omega))) | (with_reducible refine bt ?_ (by with_reducible assumption)))⟩
  rw [show decide (n ≤ 12) = true by simpa using h12]
  by_cases h200 : name.size ≤ 200
  case neg =>
    rw [show decide (name.size ≤ 200) = false by simpa using h200]
    go_enter Tryz.func10, Tryz.ntmps10
    go_wp2
    go_ret
    exact ⟨rfl, by repeat (first | (with_reducible exact Below.refl _ _) | (with_reducible assumption) | (with_reducible refine ba ?_) | (with_reducible refine bd ?_) | (with_reducible refine bdn ?_ _) | (with_reducible refine bset ?_ (by first | exact Nat.le_refl _ | omega | (simp; done) | (simp; omega))) | (with_reducible refine bt ?_ (by with_reducible assumption)))⟩
  rw [show decide (name.size ≤ 200) = true by simpa using h200, Bool.true_and, Bool.true_and]
  go_enter Tryz.func10, Tryz.ntmps10
  go_wp2
  go_loopw [18] (fun z wr => ∃ k : Nat, z = .int .i64 k ∧ k ≤ n ∧ (es.take k).all lightE = true ∧ Below w.heap.size w wr) (fun z _ => n - (intOf z).toNat)
  case atStart => exact ⟨0, rfl, Nat.zero_le _, rfl, by repeat (first | (with_reducible exact Below.refl _ _) | (with_reducible assumption) | (with_reducible refine ba ?_) | (with_reducible refine bd ?_) | (with_reducible refine bdn ?_ _) | (with_reducible refine bset ?_ (by first | exact Nat.le_refl _ | omega | (simp; done) | (simp; omega))) | (with_reducible refine bt ?_ (by with_reducible assumption)))⟩
  case round =>
    obtain ⟨k, rfl, hk, hto, hbel⟩ := hrel
    have Hto := Lib.hid hto
    have Hbel := Lib.hid hbel
    clear hto hbel
    by_cases hlt : k < n
    · obtain ⟨e, he⟩ := HLL.out k hlt
      obtain ⟨b, off, cap', hq, hb, hcl⟩ := Hat.out k e he
      simp only [Value.slice.injEq] at hq
      obtain ⟨rfl, -, -⟩ := hq
      have hsc := Hsc.out k e he Hto.out
      have hno := Hno.out k e he
      have ef := Hft.out e (List.mem_of_getElem? he)
      have er := ef.r
      have ef2 := ef.f
      unfold lightE at hsc hno
      have hd : ∀ (j : Nat) (u : Value), e.cells[j]? = some u → wr.cell? ⟨b, off + k * 13 + j, none⟩ = some u := fun j u hu => (Hbel.out.cell (p := ⟨b, off + k * 13 + j, none⟩) hb).trans (hcl j u hu)
      unfold EraV.cells at hd
      have d0 := hd 0 _ rfl
      have d1 := hd 1 _ rfl
      have d2 := hd 2 _ rfl
      have d3 := hd 3 _ rfl
      have d4 := hd 4 _ rfl
      have d5 := hd 5 _ rfl
      have d6 := hd 6 _ rfl
      have d7 := hd 7 _ rfl
      have d8 := hd 8 _ rfl
      have d9 := hd 9 _ rfl
      have d10 := hd 10 _ rfl
      have d11 := hd 11 _ rfl
      have d12 := hd 12 _ rfl
      simp only [Nat.add_zero] at d0
      clear hd hcl he hb ef
      by_cases hg : e.rules.size ≤ 200 ∧ e.format.size ≤ 200
      · have HS := Lib.hid (hsc (by simp [hg.1, hg.2]))
        obtain ⟨g1, g2⟩ := hg
        clear hsc hno
        go_wp2
        have hbel := Hbel.out
        go_roundw
        case rel => exact ⟨k + 1, by go_num, hlt, HS.out, by repeat (first | (with_reducible exact Below.refl _ _) | (with_reducible assumption) | (with_reducible refine ba ?_) | (with_reducible refine bd ?_) | (with_reducible refine bdn ?_ _) | (with_reducible refine bset ?_ (by first | exact Nat.le_refl _ | omega | (simp; done) | (simp; omega))) | (with_reducible refine bt ?_ (by with_reducible assumption)))⟩
        case measure => simp [intOf]; omega
      · have HZ := Lib.hid (hno (by
          rw [Bool.and_eq_false_iff]
          simp only [decide_eq_false_iff_not]
          omega))
        clear hsc hno
        rcases (by omega : 200 < e.rules.size ∨ (e.rules.size ≤ 200 ∧ 200 < e.format.size)) with g1 | ⟨g1, g2⟩
        all_goals
          clear hg
          go_wp2
          have hbel := Hbel.out
          go_ret
          exact ⟨congrArg (fun v => Ending.returned (Value.bool v)) HZ.out.symm, by repeat (first | (with_reducible exact Below.refl _ _) | (with_reducible assumption) | (with_reducible refine ba ?_) | (with_reducible refine bd ?_) | (with_reducible refine bdn ?_ _) | (with_reducible refine bset ?_ (by first | exact Nat.le_refl _ | omega | (simp; done) | (simp; omega))) | (with_reducible refine bt ?_ (by with_reducible assumption)))⟩
    · have hkn : k = n := by omega
      have HR := Lib.hid ((Hfin.out k hkn).symm.trans Hto.out)
      go_wp2
      go_ret
      exact ⟨congrArg (fun v => Ending.returned (Value.bool v)) HR.out.symm, Hbel.out⟩
theorem SameI {w : World} {v1 v2 : Value} {B1 B2 : Nat} {L : List Int} (h1 : w.ownsRow B1 2 1 v1 L.length (ints L)) (h2 : w.ownsRow B2 2 1 v2 L.length (ints L)) (hn : L.length ≤ 100000) :
    Calls Tryz.prog 20 #[v1, v2] w fun e w' => e = .returned (.bool true) ∧ Below w.heap.size w w' := by
  by_cases h0 : L.length = 0
  · obtain ⟨p1, c1, rfl⟩ := Grp.own_form h1
    obtain ⟨p2, c2, rfl⟩ := Grp.own_form h2
    rw [h0]
    clear h1 h2
    go_enter Tryz.func20, Tryz.ntmps20
    go_wp2
    go_loopw [13] (fun i wr => i = .int .i64 0 ∧ Below w.heap.size w wr) (fun i _ => 0)
    case atStart => exact ⟨rfl, Below.refl _ _⟩
    case round =>
      obtain ⟨rfl, hbel⟩ := hrel
      go_wp2
      go_ret
      exact ⟨rfl, hbel⟩
  · obtain ⟨g1, ⟨c1, rfl⟩, _, l1, r1⟩ := Grp.own_cell (j := 0) h1 (by omega)
    obtain ⟨g2, ⟨c2, rfl⟩, _, l2, r2⟩ := Grp.own_cell (j := 0) h2 (by omega)
    have f1 : ∀ (i : Nat) (t : Int), L[i]? = some t → w.cell? ⟨g1, i, none⟩ = some (.int .i64 t) := fun i t ht => r1 _ _ (by unfold ints; rw [List.getElem?_map, ht]; rfl)
    have f2 : ∀ (i : Nat) (t : Int), L[i]? = some t → w.cell? ⟨g2, i, none⟩ = some (.int .i64 t) := fun i t ht => r2 _ _ (by unfold ints; rw [List.getElem?_map, ht]; rfl)
    obtain ⟨n, hN⟩ : ∃ n, n = L.length := ⟨_, rfl⟩
    rw [← hN] at hn ⊢
    have F1 := Lib.hid f1
    have F2 := Lib.hid f2
    have HN := Lib.hid hN
    clear f1 f2 h1 h2 r1 r2 h0 hN
    go_enter Tryz.func20, Tryz.ntmps20
    go_wp2
    go_loopw [13] (fun i wr => ∃ k : Nat, i = .int .i64 k ∧ k ≤ n ∧ Below w.heap.size w wr) (fun i _ => n - (intOf i).toNat)
    case atStart => exact ⟨0, rfl, Nat.zero_le _, Below.refl _ _⟩
    case round =>
      obtain ⟨k, rfl, hk, hbel⟩ := hrel
      by_cases hlt : k < n
      · obtain ⟨t, ht⟩ : ∃ o, L[k]? = some o := ⟨L[k]'(by rw [← HN.out]; exact hlt), by simp⟩
        have a0 := (hbel.cell (p := ⟨g1, k, none⟩) l1).trans (F1.out k t ht)
        have b0 := (hbel.cell (p := ⟨g2, k, none⟩) l2).trans (F2.out k t ht)
        have Hb := Lib.hid hbel
        clear hbel ht
        go_wp2
        go_quiet (fail)
        go_wp2
        have hb2 := Hb.out
        go_roundw
        case rel => exact ⟨k + 1, by go_num, by omega, by repeat (first | (with_reducible exact Below.refl _ _) | (with_reducible assumption) | (with_reducible refine ba ?_) | (with_reducible refine bd ?_) | (with_reducible refine bdn ?_ _) | (with_reducible refine bset ?_ (by first | exact Nat.le_refl _ | omega | (simp; done) | (simp; omega))) | (with_reducible refine bt ?_ (by with_reducible assumption)))⟩
        case measure => simp [intOf]; omega
      · go_wp2
        go_ret
        exact ⟨rfl, hbel⟩
end Zn
end Go.Proofs.YtkpjhgkmjcdobaaGreatDoor
