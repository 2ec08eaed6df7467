import Derived.Test.YtecmipgpldcfcaaGreatDoorUntil
import Derived.Test.YtecmipgpldcfcaaGreatDoorG9
import Derived.Test.YtecmipgpldcfcaaGreatDoorG11
import Derived.Test.YtecmipgpldcfcaaGreatDoorG10
import Derived.Maps.AppendAt
import Derived.RangeFuncBox
import Derived.Test.YtecmipgpldcfcaaGreatDoorG7
namespace Go.Proofs.YtecmipgpldcfcaaGreatDoor
open Go.RowKit NB Nxt
namespace RUnt
open Unt
set_option maxHeartbeats 1600000 in
theorem Nom (u : UntilV) (_hu : u.Fit) (w : World) : Calls Tryz.prog 73 #[.agg u.cells.toArray] w fun x w' => x = .returned (.tuple #[.int .i64 (nomU u).1, .int .i64 (nomU u).2]) ∧ Below w.heap.size w w' := by
  have cr := fun W => REr.End u W
  have cd := fun W => RDay.Days u.kind u.week u.day u.year u.month W
  unfold nomU UntilV.cells
  unfold UntilV.cells at cr
  cases hh : u.has
  · rw [if_neg (by decide)]
    clear cr cd hh
    go_enter Tryz.func73, Tryz.ntmps73
    go_wp2
    go_ret2
    exact ⟨rfl, bcq⟩
  rw [hh] at cr
  rw [if_pos rfl]
  cases he : Er.endB u
  · rw [if_neg (by decide)]
    rw [he] at cr
    have Cr := Lib.hid cr
    clear cr cd hh he
    go_enter Tryz.func73, Tryz.ntmps73
    go_wp2_with (go_at_call 76;(with_reducible refine (Cr.out _).mono ?_);rintro e w1 ⟨rfl, hb1⟩;obtain ⟨hc1_0, hf1_0, hz1_0⟩ := bcs hb1 (w.heap.size))
    go_ret2
    exact ⟨rfl, bcq⟩
  · rw [if_pos rfl]
    obtain ⟨s1, s2, s3, s4, s5, s6⟩ := end_spec hh he
    rw [he] at cr
    rw [s2, if_pos rfl, if_pos (by omega)] at cd
    unfold nomV at *
    generalize Day.dayI u.kind u.week u.day u.year u.month = d at *
    have Cr := Lib.hid cr
    have Cd := Lib.hid cd
    clear cr cd hh he s2
    go_enter Tryz.func73, Tryz.ntmps73
    go_wp2_with (first
      | (go_at_call 76;(with_reducible refine (Cr.out _).mono ?_);rintro e w1 ⟨rfl, hb1⟩;obtain ⟨hc1_0, hf1_0, hz1_0⟩ := bcs hb1 (w.heap.size))
      | (go_at_call 123;(with_reducible refine (Cd.out _).mono ?_);rintro e w2 ⟨rfl, hb2⟩;obtain ⟨hc2_0, hf2_0, hz2_0⟩ := bcs hb2 (w.heap.size)))
    go_ret2
    exact ⟨rfl, bcq⟩
set_option maxRecDepth 100000 in
set_option maxHeartbeats 3200000 in
theorem Instant {w : World} {v : Value} {l : List RuleV} (h : Holds w v l) (e : EraV) (he : e.Fit) : Calls Tryz.prog 46 #[v, .agg e.cells.toArray] w fun x w' => x = .returned (.tuple #[.int .i64 (instU l e).1, .int .i64 (instU l e).2]) ∧ Below w.heap.size w w' := by
  have cr := fun W => REr.Right e he W
  have cn := fun W => Nom e.u he.u W
  have ck := fun W (h : Holds W v l) => RCh.Saved h e.rules ⟨-1, 0, nomV e.u⟩
  unfold instU
  cases hR : Er.rightB e
  · rw [hR] at cr
    rw [if_neg (by decide)]
    unfold EraV.cells at *
    have Cr := Lib.hid cr
    obtain ⟨q, cap, rfl⟩ := h.form
    clear cr cn ck h hR
    generalize l.length = n at *
    go_enter Tryz.func46, Tryz.ntmps46
    go_wp2_with (go_at_call 47;(with_reducible refine (Cr.out _).mono ?_);rintro e w1 ⟨rfl, hb1⟩;obtain ⟨hc1_0, hf1_0, hz1_0⟩ := bcs hb1 (w.heap.size))
    go_ret2
    exact ⟨rfl, bcq⟩
  obtain ⟨r1, r2, r3, r4⟩ := right_spec hR
  have sb := saved_bd (l := l) hR (nomV e.u)
  rw [hR] at cr
  rw [if_pos rfl]
  unfold nomU at cn
  obtain ⟨q, cap, rfl⟩ := h.form
  obtain ⟨off, kind, save, rules, format, u⟩ := e
  simp only at *
  unfold EraV.cells at *
  unfold UntilV.cells at *
  simp only at *
  cases hh : u.has
  · rw [hh] at cr cn
    rw [if_neg (by decide)] at cn ⊢
    have Cr := Lib.hid cr
    have Cn := Lib.hid cn
    clear cr cn ck h hR he
    generalize l.length = n at *
    go_enter Tryz.func46, Tryz.ntmps46
    go_wp2_with (first
      | (go_at_call 47;(with_reducible refine (Cr.out _).mono ?_);rintro e w1 ⟨rfl, hb1⟩;obtain ⟨hc1_0, hf1_0, hz1_0⟩ := bcs hb1 (w.heap.size))
      | (go_at_call 73;(with_reducible refine (Cn.out _).mono ?_);rintro e w2 ⟨rfl, hb2⟩;obtain ⟨hc2_0, hf2_0, hz2_0⟩ := bcs hb2 (w.heap.size)))
    go_ret2
    exact ⟨rfl, bcq⟩
  obtain ⟨s1, s2, s3, s4, s5, s6⟩ := end_spec hh r2
  rw [hh] at cr cn
  rw [if_pos rfl, if_pos r2] at cn
  rw [if_pos rfl]
  unfold savedE at *
  simp only at *
  generalize nomV u = n at *
  by_cases hk : kind = 2
  · subst hk
    rw [if_pos rfl] at sb ⊢
    have ck1 := fun W h => ck W h (by unfold I64;omega)
    unfold OccV.cells at ck1
    generalize Chn.saved l rules ⟨-1, 0, n⟩ = s at *
    simp only at ck1
    unfold Chn.shift
    have HH := Lib.hid h
    have Cr := Lib.hid cr
    have Cn := Lib.hid cn
    have Ck := Lib.hid ck1
    clear cr cn ck ck1 h hR he r2 s2 hh
    generalize l.length = m at *
    have hb : u.base = 0 ∨ u.base = 1 ∨ u.base = 2 := by omega
    obtain ⟨has, year, month, uk, week, day, sec, base⟩ := u
    simp only at *
    rcases hb with rfl|rfl|rfl
    all_goals
      go_enter Tryz.func46, Tryz.ntmps46
      go_wp2_with (first
        | (go_at_call 47;(with_reducible refine (Cr.out _).mono ?_);rintro e w1 ⟨rfl, hb1⟩;obtain ⟨hc1_0, hf1_0, hz1_0⟩ := bcs hb1 (w.heap.size))
        | (go_at_call 73;(with_reducible refine (Cn.out _).mono ?_);rintro e w2 ⟨rfl, hb2⟩;obtain ⟨hc2_0, hf2_0, hz2_0⟩ := bcs hb2 (w.heap.size))
        | (go_at_call 74;(with_reducible refine (Ck.out _ ?_).mono ?_);(· exact HH.out.later bcq);rintro e w3 ⟨rfl, hb3⟩;obtain ⟨hc3_0, hf3_0, hz3_0⟩ := bcs hb3 (w.heap.size)))
      go_ret2
      exact ⟨ret_ii (by first|rfl|omega|(simp;done)|(simp;omega)) rfl, bcq⟩
  · rw [if_neg hk] at sb ⊢
    unfold Chn.shift
    have Cr := Lib.hid cr
    have Cn := Lib.hid cn
    clear cr cn ck h hR he r2 s2 hh
    generalize l.length = m at *
    have hb : u.base = 0 ∨ u.base = 1 ∨ u.base = 2 := by omega
    obtain ⟨has, year, month, uk, week, day, sec, base⟩ := u
    simp only at *
    rcases hb with rfl|rfl|rfl
    all_goals
      go_enter Tryz.func46, Tryz.ntmps46
      go_wp2_with (first
        | (go_at_call 47;(with_reducible refine (Cr.out _).mono ?_);rintro e w1 ⟨rfl, hb1⟩;obtain ⟨hc1_0, hf1_0, hz1_0⟩ := bcs hb1 (w.heap.size))
        | (go_at_call 73;(with_reducible refine (Cn.out _).mono ?_);rintro e w2 ⟨rfl, hb2⟩;obtain ⟨hc2_0, hf2_0, hz2_0⟩ := bcs hb2 (w.heap.size)))
      go_ret2
      exact ⟨ret_ii (by first|rfl|omega|(simp;done)|(simp;omega)) rfl, bcq⟩
end RUnt
end Go.Proofs.YtecmipgpldcfcaaGreatDoor
namespace Go.Proofs.YtecmipgpldcfcaaGreatDoor
open Go.RowKit NB Nxt
namespace Zn
def okAt (n : Nat) (x : EraV × Nat) : Bool := Er.rightB x.1 && (x.1.u.has == decide (x.2 + 1 < n))
def zoneB (es : List EraV) : Bool := decide (0 < es.length) && es.zipIdx.all (okAt es.length)
def OkTo (es : List EraV) (k : Nat) : Prop := ∀ (j : Nat) (e : EraV), j < k → es[j]? = some e → okAt es.length (e, j) = true
theorem zone_iff {es : List EraV} : zoneB es = true ↔ 0 < es.length ∧ OkTo es es.length := by
  unfold zoneB OkTo
  rw [Bool.and_eq_true, decide_eq_true_eq, List.all_eq_true]
  constructor
  · rintro ⟨h1, h2⟩
    exact ⟨h1, fun j e hj he => h2 (e, j) (List.mem_zipIdx_iff_getElem?.2 he)⟩
  · rintro ⟨h1, h2⟩
    refine ⟨h1, fun x hx => ?_⟩
    have he := List.mem_zipIdx_iff_getElem?.1 hx
    exact h2 x.2 x.1 (List.getElem?_eq_some_iff.1 he).1 he
theorem OkTo.succ {es : List EraV} {k : Nat} (h : OkTo es k) {e : EraV} (he : es[k]? = some e) (hk : okAt es.length (e, k) = true) : OkTo es (k + 1) := by
  intro j x hj hx
  rcases (by omega : j < k ∨ j = k) with h1|rfl
  · exact h j x h1 hx
  · rw [he] at hx
    cases hx
    exact hk
theorem zone_not {es : List EraV} {k : Nat} {e : EraV} (he : es[k]? = some e) (hk : okAt es.length (e, k) = false) : zoneB es = false := by
  rw [Bool.eq_false_iff]
  intro h
  have := (zone_iff.1 h).2 k e (List.getElem?_eq_some_iff.1 he).1 he
  rw [hk] at this
  cases this
set_option maxRecDepth 100000 in
set_option maxHeartbeats 3200000 in
theorem Zone {w : World} {v : Value} {es : List EraV} (h : HoldsE w v es) (name : ByteArray) : Calls Tryz.prog 45 #[.agg #[.string name, v]] w fun e w' => e = .returned (.bool (zoneB es)) ∧ Below w.heap.size w w' := by
  have hat := fun (k : Nat) (e : EraV) (he : es[k]? = some e) => h.at he
  have hfit := h.fit
  have hln := h.len
  obtain ⟨p, cap, rfl⟩ := h.form
  have cr := fun (e : EraV) (he : e.Fit) W => REr.Right e he W
  have hll : ∀ k : Nat, k < es.length → ∃ e, es[k]? = some e := fun k hk => ⟨es[k], by simp⟩
  have hzn := fun (k : Nat) (e : EraV) (he : es[k]? = some e) => zone_not (k := k) he
  have hok : ∀ k, k = es.length → OkTo es k → zoneB es = decide (0 < es.length) := by
    intro k hk ho
    by_cases h0 : 0 < es.length
    · rw [zone_iff.2 ⟨h0, hk ▸ ho⟩];simp [h0]
    · unfold zoneB;simp [h0]
  have hsc := fun (k : Nat) (ho : OkTo es k) (e : EraV) (he : es[k]? = some e) => ho.succ he
  generalize zoneB es = zb at *
  generalize es.length = n at *
  have Hat := Lib.hid hat
  have Hft := Lib.hid hfit
  have HLL := Lib.hid hll
  have Hzn := Lib.hid hzn
  have Hok := Lib.hid hok
  have Hsc := Lib.hid hsc
  have Cr := Lib.hid cr
  clear hat hfit hll hzn hok hsc cr h
  go_enter Tryz.func45, Tryz.ntmps45
  go_wp2
  go_loopw [8] (fun z wr => ∃ k : Nat, z = .int .i64 k ∧ k ≤ n ∧ OkTo es k ∧ Below w.heap.size w wr ∧ Box wr w.heap.size #[.string name, .slice p n cap] 39) (fun z _ => n - (intOf z).toNat)
  case atStart => exact ⟨0, rfl, Nat.zero_le _, fun j e hj => absurd hj (Nat.not_lt_zero _), bcq, Box.new _ _ _⟩
  case round =>
    obtain ⟨k, rfl, hk, hto, hbel, hbx⟩ := hrel
    have c0 := hbx.cell 0
    have c1 := hbx.cell 1
    have l0 := hbx.lt
    have Hto := Lib.hid hto
    have Hbel := Lib.hid hbel
    have Hbx := Lib.hid hbx
    clear hto hbel hbx
    by_cases hlt : k < n
    · obtain ⟨e, he⟩ := HLL.out k hlt
      obtain ⟨b, off, cap', hq, hb, hcl⟩ := Hat.out k e he
      simp only [Value.slice.injEq] at hq
      obtain ⟨rfl, -, -⟩ := hq
      have cr := fun W => Cr.out e (Hft.out e (List.mem_of_getElem? he)) W
      have hsc := Hsc.out k Hto.out e he
      have hzn := Hzn.out k e he
      unfold okAt at hsc hzn
      simp only at hsc hzn
      generalize Er.rightB e = g at *
      have hd : ∀ (j : Nat) (u : Value), e.cells[j]? = some u → wr.cell? ⟨b, off + k * 13 + j, none⟩ = some u := fun j u hu => (Hbel.out.cell (p := ⟨b, off + k * 13 + j, none⟩) hb).trans (hcl j u hu)
      unfold EraV.cells at hd cr
      have d0 := hd 0 _ rfl
      have d1 := hd 1 _ rfl
      have d2 := hd 2 _ rfl
      have d3 := hd 3 _ rfl
      have d4 := hd 4 _ rfl
      have d5 := hd 5 _ rfl
      have d6 := hd 6 _ rfl
      have d7 := hd 7 _ rfl
      have d8 := hd 8 _ rfl
      have d9 := hd 9 _ rfl
      have d10 := hd 10 _ rfl
      have d11 := hd 11 _ rfl
      have d12 := hd 12 _ rfl
      simp only [Nat.add_zero] at d0
      clear hd hcl he hb
      generalize e.u.has = has at *
      have CR := Lib.hid cr
      clear cr
      have hki : ((k : Int) < n - 1) ↔ (k + 1 < n) := by omega
      cases g <;> cases has <;> by_cases hkn : k + 1 < n
      all_goals
        first
          | have hki2 : decide ((k : Int) < n - 1) = true := by rw [decide_eq_true_eq];exact hki.2 hkn
          | have hki2 : decide ((k : Int) < n - 1) = false := by rw [decide_eq_false_iff_not];exact fun h => hkn (hki.1 h)
        clear hki
        first
          | (have HZ := Lib.hid (hzn (by simp [hkn]))
             clear hsc hzn
             go_wp2_with (go_at_call 47;(with_reducible refine (CR.out _).mono ?_);rintro e w1 ⟨rfl, hb1⟩;obtain ⟨hc1_0, hf1_0, hz1_0⟩ := bcs hb1 (w.heap.size);obtain ⟨hc1_1, hf1_1, hz1_1⟩ := bcs hb1 (wr.heap.size))
             go_ret
             exact ⟨congrArg (fun v => Ending.returned (Value.bool v)) HZ.out.symm, by have hbel := Hbel.out;exact bcq⟩)
          | (have HS := Lib.hid (hsc (by simp [hkn]))
             clear hsc hzn
             go_wp2_with (go_at_call 47;(with_reducible refine (CR.out _).mono ?_);rintro e w1 ⟨rfl, hb1⟩;obtain ⟨hc1_0, hf1_0, hz1_0⟩ := bcs hb1 (w.heap.size);obtain ⟨hc1_1, hf1_1, hz1_1⟩ := bcs hb1 (wr.heap.size))
             have hbel := Hbel.out
             have hbx := Hbx.out
             go_roundw
             case rel => exact ⟨k + 1, by go_num, hlt, HS.out, bcq, bxq⟩
             case measure => simp [intOf];omega)
    · have hkn : k = n := by omega
      have HR := Lib.hid (Hok.out k hkn Hto.out)
      by_cases hn0 : 0 < n
      · have hn1 : (0 : Int) < n := by omega
        go_wp2
        go_ret
        exact ⟨congrArg (fun v => Ending.returned (Value.bool v)) (by rw [HR.out];simp [hn0]), Hbel.out⟩
      · have hn1 : n = 0 := by omega
        subst hn1
        go_wp2
        go_ret
        exact ⟨congrArg (fun v => Ending.returned (Value.bool v)) (by rw [HR.out];simp), Hbel.out⟩
end Zn
end Go.Proofs.YtecmipgpldcfcaaGreatDoor
namespace Go.Proofs.YtecmipgpldcfcaaGreatDoor
open Go.RowKit Go.Shelf NB Nxt
attribute [local go_sem] Oper.semAt_some
namespace Spn
end Spn
namespace All
def RowPost (w : World) (l : List OccV) (e : Ending) (w' : World) : Prop := ∃ v, e = .returned v ∧ w'.ownsRow w.heap.size 67 3 v l.length (l.flatMap OccV.cells) ∧ Below w.heap.size w w'
theorem info_occ : (Tryz.prog.info? 67).map (fun i => (i.zero, i.size, i.bytes)) = some (some (.agg #[.int .i64 0, .int .i64 0, .int .i64 0]), 3, 24) := by kernel_rfl
theorem own_mono {w : World} {B B' : Nat} {e : TypeId} {sz n : Nat} {v : Value} {xs : List Value} (h : w.ownsRow B e sz v n xs) (hB : B' ≤ B) : w.ownsRow B' e sz v n xs := by
  refine ⟨h.1, ?_⟩
  rcases h.2 with h2|⟨g, cap, cur, h1, h2, h3⟩
  · exact .inl h2
  · exact .inr ⟨g, cap, cur, h1, Nat.le_trans hB h2, h3⟩
theorem grown_set (W : World) (b o : Nat) (v : Value) : W.grownBy (W.setCell ⟨b, o, none⟩ v) (some b) :=
  ⟨rfl, rfl, rfl, (KeepsWalks.setCell W _ v).size, fun k _ hk => Below.heap_setCell _ _ _ k (fun e => hk (by rw [e]))⟩
theorem row_ge {w : World} {B : Nat} {e : TypeId} {sz n : Nat} {v : Value} {xs : List Value} (h : w.ownsRow B e sz v n xs) : ∀ k, v.ownBlock = some k → B ≤ k := by
  intro k hk
  rcases h.2 with ⟨rfl, _⟩|⟨g, cap, cur, rfl, h2, _⟩
  · simp [Value.ownBlock] at hk
  · obtain rfl : g = k := by simpa [Value.ownBlock] using hk
    exact h2
theorem row_not {w : World} {B c : Nat} {e : TypeId} {sz n : Nat} {v : Value} {xs : List Value} (h : w.ownsRow B e sz v n xs) (hc : c < B) : some c ≠ v.ownBlock := by
  intro e'
  have := row_ge h c e'.symm
  omega
theorem news_box {w : World} {b : Nat} {cs : Array Value} {t : TypeId} (h : Box w b cs t) : ∀ j u, cs.toList[j]? = some u → w.cell? ((⟨b, 0, none⟩ : Addr).add j) = some u := by
  intro j u hu
  have hadd : (⟨b, 0, none⟩ : Addr).add j = ⟨b, j, none⟩ := by unfold Addr.add;split <;> simp_all
  rw [hadd, h.cell]
  simpa using hu
def inO (l : List RuleV) (name : ByteArray) (fr tt most : Int) : List OccV := if fr < tt then Occ.inL l name tt ⟨-1, 0, fr⟩ most.toNat else []
variable {F : Fence} {n : Nat}
end All
end Go.Proofs.YtecmipgpldcfcaaGreatDoor
namespace Go.Proofs.YtecmipgpldcfcaaGreatDoor
open Go.RowKit NB Nxt
namespace RIn
theorem Right10 (a b : Int) (w : World) : Calls Tryz.prog 253 #[.agg #[.int .i64 a, .int .i64 b]] w fun e w' => e = .returned (.bool (decide (a < b))) ∧ Below w.heap.size w w' := by
  go_enter Tryz.func253, Tryz.ntmps253
  go_wp2
  go_ret
  exact ⟨rfl, bcq⟩
def cont (l : List RuleV) (name : ByteArray) (T : Int) (c : Option OccV) (m : Nat) : List OccV := match c, m with
  | some o, m + 1 => if o.nom < T then o :: Occ.inL l name T o m else []
  | _, _ => []
theorem inL_cont (l : List RuleV) (name : ByteArray) (T : Int) (fr : OccV) (m : Nat) : Occ.inL l name T fr m = cont l name T (Occ.nextO l name fr) m := by
  cases m with
  | zero => unfold Occ.inL cont;cases Occ.nextO l name fr <;> rfl
  | succ m =>
    unfold Occ.inL cont
    cases Occ.nextO l name fr <;> rfl
theorem all_i64 {l : List RuleV} {name : ByteArray} {o : OccV} (h : Occ.All l name l.length o) : I64 o.nom := by
  have := Occ.all_bd h
  unfold I64
  omega
set_option maxRecDepth 100000 in
set_option maxHeartbeats 6400000 in
theorem In {v : Value} {l : List RuleV} {w : World} (hH : Holds w v l) (name : ByteArray) (fr tt most : Int) (hfr : I64 fr) (hmax : most ≤ 100000) :
    Calls Tryz.prog 230 #[v, .string name, .agg #[.int .i64 fr, .int .i64 tt], .int .i64 most] w (All.RowPost w (All.inO l name fr tt most)) := by
  obtain ⟨p, cap, rfl⟩ := hH.form
  have cs := fun W => Right10 fr tt W
  unfold All.inO
  by_cases hlt : fr < tt
  · rw [if_pos hlt]
    rw [show decide (fr < tt) = true by simpa using hlt] at cs
    have cn0 := fun W (h : Holds W (.slice p l.length cap) l) => RNxH.Next h name ⟨-1, 0, fr⟩ hfr
    have cn := fun W (o : OccV) (ho : I64 o.nom) (h : Holds W (.slice p l.length cap) l) => RNxH.Next h name o ho
    obtain ⟨i1, y1, k1, eV, eC⟩ := All.opt_parts (Occ.nextO l name ⟨-1, 0, fr⟩)
    rw [eV] at cn0
    have hc0 := inL_cont l name tt ⟨-1, 0, fr⟩ most.toNat
    rw [hc0]
    obtain ⟨R, hR⟩ : ∃ R, R = cont l name tt (Occ.nextO l name ⟨-1, 0, fr⟩) most.toNat := ⟨_, rfl⟩
    rw [← hR]
    have hi0 : ∀ o, Occ.nextO l name ⟨-1, 0, fr⟩ = some o → I64 o.nom := fun o ho => all_i64 (Occ.next_all ho).1
    have hi1 : ∀ o x, Occ.nextO l name o = some x → I64 x.nom := fun o x hx => all_i64 (Occ.next_all hx).1
    obtain ⟨c0, hcc⟩ : ∃ c, c = Occ.nextO l name ⟨-1, 0, fr⟩ := ⟨_, rfl⟩
    rw [← hcc] at cn0 hR hi0 eC
    clear hcc hc0 eV
    obtain ⟨g0, hg0⟩ : ∃ g, g = c0.isSome := ⟨_, rfl⟩
    rw [← hg0] at cn0
    unfold OccV.cells at cn0 cn
    simp only at cn0
    obtain ⟨j0, hj0, hz0, hz1, hz2⟩ := info_parts All.info_occ
    have HH := Lib.hid hH
    have Cs := Lib.hid cs
    have Cn0 := Lib.hid cn0
    have Cn := Lib.hid cn
    have HR := Lib.hid hR
    have Hi0 := Lib.hid hi0
    have Hi1 := Lib.hid hi1
    have Hg0 := Lib.hid hg0
    have EC := Lib.hid eC
    clear hH cs cn0 cn hR hi0 hi1 hg0 eC
    obtain ⟨len, hlen⟩ : ∃ n, n = l.length := ⟨_, rfl⟩
    rw [← hlen] at HH Cn0 Cn ⊢
    clear hlen
    go_enter Tryz.func230, Tryz.ntmps230
    go_wp2_with (first
      | (go_at_call 253;(with_reducible refine (Cs.out _).mono ?_);rintro e w1 ⟨rfl, hb1⟩;obtain ⟨hc1_0, hf1_0, hz1_0⟩ := bcs hb1 (w.heap.size))
      | (go_at_call 254;(with_reducible refine (Cn0.out _ ?_).mono ?_);(· exact HH.out.later bcq);rintro e w2 ⟨rfl, hb2⟩;obtain ⟨hc2_0, hf2_0, hz2_0⟩ := bcs hb2 (w.heap.size)))
    obtain ⟨q, hq⟩ : ∃ q, q = w2.heap.size := ⟨_, rfl⟩
    obtain ⟨V, hV⟩ : ∃ V, V = w2.alloc (.cells #[.int .i64 i1, .int .i64 y1, .int .i64 k1] 67) := ⟨_, rfl⟩
    have hqV : q < V.heap.size := by rw [hV, hq];simp
    have hBV : Below w.heap.size w V := by rw [hV];exact bcq
    have bq : Box V q (All.optC c0) 67 := by rw [hV, hq, EC.out];exact Box.new _ _ _
    have bs : Box V w.heap.size #[.int .i64 fr, .int .i64 tt] 58 := by rw [hV];exact bxq
    have hwq : w.heap.size < q := by rw [hq];exact Nat.lt_of_lt_of_le hz1_0 hb2.size
    rw [← hq, ← hV]
    clear hV hq hb1 hb2 hc1_0 hf1_0 hc2_0 hf2_0
    obtain ⟨N, hN⟩ : ∃ N, N = V.heap.size := ⟨_, rfl⟩
    have hqN : q < N := by omega
    have hVN : N ≤ V.heap.size := by omega
    clear hN
    have HBV := Lib.hid hBV
    have Hbq := Lib.hid bq
    have Hbs := Lib.hid bs
    clear hBV bq bs
    go_loopw [9, 11] (fun out m wr => ∃ (L : List OccV) (c : Option OccV) (p : Option Addr) (cap : Nat), out = .slice p L.length cap ∧ m = .bool c.isSome ∧ wr.ownsRow N 67 3 (.slice p L.length cap) L.length (L.flatMap OccV.cells) ∧ L.length ≤ most.toNat ∧ R = L ++ cont l name tt c (most.toNat - L.length) ∧ Box wr q (All.optC c) 67 ∧ Box wr w.heap.size #[.int .i64 fr, .int .i64 tt] 58 ∧ Below w.heap.size w wr ∧ N ≤ wr.heap.size ∧ (∀ o, c = some o → I64 o.nom)) (fun out _ _ => match out with|.slice _ k _ => most.toNat - k|_ => 0)
    case atStart => exact ⟨[], c0, none, 0, rfl, by rw [Hg0.out], World.ownsRow_nil _ _ _ _, Nat.zero_le _, by rw [HR.out];rfl, Hbq.out, Hbs.out, HBV.out, hVN, Hi0.out⟩
    case round =>
      obtain ⟨L, c, sp, sc, rfl, rfl, hown, hLm, hRe, hbq, hbs, hB, hNs, hci⟩ := hrel
      have s1 := hbs.cell 1
      have hsl := hbs.lt
      cases c with
      | none =>
        have hRL : R = L := by rw [hRe];unfold cont;simp
        have Hown := Lib.hid hown
        have HB := Lib.hid hB
        clear hown hB hRe hbq hci
        go_wp2
        go_ret
        exact ⟨_, rfl, by first|exact All.own_mono Hown.out (by omega)|(rw [hRL];exact All.own_mono Hown.out (by omega)), HB.out⟩
      | some o =>
        have e0 := hbq.cell 0
        have e1 := hbq.cell 1
        have e2 := hbq.cell 2
        unfold All.optC at e0 e1 e2
        rw [show (some o).isSome = true from rfl]
        have Hown := Lib.hid hown
        have HB := Lib.hid hB
        have Hbq1 := Lib.hid hbq
        have Hbs1 := Lib.hid hbs
        have HRe := Lib.hid hRe
        have hoi := hci o rfl
        have Hoi := Lib.hid hoi
        clear hown hB hbq hbs hRe hci hoi
        by_cases hn : o.nom < tt
        · by_cases hm : L.length < most.toNat
          · have hm' : (L.length : Int) < most := by omega
            obtain ⟨i2, y2, k2, eV2, eC2⟩ := All.opt_parts (Occ.nextO l name o)
            have cn2 := fun W (h : Holds W (.slice p len cap) l) => Cn.out W o Hoi.out h
            rw [eV2] at cn2
            obtain ⟨g2, hg2⟩ : ∃ g, g = (Occ.nextO l name o).isSome := ⟨_, rfl⟩
            rw [← hg2] at cn2
            have Cn2 := Lib.hid cn2
            have Hg2 := Lib.hid hg2
            have Ec2 := Lib.hid eC2
            have hqr : q < wr.heap.size := Hbq1.out.lt
            clear cn2 hg2 eC2 eV2
            go_wp2_with (first
              | (at_builtin;refine wpList_append_own _ (by rfl) _ _ 169 (by rfl) N 67 j0 _ 3 24 Tryz.underlying169 hj0 hz0 hz1 hz2 (by rfl) (by decide) _ L.length _ (by rfl) (Hown.out.alloc _) ⟨wr.heap.size, 0, none⟩ 1 1 [.int .i64 o.rule, .int .i64 o.year, .int .i64 o.nom] (by rfl) (by rfl) (All.news_box (cs := #[.int .i64 o.rule, .int .i64 o.year, .int .i64 o.nom]) (t := 67) (Box.new _ _ _)) ?_ ?_ ?_ ?_ ?_;(· intro u hu;simp only [List.mem_cons, List.not_mem_nil, or_false] at hu;rcases hu with rfl|rfl|rfl <;> rfl);(· unfold maxLen;omega);(· omega);(· simp;omega);intro v' w4 hown' hgrow _;obtain ⟨g4, cap4, rfl⟩ := ownsRow_succ hown';have hx4 : Box w4 q #[.int .i64 o.rule, .int .i64 o.year, .int .i64 o.nom] 67 := ROcc.Box.grown (Box.old Hbq1.out) hgrow (ROcc.own_row Hown.out) hqN;have hs4 : Box w4 w.heap.size #[.int .i64 fr, .int .i64 tt] 58 := ROcc.Box.grown (Box.old Hbs1.out) hgrow (ROcc.own_row Hown.out) (by omega);have hb4 : Below w.heap.size w w4 := (ba HB.out).grown hgrow (ba HB.out).size (fun j e => by have := ROcc.own_row Hown.out j e;omega);have z0 := hx4.cell 0;have z1 := hx4.cell 1;have z2 := hx4.cell 2;have hz4 : q < w4.heap.size := hx4.lt)
              | (go_at_call 254;(with_reducible refine (Cn2.out _ ?_).mono ?_);(· exact HH.out.later hb4);rintro e w5 ⟨rfl, hb5⟩;have hx5 := hx4.later hb5;have zf := fun o => hx5.free o;have yy0 := hx5.cell 0;have yy1 := hx5.cell 1;have yy2 := hx5.cell 2))
            have hN4 : N ≤ w4.heap.size := by
              have h1 := hgrow.size
              simp only [World.size_alloc] at h1
              omega
            have hx6 : Box (((w5.setCell ⟨q, 0, none⟩ (.int .i64 i2)).setCell ⟨q, 1, none⟩ (.int .i64 y2)).setCell ⟨q, 2, none⟩ (.int .i64 k2)) q (All.optC (Occ.nextO l name o)) 67 := by rw [Ec2.out];exact hx5.set3
            have hs6 : Box (((w5.setCell ⟨q, 0, none⟩ (.int .i64 i2)).setCell ⟨q, 1, none⟩ (.int .i64 y2)).setCell ⟨q, 2, none⟩ (.int .i64 k2)) w.heap.size #[.int .i64 fr, .int .i64 tt] 58 := (((hs4.later hb5).other (by omega)).other (by omega)).other (by omega)
            have hw6 : Below w.heap.size w (((w5.setCell ⟨q, 0, none⟩ (.int .i64 i2)).setCell ⟨q, 1, none⟩ (.int .i64 y2)).setCell ⟨q, 2, none⟩ (.int .i64 k2)) := bset (bset (bset (bt hb4 hb5) (by omega)) (by omega)) (by omega)
            have hgs : ∀ (X : World) (j : Nat) (u : Value), X.ownsRow N 67 3 (.slice (some ⟨g4, 0, none⟩) (L.length + 1) cap4) (L.length + 1) (L.flatMap OccV.cells ++ [.int .i64 o.rule, .int .i64 o.year, .int .i64 o.nom]) → (X.setCell ⟨q, j, none⟩ u).ownsRow N 67 3 (.slice (some ⟨g4, 0, none⟩) (L.length + 1) cap4) (L.length + 1) (L.flatMap OccV.cells ++ [.int .i64 o.rule, .int .i64 o.year, .int .i64 o.nom]) :=
              fun X j u h => h.kept (All.grown_set X q j u) (.inr (All.row_not h hqN).symm)
            have ho6 := hgs _ 2 (.int .i64 k2) (hgs _ 1 (.int .i64 y2) (hgs _ 0 (.int .i64 i2) (ROcc.own_later hown' hb5)))
            have hN6 : N ≤ (((w5.setCell ⟨q, 0, none⟩ (.int .i64 i2)).setCell ⟨q, 1, none⟩ (.int .i64 y2)).setCell ⟨q, 2, none⟩ (.int .i64 k2)).heap.size := by
              have := hb5.size
              simp
              omega
            have hlx : (L ++ [o]).length = L.length + 1 := by simp
            have hfl : L.flatMap OccV.cells ++ [.int .i64 o.rule, .int .i64 o.year, .int .i64 o.nom] = (L ++ [o]).flatMap OccV.cells := by simp [OccV.cells]
            have hRR : R = (L ++ [o]) ++ cont l name tt (Occ.nextO l name o) (most.toNat - (L ++ [o]).length) := by
              rw [HRe.out, hlx, ← inL_cont]
              obtain ⟨d, hd⟩ : ∃ d, most.toNat - L.length = d + 1 := ⟨most.toNat - L.length - 1, by omega⟩
              rw [hd, show most.toNat - (L.length + 1) = d by omega]
              show L ++ (if o.nom < tt then o :: Occ.inL l name tt o d else []) = _
              rw [if_pos hn]
              simp
            go_roundw
            case rel =>
              refine ⟨L ++ [o], Occ.nextO l name o, some ⟨g4, 0, none⟩, cap4, by rw [hlx], by rw [Hg2.out], ?_, by rw [hlx];omega, hRR, hx6, hs6, hw6, hN6, Hi1.out o⟩
              rw [hlx, ← hfl]
              exact ho6
            case measure => simp;omega
          · have hRL : R = L := by
              rw [HRe.out, show most.toNat - L.length = 0 by omega]
              unfold cont
              simp
            have hm' : most ≤ (L.length : Int) ∨ False := by omega
            replace hm' : most ≤ (L.length : Int) := by omega
            go_wp2
            go_ret
            exact ⟨_, rfl, by first|exact All.own_mono Hown.out (by omega)|(rw [hRL];exact All.own_mono Hown.out (by omega)), HB.out⟩
        · have hRL : R = L := by
            rw [HRe.out]
            unfold cont
            cases most.toNat - L.length with
            | zero => simp
            | succ d => simp only;rw [if_neg hn];simp
          go_wp2
          go_ret
          exact ⟨_, rfl, by first|exact All.own_mono Hown.out (by omega)|(rw [hRL];exact All.own_mono Hown.out (by omega)), HB.out⟩
  · rw [if_neg hlt]
    rw [show decide (fr < tt) = false by simpa using hlt] at cs
    have Cs := Lib.hid cs
    clear cs
    go_enter Tryz.func230, Tryz.ntmps230
    go_wp2_with (go_at_call 253;(with_reducible refine (Cs.out _).mono ?_);rintro e w1 ⟨rfl, hb1⟩;obtain ⟨hc1_0, hf1_0, hz1_0⟩ := bcs hb1 (w.heap.size))
    go_ret
    exact ⟨_, rfl, World.ownsRow_nil _ _ _ _, bcq⟩
theorem occ_len (o : OccV) : o.cells.length = 3 := rfl
end RIn
end Go.Proofs.YtecmipgpldcfcaaGreatDoor
namespace Go.Proofs.YtecmipgpldcfcaaGreatDoor
open Go.RowKit NB Nxt
namespace Zn
theorem info_i64 : (Tryz.prog.info? 2).map (fun i => (i.zero, i.size, i.bytes)) = some (some (.int .i64 0), 1, 8) := by kernel_rfl
def ints (L : List Int) : List Value := L.map fun t => .int .i64 t
def endsL (l : List RuleV) (es : List EraV) : List Int := (es.filter fun e => e.u.has).map fun e => (Unt.instU l e).1
def endsR (l : List RuleV) (es : List EraV) : List Int := if zoneB es then endsL l es else []
def endsE (es : List EraV) : Int := if zoneB es then 0 else 4
theorem endsL_succ {l : List RuleV} {es : List EraV} {k : Nat} {e : EraV} (he : es[k]? = some e) : endsL l (es.take (k + 1)) = endsL l (es.take k) ++ (if e.u.has then [(Unt.instU l e).1] else []) := by
  unfold endsL
  rw [List.take_add_one, he, List.filter_append, List.map_append]
  cases h : e.u.has <;> simp [h]
theorem endsL_len (l : List RuleV) (es : List EraV) (k : Nat) : (endsL l (es.take k)).length ≤ k := by
  unfold endsL
  rw [List.length_map]
  refine Nat.le_trans (List.length_filter_le _ _) ?_
  rw [List.length_take]
  exact Nat.min_le_left _ _
theorem own_later {w w' : World} {B : Nat} {e : TypeId} {sz n : Nat} {v : Value} {xs : List Value} (h : w.ownsRow B e sz v n xs) (hb : Below w.heap.size w w') : w'.ownsRow B e sz v n xs :=
  h.kept ⟨hb.os, hb.tape, hb.output, hb.size, fun k hk _ => hb.block k hk⟩ (by cases v.ownBlock <;> simp : v.ownBlock = none ∨ v.ownBlock ≠ none)
def EndsPost (w : World) (l : List RuleV) (es : List EraV) (x : Ending) (w' : World) : Prop := ∃ v, x = .returned (.tuple #[v, .int .i64 (endsE es)]) ∧ w'.ownsRow w.heap.size 2 1 v (endsR l es).length (ints (endsR l es)) ∧ Below w.heap.size w w'
set_option maxRecDepth 100000 in
set_option maxHeartbeats 6400000 in
theorem Ends {w : World} {v r : Value} {l : List RuleV} {es : List EraV} (hr : Holds w r l) (h : HoldsE w v es) (name : ByteArray) (hn : es.length ≤ 100000) (ht : Tab w) : Calls Tryz.prog 13 #[r, .agg #[.string name, v]] w (EndsPost w l es) := by
  have hat := fun (k : Nat) (e : EraV) (he : es[k]? = some e) => h.at he
  have hfit := h.fit
  obtain ⟨p, cap, rfl⟩ := h.form
  obtain ⟨j0, hj0, hz0, hz1, hz2⟩ := info_parts info_i64
  have cr := fun (e : EraV) (he : e.Fit) W h => Er.Right e he W h
  have ci := fun (e : EraV) (he : e.Fit) W (h : Holds W r l) h' => Unt.Instant h e he h'
  have hll : ∀ k : Nat, k < es.length → ∃ e, es[k]? = some e := fun k hk => ⟨es[k], by simp⟩
  have hzn := fun (k : Nat) (e : EraV) (he : es[k]? = some e) => zone_not (k := k) he
  have hok : ∀ k, k = es.length → OkTo es k → 0 < es.length → zoneB es = true := fun k hk ho h0 => zone_iff.2 ⟨h0, hk ▸ ho⟩
  have hz0' : es.length = 0 → zoneB es = false := fun h0 => by unfold zoneB;simp [h0]
  have hsc := fun (k : Nat) (ho : OkTo es k) (e : EraV) (he : es[k]? = some e) => ho.succ he
  have hfin : ∀ k, k = es.length → endsL l (es.take k) = endsL l es := fun k hk => by rw [hk, List.take_length]
  obtain ⟨rp, rc, rfl⟩ := hr.form
  unfold EndsPost endsR endsE
  generalize zoneB es = zb at *
  generalize es.length = n at *
  have Hat := Lib.hid hat
  have Hft := Lib.hid hfit
  have HLL := Lib.hid hll
  have Hzn := Lib.hid hzn
  have Hok := Lib.hid hok
  have Hz0 := Lib.hid hz0'
  have Hsc := Lib.hid hsc
  have Hfin := Lib.hid hfin
  have Cr := Lib.hid cr
  have Ci := Lib.hid ci
  have HH := Lib.hid hr
  have HT := Lib.hid ht
  clear hat hfit hll hzn hok hsc cr ci h hr ht hfin hz0'
  generalize l.length = ln at *
  go_enter Tryz.func13, Tryz.ntmps13
  go_wp2
  obtain ⟨V, hV⟩ : ∃ V, V = w.alloc (.cells #[.string name, .slice p n cap] 39) := ⟨_, rfl⟩
  have hBV : Below w.heap.size w V := by rw [hV];exact ba (Below.refl _ _)
  rw [← hV]
  clear hV
  go_loopw [19, 6] (fun z out wr => ∃ (k : Nat) (q : Option Addr) (c : Nat), z = .int .i64 k ∧ k ≤ n ∧ OkTo es k ∧ out = .slice q (endsL l (es.take k)).length c ∧ wr.ownsRow w.heap.size 2 1 (.slice q (endsL l (es.take k)).length c) (endsL l (es.take k)).length (ints (endsL l (es.take k))) ∧ Below w.heap.size w wr) (fun z _ _ => n - (intOf z).toNat)
  case atStart => exact ⟨0, none, 0, rfl, Nat.zero_le _, fun j e hj => absurd hj (Nat.not_lt_zero _), rfl, World.ownsRow_nil _ _ _ _, hBV⟩
  case round =>
    clear hBV
    obtain ⟨k, q, c, rfl, hk, hto, rfl, hown, hbel⟩ := hrel
    have hLk := endsL_len l es k
    have Hto := Lib.hid hto
    have Hbel := Lib.hid hbel
    have hbs := hbel.size
    by_cases hlt : k < n
    · obtain ⟨e, he⟩ := HLL.out k hlt
      have hes := endsL_succ (l := l) he
      generalize endsL l (es.take k) = L at *
      have Hown := Lib.hid hown
      have HES := Lib.hid hes
      clear hto hbel hown hes
      obtain ⟨b, off, cap', hq, hb, hcl⟩ := Hat.out k e he
      simp only [Value.slice.injEq] at hq
      obtain ⟨rfl, -, -⟩ := hq
      have cr := fun W h => Cr.out e (Hft.out e (List.mem_of_getElem? he)) W h
      have ci := fun W h h' => Ci.out e (Hft.out e (List.mem_of_getElem? he)) W h h'
      have hsc := Hsc.out k Hto.out e he
      have hzn := Hzn.out k e he
      unfold okAt at hsc hzn
      simp only at hsc hzn
      have hi : Er.rightB e = true → (Unt.instU l e).2 = if e.u.has then 0 else 12 := by
        intro h
        unfold Unt.instU
        rw [if_pos h]
        split <;> rfl
      generalize Er.rightB e = g at *
      generalize (Unt.instU l e).1 = t at *
      generalize (Unt.instU l e).2 = tw at *
      have hd : ∀ (j : Nat) (u : Value), e.cells[j]? = some u → wr.cell? ⟨b, off + k * 13 + j, none⟩ = some u := fun j u hu => (Hbel.out.cell (p := ⟨b, off + k * 13 + j, none⟩) hb).trans (hcl j u hu)
      unfold EraV.cells at hd cr ci
      have d0 := hd 0 _ rfl
      have d1 := hd 1 _ rfl
      have d2 := hd 2 _ rfl
      have d3 := hd 3 _ rfl
      have d4 := hd 4 _ rfl
      have d5 := hd 5 _ rfl
      have d6 := hd 6 _ rfl
      have d7 := hd 7 _ rfl
      have d8 := hd 8 _ rfl
      have d9 := hd 9 _ rfl
      have d10 := hd 10 _ rfl
      have d11 := hd 11 _ rfl
      have d12 := hd 12 _ rfl
      simp only [Nat.add_zero] at d0
      clear hd hcl he hb
      generalize e.u.has = has at *
      have CR := Lib.hid cr
      have CI := Lib.hid ci
      have HI := Lib.hid hi
      clear cr ci hi
      have hki : ((k : Int) < n - 1) ↔ (k + 1 < n) := by omega
      cases g <;> cases has <;> by_cases hkn : k + 1 < n
      all_goals
        first
          | have hki2 : decide ((k : Int) < n - 1) = true := by rw [decide_eq_true_eq];exact hki.2 hkn
          | have hki2 : decide ((k : Int) < n - 1) = false := by rw [decide_eq_false_iff_not];exact fun h => hkn (hki.1 h)
        clear hki
        first
          | (have hz := hzn (by simp [hkn])
             subst hz
             clear hsc hzn
             go_wp2_with (go_at_call 26;(with_reducible refine (CR.out _ ?_).mono ?_);(· exact HT.out.later (bt Hbel.out bcq));rintro e w1 ⟨rfl, hb1⟩;obtain ⟨hc1_0, hf1_0, hz1_0⟩ := bcs hb1 (wr.heap.size))
             go_ret2
             exact ⟨_, rfl, World.ownsRow_nil _ _ _ _, by have hbel := Hbel.out;exact bcq⟩)
          | (have HS := Lib.hid (hsc (by simp [hkn]))
             clear hsc hzn
             have htw := HI.out rfl
             simp only [if_true, if_false, Bool.false_eq_true] at htw
             subst htw
             have hes := HES.out
             simp only [if_true, if_false, Bool.false_eq_true, List.append_nil] at hes
             have HEQ := Lib.hid hes
             clear HES hes
             go_wp2_with (first
               | (go_at_call 26;(with_reducible refine (CR.out _ ?_).mono ?_);(· exact HT.out.later (bt Hbel.out bcq));rintro e w1 ⟨rfl, hb1⟩;obtain ⟨hc1_0, hf1_0, hz1_0⟩ := bcs hb1 (wr.heap.size))
               | (go_at_call 27;(with_reducible refine (CI.out _ ?_ ?_).mono ?_);(· exact HH.out.later (bt Hbel.out bcq));(· exact HT.out.later (bt Hbel.out bcq));rintro x w2 ⟨rfl, hb2⟩;have hs2 := hb2.size)
               | (at_builtin;(refine wpList_append_own _ (by rfl) _ _ 40 (by rfl) w.heap.size 2 j0 _ 1 8 Tryz.underlying40 hj0 hz0 hz1 hz2 (by rfl) (by decide) _ L.length _ (by rfl) ((own_later Hown.out (show Below wr.heap.size wr w2 from bcq)).alloc _) ⟨w2.heap.size, 0, none⟩ 1 1 [.int .i64 t] (by rfl) (by rfl) (All.news_box (cs := #[.int .i64 t]) (t := 2) (Box.new _ _ _)) ?_ ?_ ?_ ?_ ?_;(· intro u hu;simp only [List.mem_cons, List.not_mem_nil, or_false] at hu;rcases hu with rfl;rfl);(· unfold maxLen;omega);(· first|omega|(simp;done)|(simp;omega));(· first|omega|(simp;done)|(simp;omega));intro v' w4 hown' hgrow _;obtain ⟨g4, cap4, rfl⟩ := ownsRow_succ hown')))
             have hbel := Hbel.out
             first
               | (have hB4 : Below w.heap.size w w4 := (ba (show Below w.heap.size w w2 from bcq)).grown hgrow (by simp;omega) (fun j e => ROcc.own_row Hown.out j e)
                  have e1 : (L ++ [t]).length = L.length + 1 := by simp
                  have e2 : ints (L ++ [t]) = ints L ++ [.int .i64 t] := by simp [ints]
                  go_roundw
                  case rel => exact ⟨k + 1, some ⟨g4, 0, none⟩, cap4, by go_num, hlt, HS.out, by rw [HEQ.out, e1], by rw [HEQ.out, e1, e2];exact hown', hB4⟩
                  case measure => simp [intOf];omega)
               | (go_roundw
                  case rel => exact ⟨k + 1, q, c, by go_num, hlt, HS.out, by rw [HEQ.out], by rw [HEQ.out];exact own_later Hown.out bcq, bcq⟩
                  case measure => simp [intOf];omega))
    · have hkn : k = n := by omega
      have hL := Hfin.out k hkn
      rw [hL] at hown ⊢
      by_cases hn0 : 0 < n
      · have hz := Hok.out k hkn Hto.out hn0
        subst hz
        have hn1 : ¬ (n : Int) - 1 < 0 := by omega
        have Hown := Lib.hid hown
        clear hown hto hbel
        go_wp2
        go_ret2
        exact ⟨_, rfl, by simpa using Hown.out, Hbel.out⟩
      · have hz := Hz0.out (by omega)
        subst hz
        have hn1 : (n : Int) - 1 < 0 := by omega
        clear hown hto hbel
        go_wp2
        go_ret2
        exact ⟨_, rfl, World.ownsRow_nil _ _ _ _, Hbel.out⟩
end Zn
end Go.Proofs.YtecmipgpldcfcaaGreatDoor
