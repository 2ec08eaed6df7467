import Derived.Test.YtcfmchpoclkpgaaGreatDoorG13
import Derived.Laws.AppendOwn
import Derived.Test.YtcfmchpoclkpgaaGreatDoorNextB
import Derived.Test.YtcfmchpoclkpgaaGreatDoorG7
import Derived.Test.YtcfmchpoclkpgaaGreatDoorG11
import Derived.Test.YtcfmchpoclkpgaaGreatDoorG12
import Derived.Test.YtcfmchpoclkpgaaGreatDoorUntil
import Derived.Maps.AppendAt
import Derived.RangeFuncBox
namespace Go.Proofs.YtcfmchpoclkpgaaGreatDoor
open Go.RowKit NB
namespace ROcc
def occs (r : RuleV) (i y : Int) (n : Nat) : List OccV := (List.range n).map fun j => Occ.occ r i (y + (j : Nat))
def aroundL (r : RuleV) (i Y : Int) : List OccV := if Rul.right r then occs r i (Occ.lowA r Y) (Occ.highA r Y - Occ.lowA r Y + 1).toNat else []
def AroundPost (B : Nat) (w : World) (l : List OccV) (e : Ending) (w' : World) : Prop := ∃ v, e = .returned v ∧ w'.ownsRow B 149 3 v l.length (l.flatMap OccV.cells) ∧ Below w.heap.size w w'
theorem own_row {w : World} {B : Nat} {e : TypeId} {sz n : Nat} {v : Value} {xs : List Value} (h : w.ownsRow B e sz v n xs) : ∀ k, v.ownBlock = some k → B ≤ k := by
  intro k hk
  rcases h.2 with ⟨h1, _⟩|⟨g, cap, cur, h1, h2, _⟩
  · rw [h1] at hk;cases hk
  · rw [h1] at hk;cases hk;exact h2
end ROcc
end Go.Proofs.YtcfmchpoclkpgaaGreatDoor
namespace Go.Proofs.YtcfmchpoclkpgaaGreatDoor
open Go.RowKit NB Nxt
namespace ROcc
theorem occ_len (o : OccV) : o.cells.length = 3 := rfl
end ROcc
end Go.Proofs.YtcfmchpoclkpgaaGreatDoor
namespace Go.Proofs.YtcfmchpoclkpgaaGreatDoor
open Go.RowKit NB Nxt
namespace RNxH
end RNxH
end Go.Proofs.YtcfmchpoclkpgaaGreatDoor
namespace Go.Proofs.YtcfmchpoclkpgaaGreatDoor
open Go.RowKit NB Nxt
namespace RCh
end RCh
end Go.Proofs.YtcfmchpoclkpgaaGreatDoor
namespace Go.Proofs.YtcfmchpoclkpgaaGreatDoor
open Go.RowKit NB Nxt
namespace RUnt
open Unt
end RUnt
end Go.Proofs.YtcfmchpoclkpgaaGreatDoor
namespace Go.Proofs.YtcfmchpoclkpgaaGreatDoor
open Go.RowKit NB Nxt
namespace Zn
def okAt (n : Nat) (x : EraV × Nat) : Bool := Er.rightB x.1 && (x.1.u.has == decide (x.2 + 1 < n))
def zoneB (es : List EraV) : Bool := decide (0 < es.length) && es.zipIdx.all (okAt es.length)
def OkTo (es : List EraV) (k : Nat) : Prop := ∀ (j : Nat) (e : EraV), j < k → es[j]? = some e → okAt es.length (e, j) = true
theorem zone_iff {es : List EraV} : zoneB es = true ↔ 0 < es.length ∧ OkTo es es.length := by
  unfold zoneB OkTo
  rw [Bool.and_eq_true, decide_eq_true_eq, List.all_eq_true]
  constructor
  · rintro ⟨h1, h2⟩
    exact ⟨h1, fun j e hj he => h2 (e, j) (List.mem_zipIdx_iff_getElem?.2 he)⟩
  · rintro ⟨h1, h2⟩
    refine ⟨h1, fun x hx => ?_⟩
    have he := List.mem_zipIdx_iff_getElem?.1 hx
    exact h2 x.2 x.1 (List.getElem?_eq_some_iff.1 he).1 he
theorem OkTo.succ {es : List EraV} {k : Nat} (h : OkTo es k) {e : EraV} (he : es[k]? = some e) (hk : okAt es.length (e, k) = true) : OkTo es (k + 1) := by
  intro j x hj hx
  rcases (by omega : j < k ∨ j = k) with h1|rfl
  · exact h j x h1 hx
  · rw [he] at hx
    cases hx
    exact hk
theorem zone_not {es : List EraV} {k : Nat} {e : EraV} (he : es[k]? = some e) (hk : okAt es.length (e, k) = false) : zoneB es = false := by
  rw [Bool.eq_false_iff]
  intro h
  have := (zone_iff.1 h).2 k e (List.getElem?_eq_some_iff.1 he).1 he
  rw [hk] at this
  cases this
end Zn
end Go.Proofs.YtcfmchpoclkpgaaGreatDoor
namespace Go.Proofs.YtcfmchpoclkpgaaGreatDoor
open Go.RowKit Go.Shelf NB Nxt
attribute [local go_sem] Oper.semAt_some
namespace Spn
end Spn
namespace All
def RowPost (w : World) (l : List OccV) (e : Ending) (w' : World) : Prop := ∃ v, e = .returned v ∧ w'.ownsRow w.heap.size 149 3 v l.length (l.flatMap OccV.cells) ∧ Below w.heap.size w w'
theorem grown_set (W : World) (b o : Nat) (v : Value) : W.grownBy (W.setCell ⟨b, o, none⟩ v) (some b) :=
  ⟨rfl, rfl, rfl, (KeepsWalks.setCell W _ v).size, fun k _ hk => Below.heap_setCell _ _ _ k (fun e => hk (by rw [e]))⟩
theorem news_box {w : World} {b : Nat} {cs : Array Value} {t : TypeId} (h : Box w b cs t) : ∀ j u, cs.toList[j]? = some u → w.cell? ((⟨b, 0, none⟩ : Addr).add j) = some u := by
  intro j u hu
  have hadd : (⟨b, 0, none⟩ : Addr).add j = ⟨b, j, none⟩ := by unfold Addr.add;split <;> simp_all
  rw [hadd, h.cell]
  simpa using hu
def inO (l : List RuleV) (name : ByteArray) (fr tt most : Int) : List OccV := if fr < tt then Occ.inL l name tt ⟨-1, 0, fr⟩ most.toNat else []
variable {F : Fence} {n : Nat}
end All
end Go.Proofs.YtcfmchpoclkpgaaGreatDoor
namespace Go.Proofs.YtcfmchpoclkpgaaGreatDoor
open Go.RowKit NB Nxt
namespace RIn
def cont (l : List RuleV) (name : ByteArray) (T : Int) (c : Option OccV) (m : Nat) : List OccV := match c, m with
  | some o, m + 1 => if o.nom < T then o :: Occ.inL l name T o m else []
  | _, _ => []
theorem occ_len (o : OccV) : o.cells.length = 3 := rfl
end RIn
end Go.Proofs.YtcfmchpoclkpgaaGreatDoor
namespace Go.Proofs.YtcfmchpoclkpgaaGreatDoor
open Go.RowKit NB Nxt
namespace Zn
theorem info_i64 : (Tryz.prog.info? 2).map (fun i => (i.zero, i.size, i.bytes)) = some (some (.int .i64 0), 1, 8) := by kernel_rfl
def ints (L : List Int) : List Value := L.map fun t => .int .i64 t
def endsL (l : List RuleV) (es : List EraV) : List Int := (es.filter fun e => e.u.has).map fun e => (Unt.instU l e).1
def endsR (l : List RuleV) (es : List EraV) : List Int := if zoneB es then endsL l es else []
def endsE (es : List EraV) : Int := if zoneB es then 0 else 4
theorem endsL_succ {l : List RuleV} {es : List EraV} {k : Nat} {e : EraV} (he : es[k]? = some e) : endsL l (es.take (k + 1)) = endsL l (es.take k) ++ (if e.u.has then [(Unt.instU l e).1] else []) := by
  unfold endsL
  rw [List.take_add_one, he, List.filter_append, List.map_append]
  cases h : e.u.has <;> simp [h]
theorem endsL_len (l : List RuleV) (es : List EraV) (k : Nat) : (endsL l (es.take k)).length ≤ k := by
  unfold endsL
  rw [List.length_map]
  refine Nat.le_trans (List.length_filter_le _ _) ?_
  rw [List.length_take]
  exact Nat.min_le_left _ _
theorem own_later {w w' : World} {B : Nat} {e : TypeId} {sz n : Nat} {v : Value} {xs : List Value} (h : w.ownsRow B e sz v n xs) (hb : Below w.heap.size w w') : w'.ownsRow B e sz v n xs :=
  h.kept ⟨hb.os, hb.tape, hb.output, hb.size, fun k hk _ => hb.block k hk⟩ (by cases v.ownBlock <;> simp : v.ownBlock = none ∨ v.ownBlock ≠ none)
def EndsPost (w : World) (l : List RuleV) (es : List EraV) (x : Ending) (w' : World) : Prop := ∃ v, x = .returned (.tuple #[v, .int .i64 (endsE es)]) ∧ w'.ownsRow w.heap.size 2 1 v (endsR l es).length (ints (endsR l es)) ∧ Below w.heap.size w w'
set_option maxRecDepth 100000 in
set_option maxHeartbeats 6400000 in
theorem Ends {w : World} {v r : Value} {l : List RuleV} {es : List EraV} (hr : Holds w r l) (h : HoldsE w v es) (name : ByteArray) (hn : es.length ≤ 100000) (ht : Tab w) : Calls Tryz.prog 28 #[r, .agg #[.string name, v]] w (EndsPost w l es) := by
  have hat := fun (k : Nat) (e : EraV) (he : es[k]? = some e) => h.at he
  have hfit := h.fit
  obtain ⟨p, cap, rfl⟩ := h.form
  obtain ⟨j0, hj0, hz0, hz1, hz2⟩ := info_parts info_i64
  have cr := fun (e : EraV) (he : e.Fit) W h => Er.Right e he W h
  have ci := fun (e : EraV) (he : e.Fit) W (h : Holds W r l) h' => Unt.Instant h e he h'
  have hll : ∀ k : Nat, k < es.length → ∃ e, es[k]? = some e := fun k hk => ⟨es[k], by simp⟩
  have hzn := fun (k : Nat) (e : EraV) (he : es[k]? = some e) => zone_not (k := k) he
  have hok : ∀ k, k = es.length → OkTo es k → 0 < es.length → zoneB es = true := fun k hk ho h0 => zone_iff.2 ⟨h0, hk ▸ ho⟩
  have hz0' : es.length = 0 → zoneB es = false := fun h0 => by unfold zoneB;simp [h0]
  have hsc := fun (k : Nat) (ho : OkTo es k) (e : EraV) (he : es[k]? = some e) => ho.succ he
  have hfin : ∀ k, k = es.length → endsL l (es.take k) = endsL l es := fun k hk => by rw [hk, List.take_length]
  obtain ⟨rp, rc, rfl⟩ := hr.form
  unfold EndsPost endsR endsE
  generalize zoneB es = zb at *
  generalize es.length = n at *
  have Hat := Lib.hid hat
  have Hft := Lib.hid hfit
  have HLL := Lib.hid hll
  have Hzn := Lib.hid hzn
  have Hok := Lib.hid hok
  have Hz0 := Lib.hid hz0'
  have Hsc := Lib.hid hsc
  have Hfin := Lib.hid hfin
  have Cr := Lib.hid cr
  have Ci := Lib.hid ci
  have HH := Lib.hid hr
  have HT := Lib.hid ht
  clear hat hfit hll hzn hok hsc cr ci h hr ht hfin hz0'
  generalize l.length = ln at *
  go_enter Tryz.func28, Tryz.ntmps28
  go_wp2
  obtain ⟨V, hV⟩ : ∃ V, V = w.alloc (.cells #[.string name, .slice p n cap] 42) := ⟨_, rfl⟩
  have hBV : Below w.heap.size w V := by rw [hV];exact ba (Below.refl _ _)
  rw [← hV]
  clear hV
  go_loopw [19, 6] (fun z out wr => ∃ (k : Nat) (q : Option Addr) (c : Nat), z = .int .i64 k ∧ k ≤ n ∧ OkTo es k ∧ out = .slice q (endsL l (es.take k)).length c ∧ wr.ownsRow w.heap.size 2 1 (.slice q (endsL l (es.take k)).length c) (endsL l (es.take k)).length (ints (endsL l (es.take k))) ∧ Below w.heap.size w wr) (fun z _ _ => n - (intOf z).toNat)
  case atStart => exact ⟨0, none, 0, rfl, Nat.zero_le _, fun j e hj => absurd hj (Nat.not_lt_zero _), rfl, World.ownsRow_nil _ _ _ _, hBV⟩
  case round =>
    clear hBV
    obtain ⟨k, q, c, rfl, hk, hto, rfl, hown, hbel⟩ := hrel
    have hLk := endsL_len l es k
    have Hto := Lib.hid hto
    have Hbel := Lib.hid hbel
    have hbs := hbel.size
    by_cases hlt : k < n
    · obtain ⟨e, he⟩ := HLL.out k hlt
      have hes := endsL_succ (l := l) he
      generalize endsL l (es.take k) = L at *
      have Hown := Lib.hid hown
      have HES := Lib.hid hes
      clear hto hbel hown hes
      obtain ⟨b, off, cap', hq, hb, hcl⟩ := Hat.out k e he
      simp only [Value.slice.injEq] at hq
      obtain ⟨rfl, -, -⟩ := hq
      have cr := fun W h => Cr.out e (Hft.out e (List.mem_of_getElem? he)) W h
      have ci := fun W h h' => Ci.out e (Hft.out e (List.mem_of_getElem? he)) W h h'
      have hsc := Hsc.out k Hto.out e he
      have hzn := Hzn.out k e he
      unfold okAt at hsc hzn
      simp only at hsc hzn
      have hi : Er.rightB e = true → (Unt.instU l e).2 = if e.u.has then 0 else 12 := by
        intro h
        unfold Unt.instU
        rw [if_pos h]
        split <;> rfl
      generalize Er.rightB e = g at *
      generalize (Unt.instU l e).1 = t at *
      generalize (Unt.instU l e).2 = tw at *
      have hd : ∀ (j : Nat) (u : Value), e.cells[j]? = some u → wr.cell? ⟨b, off + k * 13 + j, none⟩ = some u := fun j u hu => (Hbel.out.cell (p := ⟨b, off + k * 13 + j, none⟩) hb).trans (hcl j u hu)
      unfold EraV.cells at hd cr ci
      have d0 := hd 0 _ rfl
      have d1 := hd 1 _ rfl
      have d2 := hd 2 _ rfl
      have d3 := hd 3 _ rfl
      have d4 := hd 4 _ rfl
      have d5 := hd 5 _ rfl
      have d6 := hd 6 _ rfl
      have d7 := hd 7 _ rfl
      have d8 := hd 8 _ rfl
      have d9 := hd 9 _ rfl
      have d10 := hd 10 _ rfl
      have d11 := hd 11 _ rfl
      have d12 := hd 12 _ rfl
      simp only [Nat.add_zero] at d0
      clear hd hcl he hb
      generalize e.u.has = has at *
      have CR := Lib.hid cr
      have CI := Lib.hid ci
      have HI := Lib.hid hi
      clear cr ci hi
      have hki : ((k : Int) < n - 1) ↔ (k + 1 < n) := by omega
      cases g <;> cases has <;> by_cases hkn : k + 1 < n
      all_goals
        first
          | have hki2 : decide ((k : Int) < n - 1) = true := by rw [decide_eq_true_eq];exact hki.2 hkn
          | have hki2 : decide ((k : Int) < n - 1) = false := by rw [decide_eq_false_iff_not];exact fun h => hkn (hki.1 h)
        clear hki
        first
          | (have hz := hzn (by simp [hkn])
             subst hz
             clear hsc hzn
             go_wp2_with (go_at_call 65;(with_reducible refine (CR.out _ ?_).mono ?_);(· exact HT.out.later (bt Hbel.out (by repeat (first|(with_reducible exact Below.refl _ _)|(with_reducible assumption)|(with_reducible refine ba ?_)|(with_reducible refine bd ?_)|(with_reducible refine bdn ?_ _)|(with_reducible refine bset ?_ (by first|exact Nat.le_refl _|omega|(simp;done)|(simp;omega)))|(with_reducible refine bt ?_ (by with_reducible assumption))))));rintro e w1 ⟨rfl, hb1⟩;obtain ⟨hc1, hf1⟩ := bcell hb1;have hc1_0 := fun o => hc1 (wr.heap.size) o (by first|assumption|omega|(simp;done)|(simp;omega));have hf1_0 := fun o => hf1 (wr.heap.size) o (by first|assumption|omega|(simp;done)|(simp;omega));clear hc1 hf1;have hz1_0 : wr.heap.size < w1.heap.size := (by first|exact sz1 hb1|exact sz2 hb1|exact sz3 hb1|(have := hb1.size;(try simp only [World.size_alloc, World.size_drew] at this);omega)))
             go_ret2
             exact ⟨_, rfl, World.ownsRow_nil _ _ _ _, by have hbel := Hbel.out;repeat (first|(with_reducible exact Below.refl _ _)|(with_reducible assumption)|(with_reducible refine ba ?_)|(with_reducible refine bd ?_)|(with_reducible refine bdn ?_ _)|(with_reducible refine bset ?_ (by first|exact Nat.le_refl _|omega|(simp;done)|(simp;omega)))|(with_reducible refine bt ?_ (by with_reducible assumption)))⟩)
          | (have HS := Lib.hid (hsc (by simp [hkn]))
             clear hsc hzn
             have htw := HI.out rfl
             simp only [if_true, if_false, Bool.false_eq_true] at htw
             subst htw
             have hes := HES.out
             simp only [if_true, if_false, Bool.false_eq_true, List.append_nil] at hes
             have HEQ := Lib.hid hes
             clear HES hes
             go_wp2_with (first
               | (go_at_call 65;(with_reducible refine (CR.out _ ?_).mono ?_);(· exact HT.out.later (bt Hbel.out (by repeat (first|(with_reducible exact Below.refl _ _)|(with_reducible assumption)|(with_reducible refine ba ?_)|(with_reducible refine bd ?_)|(with_reducible refine bdn ?_ _)|(with_reducible refine bset ?_ (by first|exact Nat.le_refl _|omega|(simp;done)|(simp;omega)))|(with_reducible refine bt ?_ (by with_reducible assumption))))));rintro e w1 ⟨rfl, hb1⟩;obtain ⟨hc1, hf1⟩ := bcell hb1;have hc1_0 := fun o => hc1 (wr.heap.size) o (by first|assumption|omega|(simp;done)|(simp;omega));have hf1_0 := fun o => hf1 (wr.heap.size) o (by first|assumption|omega|(simp;done)|(simp;omega));clear hc1 hf1;have hz1_0 : wr.heap.size < w1.heap.size := (by first|exact sz1 hb1|exact sz2 hb1|exact sz3 hb1|(have := hb1.size;(try simp only [World.size_alloc, World.size_drew] at this);omega)))
               | (go_at_call 66;(with_reducible refine (CI.out _ ?_ ?_).mono ?_);(· exact HH.out.later (bt Hbel.out (by repeat (first|(with_reducible exact Below.refl _ _)|(with_reducible assumption)|(with_reducible refine ba ?_)|(with_reducible refine bd ?_)|(with_reducible refine bdn ?_ _)|(with_reducible refine bset ?_ (by first|exact Nat.le_refl _|omega|(simp;done)|(simp;omega)))|(with_reducible refine bt ?_ (by with_reducible assumption))))));(· exact HT.out.later (bt Hbel.out (by repeat (first|(with_reducible exact Below.refl _ _)|(with_reducible assumption)|(with_reducible refine ba ?_)|(with_reducible refine bd ?_)|(with_reducible refine bdn ?_ _)|(with_reducible refine bset ?_ (by first|exact Nat.le_refl _|omega|(simp;done)|(simp;omega)))|(with_reducible refine bt ?_ (by with_reducible assumption))))));rintro x w2 ⟨rfl, hb2⟩;have hs2 := hb2.size)
               | (at_builtin;(refine wpList_append_own _ (by rfl) _ _ 79 (by rfl) w.heap.size 2 j0 _ 1 8 Tryz.underlying79 hj0 hz0 hz1 hz2 (by rfl) (by decide) _ L.length _ (by rfl) ((own_later Hown.out (show Below wr.heap.size wr w2 by repeat (first|(with_reducible exact Below.refl _ _)|(with_reducible assumption)|(with_reducible refine ba ?_)|(with_reducible refine bd ?_)|(with_reducible refine bdn ?_ _)|(with_reducible refine bset ?_ (by first|exact Nat.le_refl _|omega|(simp;done)|(simp;omega)))|(with_reducible refine bt ?_ (by with_reducible assumption))))).alloc _) ⟨w2.heap.size, 0, none⟩ 1 1 [.int .i64 t] (by rfl) (by rfl) (All.news_box (cs := #[.int .i64 t]) (t := 2) (Box.new _ _ _)) ?_ ?_ ?_ ?_ ?_;(· intro u hu;simp only [List.mem_cons, List.not_mem_nil, or_false] at hu;rcases hu with rfl;rfl);(· unfold maxLen;omega);(· first|omega|(simp;done)|(simp;omega));(· first|omega|(simp;done)|(simp;omega));intro v' w4 hown' hgrow _;obtain ⟨g4, cap4, rfl⟩ := ownsRow_succ hown')))
             have hbel := Hbel.out
             first
               | (have hB4 : Below w.heap.size w w4 := (ba (show Below w.heap.size w w2 by repeat (first|(with_reducible exact Below.refl _ _)|(with_reducible assumption)|(with_reducible refine ba ?_)|(with_reducible refine bd ?_)|(with_reducible refine bdn ?_ _)|(with_reducible refine bset ?_ (by first|exact Nat.le_refl _|omega|(simp;done)|(simp;omega)))|(with_reducible refine bt ?_ (by with_reducible assumption))))).grown hgrow (by simp;omega) (fun j e => ROcc.own_row Hown.out j e)
                  have e1 : (L ++ [t]).length = L.length + 1 := by simp
                  have e2 : ints (L ++ [t]) = ints L ++ [.int .i64 t] := by simp [ints]
                  go_roundw
                  case rel => exact ⟨k + 1, some ⟨g4, 0, none⟩, cap4, by go_num, hlt, HS.out, by rw [HEQ.out, e1], by rw [HEQ.out, e1, e2];exact hown', hB4⟩
                  case measure => simp [intOf];omega)
               | (go_roundw
                  case rel => exact ⟨k + 1, q, c, by go_num, hlt, HS.out, by rw [HEQ.out], by rw [HEQ.out];exact own_later Hown.out (by repeat (first|(with_reducible exact Below.refl _ _)|(with_reducible assumption)|(with_reducible refine ba ?_)|(with_reducible refine bd ?_)|(with_reducible refine bdn ?_ _)|(with_reducible refine bset ?_ (by first|exact Nat.le_refl _|omega|(simp;done)|(simp;omega)))|(with_reducible refine bt ?_ (by with_reducible assumption)))), by repeat (first|(with_reducible exact Below.refl _ _)|(with_reducible assumption)|(with_reducible refine ba ?_)|(with_reducible refine bd ?_)|(with_reducible refine bdn ?_ _)|(with_reducible refine bset ?_ (by first|exact Nat.le_refl _|omega|(simp;done)|(simp;omega)))|(with_reducible refine bt ?_ (by with_reducible assumption)))⟩
                  case measure => simp [intOf];omega))
    · have hkn : k = n := by omega
      have hL := Hfin.out k hkn
      rw [hL] at hown ⊢
      by_cases hn0 : 0 < n
      · have hz := Hok.out k hkn Hto.out hn0
        subst hz
        have hn1 : ¬ (n : Int) - 1 < 0 := by omega
        have Hown := Lib.hid hown
        clear hown hto hbel
        go_wp2
        go_ret2
        exact ⟨_, rfl, by simpa using Hown.out, Hbel.out⟩
      · have hz := Hz0.out (by omega)
        subst hz
        have hn1 : (n : Int) - 1 < 0 := by omega
        clear hown hto hbel
        go_wp2
        go_ret2
        exact ⟨_, rfl, World.ownsRow_nil _ _ _ _, Hbel.out⟩
end Zn
end Go.Proofs.YtcfmchpoclkpgaaGreatDoor
