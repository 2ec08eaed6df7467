import Derived.Test.YtkpjhgkmjcdobaaGreatDoorForceV
import Derived.Test.YtkpjhgkmjcdobaaGreatDoorChain
import Derived.Test.YtkpjhgkmjcdobaaGreatDoorG12
import Derived.Test.YtkpjhgkmjcdobaaGreatDoorG14
import Derived.Lib.SliceRun
/-
  force: the rules without those that make something hold; an occurrence's instant.
-/
namespace Go.Proofs.YtkpjhgkmjcdobaaGreatDoor
open Go.RowKit NB Nxt
namespace Frc
set_option maxHeartbeats 3200000 in
set_option maxRecDepth 100000 in
theorem instant0 {w : World} {b g : Nat} {l : List RuleV} {e : EraV} {r : Value} (_hv : View w b l e r g) (o : OccV) :
    Calls Tryz.prog 60 #[.pointer (some ⟨b, 0, none⟩), .agg o.cells.toArray, .bool false] w fun x w' => x = .returned (.tuple #[.int .i64 0, .bool false]) ∧ Below w.heap.size w w' := by
  unfold OccV.cells
  go_enter Tryz.func60, Tryz.ntmps60
  go_wp2
  go_ret2
  exact ⟨rfl, by repeat (first | (with_reducible exact Below.refl _ _) | (with_reducible assumption) | (with_reducible refine ba ?_) | (with_reducible refine bd ?_) | (with_reducible refine bdn ?_ _) | (with_reducible refine bset ?_ (by first | exact Nat.le_refl _ | omega | (simp; done) | (simp; omega))) | (with_reducible refine bt ?_ (by with_reducible assumption)))⟩
set_option maxHeartbeats 3200000 in
set_option maxRecDepth 100000 in
theorem instant1 {w : World} {b g : Nat} {l : List RuleV} {e : EraV} {r : Value} (hv : View w b l e r g) (o : OccV) :
    Calls Tryz.prog 60 #[.pointer (some ⟨b, 0, none⟩), .agg o.cells.toArray, .bool true] w fun x w' => x = .returned (.tuple #[.int .i64 (Chn.instE l e.rules e.off o).1, .bool true]) ∧ Below w.heap.size w w' := by
  have ci := fun W (h : Holds W r l) => ChW.Instant h e.rules e.off o
  generalize Chn.instE l e.rules e.off o = ie at *
  obtain ⟨ie1, ie2⟩ := ie
  simp only at ci ⊢
  unfold OccV.cells at *
  have Ci := Lib.hid ci
  have HV := Lib.hid hv
  have bV := hv.box
  unfold viewC at bV
  have cV := bV.cell
  have lV := bV.lt
  obtain ⟨rp, rc, rfl⟩ := hv.rules.form
  clear ci hv bV
  generalize l.length = n at *
  go_enter Tryz.func60, Tryz.ntmps60
  go_upto_region 3 with fail
  have b4 : Box (w.alloc (.cells #[.int .i64 o.rule, .int .i64 o.year, .int .i64 o.nom] 53)) w.heap.size #[.int .i64 o.rule, .int .i64 o.year, .int .i64 o.nom] 53 := Box.new w _ _
  have hBX : Below w.heap.size w (w.alloc (.cells #[.int .i64 o.rule, .int .i64 o.year, .int .i64 o.nom] 53)) := by repeat (first | (with_reducible exact Below.refl _ _) | (with_reducible assumption) | (with_reducible refine ba ?_) | (with_reducible refine bd ?_) | (with_reducible refine bdn ?_ _) | (with_reducible refine bset ?_ (by first | exact Nat.le_refl _ | omega | (simp; done) | (simp; omega))) | (with_reducible refine bt ?_ (by with_reducible assumption)))
  generalize (w.alloc (.cells #[.int .i64 o.rule, .int .i64 o.year, .int .i64 o.nom] 53)) = X at *
  have HX := Lib.hid (HV.out.rules.later hBX)
  have cX : ∀ o, X.cell? ⟨b, o, none⟩ = _ := fun o => (hBX.cell (p := ⟨b, o, none⟩) lV).trans (cV o)
  have lX : b < X.heap.size := Nat.lt_of_lt_of_le lV hBX.size
  have k4 := b4.cell
  have l4 := b4.lt
  have HBX := Lib.hid hBX
  clear cV hBX b4
  (refine region_later (by kernel_rfl) (by kernel_rfl) ?_; (repeat (go_big_quiet_step (first | (go_at_call 22; rename_i xL; apply calls_later xL (Nat.le_refl _); exact (Ci.out _ (HX.out.later xL.h)))))); refine wpQuiet_nil ?_; rintro _ ⟨⟨u3, hu3⟩, rfl⟩)
  go_wp2
  go_ret2
  exact ⟨rfl, bt HBX.out hu3⟩
theorem flat_inv {l : List RuleV} {j : Nat} {u : Value} (h : (l.flatMap RuleV.cells)[j]? = some u) : ∃ x, l[j / 11]? = some x ∧ x.cells[j % 11]? = some u := by
  have hj := (List.getElem?_eq_some_iff.1 h).1
  have hlen : (l.flatMap RuleV.cells).length = l.length * 11 := by
    clear h hj
    induction l with
    | nil => rfl
    | cons y r ih => rw [List.flatMap_cons, List.length_append, ih, show y.cells.length = 11 from rfl, List.length_cons]; omega
  have hi : j / 11 < l.length := by omega
  obtain ⟨x, hx⟩ : ∃ x, l[j / 11]? = some x := ⟨l[j / 11], by simp⟩
  have hc : j % 11 < x.cells.length := by show j % 11 < 11; omega
  have := Grp.flat_at (f := RuleV.cells) (sz := 11) (fun _ => rfl) l (j / 11) (j % 11) x _ hx (List.getElem?_eq_getElem hc)
  rw [show j / 11 * 11 + j % 11 = j by omega, h] at this
  exact ⟨x, hx, by rw [List.getElem?_eq_getElem hc]; exact this.symm⟩
theorem flat_one (l : List RuleV) : ∀ u ∈ l.flatMap RuleV.cells, u.oneCell' = true := by
  intro u hu
  obtain ⟨x, _, hx⟩ := List.mem_flatMap.1 hu
  unfold RuleV.cells at hx
  simp only [List.mem_cons, List.not_mem_nil, or_false] at hx
  rcases hx with rfl | rfl | rfl | rfl | rfl | rfl | rfl | rfl | rfl | rfl | rfl <;> rfl
theorem flat_len (l : List RuleV) : (l.flatMap RuleV.cells).length = l.length * 11 := by
  induction l with
  | nil => rfl
  | cons y r ih => rw [List.flatMap_cons, List.length_append, ih, show y.cells.length = 11 from rfl, List.length_cons]; omega
theorem CloneA (w : World) (l : List RuleV) (hn : l.length ≤ 100000) (_b _off c : Nat) (_sp : Option Unit) (ad : Addr) (hc : ∀ j u, (l.flatMap RuleV.cells)[j]? = some u → w.cell? (ad.add j) = some u) (hlt : l ≠ [] → ad.block < w.heap.size) : Calls Tryz.prog 109 #[.slice (some ad) l.length c] w fun e w' => ∃ v', e = .returned v' ∧ w'.ownsRow w.heap.size 75 11 v' l.length (l.flatMap RuleV.cells) ∧ Below w.heap.size w w' := by
  obtain ⟨i0, hi, hz0, hz1, hz2⟩ := info_parts Chk.info_rule
  have q22 : ∀ (w : World) (a : Option Addr) (n c n' c' : Nat), (binOp .eql 22 (.slice a n c) (.slice none n' c')).run Tryz.prog w = .ok (.bool a.isNone) w := fun w a n c n' c' => Go.Lib.run_eql_slice_nil w _ _ a n c n' c' Tryz.underlying22
  have A := Lib.hid hc
  have h1 := flat_one l
  have h2 := flat_len l
  have HL := Lib.hid hlt
  generalize hN : l.flatMap RuleV.cells = news at *
  generalize hn' : l.length = n at *
  clear hc hN hlt
  go_enter Tryz.func109, Tryz.ntmps109
  go_wp2_with (at_builtin; refine wpList_append_own _ rfl _ _ 22 rfl w.heap.size 75 i0 _ 11 104 Tryz.underlying22 hi hz0 hz1 hz2 rfl (by decide) _ _ _ rfl (World.ownsRow_made w #[] 0 (Nat.le_refl _) (Nat.zero_le _) (by simp)) ad n c news rfl ?qc1 ?qc2 ?qc3 ?qc4 ?qc5 ?qc6 ?_)
  case qc1 => exact h2
  case qc2 =>
    intro j u hj
    exact Go.Lib.cell?_alloc_some _ (A.out j u hj)
  case qc3 => exact h1
  case qc4 => rw [Nat.zero_add]; unfold maxLen; omega
  case qc5 => rw [Nat.zero_add]; omega
  case qc6 => simp
  intro v' w1 hown hgrow hnil
  go_wp2
  go_ret
  refine ⟨v', rfl, by simpa using hown, ?_⟩
  exact ((Below.refl _ w).alloc (Nat.le_refl _) _).grown hgrow (by simp) (by intro k hk; simp [Value.ownBlock] at hk; omega)
theorem CloneR {w : World} {v : Value} {l : List RuleV} (h : Holds w v l) (hn : l.length ≤ 100000) : Calls Tryz.prog 109 #[v] w fun e w' => ∃ v', e = .returned v' ∧ w'.ownsRow w.heap.size 75 11 v' l.length (l.flatMap RuleV.cells) ∧ Below w.heap.size w w' := by
  rcases h.lies with ⟨p, cap, rfl, rfl⟩ | ⟨b, off, cap, rfl, h2, h3⟩
  · cases p with
    | none =>
      have q22 : ∀ (w : World) (a : Option Addr) (n c n' c' : Nat), (binOp .eql 22 (.slice a n c) (.slice none n' c')).run Tryz.prog w = .ok (.bool a.isNone) w := fun w a n c n' c' => Go.Lib.run_eql_slice_nil w _ _ a n c n' c' Tryz.underlying22
      go_enter Tryz.func109, Tryz.ntmps109
      go_wp2
      go_ret
      exact ⟨_, rfl, World.ownsRow_nil _ _ _ _, by repeat (first | (with_reducible exact Below.refl _ _) | (with_reducible assumption) | (with_reducible refine ba ?_) | (with_reducible refine bd ?_) | (with_reducible refine bdn ?_ _) | (with_reducible refine bset ?_ (by first | exact Nat.le_refl _ | omega | (simp; done) | (simp; omega))) | (with_reducible refine bt ?_ (by with_reducible assumption)))⟩
    | some ad => exact CloneA w [] (by simp) 0 0 cap none ad (fun j u hu => by simp at hu) (fun h => absurd rfl h)
  · refine CloneA w l hn 0 0 cap none ⟨b, off, none⟩ (fun j u hu => ?_) (fun _ => h2)
    obtain ⟨x, hx, hc⟩ := flat_inv hu
    rw [addr_add]
    have := h3 (j / 11) (j % 11) _ u (by rw [List.getElem?_map, hx]; rfl) hc
    rw [show off + j / 11 * 11 + j % 11 = off + j by omega] at this
    exact this
end Frc
end Go.Proofs.YtkpjhgkmjcdobaaGreatDoor
/-
  force: the rules without those that make something hold.
-/
namespace Go.Proofs.YtkpjhgkmjcdobaaGreatDoor
open Go.RowKit NB Nxt
namespace Frc
def ox (e : EraV) (v : ValV) (x : RuleV) : RuleV := if valX e x = v then { x with name := ⟨#[]⟩ } else x
def othX (l : List RuleV) (e : EraV) (v : ValV) : List RuleV := l.map (ox e v)
theorem othX_at {l : List RuleV} {e : EraV} {v : ValV} {k : Nat} {x : RuleV} (h : l[k]? = some x) : (othX l e v)[k]? = some (ox e v x) := by
  unfold othX
  rw [List.getElem?_map, h]
  rfl
theorem ox_fit {e : EraV} {v : ValV} {x : RuleV} (h : x.Fit) : (ox e v x).Fit := by
  unfold ox
  split
  · exact ⟨by show (⟨#[]⟩ : ByteArray).size ≤ _; decide, h.l, h.fr, h.to, h.sec, h.save⟩
  · exact h
/-- of the clone the first ones are done -/
def Done (l : List RuleV) (e : EraV) (v : ValV) (k : Nat) (C : Array Value) : Prop := ∀ (i : Nat) (x : RuleV), l[i]? = some x → ∀ (j : Nat) (u : Value), (if i < k then ox e v x else x).cells[j]? = some u → C[i * 11 + j]? = some u
theorem Done.skip {l : List RuleV} {e : EraV} {v : ValV} {k : Nat} {C : Array Value} (h : Done l e v k C) {y : RuleV} (hy : l[k]? = some y) (hn : ¬ valX e y = v) : Done l e v (k + 1) C := by
  intro i x hx j u hu
  refine h i x hx j u ?_
  by_cases hi : i < k
  · rw [if_pos hi]; rw [if_pos (by omega)] at hu; exact hu
  · rw [if_neg hi]
    by_cases hi2 : i < k + 1
    · obtain rfl : i = k := by omega
      rw [hy] at hx
      cases hx
      rw [if_pos hi2] at hu
      unfold ox at hu
      rw [if_neg hn] at hu
      exact hu
    · rw [if_neg hi2] at hu; exact hu
theorem Done.put {l : List RuleV} {e : EraV} {v : ValV} {k : Nat} {C : Array Value} (h : Done l e v k C) (hC : l.length * 11 ≤ C.size) {y : RuleV} (hy : l[k]? = some y) (hn : valX e y = v) : Done l e v (k + 1) (C.setIfInBounds (k * 11) (.string ⟨#[]⟩)) := by
  intro i x hx j u hu
  have hkl := (List.getElem?_eq_some_iff.1 hy).1
  have hj : j < 11 := (List.getElem?_eq_some_iff.1 hu).1
  by_cases hi : i = k
  · subst hi
    rw [hy] at hx
    cases hx
    rw [if_pos (by omega)] at hu
    unfold ox at hu
    rw [if_pos hn] at hu
    by_cases hj0 : j = 0
    · subst hj0
      cases hu
      rw [Nat.add_zero, Array.getElem?_setIfInBounds_self_of_lt (by omega)]
    · rw [Array.getElem?_setIfInBounds_ne (by omega)]
      refine h i y hy j u ?_
      rw [if_neg (by omega)]
      obtain ⟨j', rfl⟩ : ∃ j', j = j' + 1 := ⟨j - 1, by omega⟩
      exact hu
  · rw [Array.getElem?_setIfInBounds_ne (by omega)]
    refine h i x hx j u ?_
    by_cases hi1 : i < k
    · rw [if_pos hi1]; rw [if_pos (by omega)] at hu; exact hu
    · rw [if_neg hi1]; rw [if_neg (by omega)] at hu; exact hu
theorem row_box {w : World} {base : Nat} {v' : Value} {l : List RuleV} (h : w.ownsRow base 75 11 v' l.length (l.flatMap RuleV.cells)) (h0 : 0 < l.length) : ∃ (gc cap : Nat) (C : Array Value), v' = .slice (some ⟨gc, 0, none⟩) l.length cap ∧ base ≤ gc ∧ Box w gc C 75 ∧ l.length * 11 ≤ C.size ∧ ∀ e v, Done l e v 0 C := by
  rcases h.2 with ⟨hv, h2⟩ | ⟨gc, cap, cur, hv, hg, hh, hle, hcap, hcs, htk⟩
  · omega
  · refine ⟨gc, cap, cur, hv, hg, hh, by rw [hcs]; exact Nat.mul_le_mul_right _ hle, fun e v i x hx j u hu => ?_⟩
    rw [if_neg (Nat.not_lt_zero _)] at hu
    have h1 := Grp.flat_at (f := RuleV.cells) (sz := 11) (fun _ => rfl) l i j x u hx hu
    rw [← htk, List.getElem?_take] at h1
    split at h1
    · simpa using h1
    · cases h1
set_option maxHeartbeats 3200000 in
set_option maxRecDepth 100000 in
theorem others1 {w : World} {b g : Nat} {l : List RuleV} {e : EraV} {r : Value} (hv : View w b l e r g) (hn : l.length ≤ 100000) (v : ValV) (h0 : 0 < l.length) :
    Calls Tryz.prog 62 #[.pointer (some ⟨b, 0, none⟩), .agg v.cells.toArray] w fun x w' => ∃ v', x = .returned v' ∧ Holds w' v' (othX l e v) ∧ Below w.heap.size w w' := by
  have cc := fun W (h : Holds W r l) => CloneR h hn
  unfold ValV.cells
  have Cc := Lib.hid cc
  have HV := Lib.hid hv
  have bV := hv.box
  unfold viewC at bV
  have cV := bV.cell
  have lV := bV.lt
  obtain ⟨rp, rc, rfl⟩ := hv.rules.form
  have HVV := Lib.hid hv.vals
  have lg := hv.lt
  clear cc hv bV
  obtain ⟨n, hnl⟩ : ∃ n, n = l.length := ⟨_, rfl⟩
  rw [← hnl] at hn h0 cV Cc
  have HN := Lib.hid hnl
  clear hnl
  go_enter Tryz.func62, Tryz.ntmps62
  go_upto_region 3 with (go_at_call 109; (with_reducible refine (Cc.out _ ?_).mono ?_); (· rw [HN.out]; exact HV.out.rules.later (by repeat (first | (with_reducible exact Below.refl _ _) | (with_reducible assumption) | (with_reducible refine ba ?_) | (with_reducible refine bd ?_) | (with_reducible refine bdn ?_ _) | (with_reducible refine bset ?_ (by first | exact Nat.le_refl _ | omega | (simp; done) | (simp; omega))) | (with_reducible refine bt ?_ (by with_reducible assumption))))); rintro x w2 ⟨v', rfl, hrow, hb2⟩; obtain ⟨gc, cap, C, hv', hgc, bC, hC, hD⟩ := row_box (by rw [HN.out] at hrow; exact hrow) (by rw [← HN.out]; exact h0); rw [← HN.out] at hv' hC; subst hv'; obtain ⟨hc2, hf2⟩ := bcell hb2; have hc2_0 := fun o => hc2 (w.heap.size) o (by first | assumption | omega | (simp; done) | (simp; omega)); have hf2_0 := fun o => hf2 (w.heap.size) o (by first | assumption | omega | (simp; done) | (simp; omega)); have hc2_1 := fun o => hc2 (b) o (by first | assumption | omega | (simp; done) | (simp; omega)); have hf2_1 := fun o => hf2 (b) o (by first | assumption | omega | (simp; done) | (simp; omega)); clear hc2 hf2; have hz2_0 : w.heap.size < w2.heap.size := (by first | exact sz1 hb2 | exact sz2 hb2 | exact sz3 hb2 | (have := hb2.size; (try simp only [World.size_alloc, World.size_drew] at this); omega)); have hz2_1 : b < w2.heap.size := (by first | exact sz1 hb2 | exact sz2 hb2 | exact sz3 hb2 | (have := hb2.size; (try simp only [World.size_alloc] at this); omega)))
  have bP : Box w2 w.heap.size #[.int .i64 v.off, .int .i64 v.save, .string v.abbr] 58 := by repeat (first | (with_reducible assumption) | (with_reducible exact Box.new _ _ _) | (with_reducible refine Box.old ?_) | (with_reducible refine Box.drew ?_) | (with_reducible refine Box.drewN ?_ _) | (with_reducible refine Box.other ?_ (by first | assumption | omega | (simp; omega))) | (with_reducible refine Box.later ?_ (by with_reducible assumption)))
  have hbel : Below w.heap.size w w2 := by repeat (first | (with_reducible exact Below.refl _ _) | (with_reducible assumption) | (with_reducible refine ba ?_) | (with_reducible refine bd ?_) | (with_reducible refine bdn ?_ _) | (with_reducible refine bset ?_ (by first | exact Nat.le_refl _ | omega | (simp; done) | (simp; omega))) | (with_reducible refine bt ?_ (by with_reducible assumption)))
  have hgc' : w.heap.size + 1 ≤ gc := by rw [World.size_alloc] at hgc; exact hgc
  have hd0 := hD e v
  clear hrow hb2 hc2_0 hf2_0 hc2_1 hf2_1 hz2_0 hz2_1 hgc hD cV
  go_loopw [14] (fun i wr => ∃ k : Nat, i = .int .i64 k ∧ k ≤ n ∧ Below w.heap.size w wr ∧ Box wr w.heap.size #[.int .i64 v.off, .int .i64 v.save, .string v.abbr] 58 ∧ ∃ C : Array Value, Box wr gc C 75 ∧ n * 11 ≤ C.size ∧ Done l e v k C) (fun i _ => n - (intOf i).toNat)
  case atStart => exact ⟨0, rfl, Nat.zero_le _, hbel, bP, C, bC, hC, hd0⟩
  case round =>
    clear hbel bP bC hC hd0 C
    obtain ⟨k, rfl, hk, hbel, bP, C, bC, hC, hD⟩ := hrel
    have HD := Lib.hid hD
    have HbW := Lib.hid hbel
    have HP := Lib.hid bP
    have HC := Lib.hid bC
    have cP := bP.cell
    have lP := bP.lt
    have lC := bC.lt
    have cV := (HV.out.later hbel).box.cell
    have lVr : b < wr.heap.size := Nat.lt_of_lt_of_le lV hbel.size
    have lgr : g < wr.heap.size := Nat.lt_of_lt_of_le lg hbel.size
    unfold viewC at cV
    rw [← HN.out] at cV
    clear hD bP bC
    by_cases hlt : k < n
    · obtain ⟨x, hx⟩ : ∃ x, l[k]? = some x := ⟨l[k]'(by rw [← HN.out]; exact hlt), by simp⟩
      have hvv : ∀ (j : Nat) (u : Value), (valX e x).cells[j]? = some u → wr.cell? ⟨g, k * 3 + j, none⟩ = some u := fun j u hu => (hbel.cell (p := ⟨g, k * 3 + j, none⟩) lg).trans (HVV.out k x hx j u hu)
      obtain ⟨y, hy⟩ : ∃ y, y = valX e x := ⟨_, rfl⟩
      rw [← hy] at hvv
      have y0 := hvv 0 _ rfl
      have y1 := hvv 1 _ rfl
      have y2 := hvv 2 _ rfl
      simp only [Nat.add_zero] at y0
      have HY := Lib.hid hy
      have Hx := Lib.hid hx
      clear hvv hy hx hbel
      by_cases hyv : y = v
      · subst hyv
        obtain ⟨v0, hv0⟩ : ∃ v, C[k * 11]? = some v := ⟨C[k * 11]'(by omega), by simp⟩
        have g0 := (HC.out.cell (k * 11)).trans hv0
        have f0 := HC.out.free (k * 11)
        go_wp2
        go_quiet (fail)
        go_wp2
        have hbel := HbW.out
        refine ⟨⟨k + 1, by go_num, hlt, by repeat (first | (with_reducible exact Below.refl _ _) | (with_reducible assumption) | (with_reducible refine ba ?_) | (with_reducible refine bd ?_) | (with_reducible refine bdn ?_ _) | (with_reducible refine bset ?_ (by first | exact Nat.le_refl _ | omega | (simp; done) | (simp; omega))) | (with_reducible refine bt ?_ (by with_reducible assumption))), Box.other (HP.out.drewN _) (by omega), _, (HC.out.drewN _).set, by simp; omega, HD.out.put (by rw [← HN.out]; exact hC) Hx.out HY.out.symm⟩, by simp [intOf]; omega⟩
      · have hnx : ¬ valX e x = v := fun h => hyv (HY.out.trans h)
        have Hnx := Lib.hid hnx
        have hcs : y.off ≠ v.off ∨ (y.off = v.off ∧ y.save ≠ v.save) ∨ (y.off = v.off ∧ y.save = v.save ∧ y.abbr ≠ v.abbr) := by
          obtain ⟨yo, ys, ya⟩ := y
          obtain ⟨vo, vs, va⟩ := v
          simp only [ValV.mk.injEq, not_and] at hyv ⊢
          by_cases h1 : yo = vo
          · by_cases h2 : ys = vs
            · exact .inr (.inr ⟨h1, h2, hyv h1 h2⟩)
            · exact .inr (.inl ⟨h1, h2⟩)
          · exact .inl h1
        clear hnx hyv
        rcases hcs with h1 | ⟨h1, h2⟩ | ⟨h1, h2, h3⟩
        · have e1 : (y.off == v.off) = false := by simpa using h1
          clear h1
          go_wp2
          go_quiet (fail)
          go_wp2
          have hbel := HbW.out
          refine ⟨⟨k + 1, by go_num, hlt, by repeat (first | (with_reducible exact Below.refl _ _) | (with_reducible assumption) | (with_reducible refine ba ?_) | (with_reducible refine bd ?_) | (with_reducible refine bdn ?_ _) | (with_reducible refine bset ?_ (by first | exact Nat.le_refl _ | omega | (simp; done) | (simp; omega))) | (with_reducible refine bt ?_ (by with_reducible assumption))), HP.out.drewN _, _, HC.out.drewN _, hC, HD.out.skip Hx.out Hnx.out⟩, by simp [intOf]; omega⟩
        · have e1 : (y.save == v.save) = false := by simpa using h2
          rw [h1] at y0
          clear h1 h2
          go_wp2
          go_quiet (fail)
          go_wp2
          have hbel := HbW.out
          refine ⟨⟨k + 1, by go_num, hlt, by repeat (first | (with_reducible exact Below.refl _ _) | (with_reducible assumption) | (with_reducible refine ba ?_) | (with_reducible refine bd ?_) | (with_reducible refine bdn ?_ _) | (with_reducible refine bset ?_ (by first | exact Nat.le_refl _ | omega | (simp; done) | (simp; omega))) | (with_reducible refine bt ?_ (by with_reducible assumption))), HP.out.drewN _, _, HC.out.drewN _, hC, HD.out.skip Hx.out Hnx.out⟩, by simp [intOf]; omega⟩
        · have e1 := str_ne h3
          rw [h1] at y0
          rw [h2] at y1
          clear h1 h2 h3
          go_wp2
          go_quiet (fail)
          go_wp2
          have hbel := HbW.out
          refine ⟨⟨k + 1, by go_num, hlt, by repeat (first | (with_reducible exact Below.refl _ _) | (with_reducible assumption) | (with_reducible refine ba ?_) | (with_reducible refine bd ?_) | (with_reducible refine bdn ?_ _) | (with_reducible refine bset ?_ (by first | exact Nat.le_refl _ | omega | (simp; done) | (simp; omega))) | (with_reducible refine bt ?_ (by with_reducible assumption))), HP.out.drewN _, _, HC.out.drewN _, hC, HD.out.skip Hx.out Hnx.out⟩, by simp [intOf]; omega⟩
    · have hkn : k = n := by omega
      subst hkn
      have hn' := HN.out
      subst hn'
      clear cV cP
      go_wp2
      go_ret
      refine ⟨_, rfl, ?_, HbW.out⟩
      refine ⟨.inr ⟨gc, 0, cap, by unfold othX; simp, lC, ?_⟩, fun z hz => ?_, by unfold othX; simp; omega⟩
      · intro i j cs u hi hj
        unfold othX at hi
        rw [List.map_map, List.getElem?_map] at hi
        cases hx : l[i]? with
        | none => rw [hx] at hi; cases hi
        | some x =>
          rw [hx] at hi
          cases hi
          rw [Nat.zero_add, HC.out.cell]
          exact HD.out i x hx j u (by rw [if_pos (List.getElem?_eq_some_iff.1 hx).1]; exact hj)
      · unfold othX at hz
        obtain ⟨x, hx, rfl⟩ := List.mem_map.1 hz
        exact ox_fit (HV.out.rules.fit x hx)
end Frc
end Go.Proofs.YtkpjhgkmjcdobaaGreatDoor
