import Derived.Maps.AppendAt
import Derived.RangeFuncBox
import Derived.Test.YtkpjhgkmjcdobaaGreatDoorG15
/-
  occur.In: those in a span, as the program runs it.
-/
namespace Go.Proofs.YtkpjhgkmjcdobaaGreatDoor
open Go.RowKit Go.Shelf NB Nxt
attribute [local go_sem] Oper.semAt_some
namespace Spn
theorem Right (a b : Int) (w : World) : Calls Tryz.prog 48 #[.agg #[.int .i64 a, .int .i64 b]] w fun e w' => e = .returned (.bool (decide (a < b))) ∧ Below w.heap.size w w' := by
  go_enter Tryz.func48, Tryz.ntmps48
  go_wp2
  go_ret
  exact ⟨rfl, by repeat (first | (with_reducible exact Below.refl _ _) | (with_reducible assumption) | (with_reducible refine ba ?_) | (with_reducible refine bd ?_) | (with_reducible refine bdn ?_ _) | (with_reducible refine bset ?_ (by first | exact Nat.le_refl _ | omega | (simp; done) | (simp; omega))) | (with_reducible refine bt ?_ (by with_reducible assumption)))⟩
end Spn
namespace All
/-- what is handed back: a row of its own -/
def RowPost (w : World) (l : List OccV) (e : Ending) (w' : World) : Prop := ∃ v, e = .returned v ∧ w'.ownsRow w.heap.size 53 3 v l.length (l.flatMap OccV.cells) ∧ Below w.heap.size w w'
theorem info_occ : (Tryz.prog.info? 53).map (fun i => (i.zero, i.size, i.bytes)) = some (some (.agg #[.int .i64 0, .int .i64 0, .int .i64 0]), 3, 24) := by kernel_rfl
theorem own_mono {w : World} {B B' : Nat} {e : TypeId} {sz n : Nat} {v : Value} {xs : List Value} (h : w.ownsRow B e sz v n xs) (hB : B' ≤ B) : w.ownsRow B' e sz v n xs := by
  refine ⟨h.1, ?_⟩
  rcases h.2 with h2 | ⟨g, cap, cur, h1, h2, h3⟩
  · exact .inl h2
  · exact .inr ⟨g, cap, cur, h1, Nat.le_trans hB h2, h3⟩
theorem box_own {β : Type} (B : Nat) (cs : Array Value) (t : TypeId) : Own (fun (_ : β) W => Box W B cs t) := fun s X Y row hs hg hrow => by
  refine (hg.block B hs.lt (fun e' => ?_)).trans hs
  obtain ⟨o, ho, hc⟩ := hrow B e'.symm
  rw [show X.heap[B]? = _ from hs] at ho
  cases ho
  cases hc
theorem grown_set (W : World) (b o : Nat) (v : Value) : W.grownBy (W.setCell ⟨b, o, none⟩ v) (some b) :=
  ⟨rfl, rfl, rfl, (KeepsWalks.setCell W _ v).size, fun k _ hk => Below.heap_setCell _ _ _ k (fun e => hk (by rw [e]))⟩
theorem row_ge {w : World} {B : Nat} {e : TypeId} {sz n : Nat} {v : Value} {xs : List Value} (h : w.ownsRow B e sz v n xs) : ∀ k, v.ownBlock = some k → B ≤ k := by
  intro k hk
  rcases h.2 with ⟨rfl, _⟩ | ⟨g, cap, cur, rfl, h2, _⟩
  · simp [Value.ownBlock] at hk
  · obtain rfl : g = k := by simpa [Value.ownBlock] using hk
    exact h2
theorem row_not {w : World} {B c : Nat} {e : TypeId} {sz n : Nat} {v : Value} {xs : List Value} (h : w.ownsRow B e sz v n xs) (hc : c < B) : some c ≠ v.ownBlock := by
  intro e'
  have := row_ge h c e'.symm
  omega
theorem box_kept {X Y : World} {b : Nat} {cs : Array Value} {t : TypeId} {row : Option Nat} (h : Box X b cs t) (hg : X.grownBy Y row) (hr : some b ≠ row) : Box Y b cs t := (hg.block b h.lt hr).trans h
theorem news_box {w : World} {b : Nat} {cs : Array Value} {t : TypeId} (h : Box w b cs t) : ∀ j u, cs.toList[j]? = some u → w.cell? ((⟨b, 0, none⟩ : Addr).add j) = some u := by
  intro j u hu
  have hadd : (⟨b, 0, none⟩ : Addr).add j = ⟨b, j, none⟩ := by unfold Addr.add; split <;> simp_all
  rw [hadd, h.cell]
  simpa using hu
/-- those in a span -/
def inO (l : List RuleV) (name : ByteArray) (fr tt most : Int) : List OccV := if fr < tt then Occ.inL l name tt ⟨-1, 0, fr⟩ most.toNat else []
variable {F : Fence} {n : Nat}
set_option maxRecDepth 100000 in
set_option maxHeartbeats 3200000 in
theorem in1 (h20 : F.fn 61) (h30 : F.fn 21) (h90 : F.fn 94) (h64 : F.fn 48) (h65 : F.fn 49) (hro : F.round = none) (hn : 4 ≤ n) (v : Value) (l : List RuleV) (name : ByteArray) (fr tt most : Int) (w : World)
    (hS : ∀ V : World, CallsIn F (n - 1) Tryz.prog 48 #[.agg #[.int .i64 fr, .int .i64 tt]] V fun e V' => e = .returned (.bool (decide (fr < tt))) ∧ Below V.heap.size V V')
    (hA : ∀ (p : Option Addr) (len cap : Nat) (V : World), CallsIn F (n - 1) Tryz.prog 49 #[.slice p len cap, .string name, .agg #[.int .i64 (-1), .int .i64 0, .int .i64 fr]] V fun e V' =>
      e = .returned (.func (.func 94) #[] #[.pointer (some ⟨V.heap.size, 0, none⟩), .pointer (some ⟨V.heap.size + 1, 0, none⟩), .pointer (some ⟨V.heap.size + 1 + 1, 0, none⟩)]) ∧
      V' = ((V.alloc (.cells #[.slice p len cap] 22)).alloc (.cells #[.string name] 9)).alloc (.cells #[.int .i64 (-1), .int .i64 0, .int .i64 fr] 53))
    (hN : ∀ (V : World) (o : OccV), Holds V v l → CallsIn F (n - 1 - 1) Tryz.prog 61 #[v, .string name, .agg o.cells.toArray] V fun e V' => e = .returned (optV (Occ.nextO l name o)) ∧ Below V.heap.size V V')
    (hH : Holds w v l) (hlt : fr < tt) (hmost : 1 ≤ most) (hmax : most ≤ 100000) :
    CallsIn F n Tryz.prog 21 #[v, .string name, .agg #[.int .i64 fr, .int .i64 tt], .int .i64 most] w (RowPost w (inO l name fr tt most)) := by
  obtain ⟨p, cap, rfl⟩ := hH.form
  have h1 : 1 ≤ n := by omega
  have hS0 := fun V => hS V
  rw [show decide (fr < tt) = true by simpa using hlt] at hS0
  obtain ⟨i0, hi, hz0, hz1, hz2⟩ := info_parts info_occ
  obtain ⟨xs, hx⟩ := Occ.run_next l name ⟨-1, 0, fr⟩
  refine callsIn_of_wp_marks Tryz.func21 rfl h30 ?_ hro
  simp only [Tryz.ntmps21, List.size_toArray, List.length_cons, List.length_nil, Nat.reduceAdd, Nat.reduceSub, Array.replicate_succ, Array.replicate_zero, List.push_toArray, List.append_toArray, List.nil_append, List.cons_append]
  have hA0 := fun V => hA p l.length cap V
  have HA := Lib.hid hA0
  have HS := Lib.hid hS0
  have HN := Lib.hid hN
  have HH := Lib.hid hH
  have Hx := Lib.hid hx
  clear hS hS0 hA hA0 hN hH hx
  generalize l.length = len at *
  gi_wp2_with (first
    | (gi_at_call 48; refine (HS.out _).mono ?_; rintro e w1 ⟨rfl, hb1⟩; obtain ⟨hc1, hf1⟩ := bcell hb1)
    | (gi_at_call 49; refine (HA.out _).mono ?_; rintro e w2 ⟨rfl, hw2⟩))
  obtain ⟨V, hV⟩ : ∃ V, V = ((w.alloc (.cells #[.int .i64 fr, .int .i64 tt] 51)).alloc (.cells #[.int .i64 most] 3)).alloc (.cells #[.slice none 0 0] 48) := ⟨_, rfl⟩
  have hVs : V.heap.size = w.heap.size + 3 := by rw [hV]; simp
  have hVB : Below w.heap.size w V := by rw [hV]; exact ba (ba (ba (Below.refl _ _)))
  have hVo : Box V (w.heap.size + 1 + 1) #[.slice none 0 0] 48 := by
    rw [hV]
    have := Box.new ((w.alloc (.cells #[.int .i64 fr, .int .i64 tt] 51)).alloc (.cells #[.int .i64 most] 3)) #[.slice none 0 0] 48
    simpa using this
  have hVm : Box V (w.heap.size + 1) #[.int .i64 most] 3 := by
    rw [hV]
    have := Box.new (w.alloc (.cells #[.int .i64 fr, .int .i64 tt] 51)) #[.int .i64 most] 3
    simp only [World.size_alloc] at this
    exact this.old
  have hVp : Box V w.heap.size #[.int .i64 fr, .int .i64 tt] 51 := by
    rw [hV]
    exact ((Box.new _ _ _).old).old
  rw [← hV] at hb1
  have hs1 := hb1.size
  obtain ⟨X, hX⟩ : ∃ X, X = ((w1.alloc (.cells #[.slice p len cap] 22)).alloc (.cells #[.string name] 9)).alloc (.cells #[.int .i64 (-1), .int .i64 0, .int .i64 fr] 53) := ⟨_, rfl⟩
  have hXs : X.heap.size = w1.heap.size + 3 := by rw [hX]; simp
  have hX1 : Below w1.heap.size w1 X := by rw [hX]; exact ba (ba (ba (Below.refl _ _)))
  have hXV : Below V.heap.size V X := hb1.trans (hX1.mono hb1.size)
  have hXB : Below w.heap.size w X := hVB.trans (hXV.mono hVB.size)
  have hEX : Env X w1.heap.size (.slice p len cap) name ⟨-1, 0, fr⟩ := by
    rw [hX]
    refine ⟨((Box.new _ _ _).old).old, ?_, ?_⟩
    · have := Box.new (w1.alloc (.cells #[.slice p len cap] 22)) #[.string name] 9
      simp only [World.size_alloc] at this
      exact this.old
    · have := Box.new ((w1.alloc (.cells #[.slice p len cap] 22)).alloc (.cells #[.string name] 9)) #[.int .i64 (-1), .int .i64 0, .int .i64 fr] 53
      simpa using this
  rw [← hX]
  clear hX hV hb1 hX1
  have bO : Box X (w.heap.size + 1 + 1) #[.slice none 0 0] 48 := hVo.later hXV
  have bM : Box X (w.heap.size + 1) #[.int .i64 most] 3 := hVm.later hXV
  have bP : Box X w.heap.size #[.int .i64 fr, .int .i64 tt] 51 := hVp.later hXV
  clear hVo hVm hVp hXV hVB
  refine Rng.range hro h1 (gf := 94) (lb := #[.pointer (some ⟨w1.heap.size, 0, none⟩), .pointer (some ⟨w1.heap.size + 1, 0, none⟩), .pointer (some ⟨w1.heap.size + 1 + 1, 0, none⟩)]) rfl h90 (enters_of Tryz.func94 (by kernel_rfl) rfl)
    (encs := fun o : OccV => #[.agg o.cells.toArray]) (xs := xs) (Kp := Kp w.heap.size w1.heap.size)
    (fun W hW hWs => all1 h20 h90 hro (by omega) w (.slice p len cap) l name ⟨-1, 0, fr⟩ w1.heap.size xs W HN.out HH.out Hx.out (hXB.trans (hW.mono hXB.size)) (by omega) (hEX.later hW) (by omega))
    (fun h k => ⟨h.1.trans k.1, fun j a b => (k.2.1 j a b).trans (h.2.1 j a b), k.2.2.trans h.2.2⟩)
    (fun c W lp o o' h2 h3 h4 h5 => ⟨(Below.refl w.heap.size W).grown (grownBy_putObj' W lp o') (by have := (Array.getElem?_eq_some_iff.1 h5).1; omega) (fun k e => by cases e; omega), fun k a b => World.putObj_heap_other (by omega), World.putObj_heap_other (by omega)⟩)
    (fun _ => rfl)
    (fun c pre W => ((∃ v, Boxed W (w.heap.size + 1 + 1) 48 v ∧ W.ownsRow (c + 1) 53 3 v pre.length (pre.flatMap OccV.cells) ∧ True) ∧ Box W (w.heap.size + 1) #[.int .i64 most] 3 ∧ Box W w.heap.size #[.int .i64 fr, .int .i64 tt] 51) ∧ ((∀ o ∈ pre, o.nom < tt) ∧ (pre.length : Int) < most) ∧ Below w.heap.size w W)
    (fun c pre W => ∃ L, (c = .exit 0 ∧ ((∃ x, pre = L ++ [x] ∧ (∀ o ∈ L, o.nom < tt) ∧ tt ≤ x.nom ∧ (L.length : Int) < most) ∨ (pre = L ∧ (∀ o ∈ L, o.nom < tt) ∧ (L.length : Int) = most))) ∧ (∃ v, Boxed W (w.heap.size + 1 + 1) 48 v ∧ W.ownsRow w.heap.size 53 3 v L.length (L.flatMap OccV.cells) ∧ True) ∧ Below w.heap.size w W)
    ?hI ?hIc ?hIx ?h0
    (fun c x a' W => ∃ Bx, Box W Bx #[.int .i64 x.rule, .int .i64 x.year, .int .i64 x.nom] 53 ∧ a' = { tmps := #[.slice p len cap, .string name, .agg #[.int .i64 fr, .int .i64 tt], .int .i64 most, undef, undef, .pointer (some ⟨w.heap.size, 0, none⟩), .pointer (some ⟨w.heap.size + 1, 0, none⟩), .slice none 0 0, .pointer (some ⟨w.heap.size + 1 + 1, 0, none⟩), .pointer (some ⟨Bx, 0, none⟩), .agg #[.int .i64 fr, .int .i64 tt], .bool true, .bool false, .bool false, .int .i64 most, .bool (decide (most < 1)), .bool (decide (most < 1)), undef, .slice p len cap, .string name, .pointer (some ⟨w.heap.size, 0, none⟩), .int .i64 fr, .agg #[.int .i64 (-1), .int .i64 0, .int .i64 fr], .func (.func 94) #[] #[.pointer (some ⟨w1.heap.size, 0, none⟩), .pointer (some ⟨w1.heap.size + 1, 0, none⟩), .pointer (some ⟨w1.heap.size + 1 + 1, 0, none⟩)], .agg #[.int .i64 x.rule, .int .i64 x.year, .int .i64 x.nom], undef, undef, undef, undef, undef, undef, undef, undef, undef, undef, undef, undef, undef, undef], defers := [] })
    ?hAx ?assign ?body ?done ?stop
  case hI =>
    intro c
    refine OwnFrom.and (OwnFrom.and (Own.from (holdsRow_own (c + 1) (w.heap.size + 1 + 1) 48 53 3 (fun pre : List OccV => pre.length) (fun pre => pre.flatMap OccV.cells) (fun _ _ => True)) _) (OwnFrom.and (Own.from (box_own _ _ _) _) (Own.from (box_own _ _ _) _))) (OwnFrom.and (ownFrom_pure _ _) (ownFrom_below (Nat.le_refl _) (by omega)))
  case hIc =>
    rintro c pre A o v hc ⟨⟨⟨u, hu1, hu2, _⟩, hm, hp⟩, hpure, hB⟩
    refine ⟨⟨⟨u, hu1.kept (grown_set A c o v) (by intro e; cases e; omega), hu2.kept (grown_set A c o v) ?_, trivial⟩, hm.other (by omega), hp.other (by omega)⟩, hpure, hB.setCell (p := ⟨c, o, none⟩) (by show _ ≤ c; omega) _⟩
    exact .inr (row_not hu2 (Nat.lt_succ_self c)).symm
  case hIx =>
    rintro c pre W V row ⟨L, h2, h3, h4⟩ hg hr
    exact ⟨L, h2, holdsRow_own w.heap.size (w.heap.size + 1 + 1) 48 53 3 (fun pre : List OccV => pre.length) (fun pre => pre.flatMap OccV.cells) (fun _ _ => True) L W V row h3 hg (fun r e => (hr r e).2), ownFrom_below (β := Unit) (Nat.le_refl w.heap.size) (by omega) () W V row h4 hg hr⟩
  case h0 =>
    intro c hc
    exact ⟨⟨⟨_, bO, World.ownsRow_nil _ _ _ _, trivial⟩, bM, bP⟩, ⟨by simp, by simp; omega⟩, hXB⟩
  case hAx =>
    rintro c x a' s W V row ⟨Bx, h2, h3⟩ hg hr
    exact ⟨Bx, box_own (β := Unit) Bx _ _ () W V row h2 hg (fun r e => (hr r e).2), h3⟩
  case assign =>
    rintro lp c pre x W K hc hcW ⟨⟨⟨u, hu1, hu2, _⟩, hm, hp⟩, hpure, hB⟩ hK
    simp only at hK ⊢
    unfold OccV.cells
    gi_wp2
    have hBa : Below w.heap.size W (W.alloc (.cells #[.int .i64 x.rule, .int .i64 x.year, .int .i64 x.nom] 53)) := (Below.refl _ _).alloc hB.size _
    exact hK _ _ ((KeepsOthers.alloc _ _).from _) ⟨hBa, fun k a b => Below.heap_alloc W _ k (by omega), Below.heap_alloc W _ c hcW⟩ ⟨⟨⟨u, hu1.alloc _, hu2.alloc _, trivial⟩, hm.old, hp.old⟩, hpure, hB.trans hBa⟩ ⟨W.heap.size, Box.new _ _ _, rfl⟩
  case body =>
    rintro lp c pre x a' W hc hcW ⟨⟨⟨u, hu1, hu2, _⟩, hm, hp⟩, ⟨hpure, hlen⟩, hB⟩ ⟨Bx, hbx, rfl⟩
    simp only []
    have hBs := hB.size
    have cx0 := hbx.cell 0
    have cx1 := hbx.cell 1
    have cx2 := hbx.cell 2
    have cp0 := hp.cell 0
    have cp1 := hp.cell 1
    have cm0 := hm.cell 0
    have cu := hu1.cell
    have fu := hu1.frozen
    have h1' : 1 ≤ n - 1 - 1 := by omega
    have Hbx := Lib.hid hbx
    have Hp := Lib.hid hp
    have Hm := Lib.hid hm
    have HB := Lib.hid hB
    have Hpure := Lib.hid hpure
    clear hbx hp hm hB hpure
    by_cases hxn : tt ≤ x.nom
    · gi_wp2
      exact ⟨KeepsFrom.refl _ _, pre, ⟨rfl, .inl ⟨x, rfl, Hpure.out, hxn, hlen⟩⟩, ⟨u, hu1, own_mono hu2 (by omega), trivial⟩, HB.out⟩
    · have hall : ∀ o ∈ pre ++ [x], o.nom < tt := by
        intro o ho
        rcases List.mem_append.1 ho with h | h
        · exact Hpure.out o h
        · simp only [List.mem_singleton] at h
          subst h
          omega
      have Hall := Lib.hid hall
      clear hall
      have hlx : (pre ++ [x]).length = pre.length + 1 := by simp
      have efl : pre.flatMap OccV.cells ++ [.int .i64 x.rule, .int .i64 x.year, .int .i64 x.nom] = (pre ++ [x]).flatMap OccV.cells := by simp [OccV.cells]
      by_cases hlm : (pre.length : Int) + 1 = most
      · subst hlm
        gi_wp2_with (gi_at_builtin; refine wpListIn_append_own _ rfl _ _ 48 rfl (c + 1) 53 i0 (.agg #[.int .i64 0, .int .i64 0, .int .i64 0]) 3 24 Tryz.underlying48 hi hz0 hz1 hz2 rfl (by decide) _ _ _ rfl (hu2.alloc _) ⟨W.heap.size, 0, none⟩ 1 1 [.int .i64 x.rule, .int .i64 x.year, .int .i64 x.nom] rfl rfl (news_box (Box.new W _ _)) (by simp [Value.oneCell']) (by unfold maxLen; omega) (by omega) (by simp; omega) ?_; intro v' w2 hown' hgrow _; obtain ⟨g', cap', rfl⟩ := ownsRow_succ hown'; obtain ⟨hv1, hv2, hr2, hk2, hb2⟩ := hu1.appended (n₀ := w.heap.size) (by decide) (own_mono hu2 (by omega)) hBs (by omega) (own_mono hown' (by omega)) hgrow; have hc1 := hv1.cell; have hf1 := hv1.frozen; have cm2 := (box_kept Hm.out.old hgrow (row_not hu2 (by omega))).cell 0)
        refine ⟨hk2.from _, pre ++ [x], ⟨rfl, .inr ⟨rfl, Hall.out, by rw [hlx]; omega⟩⟩, ⟨_, hv2, ?_⟩, HB.out.trans hb2⟩
        rw [hlx, ← efl]
        first | exact hr2 | exact ⟨hr2, trivial⟩
      · gi_wp2_with (gi_at_builtin; refine wpListIn_append_own _ rfl _ _ 48 rfl (c + 1) 53 i0 (.agg #[.int .i64 0, .int .i64 0, .int .i64 0]) 3 24 Tryz.underlying48 hi hz0 hz1 hz2 rfl (by decide) _ _ _ rfl (hu2.alloc _) ⟨W.heap.size, 0, none⟩ 1 1 [.int .i64 x.rule, .int .i64 x.year, .int .i64 x.nom] rfl rfl (news_box (Box.new W _ _)) (by simp [Value.oneCell']) (by unfold maxLen; omega) (by omega) (by simp; omega) ?_; intro v' w2 hown' hgrow _; obtain ⟨g', cap', rfl⟩ := ownsRow_succ hown'; obtain ⟨hv1, hv2, hr2, hk2, hb2⟩ := hu1.appended (n₀ := w.heap.size) (by decide) (own_mono hu2 (by omega)) hBs (by omega) (own_mono hown' (by omega)) hgrow; have hc1 := hv1.cell; have hf1 := hv1.frozen; have cm2 := (box_kept Hm.out.old hgrow (row_not hu2 (by omega))).cell 0)
        have hr3 := hown'.kept (grownBy_setCell' w2 (w.heap.size + 1 + 1) (.slice (some ⟨g', 0, none⟩) (pre.length + 1) cap')) (.inr (hv1.not_row (by decide) hown').symm)
        have hkeep : ∀ k, k < c + 1 → k < W.heap.size → k ≠ w.heap.size + 1 + 1 → (w2.setCell ⟨w.heap.size + 1 + 1, 0, none⟩ (.slice (some ⟨g', 0, none⟩) (pre.length + 1) cap')).heap[k]? = W.heap[k]? := by
          intro k a b d
          refine (Below.heap_setCell w2 ⟨w.heap.size + 1 + 1, 0, none⟩ _ k d).trans ?_
          exact (hgrow.block k (by simp; omega) (row_not hu2 a)).trans (Below.heap_alloc W _ k b)
        refine ⟨hk2.from _, ⟨hb2, fun k a b => hkeep k (by omega) (by omega) (by omega), hkeep c (by omega) hcW (by omega)⟩, ⟨⟨_, hv2, ?_⟩, ?_, ?_⟩, ⟨Hall.out, by rw [hlx]; omega⟩, HB.out.trans hb2⟩
        · rw [hlx, ← efl]
          first | exact hr3 | exact ⟨hr3, trivial⟩
        · exact (hkeep _ (by omega) Hm.out.lt (by omega)).trans Hm.out
        · exact (hkeep _ (by omega) Hp.out.lt (by omega)).trans Hp.out
  case done =>
    rintro D c W hD hcD ⟨⟨⟨u, hu1, hu2, _⟩, hm, hp⟩, ⟨hpure, hlen⟩, hB⟩ hK
    have cu := hu1.cell
    gi_wp2
    refine ⟨by simp, .inl ⟨_, _, rfl, run_takeDeferred hK, ?_⟩⟩
    have hw0 : D < W.heap.size := (Array.getElem?_eq_some_iff.1 hK).1
    have hD0 : w.heap.size ≤ D := by omega
    have e : inO l name fr tt most = xs := by
      unfold inO
      rw [if_pos hlt, Occ.inL_run Hx.out]
      exact Occ.take_all hpure (by omega)
    rw [e]
    exact ⟨_, results_tmp rfl _ _ _, _, rfl, ownsRow_putObj (own_mono hu2 (by omega)) _ hK rfl, hB.trans (belowK_b (w := w) (Nat.le_refl _) W D _ _ hD0 hK rfl rfl)⟩
  case stop =>
    rintro D c pre W hD hpre ⟨L, ⟨rfl, hL⟩, ⟨u, hu1, hu2, _⟩, hB⟩ hK
    have cu := hu1.cell
    gi_wp2
    refine ⟨by simp, .inl ⟨_, _, rfl, run_takeDeferred hK, ?_⟩⟩
    have hD0 : w.heap.size ≤ D := by omega
    have e : inO l name fr tt most = L := by
      unfold inO
      rw [if_pos hlt, Occ.inL_run Hx.out]
      rcases hL with ⟨x, rfl, h2, h3, h4⟩ | ⟨rfl, h2, h3⟩
      · exact Occ.take_cut hpre h2 h3 (by omega)
      · rw [← h3]
        exact Occ.take_full hpre h2
    rw [e]
    exact ⟨_, results_tmp rfl _ _ _, _, rfl, ownsRow_putObj hu2 _ hK rfl, hB.trans (belowK_b (w := w) (Nat.le_refl _) W D _ _ hD0 hK rfl rfl)⟩
/-- .. where there is nothing to look for -/
theorem inNil (p : Option Addr) (len cap : Nat) (name : ByteArray) (fr tt most : Int) (w : World) (h : ¬ fr < tt ∨ most < 1) :
    Calls Tryz.prog 21 #[.slice p len cap, .string name, .agg #[.int .i64 fr, .int .i64 tt], .int .i64 most] w fun e w' => e = .returned (.slice none 0 0) ∧ Below w.heap.size w w' := by
  have cs := fun W => Spn.Right fr tt W
  by_cases h0 : fr < tt
  · have hm : most < 1 := h.elim (fun x => (x h0).elim) id
    rw [show decide (fr < tt) = true by simpa using h0] at cs
    have Cs := Lib.hid cs
    clear cs h
    go_enter Tryz.func21, Tryz.ntmps21
    go_wp2_with (go_at_call 48; (with_reducible refine (Cs.out _).mono ?_); rintro e w1 ⟨rfl, hb1⟩; obtain ⟨hc1, hf1⟩ := bcell hb1; have hc1_0 := fun o => hc1 (w.heap.size) o (by first | assumption | omega | (simp; done) | (simp; omega)); have hf1_0 := fun o => hf1 (w.heap.size) o (by first | assumption | omega | (simp; done) | (simp; omega)); have hc1_1 := fun o => hc1 (w.heap.size + 1) o (by first | assumption | omega | (simp; done) | (simp; omega)); have hf1_1 := fun o => hf1 (w.heap.size + 1) o (by first | assumption | omega | (simp; done) | (simp; omega)); have hc1_2 := fun o => hc1 (w.heap.size + 1 + 1) o (by first | assumption | omega | (simp; done) | (simp; omega)); have hf1_2 := fun o => hf1 (w.heap.size + 1 + 1) o (by first | assumption | omega | (simp; done) | (simp; omega)); clear hc1 hf1; have hz1_0 : w.heap.size < w1.heap.size := (by first | exact sz1 hb1 | exact sz2 hb1 | exact sz3 hb1 | (have := hb1.size; (try simp only [World.size_alloc] at this); omega)); have hz1_1 : w.heap.size + 1 < w1.heap.size := (by first | exact sz1 hb1 | exact sz2 hb1 | exact sz3 hb1 | (have := hb1.size; (try simp only [World.size_alloc] at this); omega)); have hz1_2 : w.heap.size + 1 + 1 < w1.heap.size := (by first | exact sz1 hb1 | exact sz2 hb1 | exact sz3 hb1 | (have := hb1.size; (try simp only [World.size_alloc, World.size_drew] at this); omega)))
    go_ret
    exact ⟨rfl, by repeat (first | (with_reducible exact Below.refl _ _) | (with_reducible assumption) | (with_reducible refine ba ?_) | (with_reducible refine bd ?_) | (with_reducible refine bdn ?_ _) | (with_reducible refine bset ?_ (by first | exact Nat.le_refl _ | omega | (simp; done) | (simp; omega))) | (with_reducible refine bt ?_ (by with_reducible assumption)))⟩
  · rw [show decide (fr < tt) = false by simpa using h0] at cs
    have Cs := Lib.hid cs
    clear cs h
    go_enter Tryz.func21, Tryz.ntmps21
    go_wp2_with (go_at_call 48; (with_reducible refine (Cs.out _).mono ?_); rintro e w1 ⟨rfl, hb1⟩; obtain ⟨hc1, hf1⟩ := bcell hb1; have hc1_0 := fun o => hc1 (w.heap.size) o (by first | assumption | omega | (simp; done) | (simp; omega)); have hf1_0 := fun o => hf1 (w.heap.size) o (by first | assumption | omega | (simp; done) | (simp; omega)); have hc1_1 := fun o => hc1 (w.heap.size + 1) o (by first | assumption | omega | (simp; done) | (simp; omega)); have hf1_1 := fun o => hf1 (w.heap.size + 1) o (by first | assumption | omega | (simp; done) | (simp; omega)); have hc1_2 := fun o => hc1 (w.heap.size + 1 + 1) o (by first | assumption | omega | (simp; done) | (simp; omega)); have hf1_2 := fun o => hf1 (w.heap.size + 1 + 1) o (by first | assumption | omega | (simp; done) | (simp; omega)); clear hc1 hf1; have hz1_0 : w.heap.size < w1.heap.size := (by first | exact sz1 hb1 | exact sz2 hb1 | exact sz3 hb1 | (have := hb1.size; (try simp only [World.size_alloc] at this); omega)); have hz1_1 : w.heap.size + 1 < w1.heap.size := (by first | exact sz1 hb1 | exact sz2 hb1 | exact sz3 hb1 | (have := hb1.size; (try simp only [World.size_alloc] at this); omega)); have hz1_2 : w.heap.size + 1 + 1 < w1.heap.size := (by first | exact sz1 hb1 | exact sz2 hb1 | exact sz3 hb1 | (have := hb1.size; (try simp only [World.size_alloc, World.size_drew] at this); omega)))
    go_ret
    exact ⟨rfl, by repeat (first | (with_reducible exact Below.refl _ _) | (with_reducible assumption) | (with_reducible refine ba ?_) | (with_reducible refine bd ?_) | (with_reducible refine bdn ?_ _) | (with_reducible refine bset ?_ (by first | exact Nat.le_refl _ | omega | (simp; done) | (simp; omega))) | (with_reducible refine bt ?_ (by with_reducible assumption)))⟩
theorem in0 (v : Value) (l : List RuleV) (name : ByteArray) (fr tt most : Int) (w : World) (hH : Holds w v l) (h : ¬ fr < tt ∨ most < 1) :
    Calls Tryz.prog 21 #[v, .string name, .agg #[.int .i64 fr, .int .i64 tt], .int .i64 most] w (RowPost w (inO l name fr tt most)) := by
  have e : inO l name fr tt most = [] := by
    unfold inO
    rcases h with h | h
    · rw [if_neg h]
    · split
      · rw [show most.toNat = 0 by omega]; rfl
      · rfl
  rw [e]
  obtain ⟨p, cap, rfl⟩ := hH.form
  exact (inNil p l.length cap name fr tt most w h).mono fun _ _ ⟨h1, h2⟩ => ⟨_, h1, World.ownsRow_nil _ _ _ _, h2⟩
theorem In {v : Value} {l : List RuleV} {w : World} (hH : Holds w v l) (name : ByteArray) (fr tt most : Int) (hmax : most ≤ 100000) :
    Calls Tryz.prog 21 #[v, .string name, .agg #[.int .i64 fr, .int .i64 tt], .int .i64 most] w (RowPost w (inO l name fr tt most)) := by
  by_cases h : fr < tt ∧ 1 ≤ most
  · exact (callsIn_wide (n := 9)).1 (in1 (F := Fence.wide) trivial trivial trivial trivial trivial rfl (by omega) v l name fr tt most w (fun V => callsIn_wide.2 (Spn.Right fr tt V)) (fun p len cap V => callsIn_wide.2 (all p len cap name ⟨-1, 0, fr⟩ V)) (fun V o hV => callsIn_wide.2 (NxH.Next hV name o)) hH h.1 h.2 hmax)
  · exact in0 v l name fr tt most w hH (by omega)
end All
end Go.Proofs.YtkpjhgkmjcdobaaGreatDoor
