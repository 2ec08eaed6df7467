import Derived.Test.YtkpjhgkmjcdobaaGreatDoorForceN
import Derived.Test.YtkpjhgkmjcdobaaGreatDoorG15
import Derived.Deep.RegionHeld3
/-
  force.Next.
-/
namespace Go.Proofs.YtkpjhgkmjcdobaaGreatDoor
open Go.RowKit NB Nxt
/-- the world holds what is ahead of all occurrences -/
def Sta (w : World) : Prop := Box w 0 #[.int .i64 (-1), .int .i64 0, .int .i64 (-2192387558400)] 53
theorem Sta.later {w w' : World} (h : Sta w) (hb : Below w.heap.size w w') : Sta w' := Box.later h hb
namespace Frc
theorem inst_all {l : List RuleV} {e : EraV} {o : OccV} (hm : Chn.may e.off = true) (h : Occ.All l e.rules l.length o) : (Chn.instE l e.rules e.off o).1 = Chn.inst l e.rules e.off o := by rw [Chn.instE_all hm h]
theorem nextF_all {l : List RuleV} {e : EraV} {v : ValV} {fr o : OccV} (hn : e.rules ≠ ⟨#[]⟩) (h : Occ.nextO (othV l e v) e.rules fr = some o) : Occ.All l e.rules l.length o := by
  have hb := Occ.best_next (othV l e v) e.rules fr
  rw [h, oth_len] at hb
  exact ((all_oth hn).1 hb.1).1
theorem rules_ne {e : EraV} (hR : Er.rightB e = true) (hk : e.kind = 2) : e.rules ≠ ⟨#[]⟩ := by
  intro h
  have hne : ¬ Nam.nameE ⟨#[]⟩ = 0 := by decide +kernel
  unfold Er.rightB at hR
  rw [h, hk] at hR
  simp [hne] at hR
set_option maxHeartbeats 2000000 in
set_option maxRecDepth 100000 in
theorem next0 {w : World} {r : Value} {l : List RuleV} (hr : Holds w r l) (e : EraV) (he : e.Fit) (t : Int) (ht : Tab w) (h : ¬ (Er.rightB e = true ∧ e.kind = 2)) :
    Calls Tryz.prog 27 #[r, .agg e.cells.toArray, .int .i64 t] w fun x w' => x = .returned (.tuple #[.int .i64 0, .bool false]) ∧ Below w.heap.size w w' := by
  have cr := fun W (h : Tab W) => Er.Right e he W h
  have HT := Lib.hid ht
  obtain ⟨rp, rc, rfl⟩ := hr.form
  cases hR : Er.rightB e
  · rw [hR] at cr
    unfold EraV.cells at *
    have Cr := Lib.hid cr
    clear cr hr ht h
    go_enter Tryz.func27, Tryz.ntmps27
    go_wp2_with (go_at_call 38; (with_reducible refine (Cr.out _ ?_).mono ?_); (· exact HT.out.later (by repeat (first | (with_reducible exact Below.refl _ _) | (with_reducible assumption) | (with_reducible refine ba ?_) | (with_reducible refine bd ?_) | (with_reducible refine bdn ?_ _) | (with_reducible refine bset ?_ (by first | exact Nat.le_refl _ | omega | (simp; done) | (simp; omega))) | (with_reducible refine bt ?_ (by with_reducible assumption))))); rintro e w1 ⟨rfl, hb1⟩; obtain ⟨hc1, hf1⟩ := bcell hb1; have hc1_0 := fun o => hc1 (w.heap.size) o (by first | assumption | omega | (simp; done) | (simp; omega)); have hf1_0 := fun o => hf1 (w.heap.size) o (by first | assumption | omega | (simp; done) | (simp; omega)); clear hc1 hf1; have hz1_0 : w.heap.size < w1.heap.size := (by first | exact sz1 hb1 | exact sz2 hb1 | exact sz3 hb1 | (have := hb1.size; (try simp only [World.size_alloc, World.size_drew] at this); omega)))
    go_ret2
    exact ⟨rfl, by repeat (first | (with_reducible exact Below.refl _ _) | (with_reducible assumption) | (with_reducible refine ba ?_) | (with_reducible refine bd ?_) | (with_reducible refine bdn ?_ _) | (with_reducible refine bset ?_ (by first | exact Nat.le_refl _ | omega | (simp; done) | (simp; omega))) | (with_reducible refine bt ?_ (by with_reducible assumption)))⟩
  · have hk : ¬ e.kind = 2 := fun hk => h ⟨hR, hk⟩
    rw [hR] at cr
    unfold EraV.cells at *
    have Cr := Lib.hid cr
    clear cr hr ht h
    go_enter Tryz.func27, Tryz.ntmps27
    go_wp2_with (go_at_call 38; (with_reducible refine (Cr.out _ ?_).mono ?_); (· exact HT.out.later (by repeat (first | (with_reducible exact Below.refl _ _) | (with_reducible assumption) | (with_reducible refine ba ?_) | (with_reducible refine bd ?_) | (with_reducible refine bdn ?_ _) | (with_reducible refine bset ?_ (by first | exact Nat.le_refl _ | omega | (simp; done) | (simp; omega))) | (with_reducible refine bt ?_ (by with_reducible assumption))))); rintro e w1 ⟨rfl, hb1⟩; obtain ⟨hc1, hf1⟩ := bcell hb1; have hc1_0 := fun o => hc1 (w.heap.size) o (by first | assumption | omega | (simp; done) | (simp; omega)); have hf1_0 := fun o => hf1 (w.heap.size) o (by first | assumption | omega | (simp; done) | (simp; omega)); clear hc1 hf1; have hz1_0 : w.heap.size < w1.heap.size := (by first | exact sz1 hb1 | exact sz2 hb1 | exact sz3 hb1 | (have := hb1.size; (try simp only [World.size_alloc, World.size_drew] at this); omega)))
    go_ret2
    exact ⟨rfl, by repeat (first | (with_reducible exact Below.refl _ _) | (with_reducible assumption) | (with_reducible refine ba ?_) | (with_reducible refine bd ?_) | (with_reducible refine bdn ?_ _) | (with_reducible refine bset ?_ (by first | exact Nat.le_refl _ | omega | (simp; done) | (simp; omega))) | (with_reducible refine bt ?_ (by with_reducible assumption)))⟩
set_option maxHeartbeats 2000000 in
set_option maxRecDepth 100000 in
theorem next1 {w : World} {r : Value} {l : List RuleV} (hr : Holds w r l) (e : EraV) (he : e.Fit) (t : Int) (ht : Tab w) (hst : Sta w) (hs : ∀ x ∈ l, x.letter.size ≤ 1000000) (hn : l.length ≤ 100000) (hR : Er.rightB e = true) (hk : e.kind = 2) :
    Calls Tryz.prog 27 #[r, .agg e.cells.toArray, .int .i64 t] w fun x w' => x = .returned (.tuple #[.int .i64 (tell l e (nextF l e t)).1, .bool (tell l e (nextF l e t)).2]) ∧ Below w.heap.size w w' := by
  have hne := rules_ne hR hk
  have hm : Chn.may e.off = true := Chn.may_iff.2 (Unt.right_spec hR).1
  have cr := fun W (h : Tab W) => Er.Right e he W h
  rw [hR] at cr
  have co := fun W (h : Holds W r l) (ht : Tab W) => of1 e he h ht hs hn
  have ca := fun W b g (h : View W b l e r g) (h' : Tab W) => atW h he h' t hn
  have cq := fun W b g (h : View W b l e r g) v => others h hn v
  unfold atR at ca
  rw [if_pos hk] at ca
  obtain ⟨v, hv⟩ : ∃ v, v = stateV l e t := ⟨_, rfl⟩
  rw [← hv] at ca
  obtain ⟨fr, hfr⟩ : ∃ fr, fr = (lastP l e t).getD startO := ⟨_, rfl⟩
  obtain ⟨N, hN⟩ : ∃ N, N = nextF l e t := ⟨_, rfl⟩
  have hNx : N = Occ.nextO (othX l e v) e.rules fr := by
    rw [hN, next_othX hne, hv, hfr]
    rfl
  have cx := fun W u (h : Holds W u (othX l e v)) => NxH.Next h e.rules fr
  rw [← hNx] at cx
  rw [← hN]
  have hall : ∀ o, N = some o → Occ.All l e.rules l.length o := fun o ho => nextF_all hne (v := v) (fr := fr) (by rw [← next_othX hne, ← hNx]; exact ho)
  have ci0 := fun W b g (h : View W b l e r g) o => instant0 h o
  have ci1 := fun W b g (h : View W b l e r g) o (ho : N = some o) => by have := instant1 h o; rw [inst_all hm (hall o ho)] at this; exact this
  have HH := Lib.hid hr
  have HT := Lib.hid ht
  have HS := Lib.hid hst
  have HFr := Lib.hid hfr
  unfold EraV.cells ValV.cells OccV.cells at *
  simp only [hk] at cr co
  have Cr := Lib.hid cr
  have Co := Lib.hid co
  have Ca := Lib.hid ca
  have Cq := Lib.hid cq
  have Cx := Lib.hid cx
  have Ci0 := Lib.hid ci0
  have Ci1 := Lib.hid ci1
  obtain ⟨rp, rc, rfl⟩ := hr.form
  clear cr co ca cq cx ci0 ci1 hr ht hst hs hv hN hNx hall hfr hne hm
  generalize hnl : l.length = n at *
  clear hnl
  rw [hk]
  go_enter Tryz.func27, Tryz.ntmps27
  go_upto_region 4 with (first
    | (go_at_call 38; (with_reducible refine (Cr.out _ ?_).mono ?_); (· exact HT.out.later (by repeat (first | (with_reducible exact Below.refl _ _) | (with_reducible assumption) | (with_reducible refine ba ?_) | (with_reducible refine bd ?_) | (with_reducible refine bdn ?_ _) | (with_reducible refine bset ?_ (by first | exact Nat.le_refl _ | omega | (simp; done) | (simp; omega))) | (with_reducible refine bt ?_ (by with_reducible assumption))))); rintro e w1 ⟨rfl, hb1⟩; obtain ⟨hc1, hf1⟩ := bcell hb1; have hc1_0 := fun o => hc1 (w.heap.size) o (by first | assumption | omega | (simp; done) | (simp; omega)); have hf1_0 := fun o => hf1 (w.heap.size) o (by first | assumption | omega | (simp; done) | (simp; omega)); clear hc1 hf1; have hz1_0 : w.heap.size < w1.heap.size := (by first | exact sz1 hb1 | exact sz2 hb1 | exact sz3 hb1 | (have := hb1.size; (try simp only [World.size_alloc, World.size_drew] at this); omega)))
    | (go_at_call 55; (with_reducible refine (Co.out _ ?_ ?_).mono ?_); (· exact HH.out.later (by repeat (first | (with_reducible exact Below.refl _ _) | (with_reducible assumption) | (with_reducible refine ba ?_) | (with_reducible refine bd ?_) | (with_reducible refine bdn ?_ _) | (with_reducible refine bset ?_ (by first | exact Nat.le_refl _ | omega | (simp; done) | (simp; omega))) | (with_reducible refine bt ?_ (by with_reducible assumption))))); (· exact HT.out.later (by repeat (first | (with_reducible exact Below.refl _ _) | (with_reducible assumption) | (with_reducible refine ba ?_) | (with_reducible refine bd ?_) | (with_reducible refine bdn ?_ _) | (with_reducible refine bset ?_ (by first | exact Nat.le_refl _ | omega | (simp; done) | (simp; omega))) | (with_reducible refine bt ?_ (by with_reducible assumption))))); rintro z w2 ⟨b, g, rfl, hvw, hb2⟩; obtain ⟨hc2, hf2⟩ := bcell hb2; have hc2_0 := fun o => hc2 (w.heap.size) o (by first | assumption | omega | (simp; done) | (simp; omega)); have hf2_0 := fun o => hf2 (w.heap.size) o (by first | assumption | omega | (simp; done) | (simp; omega)); clear hc2 hf2; have hz2_0 : w.heap.size < w2.heap.size := (by first | exact sz1 hb2 | exact sz2 hb2 | exact sz3 hb2 | (have := hb2.size; (try simp only [World.size_alloc, World.size_drew] at this); omega))))
  have b4 : Box w2 w.heap.size #[.int .i64 e.off, .int .i64 2, .int .i64 e.save, .string e.rules, .string e.format, .bool e.u.has, .int .i64 e.u.year, .int .i64 e.u.month, .int .i64 e.u.kind, .int .i64 e.u.week, .int .i64 e.u.day, .int .i64 e.u.sec, .int .i64 e.u.base] 30 := by repeat (first | (with_reducible assumption) | (with_reducible exact Box.new _ _ _) | (with_reducible refine Box.old ?_) | (with_reducible refine Box.drew ?_) | (with_reducible refine Box.drewN ?_ _) | (with_reducible refine Box.other ?_ (by first | assumption | omega | (simp; omega))) | (with_reducible refine Box.later ?_ (by with_reducible assumption)))
  have hbel : Below w.heap.size w w2 := by repeat (first | (with_reducible exact Below.refl _ _) | (with_reducible assumption) | (with_reducible refine ba ?_) | (with_reducible refine bd ?_) | (with_reducible refine bdn ?_ _) | (with_reducible refine bset ?_ (by first | exact Nat.le_refl _ | omega | (simp; done) | (simp; omega))) | (with_reducible refine bt ?_ (by with_reducible assumption)))
  have hsta : Sta w2 := HS.out.later hbel
  have htab : Tab w2 := HT.out.later hbel
  have HVw := Lib.hid hvw
  have HBL := Lib.hid hbel
  have HB4 := Lib.hid b4
  have HTab := Lib.hid htab
  have gS := hsta.cell
  have lS := hsta.lt
  have k4 := b4.cell
  have l4 := b4.lt
  clear hvw hbel htab b4 hb2 hc2_0 hf2_0 hz2_0 hsta
  cases hlp : lastP l e t
  case none =>
    have ca' : ∀ W b g, View W b l e (.slice rp n rc) g → Tab W → Calls Tryz.prog 56 #[.pointer (some ⟨b, 0, none⟩), .int .i64 t] W fun x w' => x = .returned (.tuple #[.agg #[.int .i64 v.off, .int .i64 v.save, .string v.abbr], .agg #[.int .i64 0, .int .i64 0, .int .i64 0], .bool false]) ∧ Below W.heap.size W w' := fun W b g h h' => by have := Ca.out W b g h h'; rw [hlp] at this; exact this
    have hfr' : fr = startO := by rw [HFr.out, hlp]; rfl
    subst hfr'
    unfold startO at *
    simp only at *
    have Ca' := Lib.hid ca'
    clear ca' hlp Ca HFr
    go_upto_region 7 with (go_at_call 56; (with_reducible refine (Ca'.out _ _ _ HVw.out ?_).mono ?_); (· exact HTab.out); rintro z w3 ⟨rfl, hb3⟩; obtain ⟨hc3, hf3⟩ := bcell hb3; have hc3_0 := fun o => hc3 (w.heap.size) o (by first | assumption | omega | (simp; done) | (simp; omega)); have hf3_0 := fun o => hf3 (w.heap.size) o (by first | assumption | omega | (simp; done) | (simp; omega)); have hc3_1 := fun o => hc3 (0) o (by first | assumption | omega | (simp; done) | (simp; omega)); have hf3_1 := fun o => hf3 (0) o (by first | assumption | omega | (simp; done) | (simp; omega)); clear hc3 hf3; have hz3_0 : w.heap.size < w3.heap.size := (by first | exact sz1 hb3 | exact sz2 hb3 | exact sz3 hb3 | (have := hb3.size; (try simp only [World.size_alloc, World.size_drew] at this); omega)); have hz3_1 : 0 < w3.heap.size := (by first | exact sz1 hb3 | exact sz2 hb3 | exact sz3 hb3 | (have := hb3.size; (try simp only [World.size_alloc, World.size_drew] at this); omega)))
    have b9 : Box ((w3.alloc (.cells #[.int .i64 v.off, .int .i64 v.save, .string v.abbr] 58)).alloc (.cells #[.int .i64 (-1), .int .i64 0, .int .i64 (-2192387558400)] 53)) w3.heap.size #[.int .i64 v.off, .int .i64 v.save, .string v.abbr] 58 := Box.old (Box.new _ _ _)
    have b10 : Box ((w3.alloc (.cells #[.int .i64 v.off, .int .i64 v.save, .string v.abbr] 58)).alloc (.cells #[.int .i64 (-1), .int .i64 0, .int .i64 (-2192387558400)] 53)) (w3.heap.size + 1) #[.int .i64 (-1), .int .i64 0, .int .i64 (-2192387558400)] 53 := boxS1 _ _ _ _
    have b4 : Box ((w3.alloc (.cells #[.int .i64 v.off, .int .i64 v.save, .string v.abbr] 58)).alloc (.cells #[.int .i64 (-1), .int .i64 0, .int .i64 (-2192387558400)] 53)) w.heap.size #[.int .i64 e.off, .int .i64 2, .int .i64 e.save, .string e.rules, .string e.format, .bool e.u.has, .int .i64 e.u.year, .int .i64 e.u.month, .int .i64 e.u.kind, .int .i64 e.u.week, .int .i64 e.u.day, .int .i64 e.u.sec, .int .i64 e.u.base] 30 := Box.old (Box.old (HB4.out.later hb3))
    have hX : Below w2.heap.size w2 ((w3.alloc (.cells #[.int .i64 v.off, .int .i64 v.save, .string v.abbr] 58)).alloc (.cells #[.int .i64 (-1), .int .i64 0, .int .i64 (-2192387558400)] 53)) := by repeat (first | (with_reducible exact Below.refl _ _) | (with_reducible assumption) | (with_reducible refine ba ?_) | (with_reducible refine bd ?_) | (with_reducible refine bdn ?_ _) | (with_reducible refine bset ?_ (by first | exact Nat.le_refl _ | omega | (simp; done) | (simp; omega))) | (with_reducible refine bt ?_ (by with_reducible assumption)))
    generalize ((w3.alloc (.cells #[.int .i64 v.off, .int .i64 v.save, .string v.abbr] 58)).alloc (.cells #[.int .i64 (-1), .int .i64 0, .int .i64 (-2192387558400)] 53)) = X at *
    obtain ⟨p9, hp9⟩ : ∃ p, p = w3.heap.size := ⟨_, rfl⟩
    rw [← hp9] at b9 b10 ⊢
    obtain ⟨p10, hp10⟩ : ∃ p, p = p9 + 1 := ⟨_, rfl⟩
    rw [← hp10] at b10 ⊢
    have hVX := HVw.out.later hX
    have hWX := HBL.out.trans (hX.mono HBL.out.size)
    have hSF : ∀ u : World, Below X.heap.size X u → (∀ o, u.cell? ⟨w.heap.size, o, none⟩ = (#[.int .i64 e.off, .int .i64 2, .int .i64 e.save, .string e.rules, .string e.format, .bool e.u.has, .int .i64 e.u.year, .int .i64 e.u.month, .int .i64 e.u.kind, .int .i64 e.u.week, .int .i64 e.u.day, .int .i64 e.u.sec, .int .i64 e.u.base] : Array Value)[o]?) ∧ (∀ o, u.cell? ⟨p9, o, none⟩ = (#[.int .i64 v.off, .int .i64 v.save, .string v.abbr] : Array Value)[o]?) ∧ (∀ o, u.cell? ⟨p10, o, none⟩ = (#[.int .i64 (-1), .int .i64 0, .int .i64 (-2192387558400)] : Array Value)[o]?) := fun u hu => ⟨(b4.later hu).cell, (b9.later hu).cell, (b10.later hu).cell⟩
    have HVX := Lib.hid hVX
    have HWX := Lib.hid hWX
    have HSF := Lib.hid hSF
    clear b9 b10 b4 hX hp9 hp10 hVX hWX hSF hb3 hc3_0 hf3_0 hc3_1 hf3_1 hz3_0 hz3_1 gS lS k4 l4
    rcases N with _ | o
    case' none =>
      have cx : ∀ W u, Holds W u (othX l e v) → Calls Tryz.prog 61 #[u, .string e.rules, .agg #[.int .i64 (-1), .int .i64 0, .int .i64 (-2192387558400)]] W fun z w' => z = .returned (.tuple #[.agg #[.int .i64 0, .int .i64 0, .int .i64 0], .bool false]) ∧ Below W.heap.size W w' := fun W u h => Cx.out W u h
      have ci : ∀ W b g, View W b l e (.slice rp n rc) g → Calls Tryz.prog 60 #[.pointer (some ⟨b, 0, none⟩), .agg #[.int .i64 0, .int .i64 0, .int .i64 0], .bool false] W fun z w' => z = .returned (.tuple #[.int .i64 0, .bool false]) ∧ Below W.heap.size W w' := fun W b g h => Ci0.out W b g h ⟨0, 0, 0⟩
    case' some =>
      have cx : ∀ W u, Holds W u (othX l e v) → Calls Tryz.prog 61 #[u, .string e.rules, .agg #[.int .i64 (-1), .int .i64 0, .int .i64 (-2192387558400)]] W fun z w' => z = .returned (.tuple #[.agg #[.int .i64 o.rule, .int .i64 o.year, .int .i64 o.nom], .bool true]) ∧ Below W.heap.size W w' := fun W u h => Cx.out W u h
      obtain ⟨io, hio⟩ : ∃ io, io = Chn.inst l e.rules e.off o := ⟨_, rfl⟩
      have ci : ∀ W b g, View W b l e (.slice rp n rc) g → Calls Tryz.prog 60 #[.pointer (some ⟨b, 0, none⟩), .agg #[.int .i64 o.rule, .int .i64 o.year, .int .i64 o.nom], .bool true] W fun z w' => z = .returned (.tuple #[.int .i64 io, .bool true]) ∧ Below W.heap.size W w' := fun W b g h => by rw [hio]; exact Ci1.out W b g h o rfl
      have HIO := Lib.hid hio
      clear hio
    all_goals
      have CX := Lib.hid cx
      have CI := Lib.hid ci
      clear cx ci Cx Ci0 Ci1
      go_region_held3 (fun w' => (∀ o, w'.cell? ⟨w.heap.size, o, none⟩ = (#[.int .i64 e.off, .int .i64 2, .int .i64 e.save, .string e.rules, .string e.format, .bool e.u.has, .int .i64 e.u.year, .int .i64 e.u.month, .int .i64 e.u.kind, .int .i64 e.u.week, .int .i64 e.u.day, .int .i64 e.u.sec, .int .i64 e.u.base] : Array Value)[o]?) ∧ (∀ o, w'.cell? ⟨p9, o, none⟩ = (#[.int .i64 v.off, .int .i64 v.save, .string v.abbr] : Array Value)[o]?) ∧ (∀ o, w'.cell? ⟨p10, o, none⟩ = (#[.int .i64 (-1), .int .i64 0, .int .i64 (-2192387558400)] : Array Value)[o]?)) ((refine HSF.out _ ?_; repeat (first | (with_reducible exact Below.refl _ _) | (with_reducible assumption) | (with_reducible refine ba ?_) | (with_reducible refine bd ?_) | (with_reducible refine bdn ?_ _) | (with_reducible refine bset ?_ (by first | exact Nat.le_refl _ | omega | (simp; done) | (simp; omega))) | (with_reducible refine bt ?_ (by with_reducible assumption))))) (first
        | (go_at_call 62; (with_reducible refine (Cq.out _ _ _ (HVX.out.later ?_) v).mono ?_); (· repeat (first | (with_reducible exact Below.refl _ _) | (with_reducible assumption) | (with_reducible refine ba ?_) | (with_reducible refine bd ?_) | (with_reducible refine bdn ?_ _) | (with_reducible refine bset ?_ (by first | exact Nat.le_refl _ | omega | (simp; done) | (simp; omega))) | (with_reducible refine bt ?_ (by with_reducible assumption)))); rintro z w4 ⟨u4, rfl, hvo, hb4⟩)
        | (go_at_call 61; (with_reducible refine (CX.out _ _ ?_).mono ?_); (· exact hvo.later (by repeat (first | (with_reducible exact Below.refl _ _) | (with_reducible assumption) | (with_reducible refine ba ?_) | (with_reducible refine bd ?_) | (with_reducible refine bdn ?_ _) | (with_reducible refine bset ?_ (by first | exact Nat.le_refl _ | omega | (simp; done) | (simp; omega))) | (with_reducible refine bt ?_ (by with_reducible assumption))))); rintro z w5 ⟨rfl, hb5⟩)
        | (go_at_call 60; (with_reducible refine (CI.out _ _ _ (HVX.out.later ?_)).mono ?_); (· repeat (first | (with_reducible exact Below.refl _ _) | (with_reducible assumption) | (with_reducible refine ba ?_) | (with_reducible refine bd ?_) | (with_reducible refine bdn ?_ _) | (with_reducible refine bset ?_ (by first | exact Nat.le_refl _ | omega | (simp; done) | (simp; omega))) | (with_reducible refine bt ?_ (by with_reducible assumption)))); rintro z w6 ⟨rfl, hb6⟩))
      all_goals
        go_wp2
        have hWX := HWX.out
        go_ret2
        first
          | exact ⟨rfl, by repeat (first | (with_reducible exact Below.refl _ _) | (with_reducible assumption) | (with_reducible refine ba ?_) | (with_reducible refine bd ?_) | (with_reducible refine bdn ?_ _) | (with_reducible refine bset ?_ (by first | exact Nat.le_refl _ | omega | (simp; done) | (simp; omega))) | (with_reducible refine bt ?_ (by with_reducible assumption)))⟩
          | exact ⟨by rw [HIO.out]; rfl, by repeat (first | (with_reducible exact Below.refl _ _) | (with_reducible assumption) | (with_reducible refine ba ?_) | (with_reducible refine bd ?_) | (with_reducible refine bdn ?_ _) | (with_reducible refine bset ?_ (by first | exact Nat.le_refl _ | omega | (simp; done) | (simp; omega))) | (with_reducible refine bt ?_ (by with_reducible assumption)))⟩
  case some lo =>
    have ca' : ∀ W b g, View W b l e (.slice rp n rc) g → Tab W → Calls Tryz.prog 56 #[.pointer (some ⟨b, 0, none⟩), .int .i64 t] W fun x w' => x = .returned (.tuple #[.agg #[.int .i64 v.off, .int .i64 v.save, .string v.abbr], .agg #[.int .i64 fr.rule, .int .i64 fr.year, .int .i64 fr.nom], .bool true]) ∧ Below W.heap.size W w' := fun W b g h h' => by have := Ca.out W b g h h'; have e : fr = lo := (by rw [HFr.out, hlp]; rfl); rw [hlp, ← e] at this; exact this
    have Ca' := Lib.hid ca'
    clear ca' hlp Ca HFr
    go_upto_region 7 with (go_at_call 56; (with_reducible refine (Ca'.out _ _ _ HVw.out ?_).mono ?_); (· exact HTab.out); rintro z w3 ⟨rfl, hb3⟩; obtain ⟨hc3, hf3⟩ := bcell hb3; have hc3_0 := fun o => hc3 (w.heap.size) o (by first | assumption | omega | (simp; done) | (simp; omega)); have hf3_0 := fun o => hf3 (w.heap.size) o (by first | assumption | omega | (simp; done) | (simp; omega)); have hc3_1 := fun o => hc3 (0) o (by first | assumption | omega | (simp; done) | (simp; omega)); have hf3_1 := fun o => hf3 (0) o (by first | assumption | omega | (simp; done) | (simp; omega)); clear hc3 hf3; have hz3_0 : w.heap.size < w3.heap.size := (by first | exact sz1 hb3 | exact sz2 hb3 | exact sz3 hb3 | (have := hb3.size; (try simp only [World.size_alloc, World.size_drew] at this); omega)); have hz3_1 : 0 < w3.heap.size := (by first | exact sz1 hb3 | exact sz2 hb3 | exact sz3 hb3 | (have := hb3.size; (try simp only [World.size_alloc, World.size_drew] at this); omega)))
    have b9 : Box ((w3.alloc (.cells #[.int .i64 v.off, .int .i64 v.save, .string v.abbr] 58)).alloc (.cells #[.int .i64 fr.rule, .int .i64 fr.year, .int .i64 fr.nom] 53)) w3.heap.size #[.int .i64 v.off, .int .i64 v.save, .string v.abbr] 58 := Box.old (Box.new _ _ _)
    have b10 : Box ((w3.alloc (.cells #[.int .i64 v.off, .int .i64 v.save, .string v.abbr] 58)).alloc (.cells #[.int .i64 fr.rule, .int .i64 fr.year, .int .i64 fr.nom] 53)) (w3.heap.size + 1) #[.int .i64 fr.rule, .int .i64 fr.year, .int .i64 fr.nom] 53 := boxS1 _ _ _ _
    have b4 : Box ((w3.alloc (.cells #[.int .i64 v.off, .int .i64 v.save, .string v.abbr] 58)).alloc (.cells #[.int .i64 fr.rule, .int .i64 fr.year, .int .i64 fr.nom] 53)) w.heap.size #[.int .i64 e.off, .int .i64 2, .int .i64 e.save, .string e.rules, .string e.format, .bool e.u.has, .int .i64 e.u.year, .int .i64 e.u.month, .int .i64 e.u.kind, .int .i64 e.u.week, .int .i64 e.u.day, .int .i64 e.u.sec, .int .i64 e.u.base] 30 := Box.old (Box.old (HB4.out.later hb3))
    have hX : Below w2.heap.size w2 ((w3.alloc (.cells #[.int .i64 v.off, .int .i64 v.save, .string v.abbr] 58)).alloc (.cells #[.int .i64 fr.rule, .int .i64 fr.year, .int .i64 fr.nom] 53)) := by repeat (first | (with_reducible exact Below.refl _ _) | (with_reducible assumption) | (with_reducible refine ba ?_) | (with_reducible refine bd ?_) | (with_reducible refine bdn ?_ _) | (with_reducible refine bset ?_ (by first | exact Nat.le_refl _ | omega | (simp; done) | (simp; omega))) | (with_reducible refine bt ?_ (by with_reducible assumption)))
    generalize ((w3.alloc (.cells #[.int .i64 v.off, .int .i64 v.save, .string v.abbr] 58)).alloc (.cells #[.int .i64 fr.rule, .int .i64 fr.year, .int .i64 fr.nom] 53)) = X at *
    obtain ⟨p9, hp9⟩ : ∃ p, p = w3.heap.size := ⟨_, rfl⟩
    rw [← hp9] at b9 b10 ⊢
    obtain ⟨p10, hp10⟩ : ∃ p, p = p9 + 1 := ⟨_, rfl⟩
    rw [← hp10] at b10 ⊢
    have hVX := HVw.out.later hX
    have hWX := HBL.out.trans (hX.mono HBL.out.size)
    have hSF : ∀ u : World, Below X.heap.size X u → (∀ o, u.cell? ⟨w.heap.size, o, none⟩ = (#[.int .i64 e.off, .int .i64 2, .int .i64 e.save, .string e.rules, .string e.format, .bool e.u.has, .int .i64 e.u.year, .int .i64 e.u.month, .int .i64 e.u.kind, .int .i64 e.u.week, .int .i64 e.u.day, .int .i64 e.u.sec, .int .i64 e.u.base] : Array Value)[o]?) ∧ (∀ o, u.cell? ⟨p9, o, none⟩ = (#[.int .i64 v.off, .int .i64 v.save, .string v.abbr] : Array Value)[o]?) ∧ (∀ o, u.cell? ⟨p10, o, none⟩ = (#[.int .i64 fr.rule, .int .i64 fr.year, .int .i64 fr.nom] : Array Value)[o]?) := fun u hu => ⟨(b4.later hu).cell, (b9.later hu).cell, (b10.later hu).cell⟩
    have HVX := Lib.hid hVX
    have HWX := Lib.hid hWX
    have HSF := Lib.hid hSF
    clear b9 b10 b4 hX hp9 hp10 hVX hWX hSF hb3 hc3_0 hf3_0 hc3_1 hf3_1 hz3_0 hz3_1 gS lS k4 l4
    rcases N with _ | o
    case' none =>
      have cx : ∀ W u, Holds W u (othX l e v) → Calls Tryz.prog 61 #[u, .string e.rules, .agg #[.int .i64 fr.rule, .int .i64 fr.year, .int .i64 fr.nom]] W fun z w' => z = .returned (.tuple #[.agg #[.int .i64 0, .int .i64 0, .int .i64 0], .bool false]) ∧ Below W.heap.size W w' := fun W u h => Cx.out W u h
      have ci : ∀ W b g, View W b l e (.slice rp n rc) g → Calls Tryz.prog 60 #[.pointer (some ⟨b, 0, none⟩), .agg #[.int .i64 0, .int .i64 0, .int .i64 0], .bool false] W fun z w' => z = .returned (.tuple #[.int .i64 0, .bool false]) ∧ Below W.heap.size W w' := fun W b g h => Ci0.out W b g h ⟨0, 0, 0⟩
    case' some =>
      have cx : ∀ W u, Holds W u (othX l e v) → Calls Tryz.prog 61 #[u, .string e.rules, .agg #[.int .i64 fr.rule, .int .i64 fr.year, .int .i64 fr.nom]] W fun z w' => z = .returned (.tuple #[.agg #[.int .i64 o.rule, .int .i64 o.year, .int .i64 o.nom], .bool true]) ∧ Below W.heap.size W w' := fun W u h => Cx.out W u h
      obtain ⟨io, hio⟩ : ∃ io, io = Chn.inst l e.rules e.off o := ⟨_, rfl⟩
      have ci : ∀ W b g, View W b l e (.slice rp n rc) g → Calls Tryz.prog 60 #[.pointer (some ⟨b, 0, none⟩), .agg #[.int .i64 o.rule, .int .i64 o.year, .int .i64 o.nom], .bool true] W fun z w' => z = .returned (.tuple #[.int .i64 io, .bool true]) ∧ Below W.heap.size W w' := fun W b g h => by rw [hio]; exact Ci1.out W b g h o rfl
      have HIO := Lib.hid hio
      clear hio
    all_goals
      have CX := Lib.hid cx
      have CI := Lib.hid ci
      clear cx ci Cx Ci0 Ci1
      go_region_held3 (fun w' => (∀ o, w'.cell? ⟨w.heap.size, o, none⟩ = (#[.int .i64 e.off, .int .i64 2, .int .i64 e.save, .string e.rules, .string e.format, .bool e.u.has, .int .i64 e.u.year, .int .i64 e.u.month, .int .i64 e.u.kind, .int .i64 e.u.week, .int .i64 e.u.day, .int .i64 e.u.sec, .int .i64 e.u.base] : Array Value)[o]?) ∧ (∀ o, w'.cell? ⟨p9, o, none⟩ = (#[.int .i64 v.off, .int .i64 v.save, .string v.abbr] : Array Value)[o]?) ∧ (∀ o, w'.cell? ⟨p10, o, none⟩ = (#[.int .i64 fr.rule, .int .i64 fr.year, .int .i64 fr.nom] : Array Value)[o]?)) ((refine HSF.out _ ?_; repeat (first | (with_reducible exact Below.refl _ _) | (with_reducible assumption) | (with_reducible refine ba ?_) | (with_reducible refine bd ?_) | (with_reducible refine bdn ?_ _) | (with_reducible refine bset ?_ (by first | exact Nat.le_refl _ | omega | (simp; done) | (simp; omega))) | (with_reducible refine bt ?_ (by with_reducible assumption))))) (first
        | (go_at_call 62; (with_reducible refine (Cq.out _ _ _ (HVX.out.later ?_) v).mono ?_); (· repeat (first | (with_reducible exact Below.refl _ _) | (with_reducible assumption) | (with_reducible refine ba ?_) | (with_reducible refine bd ?_) | (with_reducible refine bdn ?_ _) | (with_reducible refine bset ?_ (by first | exact Nat.le_refl _ | omega | (simp; done) | (simp; omega))) | (with_reducible refine bt ?_ (by with_reducible assumption)))); rintro z w4 ⟨u4, rfl, hvo, hb4⟩)
        | (go_at_call 61; (with_reducible refine (CX.out _ _ ?_).mono ?_); (· exact hvo.later (by repeat (first | (with_reducible exact Below.refl _ _) | (with_reducible assumption) | (with_reducible refine ba ?_) | (with_reducible refine bd ?_) | (with_reducible refine bdn ?_ _) | (with_reducible refine bset ?_ (by first | exact Nat.le_refl _ | omega | (simp; done) | (simp; omega))) | (with_reducible refine bt ?_ (by with_reducible assumption))))); rintro z w5 ⟨rfl, hb5⟩)
        | (go_at_call 60; (with_reducible refine (CI.out _ _ _ (HVX.out.later ?_)).mono ?_); (· repeat (first | (with_reducible exact Below.refl _ _) | (with_reducible assumption) | (with_reducible refine ba ?_) | (with_reducible refine bd ?_) | (with_reducible refine bdn ?_ _) | (with_reducible refine bset ?_ (by first | exact Nat.le_refl _ | omega | (simp; done) | (simp; omega))) | (with_reducible refine bt ?_ (by with_reducible assumption)))); rintro z w6 ⟨rfl, hb6⟩))
      all_goals
        go_wp2
        have hWX := HWX.out
        go_ret2
        first
          | exact ⟨rfl, by repeat (first | (with_reducible exact Below.refl _ _) | (with_reducible assumption) | (with_reducible refine ba ?_) | (with_reducible refine bd ?_) | (with_reducible refine bdn ?_ _) | (with_reducible refine bset ?_ (by first | exact Nat.le_refl _ | omega | (simp; done) | (simp; omega))) | (with_reducible refine bt ?_ (by with_reducible assumption)))⟩
          | exact ⟨by rw [HIO.out]; rfl, by repeat (first | (with_reducible exact Below.refl _ _) | (with_reducible assumption) | (with_reducible refine ba ?_) | (with_reducible refine bd ?_) | (with_reducible refine bdn ?_ _) | (with_reducible refine bset ?_ (by first | exact Nat.le_refl _ | omega | (simp; done) | (simp; omega))) | (with_reducible refine bt ?_ (by with_reducible assumption)))⟩
theorem Next {w : World} {r : Value} {l : List RuleV} (hr : Holds w r l) (e : EraV) (he : e.Fit) (t : Int) (ht : Tab w) (hst : Sta w) (hs : ∀ x ∈ l, x.letter.size ≤ 1000000) (hn : l.length ≤ 100000) :
    Calls Tryz.prog 27 #[r, .agg e.cells.toArray, .int .i64 t] w fun x w' => x = .returned (.tuple #[.int .i64 (nextV l e t).1, .bool (nextV l e t).2]) ∧ Below w.heap.size w w' := by
  unfold nextV
  by_cases h : Er.rightB e = true ∧ e.kind = 2
  · rw [if_pos h]
    exact next1 hr e he t ht hst hs hn h.1 h.2
  · rw [if_neg h]
    exact next0 hr e he t ht h
end Frc
end Go.Proofs.YtkpjhgkmjcdobaaGreatDoor
