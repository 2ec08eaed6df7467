import Derived.Test.YtkpjhgkmjcdobaaGreatDoorRForceO
import Derived.Test.YtkpjhgkmjcdobaaGreatDoorRNextH
import Derived.Test.YtkpjhgkmjcdobaaGreatDoorForceX
/-
  noontideref33.Next.
-/
namespace Go.Proofs.YtkpjhgkmjcdobaaGreatDoor
open Go.RowKit NB Nxt
namespace RFrc
open Frc
/-- the document's place ahead of all occurrences -/
def startR : OccV := ⟨-1, 0, -2000000000000⟩
theorem start_same (l : List RuleV) (name : ByteArray) : Occ.nextO l name startR = Occ.nextO l name startO := by
  have h1 := Occ.best_next l name startR
  have h2 := Occ.best_next l name startO
  have e : ∀ x, Occ.All l name l.length x → Occ.less startR x = true ∧ Occ.less startO x = true := fun x hx => by
    have := Chn.all_range hx
    exact ⟨Occ.less_iff.2 (.inl (by show (-2000000000000 : Int) < x.nom; omega)), Occ.less_iff.2 (.inl (by show (-2192387558400 : Int) < x.nom; omega))⟩
  refine Occ.Best.unique Occ.weak_less (fr := startR) h1 ?_
  cases hy : Occ.nextO l name startO with
  | none =>
    rw [hy] at h2
    intro x hx
    have := h2 x hx
    rw [(e x hx).2] at this
    cases this
  | some y =>
    rw [hy] at h2
    exact ⟨h2.1, (e y h2.1).1, fun x hx _ => h2.2.2 x hx (e x hx).2⟩
set_option maxHeartbeats 3200000 in
set_option maxRecDepth 100000 in
theorem next0 {w : World} {r : Value} {l : List RuleV} (hr : Holds w r l) (e : EraV) (he : e.Fit) (t : Int) (hs : ∀ x ∈ l, x.letter.size ≤ 1000000) (hn : l.length ≤ 100000) (h : ¬ (Er.rightB e = true ∧ e.kind = 2)) :
    Calls Tryz.prog 28 #[r, .agg e.cells.toArray, .int .i64 t] w fun x w' => x = .returned (.tuple #[.int .i64 0, .bool false]) ∧ Below w.heap.size w w' := by
  have ca := fun W (h : Holds W r l) => At h e he t hs hn
  have HH := Lib.hid hr
  obtain ⟨y, s, hys, hc⟩ : ∃ y s, atV l e t = (y, s) ∧ (¬ s = 0 ∨ (s = 0 ∧ ¬ e.kind = 2)) := by
    unfold atV
    cases hR : Er.rightB e
    · exact ⟨_, _, rfl, .inl (by decide)⟩
    · have hk : ¬ e.kind = 2 := fun hk => h ⟨hR, hk⟩
      rw [if_pos rfl, if_neg hk]
      exact ⟨_, _, rfl, .inr ⟨rfl, hk⟩⟩
  rw [hys] at ca
  obtain ⟨rp, rc, rfl⟩ := hr.form
  unfold EraV.cells ValV.cells at *
  simp only at ca
  have Ca := Lib.hid ca
  clear ca hr hs hys h
  rcases hc with hs0 | ⟨rfl, hk⟩
  all_goals
    go_enter Tryz.func28, Tryz.ntmps28
    go_wp2_with (go_at_call 26; (with_reducible refine (Ca.out _ ?_).mono ?_); (· exact HH.out.later (by repeat (first | (with_reducible exact Below.refl _ _) | (with_reducible assumption) | (with_reducible refine ba ?_) | (with_reducible refine bd ?_) | (with_reducible refine bdn ?_ _) | (with_reducible refine bset ?_ (by first | exact Nat.le_refl _ | omega | (simp; done) | (simp; omega))) | (with_reducible refine bt ?_ (by with_reducible assumption))))); rintro e w1 ⟨rfl, hb1⟩; obtain ⟨hc1, hf1⟩ := bcell hb1; have hc1_0 := fun o => hc1 (w.heap.size) o (by first | assumption | omega | (simp; done) | (simp; omega)); have hf1_0 := fun o => hf1 (w.heap.size) o (by first | assumption | omega | (simp; done) | (simp; omega)); clear hc1 hf1; have hz1_0 : w.heap.size < w1.heap.size := (by first | exact sz1 hb1 | exact sz2 hb1 | exact sz3 hb1 | (have := hb1.size; (try simp only [World.size_alloc, World.size_drew] at this); omega)))
    go_ret2
    exact ⟨rfl, by repeat (first | (with_reducible exact Below.refl _ _) | (with_reducible assumption) | (with_reducible refine ba ?_) | (with_reducible refine bd ?_) | (with_reducible refine bdn ?_ _) | (with_reducible refine bset ?_ (by first | exact Nat.le_refl _ | omega | (simp; done) | (simp; omega))) | (with_reducible refine bt ?_ (by with_reducible assumption)))⟩
set_option maxHeartbeats 3200000 in
set_option maxRecDepth 100000 in
theorem next1 {w : World} {r : Value} {l : List RuleV} (hr : Holds w r l) (e : EraV) (he : e.Fit) (t : Int) (hs : ∀ x ∈ l, x.letter.size ≤ 1000000) (hn : l.length ≤ 100000) (hR : Er.rightB e = true) (hk : e.kind = 2) :
    Calls Tryz.prog 28 #[r, .agg e.cells.toArray, .int .i64 t] w fun x w' => x = .returned (.tuple #[.int .i64 (tell l e (nextF l e t)).1, .bool (tell l e (nextF l e t)).2]) ∧ Below w.heap.size w w' := by
  have hne := rules_ne hR hk
  have hm : Chn.may e.off = true := Chn.may_iff.2 (Unt.right_spec hR).1
  obtain ⟨v, hv⟩ : ∃ v, v = stateV l e t := ⟨_, rfl⟩
  have ca : ∀ W, Holds W r l → Calls Tryz.prog 26 #[r, .agg #[.int .i64 e.off, .int .i64 2, .int .i64 e.save, .string e.rules, .string e.format, .bool e.u.has, .int .i64 e.u.year, .int .i64 e.u.month, .int .i64 e.u.kind, .int .i64 e.u.week, .int .i64 e.u.day, .int .i64 e.u.sec, .int .i64 e.u.base], .int .i64 t] W fun z w' => z = .returned (.tuple #[.agg #[.int .i64 v.off, .int .i64 v.save, .string v.abbr], .int .i64 0]) ∧ Below W.heap.size W w' := fun W h => by
    have := At h e he t hs hn
    rw [show atV l e t = (v, 0) by unfold atV; rw [if_pos hR, if_pos hk, hv]] at this
    unfold EraV.cells at this
    rw [hk] at this
    exact this
  have cq : ∀ W, Holds W r l → Calls Tryz.prog 64 #[r, .agg #[.int .i64 e.off, .int .i64 2, .int .i64 e.save, .string e.rules, .string e.format, .bool e.u.has, .int .i64 e.u.year, .int .i64 e.u.month, .int .i64 e.u.kind, .int .i64 e.u.week, .int .i64 e.u.day, .int .i64 e.u.sec, .int .i64 e.u.base], .agg #[.int .i64 v.off, .int .i64 v.save, .string v.abbr]] W fun z w' => ∃ v', z = .returned v' ∧ Holds w' v' (othV l e v) ∧ Below W.heap.size W w' := fun W h => by
    have := others h e he v hs hn
    unfold EraV.cells at this
    rw [hk] at this
    exact this
  have cl := fun W (h : Holds W r l) => RCh.Last h e.rules e.off t
  rw [show Chn.lastO l e.rules e.off t = lastP l e t from rfl] at cl
  obtain ⟨fr, hfr⟩ : ∃ fr, fr = (lastP l e t).getD startR := ⟨_, rfl⟩
  obtain ⟨N, hN⟩ : ∃ N, N = nextF l e t := ⟨_, rfl⟩
  have hNx : N = Occ.nextO (othV l e v) e.rules fr := by
    rw [hN, hfr, hv]
    unfold nextF
    cases lastP l e t with
    | none => exact (start_same _ _).symm
    | some o => rfl
  have hfn : I64 fr.nom := by
    rw [hfr]
    cases hl : lastP l e t with
    | none => show I64 (-2000000000000); unfold I64; decide
    | some o => have := Chn.all_range (last_all hl); show I64 o.nom; unfold I64; omega
  have cx := fun W u (h : Holds W u (othV l e v)) => RNxH.Next h e.rules fr hfn
  rw [← hNx] at cx
  rw [← hN]
  have ci : ∀ W o, Holds W r l → N = some o → Calls Tryz.prog 65 #[r, .string e.rules, .int .i64 e.off, .agg #[.int .i64 o.rule, .int .i64 o.year, .int .i64 o.nom]] W fun z w' => z = .returned (.tuple #[.int .i64 (Chn.inst l e.rules e.off o), .int .i64 0]) ∧ Below W.heap.size W w' := fun W o h ho => by
    have := RCh.Instant h e.rules e.off o
    rw [Chn.instE_all hm (nextF_all hne (v := v) (fr := fr) (by rw [← hNx]; exact ho))] at this
    exact this
  have HH := Lib.hid hr
  have HFr := Lib.hid hfr
  have Ca := Lib.hid ca
  have Cq := Lib.hid cq
  have Cx := Lib.hid cx
  have Ci := Lib.hid ci
  unfold EraV.cells OccV.cells at *
  obtain ⟨rp, rc, rfl⟩ := hr.form
  clear ca cq cx ci hr hs hv hN hNx hfr hne hm hfn
  generalize hnl : l.length = n at *
  clear hnl
  rw [hk]
  cases hlp : lastP l e t
  case none =>
    rw [hlp] at cl
    have hfr' : fr = startR := by rw [HFr.out, hlp]; rfl
    have Cl := Lib.hid cl
    have cx' : ∀ W u, Holds W u (othV l e v) → Calls Tryz.prog 63 #[u, .string e.rules, .agg #[.int .i64 (-1), .int .i64 0, .int .i64 (-2000000000000)]] W fun z w' => z = .returned (optV N) ∧ Below W.heap.size W w' := fun W u h => by have := Cx.out W u h; rw [hfr'] at this; exact this
    have CX0 := Lib.hid cx'
    clear cx' Cx hlp HFr cl
    have cl' : ∀ W, Holds W (.slice rp n rc) l → Calls Tryz.prog 58 #[.slice rp n rc, .string e.rules, .int .i64 e.off, .int .i64 t] W fun z w' => z = .returned (.tuple #[.agg #[.int .i64 0, .int .i64 0, .int .i64 0], .bool false]) ∧ Below W.heap.size W w' := fun W h => Cl.out W h
    have CL := Lib.hid cl'
    clear cl' Cl hfr'
    go_enter Tryz.func28, Tryz.ntmps28
    go_upto_region 7 with (first
      | (go_at_call 26; (with_reducible refine (Ca.out _ ?_).mono ?_); (· exact HH.out.later (by repeat (first | (with_reducible exact Below.refl _ _) | (with_reducible assumption) | (with_reducible refine ba ?_) | (with_reducible refine bd ?_) | (with_reducible refine bdn ?_ _) | (with_reducible refine bset ?_ (by first | exact Nat.le_refl _ | omega | (simp; done) | (simp; omega))) | (with_reducible refine bt ?_ (by with_reducible assumption))))); rintro e w1 ⟨rfl, hb1⟩; obtain ⟨hc1, hf1⟩ := bcell hb1; have hc1_0 := fun o => hc1 (w.heap.size) o (by first | assumption | omega | (simp; done) | (simp; omega)); have hf1_0 := fun o => hf1 (w.heap.size) o (by first | assumption | omega | (simp; done) | (simp; omega)); clear hc1 hf1; have hz1_0 : w.heap.size < w1.heap.size := (by first | exact sz1 hb1 | exact sz2 hb1 | exact sz3 hb1 | (have := hb1.size; (try simp only [World.size_alloc, World.size_drew] at this); omega)))
      | (go_at_call 58; (with_reducible refine (CL.out _ ?_).mono ?_); (· exact HH.out.later (by repeat (first | (with_reducible exact Below.refl _ _) | (with_reducible assumption) | (with_reducible refine ba ?_) | (with_reducible refine bd ?_) | (with_reducible refine bdn ?_ _) | (with_reducible refine bset ?_ (by first | exact Nat.le_refl _ | omega | (simp; done) | (simp; omega))) | (with_reducible refine bt ?_ (by with_reducible assumption))))); rintro e w2 ⟨rfl, hb2⟩; obtain ⟨hc2, hf2⟩ := bcell hb2; have hc2_0 := fun o => hc2 (w.heap.size) o (by first | assumption | omega | (simp; done) | (simp; omega)); have hf2_0 := fun o => hf2 (w.heap.size) o (by first | assumption | omega | (simp; done) | (simp; omega)); have hc2_1 := fun o => hc2 (w1.heap.size) o (by first | assumption | omega | (simp; done) | (simp; omega)); have hf2_1 := fun o => hf2 (w1.heap.size) o (by first | assumption | omega | (simp; done) | (simp; omega)); clear hc2 hf2; have hz2_0 : w.heap.size < w2.heap.size := (by first | exact sz1 hb2 | exact sz2 hb2 | exact sz3 hb2 | (have := hb2.size; (try simp only [World.size_alloc] at this); omega)); have hz2_1 : w1.heap.size < w2.heap.size := (by first | exact sz1 hb2 | exact sz2 hb2 | exact sz3 hb2 | (have := hb2.size; (try simp only [World.size_alloc, World.size_drew] at this); omega))))
    have b4 : Box (w2.alloc (.cells #[.int .i64 (-1), .int .i64 0, .int .i64 (-2000000000000)] 53)) w.heap.size #[.int .i64 e.off, .int .i64 2, .int .i64 e.save, .string e.rules, .string e.format, .bool e.u.has, .int .i64 e.u.year, .int .i64 e.u.month, .int .i64 e.u.kind, .int .i64 e.u.week, .int .i64 e.u.day, .int .i64 e.u.sec, .int .i64 e.u.base] 30 := by repeat (first | (with_reducible assumption) | (with_reducible exact Box.new _ _ _) | (with_reducible refine Box.old ?_) | (with_reducible refine Box.drew ?_) | (with_reducible refine Box.drewN ?_ _) | (with_reducible refine Box.other ?_ (by first | assumption | omega | (simp; omega))) | (with_reducible refine Box.later ?_ (by with_reducible assumption)))
    have b8 : Box (w2.alloc (.cells #[.int .i64 (-1), .int .i64 0, .int .i64 (-2000000000000)] 53)) w1.heap.size #[.int .i64 v.off, .int .i64 v.save, .string v.abbr] 58 := by repeat (first | (with_reducible assumption) | (with_reducible exact Box.new _ _ _) | (with_reducible refine Box.old ?_) | (with_reducible refine Box.drew ?_) | (with_reducible refine Box.drewN ?_ _) | (with_reducible refine Box.other ?_ (by first | assumption | omega | (simp; omega))) | (with_reducible refine Box.later ?_ (by with_reducible assumption)))
    have b10 : Box (w2.alloc (.cells #[.int .i64 (-1), .int .i64 0, .int .i64 (-2000000000000)] 53)) w2.heap.size #[.int .i64 (-1), .int .i64 0, .int .i64 (-2000000000000)] 53 := Box.new _ _ _
    have hX : Below w.heap.size w (w2.alloc (.cells #[.int .i64 (-1), .int .i64 0, .int .i64 (-2000000000000)] 53)) := by repeat (first | (with_reducible exact Below.refl _ _) | (with_reducible assumption) | (with_reducible refine ba ?_) | (with_reducible refine bd ?_) | (with_reducible refine bdn ?_ _) | (with_reducible refine bset ?_ (by first | exact Nat.le_refl _ | omega | (simp; done) | (simp; omega))) | (with_reducible refine bt ?_ (by with_reducible assumption)))
    generalize (w2.alloc (.cells #[.int .i64 (-1), .int .i64 0, .int .i64 (-2000000000000)] 53)) = X at *
    obtain ⟨p8, hp8⟩ : ∃ p, p = w1.heap.size := ⟨_, rfl⟩
    obtain ⟨p10, hp10⟩ : ∃ p, p = w2.heap.size := ⟨_, rfl⟩
    rw [← hp8] at b8 ⊢
    rw [← hp10] at b10 ⊢
    have hSF : ∀ u : World, Below X.heap.size X u → (∀ o, u.cell? ⟨w.heap.size, o, none⟩ = (#[.int .i64 e.off, .int .i64 2, .int .i64 e.save, .string e.rules, .string e.format, .bool e.u.has, .int .i64 e.u.year, .int .i64 e.u.month, .int .i64 e.u.kind, .int .i64 e.u.week, .int .i64 e.u.day, .int .i64 e.u.sec, .int .i64 e.u.base] : Array Value)[o]?) ∧ (∀ o, u.cell? ⟨p8, o, none⟩ = (#[.int .i64 v.off, .int .i64 v.save, .string v.abbr] : Array Value)[o]?) ∧ (∀ o, u.cell? ⟨p10, o, none⟩ = (#[.int .i64 (-1), .int .i64 0, .int .i64 (-2000000000000)] : Array Value)[o]?) := fun u hu => ⟨(b4.later hu).cell, (b8.later hu).cell, (b10.later hu).cell⟩
    have HSF := Lib.hid hSF
    have HHX := Lib.hid (HH.out.later hX)
    have HX := Lib.hid hX
    have H4 := Lib.hid b4
    have l4 := b4.lt
    clear b4 b8 b10 hX hp8 hp10 hSF hb1 hb2 hc1_0 hf1_0 hc2_0 hf2_0 hc2_1 hf2_1 hz1_0 hz2_0 hz2_1
    rcases N with _ | o
    case' none =>
      have cx : ∀ W u, Holds W u (othV l e v) → Calls Tryz.prog 63 #[u, .string e.rules, .agg #[.int .i64 (-1), .int .i64 0, .int .i64 (-2000000000000)]] W fun z w' => z = .returned (.tuple #[.agg #[.int .i64 0, .int .i64 0, .int .i64 0], .bool false]) ∧ Below W.heap.size W w' := fun W u h => CX0.out W u h
      obtain ⟨oo, g, hoo⟩ : ∃ (oo : OccV) (g : Bool), oo = ⟨0, 0, 0⟩ ∧ g = false := ⟨_, _, rfl, rfl⟩
    case' some =>
      have cx : ∀ W u, Holds W u (othV l e v) → Calls Tryz.prog 63 #[u, .string e.rules, .agg #[.int .i64 (-1), .int .i64 0, .int .i64 (-2000000000000)]] W fun z w' => z = .returned (.tuple #[.agg #[.int .i64 o.rule, .int .i64 o.year, .int .i64 o.nom], .bool true]) ∧ Below W.heap.size W w' := fun W u h => CX0.out W u h
      obtain ⟨oo, g, hoo⟩ : ∃ (oo : OccV) (g : Bool), oo = o ∧ g = true := ⟨_, _, rfl, rfl⟩
    all_goals
      have CX := Lib.hid cx
      clear cx CX0
      obtain ⟨hoo, hg⟩ := hoo
      have HOO := Lib.hid hoo
      have HG := Lib.hid hg
      clear hoo hg
      go_cut [12, 13] from 43 to 53 (fun s12 s13 wx => ∃ p12 : Nat, s12 = .pointer (some ⟨p12, 0, none⟩) ∧ s13 = .bool g ∧ Box wx p12 #[.int .i64 oo.rule, .int .i64 oo.year, .int .i64 oo.nom] 53 ∧ Box wx w.heap.size #[.int .i64 e.off, .int .i64 2, .int .i64 e.save, .string e.rules, .string e.format, .bool e.u.has, .int .i64 e.u.year, .int .i64 e.u.month, .int .i64 e.u.kind, .int .i64 e.u.week, .int .i64 e.u.day, .int .i64 e.u.sec, .int .i64 e.u.base] 30 ∧ Below X.heap.size X wx)
      case first =>
        go_region_held3 (fun w' => (∀ o, w'.cell? ⟨w.heap.size, o, none⟩ = (#[.int .i64 e.off, .int .i64 2, .int .i64 e.save, .string e.rules, .string e.format, .bool e.u.has, .int .i64 e.u.year, .int .i64 e.u.month, .int .i64 e.u.kind, .int .i64 e.u.week, .int .i64 e.u.day, .int .i64 e.u.sec, .int .i64 e.u.base] : Array Value)[o]?) ∧ (∀ o, w'.cell? ⟨p8, o, none⟩ = (#[.int .i64 v.off, .int .i64 v.save, .string v.abbr] : Array Value)[o]?) ∧ (∀ o, w'.cell? ⟨p10, o, none⟩ = (#[.int .i64 (-1), .int .i64 0, .int .i64 (-2000000000000)] : Array Value)[o]?)) ((refine HSF.out _ ?_; repeat (first | (with_reducible exact Below.refl _ _) | (with_reducible assumption) | (with_reducible refine ba ?_) | (with_reducible refine bd ?_) | (with_reducible refine bdn ?_ _) | (with_reducible refine bset ?_ (by first | exact Nat.le_refl _ | omega | (simp; done) | (simp; omega))) | (with_reducible refine bt ?_ (by with_reducible assumption))))) (first
          | (go_at_call 64; (with_reducible refine (Cq.out _ ?_).mono ?_); (· exact HHX.out.later (by repeat (first | (with_reducible exact Below.refl _ _) | (with_reducible assumption) | (with_reducible refine ba ?_) | (with_reducible refine bd ?_) | (with_reducible refine bdn ?_ _) | (with_reducible refine bset ?_ (by first | exact Nat.le_refl _ | omega | (simp; done) | (simp; omega))) | (with_reducible refine bt ?_ (by with_reducible assumption))))); rintro z w4 ⟨u4, rfl, hvo, hb4⟩; obtain ⟨hcq4, hfq4⟩ := bcell hb4; (try have hc4_t0 := fun o => hcq4 (X.heap.size) o (by first | assumption | omega | (simp; done) | (simp; omega))); (try have hf4_t0 := fun o => hfq4 (X.heap.size) o (by first | assumption | omega | (simp; done) | (simp; omega))); clear hcq4 hfq4; (try have hs4' : X.heap.size < w4.heap.size := (by have := hb4.size; (try simp only [World.size_drew] at this); (try simp only [World.size_alloc] at this); (try simp only [World.size_drew] at this); omega)); have hs4 : X.heap.size ≤ w4.heap.size := (by have := hb4.size; (try simp only [World.size_drew] at this); (try simp only [World.size_alloc] at this); (try simp only [World.size_drew] at this); omega))
          | (go_at_call 63; (with_reducible refine (CX.out _ _ ?_).mono ?_); (· exact hvo.later (by repeat (first | (with_reducible exact Below.refl _ _) | (with_reducible assumption) | (with_reducible refine ba ?_) | (with_reducible refine bd ?_) | (with_reducible refine bdn ?_ _) | (with_reducible refine bset ?_ (by first | exact Nat.le_refl _ | omega | (simp; done) | (simp; omega))) | (with_reducible refine bt ?_ (by with_reducible assumption))))); rintro z w5 ⟨rfl, hb5⟩; obtain ⟨hcq5, hfq5⟩ := bcell hb5; (try have hc5_t0 := fun o => hcq5 (X.heap.size) o (by first | assumption | omega | (simp; done) | (simp; omega))); (try have hf5_t0 := fun o => hfq5 (X.heap.size) o (by first | assumption | omega | (simp; done) | (simp; omega))); (try have hc5_t1 := fun o => hcq5 (w4.heap.size) o (by first | assumption | omega | (simp; done) | (simp; omega))); (try have hf5_t1 := fun o => hfq5 (w4.heap.size) o (by first | assumption | omega | (simp; done) | (simp; omega))); clear hcq5 hfq5; have hs5 : w4.heap.size ≤ w5.heap.size := (by have := hb5.size; (try simp only [World.size_drew] at this); (try simp only [World.size_alloc] at this); (try simp only [World.size_drew] at this); omega)))
        all_goals
          go_wp2
          go_meet
          have hoo := HOO.out
          have hg := HG.out
          subst hoo
          subst hg
          have b4 := H4.out
          refine ⟨_, rfl, rfl, ?_, ?_, ?_⟩
          · first
              | with_reducible exact Box.new _ _ _
              | (with_reducible refine Box.set3 (x := .int .i64 0) (y := .int .i64 0) (z := .int .i64 0) ?_
                 repeat (first | with_reducible exact Box.new _ _ _ | with_reducible refine Box.drew ?_ | with_reducible refine Box.later ?_ hb5 | with_reducible refine Box.later ?_ hb4))
          · repeat (first | (with_reducible assumption) | (with_reducible exact Box.new _ _ _) | (with_reducible refine Box.old ?_) | (with_reducible refine Box.drew ?_) | (with_reducible refine Box.drewN ?_ _) | (with_reducible refine Box.other ?_ (by first | assumption | omega | (simp; omega))) | (with_reducible refine Box.later ?_ (by with_reducible assumption)))
          · repeat (first | (with_reducible exact Below.refl _ _) | (with_reducible assumption) | (with_reducible refine ba ?_) | (with_reducible refine bd ?_) | (with_reducible refine bdn ?_ _) | (with_reducible refine bset ?_ (by first | exact Nat.le_refl _ | omega | (simp; done) | (simp; omega))) | (with_reducible refine bt ?_ (by with_reducible assumption)))
      case rest =>
        obtain ⟨p12, rfl, rfl, b12, b4, hbel⟩ := hcut
        have hoo := HOO.out
        have hg := HG.out
        subst hoo
        subst hg
        have k12 := b12.cell
        have l12 := b12.lt
        have k4 := b4.cell
        have l4c := b4.lt
        have HBL := Lib.hid hbel
        clear b12 b4
        go_wp2_with (go_at_call 65; (with_reducible refine (Ci.out _ _ ?_ rfl).mono ?_); (· exact HHX.out.later (bt HBL.out (by repeat (first | (with_reducible exact Below.refl _ _) | (with_reducible assumption) | (with_reducible refine ba ?_) | (with_reducible refine bd ?_) | (with_reducible refine bdn ?_ _) | (with_reducible refine bset ?_ (by first | exact Nat.le_refl _ | omega | (simp; done) | (simp; omega))) | (with_reducible refine bt ?_ (by with_reducible assumption)))))); rintro z w6 ⟨rfl, hb6⟩)
        have hX := HX.out.trans (HBL.out.mono HX.out.size)
        clear hbel
        go_ret2
        exact ⟨rfl, by repeat (first | (with_reducible exact Below.refl _ _) | (with_reducible assumption) | (with_reducible refine ba ?_) | (with_reducible refine bd ?_) | (with_reducible refine bdn ?_ _) | (with_reducible refine bset ?_ (by first | exact Nat.le_refl _ | omega | (simp; done) | (simp; omega))) | (with_reducible refine bt ?_ (by with_reducible assumption)))⟩
  case some lo =>
    rw [hlp] at cl
    have hfr' : fr = lo := by rw [HFr.out, hlp]; rfl
    have Cl := Lib.hid cl
    have cx' : ∀ W u, Holds W u (othV l e v) → Calls Tryz.prog 63 #[u, .string e.rules, .agg #[.int .i64 lo.rule, .int .i64 lo.year, .int .i64 lo.nom]] W fun z w' => z = .returned (optV N) ∧ Below W.heap.size W w' := fun W u h => by have := Cx.out W u h; rw [hfr'] at this; exact this
    have CX0 := Lib.hid cx'
    clear cx' Cx hlp HFr cl
    have cl' : ∀ W, Holds W (.slice rp n rc) l → Calls Tryz.prog 58 #[.slice rp n rc, .string e.rules, .int .i64 e.off, .int .i64 t] W fun z w' => z = .returned (.tuple #[.agg #[.int .i64 lo.rule, .int .i64 lo.year, .int .i64 lo.nom], .bool true]) ∧ Below W.heap.size W w' := fun W h => Cl.out W h
    have CL := Lib.hid cl'
    clear cl' Cl hfr'
    go_enter Tryz.func28, Tryz.ntmps28
    go_upto_region 7 with (first
      | (go_at_call 26; (with_reducible refine (Ca.out _ ?_).mono ?_); (· exact HH.out.later (by repeat (first | (with_reducible exact Below.refl _ _) | (with_reducible assumption) | (with_reducible refine ba ?_) | (with_reducible refine bd ?_) | (with_reducible refine bdn ?_ _) | (with_reducible refine bset ?_ (by first | exact Nat.le_refl _ | omega | (simp; done) | (simp; omega))) | (with_reducible refine bt ?_ (by with_reducible assumption))))); rintro e w1 ⟨rfl, hb1⟩; obtain ⟨hc1, hf1⟩ := bcell hb1; have hc1_0 := fun o => hc1 (w.heap.size) o (by first | assumption | omega | (simp; done) | (simp; omega)); have hf1_0 := fun o => hf1 (w.heap.size) o (by first | assumption | omega | (simp; done) | (simp; omega)); clear hc1 hf1; have hz1_0 : w.heap.size < w1.heap.size := (by first | exact sz1 hb1 | exact sz2 hb1 | exact sz3 hb1 | (have := hb1.size; (try simp only [World.size_alloc, World.size_drew] at this); omega)))
      | (go_at_call 58; (with_reducible refine (CL.out _ ?_).mono ?_); (· exact HH.out.later (by repeat (first | (with_reducible exact Below.refl _ _) | (with_reducible assumption) | (with_reducible refine ba ?_) | (with_reducible refine bd ?_) | (with_reducible refine bdn ?_ _) | (with_reducible refine bset ?_ (by first | exact Nat.le_refl _ | omega | (simp; done) | (simp; omega))) | (with_reducible refine bt ?_ (by with_reducible assumption))))); rintro e w2 ⟨rfl, hb2⟩; obtain ⟨hc2, hf2⟩ := bcell hb2; have hc2_0 := fun o => hc2 (w.heap.size) o (by first | assumption | omega | (simp; done) | (simp; omega)); have hf2_0 := fun o => hf2 (w.heap.size) o (by first | assumption | omega | (simp; done) | (simp; omega)); have hc2_1 := fun o => hc2 (w1.heap.size) o (by first | assumption | omega | (simp; done) | (simp; omega)); have hf2_1 := fun o => hf2 (w1.heap.size) o (by first | assumption | omega | (simp; done) | (simp; omega)); clear hc2 hf2; have hz2_0 : w.heap.size < w2.heap.size := (by first | exact sz1 hb2 | exact sz2 hb2 | exact sz3 hb2 | (have := hb2.size; (try simp only [World.size_alloc] at this); omega)); have hz2_1 : w1.heap.size < w2.heap.size := (by first | exact sz1 hb2 | exact sz2 hb2 | exact sz3 hb2 | (have := hb2.size; (try simp only [World.size_alloc, World.size_drew] at this); omega))))
    have b4 : Box (w2.alloc (.cells #[.int .i64 lo.rule, .int .i64 lo.year, .int .i64 lo.nom] 53)) w.heap.size #[.int .i64 e.off, .int .i64 2, .int .i64 e.save, .string e.rules, .string e.format, .bool e.u.has, .int .i64 e.u.year, .int .i64 e.u.month, .int .i64 e.u.kind, .int .i64 e.u.week, .int .i64 e.u.day, .int .i64 e.u.sec, .int .i64 e.u.base] 30 := by repeat (first | (with_reducible assumption) | (with_reducible exact Box.new _ _ _) | (with_reducible refine Box.old ?_) | (with_reducible refine Box.drew ?_) | (with_reducible refine Box.drewN ?_ _) | (with_reducible refine Box.other ?_ (by first | assumption | omega | (simp; omega))) | (with_reducible refine Box.later ?_ (by with_reducible assumption)))
    have b8 : Box (w2.alloc (.cells #[.int .i64 lo.rule, .int .i64 lo.year, .int .i64 lo.nom] 53)) w1.heap.size #[.int .i64 v.off, .int .i64 v.save, .string v.abbr] 58 := by repeat (first | (with_reducible assumption) | (with_reducible exact Box.new _ _ _) | (with_reducible refine Box.old ?_) | (with_reducible refine Box.drew ?_) | (with_reducible refine Box.drewN ?_ _) | (with_reducible refine Box.other ?_ (by first | assumption | omega | (simp; omega))) | (with_reducible refine Box.later ?_ (by with_reducible assumption)))
    have b10 : Box (w2.alloc (.cells #[.int .i64 lo.rule, .int .i64 lo.year, .int .i64 lo.nom] 53)) w2.heap.size #[.int .i64 lo.rule, .int .i64 lo.year, .int .i64 lo.nom] 53 := Box.new _ _ _
    have hX : Below w.heap.size w (w2.alloc (.cells #[.int .i64 lo.rule, .int .i64 lo.year, .int .i64 lo.nom] 53)) := by repeat (first | (with_reducible exact Below.refl _ _) | (with_reducible assumption) | (with_reducible refine ba ?_) | (with_reducible refine bd ?_) | (with_reducible refine bdn ?_ _) | (with_reducible refine bset ?_ (by first | exact Nat.le_refl _ | omega | (simp; done) | (simp; omega))) | (with_reducible refine bt ?_ (by with_reducible assumption)))
    generalize (w2.alloc (.cells #[.int .i64 lo.rule, .int .i64 lo.year, .int .i64 lo.nom] 53)) = X at *
    obtain ⟨p8, hp8⟩ : ∃ p, p = w1.heap.size := ⟨_, rfl⟩
    obtain ⟨p10, hp10⟩ : ∃ p, p = w2.heap.size := ⟨_, rfl⟩
    rw [← hp8] at b8 ⊢
    rw [← hp10] at b10 ⊢
    have hSF : ∀ u : World, Below X.heap.size X u → (∀ o, u.cell? ⟨w.heap.size, o, none⟩ = (#[.int .i64 e.off, .int .i64 2, .int .i64 e.save, .string e.rules, .string e.format, .bool e.u.has, .int .i64 e.u.year, .int .i64 e.u.month, .int .i64 e.u.kind, .int .i64 e.u.week, .int .i64 e.u.day, .int .i64 e.u.sec, .int .i64 e.u.base] : Array Value)[o]?) ∧ (∀ o, u.cell? ⟨p8, o, none⟩ = (#[.int .i64 v.off, .int .i64 v.save, .string v.abbr] : Array Value)[o]?) ∧ (∀ o, u.cell? ⟨p10, o, none⟩ = (#[.int .i64 lo.rule, .int .i64 lo.year, .int .i64 lo.nom] : Array Value)[o]?) := fun u hu => ⟨(b4.later hu).cell, (b8.later hu).cell, (b10.later hu).cell⟩
    have HSF := Lib.hid hSF
    have HHX := Lib.hid (HH.out.later hX)
    have HX := Lib.hid hX
    have H4 := Lib.hid b4
    have l4 := b4.lt
    clear b4 b8 b10 hX hp8 hp10 hSF hb1 hb2 hc1_0 hf1_0 hc2_0 hf2_0 hc2_1 hf2_1 hz1_0 hz2_0 hz2_1
    rcases N with _ | o
    case' none =>
      have cx : ∀ W u, Holds W u (othV l e v) → Calls Tryz.prog 63 #[u, .string e.rules, .agg #[.int .i64 lo.rule, .int .i64 lo.year, .int .i64 lo.nom]] W fun z w' => z = .returned (.tuple #[.agg #[.int .i64 0, .int .i64 0, .int .i64 0], .bool false]) ∧ Below W.heap.size W w' := fun W u h => CX0.out W u h
      obtain ⟨oo, g, hoo⟩ : ∃ (oo : OccV) (g : Bool), oo = ⟨0, 0, 0⟩ ∧ g = false := ⟨_, _, rfl, rfl⟩
    case' some =>
      have cx : ∀ W u, Holds W u (othV l e v) → Calls Tryz.prog 63 #[u, .string e.rules, .agg #[.int .i64 lo.rule, .int .i64 lo.year, .int .i64 lo.nom]] W fun z w' => z = .returned (.tuple #[.agg #[.int .i64 o.rule, .int .i64 o.year, .int .i64 o.nom], .bool true]) ∧ Below W.heap.size W w' := fun W u h => CX0.out W u h
      obtain ⟨oo, g, hoo⟩ : ∃ (oo : OccV) (g : Bool), oo = o ∧ g = true := ⟨_, _, rfl, rfl⟩
    all_goals
      have CX := Lib.hid cx
      clear cx CX0
      obtain ⟨hoo, hg⟩ := hoo
      have HOO := Lib.hid hoo
      have HG := Lib.hid hg
      clear hoo hg
      go_cut [12, 13] from 43 to 53 (fun s12 s13 wx => ∃ p12 : Nat, s12 = .pointer (some ⟨p12, 0, none⟩) ∧ s13 = .bool g ∧ Box wx p12 #[.int .i64 oo.rule, .int .i64 oo.year, .int .i64 oo.nom] 53 ∧ Box wx w.heap.size #[.int .i64 e.off, .int .i64 2, .int .i64 e.save, .string e.rules, .string e.format, .bool e.u.has, .int .i64 e.u.year, .int .i64 e.u.month, .int .i64 e.u.kind, .int .i64 e.u.week, .int .i64 e.u.day, .int .i64 e.u.sec, .int .i64 e.u.base] 30 ∧ Below X.heap.size X wx)
      case first =>
        go_region_held3 (fun w' => (∀ o, w'.cell? ⟨w.heap.size, o, none⟩ = (#[.int .i64 e.off, .int .i64 2, .int .i64 e.save, .string e.rules, .string e.format, .bool e.u.has, .int .i64 e.u.year, .int .i64 e.u.month, .int .i64 e.u.kind, .int .i64 e.u.week, .int .i64 e.u.day, .int .i64 e.u.sec, .int .i64 e.u.base] : Array Value)[o]?) ∧ (∀ o, w'.cell? ⟨p8, o, none⟩ = (#[.int .i64 v.off, .int .i64 v.save, .string v.abbr] : Array Value)[o]?) ∧ (∀ o, w'.cell? ⟨p10, o, none⟩ = (#[.int .i64 lo.rule, .int .i64 lo.year, .int .i64 lo.nom] : Array Value)[o]?)) ((refine HSF.out _ ?_; repeat (first | (with_reducible exact Below.refl _ _) | (with_reducible assumption) | (with_reducible refine ba ?_) | (with_reducible refine bd ?_) | (with_reducible refine bdn ?_ _) | (with_reducible refine bset ?_ (by first | exact Nat.le_refl _ | omega | (simp; done) | (simp; omega))) | (with_reducible refine bt ?_ (by with_reducible assumption))))) (first
          | (go_at_call 64; (with_reducible refine (Cq.out _ ?_).mono ?_); (· exact HHX.out.later (by repeat (first | (with_reducible exact Below.refl _ _) | (with_reducible assumption) | (with_reducible refine ba ?_) | (with_reducible refine bd ?_) | (with_reducible refine bdn ?_ _) | (with_reducible refine bset ?_ (by first | exact Nat.le_refl _ | omega | (simp; done) | (simp; omega))) | (with_reducible refine bt ?_ (by with_reducible assumption))))); rintro z w4 ⟨u4, rfl, hvo, hb4⟩; obtain ⟨hcq4, hfq4⟩ := bcell hb4; (try have hc4_t0 := fun o => hcq4 (X.heap.size) o (by first | assumption | omega | (simp; done) | (simp; omega))); (try have hf4_t0 := fun o => hfq4 (X.heap.size) o (by first | assumption | omega | (simp; done) | (simp; omega))); clear hcq4 hfq4; (try have hs4' : X.heap.size < w4.heap.size := (by have := hb4.size; (try simp only [World.size_drew] at this); (try simp only [World.size_alloc] at this); (try simp only [World.size_drew] at this); omega)); have hs4 : X.heap.size ≤ w4.heap.size := (by have := hb4.size; (try simp only [World.size_drew] at this); (try simp only [World.size_alloc] at this); (try simp only [World.size_drew] at this); omega))
          | (go_at_call 63; (with_reducible refine (CX.out _ _ ?_).mono ?_); (· exact hvo.later (by repeat (first | (with_reducible exact Below.refl _ _) | (with_reducible assumption) | (with_reducible refine ba ?_) | (with_reducible refine bd ?_) | (with_reducible refine bdn ?_ _) | (with_reducible refine bset ?_ (by first | exact Nat.le_refl _ | omega | (simp; done) | (simp; omega))) | (with_reducible refine bt ?_ (by with_reducible assumption))))); rintro z w5 ⟨rfl, hb5⟩; obtain ⟨hcq5, hfq5⟩ := bcell hb5; (try have hc5_t0 := fun o => hcq5 (X.heap.size) o (by first | assumption | omega | (simp; done) | (simp; omega))); (try have hf5_t0 := fun o => hfq5 (X.heap.size) o (by first | assumption | omega | (simp; done) | (simp; omega))); (try have hc5_t1 := fun o => hcq5 (w4.heap.size) o (by first | assumption | omega | (simp; done) | (simp; omega))); (try have hf5_t1 := fun o => hfq5 (w4.heap.size) o (by first | assumption | omega | (simp; done) | (simp; omega))); clear hcq5 hfq5; have hs5 : w4.heap.size ≤ w5.heap.size := (by have := hb5.size; (try simp only [World.size_drew] at this); (try simp only [World.size_alloc] at this); (try simp only [World.size_drew] at this); omega)))
        all_goals
          go_wp2
          go_meet
          have hoo := HOO.out
          have hg := HG.out
          subst hoo
          subst hg
          have b4 := H4.out
          refine ⟨_, rfl, rfl, ?_, ?_, ?_⟩
          · first
              | with_reducible exact Box.new _ _ _
              | (with_reducible refine Box.set3 (x := .int .i64 0) (y := .int .i64 0) (z := .int .i64 0) ?_
                 repeat (first | with_reducible exact Box.new _ _ _ | with_reducible refine Box.drew ?_ | with_reducible refine Box.later ?_ hb5 | with_reducible refine Box.later ?_ hb4))
          · repeat (first | (with_reducible assumption) | (with_reducible exact Box.new _ _ _) | (with_reducible refine Box.old ?_) | (with_reducible refine Box.drew ?_) | (with_reducible refine Box.drewN ?_ _) | (with_reducible refine Box.other ?_ (by first | assumption | omega | (simp; omega))) | (with_reducible refine Box.later ?_ (by with_reducible assumption)))
          · repeat (first | (with_reducible exact Below.refl _ _) | (with_reducible assumption) | (with_reducible refine ba ?_) | (with_reducible refine bd ?_) | (with_reducible refine bdn ?_ _) | (with_reducible refine bset ?_ (by first | exact Nat.le_refl _ | omega | (simp; done) | (simp; omega))) | (with_reducible refine bt ?_ (by with_reducible assumption)))
      case rest =>
        obtain ⟨p12, rfl, rfl, b12, b4, hbel⟩ := hcut
        have hoo := HOO.out
        have hg := HG.out
        subst hoo
        subst hg
        have k12 := b12.cell
        have l12 := b12.lt
        have k4 := b4.cell
        have l4c := b4.lt
        have HBL := Lib.hid hbel
        clear b12 b4
        go_wp2_with (go_at_call 65; (with_reducible refine (Ci.out _ _ ?_ rfl).mono ?_); (· exact HHX.out.later (bt HBL.out (by repeat (first | (with_reducible exact Below.refl _ _) | (with_reducible assumption) | (with_reducible refine ba ?_) | (with_reducible refine bd ?_) | (with_reducible refine bdn ?_ _) | (with_reducible refine bset ?_ (by first | exact Nat.le_refl _ | omega | (simp; done) | (simp; omega))) | (with_reducible refine bt ?_ (by with_reducible assumption)))))); rintro z w6 ⟨rfl, hb6⟩)
        have hX := HX.out.trans (HBL.out.mono HX.out.size)
        clear hbel
        go_ret2
        exact ⟨rfl, by repeat (first | (with_reducible exact Below.refl _ _) | (with_reducible assumption) | (with_reducible refine ba ?_) | (with_reducible refine bd ?_) | (with_reducible refine bdn ?_ _) | (with_reducible refine bset ?_ (by first | exact Nat.le_refl _ | omega | (simp; done) | (simp; omega))) | (with_reducible refine bt ?_ (by with_reducible assumption)))⟩
theorem Next {w : World} {r : Value} {l : List RuleV} (hr : Holds w r l) (e : EraV) (he : e.Fit) (t : Int) (hs : ∀ x ∈ l, x.letter.size ≤ 1000000) (hn : l.length ≤ 100000) :
    Calls Tryz.prog 28 #[r, .agg e.cells.toArray, .int .i64 t] w fun x w' => x = .returned (.tuple #[.int .i64 (nextV l e t).1, .bool (nextV l e t).2]) ∧ Below w.heap.size w w' := by
  unfold nextV
  by_cases h : Er.rightB e = true ∧ e.kind = 2
  · rw [if_pos h]
    exact RFrc.next1 hr e he t hs hn h.1 h.2
  · rw [if_neg h]
    exact RFrc.next0 hr e he t hs hn h
end RFrc
end Go.Proofs.YtkpjhgkmjcdobaaGreatDoor
