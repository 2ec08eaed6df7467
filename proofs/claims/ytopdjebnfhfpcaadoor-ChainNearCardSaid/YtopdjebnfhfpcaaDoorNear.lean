/-
  noontidelaw26.ChainNear: the walk.
-/
import Derived.Test.YtopdjebnfhfpcaaDoorLive26
import Derived.Test.YtopdjebnfhfpcaaDoorOpenO
namespace Go.Proofs.YtopdjebnfhfpcaaDoor
open Go.RowKit NB Nxt
namespace L26
set_option maxRecDepth 100000 in
set_option maxHeartbeats 1600000 in
theorem near0 {w : World} {v : Value} {l : List RuleV} (h : Holds w v l) (name : ByteArray) (off t : Int) (hl : Lgt.light l = false ∨ 2199023255552 < t ∨ t < -2199023255552) :
    Calls Tryd.prog 8 #[v, .string name, .int .i64 off, .int .i64 t] w fun e w' => e = .returned (.bool true) ∧ Below w.heap.size w w' := by
  have clv := fun W => lives W
  have cl := fun W (h : Holds W v l) => Lgt.LightH h
  have HH := Lib.hid h
  have Clv := Lib.hid clv
  clear h clv
  cases hL : Lgt.light l
  · rw [hL] at cl
    have Cl := Lib.hid cl
    clear cl hl hL
    go_enter Tryd.func8, Tryd.ntmps8
    go_wp2_with (first
      | (go_at_call 25; (with_reducible refine (Clv.out _).mono ?_); rintro e w1 ⟨rfl, hb1⟩; obtain ⟨hc1, hf1⟩ := bcell hb1)
      | (go_at_call 10; (with_reducible refine (Cl.out _ ?_).mono ?_); (· exact HH.out.later (by repeat (first | (with_reducible exact Below.refl _ _) | (with_reducible assumption) | (with_reducible refine ba ?_) | (with_reducible refine bd ?_) | (with_reducible refine bdn ?_ _) | (with_reducible refine bset ?_ (by first | exact Nat.le_refl _ | omega | (simp; done) | (simp; omega))) | (with_reducible refine bt ?_ (by with_reducible assumption))))); rintro e w2 ⟨rfl, hb2⟩; obtain ⟨hc2, hf2⟩ := bcell hb2))
    go_ret
    exact ⟨rfl, by repeat (first | (with_reducible exact Below.refl _ _) | (with_reducible assumption) | (with_reducible refine ba ?_) | (with_reducible refine bd ?_) | (with_reducible refine bdn ?_ _) | (with_reducible refine bset ?_ (by first | exact Nat.le_refl _ | omega | (simp; done) | (simp; omega))) | (with_reducible refine bt ?_ (by with_reducible assumption)))⟩
  · rw [hL] at cl hl
    have Cl := Lib.hid cl
    clear cl hL
    rcases hl with hl | hl | hl
    · cases hl
    · go_enter Tryd.func8, Tryd.ntmps8
      go_wp2_with (first
        | (go_at_call 25; (with_reducible refine (Clv.out _).mono ?_); rintro e w1 ⟨rfl, hb1⟩; obtain ⟨hc1, hf1⟩ := bcell hb1)
        | (go_at_call 10; (with_reducible refine (Cl.out _ ?_).mono ?_); (· exact HH.out.later (by repeat (first | (with_reducible exact Below.refl _ _) | (with_reducible assumption) | (with_reducible refine ba ?_) | (with_reducible refine bd ?_) | (with_reducible refine bdn ?_ _) | (with_reducible refine bset ?_ (by first | exact Nat.le_refl _ | omega | (simp; done) | (simp; omega))) | (with_reducible refine bt ?_ (by with_reducible assumption))))); rintro e w2 ⟨rfl, hb2⟩; obtain ⟨hc2, hf2⟩ := bcell hb2))
      go_ret
      exact ⟨rfl, by repeat (first | (with_reducible exact Below.refl _ _) | (with_reducible assumption) | (with_reducible refine ba ?_) | (with_reducible refine bd ?_) | (with_reducible refine bdn ?_ _) | (with_reducible refine bset ?_ (by first | exact Nat.le_refl _ | omega | (simp; done) | (simp; omega))) | (with_reducible refine bt ?_ (by with_reducible assumption)))⟩
    · go_enter Tryd.func8, Tryd.ntmps8
      go_wp2_with (first
        | (go_at_call 25; (with_reducible refine (Clv.out _).mono ?_); rintro e w1 ⟨rfl, hb1⟩; obtain ⟨hc1, hf1⟩ := bcell hb1)
        | (go_at_call 10; (with_reducible refine (Cl.out _ ?_).mono ?_); (· exact HH.out.later (by repeat (first | (with_reducible exact Below.refl _ _) | (with_reducible assumption) | (with_reducible refine ba ?_) | (with_reducible refine bd ?_) | (with_reducible refine bdn ?_ _) | (with_reducible refine bset ?_ (by first | exact Nat.le_refl _ | omega | (simp; done) | (simp; omega))) | (with_reducible refine bt ?_ (by with_reducible assumption))))); rintro e w2 ⟨rfl, hb2⟩; obtain ⟨hc2, hf2⟩ := bcell hb2))
      go_ret
      exact ⟨rfl, by repeat (first | (with_reducible exact Below.refl _ _) | (with_reducible assumption) | (with_reducible refine ba ?_) | (with_reducible refine bd ?_) | (with_reducible refine bdn ?_ _) | (with_reducible refine bset ?_ (by first | exact Nat.le_refl _ | omega | (simp; done) | (simp; omega))) | (with_reducible refine bt ?_ (by with_reducible assumption)))⟩
/-- what Last told, if it told one -/
structure LastF (l : List RuleV) (name : ByteArray) (off t : Int) (K : Bool) (o : OccV) (a : Int) : Prop where
  val : optV (Chn.lastO l name off t) = .tuple #[.agg #[.int .i64 o.rule, .int .i64 o.year, .int .i64 o.nom], .bool K]
  inst : K = true → Chn.instE l name off o = (a, 0)
  le : K = true → a ≤ t
  bd : K = true → -1099000000000 < o.nom ∧ o.nom < 1099000000000 ∧ a - o.nom ≤ 64800 ∧ o.nom - a ≤ 64800
theorem last_f (l : List RuleV) (name : ByteArray) (off t : Int) : ∃ K o a, LastF l name off t K o a := by
  cases hm : Chn.may off
  · refine ⟨false, Nxt.occ0, 0, ⟨?_, fun h => absurd h (by decide), fun h => absurd h (by decide), fun h => absurd h (by decide)⟩⟩
    unfold Chn.lastO
    rw [hm, if_neg (by decide)]
    rfl
  · have hL := Chn.last_spec (l := l) (name := name) (t := t) hm
    cases hk : Chn.lastO l name off t with
    | none => exact ⟨false, Nxt.occ0, 0, ⟨by rw [hk]; rfl, fun h => absurd h (by decide), fun h => absurd h (by decide), fun h => absurd h (by decide)⟩⟩
    | some o =>
      rw [hk] at hL
      obtain ⟨h1, h2, _⟩ := hL
      have h3 := Chn.all_range h1
      have h4 := Chn.inst_bd (l := l) (name := name) hm o
      exact ⟨true, o, Chn.inst l name off o, ⟨by rw [hk]; rfl, fun _ => Chn.instE_all hm h1, fun _ => Chn.clamp_le hm h1 h2, fun _ => ⟨h3.1, h3.2, by omega, by omega⟩⟩⟩
set_option maxRecDepth 100000 in
set_option maxHeartbeats 6400000 in
theorem near1 {w : World} {v : Value} {l : List RuleV} (h : Holds w v l) (name : ByteArray) (off t : Int) (hl : Lgt.light l = true) (t0 : -2199023255552 ≤ t) (t1 : t ≤ 2199023255552) (hp : Chn.afterO l name off t = none) :
    Calls Tryd.prog 8 #[v, .string name, .int .i64 off, .int .i64 t] w fun e w' => e = .returned (.bool true) ∧ Below w.heap.size w w' := by
  obtain ⟨K, o, a, hF⟩ := last_f l name off t
  have clv := fun W => lives W
  have cl := fun W (h : Holds W v l) => Lgt.LightH h
  have ca := fun W (h : Holds W v l) => ChW.Last h name off t
  have cb := fun W (h : Holds W v l) => ChW.After h name off t
  have ci := fun W (h : Holds W v l) => ChW.Instant h name off o
  rw [hl] at cl
  rw [hF.val] at ca
  rw [hp] at cb
  obtain ⟨q, cap, rfl⟩ := h.form
  unfold optV at cb
  unfold OccV.cells at *
  simp only at cb
  have hi := hF.inst
  have hle := hF.le
  have hbd := hF.bd
  have HH := Lib.hid h
  have Clv := Lib.hid clv
  have Cl := Lib.hid cl
  have Ca := Lib.hid ca
  have Cb := Lib.hid cb
  clear h clv cl ca cb hl hF hp
  cases K
  · clear hi hle hbd ci
    generalize l.length = n at *
    go_enter Tryd.func8, Tryd.ntmps8
    go_wp2_with (first
      | (go_at_call 25; (with_reducible refine (Clv.out _).mono ?_); rintro e w1 ⟨rfl, hb1⟩; obtain ⟨hc1, hf1⟩ := bcell hb1)
      | (go_at_call 10; (with_reducible refine (Cl.out _ ?_).mono ?_); (· exact HH.out.later (by repeat (first | (with_reducible exact Below.refl _ _) | (with_reducible assumption) | (with_reducible refine ba ?_) | (with_reducible refine bd ?_) | (with_reducible refine bdn ?_ _) | (with_reducible refine bset ?_ (by first | exact Nat.le_refl _ | omega | (simp; done) | (simp; omega))) | (with_reducible refine bt ?_ (by with_reducible assumption))))); rintro e w2 ⟨rfl, hb2⟩; obtain ⟨hc2, hf2⟩ := bcell hb2)
      | (go_at_call 26; (with_reducible refine (Ca.out _ ?_).mono ?_); (· exact HH.out.later (by repeat (first | (with_reducible exact Below.refl _ _) | (with_reducible assumption) | (with_reducible refine ba ?_) | (with_reducible refine bd ?_) | (with_reducible refine bdn ?_ _) | (with_reducible refine bset ?_ (by first | exact Nat.le_refl _ | omega | (simp; done) | (simp; omega))) | (with_reducible refine bt ?_ (by with_reducible assumption))))); rintro e w3 ⟨rfl, hb3⟩; obtain ⟨hc3, hf3⟩ := bcell hb3)
      | (go_at_call 28; (with_reducible refine (Cb.out _ ?_).mono ?_); (· exact HH.out.later (by repeat (first | (with_reducible exact Below.refl _ _) | (with_reducible assumption) | (with_reducible refine ba ?_) | (with_reducible refine bd ?_) | (with_reducible refine bdn ?_ _) | (with_reducible refine bset ?_ (by first | exact Nat.le_refl _ | omega | (simp; done) | (simp; omega))) | (with_reducible refine bt ?_ (by with_reducible assumption))))); rintro e w4 ⟨rfl, hb4⟩; obtain ⟨hc4, hf4⟩ := bcell hb4))
    go_ret
    exact ⟨rfl, by repeat (first | (with_reducible exact Below.refl _ _) | (with_reducible assumption) | (with_reducible refine ba ?_) | (with_reducible refine bd ?_) | (with_reducible refine bdn ?_ _) | (with_reducible refine bset ?_ (by first | exact Nat.le_refl _ | omega | (simp; done) | (simp; omega))) | (with_reducible refine bt ?_ (by with_reducible assumption)))⟩
  · rw [hi rfl] at ci
    replace hle := hle rfl
    replace hbd := hbd rfl
    have Ci := Lib.hid ci
    clear ci hi
    generalize l.length = n at *
    go_enter Tryd.func8, Tryd.ntmps8
    go_wp2_with (first
      | (go_at_call 25; (with_reducible refine (Clv.out _).mono ?_); rintro e w1 ⟨rfl, hb1⟩; obtain ⟨hc1, hf1⟩ := bcell hb1)
      | (go_at_call 10; (with_reducible refine (Cl.out _ ?_).mono ?_); (· exact HH.out.later (by repeat (first | (with_reducible exact Below.refl _ _) | (with_reducible assumption) | (with_reducible refine ba ?_) | (with_reducible refine bd ?_) | (with_reducible refine bdn ?_ _) | (with_reducible refine bset ?_ (by first | exact Nat.le_refl _ | omega | (simp; done) | (simp; omega))) | (with_reducible refine bt ?_ (by with_reducible assumption))))); rintro e w2 ⟨rfl, hb2⟩; obtain ⟨hc2, hf2⟩ := bcell hb2)
      | (go_at_call 26; (with_reducible refine (Ca.out _ ?_).mono ?_); (· exact HH.out.later (by repeat (first | (with_reducible exact Below.refl _ _) | (with_reducible assumption) | (with_reducible refine ba ?_) | (with_reducible refine bd ?_) | (with_reducible refine bdn ?_ _) | (with_reducible refine bset ?_ (by first | exact Nat.le_refl _ | omega | (simp; done) | (simp; omega))) | (with_reducible refine bt ?_ (by with_reducible assumption))))); rintro e w3 ⟨rfl, hb3⟩; obtain ⟨hc3, hf3⟩ := bcell hb3)
      | (go_at_call 27; (with_reducible refine (Ci.out _ ?_).mono ?_); (· exact HH.out.later (by repeat (first | (with_reducible exact Below.refl _ _) | (with_reducible assumption) | (with_reducible refine ba ?_) | (with_reducible refine bd ?_) | (with_reducible refine bdn ?_ _) | (with_reducible refine bset ?_ (by first | exact Nat.le_refl _ | omega | (simp; done) | (simp; omega))) | (with_reducible refine bt ?_ (by with_reducible assumption))))); rintro e w5 ⟨rfl, hb5⟩; obtain ⟨hc5, hf5⟩ := bcell hb5; have hc5_0 := fun o => hc5 (w3.heap.size) o (by first | assumption | omega | (simp; done) | (simp; omega)); have hf5_0 := fun o => hf5 (w3.heap.size) o (by first | assumption | omega | (simp; done) | (simp; omega)); clear hc5 hf5; have hz5_0 : w3.heap.size < w5.heap.size := (by first | exact sz1 hb5 | exact sz2 hb5 | exact sz3 hb5 | (have := hb5.size; (try simp only [World.size_alloc, World.size_drew] at this); omega)))
      | (go_at_call 28; (with_reducible refine (Cb.out _ ?_).mono ?_); (· exact HH.out.later (by repeat (first | (with_reducible exact Below.refl _ _) | (with_reducible assumption) | (with_reducible refine ba ?_) | (with_reducible refine bd ?_) | (with_reducible refine bdn ?_ _) | (with_reducible refine bset ?_ (by first | exact Nat.le_refl _ | omega | (simp; done) | (simp; omega))) | (with_reducible refine bt ?_ (by with_reducible assumption))))); rintro e w4 ⟨rfl, hb4⟩; obtain ⟨hc4, hf4⟩ := bcell hb4))
    go_ret
    exact ⟨rfl, by repeat (first | (with_reducible exact Below.refl _ _) | (with_reducible assumption) | (with_reducible refine ba ?_) | (with_reducible refine bd ?_) | (with_reducible refine bdn ?_ _) | (with_reducible refine bset ?_ (by first | exact Nat.le_refl _ | omega | (simp; done) | (simp; omega))) | (with_reducible refine bt ?_ (by with_reducible assumption)))⟩
set_option maxRecDepth 100000 in
set_option maxHeartbeats 6400000 in
theorem near2 (b bo cap : Nat) {w : World} {l : List RuleV} (h : Holds w (.slice (some ⟨b, bo, none⟩) l.length cap) l) (hb : b < w.heap.size) (hc : Lies w b bo 11 (l.map RuleV.cells)) (name : ByteArray) (off t : Int) (hl : Lgt.light l = true) (t0 : -2199023255552 ≤ t) (t1 : t ≤ 2199023255552) (p : OccV) (hp : Chn.afterO l name off t = some p) :
    Calls Tryd.prog 8 #[.slice (some ⟨b, bo, none⟩) l.length cap, .string name, .int .i64 off, .int .i64 t] w fun e w' => e = .returned (.bool true) ∧ Below w.heap.size w w' := by
  obtain ⟨K, o, a, hF⟩ := last_f l name off t
  have hm : Chn.may off = true := by
    cases hm : Chn.may off
    · unfold Chn.afterO at hp
      rw [hm, if_neg (by decide)] at hp
      cases hp
    · rfl
  have hA := Chn.after_spec (l := l) (name := name) (t := t) hm
  rw [hp] at hA
  obtain ⟨pa, pi, pz⟩ := hA
  have hib := Chn.clamp_lt hm pa pi
  have hpe := Chn.instE_all hm pa
  obtain ⟨i, r, e1, hi, hr, hn, hR, y1, y2, y3⟩ := ChW.rule_of pa
  have pr := Chn.all_range pa
  have clv := fun W => lives W
  have cl := fun W (h : Holds W (.slice (some ⟨b, bo, none⟩) l.length cap) l) => Lgt.LightH h
  have ca := fun W (h : Holds W (.slice (some ⟨b, bo, none⟩) l.length cap) l) => ChW.Last h name off t
  have cb := fun W (h : Holds W (.slice (some ⟨b, bo, none⟩) l.length cap) l) => ChW.After h name off t
  have ci := fun W (h : Holds W (.slice (some ⟨b, bo, none⟩) l.length cap) l) => ChW.Instant h name off o
  have cj := fun W (h : Holds W (.slice (some ⟨b, bo, none⟩) l.length cap) l) => ChW.Instant h name off p
  have cq := fun W (h : Holds W (.slice (some ⟨b, bo, none⟩) l.length cap) l) => NxH.Prev h name p
  have ck := fun W (h : Holds W (.slice (some ⟨b, bo, none⟩) l.length cap) l) => ChW.Clock h name off p.nom r.base
  have eb : Chn.baseAt l p.rule = r.base := by unfold Chn.baseAt; rw [e1, Chn.rule_at hr]
  have hlm := h.len
  have c8 : w.cell? ⟨b, bo + i * 11 + 8, none⟩ = some (.int .i64 r.base) := hc i 8 _ _ (by rw [List.getElem?_map, hr]; rfl) rfl
  rw [hl] at cl
  rw [hF.val] at ca
  rw [hp] at cb
  rw [hpe] at cj
  have hclk : ∃ (M : Bool) (q : OccV) (k1 k2 : Int), optV (Occ.prevO l name p) = .tuple #[.agg #[.int .i64 q.rule, .int .i64 q.year, .int .i64 q.nom], .bool M] ∧ Chn.clockE l name off p.nom r.base = (k1, k2) ∧ ((M = true ∧ q.nom = p.nom) ∨ ((M = false ∨ q.nom ≠ p.nom) ∧ k1 = Chn.inst l name off p ∧ k2 = 0)) := by
    have hck := Chn.clock_at (l := l) (name := name) hm pa
    rw [eb] at hck
    cases hq : Occ.prevO l name p with
    | none => exact ⟨false, Nxt.occ0, _, _, rfl, hck (fun q h => by rw [hq] at h; cases h), .inr ⟨.inl rfl, rfl, rfl⟩⟩
    | some q =>
      by_cases hqn : q.nom = p.nom
      · exact ⟨true, q, _, _, rfl, rfl, .inl ⟨rfl, hqn⟩⟩
      · exact ⟨true, q, _, _, rfl, hck (fun q' h => by rw [hq] at h; cases h; exact hqn), .inr ⟨.inr hqn, rfl, rfl⟩⟩
  obtain ⟨M, q, k1, k2, eq, ek, hcas⟩ := hclk
  rw [eq] at cq
  rw [ek] at ck
  unfold optV at cb
  unfold OccV.cells at *
  simp only at cb cj ck
  generalize Chn.inst l name off p = x at *
  obtain ⟨pr', py, pn⟩ := p
  simp only at e1
  subst e1
  simp only at cb cj cq ck hcas pr
  have hi1 := hF.inst
  have hle := hF.le
  have hbd := hF.bd
  have HH := Lib.hid h
  have Clv := Lib.hid clv
  have Cl := Lib.hid cl
  have Ca := Lib.hid ca
  have Cb := Lib.hid cb
  have Cj := Lib.hid cj
  have Cq := Lib.hid cq
  have Ck := Lib.hid ck
  clear h clv cl ca cb cj cq ck hl hF hp pa pi pz hpe hr hn hR y1 y2 y3 eb ek eq hm hc
  generalize l.length = n at *
  have hci : K = true → ∀ W : World, Holds W (.slice (some ⟨b, bo, none⟩) n cap) l → Calls Tryd.prog 27 #[.slice (some ⟨b, bo, none⟩) n cap, .string name, .int .i64 off, .agg #[.int .i64 o.rule, .int .i64 o.year, .int .i64 o.nom]] W fun e w' => e = .returned (.tuple #[.int .i64 a, .int .i64 0]) ∧ Below W.heap.size W w' := by
    intro hK
    rw [hi1 hK] at ci
    exact ci
  clear ci hi1
  rcases hcas with ⟨rfl, hqn⟩ | ⟨rfl | hqn, rfl, rfl⟩ <;> cases K
  all_goals
    try replace hle := hle rfl
    try replace hbd := hbd rfl
    try have Ci := Lib.hid (hci rfl)
    try have Hqn := Lib.hid hqn
    try clear hqn
    clear hci
    go_enter Tryd.func8, Tryd.ntmps8
    go_upto_region 17 with (first
      | (go_at_call 25; (with_reducible refine (Clv.out _).mono ?_); rintro e w1 ⟨rfl, hb1⟩; obtain ⟨hc1, hf1⟩ := bcell hb1)
      | (go_at_call 10; (with_reducible refine (Cl.out _ ?_).mono ?_); (· exact HH.out.later (by repeat (first | (with_reducible exact Below.refl _ _) | (with_reducible assumption) | (with_reducible refine ba ?_) | (with_reducible refine bd ?_) | (with_reducible refine bdn ?_ _) | (with_reducible refine bset ?_ (by first | exact Nat.le_refl _ | omega | (simp; done) | (simp; omega))) | (with_reducible refine bt ?_ (by with_reducible assumption))))); rintro e w2 ⟨rfl, hb2⟩; obtain ⟨hc2, hf2⟩ := bcell hb2)
      | (go_at_call 26; (with_reducible refine (Ca.out _ ?_).mono ?_); (· exact HH.out.later (by repeat (first | (with_reducible exact Below.refl _ _) | (with_reducible assumption) | (with_reducible refine ba ?_) | (with_reducible refine bd ?_) | (with_reducible refine bdn ?_ _) | (with_reducible refine bset ?_ (by first | exact Nat.le_refl _ | omega | (simp; done) | (simp; omega))) | (with_reducible refine bt ?_ (by with_reducible assumption))))); rintro e w3 ⟨rfl, hb3⟩; obtain ⟨hc3, hf3⟩ := bcell hb3)
      | (go_at_call 27; (with_reducible refine (Ci.out _ ?_).mono ?_); (· exact HH.out.later (by repeat (first | (with_reducible exact Below.refl _ _) | (with_reducible assumption) | (with_reducible refine ba ?_) | (with_reducible refine bd ?_) | (with_reducible refine bdn ?_ _) | (with_reducible refine bset ?_ (by first | exact Nat.le_refl _ | omega | (simp; done) | (simp; omega))) | (with_reducible refine bt ?_ (by with_reducible assumption))))); rintro e w7 ⟨rfl, hb7⟩; obtain ⟨hc7, hf7⟩ := bcell hb7; have hc7_0 := fun o => hc7 (w3.heap.size) o (by first | assumption | omega | (simp; done) | (simp; omega)); have hf7_0 := fun o => hf7 (w3.heap.size) o (by first | assumption | omega | (simp; done) | (simp; omega)); clear hc7 hf7; have hz7_0 : w3.heap.size < w7.heap.size := (by first | exact sz1 hb7 | exact sz2 hb7 | exact sz3 hb7 | (have := hb7.size; (try simp only [World.size_alloc, World.size_drew] at this); omega)))
      | (go_at_call 28; (with_reducible refine (Cb.out _ ?_).mono ?_); (· exact HH.out.later (by repeat (first | (with_reducible exact Below.refl _ _) | (with_reducible assumption) | (with_reducible refine ba ?_) | (with_reducible refine bd ?_) | (with_reducible refine bdn ?_ _) | (with_reducible refine bset ?_ (by first | exact Nat.le_refl _ | omega | (simp; done) | (simp; omega))) | (with_reducible refine bt ?_ (by with_reducible assumption))))); rintro e w4 ⟨rfl, hb4⟩; obtain ⟨hc4, hf4⟩ := bcell hb4)
      | (go_at_call 27; (with_reducible refine (Cj.out _ ?_).mono ?_); (· exact HH.out.later (by repeat (first | (with_reducible exact Below.refl _ _) | (with_reducible assumption) | (with_reducible refine ba ?_) | (with_reducible refine bd ?_) | (with_reducible refine bdn ?_ _) | (with_reducible refine bset ?_ (by first | exact Nat.le_refl _ | omega | (simp; done) | (simp; omega))) | (with_reducible refine bt ?_ (by with_reducible assumption))))); rintro e w5 ⟨rfl, hb5⟩; obtain ⟨hc5, hf5⟩ := bcell hb5; have hc5_0 := fun o => hc5 (w4.heap.size) o (by first | assumption | omega | (simp; done) | (simp; omega)); have hf5_0 := fun o => hf5 (w4.heap.size) o (by first | assumption | omega | (simp; done) | (simp; omega)); clear hc5 hf5; have hz5_0 : w4.heap.size < w5.heap.size := (by first | exact sz1 hb5 | exact sz2 hb5 | exact sz3 hb5 | (have := hb5.size; (try simp only [World.size_alloc, World.size_drew] at this); omega)))
      | (go_at_call 21; (with_reducible refine (Cq.out _ ?_).mono ?_); (· exact HH.out.later (by repeat (first | (with_reducible exact Below.refl _ _) | (with_reducible assumption) | (with_reducible refine ba ?_) | (with_reducible refine bd ?_) | (with_reducible refine bdn ?_ _) | (with_reducible refine bset ?_ (by first | exact Nat.le_refl _ | omega | (simp; done) | (simp; omega))) | (with_reducible refine bt ?_ (by with_reducible assumption))))); rintro e w6 ⟨rfl, hb6⟩; obtain ⟨hc6, hf6⟩ := bcell hb6; have hc6_0 := fun o => hc6 (w4.heap.size) o (by first | assumption | omega | (simp; done) | (simp; omega)); have hf6_0 := fun o => hf6 (w4.heap.size) o (by first | assumption | omega | (simp; done) | (simp; omega)); clear hc6 hf6; have hz6_0 : w4.heap.size < w6.heap.size := (by first | exact sz1 hb6 | exact sz2 hb6 | exact sz3 hb6 | (have := hb6.size; (try simp only [World.size_alloc, World.size_drew] at this); omega))))
    obtain ⟨X, hX⟩ : ∃ X, X = w6.alloc (.cells #[.int .i64 q.rule, .int .i64 q.year, .int .i64 q.nom] 41) := ⟨_, rfl⟩
    rw [← hX]
    have hBX : Below w.heap.size w X := by rw [hX]; repeat (first | (with_reducible exact Below.refl _ _) | (with_reducible assumption) | (with_reducible refine ba ?_) | (with_reducible refine bd ?_) | (with_reducible refine bdn ?_ _) | (with_reducible refine bset ?_ (by first | exact Nat.le_refl _ | omega | (simp; done) | (simp; omega))) | (with_reducible refine bt ?_ (by with_reducible assumption)))
    have bP : Box X w4.heap.size #[.int .i64 i, .int .i64 py, .int .i64 pn] 41 := by rw [hX]; repeat (first | (with_reducible assumption) | (with_reducible exact Box.new _ _ _) | (with_reducible refine Box.old ?_) | (with_reducible refine Box.drew ?_) | (with_reducible refine Box.drewN ?_ _) | (with_reducible refine Box.other ?_ (by first | assumption | omega | (simp; omega))) | (with_reducible refine Box.later ?_ (by with_reducible assumption)))
    have bQ : Box X w6.heap.size #[.int .i64 q.rule, .int .i64 q.year, .int .i64 q.nom] 41 := by rw [hX]; exact Box.new _ _ _
    have d8 : X.cell? ⟨b, bo + i * 11 + 8, none⟩ = some (.int .i64 r.base) := (hBX.cell (p := ⟨b, bo + i * 11 + 8, none⟩) hb).trans c8
    have HX := Lib.hid (HH.out.later hBX)
    have dP := bP.cell
    have gP := bP.lt
    have gQ := bQ.lt
    have gb : b < X.heap.size := Nat.lt_of_lt_of_le hb hBX.size
    have HP := Lib.hid bP
    have HQ := Lib.hid bQ
    have HBX := Lib.hid hBX
    clear hX hBX bP bQ hb1 hb2 hb3 hb4 hb5 hb6 hc5_0 hf5_0 hc6_0 hf6_0 c8
    generalize w4.heap.size = q4 at *
    generalize w6.heap.size = q6 at *
    (refine region_later (by kernel_rfl) (by kernel_rfl) ?_; (repeat (go_big_quiet_step (first | (go_at_call 29; rename_i xL; apply calls_later xL (Nat.le_refl _); exact (Ck.out _ (HX.out.later xL.h)))))); refine wpQuiet_nil ?_; rintro _ ⟨⟨u17, hu17⟩, rfl⟩)
    have eP := (HP.out.later hu17).cell
    have eQ := (HQ.out.later hu17).cell
    try have hqn := Hqn.out
    clear dP d8
    go_wp2
    all_goals
      go_ret
      exact ⟨by simp [*], bt HBX.out hu17⟩
theorem near {w : World} {v : Value} {l : List RuleV} (h : Holds w v l) (name : ByteArray) (off t : Int) :
    Calls Tryd.prog 8 #[v, .string name, .int .i64 off, .int .i64 t] w fun e w' => e = .returned (.bool true) ∧ Below w.heap.size w w' := by
  cases hl : Lgt.light l
  · exact near0 h name off t (.inl hl)
  by_cases t1 : 2199023255552 < t
  · exact near0 h name off t (.inr (.inl t1))
  by_cases t0 : t < -2199023255552
  · exact near0 h name off t (.inr (.inr t0))
  cases hp : Chn.afterO l name off t with
  | none => exact near1 h name off t hl (by omega) (by omega) hp
  | some p =>
    have h' := h
    rcases h.lies with ⟨q, cap, rfl, rfl⟩ | ⟨b, bo, cap, rfl, h2, h3⟩
    · exfalso
      cases hm : Chn.may off
      · unfold Chn.afterO at hp
        rw [hm, if_neg (by decide)] at hp
        cases hp
      · have hA := Chn.after_spec (l := []) (name := name) (t := t) hm
        rw [hp] at hA
        obtain ⟨i, r, _, hi, _⟩ := ChW.rule_of hA.1
        exact absurd hi (Nat.not_lt_zero _)
    · exact near2 b bo cap h' h2 h3 name off t hl (by omega) (by omega) p hp
theorem nearW (v : Value) (l : List RuleV) (name : ByteArray) (off t : Int) (w : World) (h : Holds w v l) (_ : name.size ≤ 9223372036854775807) (_ : I64 off) (_ : I64 t) :
    Calls Tryd.prog 8 #[v, .string name, .int .i64 off, .int .i64 t] w fun e w' => e = .returned (.bool true) ∧ Below w.heap.size w w' := near h name off t
end L26
end Go.Proofs.YtopdjebnfhfpcaaDoor
