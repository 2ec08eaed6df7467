/-
  noontidelaw25.OccurOne: the walk.
-/
import Derived.Test.YtopdjebnfhfpcaaDoorLive25
import Derived.Test.YtopdjebnfhfpcaaDoorOccIn
import Derived.Test.YtopdjebnfhfpcaaDoorHoldB
import Derived.Test.YtopdjebnfhfpcaaDoorOpenO
namespace Go.Proofs.YtopdjebnfhfpcaaDoor
open Go.RowKit NB Nxt
namespace L25
theorem opt_form (x : Option OccV) : ∃ (o : OccV) (g : Bool), optV x = .tuple #[.agg #[.int .i64 o.rule, .int .i64 o.year, .int .i64 o.nom], .bool g] ∧ (g = true → x = some o) ∧ (g = false → x = none) := by
  cases x with
  | none => exact ⟨occ0, false, rfl, (fun h => by cases h), (fun _ => rfl)⟩
  | some o => exact ⟨o, true, rfl, (fun _ => rfl), (fun h => by cases h)⟩
set_option maxRecDepth 100000 in
theorem light_no (v : Value) (l : List RuleV) (name : ByteArray) (fr : OccV) (w : World) (h : Holds w v l) (hl : Lgt.light l = false) :
    Calls Tryd.prog 5 #[v, .string name, .agg fr.cells.toArray] w fun e w' => e = .returned (.bool true) ∧ Below w.heap.size w w' := by
  have clv := fun W => lives W
  have cl := fun W (h : Holds W v l) => Lgt.LightH h
  rw [hl] at cl
  have HH := Lib.hid h
  have Clv := Lib.hid clv
  have Cl := Lib.hid cl
  unfold OccV.cells
  clear h clv cl
  go_enter Tryd.func5, Tryd.ntmps5
  go_wp2_with (first
    | (go_at_call 19; (with_reducible refine (Clv.out _).mono ?_); rintro e w1 ⟨rfl, hb1⟩; obtain ⟨hc1, hf1⟩ := bcell hb1; have hc1_0 := fun o => hc1 (w.heap.size) o (by first | assumption | omega | (simp; done) | (simp; omega)); have hf1_0 := fun o => hf1 (w.heap.size) o (by first | assumption | omega | (simp; done) | (simp; omega)); clear hc1 hf1; have hz1_0 : w.heap.size < w1.heap.size := (by first | exact sz1 hb1 | exact sz2 hb1 | exact sz3 hb1 | (have := hb1.size; (try simp only [World.size_alloc, World.size_drew] at this); omega)))
    | (go_at_call 10; (with_reducible refine (Cl.out _ ?_).mono ?_); (· exact HH.out.later (by repeat (first | (with_reducible exact Below.refl _ _) | (with_reducible assumption) | (with_reducible refine ba ?_) | (with_reducible refine bd ?_) | (with_reducible refine bdn ?_ _) | (with_reducible refine bset ?_ (by first | exact Nat.le_refl _ | omega | (simp; done) | (simp; omega))) | (with_reducible refine bt ?_ (by with_reducible assumption))))); rintro e w2 ⟨rfl, hb2⟩; obtain ⟨hc2, hf2⟩ := bcell hb2; have hc2_0 := fun o => hc2 (w.heap.size) o (by first | assumption | omega | (simp; done) | (simp; omega)); have hf2_0 := fun o => hf2 (w.heap.size) o (by first | assumption | omega | (simp; done) | (simp; omega)); clear hc2 hf2; have hz2_0 : w.heap.size < w2.heap.size := (by first | exact sz1 hb2 | exact sz2 hb2 | exact sz3 hb2 | (have := hb2.size; (try simp only [World.size_alloc, World.size_drew] at this); omega))))
  go_ret
  exact ⟨rfl, by repeat (first | (with_reducible exact Below.refl _ _) | (with_reducible assumption) | (with_reducible refine ba ?_) | (with_reducible refine bd ?_) | (with_reducible refine bdn ?_ _) | (with_reducible refine bset ?_ (by first | exact Nat.le_refl _ | omega | (simp; done) | (simp; omega))) | (with_reducible refine bt ?_ (by with_reducible assumption)))⟩
theorem prev_nil (name : ByteArray) (fr : OccV) : Occ.prevO [] name fr = none := rfl
theorem next_nil (name : ByteArray) (fr : OccV) : Occ.nextO [] name fr = none := rfl
set_option maxRecDepth 100000 in
set_option maxHeartbeats 6400000 in
theorem one_nil (p : Option Addr) (cap : Nat) (name : ByteArray) (fr : OccV) (w : World) (h : Holds w (.slice p 0 cap) []) :
    Calls Tryd.prog 5 #[.slice p 0 cap, .string name, .agg fr.cells.toArray] w fun e w' => e = .returned (.bool true) ∧ Below w.heap.size w w' := by
  have clv := fun W => lives W
  have cl := fun W (h : Holds W (.slice p 0 cap) []) => Lgt.LightH h
  have cn := fun W (h : Holds W (.slice p 0 cap) []) => NxH.Next h name fr
  have cp := fun W (h : Holds W (.slice p 0 cap) []) => NxH.Prev h name fr
  rw [show Lgt.light [] = true from rfl] at cl
  rw [next_nil] at cn
  rw [prev_nil] at cp
  unfold optV at cn cp
  simp only at cn cp
  unfold OccV.cells at *
  have HH := Lib.hid h
  have Clv := Lib.hid clv
  have Cl := Lib.hid cl
  have Cn := Lib.hid cn
  have Cp := Lib.hid cp
  clear h clv cl cn cp
  go_enter Tryd.func5, Tryd.ntmps5
  go_upto_region 15 with (first
    | (go_at_call 19; (with_reducible refine (Clv.out _).mono ?_); rintro e w1 ⟨rfl, hb1⟩; obtain ⟨hc1, hf1⟩ := bcell hb1; have hc1_0 := fun o => hc1 (w.heap.size) o (by first | assumption | omega | (simp; done) | (simp; omega)); have hf1_0 := fun o => hf1 (w.heap.size) o (by first | assumption | omega | (simp; done) | (simp; omega)); clear hc1 hf1; have hz1_0 : w.heap.size < w1.heap.size := (by first | exact sz1 hb1 | exact sz2 hb1 | exact sz3 hb1 | (have := hb1.size; (try simp only [World.size_alloc, World.size_drew] at this); omega)))
    | (go_at_call 10; (with_reducible refine (Cl.out _ ?_).mono ?_); (· exact HH.out.later (by repeat (first | (with_reducible exact Below.refl _ _) | (with_reducible assumption) | (with_reducible refine ba ?_) | (with_reducible refine bd ?_) | (with_reducible refine bdn ?_ _) | (with_reducible refine bset ?_ (by first | exact Nat.le_refl _ | omega | (simp; done) | (simp; omega))) | (with_reducible refine bt ?_ (by with_reducible assumption))))); rintro e w2 ⟨rfl, hb2⟩; obtain ⟨hc2, hf2⟩ := bcell hb2; have hc2_0 := fun o => hc2 (w.heap.size) o (by first | assumption | omega | (simp; done) | (simp; omega)); have hf2_0 := fun o => hf2 (w.heap.size) o (by first | assumption | omega | (simp; done) | (simp; omega)); clear hc2 hf2; have hz2_0 : w.heap.size < w2.heap.size := (by first | exact sz1 hb2 | exact sz2 hb2 | exact sz3 hb2 | (have := hb2.size; (try simp only [World.size_alloc, World.size_drew] at this); omega)))
    | (go_at_call 20; (with_reducible refine (Cn.out _ ?_).mono ?_); (· exact HH.out.later (by repeat (first | (with_reducible exact Below.refl _ _) | (with_reducible assumption) | (with_reducible refine ba ?_) | (with_reducible refine bd ?_) | (with_reducible refine bdn ?_ _) | (with_reducible refine bset ?_ (by first | exact Nat.le_refl _ | omega | (simp; done) | (simp; omega))) | (with_reducible refine bt ?_ (by with_reducible assumption))))); rintro e w3 ⟨rfl, hb3⟩; obtain ⟨hc3, hf3⟩ := bcell hb3; have hc3_0 := fun o => hc3 (w.heap.size) o (by first | assumption | omega | (simp; done) | (simp; omega)); have hf3_0 := fun o => hf3 (w.heap.size) o (by first | assumption | omega | (simp; done) | (simp; omega)); clear hc3 hf3; have hz3_0 : w.heap.size < w3.heap.size := (by first | exact sz1 hb3 | exact sz2 hb3 | exact sz3 hb3 | (have := hb3.size; (try simp only [World.size_alloc, World.size_drew] at this); omega)))
    | (go_at_call 21; (with_reducible refine (Cp.out _ ?_).mono ?_); (· exact HH.out.later (by repeat (first | (with_reducible exact Below.refl _ _) | (with_reducible assumption) | (with_reducible refine ba ?_) | (with_reducible refine bd ?_) | (with_reducible refine bdn ?_ _) | (with_reducible refine bset ?_ (by first | exact Nat.le_refl _ | omega | (simp; done) | (simp; omega))) | (with_reducible refine bt ?_ (by with_reducible assumption))))); rintro e w4 ⟨rfl, hb4⟩; obtain ⟨hc4, hf4⟩ := bcell hb4; have hc4_0 := fun o => hc4 (w.heap.size) o (by first | assumption | omega | (simp; done) | (simp; omega)); have hf4_0 := fun o => hf4 (w.heap.size) o (by first | assumption | omega | (simp; done) | (simp; omega)); have hc4_1 := fun o => hc4 (w3.heap.size) o (by first | assumption | omega | (simp; done) | (simp; omega)); have hf4_1 := fun o => hf4 (w3.heap.size) o (by first | assumption | omega | (simp; done) | (simp; omega)); clear hc4 hf4; have hz4_0 : w.heap.size < w4.heap.size := (by first | exact sz1 hb4 | exact sz2 hb4 | exact sz3 hb4 | (have := hb4.size; (try simp only [World.size_alloc, World.size_drew] at this); omega)); have hz4_1 : w3.heap.size < w4.heap.size := (by first | exact sz1 hb4 | exact sz2 hb4 | exact sz3 hb4 | (have := hb4.size; (try simp only [World.size_alloc, World.size_drew] at this); omega))))
  go_loopw [134] (fun i wr => i = .int .i64 0 ∧ Below w.heap.size w wr) (fun i _ => 0)
  case atStart => exact ⟨rfl, by repeat (first | (with_reducible exact Below.refl _ _) | (with_reducible assumption) | (with_reducible refine ba ?_) | (with_reducible refine bd ?_) | (with_reducible refine bdn ?_ _) | (with_reducible refine bset ?_ (by first | exact Nat.le_refl _ | omega | (simp; done) | (simp; omega))) | (with_reducible refine bt ?_ (by with_reducible assumption)))⟩
  case round =>
    obtain ⟨rfl, hbel⟩ := hrel
    go_wp2
    go_ret
    exact ⟨rfl, hbel⟩
set_option maxRecDepth 100000 in
set_option maxHeartbeats 12800000 in
theorem one_none (b off cap : Nat) (l : List RuleV) (name : ByteArray) (fr : OccV) (w : World) (h : Holds w (.slice (some ⟨b, off, none⟩) l.length cap) l) (hb : b < w.heap.size) (hc : Lies w b off 11 (l.map RuleV.cells)) (hl : Lgt.light l = true) (hk : Occ.nextO l name fr = none) :
    Calls Tryd.prog 5 #[.slice (some ⟨b, off, none⟩) l.length cap, .string name, .agg fr.cells.toArray] w fun e w' => e = .returned (.bool true) ∧ Below w.heap.size w w' := by
  have clv := fun W => lives W
  have cl := fun W (h : Holds W (.slice (some ⟨b, off, none⟩) l.length cap) l) => Lgt.LightH h
  rw [hl] at cl
  have cn := fun W (h : Holds W (.slice (some ⟨b, off, none⟩) l.length cap) l) => NxH.Next h name fr
  have cp := fun W (h : Holds W (.slice (some ⟨b, off, none⟩) l.length cap) l) => NxH.Prev h name fr
  rw [hk] at cn
  obtain ⟨C, G, eC, fC, fC0⟩ := opt_form (Occ.prevO l name fr)
  rw [eC] at cp
  have cls1 := fun W => Cmp.Less C fr W
  have hC : G = true → Occ.less C fr = true ∧ 0 ≤ C.rule ∧ C.rule < l.length := by
    intro hG
    obtain ⟨g1, g2⟩ := Occ.prev_all (fC hG)
    exact ⟨g2, (Occ.all_bd g1).2.2.1, (Occ.all_bd g1).2.2.2⟩
  have cls3 := fun (x : OccV) W => Cmp.Less fr x W
  have hfit := h.fit
  have hlm := h.len
  have hmem : ∀ (j : Nat) (r2 : RuleV) (y x : Int), l[j]? = some r2 → r2.name = name → Nom.nomE r2 y = (x, 0) → Occ.All l name l.length ⟨j, y, x⟩ := by
    intro j r2 y x h1 h2 h3
    unfold Nom.nomE at h3
    cases hR2 : Rul.right r2
    · rw [hR2, if_neg (by decide)] at h3; exact absurd (congrArg Prod.snd h3) (by simp)
    · rw [hR2, if_pos rfl] at h3
      by_cases hy : y < r2.fr ∨ r2.to < y
      · rw [if_pos hy] at h3; exact absurd (congrArg Prod.snd h3) (by simp)
      · rw [if_neg hy] at h3
        have h4 := congrArg Prod.fst h3
        simp only at h4
        exact ⟨j, r2, (List.getElem?_eq_some_iff.1 h1).1, h1, h2, hR2, by show r2.fr ≤ y; omega, by show y ≤ r2.to; omega, by unfold Occ.occ; rw [h4]⟩
  unfold optV at cn
  try simp only at cn
  unfold OccV.cells at *
  try simp only at cn
  try simp only at cpA
  try simp only at cls2
  try simp only at cls4
  obtain ⟨n, hn⟩ : ∃ n, n = l.length := ⟨_, rfl⟩
  have HH := Lib.hid h
  have Hc := Lib.hid hc
  have Hf := Lib.hid hfit
  have Hm := Lib.hid hmem
  have Cm := Lib.hid (fun (x : RuleV) (hx : x.Fit) (y : Int) W => Nom.Nom x hx y W)
  have C3 := Lib.hid cls3
  have Clv := Lib.hid clv
  have Cl := Lib.hid cl
  have Cn := Lib.hid cn
  have Cp := Lib.hid cp
  clear hc hfit hmem cls3 clv cl cn cp h hl hk eC fC fC0
  rw [← hn] at HH Cl Cn Cp Hm hlm hC ⊢
  have HN := Lib.hid hn
  clear hn
  cases G
  all_goals
    try obtain ⟨hC1, hC2, hC3⟩ := hC rfl
    try rw [hC1] at cls1
    clear hC
    have Cls1 := Lib.hid cls1
    clear cls1
    go_enter Tryd.func5, Tryd.ntmps5
    go_upto_region 15 with (first
      | (go_at_call 19; (with_reducible refine (Clv.out _).mono ?_); rintro e w1 ⟨rfl, hb1⟩; obtain ⟨hc1, hf1⟩ := bcell hb1; have hc1_0 := fun o => hc1 (b) o (by first | assumption | omega | (simp; done) | (simp; omega)); have hf1_0 := fun o => hf1 (b) o (by first | assumption | omega | (simp; done) | (simp; omega)); have hc1_1 := fun o => hc1 (w.heap.size) o (by first | assumption | omega | (simp; done) | (simp; omega)); have hf1_1 := fun o => hf1 (w.heap.size) o (by first | assumption | omega | (simp; done) | (simp; omega)); clear hc1 hf1; have hz1_0 : b < w1.heap.size := (by first | exact sz1 hb1 | exact sz2 hb1 | exact sz3 hb1 | (have := hb1.size; (try simp only [World.size_alloc, World.size_drew] at this); omega)); have hz1_1 : w.heap.size < w1.heap.size := (by first | exact sz1 hb1 | exact sz2 hb1 | exact sz3 hb1 | (have := hb1.size; (try simp only [World.size_alloc, World.size_drew] at this); omega)))
      | (go_at_call 10; (with_reducible refine (Cl.out _ ?_).mono ?_); (· exact HH.out.later (by repeat (first | (with_reducible exact Below.refl _ _) | (with_reducible assumption) | (with_reducible refine ba ?_) | (with_reducible refine bd ?_) | (with_reducible refine bdn ?_ _) | (with_reducible refine bset ?_ (by first | exact Nat.le_refl _ | omega | (simp; done) | (simp; omega))) | (with_reducible refine bt ?_ (by with_reducible assumption))))); rintro e w2 ⟨rfl, hb2⟩; obtain ⟨hc2, hf2⟩ := bcell hb2; have hc2_0 := fun o => hc2 (b) o (by first | assumption | omega | (simp; done) | (simp; omega)); have hf2_0 := fun o => hf2 (b) o (by first | assumption | omega | (simp; done) | (simp; omega)); have hc2_1 := fun o => hc2 (w.heap.size) o (by first | assumption | omega | (simp; done) | (simp; omega)); have hf2_1 := fun o => hf2 (w.heap.size) o (by first | assumption | omega | (simp; done) | (simp; omega)); clear hc2 hf2; have hz2_0 : b < w2.heap.size := (by first | exact sz1 hb2 | exact sz2 hb2 | exact sz3 hb2 | (have := hb2.size; (try simp only [World.size_alloc, World.size_drew] at this); omega)); have hz2_1 : w.heap.size < w2.heap.size := (by first | exact sz1 hb2 | exact sz2 hb2 | exact sz3 hb2 | (have := hb2.size; (try simp only [World.size_alloc, World.size_drew] at this); omega)))
      | (go_at_call 20; (with_reducible refine (Cn.out _ ?_).mono ?_); (· exact HH.out.later (by repeat (first | (with_reducible exact Below.refl _ _) | (with_reducible assumption) | (with_reducible refine ba ?_) | (with_reducible refine bd ?_) | (with_reducible refine bdn ?_ _) | (with_reducible refine bset ?_ (by first | exact Nat.le_refl _ | omega | (simp; done) | (simp; omega))) | (with_reducible refine bt ?_ (by with_reducible assumption))))); rintro e w3 ⟨rfl, hb3⟩; obtain ⟨hc3, hf3⟩ := bcell hb3; have hc3_0 := fun o => hc3 (b) o (by first | assumption | omega | (simp; done) | (simp; omega)); have hf3_0 := fun o => hf3 (b) o (by first | assumption | omega | (simp; done) | (simp; omega)); have hc3_1 := fun o => hc3 (w.heap.size) o (by first | assumption | omega | (simp; done) | (simp; omega)); have hf3_1 := fun o => hf3 (w.heap.size) o (by first | assumption | omega | (simp; done) | (simp; omega)); clear hc3 hf3; have hz3_0 : b < w3.heap.size := (by first | exact sz1 hb3 | exact sz2 hb3 | exact sz3 hb3 | (have := hb3.size; (try simp only [World.size_alloc, World.size_drew] at this); omega)); have hz3_1 : w.heap.size < w3.heap.size := (by first | exact sz1 hb3 | exact sz2 hb3 | exact sz3 hb3 | (have := hb3.size; (try simp only [World.size_alloc, World.size_drew] at this); omega)))
      | (go_at_call 21; (with_reducible refine (Cp.out _ ?_).mono ?_); (· exact HH.out.later (by repeat (first | (with_reducible exact Below.refl _ _) | (with_reducible assumption) | (with_reducible refine ba ?_) | (with_reducible refine bd ?_) | (with_reducible refine bdn ?_ _) | (with_reducible refine bset ?_ (by first | exact Nat.le_refl _ | omega | (simp; done) | (simp; omega))) | (with_reducible refine bt ?_ (by with_reducible assumption))))); rintro e w4 ⟨rfl, hb4⟩; obtain ⟨hc4, hf4⟩ := bcell hb4; have hc4_0 := fun o => hc4 (b) o (by first | assumption | omega | (simp; done) | (simp; omega)); have hf4_0 := fun o => hf4 (b) o (by first | assumption | omega | (simp; done) | (simp; omega)); have hc4_1 := fun o => hc4 (w.heap.size) o (by first | assumption | omega | (simp; done) | (simp; omega)); have hf4_1 := fun o => hf4 (w.heap.size) o (by first | assumption | omega | (simp; done) | (simp; omega)); have hc4_2 := fun o => hc4 (w3.heap.size) o (by first | assumption | omega | (simp; done) | (simp; omega)); have hf4_2 := fun o => hf4 (w3.heap.size) o (by first | assumption | omega | (simp; done) | (simp; omega)); clear hc4 hf4; have hz4_0 : b < w4.heap.size := (by first | exact sz1 hb4 | exact sz2 hb4 | exact sz3 hb4 | (have := hb4.size; (try simp only [World.size_alloc, World.size_drew] at this); omega)); have hz4_1 : w.heap.size < w4.heap.size := (by first | exact sz1 hb4 | exact sz2 hb4 | exact sz3 hb4 | (have := hb4.size; (try simp only [World.size_alloc, World.size_drew] at this); omega)); have hz4_2 : w3.heap.size < w4.heap.size := (by first | exact sz1 hb4 | exact sz2 hb4 | exact sz3 hb4 | (have := hb4.size; (try simp only [World.size_alloc, World.size_drew] at this); omega)))
      | (go_at_call 22; (with_reducible refine (Cls1.out _).mono ?_); rintro e w5 ⟨rfl, hb5⟩; obtain ⟨hc5, hf5⟩ := bcell hb5; have hc5_0 := fun o => hc5 (b) o (by first | assumption | omega | (simp; done) | (simp; omega)); have hf5_0 := fun o => hf5 (b) o (by first | assumption | omega | (simp; done) | (simp; omega)); have hc5_1 := fun o => hc5 (w.heap.size) o (by first | assumption | omega | (simp; done) | (simp; omega)); have hf5_1 := fun o => hf5 (w.heap.size) o (by first | assumption | omega | (simp; done) | (simp; omega)); have hc5_2 := fun o => hc5 (w3.heap.size) o (by first | assumption | omega | (simp; done) | (simp; omega)); have hf5_2 := fun o => hf5 (w3.heap.size) o (by first | assumption | omega | (simp; done) | (simp; omega)); have hc5_3 := fun o => hc5 (w4.heap.size) o (by first | assumption | omega | (simp; done) | (simp; omega)); have hf5_3 := fun o => hf5 (w4.heap.size) o (by first | assumption | omega | (simp; done) | (simp; omega)); clear hc5 hf5; have hz5_0 : b < w5.heap.size := (by first | exact sz1 hb5 | exact sz2 hb5 | exact sz3 hb5 | (have := hb5.size; (try simp only [World.size_alloc, World.size_drew] at this); omega)); have hz5_1 : w.heap.size < w5.heap.size := (by first | exact sz1 hb5 | exact sz2 hb5 | exact sz3 hb5 | (have := hb5.size; (try simp only [World.size_alloc, World.size_drew] at this); omega)); have hz5_2 : w3.heap.size < w5.heap.size := (by first | exact sz1 hb5 | exact sz2 hb5 | exact sz3 hb5 | (have := hb5.size; (try simp only [World.size_alloc, World.size_drew] at this); omega)); have hz5_3 : w4.heap.size < w5.heap.size := (by first | exact sz1 hb5 | exact sz2 hb5 | exact sz3 hb5 | (have := hb5.size; (try simp only [World.size_alloc, World.size_drew] at this); omega))))
    first
      | (clear hc5_0; obtain ⟨X, hX⟩ : ∃ X, X = w5 := ⟨_, rfl⟩)
      | (obtain ⟨X, hX⟩ : ∃ X, X = w4.alloc (.cells #[.int .i64 C.rule, .int .i64 C.year, .int .i64 C.nom] 41) := ⟨_, rfl⟩)
    have hBX : Below w.heap.size w X := by rw [hX]; repeat (first | (with_reducible exact Below.refl _ _) | (with_reducible assumption) | (with_reducible refine ba ?_) | (with_reducible refine bd ?_) | (with_reducible refine bdn ?_ _) | (with_reducible refine bset ?_ (by first | exact Nat.le_refl _ | omega | (simp; done) | (simp; omega))) | (with_reducible refine bt ?_ (by with_reducible assumption)))
    have kF : Box X w.heap.size #[.int .i64 fr.rule, .int .i64 fr.year, .int .i64 fr.nom] 41 := by rw [hX]; repeat (first | (with_reducible assumption) | (with_reducible exact Box.new _ _ _) | (with_reducible refine Box.old ?_) | (with_reducible refine Box.drew ?_) | (with_reducible refine Box.drewN ?_ _) | (with_reducible refine Box.other ?_ (by first | assumption | omega | (simp; omega))) | (with_reducible refine Box.later ?_ (by with_reducible assumption)))
    have kA : Box X w3.heap.size #[.int .i64 0, .int .i64 0, .int .i64 0] 41 := by rw [hX]; repeat (first | (with_reducible assumption) | (with_reducible exact Box.new _ _ _) | (with_reducible refine Box.old ?_) | (with_reducible refine Box.drew ?_) | (with_reducible refine Box.drewN ?_ _) | (with_reducible refine Box.other ?_ (by first | assumption | omega | (simp; omega))) | (with_reducible refine Box.later ?_ (by with_reducible assumption)))
    rw [← hX]
    clear hX
    generalize w3.heap.size = qa at *
    have HBX := Lib.hid hBX
    have HKF := Lib.hid kF
    have HKA := Lib.hid kA
    clear hBX kF kA
    go_loopw [134] (fun z wr => ∃ k : Nat, z = .int .i64 k ∧ k ≤ n ∧ Below w.heap.size w wr ∧ Box wr w.heap.size #[.int .i64 fr.rule, .int .i64 fr.year, .int .i64 fr.nom] 41 ∧ Box wr qa #[.int .i64 0, .int .i64 0, .int .i64 0] 41) (fun z _ => n - (intOf z).toNat)
    case atStart => exact ⟨0, rfl, Nat.zero_le _, HBX.out, HKF.out, HKA.out⟩
    case round =>
      obtain ⟨k, rfl, hk, hbel, kF, kA⟩ := hrel
      by_cases hlt : k < n
      · obtain ⟨r2, hr2⟩ : ∃ r2, l[k]? = some r2 := ⟨l[k]'(by rw [← HN.out]; exact hlt), by simp⟩
        have hft2 := Hf.out r2 (List.mem_of_getElem? hr2)
        have cm := fun (y : Int) W => Cm.out r2 hft2 y W
        have hcl : ∀ (j : Nat) (u : Value), r2.cells[j]? = some u → wr.cell? ⟨b, off + k * 11 + j, none⟩ = some u := fun j u hu => (hbel.cell (p := ⟨b, off + k * 11 + j, none⟩) hb).trans (Hc.out k j _ u (by rw [List.getElem?_map, hr2]; rfl) hu)
        have d0 := hcl 0 _ rfl
        have d1 := hcl 1 _ rfl
        have d2 := hcl 2 _ rfl
        have d3 := hcl 3 _ rfl
        have d4 := hcl 4 _ rfl
        have d5 := hcl 5 _ rfl
        have d6 := hcl 6 _ rfl
        have d7 := hcl 7 _ rfl
        have d8 := hcl 8 _ rfl
        have d9 := hcl 9 _ rfl
        have d10 := hcl 10 _ rfl
        simp only [Nat.add_zero] at d0
        unfold RuleV.cells at cm
        have Cmm := Lib.hid cm
        have Hr2 := Lib.hid hr2
        have Hbel := Lib.hid hbel
        have HF := Lib.hid kF
        have HA := Lib.hid kA
        have a1 := kA.cell 1
        have la := kA.lt
        have lf := kF.lt
        clear hcl hbel kF kA cm hr2 hft2
        go_wp2
        clear d0 d1 d2 d3 d4 d5 d6 d7 d8 d9 d10 a1
        obtain ⟨V, hV⟩ : ∃ V, V = wr.alloc (.cells #[.string r2.name, .int .i64 r2.fr, .int .i64 r2.to, .int .i64 r2.month, .int .i64 r2.kind, .int .i64 r2.week, .int .i64 r2.day, .int .i64 r2.sec, .int .i64 r2.base, .int .i64 r2.save, .string r2.letter] 27) := ⟨_, rfl⟩
        have kR : Box V wr.heap.size #[.string r2.name, .int .i64 r2.fr, .int .i64 r2.to, .int .i64 r2.month, .int .i64 r2.kind, .int .i64 r2.week, .int .i64 r2.day, .int .i64 r2.sec, .int .i64 r2.base, .int .i64 r2.save, .string r2.letter] 27 := by rw [hV]; exact Box.new _ _ _
        have hBV : Below w.heap.size w V := by rw [hV]; exact ba Hbel.out
        have kF2 : Box V w.heap.size #[.int .i64 fr.rule, .int .i64 fr.year, .int .i64 fr.nom] 41 := by rw [hV]; exact HF.out.old
        have kA2 : Box V qa #[.int .i64 0, .int .i64 0, .int .i64 0] 41 := by rw [hV]; exact HA.out.old
        rw [← hV]
        clear hV
        generalize wr.heap.size = qr at *
        go_loopw [17] (fun z wr => ∃ yy : Int, z = .int .i64 yy ∧ ((0 : Int) - 2 ≤ yy ∧ yy ≤ (0 : Int) + 2) ∧ Below w.heap.size w wr ∧ Box wr w.heap.size #[.int .i64 fr.rule, .int .i64 fr.year, .int .i64 fr.nom] 41 ∧ Box wr qa #[.int .i64 0, .int .i64 0, .int .i64 0] 41 ∧ Box wr qr #[.string r2.name, .int .i64 r2.fr, .int .i64 r2.to, .int .i64 r2.month, .int .i64 r2.kind, .int .i64 r2.week, .int .i64 r2.day, .int .i64 r2.sec, .int .i64 r2.base, .int .i64 r2.save, .string r2.letter] 27) (fun z _ => (0 + 2 - intOf z).toNat)
        case atStart => exact ⟨_, rfl, by omega, hBV, kF2, kA2, kR⟩
        case round =>
          clear hBV kF2 kA2 kR
          obtain ⟨yy, rfl, hyy, hb2, kF2, kA2, kR⟩ := hrel
          have a1 := kA2.cell 1
          have lA := kA2.lt
          have lF := kF2.lt
          have lR := kR.lt
          have Hb2 := Lib.hid hb2
          have HF2 := Lib.hid kF2
          have HA2 := Lib.hid kA2
          have HR2 := Lib.hid kR
          by_cases hyl : yy ≤ 0 + 1
          · have r := kR.cell
            have cN := fun W => Cmm.out yy W
            obtain ⟨x, e, hxe⟩ : ∃ x e, Nom.nomE r2 yy = (x, e) := ⟨_, _, rfl⟩
            rw [hxe] at cN
            simp only at cN
            have CN := Lib.hid cN
            clear cN hb2 kF2 kA2 kR
            go_wp2_with (first
              | (go_at_call 23; (with_reducible refine (CN.out _).mono ?_); rintro e w20 ⟨rfl, hb20⟩; obtain ⟨hc20, hf20⟩ := bcell hb20; have hc20_0 := fun o => hc20 (w.heap.size) o (by first | assumption | omega | (simp; done) | (simp; omega)); have hf20_0 := fun o => hf20 (w.heap.size) o (by first | assumption | omega | (simp; done) | (simp; omega)); have hc20_1 := fun o => hc20 (qa) o (by first | assumption | omega | (simp; done) | (simp; omega)); have hf20_1 := fun o => hf20 (qa) o (by first | assumption | omega | (simp; done) | (simp; omega)); have hc20_2 := fun o => hc20 (qr) o (by first | assumption | omega | (simp; done) | (simp; omega)); have hf20_2 := fun o => hf20 (qr) o (by first | assumption | omega | (simp; done) | (simp; omega)); clear hc20 hf20; have hz20_0 : w.heap.size < w20.heap.size := (by first | exact sz1 hb20 | exact sz2 hb20 | exact sz3 hb20 | (have := hb20.size; (try simp only [World.size_alloc, World.size_drew] at this); omega)); have hz20_1 : qa < w20.heap.size := (by first | exact sz1 hb20 | exact sz2 hb20 | exact sz3 hb20 | (have := hb20.size; (try simp only [World.size_alloc, World.size_drew] at this); omega)); have hz20_2 : qr < w20.heap.size := (by first | exact sz1 hb20 | exact sz2 hb20 | exact sz3 hb20 | (have := hb20.size; (try simp only [World.size_alloc, World.size_drew] at this); omega))))
            have hb2 := Hb2.out
            go_roundw
            case rel => exact ⟨yy + 1, rfl, by omega, by repeat (first | (with_reducible exact Below.refl _ _) | (with_reducible assumption) | (with_reducible refine ba ?_) | (with_reducible refine bd ?_) | (with_reducible refine bdn ?_ _) | (with_reducible refine bset ?_ (by first | exact Nat.le_refl _ | omega | (simp; done) | (simp; omega))) | (with_reducible refine bt ?_ (by with_reducible assumption))), (HF2.out.later hb20).old, (HA2.out.later hb20).old, (HR2.out.later hb20).old⟩
            case measure => simp [intOf]; omega
          · clear kR
            go_wp2
            go_roundw
            case rel => exact ⟨k + 1, by go_num, hlt, Hb2.out, HF2.out, HA2.out⟩
            case measure => simp [intOf]; omega
      · have Hbel := Lib.hid hbel
        clear hbel kF kA
        go_wp2
        go_ret
        exact ⟨rfl, Hbel.out⟩
set_option maxRecDepth 100000 in
set_option maxHeartbeats 12800000 in
theorem one_some (b off cap : Nat) (l : List RuleV) (name : ByteArray) (fr A : OccV) (w : World) (h : Holds w (.slice (some ⟨b, off, none⟩) l.length cap) l) (hb : b < w.heap.size) (hc : Lies w b off 11 (l.map RuleV.cells)) (hl : Lgt.light l = true) (hk : Occ.nextO l name fr = some A) :
    Calls Tryd.prog 5 #[.slice (some ⟨b, off, none⟩) l.length cap, .string name, .agg fr.cells.toArray] w fun e w' => e = .returned (.bool true) ∧ Below w.heap.size w w' := by
  have clv := fun W => lives W
  have cl := fun W (h : Holds W (.slice (some ⟨b, off, none⟩) l.length cap) l) => Lgt.LightH h
  rw [hl] at cl
  have cn := fun W (h : Holds W (.slice (some ⟨b, off, none⟩) l.length cap) l) => NxH.Next h name fr
  have cp := fun W (h : Holds W (.slice (some ⟨b, off, none⟩) l.length cap) l) => NxH.Prev h name fr
  rw [hk] at cn
  obtain ⟨C, G, eC, fC, fC0⟩ := opt_form (Occ.prevO l name fr)
  rw [eC] at cp
  have cls1 := fun W => Cmp.Less C fr W
  have hC : G = true → Occ.less C fr = true ∧ 0 ≤ C.rule ∧ C.rule < l.length := by
    intro hG
    obtain ⟨g1, g2⟩ := Occ.prev_all (fC hG)
    exact ⟨g2, (Occ.all_bd g1).2.2.1, (Occ.all_bd g1).2.2.2⟩
  have cls3 := fun (x : OccV) W => Cmp.Less fr x W
  have hA := Occ.next_all hk
  obtain ⟨i, r, hi, hr, hnm, hR, hy1, hy2, hAe⟩ := hA.1
  have hyb := (Rul.right_spec hR).1
  have cpA := fun W (h : Holds W (.slice (some ⟨b, off, none⟩) l.length cap) l) => NxH.Prev h name A
  obtain ⟨D, M, eD, fD, fD0⟩ := opt_form (Occ.prevO l name A)
  rw [eD] at cpA
  have cls2 := fun W => Cmp.Less fr A W
  rw [hA.2] at cls2
  have hD : M = true → Occ.less fr D = false := fun hM => Occ.next_prev hk (fD hM)
  have cls5 := fun W => Cmp.Less fr D W
  have hGM : G = true → M = true := by
    intro hG
    cases hM : M
    · exact (Occ.prev_there hk (fC hG) (fD0 hM)).elim
    · rfl
  have cls4 := fun (x : OccV) W => Cmp.Less x A W
  have gap := fun (o : OccV) (ho : Occ.All l name l.length o) (h1 : Occ.less fr o = true) (h2 : Occ.less o A = true) => Occ.next_gap hk ho h1 h2
  have hcl : ∀ (j : Nat) (u : Value), r.cells[j]? = some u → w.cell? ⟨b, off + i * 11 + j, none⟩ = some u := fun j u hu => hc i j _ u (by rw [List.getElem?_map, hr]; rfl) hu
  have cm0 := fun W => Nom.Nom r (h.fit r (List.mem_of_getElem? hr)) A.year W
  unfold Nom.nomE at cm0
  rw [if_pos hR, if_neg (by omega)] at cm0
  have eN : A.nom = Occ.nomR r A.year := by rw [hAe]; rfl
  rw [← eN] at cm0
  have eR : A.rule = i := by rw [hAe]; rfl
  obtain ⟨ar, ay, an⟩ := A
  simp only at eR hy1 hy2 cm0
  subst eR
  have hay : -40000 ≤ ay ∧ ay ≤ 40000 := by omega
  have q0 := hcl 0 _ rfl
  have q1 := hcl 1 _ rfl
  have q2 := hcl 2 _ rfl
  have q3 := hcl 3 _ rfl
  have q4 := hcl 4 _ rfl
  have q5 := hcl 5 _ rfl
  have q6 := hcl 6 _ rfl
  have q7 := hcl 7 _ rfl
  have q8 := hcl 8 _ rfl
  have q9 := hcl 9 _ rfl
  have q10 := hcl 10 _ rfl
  simp only [Nat.add_zero] at q0
  have hnq := str_eq hnm
  clear hcl
  have hfit := h.fit
  have hlm := h.len
  have hmem : ∀ (j : Nat) (r2 : RuleV) (y x : Int), l[j]? = some r2 → r2.name = name → Nom.nomE r2 y = (x, 0) → Occ.All l name l.length ⟨j, y, x⟩ := by
    intro j r2 y x h1 h2 h3
    unfold Nom.nomE at h3
    cases hR2 : Rul.right r2
    · rw [hR2, if_neg (by decide)] at h3; exact absurd (congrArg Prod.snd h3) (by simp)
    · rw [hR2, if_pos rfl] at h3
      by_cases hy : y < r2.fr ∨ r2.to < y
      · rw [if_pos hy] at h3; exact absurd (congrArg Prod.snd h3) (by simp)
      · rw [if_neg hy] at h3
        have h4 := congrArg Prod.fst h3
        simp only at h4
        exact ⟨j, r2, (List.getElem?_eq_some_iff.1 h1).1, h1, h2, hR2, by show r2.fr ≤ y; omega, by show y ≤ r2.to; omega, by unfold Occ.occ; rw [h4]⟩
  unfold optV at cn
  try simp only at cn
  unfold OccV.cells at *
  try simp only at cn
  try simp only at cpA
  try simp only at cls2
  try simp only at cls4
  obtain ⟨n, hn⟩ : ∃ n, n = l.length := ⟨_, rfl⟩
  have HH := Lib.hid h
  have Hc := Lib.hid hc
  have Hf := Lib.hid hfit
  have Hm := Lib.hid hmem
  have Cm := Lib.hid (fun (x : RuleV) (hx : x.Fit) (y : Int) W => Nom.Nom x hx y W)
  have C3 := Lib.hid cls3
  have Clv := Lib.hid clv
  have Cl := Lib.hid cl
  have Cn := Lib.hid cn
  have Cp := Lib.hid cp
  have C4 := Lib.hid cls4
  have Gap := Lib.hid gap
  have CpA := Lib.hid cpA
  have Cls2 := Lib.hid cls2
  have Cm0 := Lib.hid cm0
  clear cls4 gap cpA cls2 cm0 eD fD fD0 hA hr hnm hR hAe eN hyb
  clear hc hfit hmem cls3 clv cl cn cp h hl hk eC fC fC0
  rw [← hn] at HH Cl Cn Cp Hm hlm hC hi CpA Gap ⊢
  have HN := Lib.hid hn
  clear hn
  cases G <;> cases M
  case true.false => exact absurd (hGM rfl) (by decide)
  all_goals
    try obtain ⟨hC1, hC2, hC3⟩ := hC rfl
    try rw [hC1] at cls1
    clear hC
    try rw [hD rfl] at cls5
    clear hD hGM
    have Cls5 := Lib.hid cls5
    clear cls5
    have Cls1 := Lib.hid cls1
    clear cls1
    go_enter Tryd.func5, Tryd.ntmps5
    go_upto_region 10 with (first
      | (go_at_call 19; (with_reducible refine (Clv.out _).mono ?_); rintro e w1 ⟨rfl, hb1⟩; obtain ⟨hc1, hf1⟩ := bcell hb1; have hc1_0 := fun o => hc1 (b) o (by first | assumption | omega | (simp; done) | (simp; omega)); have hf1_0 := fun o => hf1 (b) o (by first | assumption | omega | (simp; done) | (simp; omega)); have hc1_1 := fun o => hc1 (w.heap.size) o (by first | assumption | omega | (simp; done) | (simp; omega)); have hf1_1 := fun o => hf1 (w.heap.size) o (by first | assumption | omega | (simp; done) | (simp; omega)); clear hc1 hf1; have hz1_0 : b < w1.heap.size := (by first | exact sz1 hb1 | exact sz2 hb1 | exact sz3 hb1 | (have := hb1.size; (try simp only [World.size_alloc, World.size_drew] at this); omega)); have hz1_1 : w.heap.size < w1.heap.size := (by first | exact sz1 hb1 | exact sz2 hb1 | exact sz3 hb1 | (have := hb1.size; (try simp only [World.size_alloc, World.size_drew] at this); omega)))
      | (go_at_call 10; (with_reducible refine (Cl.out _ ?_).mono ?_); (· exact HH.out.later (by repeat (first | (with_reducible exact Below.refl _ _) | (with_reducible assumption) | (with_reducible refine ba ?_) | (with_reducible refine bd ?_) | (with_reducible refine bdn ?_ _) | (with_reducible refine bset ?_ (by first | exact Nat.le_refl _ | omega | (simp; done) | (simp; omega))) | (with_reducible refine bt ?_ (by with_reducible assumption))))); rintro e w2 ⟨rfl, hb2⟩; obtain ⟨hc2, hf2⟩ := bcell hb2; have hc2_0 := fun o => hc2 (b) o (by first | assumption | omega | (simp; done) | (simp; omega)); have hf2_0 := fun o => hf2 (b) o (by first | assumption | omega | (simp; done) | (simp; omega)); have hc2_1 := fun o => hc2 (w.heap.size) o (by first | assumption | omega | (simp; done) | (simp; omega)); have hf2_1 := fun o => hf2 (w.heap.size) o (by first | assumption | omega | (simp; done) | (simp; omega)); clear hc2 hf2; have hz2_0 : b < w2.heap.size := (by first | exact sz1 hb2 | exact sz2 hb2 | exact sz3 hb2 | (have := hb2.size; (try simp only [World.size_alloc, World.size_drew] at this); omega)); have hz2_1 : w.heap.size < w2.heap.size := (by first | exact sz1 hb2 | exact sz2 hb2 | exact sz3 hb2 | (have := hb2.size; (try simp only [World.size_alloc, World.size_drew] at this); omega)))
      | (go_at_call 20; (with_reducible refine (Cn.out _ ?_).mono ?_); (· exact HH.out.later (by repeat (first | (with_reducible exact Below.refl _ _) | (with_reducible assumption) | (with_reducible refine ba ?_) | (with_reducible refine bd ?_) | (with_reducible refine bdn ?_ _) | (with_reducible refine bset ?_ (by first | exact Nat.le_refl _ | omega | (simp; done) | (simp; omega))) | (with_reducible refine bt ?_ (by with_reducible assumption))))); rintro e w3 ⟨rfl, hb3⟩; obtain ⟨hc3, hf3⟩ := bcell hb3; have hc3_0 := fun o => hc3 (b) o (by first | assumption | omega | (simp; done) | (simp; omega)); have hf3_0 := fun o => hf3 (b) o (by first | assumption | omega | (simp; done) | (simp; omega)); have hc3_1 := fun o => hc3 (w.heap.size) o (by first | assumption | omega | (simp; done) | (simp; omega)); have hf3_1 := fun o => hf3 (w.heap.size) o (by first | assumption | omega | (simp; done) | (simp; omega)); clear hc3 hf3; have hz3_0 : b < w3.heap.size := (by first | exact sz1 hb3 | exact sz2 hb3 | exact sz3 hb3 | (have := hb3.size; (try simp only [World.size_alloc, World.size_drew] at this); omega)); have hz3_1 : w.heap.size < w3.heap.size := (by first | exact sz1 hb3 | exact sz2 hb3 | exact sz3 hb3 | (have := hb3.size; (try simp only [World.size_alloc, World.size_drew] at this); omega)))
      | (go_at_call 21; (with_reducible refine (Cp.out _ ?_).mono ?_); (· exact HH.out.later (by repeat (first | (with_reducible exact Below.refl _ _) | (with_reducible assumption) | (with_reducible refine ba ?_) | (with_reducible refine bd ?_) | (with_reducible refine bdn ?_ _) | (with_reducible refine bset ?_ (by first | exact Nat.le_refl _ | omega | (simp; done) | (simp; omega))) | (with_reducible refine bt ?_ (by with_reducible assumption))))); rintro e w4 ⟨rfl, hb4⟩; obtain ⟨hc4, hf4⟩ := bcell hb4; have hc4_0 := fun o => hc4 (b) o (by first | assumption | omega | (simp; done) | (simp; omega)); have hf4_0 := fun o => hf4 (b) o (by first | assumption | omega | (simp; done) | (simp; omega)); have hc4_1 := fun o => hc4 (w.heap.size) o (by first | assumption | omega | (simp; done) | (simp; omega)); have hf4_1 := fun o => hf4 (w.heap.size) o (by first | assumption | omega | (simp; done) | (simp; omega)); have hc4_2 := fun o => hc4 (w3.heap.size) o (by first | assumption | omega | (simp; done) | (simp; omega)); have hf4_2 := fun o => hf4 (w3.heap.size) o (by first | assumption | omega | (simp; done) | (simp; omega)); clear hc4 hf4; have hz4_0 : b < w4.heap.size := (by first | exact sz1 hb4 | exact sz2 hb4 | exact sz3 hb4 | (have := hb4.size; (try simp only [World.size_alloc, World.size_drew] at this); omega)); have hz4_1 : w.heap.size < w4.heap.size := (by first | exact sz1 hb4 | exact sz2 hb4 | exact sz3 hb4 | (have := hb4.size; (try simp only [World.size_alloc, World.size_drew] at this); omega)); have hz4_2 : w3.heap.size < w4.heap.size := (by first | exact sz1 hb4 | exact sz2 hb4 | exact sz3 hb4 | (have := hb4.size; (try simp only [World.size_alloc, World.size_drew] at this); omega)))
      | (go_at_call 22; (with_reducible refine (Cls1.out _).mono ?_); rintro e w5 ⟨rfl, hb5⟩; obtain ⟨hc5, hf5⟩ := bcell hb5; have hc5_0 := fun o => hc5 (b) o (by first | assumption | omega | (simp; done) | (simp; omega)); have hf5_0 := fun o => hf5 (b) o (by first | assumption | omega | (simp; done) | (simp; omega)); have hc5_1 := fun o => hc5 (w.heap.size) o (by first | assumption | omega | (simp; done) | (simp; omega)); have hf5_1 := fun o => hf5 (w.heap.size) o (by first | assumption | omega | (simp; done) | (simp; omega)); have hc5_2 := fun o => hc5 (w3.heap.size) o (by first | assumption | omega | (simp; done) | (simp; omega)); have hf5_2 := fun o => hf5 (w3.heap.size) o (by first | assumption | omega | (simp; done) | (simp; omega)); have hc5_3 := fun o => hc5 (w4.heap.size) o (by first | assumption | omega | (simp; done) | (simp; omega)); have hf5_3 := fun o => hf5 (w4.heap.size) o (by first | assumption | omega | (simp; done) | (simp; omega)); clear hc5 hf5; have hz5_0 : b < w5.heap.size := (by first | exact sz1 hb5 | exact sz2 hb5 | exact sz3 hb5 | (have := hb5.size; (try simp only [World.size_alloc, World.size_drew] at this); omega)); have hz5_1 : w.heap.size < w5.heap.size := (by first | exact sz1 hb5 | exact sz2 hb5 | exact sz3 hb5 | (have := hb5.size; (try simp only [World.size_alloc, World.size_drew] at this); omega)); have hz5_2 : w3.heap.size < w5.heap.size := (by first | exact sz1 hb5 | exact sz2 hb5 | exact sz3 hb5 | (have := hb5.size; (try simp only [World.size_alloc, World.size_drew] at this); omega)); have hz5_3 : w4.heap.size < w5.heap.size := (by first | exact sz1 hb5 | exact sz2 hb5 | exact sz3 hb5 | (have := hb5.size; (try simp only [World.size_alloc, World.size_drew] at this); omega)))
      | (go_at_call 22; (with_reducible refine (Cls2.out _).mono ?_); rintro e w6 ⟨rfl, hb6⟩; obtain ⟨hc6, hf6⟩ := bcell hb6; have hc6_0 := fun o => hc6 (b) o (by first | assumption | omega | (simp; done) | (simp; omega)); have hf6_0 := fun o => hf6 (b) o (by first | assumption | omega | (simp; done) | (simp; omega)); have hc6_1 := fun o => hc6 (w.heap.size) o (by first | assumption | omega | (simp; done) | (simp; omega)); have hf6_1 := fun o => hf6 (w.heap.size) o (by first | assumption | omega | (simp; done) | (simp; omega)); have hc6_2 := fun o => hc6 (w3.heap.size) o (by first | assumption | omega | (simp; done) | (simp; omega)); have hf6_2 := fun o => hf6 (w3.heap.size) o (by first | assumption | omega | (simp; done) | (simp; omega)); have hc6_3 := fun o => hc6 (w4.heap.size) o (by first | assumption | omega | (simp; done) | (simp; omega)); have hf6_3 := fun o => hf6 (w4.heap.size) o (by first | assumption | omega | (simp; done) | (simp; omega)); clear hc6 hf6; have hz6_0 : b < w6.heap.size := (by first | exact sz1 hb6 | exact sz2 hb6 | exact sz3 hb6 | (have := hb6.size; (try simp only [World.size_alloc, World.size_drew] at this); omega)); have hz6_1 : w.heap.size < w6.heap.size := (by first | exact sz1 hb6 | exact sz2 hb6 | exact sz3 hb6 | (have := hb6.size; (try simp only [World.size_alloc, World.size_drew] at this); omega)); have hz6_2 : w3.heap.size < w6.heap.size := (by first | exact sz1 hb6 | exact sz2 hb6 | exact sz3 hb6 | (have := hb6.size; (try simp only [World.size_alloc, World.size_drew] at this); omega)); have hz6_3 : w4.heap.size < w6.heap.size := (by first | exact sz1 hb6 | exact sz2 hb6 | exact sz3 hb6 | (have := hb6.size; (try simp only [World.size_alloc, World.size_drew] at this); omega))))
    first
      | (clear hc5_0; obtain ⟨Y, hY⟩ : ∃ Y, Y = w5 := ⟨_, rfl⟩)
      | (clear hc6_0; obtain ⟨Y, hY⟩ : ∃ Y, Y = w6 := ⟨_, rfl⟩)
    have hBY : Below w.heap.size w Y := by rw [hY]; repeat (first | (with_reducible exact Below.refl _ _) | (with_reducible assumption) | (with_reducible refine ba ?_) | (with_reducible refine bd ?_) | (with_reducible refine bdn ?_ _) | (with_reducible refine bset ?_ (by first | exact Nat.le_refl _ | omega | (simp; done) | (simp; omega))) | (with_reducible refine bt ?_ (by with_reducible assumption)))
    have mF : Box Y w.heap.size #[.int .i64 fr.rule, .int .i64 fr.year, .int .i64 fr.nom] 41 := by rw [hY]; repeat (first | (with_reducible assumption) | (with_reducible exact Box.new _ _ _) | (with_reducible refine Box.old ?_) | (with_reducible refine Box.drew ?_) | (with_reducible refine Box.drewN ?_ _) | (with_reducible refine Box.other ?_ (by first | assumption | omega | (simp; omega))) | (with_reducible refine Box.later ?_ (by with_reducible assumption)))
    have mA : Box Y w3.heap.size #[.int .i64 (i : Int), .int .i64 ay, .int .i64 an] 41 := by rw [hY]; repeat (first | (with_reducible assumption) | (with_reducible exact Box.new _ _ _) | (with_reducible refine Box.old ?_) | (with_reducible refine Box.drew ?_) | (with_reducible refine Box.drewN ?_ _) | (with_reducible refine Box.other ?_ (by first | assumption | omega | (simp; omega))) | (with_reducible refine Box.later ?_ (by with_reducible assumption)))
    rw [← hY]
    clear hY hb1 hb2 hb3 hb4 hb6
    try clear hb5
    generalize w3.heap.size = qa at *
    have hq : ∀ j u, w.cell? ⟨b, off + i * 11 + j, none⟩ = some u → Y.cell? ⟨b, off + i * 11 + j, none⟩ = some u := fun j u h => (hBY.cell (p := ⟨b, off + i * 11 + j, none⟩) hb).trans h
    have x0 := hq 0 _ (by simpa using q0)
    have x1 := hq 1 _ q1
    have x2 := hq 2 _ q2
    have x3 := hq 3 _ q3
    have x4 := hq 4 _ q4
    have x5 := hq 5 _ q5
    have x6 := hq 6 _ q6
    have x7 := hq 7 _ q7
    have x8 := hq 8 _ q8
    have x9 := hq 9 _ q9
    have x10 := hq 10 _ q10
    simp only [Nat.add_zero] at x0
    clear hq q0 q1 q2 q3 q4 q5 q6 q7 q8 q9 q10
    have gF := mF.lt
    have gA := mA.lt
    have gb : b < Y.heap.size := Nat.lt_of_lt_of_le hb hBY.size
    have aF := mF.cell
    have aA := mA.cell
    have HBY := Lib.hid hBY
    have HMF := Lib.hid mF
    have HMA := Lib.hid mA
    clear hBY mF mA
    (refine region_later (by kernel_rfl) (by kernel_rfl) ?_; (repeat (go_big_quiet_step (first | (go_at_call 23; rename_i xL; apply calls_later xL (Nat.le_refl _); exact (Cm0.out _))))); refine wpQuiet_nil ?_; rintro _ ⟨⟨u10, hu10⟩, rfl⟩)
    clear x0 x1 x2 x3 x4 x5 x6 x7 x8 x9 x10 aF aA
    have mF2 := HMF.out.later hu10
    have mA2 := HMA.out.later hu10
    have aF := mF2.cell
    have aA := mA2.cell
    have gF2 := mF2.lt
    have gA2 := mA2.lt
    have HMF2 := Lib.hid mF2
    have HMA2 := Lib.hid mA2
    have HB10 := Lib.hid (bt HBY.out hu10)
    clear mF2 mA2
    go_upto_region 15 with (first
      | (go_at_call 21; (with_reducible refine (CpA.out _ ?_).mono ?_); (· exact HH.out.later (bt HB10.out (by repeat (first | (with_reducible exact Below.refl _ _) | (with_reducible assumption) | (with_reducible refine ba ?_) | (with_reducible refine bd ?_) | (with_reducible refine bdn ?_ _) | (with_reducible refine bset ?_ (by first | exact Nat.le_refl _ | omega | (simp; done) | (simp; omega))) | (with_reducible refine bt ?_ (by with_reducible assumption)))))); rintro e w8 ⟨rfl, hb8⟩; obtain ⟨hc8, hf8⟩ := bcell hb8; have hc8_0 := fun o => hc8 (w.heap.size) o (by first | assumption | omega | (simp; done) | (simp; omega)); have hf8_0 := fun o => hf8 (w.heap.size) o (by first | assumption | omega | (simp; done) | (simp; omega)); have hc8_1 := fun o => hc8 (qa) o (by first | assumption | omega | (simp; done) | (simp; omega)); have hf8_1 := fun o => hf8 (qa) o (by first | assumption | omega | (simp; done) | (simp; omega)); clear hc8 hf8; have hz8_0 : w.heap.size < w8.heap.size := (by first | exact sz1 hb8 | exact sz2 hb8 | exact sz3 hb8 | (have := hb8.size; (try simp only [World.size_alloc, World.size_drew] at this); omega)); have hz8_1 : qa < w8.heap.size := (by first | exact sz1 hb8 | exact sz2 hb8 | exact sz3 hb8 | (have := hb8.size; (try simp only [World.size_alloc, World.size_drew] at this); omega)))
      | (go_at_call 22; (with_reducible refine (Cls5.out _).mono ?_); rintro e w9 ⟨rfl, hb9⟩; obtain ⟨hc9, hf9⟩ := bcell hb9; have hc9_0 := fun o => hc9 (w.heap.size) o (by first | assumption | omega | (simp; done) | (simp; omega)); have hf9_0 := fun o => hf9 (w.heap.size) o (by first | assumption | omega | (simp; done) | (simp; omega)); have hc9_1 := fun o => hc9 (qa) o (by first | assumption | omega | (simp; done) | (simp; omega)); have hf9_1 := fun o => hf9 (qa) o (by first | assumption | omega | (simp; done) | (simp; omega)); have hc9_2 := fun o => hc9 (w8.heap.size) o (by first | assumption | omega | (simp; done) | (simp; omega)); have hf9_2 := fun o => hf9 (w8.heap.size) o (by first | assumption | omega | (simp; done) | (simp; omega)); clear hc9 hf9; have hz9_0 : w.heap.size < w9.heap.size := (by first | exact sz1 hb9 | exact sz2 hb9 | exact sz3 hb9 | (have := hb9.size; (try simp only [World.size_alloc, World.size_drew] at this); omega)); have hz9_1 : qa < w9.heap.size := (by first | exact sz1 hb9 | exact sz2 hb9 | exact sz3 hb9 | (have := hb9.size; (try simp only [World.size_alloc, World.size_drew] at this); omega)); have hz9_2 : w8.heap.size < w9.heap.size := (by first | exact sz1 hb9 | exact sz2 hb9 | exact sz3 hb9 | (have := hb9.size; (try simp only [World.size_alloc, World.size_drew] at this); omega))))
    first
      | (clear hc9_0; obtain ⟨X, hX⟩ : ∃ X, X = w9 := ⟨_, rfl⟩)
      | (obtain ⟨X, hX⟩ : ∃ X, X = w8.alloc (.cells #[.int .i64 D.rule, .int .i64 D.year, .int .i64 D.nom] 41) := ⟨_, rfl⟩)
    have hB10 := HB10.out
    have hMF2 := HMF2.out
    have hMA2 := HMA2.out
    have hBX : Below w.heap.size w X := by rw [hX]; repeat (first | (with_reducible exact Below.refl _ _) | (with_reducible assumption) | (with_reducible refine ba ?_) | (with_reducible refine bd ?_) | (with_reducible refine bdn ?_ _) | (with_reducible refine bset ?_ (by first | exact Nat.le_refl _ | omega | (simp; done) | (simp; omega))) | (with_reducible refine bt ?_ (by with_reducible assumption)))
    have kF : Box X w.heap.size #[.int .i64 fr.rule, .int .i64 fr.year, .int .i64 fr.nom] 41 := by rw [hX]; repeat (first | (with_reducible assumption) | (with_reducible exact Box.new _ _ _) | (with_reducible refine Box.old ?_) | (with_reducible refine Box.drew ?_) | (with_reducible refine Box.drewN ?_ _) | (with_reducible refine Box.other ?_ (by first | assumption | omega | (simp; omega))) | (with_reducible refine Box.later ?_ (by with_reducible assumption)))
    have kA : Box X qa #[.int .i64 (i : Int), .int .i64 ay, .int .i64 an] 41 := by rw [hX]; repeat (first | (with_reducible assumption) | (with_reducible exact Box.new _ _ _) | (with_reducible refine Box.old ?_) | (with_reducible refine Box.drew ?_) | (with_reducible refine Box.drewN ?_ _) | (with_reducible refine Box.other ?_ (by first | assumption | omega | (simp; omega))) | (with_reducible refine Box.later ?_ (by with_reducible assumption)))
    rw [← hX]
    clear hX
    have HBX := Lib.hid hBX
    have HKF := Lib.hid kF
    have HKA := Lib.hid kA
    clear hBX kF kA
    go_loopw [134] (fun z wr => ∃ k : Nat, z = .int .i64 k ∧ k ≤ n ∧ Below w.heap.size w wr ∧ Box wr w.heap.size #[.int .i64 fr.rule, .int .i64 fr.year, .int .i64 fr.nom] 41 ∧ Box wr qa #[.int .i64 (i : Int), .int .i64 ay, .int .i64 an] 41) (fun z _ => n - (intOf z).toNat)
    case atStart => exact ⟨0, rfl, Nat.zero_le _, HBX.out, HKF.out, HKA.out⟩
    case round =>
      obtain ⟨k, rfl, hk, hbel, kF, kA⟩ := hrel
      by_cases hlt : k < n
      · obtain ⟨r2, hr2⟩ : ∃ r2, l[k]? = some r2 := ⟨l[k]'(by rw [← HN.out]; exact hlt), by simp⟩
        have hft2 := Hf.out r2 (List.mem_of_getElem? hr2)
        have cm := fun (y : Int) W => Cm.out r2 hft2 y W
        have hcl : ∀ (j : Nat) (u : Value), r2.cells[j]? = some u → wr.cell? ⟨b, off + k * 11 + j, none⟩ = some u := fun j u hu => (hbel.cell (p := ⟨b, off + k * 11 + j, none⟩) hb).trans (Hc.out k j _ u (by rw [List.getElem?_map, hr2]; rfl) hu)
        have d0 := hcl 0 _ rfl
        have d1 := hcl 1 _ rfl
        have d2 := hcl 2 _ rfl
        have d3 := hcl 3 _ rfl
        have d4 := hcl 4 _ rfl
        have d5 := hcl 5 _ rfl
        have d6 := hcl 6 _ rfl
        have d7 := hcl 7 _ rfl
        have d8 := hcl 8 _ rfl
        have d9 := hcl 9 _ rfl
        have d10 := hcl 10 _ rfl
        simp only [Nat.add_zero] at d0
        unfold RuleV.cells at cm
        have Cmm := Lib.hid cm
        have Hr2 := Lib.hid hr2
        have Hbel := Lib.hid hbel
        have HF := Lib.hid kF
        have HA := Lib.hid kA
        have a1 := kA.cell 1
        have la := kA.lt
        have lf := kF.lt
        clear hcl hbel kF kA cm hr2 hft2
        go_wp2
        clear d0 d1 d2 d3 d4 d5 d6 d7 d8 d9 d10 a1
        obtain ⟨V, hV⟩ : ∃ V, V = wr.alloc (.cells #[.string r2.name, .int .i64 r2.fr, .int .i64 r2.to, .int .i64 r2.month, .int .i64 r2.kind, .int .i64 r2.week, .int .i64 r2.day, .int .i64 r2.sec, .int .i64 r2.base, .int .i64 r2.save, .string r2.letter] 27) := ⟨_, rfl⟩
        have kR : Box V wr.heap.size #[.string r2.name, .int .i64 r2.fr, .int .i64 r2.to, .int .i64 r2.month, .int .i64 r2.kind, .int .i64 r2.week, .int .i64 r2.day, .int .i64 r2.sec, .int .i64 r2.base, .int .i64 r2.save, .string r2.letter] 27 := by rw [hV]; exact Box.new _ _ _
        have hBV : Below w.heap.size w V := by rw [hV]; exact ba Hbel.out
        have kF2 : Box V w.heap.size #[.int .i64 fr.rule, .int .i64 fr.year, .int .i64 fr.nom] 41 := by rw [hV]; exact HF.out.old
        have kA2 : Box V qa #[.int .i64 (i : Int), .int .i64 ay, .int .i64 an] 41 := by rw [hV]; exact HA.out.old
        rw [← hV]
        clear hV
        generalize wr.heap.size = qr at *
        go_loopw [17] (fun z wr => ∃ yy : Int, z = .int .i64 yy ∧ (ay - 2 ≤ yy ∧ yy ≤ ay + 2) ∧ Below w.heap.size w wr ∧ Box wr w.heap.size #[.int .i64 fr.rule, .int .i64 fr.year, .int .i64 fr.nom] 41 ∧ Box wr qa #[.int .i64 (i : Int), .int .i64 ay, .int .i64 an] 41 ∧ Box wr qr #[.string r2.name, .int .i64 r2.fr, .int .i64 r2.to, .int .i64 r2.month, .int .i64 r2.kind, .int .i64 r2.week, .int .i64 r2.day, .int .i64 r2.sec, .int .i64 r2.base, .int .i64 r2.save, .string r2.letter] 27) (fun z _ => (ay + 2 - intOf z).toNat)
        case atStart => exact ⟨_, rfl, by omega, hBV, kF2, kA2, kR⟩
        case round =>
          clear hBV kF2 kA2 kR
          obtain ⟨yy, rfl, hyy, hb2, kF2, kA2, kR⟩ := hrel
          have a1 := kA2.cell
          have lA := kA2.lt
          have lF := kF2.lt
          have lR := kR.lt
          have Hb2 := Lib.hid hb2
          have HF2 := Lib.hid kF2
          have HA2 := Lib.hid kA2
          have HR2 := Lib.hid kR
          by_cases hyl : yy ≤ ay + 1
          · have r := kR.cell
            have cN := fun W => Cmm.out yy W
            obtain ⟨x, e, hxe⟩ : ∃ x e, Nom.nomE r2 yy = (x, e) := ⟨_, _, rfl⟩
            rw [hxe] at cN
            simp only at cN
            have CN := Lib.hid cN
            clear cN hb2 kF2 kA2 kR
            have f1 := HF2.out.cell
            have c3 := C3.out ⟨k, yy, x⟩
            have c4 := C4.out ⟨k, yy, x⟩
            have hgp := fun h1 h2 => Gap.out ⟨k, yy, x⟩ (Hm.out k r2 yy x Hr2.out h1 h2)
            obtain ⟨b1, hb1'⟩ : ∃ z, z = Occ.less fr ⟨k, yy, x⟩ := ⟨_, rfl⟩
            obtain ⟨b2, hb2'⟩ : ∃ z, z = Occ.less ⟨k, yy, x⟩ ⟨i, ay, an⟩ := ⟨_, rfl⟩
            have hgp2 : r2.name = name → e = 0 → b1 = true → b2 = true → False := by
              intro g1 g2 g3 g4
              subst g2
              exact hgp g1 hxe (by rw [← hb1']; exact g3) (by rw [← hb2']; exact g4)
            rw [← hb1'] at c3
            rw [← hb2'] at c4
            try simp only at c3
            try simp only at c4
            have D3 := Lib.hid c3
            have D4 := Lib.hid c4
            clear c3 c4 hgp hb1' hb2' hxe
            by_cases hnm2 : r2.name = name
            · have hq2 := str_eq hnm2
              by_cases he : e = 0
              · have hgp3 := hgp2 hnm2 he
                clear hgp2 hnm2
                subst he
                cases b1 <;> cases b2
                case true.true => exact (hgp3 rfl rfl).elim
                all_goals
                  clear hgp3
                  go_wp2_with (first
                    | (go_at_call 23; (with_reducible refine (CN.out _).mono ?_); rintro e w20 ⟨rfl, hb20⟩; obtain ⟨hc20, hf20⟩ := bcell hb20; have hc20_0 := fun o => hc20 (w.heap.size) o (by first | assumption | omega | (simp; done) | (simp; omega)); have hf20_0 := fun o => hf20 (w.heap.size) o (by first | assumption | omega | (simp; done) | (simp; omega)); have hc20_1 := fun o => hc20 (qa) o (by first | assumption | omega | (simp; done) | (simp; omega)); have hf20_1 := fun o => hf20 (qa) o (by first | assumption | omega | (simp; done) | (simp; omega)); have hc20_2 := fun o => hc20 (qr) o (by first | assumption | omega | (simp; done) | (simp; omega)); have hf20_2 := fun o => hf20 (qr) o (by first | assumption | omega | (simp; done) | (simp; omega)); clear hc20 hf20; have hz20_0 : w.heap.size < w20.heap.size := (by first | exact sz1 hb20 | exact sz2 hb20 | exact sz3 hb20 | (have := hb20.size; (try simp only [World.size_alloc, World.size_drew] at this); omega)); have hz20_1 : qa < w20.heap.size := (by first | exact sz1 hb20 | exact sz2 hb20 | exact sz3 hb20 | (have := hb20.size; (try simp only [World.size_alloc, World.size_drew] at this); omega)); have hz20_2 : qr < w20.heap.size := (by first | exact sz1 hb20 | exact sz2 hb20 | exact sz3 hb20 | (have := hb20.size; (try simp only [World.size_alloc, World.size_drew] at this); omega)))
                    | (go_at_call 22; (with_reducible refine (D3.out _).mono ?_); rintro e w21 ⟨rfl, hb21⟩; obtain ⟨hc21, hf21⟩ := bcell hb21; have hc21_0 := fun o => hc21 (w.heap.size) o (by first | assumption | omega | (simp; done) | (simp; omega)); have hf21_0 := fun o => hf21 (w.heap.size) o (by first | assumption | omega | (simp; done) | (simp; omega)); have hc21_1 := fun o => hc21 (qa) o (by first | assumption | omega | (simp; done) | (simp; omega)); have hf21_1 := fun o => hf21 (qa) o (by first | assumption | omega | (simp; done) | (simp; omega)); have hc21_2 := fun o => hc21 (w20.heap.size) o (by first | assumption | omega | (simp; done) | (simp; omega)); have hf21_2 := fun o => hf21 (w20.heap.size) o (by first | assumption | omega | (simp; done) | (simp; omega)); clear hc21 hf21; have hz21_0 : w.heap.size < w21.heap.size := (by first | exact sz1 hb21 | exact sz2 hb21 | exact sz3 hb21 | (have := hb21.size; (try simp only [World.size_alloc, World.size_drew] at this); omega)); have hz21_1 : qa < w21.heap.size := (by first | exact sz1 hb21 | exact sz2 hb21 | exact sz3 hb21 | (have := hb21.size; (try simp only [World.size_alloc, World.size_drew] at this); omega)); have hz21_2 : w20.heap.size < w21.heap.size := (by first | exact sz1 hb21 | exact sz2 hb21 | exact sz3 hb21 | (have := hb21.size; (try simp only [World.size_alloc, World.size_drew] at this); omega)))
                    | (go_at_call 22; (with_reducible refine (D4.out _).mono ?_); rintro e w22 ⟨rfl, hb22⟩; obtain ⟨hc22, hf22⟩ := bcell hb22; have hc22_0 := fun o => hc22 (w.heap.size) o (by first | assumption | omega | (simp; done) | (simp; omega)); have hf22_0 := fun o => hf22 (w.heap.size) o (by first | assumption | omega | (simp; done) | (simp; omega)); have hc22_1 := fun o => hc22 (qa) o (by first | assumption | omega | (simp; done) | (simp; omega)); have hf22_1 := fun o => hf22 (qa) o (by first | assumption | omega | (simp; done) | (simp; omega)); have hc22_2 := fun o => hc22 (w20.heap.size) o (by first | assumption | omega | (simp; done) | (simp; omega)); have hf22_2 := fun o => hf22 (w20.heap.size) o (by first | assumption | omega | (simp; done) | (simp; omega)); clear hc22 hf22; have hz22_0 : w.heap.size < w22.heap.size := (by first | exact sz1 hb22 | exact sz2 hb22 | exact sz3 hb22 | (have := hb22.size; (try simp only [World.size_alloc, World.size_drew] at this); omega)); have hz22_1 : qa < w22.heap.size := (by first | exact sz1 hb22 | exact sz2 hb22 | exact sz3 hb22 | (have := hb22.size; (try simp only [World.size_alloc, World.size_drew] at this); omega)); have hz22_2 : w20.heap.size < w22.heap.size := (by first | exact sz1 hb22 | exact sz2 hb22 | exact sz3 hb22 | (have := hb22.size; (try simp only [World.size_alloc, World.size_drew] at this); omega))))
                  have hb2 := Hb2.out
                  go_roundw
                  case rel => exact ⟨yy + 1, rfl, by omega, by repeat (first | (with_reducible exact Below.refl _ _) | (with_reducible assumption) | (with_reducible refine ba ?_) | (with_reducible refine bd ?_) | (with_reducible refine bdn ?_ _) | (with_reducible refine bset ?_ (by first | exact Nat.le_refl _ | omega | (simp; done) | (simp; omega))) | (with_reducible refine bt ?_ (by with_reducible assumption))), by have h1 := HF2.out; repeat (first | (with_reducible assumption) | (with_reducible exact Box.new _ _ _) | (with_reducible refine Box.old ?_) | (with_reducible refine Box.drew ?_) | (with_reducible refine Box.drewN ?_ _) | (with_reducible refine Box.other ?_ (by first | assumption | omega | (simp; omega))) | (with_reducible refine Box.later ?_ (by with_reducible assumption))), by have h1 := HA2.out; repeat (first | (with_reducible assumption) | (with_reducible exact Box.new _ _ _) | (with_reducible refine Box.old ?_) | (with_reducible refine Box.drew ?_) | (with_reducible refine Box.drewN ?_ _) | (with_reducible refine Box.other ?_ (by first | assumption | omega | (simp; omega))) | (with_reducible refine Box.later ?_ (by with_reducible assumption))), by have h1 := HR2.out; repeat (first | (with_reducible assumption) | (with_reducible exact Box.new _ _ _) | (with_reducible refine Box.old ?_) | (with_reducible refine Box.drew ?_) | (with_reducible refine Box.drewN ?_ _) | (with_reducible refine Box.other ?_ (by first | assumption | omega | (simp; omega))) | (with_reducible refine Box.later ?_ (by with_reducible assumption)))⟩
                  case measure => simp [intOf]; omega
              · clear hgp2 hnm2
                go_wp2_with (first
                  | (go_at_call 23; (with_reducible refine (CN.out _).mono ?_); rintro e w20 ⟨rfl, hb20⟩; obtain ⟨hc20, hf20⟩ := bcell hb20; have hc20_0 := fun o => hc20 (w.heap.size) o (by first | assumption | omega | (simp; done) | (simp; omega)); have hf20_0 := fun o => hf20 (w.heap.size) o (by first | assumption | omega | (simp; done) | (simp; omega)); have hc20_1 := fun o => hc20 (qa) o (by first | assumption | omega | (simp; done) | (simp; omega)); have hf20_1 := fun o => hf20 (qa) o (by first | assumption | omega | (simp; done) | (simp; omega)); have hc20_2 := fun o => hc20 (qr) o (by first | assumption | omega | (simp; done) | (simp; omega)); have hf20_2 := fun o => hf20 (qr) o (by first | assumption | omega | (simp; done) | (simp; omega)); clear hc20 hf20; have hz20_0 : w.heap.size < w20.heap.size := (by first | exact sz1 hb20 | exact sz2 hb20 | exact sz3 hb20 | (have := hb20.size; (try simp only [World.size_alloc, World.size_drew] at this); omega)); have hz20_1 : qa < w20.heap.size := (by first | exact sz1 hb20 | exact sz2 hb20 | exact sz3 hb20 | (have := hb20.size; (try simp only [World.size_alloc, World.size_drew] at this); omega)); have hz20_2 : qr < w20.heap.size := (by first | exact sz1 hb20 | exact sz2 hb20 | exact sz3 hb20 | (have := hb20.size; (try simp only [World.size_alloc, World.size_drew] at this); omega))))
                have hb2 := Hb2.out
                go_roundw
                case rel => exact ⟨yy + 1, rfl, by omega, by repeat (first | (with_reducible exact Below.refl _ _) | (with_reducible assumption) | (with_reducible refine ba ?_) | (with_reducible refine bd ?_) | (with_reducible refine bdn ?_ _) | (with_reducible refine bset ?_ (by first | exact Nat.le_refl _ | omega | (simp; done) | (simp; omega))) | (with_reducible refine bt ?_ (by with_reducible assumption))), (HF2.out.later hb20).old, (HA2.out.later hb20).old, (HR2.out.later hb20).old⟩
                case measure => simp [intOf]; omega
            · have hq2 := str_ne hnm2
              clear hgp2 hnm2
              go_wp2_with (first
                | (go_at_call 23; (with_reducible refine (CN.out _).mono ?_); rintro e w20 ⟨rfl, hb20⟩; obtain ⟨hc20, hf20⟩ := bcell hb20; have hc20_0 := fun o => hc20 (w.heap.size) o (by first | assumption | omega | (simp; done) | (simp; omega)); have hf20_0 := fun o => hf20 (w.heap.size) o (by first | assumption | omega | (simp; done) | (simp; omega)); have hc20_1 := fun o => hc20 (qa) o (by first | assumption | omega | (simp; done) | (simp; omega)); have hf20_1 := fun o => hf20 (qa) o (by first | assumption | omega | (simp; done) | (simp; omega)); have hc20_2 := fun o => hc20 (qr) o (by first | assumption | omega | (simp; done) | (simp; omega)); have hf20_2 := fun o => hf20 (qr) o (by first | assumption | omega | (simp; done) | (simp; omega)); clear hc20 hf20; have hz20_0 : w.heap.size < w20.heap.size := (by first | exact sz1 hb20 | exact sz2 hb20 | exact sz3 hb20 | (have := hb20.size; (try simp only [World.size_alloc, World.size_drew] at this); omega)); have hz20_1 : qa < w20.heap.size := (by first | exact sz1 hb20 | exact sz2 hb20 | exact sz3 hb20 | (have := hb20.size; (try simp only [World.size_alloc, World.size_drew] at this); omega)); have hz20_2 : qr < w20.heap.size := (by first | exact sz1 hb20 | exact sz2 hb20 | exact sz3 hb20 | (have := hb20.size; (try simp only [World.size_alloc, World.size_drew] at this); omega))))
              have hb2 := Hb2.out
              go_roundw
              case rel => exact ⟨yy + 1, rfl, by omega, by repeat (first | (with_reducible exact Below.refl _ _) | (with_reducible assumption) | (with_reducible refine ba ?_) | (with_reducible refine bd ?_) | (with_reducible refine bdn ?_ _) | (with_reducible refine bset ?_ (by first | exact Nat.le_refl _ | omega | (simp; done) | (simp; omega))) | (with_reducible refine bt ?_ (by with_reducible assumption))), (HF2.out.later hb20).old, (HA2.out.later hb20).old, (HR2.out.later hb20).old⟩
              case measure => simp [intOf]; omega
          · clear kR
            go_wp2
            go_roundw
            case rel => exact ⟨k + 1, by go_num, hlt, Hb2.out, HF2.out, HA2.out⟩
            case measure => simp [intOf]; omega
      · have Hbel := Lib.hid hbel
        clear hbel kF kA
        go_wp2
        go_ret
        exact ⟨rfl, Hbel.out⟩
theorem oneW (v : Value) (l : List RuleV) (name : ByteArray) (fr : OccV) (w : World) (h : Holds w v l) (_ : name.size ≤ 9223372036854775807) (_ : fr.Fit) :
    Calls Tryd.prog 5 #[v, .string name, .agg fr.cells.toArray] w fun e w' => e = .returned (.bool true) ∧ Below w.heap.size w w' := by
  cases hl : Lgt.light l
  · exact light_no v l name fr w h hl
  have h' := h
  rcases h.lies with ⟨p, cap, rfl, rfl⟩ | ⟨b, off, cap, rfl, h2, h3⟩
  · exact one_nil p cap name fr w h'
  · cases hk : Occ.nextO l name fr with
    | none => exact one_none b off cap l name fr w h' h2 h3 hl hk
    | some A => exact one_some b off cap l name fr A w h' h2 h3 hl hk
end L25
end Go.Proofs.YtopdjebnfhfpcaaDoor
