/-
  noontidelaw27.ApartHolds: the walk, second part.
-/
import Derived.Test.YtopdjebnfhfpcaaDoorHolds27
namespace Go.Proofs.YtopdjebnfhfpcaaDoor
open Go.RowKit NB Nxt
namespace L27
theorem opt_form (x : Option OccV) : ∃ (o : OccV) (g : Bool), optV x = .tuple #[.agg #[.int .i64 o.rule, .int .i64 o.year, .int .i64 o.nom], .bool g] ∧ (g = true → x = some o) := by
  cases x with
  | none => exact ⟨occ0, false, rfl, fun h => by cases h⟩
  | some o => exact ⟨o, true, rfl, fun _ => rfl⟩
set_option maxRecDepth 100000 in
set_option maxHeartbeats 6400000 in
theorem holds1 (v : Value) (l : List RuleV) (name : ByteArray) (fr : OccV) (w : World) (h : Holds w v l) (hlen : l.length * 104 ≤ 140737488355328) (hl : Lgt.light l = true) (hx : (Chk.check l).2 = 0) (hk : Occ.nextO l name fr = none) :
    Calls Tryd.prog 7 #[v, .string name, .agg fr.cells.toArray] w fun e w' => e = .returned (.bool true) ∧ Below w.heap.size w w' := by
  have clv := fun W => lives W
  have cc := fun W (h : Holds W v l) => Chk.CheckB h hlen
  have cl := fun W (h : Holds W v l) => Lgt.LightH h
  rw [hl] at cl
  have cn1 := fun W (h : Holds W v l) => NxH.Next h name fr
  have cn2 := fun W (h : Holds W v l) => NxH.Next h name occ0
  have cp := fun W (h : Holds W v l) => NxH.Prev h name fr
  rw [hk] at cn1
  obtain ⟨B, M, eB, _⟩ := opt_form (Occ.nextO l name occ0)
  obtain ⟨C, G, eC, _⟩ := opt_form (Occ.prevO l name fr)
  rw [eB] at cn2
  rw [eC] at cp
  obtain ⟨x1, hx1⟩ : ∃ x1, x1 = (Chk.check l).1 := ⟨_, rfl⟩
  rw [hx, ← hx1] at cc
  unfold optV at cn1
  simp only at cn1
  unfold OccV.cells occ0 at cn2
  unfold OccV.cells at cn1 cp ⊢
  simp only at cn2
  have HH := Lib.hid h
  have Clv := Lib.hid clv
  have Cc := Lib.hid cc
  have Cl := Lib.hid cl
  have Cn1 := Lib.hid cn1
  have Cn2 := Lib.hid cn2
  have Cp := Lib.hid cp
  clear h clv cc cl cn1 cn2 cp hx hx1 hl hk eB eC
  go_enter Tryd.func7, Tryd.ntmps7
  go_wp2_with (first
    | (go_at_call 11; (with_reducible refine (Clv.out _).mono ?_); rintro e w1 ⟨rfl, hb1⟩; obtain ⟨hc1, hf1⟩ := bcell hb1; have hc1_0 := fun o => hc1 (w.heap.size) o (by first | assumption | omega | (simp; done) | (simp; omega)); have hf1_0 := fun o => hf1 (w.heap.size) o (by first | assumption | omega | (simp; done) | (simp; omega)); clear hc1 hf1; have hz1_0 : w.heap.size < w1.heap.size := (by first | exact sz1 hb1 | exact sz2 hb1 | exact sz3 hb1 | (have := hb1.size; (try simp only [World.size_alloc, World.size_drew] at this); omega)))
    | (go_at_call 14; (with_reducible refine (Cc.out _ ?_).mono ?_); (· exact HH.out.later (by repeat (first | (with_reducible exact Below.refl _ _) | (with_reducible assumption) | (with_reducible refine ba ?_) | (with_reducible refine bd ?_) | (with_reducible refine bdn ?_ _) | (with_reducible refine bset ?_ (by first | exact Nat.le_refl _ | omega | (simp; done) | (simp; omega))) | (with_reducible refine bt ?_ (by with_reducible assumption))))); rintro e w2 ⟨rfl, hb2⟩; obtain ⟨hc2, hf2⟩ := bcell hb2; have hc2_0 := fun o => hc2 (w.heap.size) o (by first | assumption | omega | (simp; done) | (simp; omega)); have hf2_0 := fun o => hf2 (w.heap.size) o (by first | assumption | omega | (simp; done) | (simp; omega)); clear hc2 hf2; have hz2_0 : w.heap.size < w2.heap.size := (by first | exact sz1 hb2 | exact sz2 hb2 | exact sz3 hb2 | (have := hb2.size; (try simp only [World.size_alloc, World.size_drew] at this); omega)))
    | (go_at_call 10; (with_reducible refine (Cl.out _ ?_).mono ?_); (· exact HH.out.later (by repeat (first | (with_reducible exact Below.refl _ _) | (with_reducible assumption) | (with_reducible refine ba ?_) | (with_reducible refine bd ?_) | (with_reducible refine bdn ?_ _) | (with_reducible refine bset ?_ (by first | exact Nat.le_refl _ | omega | (simp; done) | (simp; omega))) | (with_reducible refine bt ?_ (by with_reducible assumption))))); rintro e w3 ⟨rfl, hb3⟩; obtain ⟨hc3, hf3⟩ := bcell hb3; have hc3_0 := fun o => hc3 (w.heap.size) o (by first | assumption | omega | (simp; done) | (simp; omega)); have hf3_0 := fun o => hf3 (w.heap.size) o (by first | assumption | omega | (simp; done) | (simp; omega)); clear hc3 hf3; have hz3_0 : w.heap.size < w3.heap.size := (by first | exact sz1 hb3 | exact sz2 hb3 | exact sz3 hb3 | (have := hb3.size; (try simp only [World.size_alloc, World.size_drew] at this); omega)))
    | (go_at_call 20; (with_reducible refine (Cn1.out _ ?_).mono ?_); (· exact HH.out.later (by repeat (first | (with_reducible exact Below.refl _ _) | (with_reducible assumption) | (with_reducible refine ba ?_) | (with_reducible refine bd ?_) | (with_reducible refine bdn ?_ _) | (with_reducible refine bset ?_ (by first | exact Nat.le_refl _ | omega | (simp; done) | (simp; omega))) | (with_reducible refine bt ?_ (by with_reducible assumption))))); rintro e w4 ⟨rfl, hb4⟩; obtain ⟨hc4, hf4⟩ := bcell hb4; have hc4_0 := fun o => hc4 (w.heap.size) o (by first | assumption | omega | (simp; done) | (simp; omega)); have hf4_0 := fun o => hf4 (w.heap.size) o (by first | assumption | omega | (simp; done) | (simp; omega)); clear hc4 hf4; have hz4_0 : w.heap.size < w4.heap.size := (by first | exact sz1 hb4 | exact sz2 hb4 | exact sz3 hb4 | (have := hb4.size; (try simp only [World.size_alloc, World.size_drew] at this); omega)))
    | (go_at_call 20; (with_reducible refine (Cn2.out _ ?_).mono ?_); (· exact HH.out.later (by repeat (first | (with_reducible exact Below.refl _ _) | (with_reducible assumption) | (with_reducible refine ba ?_) | (with_reducible refine bd ?_) | (with_reducible refine bdn ?_ _) | (with_reducible refine bset ?_ (by first | exact Nat.le_refl _ | omega | (simp; done) | (simp; omega))) | (with_reducible refine bt ?_ (by with_reducible assumption))))); rintro e w5 ⟨rfl, hb5⟩; obtain ⟨hc5, hf5⟩ := bcell hb5; have hc5_0 := fun o => hc5 (w.heap.size) o (by first | assumption | omega | (simp; done) | (simp; omega)); have hf5_0 := fun o => hf5 (w.heap.size) o (by first | assumption | omega | (simp; done) | (simp; omega)); have hc5_1 := fun o => hc5 (w4.heap.size) o (by first | assumption | omega | (simp; done) | (simp; omega)); have hf5_1 := fun o => hf5 (w4.heap.size) o (by first | assumption | omega | (simp; done) | (simp; omega)); clear hc5 hf5; have hz5_0 : w.heap.size < w5.heap.size := (by first | exact sz1 hb5 | exact sz2 hb5 | exact sz3 hb5 | (have := hb5.size; (try simp only [World.size_alloc, World.size_drew] at this); omega)); have hz5_1 : w4.heap.size < w5.heap.size := (by first | exact sz1 hb5 | exact sz2 hb5 | exact sz3 hb5 | (have := hb5.size; (try simp only [World.size_alloc, World.size_drew] at this); omega)))
    | (go_at_call 21; (with_reducible refine (Cp.out _ ?_).mono ?_); (· exact HH.out.later (by repeat (first | (with_reducible exact Below.refl _ _) | (with_reducible assumption) | (with_reducible refine ba ?_) | (with_reducible refine bd ?_) | (with_reducible refine bdn ?_ _) | (with_reducible refine bset ?_ (by first | exact Nat.le_refl _ | omega | (simp; done) | (simp; omega))) | (with_reducible refine bt ?_ (by with_reducible assumption))))); rintro e w6 ⟨rfl, hb6⟩; obtain ⟨hc6, hf6⟩ := bcell hb6; have hc6_0 := fun o => hc6 (w.heap.size) o (by first | assumption | omega | (simp; done) | (simp; omega)); have hf6_0 := fun o => hf6 (w.heap.size) o (by first | assumption | omega | (simp; done) | (simp; omega)); have hc6_1 := fun o => hc6 (w4.heap.size) o (by first | assumption | omega | (simp; done) | (simp; omega)); have hf6_1 := fun o => hf6 (w4.heap.size) o (by first | assumption | omega | (simp; done) | (simp; omega)); have hc6_2 := fun o => hc6 (w5.heap.size) o (by first | assumption | omega | (simp; done) | (simp; omega)); have hf6_2 := fun o => hf6 (w5.heap.size) o (by first | assumption | omega | (simp; done) | (simp; omega)); clear hc6 hf6; have hz6_0 : w.heap.size < w6.heap.size := (by first | exact sz1 hb6 | exact sz2 hb6 | exact sz3 hb6 | (have := hb6.size; (try simp only [World.size_alloc, World.size_drew] at this); omega)); have hz6_1 : w4.heap.size < w6.heap.size := (by first | exact sz1 hb6 | exact sz2 hb6 | exact sz3 hb6 | (have := hb6.size; (try simp only [World.size_alloc, World.size_drew] at this); omega)); have hz6_2 : w5.heap.size < w6.heap.size := (by first | exact sz1 hb6 | exact sz2 hb6 | exact sz3 hb6 | (have := hb6.size; (try simp only [World.size_alloc, World.size_drew] at this); omega))))
  all_goals
    go_ret
    exact ⟨rfl, by repeat (first | (with_reducible exact Below.refl _ _) | (with_reducible assumption) | (with_reducible refine ba ?_) | (with_reducible refine bd ?_) | (with_reducible refine bdn ?_ _) | (with_reducible refine bset ?_ (by first | exact Nat.le_refl _ | omega | (simp; done) | (simp; omega))) | (with_reducible refine bt ?_ (by with_reducible assumption)))⟩
set_option maxRecDepth 100000 in
set_option maxHeartbeats 12800000 in
theorem holds2 (b off cap : Nat) (l : List RuleV) (name : ByteArray) (fr A : OccV) (w : World) (h : Holds w (.slice (some ⟨b, off, none⟩) l.length cap) l) (hb : b < w.heap.size) (hc : Lies w b off 11 (l.map RuleV.cells)) (hlen : l.length * 104 ≤ 140737488355328) (hl : Lgt.light l = true) (hx : (Chk.check l).2 = 0) (hk : Occ.nextO l name fr = some A) :
    Calls Tryd.prog 7 #[.slice (some ⟨b, off, none⟩) l.length cap, .string name, .agg fr.cells.toArray] w fun e w' => e = .returned (.bool true) ∧ Below w.heap.size w w' := by
  have hA := best_some (Occ.best_next l name fr) hk
  obtain ⟨i, r, hi, hr, hnm, hR, hy1, hy2, hAe⟩ := hA.1
  have clv := fun W => lives W
  have cc := fun W (h : Holds W (.slice (some ⟨b, off, none⟩) l.length cap) l) => Chk.CheckB h hlen
  have cl := fun W (h : Holds W (.slice (some ⟨b, off, none⟩) l.length cap) l) => Lgt.LightH h
  rw [hl] at cl
  have cn1 := fun W (h : Holds W (.slice (some ⟨b, off, none⟩) l.length cap) l) => NxH.Next h name fr
  have cn2 := fun W (h : Holds W (.slice (some ⟨b, off, none⟩) l.length cap) l) => NxH.Next h name A
  have cp := fun W (h : Holds W (.slice (some ⟨b, off, none⟩) l.length cap) l) => NxH.Prev h name fr
  rw [hk] at cn1
  obtain ⟨B, M, eB, fB⟩ := opt_form (Occ.nextO l name A)
  obtain ⟨C, G, eC, fC⟩ := opt_form (Occ.prevO l name fr)
  rw [eB] at cn2
  rw [eC] at cp
  have cls := fun W => Cmp.Less C A W
  have gB : M = true → A.nom + 345600 ≤ B.nom ∧ B.nom ≤ 2000000000000 := by
    intro hM
    have := best_some (Occ.best_next l name A) (fB hM)
    exact ⟨Far.far hx hA.1 this.1 this.2, (nom_all this.1).2⟩
  have gC : G = true → Occ.less C A = true → C.nom + 345600 ≤ A.nom ∧ -2000000000000 ≤ C.nom := by
    intro hG hL
    have := best_some (Occ.best_prev l name fr) (fC hG)
    exact ⟨Far.far hx this.1 hA.1 hL, (nom_all this.1).1⟩
  have gA := nom_all hA.1
  have cw : ∀ W, Calls Tryd.prog 12 #[.agg r.cells.toArray] W fun e w' => e = .returned (.tuple #[.int .i64 (Apt.wLow r), .int .i64 (Apt.wHigh r), .int .i64 0]) ∧ Below W.heap.size W w' := by
    intro W
    have := Apt.Window r (h.fit r (List.mem_of_getElem? hr)) W
    rwa [hR, if_pos rfl] at this
  have hyb := (Rul.right_spec hR).1
  have cd : ∀ W, Calls Tryd.prog 24 #[.agg #[.int .i64 A.year, .int .i64 1, .int .i64 1]] W fun e w' => e = .returned (.tuple #[.int .i64 (Cal.ahead A.year), .int .i64 0]) ∧ Below W.heap.size W w' := by
    intro W
    have := Civ.Days A.year 1 1 W
    rw [Day.right_first (by omega) (by omega) (by omega) (by omega), if_pos rfl] at this
    rwa [show Cal.days A.year 1 1 = Cal.ahead A.year by unfold Cal.days; rw [RCiv.cum_one]; omega] at this
  have nw := Far.nom_win hR A.year
  have hsh : 0 ≤ Far.sh r.month A.year ∧ Far.sh r.month A.year ≤ 1 := by
    have := Cal.lp_01 A.year
    unfold Far.sh; split <;> omega
  have eN : A.nom = Occ.nomR r A.year := by rw [hAe]; rfl
  rw [← eN] at nw
  have eR : A.rule = i := by rw [hAe]; rfl
  have ab := Cal.ahead_bd A.year (by omega) (by omega)
  have wb := Far.win_lo hR
  have hwl : -950400 ≤ Apt.wLow r ∧ Apt.wHigh r ≤ 36000000 := ⟨wb.2.2.1, wb.2.2.2⟩
  have nw1 : Apt.wLow r ≤ A.nom - Cal.ahead A.year * 86400 ∧ A.nom - Cal.ahead A.year * 86400 ≤ Apt.wHigh r + 86400 := by omega
  have nw2 : -36000000 ≤ Apt.wHigh r := by omega
  have nw3 : Apt.wLow r ≤ 36086400 := by omega
  have hcl : ∀ (j : Nat) (u : Value), r.cells[j]? = some u → w.cell? ⟨b, off + i * 11 + j, none⟩ = some u := fun j u hu => hc i j _ u (by rw [List.getElem?_map, hr]; rfl) hu
  have hlr : i < l.length := hi
  have hlm := h.len
  generalize Apt.wLow r = lo at *
  generalize Apt.wHigh r = hg at *
  generalize Cal.ahead A.year = ah at *
  obtain ⟨x1, hx1⟩ : ∃ x1, x1 = (Chk.check l).1 := ⟨_, rfl⟩
  rw [hx, ← hx1] at cc
  obtain ⟨ar, ay, an⟩ := A
  simp only at eR gB gC gA nw1 cd hy1 hy2
  subst eR
  have HH := Lib.hid h
  have c0 := hcl 0 _ rfl
  have c1 := hcl 1 _ rfl
  have c2 := hcl 2 _ rfl
  have c3 := hcl 3 _ rfl
  have c4 := hcl 4 _ rfl
  have c5 := hcl 5 _ rfl
  have c6 := hcl 6 _ rfl
  have c7 := hcl 7 _ rfl
  have c8 := hcl 8 _ rfl
  have c9 := hcl 9 _ rfl
  have c10 := hcl 10 _ rfl
  simp only [Nat.add_zero] at c0
  clear hcl
  unfold optV at cn1
  simp only at cn1
  unfold RuleV.cells at cw
  unfold OccV.cells at cn1 cn2 cp cls ⊢
  simp only at cn1 cn2 cls
  generalize l.length = n at *
  have Clv := Lib.hid clv
  have Cc := Lib.hid cc
  have Cl := Lib.hid cl
  have Cn1 := Lib.hid cn1
  have Cn2 := Lib.hid cn2
  have Cp := Lib.hid cp
  have Cw := Lib.hid cw
  have Cd := Lib.hid cd
  cases hL : Occ.less C ⟨(i : Int), ay, an⟩ <;> cases M <;> cases G
  all_goals
    rw [hL] at cls
    try have gB1 := gB rfl
    try have gC1 := gC rfl hL
    clear gB gC
    have Cls := Lib.hid cls
    clear h clv cc cl cn1 cn2 cp cw cd cls hx hx1 hl hk eB eC hL hA hc hr hnm hR fB fC hyb nw hsh eN wb hlen hAe
    go_enter Tryd.func7, Tryd.ntmps7
    go_wp2_with (first
      | (go_at_call 11; (with_reducible refine (Clv.out _).mono ?_); rintro e w1 ⟨rfl, hb1⟩; obtain ⟨hc1, hf1⟩ := bcell hb1; have hc1_0 := fun o => hc1 (b) o (by first | assumption | omega | (simp; done) | (simp; omega)); have hf1_0 := fun o => hf1 (b) o (by first | assumption | omega | (simp; done) | (simp; omega)); have hc1_1 := fun o => hc1 (w.heap.size) o (by first | assumption | omega | (simp; done) | (simp; omega)); have hf1_1 := fun o => hf1 (w.heap.size) o (by first | assumption | omega | (simp; done) | (simp; omega)); clear hc1 hf1; have hz1_0 : b < w1.heap.size := (by first | exact sz1 hb1 | exact sz2 hb1 | exact sz3 hb1 | (have := hb1.size; (try simp only [World.size_alloc, World.size_drew] at this); omega)); have hz1_1 : w.heap.size < w1.heap.size := (by first | exact sz1 hb1 | exact sz2 hb1 | exact sz3 hb1 | (have := hb1.size; (try simp only [World.size_alloc, World.size_drew] at this); omega)))
      | (go_at_call 14; (with_reducible refine (Cc.out _ ?_).mono ?_); (· exact HH.out.later (by repeat (first | (with_reducible exact Below.refl _ _) | (with_reducible assumption) | (with_reducible refine ba ?_) | (with_reducible refine bd ?_) | (with_reducible refine bdn ?_ _) | (with_reducible refine bset ?_ (by first | exact Nat.le_refl _ | omega | (simp; done) | (simp; omega))) | (with_reducible refine bt ?_ (by with_reducible assumption))))); rintro e w2 ⟨rfl, hb2⟩; obtain ⟨hc2, hf2⟩ := bcell hb2; have hc2_0 := fun o => hc2 (b) o (by first | assumption | omega | (simp; done) | (simp; omega)); have hf2_0 := fun o => hf2 (b) o (by first | assumption | omega | (simp; done) | (simp; omega)); have hc2_1 := fun o => hc2 (w.heap.size) o (by first | assumption | omega | (simp; done) | (simp; omega)); have hf2_1 := fun o => hf2 (w.heap.size) o (by first | assumption | omega | (simp; done) | (simp; omega)); clear hc2 hf2; have hz2_0 : b < w2.heap.size := (by first | exact sz1 hb2 | exact sz2 hb2 | exact sz3 hb2 | (have := hb2.size; (try simp only [World.size_alloc, World.size_drew] at this); omega)); have hz2_1 : w.heap.size < w2.heap.size := (by first | exact sz1 hb2 | exact sz2 hb2 | exact sz3 hb2 | (have := hb2.size; (try simp only [World.size_alloc, World.size_drew] at this); omega)))
      | (go_at_call 10; (with_reducible refine (Cl.out _ ?_).mono ?_); (· exact HH.out.later (by repeat (first | (with_reducible exact Below.refl _ _) | (with_reducible assumption) | (with_reducible refine ba ?_) | (with_reducible refine bd ?_) | (with_reducible refine bdn ?_ _) | (with_reducible refine bset ?_ (by first | exact Nat.le_refl _ | omega | (simp; done) | (simp; omega))) | (with_reducible refine bt ?_ (by with_reducible assumption))))); rintro e w3 ⟨rfl, hb3⟩; obtain ⟨hc3, hf3⟩ := bcell hb3; have hc3_0 := fun o => hc3 (b) o (by first | assumption | omega | (simp; done) | (simp; omega)); have hf3_0 := fun o => hf3 (b) o (by first | assumption | omega | (simp; done) | (simp; omega)); have hc3_1 := fun o => hc3 (w.heap.size) o (by first | assumption | omega | (simp; done) | (simp; omega)); have hf3_1 := fun o => hf3 (w.heap.size) o (by first | assumption | omega | (simp; done) | (simp; omega)); clear hc3 hf3; have hz3_0 : b < w3.heap.size := (by first | exact sz1 hb3 | exact sz2 hb3 | exact sz3 hb3 | (have := hb3.size; (try simp only [World.size_alloc, World.size_drew] at this); omega)); have hz3_1 : w.heap.size < w3.heap.size := (by first | exact sz1 hb3 | exact sz2 hb3 | exact sz3 hb3 | (have := hb3.size; (try simp only [World.size_alloc, World.size_drew] at this); omega)))
      | (go_at_call 20; (with_reducible refine (Cn1.out _ ?_).mono ?_); (· exact HH.out.later (by repeat (first | (with_reducible exact Below.refl _ _) | (with_reducible assumption) | (with_reducible refine ba ?_) | (with_reducible refine bd ?_) | (with_reducible refine bdn ?_ _) | (with_reducible refine bset ?_ (by first | exact Nat.le_refl _ | omega | (simp; done) | (simp; omega))) | (with_reducible refine bt ?_ (by with_reducible assumption))))); rintro e w4 ⟨rfl, hb4⟩; obtain ⟨hc4, hf4⟩ := bcell hb4; have hc4_0 := fun o => hc4 (b) o (by first | assumption | omega | (simp; done) | (simp; omega)); have hf4_0 := fun o => hf4 (b) o (by first | assumption | omega | (simp; done) | (simp; omega)); have hc4_1 := fun o => hc4 (w.heap.size) o (by first | assumption | omega | (simp; done) | (simp; omega)); have hf4_1 := fun o => hf4 (w.heap.size) o (by first | assumption | omega | (simp; done) | (simp; omega)); clear hc4 hf4; have hz4_0 : b < w4.heap.size := (by first | exact sz1 hb4 | exact sz2 hb4 | exact sz3 hb4 | (have := hb4.size; (try simp only [World.size_alloc, World.size_drew] at this); omega)); have hz4_1 : w.heap.size < w4.heap.size := (by first | exact sz1 hb4 | exact sz2 hb4 | exact sz3 hb4 | (have := hb4.size; (try simp only [World.size_alloc, World.size_drew] at this); omega)))
      | (go_at_call 20; (with_reducible refine (Cn2.out _ ?_).mono ?_); (· exact HH.out.later (by repeat (first | (with_reducible exact Below.refl _ _) | (with_reducible assumption) | (with_reducible refine ba ?_) | (with_reducible refine bd ?_) | (with_reducible refine bdn ?_ _) | (with_reducible refine bset ?_ (by first | exact Nat.le_refl _ | omega | (simp; done) | (simp; omega))) | (with_reducible refine bt ?_ (by with_reducible assumption))))); rintro e w5 ⟨rfl, hb5⟩; obtain ⟨hc5, hf5⟩ := bcell hb5; have hc5_0 := fun o => hc5 (b) o (by first | assumption | omega | (simp; done) | (simp; omega)); have hf5_0 := fun o => hf5 (b) o (by first | assumption | omega | (simp; done) | (simp; omega)); have hc5_1 := fun o => hc5 (w.heap.size) o (by first | assumption | omega | (simp; done) | (simp; omega)); have hf5_1 := fun o => hf5 (w.heap.size) o (by first | assumption | omega | (simp; done) | (simp; omega)); have hc5_2 := fun o => hc5 (w4.heap.size) o (by first | assumption | omega | (simp; done) | (simp; omega)); have hf5_2 := fun o => hf5 (w4.heap.size) o (by first | assumption | omega | (simp; done) | (simp; omega)); clear hc5 hf5; have hz5_0 : b < w5.heap.size := (by first | exact sz1 hb5 | exact sz2 hb5 | exact sz3 hb5 | (have := hb5.size; (try simp only [World.size_alloc, World.size_drew] at this); omega)); have hz5_1 : w.heap.size < w5.heap.size := (by first | exact sz1 hb5 | exact sz2 hb5 | exact sz3 hb5 | (have := hb5.size; (try simp only [World.size_alloc, World.size_drew] at this); omega)); have hz5_2 : w4.heap.size < w5.heap.size := (by first | exact sz1 hb5 | exact sz2 hb5 | exact sz3 hb5 | (have := hb5.size; (try simp only [World.size_alloc, World.size_drew] at this); omega)))
      | (go_at_call 21; (with_reducible refine (Cp.out _ ?_).mono ?_); (· exact HH.out.later (by repeat (first | (with_reducible exact Below.refl _ _) | (with_reducible assumption) | (with_reducible refine ba ?_) | (with_reducible refine bd ?_) | (with_reducible refine bdn ?_ _) | (with_reducible refine bset ?_ (by first | exact Nat.le_refl _ | omega | (simp; done) | (simp; omega))) | (with_reducible refine bt ?_ (by with_reducible assumption))))); rintro e w6 ⟨rfl, hb6⟩; obtain ⟨hc6, hf6⟩ := bcell hb6; have hc6_0 := fun o => hc6 (b) o (by first | assumption | omega | (simp; done) | (simp; omega)); have hf6_0 := fun o => hf6 (b) o (by first | assumption | omega | (simp; done) | (simp; omega)); have hc6_1 := fun o => hc6 (w.heap.size) o (by first | assumption | omega | (simp; done) | (simp; omega)); have hf6_1 := fun o => hf6 (w.heap.size) o (by first | assumption | omega | (simp; done) | (simp; omega)); have hc6_2 := fun o => hc6 (w4.heap.size) o (by first | assumption | omega | (simp; done) | (simp; omega)); have hf6_2 := fun o => hf6 (w4.heap.size) o (by first | assumption | omega | (simp; done) | (simp; omega)); have hc6_3 := fun o => hc6 (w5.heap.size) o (by first | assumption | omega | (simp; done) | (simp; omega)); have hf6_3 := fun o => hf6 (w5.heap.size) o (by first | assumption | omega | (simp; done) | (simp; omega)); clear hc6 hf6; have hz6_0 : b < w6.heap.size := (by first | exact sz1 hb6 | exact sz2 hb6 | exact sz3 hb6 | (have := hb6.size; (try simp only [World.size_alloc, World.size_drew] at this); omega)); have hz6_1 : w.heap.size < w6.heap.size := (by first | exact sz1 hb6 | exact sz2 hb6 | exact sz3 hb6 | (have := hb6.size; (try simp only [World.size_alloc, World.size_drew] at this); omega)); have hz6_2 : w4.heap.size < w6.heap.size := (by first | exact sz1 hb6 | exact sz2 hb6 | exact sz3 hb6 | (have := hb6.size; (try simp only [World.size_alloc, World.size_drew] at this); omega)); have hz6_3 : w5.heap.size < w6.heap.size := (by first | exact sz1 hb6 | exact sz2 hb6 | exact sz3 hb6 | (have := hb6.size; (try simp only [World.size_alloc, World.size_drew] at this); omega)))
      | (go_at_call 22; (with_reducible refine (Cls.out _).mono ?_); rintro e w7 ⟨rfl, hb7⟩; obtain ⟨hc7, hf7⟩ := bcell hb7; have hc7_0 := fun o => hc7 (b) o (by first | assumption | omega | (simp; done) | (simp; omega)); have hf7_0 := fun o => hf7 (b) o (by first | assumption | omega | (simp; done) | (simp; omega)); have hc7_1 := fun o => hc7 (w4.heap.size) o (by first | assumption | omega | (simp; done) | (simp; omega)); have hf7_1 := fun o => hf7 (w4.heap.size) o (by first | assumption | omega | (simp; done) | (simp; omega)); have hc7_2 := fun o => hc7 (w5.heap.size) o (by first | assumption | omega | (simp; done) | (simp; omega)); have hf7_2 := fun o => hf7 (w5.heap.size) o (by first | assumption | omega | (simp; done) | (simp; omega)); have hc7_3 := fun o => hc7 (w6.heap.size) o (by first | assumption | omega | (simp; done) | (simp; omega)); have hf7_3 := fun o => hf7 (w6.heap.size) o (by first | assumption | omega | (simp; done) | (simp; omega)); clear hc7 hf7; have hz7_0 : b < w7.heap.size := (by first | exact sz1 hb7 | exact sz2 hb7 | exact sz3 hb7 | (have := hb7.size; (try simp only [World.size_alloc, World.size_drew] at this); omega)); have hz7_1 : w4.heap.size < w7.heap.size := (by first | exact sz1 hb7 | exact sz2 hb7 | exact sz3 hb7 | (have := hb7.size; (try simp only [World.size_alloc, World.size_drew] at this); omega)); have hz7_2 : w5.heap.size < w7.heap.size := (by first | exact sz1 hb7 | exact sz2 hb7 | exact sz3 hb7 | (have := hb7.size; (try simp only [World.size_alloc, World.size_drew] at this); omega)); have hz7_3 : w6.heap.size < w7.heap.size := (by first | exact sz1 hb7 | exact sz2 hb7 | exact sz3 hb7 | (have := hb7.size; (try simp only [World.size_alloc, World.size_drew] at this); omega)))
      | (go_at_call 12; (with_reducible refine (Cw.out _).mono ?_); rintro e w8 ⟨rfl, hb8⟩; obtain ⟨hc8, hf8⟩ := bcell hb8; have hc8_0 := fun o => hc8 (b) o (by first | assumption | omega | (simp; done) | (simp; omega)); have hf8_0 := fun o => hf8 (b) o (by first | assumption | omega | (simp; done) | (simp; omega)); have hc8_1 := fun o => hc8 (w4.heap.size) o (by first | assumption | omega | (simp; done) | (simp; omega)); have hf8_1 := fun o => hf8 (w4.heap.size) o (by first | assumption | omega | (simp; done) | (simp; omega)); clear hc8 hf8; have hz8_0 : b < w8.heap.size := (by first | exact sz1 hb8 | exact sz2 hb8 | exact sz3 hb8 | (have := hb8.size; (try simp only [World.size_alloc, World.size_drew] at this); omega)); have hz8_1 : w4.heap.size < w8.heap.size := (by first | exact sz1 hb8 | exact sz2 hb8 | exact sz3 hb8 | (have := hb8.size; (try simp only [World.size_alloc, World.size_drew] at this); omega)))
      | (go_at_call 24; (with_reducible refine (Cd.out _).mono ?_); rintro e w9 ⟨rfl, hb9⟩; obtain ⟨hc9, hf9⟩ := bcell hb9; have hc9_0 := fun o => hc9 (w4.heap.size) o (by first | assumption | omega | (simp; done) | (simp; omega)); have hf9_0 := fun o => hf9 (w4.heap.size) o (by first | assumption | omega | (simp; done) | (simp; omega)); clear hc9 hf9; have hz9_0 : w4.heap.size < w9.heap.size := (by first | exact sz1 hb9 | exact sz2 hb9 | exact sz3 hb9 | (have := hb9.size; (try simp only [World.size_alloc, World.size_drew] at this); omega))))
    all_goals
      go_ret
      exact ⟨by simp, by repeat (first | (with_reducible exact Below.refl _ _) | (with_reducible assumption) | (with_reducible refine ba ?_) | (with_reducible refine bd ?_) | (with_reducible refine bdn ?_ _) | (with_reducible refine bset ?_ (by first | exact Nat.le_refl _ | omega | (simp; done) | (simp; omega))) | (with_reducible refine bt ?_ (by with_reducible assumption)))⟩
end L27
end Go.Proofs.YtopdjebnfhfpcaaDoor
