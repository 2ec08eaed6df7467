/-
  noontidelaw25.OccurTells: the walk.
-/
import Derived.Test.YtopdjebnfhfpcaaGreatDoorLive25
import Derived.Test.YtopdjebnfhfpcaaGreatDoorRIn
import Derived.Test.YtopdjebnfhfpcaaGreatDoorOpenO
namespace Go.Proofs.YtopdjebnfhfpcaaGreatDoor
open Go.RowKit NB Nxt
namespace L25
theorem own_later {w w' : World} {B : Nat} {e : TypeId} {sz n : Nat} {v : Value} {xs : List Value} (h : w.ownsRow B e sz v n xs) (hb : Below w.heap.size w w') : w'.ownsRow B e sz v n xs :=
  h.kept ⟨hb.os, hb.tape, hb.output, hb.size, fun k hk _ => hb.block k hk⟩ (by cases v.ownBlock <;> simp : v.ownBlock = none ∨ v.ownBlock ≠ none)
theorem own_drew {w : World} {B : Nat} {e : TypeId} {sz n : Nat} {v : Value} {xs : List Value} (h : w.ownsRow B e sz v n xs) : w.drew.ownsRow B e sz v n xs := h
theorem inO_len (l : List RuleV) (name : ByteArray) (fr tt most : Int) (hm : most ≤ 100000) : (All.inO l name fr tt most).length ≤ 100000 := by
  unfold All.inO
  split
  · have := Occ.inL_len l name tt most.toNat ⟨-1, 0, fr⟩
    omega
  · simp
set_option maxRecDepth 100000 in
theorem tells0 {w : World} {v : Value} {l : List RuleV} (h : Holds w v l) (name : ByteArray) (fr ot : OccV) (s : SpanV) (year most : Int) (hl : Lgt.light l = false ∨ 40 < most) :
    Calls Tryz.prog 3 #[v, .string name, .agg fr.cells.toArray, .agg ot.cells.toArray, .agg s.cells.toArray, .int .i64 year, .int .i64 most] w fun e w' => e = .returned (.bool true) ∧ Below w.heap.size w w' := by
  have clv := fun W => lives W
  have cl := fun W (h : Holds W v l) => Lgt.LightH h
  have HH := Lib.hid h
  have Clv := Lib.hid clv
  unfold OccV.cells SpanV.cells
  clear h clv
  cases hL : Lgt.light l
  · rw [hL] at cl
    have Cl := Lib.hid cl
    clear cl hl hL
    go_enter Tryz.func3, Tryz.ntmps3
    go_wp2_with (first
      | (go_at_call 6; (with_reducible refine (Clv.out _).mono ?_); rintro e w1 ⟨rfl, hb1⟩; obtain ⟨hc1, hf1⟩ := bcell hb1)
      | (go_at_call 5; (with_reducible refine (Cl.out _ ?_).mono ?_); (· exact HH.out.later (by repeat (first | (with_reducible exact Below.refl _ _) | (with_reducible assumption) | (with_reducible refine ba ?_) | (with_reducible refine bd ?_) | (with_reducible refine bdn ?_ _) | (with_reducible refine bset ?_ (by first | exact Nat.le_refl _ | omega | (simp; done) | (simp; omega))) | (with_reducible refine bt ?_ (by with_reducible assumption))))); rintro e w2 ⟨rfl, hb2⟩; obtain ⟨hc2, hf2⟩ := bcell hb2))
    go_ret
    exact ⟨rfl, by repeat (first | (with_reducible exact Below.refl _ _) | (with_reducible assumption) | (with_reducible refine ba ?_) | (with_reducible refine bd ?_) | (with_reducible refine bdn ?_ _) | (with_reducible refine bset ?_ (by first | exact Nat.le_refl _ | omega | (simp; done) | (simp; omega))) | (with_reducible refine bt ?_ (by with_reducible assumption)))⟩
  · rw [hL] at cl hl
    have Cl := Lib.hid cl
    replace hl := hl.resolve_left (by decide)
    clear cl hL
    go_enter Tryz.func3, Tryz.ntmps3
    go_wp2_with (first
      | (go_at_call 6; (with_reducible refine (Clv.out _).mono ?_); rintro e w1 ⟨rfl, hb1⟩; obtain ⟨hc1, hf1⟩ := bcell hb1)
      | (go_at_call 5; (with_reducible refine (Cl.out _ ?_).mono ?_); (· exact HH.out.later (by repeat (first | (with_reducible exact Below.refl _ _) | (with_reducible assumption) | (with_reducible refine ba ?_) | (with_reducible refine bd ?_) | (with_reducible refine bdn ?_ _) | (with_reducible refine bset ?_ (by first | exact Nat.le_refl _ | omega | (simp; done) | (simp; omega))) | (with_reducible refine bt ?_ (by with_reducible assumption))))); rintro e w2 ⟨rfl, hb2⟩; obtain ⟨hc2, hf2⟩ := bcell hb2))
    go_ret
    exact ⟨rfl, by repeat (first | (with_reducible exact Below.refl _ _) | (with_reducible assumption) | (with_reducible refine ba ?_) | (with_reducible refine bd ?_) | (with_reducible refine bdn ?_ _) | (with_reducible refine bset ?_ (by first | exact Nat.le_refl _ | omega | (simp; done) | (simp; omega))) | (with_reducible refine bt ?_ (by with_reducible assumption)))⟩
set_option maxRecDepth 100000 in
set_option maxHeartbeats 6400000 in
theorem tells1 {w : World} {v : Value} {l : List RuleV} (h : Holds w v l) (name : ByteArray) (fr ot : OccV) (s : SpanV) (year most : Int) (hfr : I64 fr.nom) (hsf : I64 s.fr) (hl : Lgt.light l = true) (hmo : most ≤ 40) :
    Calls Tryz.prog 3 #[v, .string name, .agg fr.cells.toArray, .agg ot.cells.toArray, .agg s.cells.toArray, .int .i64 year, .int .i64 most] w fun e w' => e = .returned (.bool true) ∧ Below w.heap.size w w' := by
  have clv := fun W => lives W
  have cl := fun W (h : Holds W v l) => Lgt.LightH h
  have ca := fun W (h : Holds W v l) => NxH.Next h name fr
  have ra := fun W (h : Holds W v l) => RNxH.Next h name fr hfr
  have cb := fun W (h : Holds W v l) => NxH.Prev h name fr
  have rb := fun W (h : Holds W v l) => RNxH.Prev h name fr hfr
  have cls := fun W => Cmp.Less fr ot W
  have rls := fun W => ROcc.Less fr ot W
  have cin := fun W (h : Holds W v l) => All.In h name s.fr s.to most (by omega)
  have rin := fun W (h : Holds W v l) => RIn.In h name s.fr s.to most hsf (by omega)
  have hLn := inO_len l name s.fr s.to most (by omega)
  have hlm := h.len
  have hft := h.fit
  rw [hl] at cl
  obtain ⟨L, hL⟩ : ∃ L, L = All.inO l name s.fr s.to most := ⟨_, rfl⟩
  rw [← hL] at cin rin hLn
  obtain ⟨g0, hg0⟩ : ∃ g, g = Occ.less fr ot := ⟨_, rfl⟩
  rw [← hg0] at cls rls
  obtain ⟨i1, y1, n1, e1, z1⟩ := All.opt_parts (Occ.nextO l name fr)
  obtain ⟨i2, y2, n2, e2, z2⟩ := All.opt_parts (Occ.prevO l name fr)
  obtain ⟨g1, hg1⟩ : ∃ g, g = (Occ.nextO l name fr).isSome := ⟨_, rfl⟩
  obtain ⟨g2, hg2⟩ : ∃ g, g = (Occ.prevO l name fr).isSome := ⟨_, rfl⟩
  rw [e1, ← hg1] at ca ra
  rw [e2, ← hg2] at cb rb
  have hcl : ∀ (k : Nat) (r : RuleV), l[k]? = some r → ∃ b off cap, v = .slice (some ⟨b, off, none⟩) l.length cap ∧ b < w.heap.size ∧ ∀ (j : Nat) (u : Value), r.cells[j]? = some u → w.cell? ⟨b, off + k * 11 + j, none⟩ = some u := by
    intro k r hr
    rcases h.lies with ⟨p, cap, rfl, rfl⟩ | ⟨b, off, cap, rfl, h2, h3⟩
    · simp at hr
    · exact ⟨b, off, cap, rfl, h2, fun j u hu => h3 k j _ u (by rw [List.getElem?_map, hr]; rfl) hu⟩
  obtain ⟨q, cap, rfl⟩ := h.form
  unfold OccV.cells SpanV.cells at *
  have cm := fun (r : RuleV) (hr : r.Fit) W => Nom.Nom r hr year W
  have rm := fun (r : RuleV) (hr : r.Fit) W => ROcc.Nom r hr year W
  have hll : ∀ k : Nat, k < l.length → ∃ r, l[k]? = some r := fun k hk => ⟨l[k], by simp⟩
  generalize l.length = n at *
  have HH := Lib.hid h
  have HN := Lib.hid hll
  have Clv := Lib.hid clv
  have Cl := Lib.hid cl
  have Ca := Lib.hid ca
  have Ra := Lib.hid ra
  have Cb := Lib.hid cb
  have Rb := Lib.hid rb
  have Cls := Lib.hid cls
  have Rls := Lib.hid rls
  have Cin := Lib.hid cin
  have Rin := Lib.hid rin
  have HLn := Lib.hid hLn
  have Hft := Lib.hid hft
  have Hcl := Lib.hid hcl
  have Cm := Lib.hid cm
  have Rm := Lib.hid rm
  clear h hll clv cl ca ra cb rb cls rls cin rin hLn hft hcl cm rm hL hg0 e1 e2 hg1 hg2 hl hfr hsf z1 z2
  go_enter Tryz.func3, Tryz.ntmps3
  go_upto_region 4 with (first
    | (go_at_call 5; (with_reducible refine (Cl.out _ ?_).mono ?_); (· exact HH.out.later (by repeat (first | (with_reducible exact Below.refl _ _) | (with_reducible assumption) | (with_reducible refine ba ?_) | (with_reducible refine bd ?_) | (with_reducible refine bdn ?_ _) | (with_reducible refine bset ?_ (by first | exact Nat.le_refl _ | omega | (simp; done) | (simp; omega))) | (with_reducible refine bt ?_ (by with_reducible assumption))))); rintro e w2 ⟨rfl, hb2⟩; obtain ⟨hc2, hf2⟩ := bcell hb2))
  obtain ⟨X, hX⟩ : ∃ X, X = w2 := ⟨_, rfl⟩
  have hBX : Below w.heap.size w X := by rw [hX]; repeat (first | (with_reducible exact Below.refl _ _) | (with_reducible assumption) | (with_reducible refine ba ?_) | (with_reducible refine bd ?_) | (with_reducible refine bdn ?_ _) | (with_reducible refine bset ?_ (by first | exact Nat.le_refl _ | omega | (simp; done) | (simp; omega))) | (with_reducible refine bt ?_ (by with_reducible assumption)))
  have k0 : Box X w.heap.size #[.int .i64 fr.rule, .int .i64 fr.year, .int .i64 fr.nom] 24 := by rw [hX]; exact Box.later ((Box.new _ _ _).old.old) hb2
  have k1 : Box X (w.heap.size + 1) #[.int .i64 ot.rule, .int .i64 ot.year, .int .i64 ot.nom] 24 := by
    rw [hX]
    have := Box.new (w.alloc (.cells #[.int .i64 fr.rule, .int .i64 fr.year, .int .i64 fr.nom] 24)) #[.int .i64 ot.rule, .int .i64 ot.year, .int .i64 ot.nom] 24
    simp only [World.size_alloc] at this
    exact this.old.later hb2
  have k2 : Box X (w.heap.size + 1 + 1) #[.int .i64 s.fr, .int .i64 s.to] 26 := by
    rw [hX]
    have := Box.new ((w.alloc (.cells #[.int .i64 fr.rule, .int .i64 fr.year, .int .i64 fr.nom] 24)).alloc (.cells #[.int .i64 ot.rule, .int .i64 ot.year, .int .i64 ot.nom] 24)) #[.int .i64 s.fr, .int .i64 s.to] 26
    exact Box.later (by simpa using this) hb2
  rw [← hX]
  clear hX hb2 hc2 hf2
  go_loopw [39] (fun z wr => ∃ k : Nat, z = .int .i64 k ∧ k ≤ n ∧ Below w.heap.size w wr ∧ Box wr w.heap.size #[.int .i64 fr.rule, .int .i64 fr.year, .int .i64 fr.nom] 24 ∧ Box wr (w.heap.size + 1) #[.int .i64 ot.rule, .int .i64 ot.year, .int .i64 ot.nom] 24 ∧ Box wr (w.heap.size + 1 + 1) #[.int .i64 s.fr, .int .i64 s.to] 26) (fun z _ => n - (intOf z).toNat)
  case atStart => exact ⟨0, rfl, Nat.zero_le _, hBX, k0, k1, k2⟩
  case round =>
    clear hBX k0 k1 k2
    obtain ⟨k, rfl, hk, hbel, k0, k1, k2⟩ := hrel
    by_cases hlt : k < n
    · obtain ⟨r, hr⟩ := HN.out k hlt
      obtain ⟨b, off, cap', hq, hb, hcl⟩ := Hcl.out k r hr
      simp only [Value.slice.injEq] at hq
      obtain ⟨rfl, -, -⟩ := hq
      have cm := fun W => Cm.out r (Hft.out r (List.mem_of_getElem? hr)) W
      have rm := fun W => Rm.out r (Hft.out r (List.mem_of_getElem? hr)) W
      obtain ⟨x, hx⟩ : ∃ x, x = Nom.nomE r year := ⟨_, rfl⟩
      rw [← hx] at cm rm
      unfold RuleV.cells at cm rm
      have hd : ∀ (j : Nat) (u : Value), r.cells[j]? = some u → wr.cell? ⟨b, off + k * 11 + j, none⟩ = some u := fun j u hu => (hbel.cell (p := ⟨b, off + k * 11 + j, none⟩) hb).trans (hcl j u hu)
      have d0 := hd 0 _ rfl
      have d1 := hd 1 _ rfl
      have d2 := hd 2 _ rfl
      have d3 := hd 3 _ rfl
      have d4 := hd 4 _ rfl
      have d5 := hd 5 _ rfl
      have d6 := hd 6 _ rfl
      have d7 := hd 7 _ rfl
      have d8 := hd 8 _ rfl
      have d9 := hd 9 _ rfl
      have d10 := hd 10 _ rfl
      simp only [Nat.add_zero] at d0
      have CM := Lib.hid cm
      have RM := Lib.hid rm
      have Hbel := Lib.hid hbel
      have K0 := Lib.hid k0
      have K1 := Lib.hid k1
      have K2 := Lib.hid k2
      clear hcl hd cm rm hx hr hbel k0 k1 k2
      go_wp2_with (first
        | (go_at_call 7; (with_reducible refine (CM.out _).mono ?_); rintro e w3 ⟨rfl, hb3⟩; obtain ⟨hc3, hf3⟩ := bcell hb3; have hc3_0 := fun o => hc3 (wr.heap.size) o (by first | assumption | omega | (simp; done) | (simp; omega)); have hf3_0 := fun o => hf3 (wr.heap.size) o (by first | assumption | omega | (simp; done) | (simp; omega)); clear hc3 hf3; have hz3_0 : wr.heap.size < w3.heap.size := (by first | exact sz1 hb3 | exact sz2 hb3 | exact sz3 hb3 | (have := hb3.size; (try simp only [World.size_alloc, World.size_drew] at this); omega)))
        | (go_at_call 8; (with_reducible refine (RM.out _).mono ?_); rintro e w4 ⟨rfl, hb4⟩; obtain ⟨hc4, hf4⟩ := bcell hb4))
      have hbel := Hbel.out
      have k0 := K0.out
      have k1 := K1.out
      have k2 := K2.out
      go_roundw
      case rel => exact ⟨k + 1, by go_num, hlt, by repeat (first | (with_reducible exact Below.refl _ _) | (with_reducible assumption) | (with_reducible refine ba ?_) | (with_reducible refine bd ?_) | (with_reducible refine bdn ?_ _) | (with_reducible refine bset ?_ (by first | exact Nat.le_refl _ | omega | (simp; done) | (simp; omega))) | (with_reducible refine bt ?_ (by with_reducible assumption))), by repeat (first | (with_reducible assumption) | (with_reducible exact Box.new _ _ _) | (with_reducible refine Box.old ?_) | (with_reducible refine Box.drew ?_) | (with_reducible refine Box.drewN ?_ _) | (with_reducible refine Box.other ?_ (by first | assumption | omega | (simp; omega))) | (with_reducible refine Box.later ?_ (by with_reducible assumption))), by repeat (first | (with_reducible assumption) | (with_reducible exact Box.new _ _ _) | (with_reducible refine Box.old ?_) | (with_reducible refine Box.drew ?_) | (with_reducible refine Box.drewN ?_ _) | (with_reducible refine Box.other ?_ (by first | assumption | omega | (simp; omega))) | (with_reducible refine Box.later ?_ (by with_reducible assumption))), by repeat (first | (with_reducible assumption) | (with_reducible exact Box.new _ _ _) | (with_reducible refine Box.old ?_) | (with_reducible refine Box.drew ?_) | (with_reducible refine Box.drewN ?_ _) | (with_reducible refine Box.other ?_ (by first | assumption | omega | (simp; omega))) | (with_reducible refine Box.later ?_ (by with_reducible assumption)))⟩
      case measure => simp [intOf]; omega
    · have c0 := k0.cell
      have l0 := k0.lt
      have Hbel := Lib.hid hbel
      have K0 := Lib.hid k0
      have K1 := Lib.hid k1
      have K2 := Lib.hid k2
      clear hbel k0 k1 k2
      go_upto_region 15 with (first
        | (go_at_call 9; (with_reducible refine (Ca.out _ ?_).mono ?_); (· exact HH.out.later (bt Hbel.out (by repeat (first | (with_reducible exact Below.refl _ _) | (with_reducible assumption) | (with_reducible refine ba ?_) | (with_reducible refine bd ?_) | (with_reducible refine bdn ?_ _) | (with_reducible refine bset ?_ (by first | exact Nat.le_refl _ | omega | (simp; done) | (simp; omega))) | (with_reducible refine bt ?_ (by with_reducible assumption)))))); rintro e w5 ⟨rfl, hb5⟩; obtain ⟨hc5, hf5⟩ := bcell hb5; have hc5_0 := fun o => hc5 (w.heap.size) o (by first | assumption | omega | (simp; done) | (simp; omega)); have hf5_0 := fun o => hf5 (w.heap.size) o (by first | assumption | omega | (simp; done) | (simp; omega)); clear hc5 hf5; have hz5_0 : w.heap.size < w5.heap.size := (by first | exact sz1 hb5 | exact sz2 hb5 | exact sz3 hb5 | (have := hb5.size; (try simp only [World.size_alloc, World.size_drew] at this); omega)))
        | (go_at_call 10; (with_reducible refine (Ra.out _ ?_).mono ?_); (· exact HH.out.later (bt Hbel.out (by repeat (first | (with_reducible exact Below.refl _ _) | (with_reducible assumption) | (with_reducible refine ba ?_) | (with_reducible refine bd ?_) | (with_reducible refine bdn ?_ _) | (with_reducible refine bset ?_ (by first | exact Nat.le_refl _ | omega | (simp; done) | (simp; omega))) | (with_reducible refine bt ?_ (by with_reducible assumption)))))); rintro e w6 ⟨rfl, hb6⟩; obtain ⟨hc6, hf6⟩ := bcell hb6; have hc6_0 := fun o => hc6 (w.heap.size) o (by first | assumption | omega | (simp; done) | (simp; omega)); have hf6_0 := fun o => hf6 (w.heap.size) o (by first | assumption | omega | (simp; done) | (simp; omega)); clear hc6 hf6; have hz6_0 : w.heap.size < w6.heap.size := (by first | exact sz1 hb6 | exact sz2 hb6 | exact sz3 hb6 | (have := hb6.size; (try simp only [World.size_alloc, World.size_drew] at this); omega)))
        | (go_at_call 11; (with_reducible refine (Cb.out _ ?_).mono ?_); (· exact HH.out.later (bt Hbel.out (by repeat (first | (with_reducible exact Below.refl _ _) | (with_reducible assumption) | (with_reducible refine ba ?_) | (with_reducible refine bd ?_) | (with_reducible refine bdn ?_ _) | (with_reducible refine bset ?_ (by first | exact Nat.le_refl _ | omega | (simp; done) | (simp; omega))) | (with_reducible refine bt ?_ (by with_reducible assumption)))))); rintro e w7 ⟨rfl, hb7⟩; obtain ⟨hc7, hf7⟩ := bcell hb7; have hc7_0 := fun o => hc7 (w.heap.size) o (by first | assumption | omega | (simp; done) | (simp; omega)); have hf7_0 := fun o => hf7 (w.heap.size) o (by first | assumption | omega | (simp; done) | (simp; omega)); clear hc7 hf7; have hz7_0 : w.heap.size < w7.heap.size := (by first | exact sz1 hb7 | exact sz2 hb7 | exact sz3 hb7 | (have := hb7.size; (try simp only [World.size_alloc, World.size_drew] at this); omega)))
        | (go_at_call 12; (with_reducible refine (Rb.out _ ?_).mono ?_); (· exact HH.out.later (bt Hbel.out (by repeat (first | (with_reducible exact Below.refl _ _) | (with_reducible assumption) | (with_reducible refine ba ?_) | (with_reducible refine bd ?_) | (with_reducible refine bdn ?_ _) | (with_reducible refine bset ?_ (by first | exact Nat.le_refl _ | omega | (simp; done) | (simp; omega))) | (with_reducible refine bt ?_ (by with_reducible assumption)))))); rintro e w8 ⟨rfl, hb8⟩; obtain ⟨hc8, hf8⟩ := bcell hb8; have hc8_0 := fun o => hc8 (w.heap.size) o (by first | assumption | omega | (simp; done) | (simp; omega)); have hf8_0 := fun o => hf8 (w.heap.size) o (by first | assumption | omega | (simp; done) | (simp; omega)); clear hc8 hf8; have hz8_0 : w.heap.size < w8.heap.size := (by first | exact sz1 hb8 | exact sz2 hb8 | exact sz3 hb8 | (have := hb8.size; (try simp only [World.size_alloc, World.size_drew] at this); omega))))
      have hbel := Hbel.out
      have k0 := K0.out
      have k1 := K1.out
      have k2 := K2.out
      have S5 : w5.heap.size < w6.heap.size := sz1 hb6
      have S6 : w6.heap.size < w7.heap.size := sz1 hb7
      have S7 : w7.heap.size < w8.heap.size := sz1 hb8
      obtain ⟨X, hX⟩ : ∃ X, X = w8.alloc (.cells #[.int .i64 i2, .int .i64 y2, .int .i64 n2] 24) := ⟨_, rfl⟩
      have hBX : Below w.heap.size w X := by rw [hX]; repeat (first | (with_reducible exact Below.refl _ _) | (with_reducible assumption) | (with_reducible refine ba ?_) | (with_reducible refine bd ?_) | (with_reducible refine bdn ?_ _) | (with_reducible refine bset ?_ (by first | exact Nat.le_refl _ | omega | (simp; done) | (simp; omega))) | (with_reducible refine bt ?_ (by with_reducible assumption)))
      have x0 : Box X w.heap.size #[.int .i64 fr.rule, .int .i64 fr.year, .int .i64 fr.nom] 24 := by rw [hX]; repeat (first | (with_reducible assumption) | (with_reducible exact Box.new _ _ _) | (with_reducible refine Box.old ?_) | (with_reducible refine Box.drew ?_) | (with_reducible refine Box.drewN ?_ _) | (with_reducible refine Box.other ?_ (by first | assumption | omega | (simp; omega))) | (with_reducible refine Box.later ?_ (by with_reducible assumption)))
      have x1 : Box X (w.heap.size + 1) #[.int .i64 ot.rule, .int .i64 ot.year, .int .i64 ot.nom] 24 := by rw [hX]; repeat (first | (with_reducible assumption) | (with_reducible exact Box.new _ _ _) | (with_reducible refine Box.old ?_) | (with_reducible refine Box.drew ?_) | (with_reducible refine Box.drewN ?_ _) | (with_reducible refine Box.other ?_ (by first | assumption | omega | (simp; omega))) | (with_reducible refine Box.later ?_ (by with_reducible assumption)))
      have x2 : Box X (w.heap.size + 1 + 1) #[.int .i64 s.fr, .int .i64 s.to] 26 := by rw [hX]; repeat (first | (with_reducible assumption) | (with_reducible exact Box.new _ _ _) | (with_reducible refine Box.old ?_) | (with_reducible refine Box.drew ?_) | (with_reducible refine Box.drewN ?_ _) | (with_reducible refine Box.other ?_ (by first | assumption | omega | (simp; omega))) | (with_reducible refine Box.later ?_ (by with_reducible assumption)))
      have x3 : Box X w5.heap.size #[.int .i64 i1, .int .i64 y1, .int .i64 n1] 24 := by rw [hX]; repeat (first | (with_reducible assumption) | (with_reducible exact Box.new _ _ _) | (with_reducible refine Box.old ?_) | (with_reducible refine Box.drew ?_) | (with_reducible refine Box.drewN ?_ _) | (with_reducible refine Box.other ?_ (by first | assumption | omega | (simp; omega))) | (with_reducible refine Box.later ?_ (by with_reducible assumption)))
      have x4 : Box X w6.heap.size #[.int .i64 i1, .int .i64 y1, .int .i64 n1] 24 := by rw [hX]; repeat (first | (with_reducible assumption) | (with_reducible exact Box.new _ _ _) | (with_reducible refine Box.old ?_) | (with_reducible refine Box.drew ?_) | (with_reducible refine Box.drewN ?_ _) | (with_reducible refine Box.other ?_ (by first | assumption | omega | (simp; omega))) | (with_reducible refine Box.later ?_ (by with_reducible assumption)))
      have x5 : Box X w7.heap.size #[.int .i64 i2, .int .i64 y2, .int .i64 n2] 24 := by rw [hX]; repeat (first | (with_reducible assumption) | (with_reducible exact Box.new _ _ _) | (with_reducible refine Box.old ?_) | (with_reducible refine Box.drew ?_) | (with_reducible refine Box.drewN ?_ _) | (with_reducible refine Box.other ?_ (by first | assumption | omega | (simp; omega))) | (with_reducible refine Box.later ?_ (by with_reducible assumption)))
      have x6 : Box X w8.heap.size #[.int .i64 i2, .int .i64 y2, .int .i64 n2] 24 := by rw [hX]; repeat (first | (with_reducible assumption) | (with_reducible exact Box.new _ _ _) | (with_reducible refine Box.old ?_) | (with_reducible refine Box.drew ?_) | (with_reducible refine Box.drewN ?_ _) | (with_reducible refine Box.other ?_ (by first | assumption | omega | (simp; omega))) | (with_reducible refine Box.later ?_ (by with_reducible assumption)))
      rw [← hX]
      generalize w5.heap.size = q5 at *
      generalize w6.heap.size = q6 at *
      generalize w7.heap.size = q7 at *
      generalize w8.heap.size = q8 at *
      have hF : ∀ u, Below X.heap.size X u → (∀ o, u.cell? ⟨w.heap.size, o, none⟩ = (#[.int .i64 fr.rule, .int .i64 fr.year, .int .i64 fr.nom] : Array Value)[o]?) ∧ (∀ o, u.cell? ⟨w.heap.size + 1, o, none⟩ = (#[.int .i64 ot.rule, .int .i64 ot.year, .int .i64 ot.nom] : Array Value)[o]?) ∧ (∀ o, u.cell? ⟨w.heap.size + 1 + 1, o, none⟩ = (#[.int .i64 s.fr, .int .i64 s.to] : Array Value)[o]?) ∧ (∀ o, u.cell? ⟨q5, o, none⟩ = (#[.int .i64 i1, .int .i64 y1, .int .i64 n1] : Array Value)[o]?) ∧ (∀ o, u.cell? ⟨q6, o, none⟩ = (#[.int .i64 i1, .int .i64 y1, .int .i64 n1] : Array Value)[o]?) ∧ (∀ o, u.cell? ⟨q7, o, none⟩ = (#[.int .i64 i2, .int .i64 y2, .int .i64 n2] : Array Value)[o]?) ∧ (∀ o, u.cell? ⟨q8, o, none⟩ = (#[.int .i64 i2, .int .i64 y2, .int .i64 n2] : Array Value)[o]?) := fun u hu => ⟨(x0.later hu).cell, (x1.later hu).cell, (x2.later hu).cell, (x3.later hu).cell, (x4.later hu).cell, (x5.later hu).cell, (x6.later hu).cell⟩
      have HF := Lib.hid hF
      have HBX := Lib.hid hBX
      have HX0 := Lib.hid (HH.out.later hBX)
      have hS0 := hF X (Below.refl _ _)
      clear hF hBX x0 x1 x2 x3 x4 x5 x6 hX hbel k0 k1 k2 hb5 hb6 hb7 hb8 hc5_0 hf5_0 hz5_0 hc6_0 hf6_0 hz6_0 hc7_0 hf7_0 hz7_0 hc8_0 hf8_0 hz8_0 c0 l0 K0 K1 K2 Hbel S5 S6 S7
      go_region_held3 (fun w' => (∀ o, w'.cell? ⟨w.heap.size, o, none⟩ = (#[.int .i64 fr.rule, .int .i64 fr.year, .int .i64 fr.nom] : Array Value)[o]?) ∧ (∀ o, w'.cell? ⟨w.heap.size + 1, o, none⟩ = (#[.int .i64 ot.rule, .int .i64 ot.year, .int .i64 ot.nom] : Array Value)[o]?) ∧ (∀ o, w'.cell? ⟨w.heap.size + 1 + 1, o, none⟩ = (#[.int .i64 s.fr, .int .i64 s.to] : Array Value)[o]?) ∧ (∀ o, w'.cell? ⟨q5, o, none⟩ = (#[.int .i64 i1, .int .i64 y1, .int .i64 n1] : Array Value)[o]?) ∧ (∀ o, w'.cell? ⟨q6, o, none⟩ = (#[.int .i64 i1, .int .i64 y1, .int .i64 n1] : Array Value)[o]?) ∧ (∀ o, w'.cell? ⟨q7, o, none⟩ = (#[.int .i64 i2, .int .i64 y2, .int .i64 n2] : Array Value)[o]?) ∧ (∀ o, w'.cell? ⟨q8, o, none⟩ = (#[.int .i64 i2, .int .i64 y2, .int .i64 n2] : Array Value)[o]?)) ((refine (fun h => h) (HF.out _ ?_); repeat (first | (with_reducible exact Below.refl _ _) | (with_reducible assumption) | (with_reducible refine ba ?_) | (with_reducible refine bd ?_) | (with_reducible refine bdn ?_ _) | (with_reducible refine bset ?_ (by first | exact Nat.le_refl _ | omega | (simp; done) | (simp; omega))) | (with_reducible refine bt ?_ (by with_reducible assumption)))))
        (first
          | (go_at_call 13; (with_reducible refine (Cls.out _).mono ?_); rintro e w20 ⟨rfl, hb20⟩)
          | (go_at_call 14; (with_reducible refine (Rls.out _).mono ?_); rintro e w21 ⟨rfl, hb21⟩)
          | (go_at_call 16; (with_reducible refine (Cin.out _ ?_).mono ?_); (· exact HX0.out.later (by repeat (first | (with_reducible exact Below.refl _ _) | (with_reducible assumption) | (with_reducible refine ba ?_) | (with_reducible refine bd ?_) | (with_reducible refine bdn ?_ _) | (with_reducible refine bset ?_ (by first | exact Nat.le_refl _ | omega | (simp; done) | (simp; omega))) | (with_reducible refine bt ?_ (by with_reducible assumption))))); rintro e w22 ⟨v22, rfl, hr22, hb22⟩)
          | (go_at_call 17; (with_reducible refine (Rin.out _ ?_).mono ?_); (· exact HX0.out.later (by repeat (first | (with_reducible exact Below.refl _ _) | (with_reducible assumption) | (with_reducible refine ba ?_) | (with_reducible refine bd ?_) | (with_reducible refine bdn ?_ _) | (with_reducible refine bset ?_ (by first | exact Nat.le_refl _ | omega | (simp; done) | (simp; omega))) | (with_reducible refine bt ?_ (by with_reducible assumption))))); rintro e w23 ⟨v23, rfl, hr23, hb23⟩)
          | (go_at_call 15; (with_reducible refine (RIn.Same (L := L) (v1 := v22) (v2 := v23) (B1 := ?b1) (B2 := ?b2) ?r1 ?r2 HLn.out).mono ?_); (case r1 => repeat (first | (with_reducible exact hr22) | (with_reducible refine own_drew ?_) | (with_reducible refine own_later ?_ (by with_reducible assumption)))); (case r2 => repeat (first | (with_reducible exact hr23) | (with_reducible refine own_drew ?_) | (with_reducible refine own_later ?_ (by with_reducible assumption)))); rintro e w24 ⟨rfl, hb24⟩)
          | (go_at_call 6; (with_reducible refine (Clv.out _).mono ?_); rintro e w25 ⟨rfl, hb25⟩))
      all_goals go_wp2
      all_goals go_ret
      all_goals exact ⟨rfl, bt HBX.out (by repeat (first | (with_reducible exact Below.refl _ _) | (with_reducible assumption) | (with_reducible refine ba ?_) | (with_reducible refine bd ?_) | (with_reducible refine bdn ?_ _) | (with_reducible refine bset ?_ (by first | exact Nat.le_refl _ | omega | (simp; done) | (simp; omega))) | (with_reducible refine bt ?_ (by with_reducible assumption))))⟩
theorem tellsW (v : Value) (l : List RuleV) (name : ByteArray) (fr ot : OccV) (s : SpanV) (year most : Int) (w : World) (h : Holds w v l) (_ : name.size ≤ 9223372036854775807) (hfr : fr.Fit) (_ : ot.Fit) (hs : s.Fit) (_ : I64 year) (_ : I64 most) :
    Calls Tryz.prog 3 #[v, .string name, .agg fr.cells.toArray, .agg ot.cells.toArray, .agg s.cells.toArray, .int .i64 year, .int .i64 most] w fun e w' => e = .returned (.bool true) ∧ Below w.heap.size w w' := by
  cases hl : Lgt.light l
  · exact tells0 h name fr ot s year most (.inl hl)
  by_cases hm : most ≤ 40
  · exact tells1 h name fr ot s year most hfr.n hs.f hl hm
  · exact tells0 h name fr ot s year most (.inr (by omega))
end L25
end Go.Proofs.YtopdjebnfhfpcaaGreatDoor
