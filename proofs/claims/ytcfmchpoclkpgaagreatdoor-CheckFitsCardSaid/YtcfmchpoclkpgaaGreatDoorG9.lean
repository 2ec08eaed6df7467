import Derived.Test.YtcfmchpoclkpgaaGreatDoorG6
import Derived.Test.YtcfmchpoclkpgaaGreatDoorG8
import Derived.Test.YtcfmchpoclkpgaaGreatDoorG5
import Derived.Deep.RegionHeld3
namespace Go.Proofs.YtcfmchpoclkpgaaGreatDoor
open Go.RowKit NB
structure OccV where
  rule : Int
  year : Int
  nom : Int
deriving DecidableEq
def OccV.cells (o : OccV) : List Value := [.int .i64 o.rule, .int .i64 o.year, .int .i64 o.nom]
namespace Occ
def less (a b : OccV) : Bool := decide (a.nom < b.nom) || (decide (a.nom = b.nom) && decide (a.rule < b.rule))
def more (a b : OccV) : Bool := less b a
theorem less_iff {a b : OccV} : less a b = true ↔ a.nom < b.nom ∨ (a.nom = b.nom ∧ a.rule < b.rule) := by
  unfold less;simp
structure Weak (lt : OccV → OccV → Bool) : Prop where
  irr : ∀ a, lt a a = false
  tr : ∀ a b c, lt a b = true → lt b c = true → lt a c = true
  neg : ∀ a b c, lt a b = false → lt b c = false → lt a c = false
  alike : ∀ a b, lt a b = false → lt b a = false → a.nom = b.nom ∧ a.rule = b.rule
theorem weak_less : Weak less where
  irr a := by unfold less;simp
  tr a b c h1 h2 := by rw [less_iff] at *;omega
  neg a b c h1 h2 := by
    rw [Bool.eq_false_iff, Ne, less_iff] at *;omega
  alike a b h1 h2 := by
    rw [Bool.eq_false_iff, Ne, less_iff] at *;omega
theorem weak_more : Weak more where
  irr a := weak_less.irr a
  tr a b c h1 h2 := weak_less.tr c b a h2 h1
  neg a b c h1 h2 := weak_less.neg c b a h2 h1
  alike a b h1 h2 := weak_less.alike a b h2 h1
def Best (lt : OccV → OccV → Bool) (fr : OccV) (S : OccV → Prop) (b : Option OccV) : Prop :=
  match b with
  | none => ∀ o, S o → lt fr o = false
  | some a => S a ∧ lt fr a = true ∧ ∀ o, S o → lt fr o = true → lt o a = false
def merge (lt : OccV → OccV → Bool) (b c : Option OccV) : Option OccV :=
  match b, c with
  | b, none => b
  | none, some o => some o
  | some a, some o => if lt o a then some o else some a
variable {lt : OccV → OccV → Bool} {fr : OccV} {S T : OccV → Prop}
theorem Best.merge (W : Weak lt) {b c : Option OccV} (h : Best lt fr S b) (h' : Best lt fr T c) : Best lt fr (fun o => S o ∨ T o) (merge lt b c) := by
  cases b with
  | none =>
    cases c with
    | none => exact fun o ho => ho.elim (h o) (h' o)
    | some o =>
      obtain ⟨h1, h2, h3⟩ := h'
      refine ⟨.inr h1, h2, fun x hx hl => ?_⟩
      rcases hx with hx|hx
      · rw [h x hx] at hl;cases hl
      · exact h3 x hx hl
  | some a =>
    cases c with
    | none =>
      obtain ⟨h1, h2, h3⟩ := h
      refine ⟨.inl h1, h2, fun x hx hl => ?_⟩
      rcases hx with hx|hx
      · exact h3 x hx hl
      · rw [h' x hx] at hl;cases hl
    | some o =>
      obtain ⟨h1, h2, h3⟩ := h
      obtain ⟨g1, g2, g3⟩ := h'
      unfold Occ.merge
      cases hc : lt o a
      · show Best lt fr _ (if lt o a = true then some o else some a)
        rw [if_neg (by rw [hc];decide)]
        refine ⟨.inl h1, h2, fun x hx hl => ?_⟩
        rcases hx with hx|hx
        · exact h3 x hx hl
        · exact W.neg _ _ _ (g3 x hx hl) hc
      · show Best lt fr _ (if lt o a = true then some o else some a)
        rw [if_pos hc]
        refine ⟨.inr g1, g2, fun x hx hl => ?_⟩
        rcases hx with hx|hx
        · rw [Bool.eq_false_iff]
          intro hh
          have := h3 x hx hl
          rw [W.tr _ _ _ hh hc] at this
          cases this
        · exact g3 x hx hl
theorem Best.congr {b : Option OccV} (h : Best lt fr S b) (he : ∀ o, S o ↔ T o) : Best lt fr T b := by
  have : S = T := funext fun o => propext (he o)
  rwa [← this]
theorem Best.dom (W : Weak lt) {b : Option OccV} (h : Best lt fr S b) (hs : ∀ o, S o → T o) (hd : ∀ o, T o → lt fr o = true → ∃ p, S p ∧ lt fr p = true ∧ lt o p = false) : Best lt fr T b := by
  cases b with
  | none =>
    intro o ho
    rw [Bool.eq_false_iff]
    intro hl
    obtain ⟨p, hp, hp2, _⟩ := hd o ho hl
    rw [h p hp] at hp2
    cases hp2
  | some a =>
    obtain ⟨h1, h2, h3⟩ := h
    refine ⟨hs a h1, h2, fun o ho hl => ?_⟩
    obtain ⟨p, hp, hp2, hp3⟩ := hd o ho hl
    exact W.neg _ _ _ hp3 (h3 p hp hp2)
def one (lt : OccV → OccV → Bool) (fr o : OccV) : Option OccV := if lt fr o then some o else none
def nomR (r : RuleV) (y : Int) : Int := Day.dayI r.kind r.week r.day y r.month * 86400 + r.sec
def occ (r : RuleV) (i y : Int) : OccV := ⟨i, y, nomR r y⟩
def Of (r : RuleV) (i : Int) (o : OccV) : Prop := r.fr ≤ o.year ∧ o.year ≤ r.to ∧ o = occ r i o.year
theorem day_near {k wk d y m : Int} (h : Day.fits k wk d m = true) : Cal.days y m 1 - 6 ≤ Day.dayI k wk d y m ∧ Day.dayI k wk d y m ≤ Cal.days y m 1 + 36 := by
  have h1 := Day.days31 h
  have h2 := Cal.len_le y m
  obtain ⟨m1, m2, _, _⟩ := Day.fits_spec h
  have h3 := Cal.len_bd y m m1 m2
  unfold Day.dayI
  have b1 := Day.backI_bd (Cal.days y m 1 + Cal.len y m - 1) wk
  have b2 := Day.backI_bd (Cal.days y m 1 + d - 1 + 6) wk
  have b3 := Day.backI_bd (Cal.days y m 1 + d - 1) wk
  have hk := Day.kinds h
  rcases hk with rfl|rfl|rfl|rfl
  · simp only [if_true];omega
  · have := (Day.fits_spec h).2.2.2
    simp only [Int.reduceEq, if_false];omega
  · have := (Day.fits_spec h).2.2.2
    simp only [Int.reduceEq, if_false, if_true];omega
  · have := (Day.fits_spec h).2.2.2
    simp only [Int.reduceEq, if_false, if_true];omega
theorem first_ahead {y m : Int} (m1 : 1 ≤ m) (m2 : m ≤ 12) : Cal.ahead y ≤ Cal.days y m 1 ∧ Cal.days y m 1 ≤ Cal.ahead y + 338 := by
  have h1 := Cal.cum_bd y m m1 m2
  have h2 := Cal.len_bd y m m1 m2
  have h3 := Cal.lp_01 y
  unfold Cal.days;omega
theorem first_mono {y y' m : Int} (m1 : 1 ≤ m) (m2 : m ≤ 12) (h : y ≤ y') : Cal.days y m 1 + 365 * (y' - y) - 1 ≤ Cal.days y' m 1 := by
  have h1 := Cal.ahead_mono h
  have h2 := Cal.lp_01 y
  have h3 := Cal.lp_01 y'
  have h4 : Cal.cum y m - 1 ≤ Cal.cum y' m := by
    unfold Cal.cum
    rcases Cal.months m1 m2 with rfl|rfl|rfl|rfl|rfl|rfl|rfl|rfl|rfl|rfl|rfl|rfl <;> simp <;> omega
  unfold Cal.days;omega
theorem nom_mono {r : RuleV} (hr : Rul.right r = true) {y y' : Int} (h : y < y') : nomR r y + 27820800 ≤ nomR r y' := by
  have hf := (Rul.right_spec hr).2.1
  obtain ⟨m1, m2, _, _⟩ := Day.fits_spec hf
  have h1 := day_near (y := y) hf
  have h2 := day_near (y := y') hf
  have h3 := first_mono m1 m2 (Int.le_of_lt h)
  unfold nomR
  omega
theorem nom_lt {r : RuleV} (hr : Rul.right r = true) {y y' : Int} : nomR r y < nomR r y' ↔ y < y' := by
  constructor
  · intro h
    rcases Int.lt_trichotomy y y' with h1|h1|h1
    · exact h1
    · subst h1;omega
    · have := nom_mono hr h1;omega
  · intro h
    have := nom_mono hr h;omega
theorem nom_ahead {r : RuleV} (hr : Rul.right r = true) (y : Int) : (Cal.ahead y - 6) * 86400 ≤ nomR r y ∧ nomR r y ≤ (Cal.ahead y + 376) * 86400 := by
  have hf := (Rul.right_spec hr).2.1
  obtain ⟨m1, m2, _, _⟩ := Day.fits_spec hf
  have h1 := day_near (y := y) hf
  have h2 := first_ahead (y := y) m1 m2
  have h3 := (Rul.right_spec hr).2.2.1
  unfold nomR
  omega
def Near (t Y : Int) : Prop := (∀ r, Rul.right r = true → ∀ y, r.fr ≤ y → y ≤ r.to → y < Y - 1 → nomR r y < t) ∧ (∀ r, Rul.right r = true → ∀ y, r.fr ≤ y → y ≤ r.to → Y + 1 < y → t < nomR r y)
theorem near_of {t Y : Int} (h1 : Cal.ahead Y * 86400 ≤ t) (h2 : t < Cal.ahead (Y + 1) * 86400) : Near t Y := by
  constructor
  · intro r hr y _ _ hy
    have := (nom_ahead hr y).2
    have := Cal.ahead_mono (show y ≤ Y by omega)
    omega
  · intro r hr y _ _ hy
    have := (nom_ahead hr y).1
    have := Cal.ahead_mono (show Y + 1 ≤ y by omega)
    omega
def clampI (n lo hi : Int) : Int := if n < lo then lo else if hi < n then hi else n
def nearY (t : Int) : Int := Yr.dY (clampI t (-1099511627776) 1099511627776 / 86400)
theorem nom_range {r : RuleV} (hr : Rul.right r = true) {y : Int} (h1 : r.fr ≤ y) (h2 : y ≤ r.to) : -1099000000000 < nomR r y ∧ nomR r y < 1099000000000 := by
  have h3 := (Rul.right_spec hr).1
  have h4 := nom_ahead hr y
  have h5 := Cal.ahead_mono (show (-32767 : Int) ≤ y by omega)
  have h6 := Cal.ahead_mono (show y ≤ (32767 : Int) by omega)
  have e1 : Cal.ahead (-32767) = -12687428 := by decide +kernel
  have e2 : Cal.ahead 32767 = 11248373 := by decide +kernel
  omega
theorem near_nearY (t : Int) : Near t (nearY t) := by
  have h := Yr.year_of (clampI t (-1099511627776) 1099511627776 / 86400)
  have hn : Near (clampI t (-1099511627776) 1099511627776) (nearY t) := near_of (Y := nearY t) (by unfold nearY;omega) (by unfold nearY;omega)
  unfold clampI at hn
  split at hn
  · constructor
    · intro r hr y a b c
      have := nom_range hr a b
      have := hn.1 r hr y a b c
      omega
    · intro r hr y a b c
      have := nom_range hr a b
      omega
  · split at hn
    · constructor
      · intro r hr y a b c
        have := nom_range hr a b
        omega
      · intro r hr y a b c
        have := nom_range hr a b
        have := hn.2 r hr y a b c
        omega
    · exact hn
end Occ
end Go.Proofs.YtcfmchpoclkpgaaGreatDoor
namespace Go.Proofs.YtcfmchpoclkpgaaGreatDoor
open Go.RowKit NB
namespace Cmp
def cmpI (a b : Int) : Int := if a < b then -1 else if b < a then 1 else 0
theorem NaN64 (x : Int) (w : World) : Calls Tryz.prog 256 #[.int .i64 x] w fun e w' => e = .returned (.bool false) ∧ w = w' := by
  go_enter Tryz.func256, Tryz.ntmps256
  go_wp2
  go_ret
  exact ⟨ret_bool (by simp), rfl⟩
theorem NaN (x : Int) (w : World) : Calls Tryz.prog 257 #[.int .i64 x] w fun e w' => e = .returned (.bool false) ∧ w = w' := by
  go_enter Tryz.func257, Tryz.ntmps257
  go_wp2
  go_ret
  exact ⟨ret_bool (by simp), rfl⟩
theorem Compare64 (x y : Int) (w : World) : Calls Tryz.prog 202 #[.int .i64 x, .int .i64 y] w fun e w' => e = .returned (.int .i64 (cmpI x y)) ∧ w = w' := by
  unfold cmpI
  rcases Int.lt_trichotomy x y with h|h|h
  · rw [if_pos h]
    go_enter Tryz.func202, Tryz.ntmps202
    go_wp2_with (go_at_call 256;(with_reducible refine (NaN64 _ _).mono ?_);rintro e w' ⟨rfl, rfl⟩)
    go_ret
    exact ⟨rfl, rfl⟩
  · subst h
    rw [if_neg (by omega), if_neg (by omega)]
    go_enter Tryz.func202, Tryz.ntmps202
    go_wp2_with (go_at_call 256;(with_reducible refine (NaN64 _ _).mono ?_);rintro e w' ⟨rfl, rfl⟩)
    go_ret
    exact ⟨rfl, rfl⟩
  · rw [if_neg (by omega), if_pos h]
    go_enter Tryz.func202, Tryz.ntmps202
    go_wp2_with (go_at_call 256;(with_reducible refine (NaN64 _ _).mono ?_);rintro e w' ⟨rfl, rfl⟩)
    go_ret
    exact ⟨rfl, rfl⟩
theorem Compare (x y : Int) (w : World) : Calls Tryz.prog 203 #[.int .i64 x, .int .i64 y] w fun e w' => e = .returned (.int .i64 (cmpI x y)) ∧ w = w' := by
  unfold cmpI
  rcases Int.lt_trichotomy x y with h|h|h
  · rw [if_pos h]
    go_enter Tryz.func203, Tryz.ntmps203
    go_wp2_with (go_at_call 257;(with_reducible refine (NaN _ _).mono ?_);rintro e w' ⟨rfl, rfl⟩)
    go_ret
    exact ⟨rfl, rfl⟩
  · subst h
    rw [if_neg (by omega), if_neg (by omega)]
    go_enter Tryz.func203, Tryz.ntmps203
    go_wp2_with (go_at_call 257;(with_reducible refine (NaN _ _).mono ?_);rintro e w' ⟨rfl, rfl⟩)
    go_ret
    exact ⟨rfl, rfl⟩
  · rw [if_neg (by omega), if_pos h]
    go_enter Tryz.func203, Tryz.ntmps203
    go_wp2_with (go_at_call 257;(with_reducible refine (NaN _ _).mono ?_);rintro e w' ⟨rfl, rfl⟩)
    go_ret
    exact ⟨rfl, rfl⟩
def orL : List Int → Int
  | [] => 0
  | z :: zs => if z = 0 then orL zs else z
theorem orL_drop : ∀ (zs : List Int) (k : Nat), (∀ j z, j < k → zs[j]? = some z → z = 0) → orL zs = orL (zs.drop k)
  | [], k, _ => by simp
  | z :: zs, 0, _ => rfl
  | z :: zs, k + 1, h => by
    have hz := h 0 z (by omega) rfl
    subst hz
    rw [List.drop_succ_cons, ← orL_drop zs k (fun j z hj hz => h (j + 1) z (by omega) (by simpa using hz))]
    rfl
theorem orL_at {zs : List Int} {k : Nat} {z : Int} (h : ∀ j z, j < k → zs[j]? = some z → z = 0) (hz : zs[k]? = some z) (hn : z ≠ 0) : orL zs = z := by
  rw [orL_drop zs k h]
  obtain ⟨hk, he⟩ := List.getElem?_eq_some_iff.1 hz
  rw [List.drop_eq_getElem_cons hk, he]
  unfold orL
  rw [if_neg hn]
theorem orL_end {zs : List Int} (h : ∀ j z, j < zs.length → zs[j]? = some z → z = 0) : orL zs = 0 := by
  rw [orL_drop zs zs.length h]
  simp [orL]
def Seen (zs : List Int) (k : Nat) : Prop := ∀ j z, j < k → zs[j]? = some z → z = 0
theorem Seen.succ {zs : List Int} {k : Nat} (h : Seen zs k) (hz : zs[k]? = some 0) : Seen zs (k + 1) := by
  intro j z hj hz'
  by_cases hjk : j = k
  · subst hjk
    rw [hz] at hz'
    cases hz'
    rfl
  · exact h j z (by omega) hz'
theorem Or (b off cap : Nat) (zs : List Int) (w : World) (hc : ∀ j z, zs[j]? = some z → w.cell? ⟨b, off + j, none⟩ = some (.int .i64 z)) (hl : zs.length ≤ 1000) :
    Calls Tryz.prog 201 #[.slice (some ⟨b, off, none⟩) zs.length cap] w fun e w' => e = .returned (.int .i64 (orL zs)) ∧ w = w' := by
  have Hc := Lib.hid hc
  clear hc
  obtain ⟨n, hn⟩ : ∃ n, n = zs.length := ⟨_, rfl⟩
  rw [← hn] at hl ⊢
  have Hn := Lib.hid hn
  clear hn
  go_enter Tryz.func201, Tryz.ntmps201
  go_wp2
  go_loop [8] (fun i => ∃ k : Nat, k ≤ n ∧ i = .int .i64 k ∧ Seen zs k) (fun i => n - (intOf i).toNat)
  case atStart => exact ⟨0, Nat.zero_le _, rfl, fun j _ hj _ => by omega⟩
  case round =>
    obtain ⟨k, hk, rfl, hs⟩ := hrel
    by_cases hlt : k < n
    · obtain ⟨z, hz⟩ : ∃ z, zs[k]? = some z := ⟨zs[k]'(by have := Hn.out;omega), by simp⟩
      have hcell := Hc.out k z hz
      have Hz := Lib.hid hz
      clear hz
      by_cases h0 : z = 0
      · subst h0
        go_wp2
        go_round
        case rel => exact ⟨k + 1, by omega, by go_num, hs.succ Hz.out⟩
        case measure => simp [intOf];omega
      · have hb : (z != 0) = true := by simpa using h0
        have H0 := Lib.hid h0
        clear h0
        go_wp2
        go_ret
        exact ⟨ret_int (orL_at hs Hz.out H0.out).symm, rfl⟩
    · go_wp2
      go_ret
      exact ⟨ret_int (orL_end (fun j z hj => hs j z (by have := Hn.out;omega))).symm, rfl⟩
theorem orL_cmp (a b : OccV) : decide (orL [cmpI a.nom b.nom, cmpI a.rule b.rule] < 0) = Occ.less a b := by
  unfold orL orL orL cmpI Occ.less
  rcases Int.lt_trichotomy a.nom b.nom with h|h|h
  · rw [if_pos h];simp [h]
  · rcases Int.lt_trichotomy a.rule b.rule with g|g|g
    · simp [h, g]
    · simp [h, g]
    · have : ¬ a.rule < b.rule := by omega
      simp [h, g, this]
  · have : ¬ a.nom < b.nom := by omega
    have : ¬ a.nom = b.nom := by omega
    simp [*]
set_option maxHeartbeats 1600000 in
theorem Less (a b : OccV) (w : World) : Calls Tryz.prog 143 #[.agg a.cells.toArray, .agg b.cells.toArray] w fun e w' => e = .returned (.bool (Occ.less a b)) ∧ Below w.heap.size w w' := by
  rw [← orL_cmp]
  unfold OccV.cells
  have co := fun (W : World) (n : Nat) (x y : Int) (h0 : W.cell? ⟨n, 0, none⟩ = some (.int .i64 x)) (h1 : W.cell? ⟨n, 1, none⟩ = some (.int .i64 y)) => Or n 0 2 [x, y] W (by
    intro j z hz
    match j with
    | 0 => cases hz;exact h0
    | 1 => cases hz;exact h1
    | j + 2 => simp at hz) (by simp)
  simp only [List.length_cons, List.length_nil, Nat.zero_add, Nat.reduceAdd] at co
  have Co := Lib.hid co
  clear co
  go_enter Tryz.func143, Tryz.ntmps143
  go_wp2
  obtain ⟨V, hV⟩ : ∃ V, V = (w.alloc (.cells #[.int .i64 a.rule, .int .i64 a.year, .int .i64 a.nom] 149)).alloc (.cells #[.int .i64 b.rule, .int .i64 b.year, .int .i64 b.nom] 149) := ⟨_, rfl⟩
  rw [← hV]
  obtain ⟨⟨v0, v1⟩, hB, hF⟩ := box2 hV
  clear hV
  have HF := Lib.hid hF
  have h0 := HF.out V (Below.refl _ _)
  clear hF
  go_region_held3 (fun w' => (∀ o, w'.cell? ⟨w.heap.size, o, none⟩ = (#[.int .i64 a.rule, .int .i64 a.year, .int .i64 a.nom] : Array Value)[o]?) ∧ (∀ o, w'.cell? ⟨w.heap.size + 1, o, none⟩ = (#[.int .i64 b.rule, .int .i64 b.year, .int .i64 b.nom] : Array Value)[o]?)) ((refine (fun h => ⟨h.1, h.2.1⟩) (HF.out _ ?_);repeat (first|(with_reducible exact Below.refl _ _)|(with_reducible assumption)|(with_reducible refine ba ?_)|(with_reducible refine bd ?_)|(with_reducible refine bdn ?_ _)|(with_reducible refine bset ?_ (by first|exact Nat.le_refl _|omega|(simp;done)|(simp;omega)))|(with_reducible refine bt ?_ (by with_reducible assumption)))))
    (first
      | (go_at_call 202;(with_reducible refine (Compare64 _ _ _).mono ?_);rintro e w' ⟨rfl, rfl⟩)
      | (go_at_call 203;(with_reducible refine (Compare _ _ _).mono ?_);rintro e w' ⟨rfl, rfl⟩)
      | (go_at_call 201;refine (Co.out _ _ _ _ (new_cell_drew V _ _ 0) (new_cell_drew V _ _ 1)).mono ?_;rintro e w' ⟨rfl, rfl⟩))
  all_goals go_wp2
  all_goals go_ret
  all_goals refine ⟨rfl, bt hB ?_⟩
  all_goals repeat (first|(with_reducible exact Below.refl _ _)|(with_reducible assumption)|(with_reducible refine ba ?_)|(with_reducible refine bd ?_)|(with_reducible refine bdn ?_ _)|(with_reducible refine bset ?_ (by first|exact Nat.le_refl _|omega|(simp;done)|(simp;omega)))|(with_reducible refine bt ?_ (by with_reducible assumption)))
end Cmp
end Go.Proofs.YtcfmchpoclkpgaaGreatDoor
