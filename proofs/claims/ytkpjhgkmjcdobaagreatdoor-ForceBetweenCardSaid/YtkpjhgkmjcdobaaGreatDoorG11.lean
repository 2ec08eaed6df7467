import Derived.Test.YtkpjhgkmjcdobaaGreatDoorG10
import Derived.Test.YtkpjhgkmjcdobaaGreatDoorG7
import Derived.Deep.DeepCutAuto
import Derived.Deep.RegionHeld3
/-
  A value that holds from each of some places on: where something else holds next, and where the value began. Plain data.
-/
namespace Go.Proofs.YtkpjhgkmjcdobaaGreatDoor
namespace Frc
section
variable {γ : Type} {S : OccV → Prop} {I : OccV → Int} {val : OccV → γ} {fst : γ}
/-- places in order, each with its instant -/
structure Line (S : OccV → Prop) (I : OccV → Int) : Prop where
  mono : ∀ x y, S x → S y → Occ.less x y = true → I x < I y
  tri : ∀ x y, S x → S y → Occ.less x y = true ∨ x = y ∨ Occ.less y x = true
def Last (S : OccV → Prop) (I : OccV → Int) (t : Int) : Option OccV → Prop
  | none => ∀ x, S x → t < I x
  | some o => S o ∧ I o ≤ t ∧ ∀ x, S x → Occ.less o x = true → t < I x
def state (val : OccV → γ) (fst : γ) : Option OccV → γ
  | none => fst
  | some o => val o
def After : Option OccV → OccV → Prop
  | none, _ => True
  | some o, x => Occ.less o x = true
/-- the first one behind that is another one -/
def Nxt (S : OccV → Prop) (val : OccV → γ) (c : Option OccV) (v : γ) : Option OccV → Prop
  | none => ∀ x, S x → After c x → val x = v
  | some y => S y ∧ After c y ∧ val y ≠ v ∧ ∀ x, S x → After c x → Occ.less x y = true → val x = v
/-- the last one ahead that is another one -/
def Prv (S : OccV → Prop) (val : OccV → γ) (o : OccV) (v : γ) : Option OccV → Prop
  | none => ∀ x, S x → Occ.less x o = true → val x = v
  | some y => S y ∧ Occ.less y o = true ∧ val y ≠ v ∧ ∀ x, S x → Occ.less x o = true → Occ.less y x = true → val x = v
/-- the one behind -/
def Suc (S : OccV → Prop) (c : Option OccV) : Option OccV → Prop
  | none => ∀ x, S x → ¬ After c x
  | some q => S q ∧ After c q ∧ ∀ x, S x → After c x → Occ.less x q = false
/-- where the value began -/
def Began (S : OccV → Prop) (val : OccV → γ) (fst : γ) (c r : Option OccV) : Prop := match c with
  | none => r = none
  | some o => (∃ x, Prv S val o (val o) (some x) ∧ Suc S (some x) r) ∨ (Prv S val o (val o) none ∧ fst = val o ∧ r = none) ∨ (Prv S val o (val o) none ∧ fst ≠ val o ∧ Suc S none r)
theorem Last.eq (L : Line S I) {t : Int} {a b : Option OccV} (ha : Last S I t a) (hb : Last S I t b) : a = b := by
  cases a with
  | none =>
    cases b with
    | none => rfl
    | some b => have := ha b hb.1; have := hb.2.1; omega
  | some a =>
    cases b with
    | none => have := hb a ha.1; have := ha.2.1; omega
    | some b =>
      rcases L.tri a b ha.1 hb.1 with h | h | h
      · have := ha.2.2 b hb.1 h; have := hb.2.1; omega
      · rw [h]
      · have := hb.2.2 a ha.1 h; have := ha.2.1; omega
/-- an instant's own place -/
theorem Last.at (L : Line S I) {y : OccV} (hy : S y) : Last S I (I y) (some y) := ⟨hy, Int.le_refl _, fun x hx hl => L.mono y x hy hx hl⟩
/-- where two seconds' places are the same, or one is behind -/
theorem Last.le (L : Line S I) {s t : Int} {a b : Option OccV} (ha : Last S I s a) (hb : Last S I t b) (h : s ≤ t) : b = a ∨ ∃ z, b = some z ∧ After a z := by
  cases b with
  | none =>
    cases a with
    | none => exact .inl rfl
    | some a => have := hb a ha.1; have := ha.2.1; omega
  | some z =>
    cases a with
    | none => exact .inr ⟨z, rfl, trivial⟩
    | some a =>
      rcases L.tri a z ha.1 hb.1 with h1 | h1 | h1
      · exact .inr ⟨z, rfl, h1⟩
      · exact .inl (by rw [h1])
      · have := hb.2.2 a ha.1 h1; have := ha.2.1; omega
/-- from a place on, up to another value -/
theorem on (L : Line S I) {s t : Int} {c d r : Option OccV} (hc : Last S I t c) (hd : Last S I s d) (hts : t ≤ s) (hn : Nxt S val c (state val fst c) r) (hr : ∀ y, r = some y → s < I y) : state val fst d = state val fst c := by
  rcases hc.le L hd hts with h | ⟨z, rfl, hz⟩
  · rw [h]
  · cases r with
    | none => exact hn z hd.1 hz
    | some y =>
      refine hn.2.2.2 z hd.1 hz ?_
      rcases L.tri z y hd.1 hn.1 with h | h | h
      · exact h
      · have := hr y rfl; have := hd.2.1; rw [h] at this; omega
      · have := L.mono y z hn.1 hd.1 h; have := hr y rfl; have := hd.2.1; omega
theorem next_gt {t : Int} {c : Option OccV} {v : γ} {y : OccV} (hc : Last S I t c) (hn : Nxt S val c v (some y)) : t < I y := by
  cases c with
  | none => exact hc y hn.1
  | some o => exact hc.2.2 y hn.1 hn.2.1
/-- the value just ahead of the next one -/
theorem next_ahead (L : Line S I) {t : Int} {c d : Option OccV} {y : OccV} (hc : Last S I t c) (hn : Nxt S val c (state val fst c) (some y)) (hd : Last S I (I y - 1) d) : state val fst d = state val fst c := by
  have := next_gt hc hn
  exact on L hc hd (by omega) hn (fun z hz => by cases hz; omega)
/-- the place just ahead of a place -/
theorem last_ahead (L : Line S I) {y : OccV} (hy : S y) {d : Option OccV} (hd : Last S I (I y - 1) d) : (∀ z, d = some z → S z ∧ Occ.less z y = true) ∧ ∀ x, S x → After d x → Occ.less x y = false := by
  constructor
  · rintro z rfl
    refine ⟨hd.1, ?_⟩
    rcases L.tri z y hd.1 hy with h | h | h
    · exact h
    · have := hd.2.1; rw [h] at this; omega
    · have := L.mono y z hy hd.1 h; have := hd.2.1; omega
  · intro x hx ha
    rw [Bool.eq_false_iff]
    intro hl
    have := L.mono x y hx hy hl
    cases d with
    | none => have := hd x hx; omega
    | some z => have := hd.2.2 x hx ha; omega
theorem Suc.eq (L : Line S I) {c a b : Option OccV} (ha : Suc S c a) (hb : Suc S c b) : a = b := by
  cases a with
  | none =>
    cases b with
    | none => rfl
    | some b => exact absurd hb.2.1 (ha b hb.1)
  | some a =>
    cases b with
    | none => exact absurd ha.2.1 (hb a ha.1)
    | some b =>
      rcases L.tri a b ha.1 hb.1 with h | h | h
      · rw [hb.2.2 a ha.1 ha.2.1] at h; cases h
      · rw [h]
      · rw [ha.2.2 b hb.1 hb.2.1] at h; cases h
/-- what is told at the next one: it began there -/
theorem next_back (L : Line S I) {t : Int} {c d r : Option OccV} {y : OccV} (hc : Last S I t c) (hn : Nxt S val c (state val fst c) (some y)) (hd : Last S I (I y - 1) d) (hb : Began S val fst (some y) r) : r = some y := by
  have hs := next_ahead L hc hn hd
  obtain ⟨h1, h2⟩ := last_ahead L hn.1 hd
  have hne : state val fst d ≠ val y := by rw [hs]; exact fun e => hn.2.2.1 e.symm
  have own : Suc S d (some y) := by
    refine ⟨hn.1, ?_, h2⟩
    cases d with
    | none => trivial
    | some z => exact (h1 z rfl).2
  rcases hb with ⟨x, hp, hq⟩ | ⟨hp, he, _⟩ | ⟨hp, he, hq⟩
  · cases d with
    | none =>
      have := h2 x hp.1 trivial
      rw [hp.2.1] at this; cases this
    | some z =>
      have hz := h1 z rfl
      have : x = z := by
        rcases L.tri x z hp.1 hz.1 with h | h | h
        · exact absurd (hp.2.2.2 z hz.1 hz.2 h) hne
        · exact h
        · have h3 := h2 x hp.1 h
          rw [hp.2.1] at h3; cases h3
      subst this
      exact hq.eq L own
  · cases d with
    | none => exact absurd he hne
    | some z => exact absurd (hp z (h1 z rfl).1 (h1 z rfl).2) hne
  · cases d with
    | none => exact hq.eq L own
    | some z => exact absurd (hp z (h1 z rfl).1 (h1 z rfl).2) hne
/-- what is known of where a value began -/
def Told (S : OccV → Prop) (I : OccV → Int) (val : OccV → γ) (fst : γ) (t : Int) (o q : OccV) : Prop :=
  S q ∧ (q = o ∨ Occ.less q o = true) ∧ I q ≤ t ∧ val q = val o ∧ (∀ x, S x → (x = q ∨ Occ.less q x = true) → (x = o ∨ Occ.less x o = true) → val x = val o) ∧ ∀ d, Last S I (I q - 1) d → state val fst d ≠ val o ∧ Suc S d (some q)
theorem told (L : Line S I) {t : Int} {o q : OccV} (hc : Last S I t (some o)) (c' : Option OccV) (g1 : ∀ x, c' = some x → S x ∧ Occ.less x o = true ∧ val x ≠ val o) (g0 : c' = none → fst ≠ val o) (g2 : ∀ x, S x → Occ.less x o = true → After c' x → val x = val o) (hq : Suc S c' (some q)) : Told S I val fst t o q := by
  have hle : ∀ q, S q → (q = o ∨ Occ.less q o = true) → I q ≤ t := by
    rintro q hq (rfl | h)
    · exact hc.2.1
    · have := L.mono q o hq hc.1 h; have := hc.2.1; omega
  have hqo : q = o ∨ Occ.less q o = true := by
    have hao : After c' o := by
      cases c' with
      | none => trivial
      | some x => exact (g1 x rfl).2.1
    have := hq.2.2 o hc.1 hao
    rcases L.tri q o hq.1 hc.1 with h | h | h
    · exact .inr h
    · exact .inl h
    · rw [h] at this; cases this
  have tr : ∀ x, (x = q ∨ Occ.less q x = true) → After c' x := by
    rintro x (rfl | h)
    · exact hq.2.1
    · cases c' with
      | none => trivial
      | some z => exact Occ.weak_less.tr _ _ _ hq.2.1 h
  have hval : ∀ x, S x → (x = q ∨ Occ.less q x = true) → (x = o ∨ Occ.less x o = true) → val x = val o := by
    rintro x hx h1 (rfl | h2)
    · rfl
    · exact g2 x hx h2 (tr x h1)
  refine ⟨hq.1, hqo, hle q hq.1 hqo, hval q hq.1 (.inl rfl) hqo, hval, fun d hd => ?_⟩
  obtain ⟨k1, k2⟩ := last_ahead L hq.1 hd
  have hdc : d = c' := by
    cases c' with
    | none =>
      cases d with
      | none => rfl
      | some z => have := hq.2.2 z (k1 z rfl).1 trivial; rw [(k1 z rfl).2] at this; cases this
    | some x =>
      have hx := g1 x rfl
      cases d with
      | none => have := k2 x hx.1 trivial; rw [hq.2.1] at this; cases this
      | some z =>
        have hz := k1 z rfl
        rcases L.tri x z hx.1 hz.1 with h | h | h
        · have := hq.2.2 z hz.1 h; rw [hz.2] at this; cases this
        · rw [h]
        · have := k2 x hx.1 h; rw [hq.2.1] at this; cases this
  rw [hdc]
  refine ⟨?_, hq⟩
  cases c' with
  | none => exact g0 rfl
  | some x => exact (g1 x rfl).2.2
/-- what began -/
theorem began_le (L : Line S I) {t : Int} {c : Option OccV} {q : OccV} (hc : Last S I t c) (hb : Began S val fst c (some q)) : ∃ o, c = some o ∧ Told S I val fst t o q := by
  cases c with
  | none => cases hb
  | some o =>
    refine ⟨o, rfl, ?_⟩
    rcases hb with ⟨x, hp, hq⟩ | ⟨_, _, h⟩ | ⟨hp, he, hq⟩
    · exact told L hc (some x) (fun z hz => by cases hz; exact ⟨hp.1, hp.2.1, hp.2.2.1⟩) (fun h => by cases h) (fun z hz h1 h2 => hp.2.2.2 z hz h1 h2) hq
    · cases h
    · exact told L hc none (fun z hz => by cases hz) (fun _ => he) (fun z hz h1 _ => hp z hz h1) hq
/-- what is told just ahead of where it began: it is next -/
theorem began_next (L : Line S I) {t : Int} {c d r : Option OccV} {q : OccV} (hc : Last S I t c) (hb : Began S val fst c (some q)) (hd : Last S I (I q - 1) d) (hn : Nxt S val d (state val fst d) r) : r = some q := by
  obtain ⟨o, _, hq, _, _, hv, _, h⟩ := began_le L hc hb
  obtain ⟨hne, hs⟩ := h d hd
  cases r with
  | none => exact absurd ((hn q hq hs.2.1).symm.trans hv) hne
  | some y =>
    rcases L.tri y q hn.1 hq with h | h | h
    · rw [hs.2.2 y hn.1 hn.2.1] at h; cases h
    · rw [h]
    · exact absurd ((hn.2.2.2 q hq hs.2.1 h).symm.trans hv) hne
/-- back from a place, down to where it began -/
theorem back (L : Line S I) {s t : Int} {c d r : Option OccV} (hc : Last S I t c) (hd : Last S I s d) (hst : s ≤ t) (hb : Began S val fst c r) (hr : ∀ q, r = some q → I q ≤ s) (h0 : r = none → ∀ o, c = some o → Prv S val o (val o) none ∧ fst = val o) : state val fst d = state val fst c := by
  rcases hd.le L hc hst with h | ⟨o, rfl, hz⟩
  · rw [h]
  · cases r with
    | none =>
      obtain ⟨h1, h2⟩ := h0 rfl o rfl
      cases d with
      | none => exact h2
      | some z => exact h1 z hd.1 hz
    | some q =>
      obtain ⟨o', ho, hq, hqo, _, hv, hval, _⟩ := began_le L hc hb
      cases ho
      have := hr q rfl
      cases d with
      | none => have := hd q hq; omega
      | some z =>
        refine hval z hd.1 ?_ (.inr hz)
        rcases L.tri z q hd.1 hq with h | h | h
        · have := hd.2.2 q hq h; omega
        · exact .inl h
        · exact .inr h
end
end Frc
end Go.Proofs.YtkpjhgkmjcdobaaGreatDoor
namespace Go.Proofs.YtkpjhgkmjcdobaaGreatDoor
open Go.RowKit NB
/-- n elements of sz cells each lie at block b from off on -/
def Lies (w : World) (b off sz : Nat) (cells : List (List Value)) : Prop := ∀ (i j : Nat) (cs : List Value) (v : Value), cells[i]? = some cs → cs[j]? = some v → w.cell? ⟨b, off + i * sz + j, none⟩ = some v
namespace Lgt
def lightR (r : RuleV) : Bool := decide (r.name.size ≤ 200) && decide (r.letter.size ≤ 200)
def light (l : List RuleV) : Bool := decide (l.length ≤ 12) && l.all lightR
theorem all_take_succ {α : Type} {p : α → Bool} {l : List α} {k : Nat} {r : α} (hr : l[k]? = some r) (h : (l.take k).all p = true) (hp : p r = true) : (l.take (k + 1)).all p = true := by
  rw [List.take_add_one, hr]
  simp only [Option.toList_some, List.all_append, List.all_cons, List.all_nil, Bool.and_true, Bool.and_eq_true]
  exact ⟨h, hp⟩
theorem all_false {α : Type} {p : α → Bool} {l : List α} {k : Nat} {r : α} (hr : l[k]? = some r) (hp : p r = false) : l.all p = false := by
  rw [Bool.eq_false_iff]
  intro h
  have := List.all_eq_true.mp h r (List.mem_of_getElem? hr)
  rw [hp] at this
  cases this
def Post (b : Bool) (w : World) (e : Ending) (w' : World) : Prop := e = .returned (.bool b) ∧ Below w.heap.size w w'
theorem LightNil (w : World) : Calls Tryz.prog 9 #[.slice none 0 0] w (Post true w) := by
  go_enter Tryz.func9, Tryz.ntmps9
  go_wp2
  go_loopw [10] (fun i wr => i = .int .i64 0 ∧ Below w.heap.size w wr) (fun i _ => 0)
  case atStart => exact ⟨rfl, Below.refl _ _⟩
  case round =>
    obtain ⟨rfl, hbel⟩ := hrel
    go_wp2
    go_ret
    exact ⟨rfl, hbel⟩
set_option maxHeartbeats 800000 in
theorem Light (b off cap : Nat) (l : List RuleV) (w : World) (hc : Lies w b off 11 (l.map RuleV.cells)) (hb : b < w.heap.size) (hcap : l.length ≤ 9223372036854775807) (hs : ∀ r ∈ l, r.Fit) : Calls Tryz.prog 9 #[.slice (some ⟨b, off, none⟩) l.length cap] w (Post (light l) w) := by
  have Hc := Lib.hid hc; clear hc
  have Hs := Lib.hid hs; clear hs
  by_cases hn : l.length ≤ 12
  · have hL : light l = l.all lightR := by unfold light; rw [decide_eq_true hn]; rfl
    rw [hL]
    clear hL
    generalize hN : l.length = n at hn hcap
    have HN := Lib.hid hN; clear hN
    go_enter Tryz.func9, Tryz.ntmps9
    go_wp2
    go_loopw [10] (fun i wr => ∃ k : Nat, k ≤ n ∧ i = .int .i64 k ∧ ((l.take k).all lightR) = true ∧ Below w.heap.size w wr) (fun i _ => n - (intOf i).toNat)
    case atStart => exact ⟨0, Nat.zero_le _, rfl, rfl, Below.refl _ _⟩
    case round =>
      obtain ⟨k, hk, rfl, hall, hbel⟩ := hrel
      have Hall := Lib.hid hall; clear hall
      by_cases hlt : k < n
      · have hbs := hbel.size
        obtain ⟨r, hr⟩ : ∃ r, l[k]? = some r := ⟨l[k]'(by rw [HN.out]; exact hlt), by simp⟩
        have Hbel := Lib.hid hbel; clear hbel
        have c (j : Nat) (v : Value) (hv : r.cells[j]? = some v) : wr.cell? ⟨b, off + k * 11 + j, none⟩ = some v := by
          rw [Hbel.out.cell (p := ⟨b, off + k * 11 + j, none⟩) hb]
          exact Hc.out k j _ v (by rw [List.getElem?_map, hr]; rfl) hv
        have c0 := c 0 _ rfl
        have c1 := c 1 _ rfl
        have c2 := c 2 _ rfl
        have c3 := c 3 _ rfl
        have c4 := c 4 _ rfl
        have c5 := c 5 _ rfl
        have c6 := c 6 _ rfl
        have c7 := c 7 _ rfl
        have c8 := c 8 _ rfl
        have c9 := c 9 _ rfl
        have c10 := c 10 _ rfl
        simp only [Nat.add_zero] at c0
        clear c
        have hs1 := (Hs.out r (List.mem_of_getElem? hr)).n
        have hs2 := (Hs.out r (List.mem_of_getElem? hr)).l
        have Hr := Lib.hid hr; clear hr
        go_wp2
        all_goals first
          | (
            refine ⟨⟨k + 1, hlt, rfl, all_take_succ Hr.out Hall.out ?_, Hbel.out.alloc hbs _⟩, (by simp [intOf]; omega)⟩
            unfold lightR
            rw [Bool.and_eq_true, decide_eq_true_eq, decide_eq_true_eq]
            omega)
          | (
            go_ret
            refine ⟨ret_bool (all_false Hr.out ?_).symm, Hbel.out.alloc hbs _⟩
            unfold lightR
            rw [Bool.and_eq_false_iff, decide_eq_false_iff_not, decide_eq_false_iff_not]
            omega)
      · go_wp2
        go_ret
        refine ⟨ret_bool ?_, hbel⟩
        have := Hall.out
        rw [List.take_of_length_le (by rw [HN.out]; omega)] at this
        exact this.symm
  · have hL : light l = false := by unfold light; rw [decide_eq_false hn]; rfl
    rw [hL]
    clear hL
    generalize l.length = n at hn hcap
    go_enter Tryz.func9, Tryz.ntmps9
    go_wp2
    go_ret
    exact ⟨rfl, Below.refl _ _⟩
end Lgt
end Go.Proofs.YtkpjhgkmjcdobaaGreatDoor
/-
  apart: windows, and which rules are too close, as the program runs them.
-/
namespace Go.Proofs.YtkpjhgkmjcdobaaGreatDoor
open Go.RowKit NB
namespace Apt
def wLow (r : RuleV) : Int := (Cal.cum 2001 r.month + 1 + Day.winLow r.kind r.day r.month - 2) * 86400 + r.sec
def wHigh (r : RuleV) : Int := (Cal.cum 2001 r.month + 1 + Day.winHigh r.kind r.day r.month - 2) * 86400 + r.sec
theorem win_bd {k wk d m : Int} (h : Day.fits k wk d m = true) : -10 ≤ Day.winLow k d m ∧ Day.winLow k d m ≤ 40 ∧ -10 ≤ Day.winHigh k d m ∧ Day.winHigh k d m ≤ 40 := by
  obtain ⟨_, _, _, _⟩ := Day.days31 h
  have h1 := Cal.len_le 1 m
  have h4 := Cal.len_le 4 m
  obtain ⟨h1m, h2m, _, _⟩ := Day.fits_spec h
  have h5 := Cal.len_bd 1 m h1m h2m
  unfold Day.winLow Day.winHigh
  repeat' split
  all_goals omega

end Apt
end Go.Proofs.YtkpjhgkmjcdobaaGreatDoor
/-
  apart, continued: which rules are too close.
-/
namespace Go.Proofs.YtkpjhgkmjcdobaaGreatDoor
open Go.RowKit NB
namespace Apt
def meetB (a b : RuleV) (n : Int) : Bool := decide (a.fr + n ≤ b.to) && decide (b.fr ≤ a.to + n)
def Yr (r : RuleV) : Prop := (-100000 ≤ r.fr ∧ r.fr ≤ 100000) ∧ (-100000 ≤ r.to ∧ r.to ≤ 100000)
def clearB (h l n : Int) : Bool := decide (345600 ≤ l + n - h)
def Sm (n : Int) : Prop := -1000000000000 ≤ n ∧ n ≤ 1000000000000
/-- a rule whose parts may be -/
structure Ok (r : RuleV) : Prop where
  f : Day.fits r.kind r.week r.day r.month = true
  s0 : 0 ≤ r.sec
  s1 : r.sec ≤ 172800
  y : Yr r
theorem win_sm {r : RuleV} (h : Ok r) : Sm (wLow r) ∧ Sm (wHigh r) := by
  obtain ⟨m1, m2, _, _⟩ := Day.fits_spec h.f
  obtain ⟨b1, b2, b3, b4⟩ := win_bd h.f
  have hc1 := Cal.cum_bd 2001 r.month m1 m2
  have hlp := Cal.lp_01 2001
  have hlen := Cal.len_bd 2001 r.month m1 m2
  have := h.s0
  have := h.s1
  unfold Sm wLow wHigh
  omega
def nearB (a b : RuleV) : Bool := (meetB a b 0 && !clearB (wHigh a) (wLow b) 0 && !clearB (wHigh b) (wLow a) 0) || (meetB a b 1 && !clearB (wHigh a) (wLow b) 31536000) || (meetB b a 1 && !clearB (wHigh b) (wLow a) 31536000)

end Apt
end Go.Proofs.YtkpjhgkmjcdobaaGreatDoor
/-
  apart: Window and Pair; the rules that the statements name; Light.
-/
namespace Go.Proofs.YtkpjhgkmjcdobaaGreatDoor
open Go.RowKit NB
namespace Apt
theorem ok_of {r : RuleV} (h : Rul.right r = true) : Ok r := by
  obtain ⟨h1, h2, h3, _⟩ := Rul.right_spec h
  refine ⟨h2, h3.2.2.1, h3.2.2.2, ?_⟩
  unfold Yr
  omega
def pairE (a b : RuleV) : Int := if Rul.right a && Rul.right b then (if nearB a b then 15 else 0) else 4
end Apt
end Go.Proofs.YtkpjhgkmjcdobaaGreatDoor
