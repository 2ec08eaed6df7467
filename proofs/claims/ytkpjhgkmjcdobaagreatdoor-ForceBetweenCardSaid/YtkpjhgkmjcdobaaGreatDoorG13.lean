import Derived.Test.YtkpjhgkmjcdobaaGreatDoorG7
import Derived.Test.YtkpjhgkmjcdobaaGreatDoorG2
import Derived.RangeFuncNested
import Derived.RangeFuncBound
import Derived.RangeFuncCalls
import Derived.RangeFuncLeaves
import Derived.Test.YtkpjhgkmjcdobaaGreatDoorG1
/-
  era.Right, and what it asks: what they give, as the program runs them.
-/
namespace Go.Proofs.YtkpjhgkmjcdobaaGreatDoor
open Go.RowKit NB
/-- where an era ends -/
structure UntilV where
  has : Bool
  year : Int
  month : Int
  kind : Int
  week : Int
  day : Int
  sec : Int
  base : Int
def UntilV.cells (u : UntilV) : List Value := [.bool u.has, .int .i64 u.year, .int .i64 u.month, .int .i64 u.kind, .int .i64 u.week, .int .i64 u.day, .int .i64 u.sec, .int .i64 u.base]
structure EraV where
  off : Int
  kind : Int
  save : Int
  rules : ByteArray
  format : ByteArray
  u : UntilV
def EraV.cells (e : EraV) : List Value := [.int .i64 e.off, .int .i64 e.kind, .int .i64 e.save, .string e.rules, .string e.format, .bool e.u.has, .int .i64 e.u.year, .int .i64 e.u.month, .int .i64 e.u.kind, .int .i64 e.u.week, .int .i64 e.u.day, .int .i64 e.u.sec, .int .i64 e.u.base]
/-- what an era's parts may hold, whatever it is -/
structure EraV.Fit (e : EraV) : Prop where
  r : e.rules.size ≤ 9223372036854775807
  f : e.format.size ≤ 9223372036854775807
  off : I64 e.off
  save : I64 e.save
  year : I64 e.u.year
  sec : I64 e.u.sec
namespace Er
theorem within (n m : Int) (hm : 0 ≤ m ∧ m ≤ 9223372036854775807) (w : World) : Calls Tryz.prog 73 #[.int .i64 n, .int .i64 m] w fun e w' => e = .returned (.bool (decide (-m ≤ n) && decide (n ≤ m))) ∧ w = w' := by
  go_enter Tryz.func73, Tryz.ntmps73
  go_wp2
  all_goals
    go_ret
    refine ⟨ret_bool ?_, rfl⟩
    simp [*]
    try omega
theorem inside (y : Int) (w : World) : Calls Tryz.prog 120 #[.int .i64 y] w fun e w' => e = .returned (.bool (decide (-32767 < y) && decide (y < 32767))) ∧ w = w' := by
  go_enter Tryz.func120, Tryz.ntmps120
  go_wp2
  all_goals
    go_ret
    refine ⟨ret_bool ?_, rfl⟩
    simp [*]
    try omega
def noneB (u : UntilV) : Bool := decide (u.year = 0) && decide (u.month = 0) && decide (u.kind = 0) && decide (u.week = 0) && decide (u.day = 0) && decide (u.sec = 0) && decide (u.base = 0)
def yearB (y : Int) : Bool := decide (-32767 < y) && decide (y < 32767)
def endB (u : UntilV) : Bool := if u.has then yearB u.year && Day.fits u.kind u.week u.day u.month && Rul.clockRight u.sec u.base else noneB u
set_option maxHeartbeats 1600000 in
theorem ends (u : UntilV) (w : World) : Calls Tryz.prog 75 #[.agg u.cells.toArray] w fun e w' => e = .returned (.bool (endB u)) ∧ Below w.heap.size w w' := by
  have ci := fun W => inside u.year W
  have cf := fun W => Day.Fits u.kind u.week u.day u.month W
  have cc := fun W => Rul.ClockRight u.sec u.base W
  rw [show (decide (-32767 < u.year) && decide (u.year < 32767)) = yearB u.year from rfl] at ci
  unfold endB UntilV.cells
  cases hh : u.has
  · rw [if_neg (by decide)]
    clear ci cf cc hh
    unfold noneB
    go_enter Tryz.func75, Tryz.ntmps75
    go_wp2
    all_goals
      go_ret
      exact ⟨ret_bool (by simp [*]), by repeat (first | (with_reducible exact Below.refl _ _) | (with_reducible assumption) | (with_reducible refine ba ?_) | (with_reducible refine bd ?_) | (with_reducible refine bdn ?_ _) | (with_reducible refine bset ?_ (by first | exact Nat.le_refl _ | omega | (simp; done) | (simp; omega))) | (with_reducible refine bt ?_ (by with_reducible assumption)))⟩
  · rw [if_pos rfl]
    generalize yearB u.year = g1 at *
    generalize Day.fits u.kind u.week u.day u.month = g2 at *
    generalize Rul.clockRight u.sec u.base = g3 at *
    have Ci := Lib.hid ci
    have Cf := Lib.hid cf
    have Cc := Lib.hid cc
    clear ci cf cc hh
    go_enter Tryz.func75, Tryz.ntmps75
    go_wp2_with (first
      | (go_at_call 120; (with_reducible refine (Ci.out _).mono ?_); rintro e w' ⟨rfl, rfl⟩)
      | (go_at_call 77; (with_reducible refine (Cf.out _).mono ?_); rintro e w1 ⟨rfl, hb1⟩; obtain ⟨hc1, hf1⟩ := bcell hb1; have hc1_0 := fun o => hc1 (w.heap.size) o (by first | assumption | omega | (simp; done) | (simp; omega)); have hf1_0 := fun o => hf1 (w.heap.size) o (by first | assumption | omega | (simp; done) | (simp; omega)); clear hc1 hf1; have hz1_0 : w.heap.size < w1.heap.size := (by first | exact sz1 hb1 | exact sz2 hb1 | exact sz3 hb1 | (have := hb1.size; (try simp only [World.size_alloc, World.size_drew] at this); omega)))
      | (go_at_call 121; (with_reducible refine (Cc.out _).mono ?_); rintro e w2 ⟨rfl, hb2⟩; obtain ⟨hc2, hf2⟩ := bcell hb2; have hc2_0 := fun o => hc2 (w.heap.size) o (by first | assumption | omega | (simp; done) | (simp; omega)); have hf2_0 := fun o => hf2 (w.heap.size) o (by first | assumption | omega | (simp; done) | (simp; omega)); clear hc2 hf2; have hz2_0 : w.heap.size < w2.heap.size := (by first | exact sz1 hb2 | exact sz2 hb2 | exact sz3 hb2 | (have := hb2.size; (try simp only [World.size_alloc, World.size_drew] at this); omega))))
    all_goals
      go_ret
      exact ⟨ret_bool (by simp [*]), by repeat (first | (with_reducible exact Below.refl _ _) | (with_reducible assumption) | (with_reducible refine ba ?_) | (with_reducible refine bd ?_) | (with_reducible refine bdn ?_ _) | (with_reducible refine bset ?_ (by first | exact Nat.le_refl _ | omega | (simp; done) | (simp; omega))) | (with_reducible refine bt ?_ (by with_reducible assumption)))⟩
/-- whether an era may be -/
def rightB (e : EraV) : Bool := if (decide (-54000 ≤ e.off) && decide (e.off ≤ 54000)) = true ∧ Fmt.checkE e.format = 0 ∧ endB e.u = true then
    (if e.kind = 0 then decide (e.save = 0) && e.rules.toList.isEmpty else if e.kind = 1 then decide (-10800 ≤ e.save) && decide (e.save ≤ 10800) && e.rules.toList.isEmpty else if e.kind = 2 then decide (e.save = 0) && decide (Nam.nameE e.rules = 0) else false) else false
set_option maxRecDepth 100000 in
set_option maxHeartbeats 6400000 in
theorem Right (e : EraV) (he : e.Fit) (w : World) (ht : Tab w) : Calls Tryz.prog 38 #[.agg e.cells.toArray] w fun x w' => x = .returned (.bool (rightB e)) ∧ Below w.heap.size w w' := by
  have c1 := fun W => within e.off 54000 (by omega) W
  have c2 := fun W => within e.save 10800 (by omega) W
  have c3 := fun W h => Fmt.Check e.format he.f W h
  have c4 := fun W => ends e.u W
  have c5 := fun W => Nam.Name e.rules he.r W
  obtain ⟨off, kind, save, rules, format, u⟩ := e
  simp only at c1 c2 c3 c4 c5
  have hoff : I64 off := he.off
  have hsave : I64 save := he.save
  unfold rightB EraV.cells
  unfold UntilV.cells at c4
  simp only
  generalize (decide (-54000 ≤ off) && decide (off ≤ 54000)) = g1 at *
  generalize (decide (-10800 ≤ save) && decide (save ≤ 10800)) = g2 at *
  generalize Fmt.checkE format = k1 at *
  generalize endB u = g3 at *
  generalize Nam.nameE rules = k2 at *
  obtain ⟨ne, hne⟩ : ∃ x, x = rules.toList.isEmpty := ⟨_, rfl⟩
  rw [← hne]
  have es : rules.toList.isEmpty = ne := hne.symm
  obtain ⟨pe, hpe⟩ : ∃ x : Bool, x = (if g1 = true ∧ k1 = 0 ∧ g3 = true then (if kind = 0 then decide (save = 0) && ne else if kind = 1 then g2 && ne else if kind = 2 then decide (save = 0) && decide (k2 = 0) else false) else false) := ⟨_, rfl⟩
  rw [← hpe]
  have Hpe := Lib.hid hpe
  have C1 := Lib.hid c1
  have C2 := Lib.hid c2
  have C3 := Lib.hid c3
  have C4 := Lib.hid c4
  have C5 := Lib.hid c5
  have HT := Lib.hid ht
  clear hpe c1 c2 c3 c4 c5 ht hne he
  have hk : kind = 0 ∨ kind = 1 ∨ kind = 2 ∨ (¬ kind = 0 ∧ ¬ kind = 1 ∧ ¬ kind = 2) := by omega
  rcases hk with rfl | rfl | rfl | ⟨k0, k1', k2'⟩
  all_goals
    go_enter Tryz.func38, Tryz.ntmps38
    go_wp2_with (first
      | (with_reducible (go_at_call 73; (with_reducible refine (C1.out _).mono ?_); rintro e w' ⟨rfl, rfl⟩))
      | (with_reducible (go_at_call 73; (with_reducible refine (C2.out _).mono ?_); rintro e w' ⟨rfl, rfl⟩))
      | (go_at_call 74; (with_reducible refine (C3.out _ ?_).mono ?_); (· exact HT.out.later (by repeat (first | (with_reducible exact Below.refl _ _) | (with_reducible assumption) | (with_reducible refine ba ?_) | (with_reducible refine bd ?_) | (with_reducible refine bdn ?_ _) | (with_reducible refine bset ?_ (by first | exact Nat.le_refl _ | omega | (simp; done) | (simp; omega))) | (with_reducible refine bt ?_ (by with_reducible assumption))))); rintro e w1 ⟨rfl, hb1⟩; obtain ⟨hc1, hf1⟩ := bcell hb1; have hc1_0 := fun o => hc1 (w.heap.size) o (by first | assumption | omega | (simp; done) | (simp; omega)); have hf1_0 := fun o => hf1 (w.heap.size) o (by first | assumption | omega | (simp; done) | (simp; omega)); clear hc1 hf1; have hz1_0 : w.heap.size < w1.heap.size := (by first | exact sz1 hb1 | exact sz2 hb1 | exact sz3 hb1 | (have := hb1.size; (try simp only [World.size_alloc, World.size_drew] at this); omega)))
      | (go_at_call 75; (with_reducible refine (C4.out _).mono ?_); rintro e w2 ⟨rfl, hb2⟩; obtain ⟨hc2, hf2⟩ := bcell hb2; have hc2_0 := fun o => hc2 (w.heap.size) o (by first | assumption | omega | (simp; done) | (simp; omega)); have hf2_0 := fun o => hf2 (w.heap.size) o (by first | assumption | omega | (simp; done) | (simp; omega)); clear hc2 hf2; have hz2_0 : w.heap.size < w2.heap.size := (by first | exact sz1 hb2 | exact sz2 hb2 | exact sz3 hb2 | (have := hb2.size; (try simp only [World.size_alloc, World.size_drew] at this); omega)))
      | (go_at_call 76; (with_reducible refine (C5.out _).mono ?_); rintro e w3 ⟨rfl, hb3⟩; obtain ⟨hc3, hf3⟩ := bcell hb3; have hc3_0 := fun o => hc3 (w.heap.size) o (by first | assumption | omega | (simp; done) | (simp; omega)); have hf3_0 := fun o => hf3 (w.heap.size) o (by first | assumption | omega | (simp; done) | (simp; omega)); clear hc3 hf3; have hz3_0 : w.heap.size < w3.heap.size := (by first | exact sz1 hb3 | exact sz2 hb3 | exact sz3 hb3 | (have := hb3.size; (try simp only [World.size_alloc, World.size_drew] at this); omega))))
  all_goals
    go_ret
    have hpe := Hpe.out
    simp only [*, if_true, if_false, true_and, and_true, false_and, and_false, Bool.false_eq_true, Int.reduceEq, eq_self, decide_true, decide_false, Bool.true_and, Bool.false_and] at hpe
    refine ⟨ret_bool ?_, by repeat (first | (with_reducible exact Below.refl _ _) | (with_reducible assumption) | (with_reducible refine ba ?_) | (with_reducible refine bd ?_) | (with_reducible refine bdn ?_ _) | (with_reducible refine bset ?_ (by first | exact Nat.le_refl _ | omega | (simp; done) | (simp; omega))) | (with_reducible refine bt ?_ (by with_reducible assumption)))⟩
    first
      | (rw [hpe]; done)
      | (rw [hpe]; first
        | rfl
        | (simp [*]; done)
        | (rw [Bool.eq_iff_iff]; simp [*]; done)
        | (rw [Bool.eq_iff_iff]; simp [*]; omega))
end Er
end Go.Proofs.YtkpjhgkmjcdobaaGreatDoor
/-
  A loop over an iterator that keeps a variable of its own in a block of cells: the law of one such statement.
-/
namespace Go.Proofs.YtkpjhgkmjcdobaaGreatDoor
open Go.RowKit NB
namespace Rng
variable {F : Fence} {n : Nat} {P : Program}
/-- What such an iterator does, called in w: c is its own block. -/
def Iter {α : Type} (F : Fence) (n : Nat) (P : Program) (g : Nat) (lb : Array Value) (encs : α → Array Value) (xs : List α) (Kp : Nat → World → World → Prop) (w : World) : Prop :=
  ∀ (l : Nat) (J : Nat → List α → World → Prop) (Jx : List α → World → Prop),
    (∀ c pre A B, J c pre A → Below A.heap.size A B → J c pre B) →
    (∀ c pre A o v, w.heap.size ≤ c → J c pre A → J c pre (A.setCell ⟨c, o, none⟩ v)) →
    (∀ c pre x A, w.heap.size ≤ c → c < A.heap.size → J c pre A → YieldAt F (n - 1) P l (encs x) A fun e B => (e = .returned (.bool true) ∧ J c (pre ++ [x]) B ∧ Kp c A B) ∨ (e = .returned (.bool false) ∧ Jx (pre ++ [x]) B)) →
    (∀ c, w.heap.size ≤ c → J c [] w) →
    CallsIn F n P g (#[.func (.yield l) #[] #[]] ++ lb) w fun e B => (∃ v, e = .returned v) ∧ ((∃ c, w.heap.size ≤ c ∧ J c xs B) ∨ (∃ pre, pre <+: xs ∧ Jx pre B))
theorem grown_of_below {A B : World} (h : Below A.heap.size A B) : A.grownBy B none := ⟨h.os, h.tape, h.output, h.size, fun k hk _ => h.block k hk⟩
/-- How a round's body may be left. -/
def Left {α : Type} (B : Nat) (Kp : World → World → Prop) (I : List α → World → Prop) (Ix : Code → List α → World → Prop) (xs : List α) (W : World) : Exit → Act → World → Prop
  | .normal, _, V => KeepsFrom B W V ∧ Kp W V ∧ I xs V
  | .ret, _, V => KeepsFrom B W V ∧ Ix .ret xs V
  | .exit id, _, V => KeepsFrom B W V ∧ Ix (.exit id) xs V
  | .goto t, _, V => KeepsFrom B W V ∧ Ix (.goto t) xs V
  | .panic _, _, _ => False
  | .outgrown, _, _ => False
theorem range {α : Type} {g : Operand} {ps : Array Tmp} {assign body : Code} {Q : Exit → Act → World → Prop} {a : Act} {w : World}
    (hro : F.round = none) (h1 : 1 ≤ n) {gf : Nat} {lb : Array Value} (hg : a.eval g = .func (.func gf) #[] lb) (hFg : F.fn gf) (eg : ∀ args w, (callFunc gf args).run P w = .ok (.enter gf args) w)
    {encs : α → Array Value} {xs : List α} {Kp : Nat → World → World → Prop}
    (hseq : ∀ W, Below w.heap.size w W → w.heap.size + 2 ≤ W.heap.size → Iter F (n - 1) P gf lb encs xs Kp W)
    (hKt : ∀ {c : Nat} {A B C : World}, Kp c A B → Kp c B C → Kp c A C)
    (hKb : ∀ (c : Nat) (W : World) (l : Nat) (o o' : Obj), w.heap.size ≤ l → l < w.heap.size + 2 → w.heap.size + 2 ≤ c → W.heap[l]? = some o → Kp c W (W.putObj l o'))
    (hps : ∀ x, (encs x).size = ps.size)
    (I : Nat → List α → World → Prop) (Ix : Code → List α → World → Prop) (hI : ∀ c, OwnFrom w.heap.size (I c))
    (hIc : ∀ c pre A o v, w.heap.size + 2 ≤ c → I c pre A → I c pre (A.setCell ⟨c, o, none⟩ v)) (hIx : ∀ c, OwnFrom w.heap.size (Ix c)) (h0 : ∀ c, w.heap.size + 2 ≤ c → I c [] w)
    (Ax : Nat → α → Act → World → Prop) (hAx : ∀ c x a', OwnFrom w.heap.size (fun (_ : Unit) W => Ax c x a' W))
    (hassign : ∀ (l c : Nat) (pre : List α) (x : α) (W : World) (K : Act → World → Prop), w.heap.size + 2 ≤ c → c < W.heap.size → I c pre W → (∀ a' V, KeepsFrom w.heap.size W V → Kp c W V → I c pre V → Ax c x a' V → K a' V) →
      assign.wpIn (F.inRound l) (n - 1 - 1) P (Exit.then K (fun _ _ _ => False)) { tmps := (ps.zip (encs x)).foldl (fun t (p, v) => t.setIfInBounds p v) a.tmps, defers := [] } W)
    (hbody : ∀ (l c : Nat) (pre : List α) (x : α) (a' : Act) (W : World), w.heap.size + 2 ≤ c → c < W.heap.size → I c pre W → Ax c x a' W → body.wpIn (F.inRound l) (n - 1 - 1) P (Left w.heap.size (Kp c) (I c) Ix (pre ++ [x]) W) a' W)
    (hdone : ∀ (D c : Nat) (W : World), w.heap.size ≤ D → w.heap.size + 2 ≤ c → I c xs W → W.heap[D]? = some (.deferred (some [])) → Q .normal { a with defers := { target := .collected D, args := #[] } :: a.defers } W)
    (hstop : ∀ (D : Nat) (c : Code) (pre : List α) (W : World), w.heap.size ≤ D → pre <+: xs → Ix c pre W → W.heap[D]? = some (.deferred (some [])) → c.wpIn F n P Q { a with defers := { target := .collected D, args := #[] } :: a.defers } W) :
    (Code.rangeFunc g ps assign body).wpIn F n P Q a w := by
  refine wpIn_rangeFunc fun fn hfn => ?_
  rw [hro]
  obtain ⟨rec, hrec⟩ : ∃ rec : LoopState → Option Code → Loop, rec = fun st pe => { state := st, pending := pe, fn, tmps := a.tmps, params := ps, assign, body, defers := w.heap.size } := ⟨_, rfl⟩
  obtain ⟨V, hV⟩ : ∃ V, V = (w.alloc (.deferred (some []))).alloc (.loop (rec .ready none)) := ⟨_, rfl⟩
  have hs : V.heap.size = w.heap.size + 2 := by rw [hV]; simp
  have hL : V.heap[w.heap.size + 1]? = some (.loop (rec .ready none)) := by
    have := World.alloc_heap_new (w.alloc (.deferred (some []))) (.loop (rec .ready none))
    rwa [World.size_alloc, ← hV] at this
  have hD : V.heap[w.heap.size]? = some (.deferred (some [])) := by
    rw [hV]
    exact (Below.heap_alloc _ _ _ (by simp)).trans (World.alloc_heap_new w _)
  have hBV : Below w.heap.size w V := by rw [hV]; exact ba (ba (Below.refl _ _))
  refine ⟨w.heap.size + 1, [{ target := .collected w.heap.size, args := #[] }], V, { target := .fn (.func gf) lb, args := #[.func (.yield (w.heap.size + 1)) #[] #[]] }, V, gf,
    #[.func (.yield (w.heap.size + 1)) #[] #[]] ++ lb, V, ?_, ?_, ?_, ?_, fun _ => h1, ?_⟩
  · rw [hV, hrec]; exact run_enterLoop_outer _ _ _ _ _
  · simp only [resolve, hg]
    simp [go_sem]
  · intro f' hf'; simp [Target.leads] at hf'; subst hf'; exact hFg
  · simp [invoke, go_sem, eg]
  · have turn : ∀ {A : World} (jump : Option Code), A.heap[w.heap.size + 1]? = some (.loop { rec .ready none with state := .busy }) → A.heap[w.heap.size]? = some (.deferred (some [])) →
        (Instr.endRound (w.heap.size + 1) jump).run P A = .ok (.bool jump.isNone) (A.putObj (w.heap.size + 1) (.loop (rec (if jump.isNone then .ready else .done) jump))) ∧
          (A.putObj (w.heap.size + 1) (.loop (rec (if jump.isNone then .ready else .done) jump))).heap[w.heap.size + 1]? = some (.loop (rec (if jump.isNone then .ready else .done) jump)) ∧
          (A.putObj (w.heap.size + 1) (.loop (rec (if jump.isNone then .ready else .done) jump))).heap[w.heap.size]? = some (.deferred (some [])) := by
      intro A jump hl hd
      have := run_endRound (P := P) jump hl
      rw [hrec] at this ⊢
      exact ⟨this, World.putObj_heap_same (Array.getElem?_eq_some_iff.1 hl).1, (World.putObj_heap_other (by omega)).trans hd⟩
    refine (hseq V hBV (by omega) (w.heap.size + 1)
      (fun c pre W => w.heap.size + 2 ≤ c ∧ I c pre W ∧ W.heap[w.heap.size + 1]? = some (.loop (rec .ready none)) ∧ W.heap[w.heap.size]? = some (.deferred (some [])))
      (fun pre W => ∃ c, Ix c pre W ∧ W.heap[w.heap.size + 1]? = some (.loop (rec .done (some c))) ∧ W.heap[w.heap.size]? = some (.deferred (some [])))
      ?_ ?_ ?_ ?_).mono ?_
    · rintro c pre A B ⟨hc, hi, hl, hd⟩ hb
      exact ⟨hc, hI c pre A B none hi (grown_of_below hb) (fun r e => by cases e), (hb.block _ (Array.getElem?_eq_some_iff.1 hl).1).trans hl, (hb.block _ (Array.getElem?_eq_some_iff.1 hd).1).trans hd⟩
    · rintro c pre A o v hc ⟨hc2, hi, hl, hd⟩
      exact ⟨hc2, hIc c pre A o v hc2 hi, (Below.heap_setCell A ⟨c, o, none⟩ v _ (by show _ ≠ c; omega)).trans hl, (Below.heap_setCell A ⟨c, o, none⟩ v _ (by show _ ≠ c; omega)).trans hd⟩
    · rintro c pre x W hc hcW ⟨hc2, hi, hl, hd⟩
      have hy := run_yield (P := P) (args := encs x) hl (by rw [hrec]; exact hps x)
      rw [hrec] at hy
      refine ⟨fn, _, assign, body, hy, roundIn_of_wpIn hfn (hassign _ c pre x W _ hc2 hcW hi fun a' X hkX hpX hiX hax => ?_)⟩
      clear hy
      have hlX := hkX.same _ _ (by omega) hl rfl
      have hdX := hkX.same _ _ (Nat.le_refl _) hd rfl
      have hltX : w.heap.size + 1 < X.heap.size := (Array.getElem?_eq_some_iff.1 hlX).1
      refine ⟨_, run_beginRound hlX (by rw [hrec]), ?_⟩
      obtain ⟨Y, hY⟩ : ∃ Y, Y = X.putObj (w.heap.size + 1) (.loop { rec .ready none with state := .busy }) := ⟨_, rfl⟩
      rw [← hY]
      have hlY : Y.heap[w.heap.size + 1]? = some (.loop { rec .ready none with state := .busy }) := by rw [hY]; exact World.putObj_heap_same hltX
      have hdY : Y.heap[w.heap.size]? = some (.deferred (some [])) := by rw [hY]; exact (World.putObj_heap_other (by omega)).trans hdX
      have hpY : Kp c X Y := by rw [hY]; exact hKb c X _ _ _ (by omega) (by omega) hc2 hlX
      have hiY : I c pre Y := by rw [hY]; exact (hI c).putObj _ hiX (by omega) hlX rfl
      have haY : Ax c x a' Y := by rw [hY]; exact (hAx c x a').putObj (s := ()) _ hax (by omega) hlX rfl
      have hsY : Y.heap.size = X.heap.size := by rw [hY]; simp
      refine wpIn_mono (hbody _ c pre x a' Y hc2 (by rw [hsY]; exact Nat.lt_of_lt_of_le hcW hkX.size) hiY haY) ?_
      rintro e b Z hp
      cases e with
      | normal =>
        obtain ⟨hk, hpZ, hiZ⟩ := hp
        obtain ⟨hr, e1, e2⟩ := turn none (hk.same _ _ (by omega) hlY rfl) (hk.same _ _ (Nat.le_refl _) hdY rfl)
        have hlZ := hk.same _ _ (by omega) hlY rfl
        exact ⟨_, _, hr, .inl ⟨rfl, ⟨hc2, (hI c).putObj _ hiZ (by omega) hlZ rfl, e1, e2⟩, hKt hpX (hKt hpY (hKt hpZ (hKb c Z _ _ _ (by omega) (by omega) hc2 hlZ)))⟩⟩
      | ret =>
        obtain ⟨hk, hiZ⟩ := hp
        have hlZ := hk.same _ _ (by omega) hlY rfl
        obtain ⟨hr, e1, e2⟩ := turn (some .ret) hlZ (hk.same _ _ (Nat.le_refl _) hdY rfl)
        exact ⟨_, _, hr, .inr ⟨rfl, .ret, (hIx _).putObj _ hiZ (by omega) hlZ rfl, e1, e2⟩⟩
      | exit id =>
        obtain ⟨hk, hiZ⟩ := hp
        have hlZ := hk.same _ _ (by omega) hlY rfl
        obtain ⟨hr, e1, e2⟩ := turn (some (.exit id)) hlZ (hk.same _ _ (Nat.le_refl _) hdY rfl)
        exact ⟨_, _, hr, .inr ⟨rfl, .exit id, (hIx _).putObj _ hiZ (by omega) hlZ rfl, e1, e2⟩⟩
      | goto t =>
        obtain ⟨hk, hiZ⟩ := hp
        have hlZ := hk.same _ _ (by omega) hlY rfl
        obtain ⟨hr, e1, e2⟩ := turn (some (.goto t)) hlZ (hk.same _ _ (Nat.le_refl _) hdY rfl)
        exact ⟨_, _, hr, .inr ⟨rfl, .goto t, (hIx _).putObj _ hiZ (by omega) hlZ rfl, e1, e2⟩⟩
      | panic ch => exact hp.elim
      | outgrown => exact hp.elim
    · intro c hc
      exact ⟨by omega, by rw [hV]; exact (hI c).alloc _ ((hI c).alloc _ (h0 c (by omega))), hL, hD⟩
    · rintro e W ⟨⟨v, rfl⟩, (⟨c, hc, hc2, hi, hl, hd⟩ | ⟨pre, hpre, c, hi, hl, hd⟩)⟩
      · exact ⟨none, _, by have := run_endLoop (P := P) hl (by rw [hrec]; simp); rw [hrec] at this; exact this, hdone _ c _ (Nat.le_refl _) hc2 ((hI c).putObj _ hi (by omega) hl rfl) ((World.putObj_heap_other (by omega)).trans hd)⟩
      · exact ⟨some c, _, by have := run_endLoop (P := P) hl (by rw [hrec]; simp); rw [hrec] at this; exact this, hstop _ c pre _ (Nat.le_refl _) hpre ((hIx c).putObj _ hi (by omega) hl rfl) ((World.putObj_heap_other (by omega)).trans hd)⟩
end Rng
end Go.Proofs.YtkpjhgkmjcdobaaGreatDoor
