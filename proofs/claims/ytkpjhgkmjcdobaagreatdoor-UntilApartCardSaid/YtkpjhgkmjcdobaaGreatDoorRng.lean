import Derived.RangeFuncNested
import Derived.RangeFuncBound
import Derived.RangeFuncCalls
import Derived.RangeFuncLeaves
import Derived.Test.YtkpjhgkmjcdobaaGreatDoorG6
/-
  A loop over an iterator that keeps a variable of its own in a block of cells: the law of one such statement.
-/
namespace Go.Proofs.YtkpjhgkmjcdobaaGreatDoor
open Go.RowKit NB
namespace Rng
variable {F : Fence} {n : Nat} {P : Program}
/-- What such an iterator does, called in w: c is its own block. -/
def Iter {α : Type} (F : Fence) (n : Nat) (P : Program) (g : Nat) (lb : Array Value) (encs : α → Array Value) (xs : List α) (Kp : Nat → World → World → Prop) (w : World) : Prop :=
  ∀ (l : Nat) (J : Nat → List α → World → Prop) (Jx : List α → World → Prop),
    (∀ c pre A B, J c pre A → Below A.heap.size A B → J c pre B) →
    (∀ c pre A o v, w.heap.size ≤ c → J c pre A → J c pre (A.setCell ⟨c, o, none⟩ v)) →
    (∀ c pre x A, w.heap.size ≤ c → c < A.heap.size → J c pre A → YieldAt F (n - 1) P l (encs x) A fun e B => (e = .returned (.bool true) ∧ J c (pre ++ [x]) B ∧ Kp c A B) ∨ (e = .returned (.bool false) ∧ Jx (pre ++ [x]) B)) →
    (∀ c, w.heap.size ≤ c → J c [] w) →
    CallsIn F n P g (#[.func (.yield l) #[] #[]] ++ lb) w fun e B => (∃ v, e = .returned v) ∧ ((∃ c, w.heap.size ≤ c ∧ J c xs B) ∨ (∃ pre, pre <+: xs ∧ Jx pre B))
theorem grown_of_below {A B : World} (h : Below A.heap.size A B) : A.grownBy B none := ⟨h.os, h.tape, h.output, h.size, fun k hk _ => h.block k hk⟩
/-- How a round's body may be left. -/
def Left {α : Type} (B : Nat) (Kp : World → World → Prop) (I : List α → World → Prop) (Ix : Code → List α → World → Prop) (xs : List α) (W : World) : Exit → Act → World → Prop
  | .normal, _, V => KeepsFrom B W V ∧ Kp W V ∧ I xs V
  | .ret, _, V => KeepsFrom B W V ∧ Ix .ret xs V
  | .exit id, _, V => KeepsFrom B W V ∧ Ix (.exit id) xs V
  | .goto t, _, V => KeepsFrom B W V ∧ Ix (.goto t) xs V
  | .panic _, _, _ => False
  | .outgrown, _, _ => False
theorem range {α : Type} {g : Operand} {ps : Array Tmp} {assign body : Code} {Q : Exit → Act → World → Prop} {a : Act} {w : World}
    (hro : F.round = none) (h1 : 1 ≤ n) {gf : Nat} {lb : Array Value} (hg : a.eval g = .func (.func gf) #[] lb) (hFg : F.fn gf) (eg : ∀ args w, (callFunc gf args).run P w = .ok (.enter gf args) w)
    {encs : α → Array Value} {xs : List α} {Kp : Nat → World → World → Prop}
    (hseq : ∀ W, Below w.heap.size w W → w.heap.size + 2 ≤ W.heap.size → Iter F (n - 1) P gf lb encs xs Kp W)
    (hKt : ∀ {c : Nat} {A B C : World}, Kp c A B → Kp c B C → Kp c A C)
    (hKb : ∀ (c : Nat) (W : World) (l : Nat) (o o' : Obj), w.heap.size ≤ l → l < w.heap.size + 2 → w.heap.size + 2 ≤ c → W.heap[l]? = some o → Kp c W (W.putObj l o'))
    (hps : ∀ x, (encs x).size = ps.size)
    (I : Nat → List α → World → Prop) (Ix : Code → List α → World → Prop) (hI : ∀ c, OwnFrom w.heap.size (I c))
    (hIc : ∀ c pre A o v, w.heap.size + 2 ≤ c → I c pre A → I c pre (A.setCell ⟨c, o, none⟩ v)) (hIx : ∀ c, OwnFrom w.heap.size (Ix c)) (h0 : ∀ c, w.heap.size + 2 ≤ c → I c [] w)
    (Ax : Nat → α → Act → World → Prop) (hAx : ∀ c x a', OwnFrom w.heap.size (fun (_ : Unit) W => Ax c x a' W))
    (hassign : ∀ (l c : Nat) (pre : List α) (x : α) (W : World) (K : Act → World → Prop), w.heap.size + 2 ≤ c → c < W.heap.size → I c pre W → (∀ a' V, KeepsFrom w.heap.size W V → Kp c W V → I c pre V → Ax c x a' V → K a' V) →
      assign.wpIn (F.inRound l) (n - 1 - 1) P (Exit.then K (fun _ _ _ => False)) { tmps := (ps.zip (encs x)).foldl (fun t (p, v) => t.setIfInBounds p v) a.tmps, defers := [] } W)
    (hbody : ∀ (l c : Nat) (pre : List α) (x : α) (a' : Act) (W : World), w.heap.size + 2 ≤ c → c < W.heap.size → I c pre W → Ax c x a' W → body.wpIn (F.inRound l) (n - 1 - 1) P (Left w.heap.size (Kp c) (I c) Ix (pre ++ [x]) W) a' W)
    (hdone : ∀ (D c : Nat) (W : World), w.heap.size ≤ D → w.heap.size + 2 ≤ c → I c xs W → W.heap[D]? = some (.deferred (some [])) → Q .normal { a with defers := { target := .collected D, args := #[] } :: a.defers } W)
    (hstop : ∀ (D : Nat) (c : Code) (pre : List α) (W : World), w.heap.size ≤ D → pre <+: xs → Ix c pre W → W.heap[D]? = some (.deferred (some [])) → c.wpIn F n P Q { a with defers := { target := .collected D, args := #[] } :: a.defers } W) :
    (Code.rangeFunc g ps assign body).wpIn F n P Q a w := by
  refine wpIn_rangeFunc fun fn hfn => ?_
  rw [hro]
  obtain ⟨rec, hrec⟩ : ∃ rec : LoopState → Option Code → Loop, rec = fun st pe => { state := st, pending := pe, fn, tmps := a.tmps, params := ps, assign, body, defers := w.heap.size } := ⟨_, rfl⟩
  obtain ⟨V, hV⟩ : ∃ V, V = (w.alloc (.deferred (some []))).alloc (.loop (rec .ready none)) := ⟨_, rfl⟩
  have hs : V.heap.size = w.heap.size + 2 := by rw [hV]; simp
  have hL : V.heap[w.heap.size + 1]? = some (.loop (rec .ready none)) := by
    have := World.alloc_heap_new (w.alloc (.deferred (some []))) (.loop (rec .ready none))
    rwa [World.size_alloc, ← hV] at this
  have hD : V.heap[w.heap.size]? = some (.deferred (some [])) := by
    rw [hV]
    exact (Below.heap_alloc _ _ _ (by simp)).trans (World.alloc_heap_new w _)
  have hBV : Below w.heap.size w V := by rw [hV]; exact ba (ba (Below.refl _ _))
  refine ⟨w.heap.size + 1, [{ target := .collected w.heap.size, args := #[] }], V, { target := .fn (.func gf) lb, args := #[.func (.yield (w.heap.size + 1)) #[] #[]] }, V, gf,
    #[.func (.yield (w.heap.size + 1)) #[] #[]] ++ lb, V, ?_, ?_, ?_, ?_, fun _ => h1, ?_⟩
  · rw [hV, hrec]; exact run_enterLoop_outer _ _ _ _ _
  · simp only [resolve, hg]
    simp [go_sem]
  · intro f' hf'; simp [Target.leads] at hf'; subst hf'; exact hFg
  · simp [invoke, go_sem, eg]
  · have turn : ∀ {A : World} (jump : Option Code), A.heap[w.heap.size + 1]? = some (.loop { rec .ready none with state := .busy }) → A.heap[w.heap.size]? = some (.deferred (some [])) →
        (Instr.endRound (w.heap.size + 1) jump).run P A = .ok (.bool jump.isNone) (A.putObj (w.heap.size + 1) (.loop (rec (if jump.isNone then .ready else .done) jump))) ∧
          (A.putObj (w.heap.size + 1) (.loop (rec (if jump.isNone then .ready else .done) jump))).heap[w.heap.size + 1]? = some (.loop (rec (if jump.isNone then .ready else .done) jump)) ∧
          (A.putObj (w.heap.size + 1) (.loop (rec (if jump.isNone then .ready else .done) jump))).heap[w.heap.size]? = some (.deferred (some [])) := by
      intro A jump hl hd
      have := run_endRound (P := P) jump hl
      rw [hrec] at this ⊢
      exact ⟨this, World.putObj_heap_same (Array.getElem?_eq_some_iff.1 hl).1, (World.putObj_heap_other (by omega)).trans hd⟩
    refine (hseq V hBV (by omega) (w.heap.size + 1)
      (fun c pre W => w.heap.size + 2 ≤ c ∧ I c pre W ∧ W.heap[w.heap.size + 1]? = some (.loop (rec .ready none)) ∧ W.heap[w.heap.size]? = some (.deferred (some [])))
      (fun pre W => ∃ c, Ix c pre W ∧ W.heap[w.heap.size + 1]? = some (.loop (rec .done (some c))) ∧ W.heap[w.heap.size]? = some (.deferred (some [])))
      ?_ ?_ ?_ ?_).mono ?_
    · rintro c pre A B ⟨hc, hi, hl, hd⟩ hb
      exact ⟨hc, hI c pre A B none hi (grown_of_below hb) (fun r e => by cases e), (hb.block _ (Array.getElem?_eq_some_iff.1 hl).1).trans hl, (hb.block _ (Array.getElem?_eq_some_iff.1 hd).1).trans hd⟩
    · rintro c pre A o v hc ⟨hc2, hi, hl, hd⟩
      exact ⟨hc2, hIc c pre A o v hc2 hi, (Below.heap_setCell A ⟨c, o, none⟩ v _ (by show _ ≠ c; omega)).trans hl, (Below.heap_setCell A ⟨c, o, none⟩ v _ (by show _ ≠ c; omega)).trans hd⟩
    · rintro c pre x W hc hcW ⟨hc2, hi, hl, hd⟩
      have hy := run_yield (P := P) (args := encs x) hl (by rw [hrec]; exact hps x)
      rw [hrec] at hy
      refine ⟨fn, _, assign, body, hy, roundIn_of_wpIn hfn (hassign _ c pre x W _ hc2 hcW hi fun a' X hkX hpX hiX hax => ?_)⟩
      clear hy
      have hlX := hkX.same _ _ (by omega) hl rfl
      have hdX := hkX.same _ _ (Nat.le_refl _) hd rfl
      have hltX : w.heap.size + 1 < X.heap.size := (Array.getElem?_eq_some_iff.1 hlX).1
      refine ⟨_, run_beginRound hlX (by rw [hrec]), ?_⟩
      obtain ⟨Y, hY⟩ : ∃ Y, Y = X.putObj (w.heap.size + 1) (.loop { rec .ready none with state := .busy }) := ⟨_, rfl⟩
      rw [← hY]
      have hlY : Y.heap[w.heap.size + 1]? = some (.loop { rec .ready none with state := .busy }) := by rw [hY]; exact World.putObj_heap_same hltX
      have hdY : Y.heap[w.heap.size]? = some (.deferred (some [])) := by rw [hY]; exact (World.putObj_heap_other (by omega)).trans hdX
      have hpY : Kp c X Y := by rw [hY]; exact hKb c X _ _ _ (by omega) (by omega) hc2 hlX
      have hiY : I c pre Y := by rw [hY]; exact (hI c).putObj _ hiX (by omega) hlX rfl
      have haY : Ax c x a' Y := by rw [hY]; exact (hAx c x a').putObj (s := ()) _ hax (by omega) hlX rfl
      have hsY : Y.heap.size = X.heap.size := by rw [hY]; simp
      refine wpIn_mono (hbody _ c pre x a' Y hc2 (by rw [hsY]; exact Nat.lt_of_lt_of_le hcW hkX.size) hiY haY) ?_
      rintro e b Z hp
      cases e with
      | normal =>
        obtain ⟨hk, hpZ, hiZ⟩ := hp
        obtain ⟨hr, e1, e2⟩ := turn none (hk.same _ _ (by omega) hlY rfl) (hk.same _ _ (Nat.le_refl _) hdY rfl)
        have hlZ := hk.same _ _ (by omega) hlY rfl
        exact ⟨_, _, hr, .inl ⟨rfl, ⟨hc2, (hI c).putObj _ hiZ (by omega) hlZ rfl, e1, e2⟩, hKt hpX (hKt hpY (hKt hpZ (hKb c Z _ _ _ (by omega) (by omega) hc2 hlZ)))⟩⟩
      | ret =>
        obtain ⟨hk, hiZ⟩ := hp
        have hlZ := hk.same _ _ (by omega) hlY rfl
        obtain ⟨hr, e1, e2⟩ := turn (some .ret) hlZ (hk.same _ _ (Nat.le_refl _) hdY rfl)
        exact ⟨_, _, hr, .inr ⟨rfl, .ret, (hIx _).putObj _ hiZ (by omega) hlZ rfl, e1, e2⟩⟩
      | exit id =>
        obtain ⟨hk, hiZ⟩ := hp
        have hlZ := hk.same _ _ (by omega) hlY rfl
        obtain ⟨hr, e1, e2⟩ := turn (some (.exit id)) hlZ (hk.same _ _ (Nat.le_refl _) hdY rfl)
        exact ⟨_, _, hr, .inr ⟨rfl, .exit id, (hIx _).putObj _ hiZ (by omega) hlZ rfl, e1, e2⟩⟩
      | goto t =>
        obtain ⟨hk, hiZ⟩ := hp
        have hlZ := hk.same _ _ (by omega) hlY rfl
        obtain ⟨hr, e1, e2⟩ := turn (some (.goto t)) hlZ (hk.same _ _ (Nat.le_refl _) hdY rfl)
        exact ⟨_, _, hr, .inr ⟨rfl, .goto t, (hIx _).putObj _ hiZ (by omega) hlZ rfl, e1, e2⟩⟩
      | panic ch => exact hp.elim
      | outgrown => exact hp.elim
    · intro c hc
      exact ⟨by omega, by rw [hV]; exact (hI c).alloc _ ((hI c).alloc _ (h0 c (by omega))), hL, hD⟩
    · rintro e W ⟨⟨v, rfl⟩, (⟨c, hc, hc2, hi, hl, hd⟩ | ⟨pre, hpre, c, hi, hl, hd⟩)⟩
      · exact ⟨none, _, by have := run_endLoop (P := P) hl (by rw [hrec]; simp); rw [hrec] at this; exact this, hdone _ c _ (Nat.le_refl _) hc2 ((hI c).putObj _ hi (by omega) hl rfl) ((World.putObj_heap_other (by omega)).trans hd)⟩
      · exact ⟨some c, _, by have := run_endLoop (P := P) hl (by rw [hrec]; simp); rw [hrec] at this; exact this, hstop _ c pre _ (Nat.le_refl _) hpre ((hIx c).putObj _ hi (by omega) hl rfl) ((World.putObj_heap_other (by omega)).trans hd)⟩
end Rng
end Go.Proofs.YtkpjhgkmjcdobaaGreatDoor
