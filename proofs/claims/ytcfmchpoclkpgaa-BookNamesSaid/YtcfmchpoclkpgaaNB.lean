/-
  Base lemmas: worlds that are later than a given one, and regions that draw their order and hold calls which only make memory.
-/
import Derived.WalkKit
import Derived.WalkSpells
import Derived.WalkLawsBesides
import Derived.BigQuiet
import Derived.Deep.Quiet
import Derived.Deep.QuietTactic
import Derived.StillTail
import Derived.Lib.Hide
import Derived.Deep.DeepFit
namespace Go.Proofs.Ytcfmchpoclkpgaa
open Go.RowKit
namespace NB

/-- A world in which everything below block B is as it was in w. -/
structure Later (B : Nat) (w : World) where
  u : World
  h : Below B w u

instance later_nonempty (B : Nat) (w : World) : Nonempty (Later B w) := ⟨⟨w, Below.refl _ _⟩⟩

theorem Later.cell {B : Nat} {w : World} (x : Later B w) (b o : Nat) (h : b < B) : x.u.cell? ⟨b, o, none⟩ = w.cell? ⟨b, o, none⟩ := x.h.cell (p := ⟨b, o, none⟩) h
theorem Later.frozen {B : Nat} {w : World} (x : Later B w) (b o : Nat) (h : b < B) : x.u.frozen? ⟨b, o, none⟩ = w.frozen? ⟨b, o, none⟩ := x.h.frozen (p := ⟨b, o, none⟩) h

attribute [go_sem] Later.cell Later.frozen

/-- A region that draws its order: every operation reads, or calls what leaves old memory alone: one walk in the text's order serves all orders. -/
theorem region_later {P : Program} {id : Nat} {Q : Exit → Act → World → Prop} {a : Act} {w : World} {l : List Oper} (hm : P.follows .mixedOrders = true) (hB : Region.lexB .any l.toArray = true)
    (h : wpQuiet P l.toArray (fun w' => ∃ x : Later w.heap.size w, w' = x.u) (fun a' => ∀ w', (∃ x : Later w.heap.size w, w' = x.u) → Q .normal a' w') l a) : (Code.region id l.toArray true).wp P Q a w :=
  wp_region_quiet (C := fun w' => ∃ x : Later w.heap.size w, w' = x.u) hm hB ⟨⟨w.drew, (Below.refl _ _).drew⟩, rfl⟩ (by simpa using h)

/-- A contract of a callee, met in a later world. -/
theorem calls_later {P : Program} {f : FuncId} {args : Array Value} {B : Nat} {w : World} (x : Later B w) (hB : B ≤ w.heap.size) {v : Value}
    (h : Calls P f args x.u fun e w' => e = .returned v ∧ Below x.u.heap.size x.u w') : Calls P f args x.u fun e w'' => e = .returned v ∧ ∃ y : Later B w, w'' = y.u :=
  h.mono fun _ w'' ⟨he, hb⟩ => ⟨he, ⟨w'', x.h.trans (hb.mono (Nat.le_trans hB x.h.size))⟩, rfl⟩

/-- A contract that leaves the world as it was, as one that leaves old memory as it was. -/
theorem below_of_same {P : Program} {f : FuncId} {args : Array Value} {w : World} {v : Value} (h : Calls P f args w fun e w' => e = .returned v ∧ w = w') :
    Calls P f args w fun e w' => e = .returned v ∧ Below w.heap.size w w' :=
  h.mono fun _ _ ⟨he, hw⟩ => ⟨he, hw ▸ Below.refl _ _⟩

theorem quiet_left {P : Program} {f : FuncId} {args : Array Value} {w : World} {n : Nat} {v : Value}
    (h : Calls P f args (w.drewN n) fun e w' => e = .returned v ∧ w.drewN n = w') : Calls P f args (w.drewN n) fun e w'' => e = .returned v ∧ ∃ m, w'' = w.drewN m :=
  h.mono fun _ _ ⟨he, hm⟩ => ⟨he, n, hm.symm⟩
theorem quiet_add_left {P : Program} {f : FuncId} {args : Array Value} {w : World} {a n : Nat} {v : Value}
    (h : Calls P f args (w.drewN (a + n)) fun e w' => e = .returned v ∧ w.drewN (a + n) = w') : Calls P f args (w.drewN (a + n)) fun e w'' => e = .returned v ∧ ∃ m, w'' = w.drewN (a + m) :=
  h.mono fun _ _ ⟨he, hm⟩ => ⟨he, n, hm.symm⟩
theorem below_drewN {B : Nat} {a w : World} (h : Below B a w) (n : Nat) : Below B a (w.drewN n) := ⟨h.os, h.tape, h.output, h.size, h.block⟩
theorem sz1 {B : Nat} {a b : World} {o : Obj} (h : Below B (a.alloc o) b) : a.heap.size < b.heap.size := by
  have := h.size; simp only [World.size_alloc] at this; omega
theorem sz2 {B : Nat} {a b : World} {o p : Obj} (h : Below B ((a.alloc o).alloc p) b) : a.heap.size + 1 < b.heap.size := by
  have := h.size; simp only [World.size_alloc] at this; omega
theorem szd1 {B : Nat} {a b : World} {o : Obj} (h : Below B (a.alloc o).drew b) : a.heap.size < b.heap.size := sz1 (a := a) (o := o) ⟨h.os, h.tape, h.output, h.size, h.block⟩
theorem szd2 {B : Nat} {a b : World} {o p : Obj} (h : Below B ((a.alloc o).alloc p).drew b) : a.heap.size + 1 < b.heap.size := sz2 (a := a) (o := o) (p := p) ⟨h.os, h.tape, h.output, h.size, h.block⟩
theorem sz3 {B : Nat} {a b : World} {o p q : Obj} (h : Below B (((a.alloc o).alloc p).alloc q) b) : a.heap.size + 2 < b.heap.size := by
  have := h.size; simp only [World.size_alloc] at this; omega
theorem ret_bool {a b : Bool} (h : a = b) : Ending.returned (.bool a) = .returned (.bool b) := by rw [h]
theorem ret_int {k : IntKind} {a b : Int} (h : a = b) : Ending.returned (.int k a) = .returned (.int k b) := by rw [h]
theorem ret_ii {a b a' b' : Int} (h : a = a') (h2 : b = b') : Ending.returned (.tuple #[.int .i64 a, .int .i64 b]) = .returned (.tuple #[.int .i64 a', .int .i64 b']) := by rw [h, h2]
theorem ret_iii {a b c a' b' c' : Int} (h : a = a') (h2 : b = b') (h3 : c = c') : Ending.returned (.tuple #[.int .i64 a, .int .i64 b, .int .i64 c]) = .returned (.tuple #[.int .i64 a', .int .i64 b', .int .i64 c']) := by rw [h, h2, h3]
theorem ret_val {a b : Value} (h : a = b) : Ending.returned a = .returned b := by rw [h]
/-- The two facts on old cells that a walk uses by itself. -/
theorem bcell {B : Nat} {W w1 : World} (hb : Below B W w1) : (∀ b o, b < B → w1.cell? ⟨b, o, none⟩ = W.cell? ⟨b, o, none⟩) ∧ (∀ b o, b < B → w1.frozen? ⟨b, o, none⟩ = W.frozen? ⟨b, o, none⟩) :=
  ⟨fun b o h => hb.cell (p := ⟨b, o, none⟩) h, fun b o h => hb.frozen (p := ⟨b, o, none⟩) h⟩

end NB
end Go.Proofs.Ytcfmchpoclkpgaa
