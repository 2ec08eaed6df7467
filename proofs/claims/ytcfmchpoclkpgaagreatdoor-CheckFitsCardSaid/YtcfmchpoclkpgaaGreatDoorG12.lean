import Derived.Test.YtcfmchpoclkpgaaGreatDoorG7
import Derived.Test.YtcfmchpoclkpgaaGreatDoorNextB
import Derived.Shelf.Abstract
import Derived.Shelf.RegionOpen
import Derived.WalkKit
import Derived.OwnWalkIn
import Derived.TacticsInMore
import Derived.LoopNIn
import Derived.LoopIn
import Derived.Test.YtcfmchpoclkpgaaGreatDoorG11
import Derived.Test.YtcfmchpoclkpgaaGreatDoorG10
namespace Go.Proofs.YtcfmchpoclkpgaaGreatDoor
open Go.RowKit NB Nxt
namespace NxH
theorem NextE (p : Option Addr) (cap : Nat) (name : ByteArray) (fr : OccV) (w : World) : Calls Tryz.prog 84 #[.slice p 0 cap, .string name, .agg fr.cells.toArray] w fun e w' => e = .returned (.tuple #[.agg #[.int .i64 0, .int .i64 0, .int .i64 0], .bool false]) ∧ Below w.heap.size w w' := by
  have cn := fun W => Nom.near fr.nom W
  generalize Occ.nearY fr.nom = Y at *
  have Cn := Lib.hid cn
  clear cn
  unfold OccV.cells
  go_enter Tryz.func84, Tryz.ntmps84
  go_wp2_with (go_at_call 140;(with_reducible refine (Cn.out _).mono ?_);rintro e w1 ⟨rfl, hb1⟩;obtain ⟨hc1, hf1⟩ := bcell hb1;have hc1_0 := fun o => hc1 (w.heap.size) o (by first|assumption|omega|(simp;done)|(simp;omega));have hf1_0 := fun o => hf1 (w.heap.size) o (by first|assumption|omega|(simp;done)|(simp;omega));have hc1_1 := fun o => hc1 (w.heap.size + 1) o (by first|assumption|omega|(simp;done)|(simp;omega));have hf1_1 := fun o => hf1 (w.heap.size + 1) o (by first|assumption|omega|(simp;done)|(simp;omega));clear hc1 hf1;have hz1_0 : w.heap.size < w1.heap.size := (by first|exact sz1 hb1|exact sz2 hb1|exact sz3 hb1|(have := hb1.size;(try simp only [World.size_alloc] at this);omega));have hz1_1 : w.heap.size + 1 < w1.heap.size := (by first|exact sz1 hb1|exact sz2 hb1|exact sz3 hb1|(have := hb1.size;(try simp only [World.size_alloc, World.size_drew] at this);omega)))
  go_loopw [18, 7] (fun i is wr => i = .int .i64 0 ∧ is = .bool false ∧ wr = w1) (fun i _ _ => 0)
  case atStart => exact ⟨rfl, rfl, rfl⟩
  case round =>
    obtain ⟨rfl, rfl, hwr⟩ := hrel
    subst hwr
    go_wp2
    refine bodyPost_ret (v := .tuple #[.agg #[.int .i64 0, .int .i64 0, .int .i64 0], .bool false]) ?_ rfl ⟨rfl, ?_⟩
    · simp only [results, Tryz.results84]
      go_simp
    · repeat (first|(with_reducible exact Below.refl _ _)|(with_reducible assumption)|(with_reducible refine ba ?_)|(with_reducible refine bd ?_)|(with_reducible refine bdn ?_ _)|(with_reducible refine bset ?_ (by first|exact Nat.le_refl _|omega|(simp;done)|(simp;omega)))|(with_reducible refine bt ?_ (by with_reducible assumption)))
theorem Next {w : World} {v : Value} {l : List RuleV} (h : Holds w v l) (name : ByteArray) (fr : OccV) : Calls Tryz.prog 84 #[v, .string name, .agg fr.cells.toArray] w fun e w' => e = .returned (optV (Occ.nextO l name fr)) ∧ Below w.heap.size w w' := by
  rcases h.lies with ⟨p, cap, rfl, rfl⟩|⟨b, off, cap, rfl, h2, h3⟩
  · exact NextE p cap name fr w
  · exact Nxt.Next b off cap l name fr w h3 h2 h.len h.fit
theorem PrevE (p : Option Addr) (cap : Nat) (name : ByteArray) (fr : OccV) (w : World) : Calls Tryz.prog 167 #[.slice p 0 cap, .string name, .agg fr.cells.toArray] w fun e w' => e = .returned (.tuple #[.agg #[.int .i64 0, .int .i64 0, .int .i64 0], .bool false]) ∧ Below w.heap.size w w' := by
  have cn := fun W => Nom.near fr.nom W
  generalize Occ.nearY fr.nom = Y at *
  have Cn := Lib.hid cn
  clear cn
  unfold OccV.cells
  go_enter Tryz.func167, Tryz.ntmps167
  go_wp2_with (go_at_call 140;(with_reducible refine (Cn.out _).mono ?_);rintro e w1 ⟨rfl, hb1⟩;obtain ⟨hc1, hf1⟩ := bcell hb1;have hc1_0 := fun o => hc1 (w.heap.size) o (by first|assumption|omega|(simp;done)|(simp;omega));have hf1_0 := fun o => hf1 (w.heap.size) o (by first|assumption|omega|(simp;done)|(simp;omega));have hc1_1 := fun o => hc1 (w.heap.size + 1) o (by first|assumption|omega|(simp;done)|(simp;omega));have hf1_1 := fun o => hf1 (w.heap.size + 1) o (by first|assumption|omega|(simp;done)|(simp;omega));clear hc1 hf1;have hz1_0 : w.heap.size < w1.heap.size := (by first|exact sz1 hb1|exact sz2 hb1|exact sz3 hb1|(have := hb1.size;(try simp only [World.size_alloc] at this);omega));have hz1_1 : w.heap.size + 1 < w1.heap.size := (by first|exact sz1 hb1|exact sz2 hb1|exact sz3 hb1|(have := hb1.size;(try simp only [World.size_alloc, World.size_drew] at this);omega)))
  go_loopw [18, 7] (fun i is wr => i = .int .i64 0 ∧ is = .bool false ∧ wr = w1) (fun i _ _ => 0)
  case atStart => exact ⟨rfl, rfl, rfl⟩
  case round =>
    obtain ⟨rfl, rfl, hwr⟩ := hrel
    subst hwr
    go_wp2
    refine bodyPost_ret (v := .tuple #[.agg #[.int .i64 0, .int .i64 0, .int .i64 0], .bool false]) ?_ rfl ⟨rfl, ?_⟩
    · simp only [results, Tryz.results167]
      go_simp
    · repeat (first|(with_reducible exact Below.refl _ _)|(with_reducible assumption)|(with_reducible refine ba ?_)|(with_reducible refine bd ?_)|(with_reducible refine bdn ?_ _)|(with_reducible refine bset ?_ (by first|exact Nat.le_refl _|omega|(simp;done)|(simp;omega)))|(with_reducible refine bt ?_ (by with_reducible assumption)))
theorem Prev {w : World} {v : Value} {l : List RuleV} (h : Holds w v l) (name : ByteArray) (fr : OccV) : Calls Tryz.prog 167 #[v, .string name, .agg fr.cells.toArray] w fun e w' => e = .returned (optV (Occ.prevO l name fr)) ∧ Below w.heap.size w w' := by
  rcases h.lies with ⟨p, cap, rfl, rfl⟩|⟨b, off, cap, rfl, h2, h3⟩
  · exact PrevE p cap name fr w
  · exact Nxt.Prev b off cap l name fr w h3 h2 h.len h.fit
end NxH
end Go.Proofs.YtcfmchpoclkpgaaGreatDoor
namespace Go.Proofs.YtcfmchpoclkpgaaGreatDoor
open Go.RowKit Go.Shelf NB Nxt
attribute [local go_sem] Oper.semAt_some
namespace All
def Kp (n₀ B : Nat) (c : Nat) (A C : World) : Prop := Below n₀ A C ∧ (∀ k, B ≤ k → k < B + 3 → C.heap[k]? = A.heap[k]?) ∧ C.heap[c]? = A.heap[c]?
structure Env (W : World) (B : Nat) (v : Value) (name : ByteArray) (fr : OccV) : Prop where
  rules : Box W B #[v] 22
  name : Box W (B + 1) #[.string name] 9
  from_ : Box W (B + 2) #[.int .i64 fr.rule, .int .i64 fr.year, .int .i64 fr.nom] 149
theorem Env.later {W V : World} {B : Nat} {v : Value} {name : ByteArray} {fr : OccV} (h : Env W B v name fr) (hb : Below W.heap.size W V) : Env V B v name fr :=
  ⟨h.rules.later hb, h.name.later hb, h.from_.later hb⟩
def optC : Option OccV → Array Value
  | none => #[.int .i64 0, .int .i64 0, .int .i64 0]
  | some o => #[.int .i64 o.rule, .int .i64 o.year, .int .i64 o.nom]
def rd (W : World) (b : Nat) : Option OccV := match W.cell? ⟨b, 0, none⟩, W.cell? ⟨b, 1, none⟩, W.cell? ⟨b, 2, none⟩ with
  | some (.int _ i), some (.int _ y), some (.int _ n) => some ⟨i, y, n⟩
  | _, _, _ => none
noncomputable def meas (nx : OccV → Option OccV) (b : Nat) (m : Value) (W : World) : Nat := match m with
  | .bool true => Occ.leftO nx (rd W b)
  | _ => 0
theorem rd_box {W : World} {b : Nat} {o : OccV} {t : TypeId} (h : Box W b #[.int .i64 o.rule, .int .i64 o.year, .int .i64 o.nom] t) : rd W b = some o := by
  unfold rd
  rw [h.cell 0, h.cell 1, h.cell 2]
  rfl
theorem meas_eq {nx : OccV → Option OccV} {W : World} {b : Nat} {c : Option OccV} {t : TypeId} (h : Box W b (optC c) t) : meas nx b (.bool c.isSome) W = Occ.leftO nx c := by
  cases c with
  | none => rfl
  | some o => show Occ.leftO nx (rd W b) = _;rw [rd_box h]
theorem opt_parts (c : Option OccV) : ∃ i y k, optV c = .tuple #[.agg #[.int .i64 i, .int .i64 y, .int .i64 k], .bool c.isSome] ∧ optC c = #[.int .i64 i, .int .i64 y, .int .i64 k] := by
  cases c with
  | none => exact ⟨0, 0, 0, rfl, rfl⟩
  | some o => exact ⟨o.rule, o.year, o.nom, rfl, rfl⟩
variable {F : Fence} {n : Nat}
end All
end Go.Proofs.YtcfmchpoclkpgaaGreatDoor
