import Derived.Test.YtkpjhgkmjcdobaaGreatDoorG14
import Derived.Test.YtkpjhgkmjcdobaaGreatDoorNextB
import Derived.Shelf.Abstract
import Derived.Shelf.RegionOpen
import Derived.WalkKit
import Derived.OwnWalkIn
import Derived.TacticsInMore
import Derived.LoopNIn
import Derived.LoopIn
import Derived.Test.YtkpjhgkmjcdobaaGreatDoorG13
import Derived.Test.YtkpjhgkmjcdobaaGreatDoorG10
/-
  Next and Prev, the program's and the document's, of a slice of rules, whole.
-/
namespace Go.Proofs.YtkpjhgkmjcdobaaGreatDoor
open Go.RowKit NB Nxt
namespace NxH
theorem NextE (p : Option Addr) (cap : Nat) (name : ByteArray) (fr : OccV) (w : World) : Calls Tryz.prog 61 #[.slice p 0 cap, .string name, .agg fr.cells.toArray] w fun e w' => e = .returned (.tuple #[.agg #[.int .i64 0, .int .i64 0, .int .i64 0], .bool false]) ∧ Below w.heap.size w w' := by
  have cn := fun W => Nom.near fr.nom W
  generalize Occ.nearY fr.nom = Y at *
  have Cn := Lib.hid cn
  clear cn
  unfold OccV.cells
  go_enter Tryz.func61, Tryz.ntmps61
  go_wp2_with (go_at_call 104; (with_reducible refine (Cn.out _).mono ?_); rintro e w1 ⟨rfl, hb1⟩; obtain ⟨hc1, hf1⟩ := bcell hb1; have hc1_0 := fun o => hc1 (w.heap.size) o (by first | assumption | omega | (simp; done) | (simp; omega)); have hf1_0 := fun o => hf1 (w.heap.size) o (by first | assumption | omega | (simp; done) | (simp; omega)); have hc1_1 := fun o => hc1 (w.heap.size + 1) o (by first | assumption | omega | (simp; done) | (simp; omega)); have hf1_1 := fun o => hf1 (w.heap.size + 1) o (by first | assumption | omega | (simp; done) | (simp; omega)); clear hc1 hf1; have hz1_0 : w.heap.size < w1.heap.size := (by first | exact sz1 hb1 | exact sz2 hb1 | exact sz3 hb1 | (have := hb1.size; (try simp only [World.size_alloc] at this); omega)); have hz1_1 : w.heap.size + 1 < w1.heap.size := (by first | exact sz1 hb1 | exact sz2 hb1 | exact sz3 hb1 | (have := hb1.size; (try simp only [World.size_alloc, World.size_drew] at this); omega)))
  go_loopw [18, 7] (fun i is wr => i = .int .i64 0 ∧ is = .bool false ∧ wr = w1) (fun i _ _ => 0)
  case atStart => exact ⟨rfl, rfl, rfl⟩
  case round =>
    obtain ⟨rfl, rfl, hwr⟩ := hrel
    subst hwr
    go_wp2
    refine bodyPost_ret (v := .tuple #[.agg #[.int .i64 0, .int .i64 0, .int .i64 0], .bool false]) ?_ rfl ⟨rfl, ?_⟩
    · simp only [results, Tryz.results61]
      go_simp
    · repeat (first | (with_reducible exact Below.refl _ _) | (with_reducible assumption) | (with_reducible refine ba ?_) | (with_reducible refine bd ?_) | (with_reducible refine bdn ?_ _) | (with_reducible refine bset ?_ (by first | exact Nat.le_refl _ | omega | (simp; done) | (simp; omega))) | (with_reducible refine bt ?_ (by with_reducible assumption)))
theorem Next {w : World} {v : Value} {l : List RuleV} (h : Holds w v l) (name : ByteArray) (fr : OccV) : Calls Tryz.prog 61 #[v, .string name, .agg fr.cells.toArray] w fun e w' => e = .returned (optV (Occ.nextO l name fr)) ∧ Below w.heap.size w w' := by
  rcases h.lies with ⟨p, cap, rfl, rfl⟩ | ⟨b, off, cap, rfl, h2, h3⟩
  · exact NextE p cap name fr w
  · exact Nxt.Next b off cap l name fr w h3 h2 h.len h.fit
theorem PrevE (p : Option Addr) (cap : Nat) (name : ByteArray) (fr : OccV) (w : World) : Calls Tryz.prog 66 #[.slice p 0 cap, .string name, .agg fr.cells.toArray] w fun e w' => e = .returned (.tuple #[.agg #[.int .i64 0, .int .i64 0, .int .i64 0], .bool false]) ∧ Below w.heap.size w w' := by
  have cn := fun W => Nom.near fr.nom W
  generalize Occ.nearY fr.nom = Y at *
  have Cn := Lib.hid cn
  clear cn
  unfold OccV.cells
  go_enter Tryz.func66, Tryz.ntmps66
  go_wp2_with (go_at_call 104; (with_reducible refine (Cn.out _).mono ?_); rintro e w1 ⟨rfl, hb1⟩; obtain ⟨hc1, hf1⟩ := bcell hb1; have hc1_0 := fun o => hc1 (w.heap.size) o (by first | assumption | omega | (simp; done) | (simp; omega)); have hf1_0 := fun o => hf1 (w.heap.size) o (by first | assumption | omega | (simp; done) | (simp; omega)); have hc1_1 := fun o => hc1 (w.heap.size + 1) o (by first | assumption | omega | (simp; done) | (simp; omega)); have hf1_1 := fun o => hf1 (w.heap.size + 1) o (by first | assumption | omega | (simp; done) | (simp; omega)); clear hc1 hf1; have hz1_0 : w.heap.size < w1.heap.size := (by first | exact sz1 hb1 | exact sz2 hb1 | exact sz3 hb1 | (have := hb1.size; (try simp only [World.size_alloc] at this); omega)); have hz1_1 : w.heap.size + 1 < w1.heap.size := (by first | exact sz1 hb1 | exact sz2 hb1 | exact sz3 hb1 | (have := hb1.size; (try simp only [World.size_alloc, World.size_drew] at this); omega)))
  go_loopw [18, 7] (fun i is wr => i = .int .i64 0 ∧ is = .bool false ∧ wr = w1) (fun i _ _ => 0)
  case atStart => exact ⟨rfl, rfl, rfl⟩
  case round =>
    obtain ⟨rfl, rfl, hwr⟩ := hrel
    subst hwr
    go_wp2
    refine bodyPost_ret (v := .tuple #[.agg #[.int .i64 0, .int .i64 0, .int .i64 0], .bool false]) ?_ rfl ⟨rfl, ?_⟩
    · simp only [results, Tryz.results66]
      go_simp
    · repeat (first | (with_reducible exact Below.refl _ _) | (with_reducible assumption) | (with_reducible refine ba ?_) | (with_reducible refine bd ?_) | (with_reducible refine bdn ?_ _) | (with_reducible refine bset ?_ (by first | exact Nat.le_refl _ | omega | (simp; done) | (simp; omega))) | (with_reducible refine bt ?_ (by with_reducible assumption)))
theorem Prev {w : World} {v : Value} {l : List RuleV} (h : Holds w v l) (name : ByteArray) (fr : OccV) : Calls Tryz.prog 66 #[v, .string name, .agg fr.cells.toArray] w fun e w' => e = .returned (optV (Occ.prevO l name fr)) ∧ Below w.heap.size w w' := by
  rcases h.lies with ⟨p, cap, rfl, rfl⟩ | ⟨b, off, cap, rfl, h2, h3⟩
  · exact PrevE p cap name fr w
  · exact Nxt.Prev b off cap l name fr w h3 h2 h.len h.fit
end NxH
end Go.Proofs.YtkpjhgkmjcdobaaGreatDoor
/-
  occur.all: the iterator, as the program runs it.
-/
namespace Go.Proofs.YtkpjhgkmjcdobaaGreatDoor
open Go.RowKit Go.Shelf NB Nxt
attribute [local go_sem] Oper.semAt_some
namespace All
/-- what a round keeps: what is old, what the iterator has captured, and its own variable -/
def Kp (n₀ B : Nat) (c : Nat) (A C : World) : Prop := Below n₀ A C ∧ (∀ k, B ≤ k → k < B + 3 → C.heap[k]? = A.heap[k]?) ∧ C.heap[c]? = A.heap[c]?
/-- what it has captured -/
structure Env (W : World) (B : Nat) (v : Value) (name : ByteArray) (fr : OccV) : Prop where
  rules : Box W B #[v] 22
  name : Box W (B + 1) #[.string name] 9
  from_ : Box W (B + 2) #[.int .i64 fr.rule, .int .i64 fr.year, .int .i64 fr.nom] 53
theorem Env.keep {W V : World} {B : Nat} {v : Value} {name : ByteArray} {fr : OccV} (h : Env W B v name fr) (hk : ∀ k, B ≤ k → k < B + 3 → V.heap[k]? = W.heap[k]?) : Env V B v name fr :=
  ⟨(hk B (by omega) (by omega)).trans h.rules, (hk (B + 1) (by omega) (by omega)).trans h.name, (hk (B + 2) (by omega) (by omega)).trans h.from_⟩
theorem Env.later {W V : World} {B : Nat} {v : Value} {name : ByteArray} {fr : OccV} (h : Env W B v name fr) (hb : Below W.heap.size W V) : Env V B v name fr :=
  ⟨h.rules.later hb, h.name.later hb, h.from_.later hb⟩
theorem Env.other {W : World} {B c j : Nat} {v u : Value} {name : ByteArray} {fr : OccV} (h : Env W B v name fr) (hc : B + 3 ≤ c) : Env (W.setCell ⟨c, j, none⟩ u) B v name fr :=
  ⟨h.rules.other (by omega), h.name.other (by omega), h.from_.other (by omega)⟩
theorem all (p : Option Addr) (len cap : Nat) (name : ByteArray) (fr : OccV) (w : World) : Calls Tryz.prog 49 #[.slice p len cap, .string name, .agg fr.cells.toArray] w fun e w' =>
    e = .returned (.func (.func 94) #[] #[.pointer (some ⟨w.heap.size, 0, none⟩), .pointer (some ⟨w.heap.size + 1, 0, none⟩), .pointer (some ⟨w.heap.size + 1 + 1, 0, none⟩)]) ∧
      w' = ((w.alloc (.cells #[.slice p len cap] 22)).alloc (.cells #[.string name] 9)).alloc (.cells #[.int .i64 fr.rule, .int .i64 fr.year, .int .i64 fr.nom] 53) := by
  unfold OccV.cells
  go_enter Tryz.func49, Tryz.ntmps49
  go_wp2
  go_ret
  exact ⟨rfl, rfl⟩
/-- the cells of one that is, or is not -/
def optC : Option OccV → Array Value
  | none => #[.int .i64 0, .int .i64 0, .int .i64 0]
  | some o => #[.int .i64 o.rule, .int .i64 o.year, .int .i64 o.nom]
/-- the one in a block -/
def rd (W : World) (b : Nat) : Option OccV := match W.cell? ⟨b, 0, none⟩, W.cell? ⟨b, 1, none⟩, W.cell? ⟨b, 2, none⟩ with
  | some (.int _ i), some (.int _ y), some (.int _ n) => some ⟨i, y, n⟩
  | _, _, _ => none
noncomputable def meas (nx : OccV → Option OccV) (b : Nat) (m : Value) (W : World) : Nat := match m with
  | .bool true => Occ.leftO nx (rd W b)
  | _ => 0
theorem rd_box {W : World} {b : Nat} {o : OccV} {t : TypeId} (h : Box W b #[.int .i64 o.rule, .int .i64 o.year, .int .i64 o.nom] t) : rd W b = some o := by
  unfold rd
  rw [h.cell 0, h.cell 1, h.cell 2]
  rfl
theorem meas_eq {nx : OccV → Option OccV} {W : World} {b : Nat} {c : Option OccV} {t : TypeId} (h : Box W b (optC c) t) : meas nx b (.bool c.isSome) W = Occ.leftO nx c := by
  cases c with
  | none => rfl
  | some o => show Occ.leftO nx (rd W b) = _; rw [rd_box h]
theorem opt_parts (c : Option OccV) : ∃ i y k, optV c = .tuple #[.agg #[.int .i64 i, .int .i64 y, .int .i64 k], .bool c.isSome] ∧ optC c = #[.int .i64 i, .int .i64 y, .int .i64 k] := by
  cases c with
  | none => exact ⟨0, 0, 0, rfl, rfl⟩
  | some o => exact ⟨o.rule, o.year, o.nom, rfl, rfl⟩
variable {F : Fence} {n : Nat}
set_option maxRecDepth 100000 in
set_option maxHeartbeats 3200000 in
theorem all1 (h20 : F.fn 61) (h90 : F.fn 94) (hro : F.round = none) (hn : 1 ≤ n) (w0 : World) (v : Value) (l : List RuleV) (name : ByteArray) (fr : OccV) (B : Nat) (xs : List OccV) (W : World)
    (hN : ∀ (V : World) (o : OccV), Holds V v l → CallsIn F (n - 1) Tryz.prog 61 #[v, .string name, .agg o.cells.toArray] V fun e V' => e = .returned (optV (Occ.nextO l name o)) ∧ Below V.heap.size V V')
    (hH : Holds w0 v l) (hx : Occ.Run (Occ.nextO l name) fr xs) (hB0 : Below w0.heap.size w0 W) (hw0 : w0.heap.size ≤ B) (hE : Env W B v name fr) (hBW : B + 3 ≤ W.heap.size) :
    Rng.Iter F n Tryz.prog 94 #[.pointer (some ⟨B, 0, none⟩), .pointer (some ⟨B + 1, 0, none⟩), .pointer (some ⟨B + 2, 0, none⟩)] (fun o : OccV => #[.agg o.cells.toArray]) xs (Kp w0.heap.size B) W := by
  intro lp J Jx hJg hJc hY hJ0
  refine callsIn_of_wp Tryz.func94 rfl h90 ?_ hro
  simp only [Tryz.ntmps94, List.size_toArray, List.length_cons, List.length_nil, Nat.reduceAdd, Nat.reduceSub, Array.replicate_succ, Array.replicate_zero, List.push_toArray, List.append_toArray, List.nil_append, List.cons_append]
  have c0 := hE.rules.cell 0
  have c1 := hE.name.cell 0
  have c20 := hE.from_.cell 0
  have c21 := hE.from_.cell 1
  have c22 := hE.from_.cell 2
  have hn1 : 1 ≤ n - 1 + 1 := by omega
  obtain ⟨i0, y0, k0, eV, eC⟩ := opt_parts (Occ.nextO l name fr)
  have hN0 := hN W fr (Holds.later hH hB0)
  rw [eV] at hN0
  unfold OccV.cells at *
  obtain ⟨g0, hg0⟩ : ∃ g, g = (Occ.nextO l name fr).isSome := ⟨_, rfl⟩
  rw [← hg0] at hN0
  simp only at hY
  have Hx := Lib.hid hx
  have HY := Lib.hid hY
  have HN := Lib.hid hN
  have HJ0 := Lib.hid hJ0
  have HJg := Lib.hid hJg
  have HJc := Lib.hid hJc
  have Hg0 := Lib.hid hg0
  have Ec := Lib.hid eC
  have HE := Lib.hid hE
  have Hb0 := Lib.hid hB0
  clear hx hY hN hJ0 hJg hJc hg0 eV eC hE hB0
  gi_wp2_with (gi_at_call 61; refine hN0.mono ?_; rintro e w1 ⟨rfl, hb1⟩; clear hN0)
  obtain ⟨c, hc⟩ : ∃ c, c = w1.heap.size := ⟨_, rfl⟩
  have hcW : W.heap.size ≤ c := by rw [hc]; exact hb1.size
  obtain ⟨V, hV⟩ : ∃ V, V = w1.alloc (.cells #[.int .i64 i0, .int .i64 y0, .int .i64 k0] 53) := ⟨_, rfl⟩
  have hBV : Below W.heap.size W V := by rw [hV]; exact ba hb1
  have hcV : c < V.heap.size := by rw [hV, hc]; simp
  have hbV : Box V c #[.int .i64 i0, .int .i64 y0, .int .i64 k0] 53 := by rw [hV, hc]; exact Box.new _ _ _
  rw [← hc, ← hV]
  clear hV hc hb1
  have HBV := Lib.hid hBV
  have HbV := Lib.hid hbV
  clear hBV hbV
  gi_loopw [6] (fun m wr => ∃ (pre rest : List OccV) (f : OccV), xs = pre ++ rest ∧ Occ.Run (Occ.nextO l name) f rest ∧ m = .bool (Occ.nextO l name f).isSome ∧ Box wr c (optC (Occ.nextO l name f)) 53 ∧ J c pre wr ∧ Env wr B v name fr ∧ Below w0.heap.size w0 wr ∧ c < wr.heap.size)
    (fun m wr => meas (Occ.nextO l name) c m wr)
  case atStart =>
    refine ⟨[], xs, fr, rfl, Hx.out, by rw [Hg0.out], by rw [Ec.out]; exact HbV.out, HJg.out _ _ _ _ (HJ0.out c hcW) HBV.out, HE.out.later HBV.out, Hb0.out.trans (HBV.out.mono Hb0.out.size), hcV⟩
  case round =>
    obtain ⟨pre, rest, f, hx, hrun, rfl, hbox, hJ, hEn, hBw, hcw⟩ := hrel
    have d0 := hEn.rules.cell 0
    have d1 := hEn.name.cell 0
    cases rest with
    | nil =>
      have hno : Occ.nextO l name f = none := hrun
      rw [hno]
      gi_wp2
      refine ⟨fun _ h => (by cases h), ?_⟩
      gi_wp2
      go_end0
      exact ⟨⟨_, rfl⟩, .inl ⟨c, hcW, by rw [hx, List.append_nil]; exact hJ⟩⟩
    | cons o os =>
      have hno : Occ.nextO l name f = some o := hrun.1
      have hr2 : Occ.Run (Occ.nextO l name) o os := hrun.2
      rw [hno] at hbox ⊢
      have e0 := hbox.cell 0
      have e1 := hbox.cell 1
      have e2 := hbox.cell 2
      obtain ⟨fn, tmps, assign, body, hy, hR⟩ := HY.out c pre o wr hcW hcw hJ
      have Hbox := Lib.hid hbox
      have HEn := Lib.hid hEn
      have HBw := Lib.hid hBw
      have HJr := Lib.hid hJ
      have Hr2 := Lib.hid hr2
      clear hbox hEn hBw hJ hr2 hrun
      unfold optC at e0 e1 e2
      simp only at e0 e1 e2 hy
      gi_wp2
      refine hR.mono ?_
      clear hR
      rintro e W3 (⟨rfl, hJ3, hk3⟩ | ⟨rfl, hJx3⟩)
      · obtain ⟨hk1, hk2, hk4⟩ := hk3
        have hE3 := HEn.out.keep hk2
        have hb3 : Box W3 c #[.int .i64 o.rule, .int .i64 o.year, .int .i64 o.nom] 53 := hk4.trans Hbox.out
        have hB3 : Below w0.heap.size w0 W3 := HBw.out.trans hk1
        have x0 := hE3.rules.cell 0
        have x1 := hE3.name.cell 0
        have x20 := hb3.cell 0
        have x21 := hb3.cell 1
        have x22 := hb3.cell 2
        obtain ⟨i1, y1, k1, eV1, eC1⟩ := opt_parts (Occ.nextO l name o)
        have hN1 := HN.out W3 o (Holds.later hH hB3)
        rw [eV1] at hN1
        obtain ⟨g1, hg1⟩ : ∃ g, g = (Occ.nextO l name o).isSome := ⟨_, rfl⟩
        rw [← hg1] at hN1
        have Hg1 := Lib.hid hg1
        have Ec1 := Lib.hid eC1
        have HB3 := Lib.hid hB3
        have HJ3 := Lib.hid hJ3
        have HE3 := Lib.hid hE3
        have Hb3 := Lib.hid hb3
        have hk1s : c < W3.heap.size := hb3.lt
        clear hg1 eC1 eV1 hB3 hJ3 hE3 hb3 hk2 hk4 hk1
        gi_wp2_with (gi_at_call 61; refine hN1.mono ?_; rintro e w4 ⟨rfl, hb4⟩; clear hN1; have hb5 := Hb3.out.later hb4; have z0 := hb5.cell 0; have z1 := hb5.cell 1; have z2 := hb5.cell 2; have zf := fun o => hb5.free o)
        have hcw0 : w0.heap.size ≤ c := by omega
        have hE5 : Env (((w4.setCell ⟨c, 0, none⟩ (.int .i64 i1)).setCell ⟨c, 1, none⟩ (.int .i64 y1)).setCell ⟨c, 2, none⟩ (.int .i64 k1)) B v name fr := (((HE3.out.later hb4).other (by omega)).other (by omega)).other (by omega)
        have hb6 : Box (((w4.setCell ⟨c, 0, none⟩ (.int .i64 i1)).setCell ⟨c, 1, none⟩ (.int .i64 y1)).setCell ⟨c, 2, none⟩ (.int .i64 k1)) c (optC (Occ.nextO l name o)) 53 := by rw [Ec1.out]; exact hb5.set3
        go_roundw
        case rel =>
          refine ⟨pre ++ [o], os, o, by rw [hx]; simp, Hr2.out, by rw [Hg1.out], hb6, ?_, hE5, ?_, hb6.lt⟩
          · exact HJc.out _ _ _ _ _ hcW (HJc.out _ _ _ _ _ hcW (HJc.out _ _ _ _ _ hcW (HJg.out _ _ _ _ HJ3.out hb4)))
          · exact (((HB3.out.trans (hb4.mono HB3.out.size)).setCell (p := ⟨c, 0, none⟩) hcw0 _).setCell (p := ⟨c, 1, none⟩) hcw0 _).setCell (p := ⟨c, 2, none⟩) hcw0 _
        case measure =>
          have m1 := meas_eq (nx := Occ.nextO l name) hb6
          have m2 := meas_eq (nx := Occ.nextO l name) (c := some o) Hbox.out
          rw [Hg1.out, m1]
          refine Nat.lt_of_lt_of_eq (Occ.leftO_next o) ?_
          exact m2.symm
      · gi_wp2
        go_end0
        exact ⟨⟨_, rfl⟩, .inr ⟨pre ++ [o], ⟨os, by rw [hx]; simp⟩, hJx3⟩⟩
end All
end Go.Proofs.YtkpjhgkmjcdobaaGreatDoor
