import Derived.Test.YtcfmchpoclkpgaaGreatDoorG21
import Derived.Test.YtcfmchpoclkpgaaGreatDoorG22
import Derived.Test.YtcfmchpoclkpgaaGreatDoorG20
import Derived.Deep.AppendLies
import Derived.Laws.MakeOwn
namespace Go.Proofs.YtcfmchpoclkpgaaGreatDoor
open Go.RowKit Go.Shelf NB Go.ChangeMaps Go.MapKept Go.ChangeShapes
attribute [local go_sem] Oper.semAt_some
namespace BkN
theorem infoSl : (Tryz.prog.info? 64).map (fun i => (i.zero, i.size, i.bytes)) = some (some (.slice none 0 0), 1, 24) := by kernel_rfl
structure Far (V W : World) (x y : Nat) : Prop where
  os : W.os = V.os
  tape : W.tape = V.tape
  output : W.output = V.output
  size : V.heap.size ≤ W.heap.size
  block : ∀ k, k < V.heap.size → k ≠ x → k ≠ y → W.heap[k]? = V.heap[k]?
theorem Far.refl (V : World) (x y : Nat) : Far V V x y := ⟨rfl, rfl, rfl, Nat.le_refl _, fun _ _ _ _ => rfl⟩
theorem Far.grown {V A B : World} {x y : Nat} {row : Option Nat} (h : Far V A x y) (hg : A.grownBy B row) (hr : ∀ r, row = some r → r = x ∨ r = y ∨ V.heap.size ≤ r) : Far V B x y :=
  ⟨hg.os.trans h.os, hg.tape.trans h.tape, hg.output.trans h.output, Nat.le_trans h.size hg.size, fun k hk hx hy =>
    (hg.block k (Nat.lt_of_lt_of_le hk h.size) (fun e => by rcases hr k e.symm with e1|e1|e1 <;> omega)).trans (h.block k hk hx hy)⟩
theorem Far.box {V W : World} {x y b : Nat} {cs : Array Value} {t : TypeId} (h : Far V W x y) (hb : Box V b cs t) (hx : b ≠ x) (hy : b ≠ y) : Box W b cs t := (h.block b hb.lt hx hy).trans hb
theorem Far.below {V W : World} {x y B : Nat} {w : World} (h : Far V W x y) (hb : Below B w V) (hx : B ≤ x) (hy : B ≤ y) (hB : B ≤ V.heap.size) : Below B w W :=
  ⟨h.os.trans hb.os, h.tape.trans hb.tape, h.output.trans hb.output, Nat.le_trans hb.size h.size, fun k hk => (h.block k (by omega) (by omega) (by omega)).trans (hb.block k hk)⟩
structure Turned (W U : World) (x y : Nat) : Prop where
  os : U.os = W.os
  tape : U.tape = W.tape
  output : U.output = W.output
  size : U.heap.size = W.heap.size
  block : ∀ k, k ≠ x → k ≠ y → U.heap[k]? = W.heap[k]?
theorem Turned.far {V W U : World} {x y : Nat} (h : Turned W U x y) (hf : Far V W x y) : Far V U x y :=
  ⟨h.os.trans hf.os, h.tape.trans hf.tape, h.output.trans hf.output, by rw [h.size];exact hf.size, fun k hk hx hy => (h.block k hx hy).trans (hf.block k hk hx hy)⟩
theorem Turned.keeps {W U : World} {x y B : Nat} (h : Turned W U x y) (hx : x < B) (hy : y < B) : KeepsFrom B W U := ⟨Nat.le_of_eq h.size.symm, fun k o hk ho _ => (h.block k (by omega) (by omega)).trans ho⟩
theorem Turned.below {W U : World} {x y B : Nat} (h : Turned W U x y) (hx : B ≤ x) (hy : B ≤ y) : Below B W U := ⟨h.os, h.tape, h.output, Nat.le_of_eq h.size.symm, fun k hk => h.block k (by omega) (by omega)⟩
theorem turned (W : World) (x y : Nat) (o1 o2 o3 : Obj) : Turned W (setBlock (setBlock (setBlock W.drew x o1) x o2) y o3) x y :=
  ⟨rfl, rfl, rfl, (by unfold setBlock;simp : (setBlock (setBlock (setBlock W.drew x o1) x o2) y o3).heap.size = W.drew.heap.size), fun k hx hy => (by unfold setBlock;simp [Ne.symm hx, Ne.symm hy] : (setBlock (setBlock (setBlock W.drew x o1) x o2) y o3).heap[k]? = W.drew.heap[k]?)⟩
def ents (pre : List Back.ZI) : List Mp.Ent := pre.map fun x => (x.1.2.name, .int .i64 (x.1.1 : Int))
def bools (pre : List Back.ZI) : List Mp.Ent := pre.map fun x => (x.1.2.name, .bool true)
def lents (pre : List Back.LI) : List Mp.Ent := pre.map fun x => (x.1.2.name, .string x.1.2.target)
def lbools (pre : List Back.LI) : List Mp.Ent := pre.map fun x => (x.1.2.name, .bool true)
theorem own_all {α : Type} {B : Nat} {I : List α → World → Prop} {V : World} {x y : Nat} (hB : V.heap.size = B) (hx : x < B) (hy : y < B) {ea ex : List α → List Mp.Ent}
    (hI : ∀ pre W, I pre W ↔ Far V W x y ∧ Mp.Lies W Tryz.prog 9 x (ex pre) ∧ Mp.Lies W Tryz.prog 9 y (ea pre)) : OwnFrom B I := by
  intro s W W' row hs hg hr
  rw [hI] at hs ⊢
  refine ⟨hs.1.grown hg (fun r e => .inr (.inr (by rw [hB];exact (hr r e).1))), hs.2.1.kept hg (fun e => ?_), hs.2.2.kept hg (fun e => ?_)⟩
  · have := (hr _ e.symm).1
    omega
  · have := (hr _ e.symm).1
    omega
theorem empty {W : World} {b : Nat} (h : W.heap[b]? = some (.map #[] 0)) : Mp.Lies W Tryz.prog 9 b [] := ⟨#[], 0, h, ⟨by simp, stamped_empty 0, by simp⟩, rfl⟩
theorem halloc (w : World) (o : Obj) : (w.alloc o).heap = w.heap.push o := by cases o <;> rfl
theorem start {w V : World} {A0 A3 A4 A5 A7 A8 : Array Value} {t0 t3 t4 t5 t7 t8 : TypeId} (hV : V = ((((((((w.alloc (.cells A0 t0)).alloc (.map #[] 0)).alloc (.map #[] 0)).alloc (.cells A3 t3)).alloc (.cells A4 t4)).alloc (.cells A5 t5)).alloc (.map #[] 0)).alloc (.cells A7 t7)).alloc (.cells A8 t8)) :
    Box V w.heap.size A0 t0 ∧ Mp.Lies V Tryz.prog 9 (w.heap.size + 1) [] ∧ Mp.Lies V Tryz.prog 9 (w.heap.size + 1 + 1) [] ∧ Box V (w.heap.size + 1 + 1 + 1) A3 t3 ∧ Box V (w.heap.size + 1 + 1 + 1 + 1) A4 t4 ∧ Box V (w.heap.size + 1 + 1 + 1 + 1 + 1) A5 t5 ∧
      Mp.Lies V Tryz.prog 9 (w.heap.size + 1 + 1 + 1 + 1 + 1 + 1) [] ∧ Box V (w.heap.size + 1 + 1 + 1 + 1 + 1 + 1 + 1) A7 t7 ∧ Box V (w.heap.size + 1 + 1 + 1 + 1 + 1 + 1 + 1 + 1) A8 t8 ∧ Below w.heap.size w V := by
  refine ⟨?_, empty ?_, empty ?_, ?_, ?_, ?_, empty ?_, ?_, ?_, ?_⟩
  all_goals first|(rw [hV];(repeat (first|(with_reducible exact Below.refl _ _)|(with_reducible assumption)|(with_reducible refine ba ?_)|(with_reducible refine bd ?_)|(with_reducible refine bdn ?_ _)|(with_reducible refine bset ?_ (by first|exact Nat.le_refl _|omega|(simp;done)|(simp;omega)))|(with_reducible refine bt ?_ (by with_reducible assumption))));done)|(try unfold Box) <;> (rw [hV];simp only [halloc, Array.getElem?_push, Array.size_push];(repeat rw [if_neg (by omega)]);first|exact if_pos rfl|exact if_pos trivial)
theorem rev_map {α : Type} (f : Nat × α → Mp.Ent) (l : List α) : (Back.rev l).map f = (l.zipIdx.map fun p => f (p.2, p.1)).reverse := by
  unfold Back.rev
  rw [List.map_reverse, List.map_map]
  rfl
theorem ents_eq {xs : List Back.ZI} {zs : List ZoneV} (h : xs.map (·.1) = Back.rev zs) : ents xs = (Bk.zps (zs.map ZoneV.name)).reverse := by
  have e : ents xs = (xs.map (·.1)).map fun p => ((p.2.name, .int .i64 (p.1 : Int)) : Mp.Ent) := by unfold ents;rw [List.map_map];rfl
  rw [e, h, rev_map]
  unfold Bk.zps
  rw [List.zipIdx_map, List.map_map]
  rfl
theorem zip_fst {α β : Type} (f : α → β) (l : List α) : (l.zipIdx.map fun p => f p.1) = l.map f := by
  have h := List.zipIdx_map_fst 0 l
  have e : (l.zipIdx.map fun p => f p.1) = (l.zipIdx.map Prod.fst).map f := by rw [List.map_map];rfl
  rw [e, h]
theorem bools_eq {xs : List Back.ZI} {zs : List ZoneV} (h : xs.map (·.1) = Back.rev zs) : bools xs = ((zs.map ZoneV.name).map fun z => ((z, .bool true) : Mp.Ent)).reverse := by
  have e : bools xs = (xs.map (·.1)).map fun p => ((p.2.name, .bool true) : Mp.Ent) := by unfold bools;rw [List.map_map];rfl
  rw [e, h, rev_map, List.map_map]
  exact congrArg List.reverse (zip_fst (fun z : ZoneV => ((z.name, .bool true) : Mp.Ent)) zs)
theorem lents_eq {xs : List Back.LI} {ls : List LinkV} (h : xs.map (·.1) = Back.rev ls) : lents xs = (Bk.lps ls).reverse := by
  have e : lents xs = (xs.map (·.1)).map fun p => ((p.2.name, .string p.2.target) : Mp.Ent) := by unfold lents;rw [List.map_map];rfl
  rw [e, h, rev_map]
  exact congrArg List.reverse (zip_fst (fun z : LinkV => ((z.name, .string z.target) : Mp.Ent)) ls)
theorem lbools_eq {xs : List Back.LI} {ls : List LinkV} (h : xs.map (·.1) = Back.rev ls) : lbools xs = (ls.map fun x => ((x.name, .bool true) : Mp.Ent)).reverse := by
  have e : lbools xs = (xs.map (·.1)).map fun p => ((p.2.name, .bool true) : Mp.Ent) := by unfold lbools;rw [List.map_map];rfl
  rw [e, h, rev_map]
  exact congrArg List.reverse (zip_fst (fun z : LinkV => ((z.name, .bool true) : Mp.Ent)) ls)
theorem all_bool {xs : List Back.ZI} {ys : List Back.LI} : ∀ p ∈ Bk.fold (lbools ys) (Bk.fold (bools xs) []), ∃ x, p.2 = .bool x :=
  Bk.fold_bool (fun p hp => by unfold lbools at hp;obtain ⟨y, _, rfl⟩ := List.mem_map.1 hp;exact ⟨true, rfl⟩) (Bk.fold_bool (fun p hp => by unfold bools at hp;obtain ⟨y, _, rfl⟩ := List.mem_map.1 hp;exact ⟨true, rfl⟩) (fun p hp => by cases hp))
theorem keys_size {xs : List Back.ZI} {ys : List Back.LI} {s : ByteArray} (h : s ∈ SrtS.sortL ((Bk.fold (lbools ys) (Bk.fold (bools xs) [])).map (·.1))) : s.size ≤ 9223372036854775807 := by
  have h1 : s ∈ (Bk.fold (lbools ys) (Bk.fold (bools xs) [])).map (·.1) := by
    unfold SrtS.sortL SrtS.unb at h
    obtain ⟨l, hl, rfl⟩ := List.mem_map.1 h
    rw [List.mem_mergeSort] at hl
    unfold SrtS.bts at hl
    obtain ⟨y, hy, rfl⟩ := List.mem_map.1 hl
    exact hy
  rw [Bk.mem_fold, Bk.mem_fold] at h1
  rcases h1 with (h1|h1)|h1
  · cases h1
  · unfold bools at h1
    rw [List.map_map] at h1
    obtain ⟨y, _, rfl⟩ := List.mem_map.1 h1
    exact y.2.1
  · unfold lbools at h1
    rw [List.map_map] at h1
    obtain ⟨y, _, rfl⟩ := List.mem_map.1 h1
    exact y.2.1
theorem pairs {α : Type} {p : Nat × α → Prop} {l : List α} (h : ∀ x ∈ l, ∀ i, p (i, x)) : ∃ xs : List { x : Nat × α // p x }, xs.map (·.1) = Back.rev l := by
  refine ⟨(Back.rev l).pmap Subtype.mk (fun x hx => ?_), ?_⟩
  · unfold Back.rev at hx
    rw [List.mem_reverse, List.mem_map] at hx
    obtain ⟨q, hq, rfl⟩ := hx
    exact h _ (List.fst_mem_of_mem_zipIdx hq) _
  · rw [List.map_pmap]
    simp
set_option maxRecDepth 100000 in
set_option maxHeartbeats 12800000 in
theorem New {w : World} {t : TabV} (h : HoldsT w t) (hzs : t.zs.length ≤ 1000) (hls : t.ls.length ≤ 1000) :
    Calls Tryz.prog 17 #[.agg #[t.rv, t.zv, t.lv]] w fun e w' => ∃ p, e = .returned (.pointer (some ⟨p, 0, none⟩)) ∧ BkW.At w' p (RBk.zn t) t.ls ∧ Below w.heap.size w w' := by
  have hmm := @run_makeMap Tryz.prog
  obtain ⟨i1, hi, hz0, hz1, hz2⟩ := info_parts infoSl
  obtain ⟨pr, cr, e1⟩ := h.r.form
  obtain ⟨pz, cz, e2⟩ := h.z.form
  obtain ⟨pl, cl, e3⟩ := h.l.form
  have hmk : ∀ (W : World), (Instr.makeSlice 97 (.int .i64 t.zs.length) (.int .i64 t.zs.length)).run Tryz.prog W = .ok (.slice (some ⟨W.heap.size, 0, none⟩) t.zs.length t.zs.length) (W.alloc (.cells (madeCells (Value.slice none 0 0).cells t.zs.length) 64)) := fun W => by
    have := run_make (P := Tryz.prog) W 97 64 i1 _ Tryz.underlying97 hi hz0 .i64 .i64 t.zs.length t.zs.length (by omega) (Int.le_refl _) (by rw [hz2];omega) (by omega)
    rw [hz1, Int.toNat_natCast, Nat.mul_one] at this
    exact this
  have hHz := h.z
  have hHl := h.l
  rw [e2] at hHz
  rw [e3] at hHl
  obtain ⟨xs, hxs⟩ : ∃ xs : List Back.ZI, xs.map (·.1) = Back.rev t.zs := pairs (fun x hx i => by
    obtain ⟨q, c, hv⟩ := (h.zf x hx).e.form
    exact ⟨(h.zf x hx).n, q, _, c, hv⟩)
  obtain ⟨ys, hys⟩ : ∃ ys : List Back.LI, ys.map (·.1) = Back.rev t.ls := pairs (fun x hx i => ⟨(h.lf x hx).n, (h.lf x hx).t⟩)
  rw [e1, e2, e3]
  generalize hnr : t.rs.length = nr at *
  generalize hnz : t.zs.length = nz at *
  generalize hnl : t.ls.length = nl at *
  have HNZ := Lib.hid hnz;have HNL := Lib.hid hnl;have H := Lib.hid h;have HX := Lib.hid hxs;have HYS := Lib.hid hys;have HHZ := Lib.hid hHz;have HHL := Lib.hid hHl
  clear hnr hnz hnl h hxs hys e1 e2 e3 hHz hHl hi hz0 hz1 hz2
  refine (callsIn_wide (n := 6)).1 ?_
  refine callsIn_of_wp_marks Tryz.func17 rfl trivial ?_ rfl
  refine wpIn_wide.2 ?_
  simp only [Tryz.ntmps17, List.size_toArray, List.length_cons, List.length_nil, Nat.reduceAdd, Nat.reduceSub, Array.replicate_succ, Array.replicate_zero, List.push_toArray, List.append_toArray, List.nil_append, List.cons_append]
  go_wp2_with (go_at_call 43;refine (Back.make_zones _ _ _ _).mono ?_;rintro e w1 ⟨rfl, rfl⟩)
  obtain ⟨V, hV⟩ : ∃ V, V = ((((((((w.alloc (.cells #[.slice pr nr cr, .slice pz nz cz, .slice pl nl cl] 26)).alloc (.map #[] 0)).alloc (.map #[] 0)).alloc (.cells (madeCells #[.slice none 0 0] nz) 64)).alloc
      (.cells #[.map (some (w.heap.size + 1)), .map (some (w.heap.size + 1 + 1)), .slice (some ⟨w.heap.size + 1 + 1 + 1, 0, none⟩) nz nz] 99)).alloc (.cells #[.pointer (some ⟨w.heap.size + 1 + 1 + 1 + 1, 0, none⟩)] 48)).alloc (.map #[] 0)).alloc
      (.cells #[.map (some (w.heap.size + 1 + 1 + 1 + 1 + 1 + 1))] 90)).alloc (.cells #[.slice pz nz cz] 23) := ⟨_, rfl⟩
  have hVs : V.heap.size = w.heap.size + 9 := by rw [hV];simp
  obtain ⟨b0, m1, m2, b3, b4, b5, m6, b7, b8, hVb⟩ := start hV
  rw [← hV]
  have HV := Lib.hid hVb
  clear hV hVb hmk hmm
  refine (wpIn_wide (n := 6)).1 ?_
  refine wpIn_rangeFunc_ownH (F := Fence.wide) rfl (by omega) (gf := 78) (lb := #[.pointer (some ⟨w.heap.size + 1 + 1 + 1 + 1 + 1 + 1 + 1 + 1, 0, none⟩)]) rfl trivial
    (enters_of Tryz.func78 (by kernel_rfl) rfl)
    (Back.stops_zones Fence.wide 5 trivial rfl (by omega) (w.heap.size + 1 + 1 + 1 + 1 + 1 + 1 + 1 + 1) w V (.slice pz nz cz) t.zs HHZ.out HV.out b8 (by omega) (by rw [HNZ.out];omega) xs HX.out)
    (fun {A B C} h1 h2 => ⟨h1.1.trans h2.1, h2.2.trans h1.2⟩) (fun W l o o' hl hlo hc hk => ⟨belowK_b (w := w) (Nat.le_refl _) W l o o' (by omega) hlo hc hk, World.putObj_heap_other (by omega)⟩) (Below.refl _ _) (fun _ => rfl)
    (fun pre W => Far V W (w.heap.size + 1) (w.heap.size + 1 + 1 + 1 + 1 + 1 + 1) ∧ Mp.Lies W Tryz.prog 9 (w.heap.size + 1) (Bk.fold (ents pre) []) ∧ Mp.Lies W Tryz.prog 9 (w.heap.size + 1 + 1 + 1 + 1 + 1 + 1) (Bk.fold (bools pre) []))
    (fun _ _ _ => False) (own_all rfl (by omega) (by omega) (fun _ _ => Iff.rfl)) (fun _ _ _ _ _ hs _ _ => hs) ⟨Far.refl _ _ _, m1, m6⟩
    (fun x a' W => ∃ Bx, V.heap.size ≤ Bx ∧ Box W Bx #[.string x.1.2.name, x.1.2.v] 42 ∧ a' = { tmps := #[.agg #[.slice pr nr cr, .slice pz nz cz, .slice pl nl cl], .pointer (some ⟨w.heap.size, 0, none⟩), .pointer none, .pointer (some ⟨w.heap.size + 1 + 1 + 1 + 1 + 1, 0, none⟩), .pointer (some ⟨w.heap.size + 1 + 1 + 1 + 1 + 1 + 1 + 1, 0, none⟩), .int .i64 (x.1.1 : Int), .pointer (some ⟨Bx, 0, none⟩), undef, undef, undef, undef, undef, undef, .map (some (w.heap.size + 1)), .map (some (w.heap.size + 1 + 1)), .pointer (some ⟨w.heap.size, 1, none⟩), .slice pz nz cz, .int .i64 nz, .slice (some ⟨w.heap.size + 1 + 1 + 1, 0, none⟩) nz nz, .agg #[.map (some (w.heap.size + 1)), .map (some (w.heap.size + 1 + 1)), .slice (some ⟨w.heap.size + 1 + 1 + 1, 0, none⟩) nz nz], .pointer (some ⟨w.heap.size + 1 + 1 + 1 + 1, 0, none⟩), .map (some (w.heap.size + 1 + 1 + 1 + 1 + 1 + 1)), .pointer (some ⟨w.heap.size, 1, none⟩), .slice pz nz cz, .func (.func 78) #[] #[.pointer (some ⟨w.heap.size + 1 + 1 + 1 + 1 + 1 + 1 + 1 + 1, 0, none⟩)], .int .i64 (x.1.1 : Int), .agg #[.string x.1.2.name, x.1.2.v], undef, undef, undef, undef, undef, undef, undef, undef, undef, undef, undef, undef, undef, undef, undef, undef, undef, undef, undef, undef, undef, undef, undef, undef, undef, undef, undef, undef, undef, undef, undef, undef, undef, undef, undef, undef, undef, undef, undef, undef, undef, undef, undef, undef, undef, undef, undef, undef, undef, undef, undef, undef, undef, undef, undef, undef, undef, undef, undef, undef, undef, undef, undef, undef], defers := [] })
    ?hAx1 ?assign1 ?body1 ?done1 ?stop1
  case hAx1 =>
    rintro x a' s W W' row ⟨Bx, h1, h2, h3⟩ hg hr
    refine ⟨Bx, h1, (hg.block Bx h2.lt (fun e => ?_)).trans h2, h3⟩
    obtain ⟨_, o, ho, hc⟩ := hr _ e.symm
    rw [show W.heap[Bx]? = _ from h2] at ho
    cases ho
    cases hc
  case stop1 =>
    rintro D c pre W _ _ h _
    exact h.elim
  case assign1 =>
    rintro l pre ⟨⟨xi, ⟨zn, zv, ze⟩⟩, hxn, q, m, c, hv⟩ W K hI hK
    dsimp only at hv
    subst hv
    have HK := Lib.hid hK;have HI := Lib.hid hI
    dsimp only [Back.encZI]
    clear hK hI
    gi_wp2
    refine HK.out _ _ ((KeepsOthers.alloc _ _).from _) ⟨(Below.refl _ W).alloc (by have := HI.out.1.size;omega) _, (Below.heap_alloc W _ _ (by have := HI.out.1.size;omega))⟩ ?_ ⟨W.heap.size, HI.out.1.size, Box.new _ _ _, rfl⟩
    exact ⟨HI.out.1.grown (World.grownBy_alloc _ _ none) (fun r e => by cases e), HI.out.2.1.old _, HI.out.2.2.old _⟩
  case body1 =>
    rintro l pre ⟨⟨xi, ⟨zn, zv, ze⟩⟩, hxn, q, m, c, hv⟩ a' W hl hr ⟨hFar, hM1, hM6⟩ ⟨Bx, hBx, hbx, rfl⟩ hlt
    dsimp only at hv
    subst hv
    dsimp only at hbx ⊢
    have hxl : xs.length = nz := by have := congrArg List.length HX.out;rw [List.length_map, Back.rev_len, HNZ.out] at this;exact this
    have hl1 : (Bk.fold (ents pre) []).length < maxLen := by
      have h4 := Bk.fold_len (ents pre) []
      have h5 : (ents pre).length = pre.length := List.length_map _
      rw [h5, List.length_nil] at h4
      unfold maxLen
      omega
    have hl6 : (Bk.fold (bools pre) []).length < maxLen := by
      have h4 := Bk.fold_len (bools pre) []
      have h5 : (bools pre).length = pre.length := List.length_map _
      rw [h5] at h4
      have h6 : ([] : List Mp.Ent).length ≤ 1000 := by decide
      unfold maxLen
      omega
    obtain ⟨v0, st, o1, o2, hE, hS, hZ⟩ := hM1.entry (WideMaps.string_law Tryz.underlying9) Tryz.underlying95 hl1 BkW.zero_i (s := zn) (WideMaps.keyOf_string_mk Tryz.underlying9 hxn) (.int .i64 (xi : Int))
    obtain ⟨o3, hU, hNm⟩ := hM6.store (WideMaps.string_law Tryz.underlying9) Tryz.underlying90 hl6 BkW.zero_b (s := zn) (WideMaps.keyOf_string_mk Tryz.underlying9 hxn) (.bool true)
    have n1 : w.heap.size + 1 < W.heap.size := hM1.lt
    have n6 : w.heap.size + 1 + 1 + 1 + 1 + 1 + 1 < W.heap.size := hM6.lt
    have same : ∀ (u : World) (b : Nat) (o : Obj), b < u.heap.size → (setBlock u b o).heap[b]? = some o := fun u b o h => by unfold setBlock;simp [h]
    have oth : ∀ (u : World) (b b' : Nat) (o : Obj), b' ≠ b → (setBlock u b o).heap[b']? = u.heap[b']? := fun u b b' o h => by unfold setBlock;simp [Ne.symm h]
    have cel : ∀ (u : World) (b b' : Nat) (o : Obj) (j : Nat), b' ≠ b → (setBlock u b o).cell? ⟨b', j, none⟩ = u.cell? ⟨b', j, none⟩ := fun u b b' o j h => World.cell?_of_block (oth u b b' o h)
    have c5 := (hFar.box b5 (by omega) (by omega)).cell 0
    have c4 := (hFar.box b4 (by omega) (by omega)).cell 0
    have c7 := (hFar.box b7 (by omega) (by omega)).cell 0
    have cx := hbx.cell 0
    obtain ⟨U1, hU1⟩ : ∃ X, X = setBlock W.drew (w.heap.size + 1) o1 := ⟨_, rfl⟩
    obtain ⟨U2, hU2⟩ : ∃ X, X = setBlock U1 (w.heap.size + 1) o2 := ⟨_, rfl⟩
    obtain ⟨U3, hU3⟩ : ∃ X, X = setBlock U2 (w.heap.size + 1 + 1 + 1 + 1 + 1 + 1) o3 := ⟨_, rfl⟩
    have eE := hE W.drew rfl
    have eS := hS U1 (by rw [hU1];exact same _ _ _ n1)
    have eU := hU U2 (by rw [hU2, hU1, oth _ _ _ _ (by omega), oth _ _ _ _ (by omega)];rfl)
    simp only [goInt] at eE eS
    rw [← hU1] at eE
    rw [← hU2] at eS
    rw [← hU3] at eU
    have hT := turned W (w.heap.size + 1) (w.heap.size + 1 + 1 + 1 + 1 + 1 + 1) o1 o2 o3
    rw [← hU1, ← hU2, ← hU3] at hT
    have hfin : KeepsFrom V.heap.size W U3 ∧ (Below w.heap.size W U3 ∧ U3.heap[w.heap.size + 1 + 1 + 1 + 1 + 1 + 1 + 1 + 1]? = W.heap[w.heap.size + 1 + 1 + 1 + 1 + 1 + 1 + 1 + 1]?) ∧ Far V U3 (w.heap.size + 1) (w.heap.size + 1 + 1 + 1 + 1 + 1 + 1) ∧ Mp.Lies U3 Tryz.prog 9 (w.heap.size + 1) (Mp.put (Bk.fold (ents pre) []) zn (.int .i64 (xi : Int))) ∧ Mp.Lies U3 Tryz.prog 9 (w.heap.size + 1 + 1 + 1 + 1 + 1 + 1) (Mp.put (Bk.fold (bools pre) []) zn (.bool true)) :=
      ⟨hT.keeps (by omega) (by omega), ⟨hT.below (by omega) (by omega), hT.block _ (by omega) (by omega)⟩, hT.far hFar, hZ _ (by rw [hU3, oth _ _ _ _ (by omega), hU2];exact same _ _ _ (by rw [hU1];unfold setBlock;simpa using n1)), hNm _ (by rw [hU3];exact same _ _ _ (by rw [hU2, hU1];unfold setBlock;simpa using n6))⟩
    have HFIN := Lib.hid hfin
    have s0 : W.drew.cell? ⟨w.heap.size + 1 + 1 + 1 + 1 + 1, 0, none⟩ = some (.pointer (some ⟨w.heap.size + 1 + 1 + 1 + 1, 0, none⟩)) ∧ W.drew.cell? ⟨w.heap.size + 1 + 1 + 1 + 1, 0, none⟩ = some (.map (some (w.heap.size + 1))) ∧ W.drew.cell? ⟨Bx, 0, none⟩ = some (.string zn) ∧ W.drew.cell? ⟨w.heap.size + 1 + 1 + 1 + 1 + 1 + 1 + 1, 0, none⟩ = some (.map (some (w.heap.size + 1 + 1 + 1 + 1 + 1 + 1))) := ⟨c5, c4, cx, c7⟩
    have s1 : U1.cell? ⟨w.heap.size + 1 + 1 + 1 + 1 + 1, 0, none⟩ = some (.pointer (some ⟨w.heap.size + 1 + 1 + 1 + 1, 0, none⟩)) ∧ U1.cell? ⟨w.heap.size + 1 + 1 + 1 + 1, 0, none⟩ = some (.map (some (w.heap.size + 1))) ∧ U1.cell? ⟨Bx, 0, none⟩ = some (.string zn) ∧ U1.cell? ⟨w.heap.size + 1 + 1 + 1 + 1 + 1 + 1 + 1, 0, none⟩ = some (.map (some (w.heap.size + 1 + 1 + 1 + 1 + 1 + 1))) := by
      rw [hU1]
      exact ⟨(cel _ _ _ _ _ (by omega)).trans s0.1, (cel _ _ _ _ _ (by omega)).trans s0.2.1, (cel _ _ _ _ _ (by omega)).trans s0.2.2.1, (cel _ _ _ _ _ (by omega)).trans s0.2.2.2⟩
    have s2 : U2.cell? ⟨w.heap.size + 1 + 1 + 1 + 1 + 1, 0, none⟩ = some (.pointer (some ⟨w.heap.size + 1 + 1 + 1 + 1, 0, none⟩)) ∧ U2.cell? ⟨w.heap.size + 1 + 1 + 1 + 1, 0, none⟩ = some (.map (some (w.heap.size + 1))) ∧ U2.cell? ⟨Bx, 0, none⟩ = some (.string zn) ∧ U2.cell? ⟨w.heap.size + 1 + 1 + 1 + 1 + 1 + 1 + 1, 0, none⟩ = some (.map (some (w.heap.size + 1 + 1 + 1 + 1 + 1 + 1))) := by
      rw [hU2]
      exact ⟨(cel _ _ _ _ _ (by omega)).trans s1.1, (cel _ _ _ _ _ (by omega)).trans s1.2.1, (cel _ _ _ _ _ (by omega)).trans s1.2.2.1, (cel _ _ _ _ _ (by omega)).trans s1.2.2.2⟩
    have s3 : U3.cell? ⟨w.heap.size + 1 + 1 + 1 + 1 + 1, 0, none⟩ = some (.pointer (some ⟨w.heap.size + 1 + 1 + 1 + 1, 0, none⟩)) ∧ U3.cell? ⟨w.heap.size + 1 + 1 + 1 + 1, 0, none⟩ = some (.map (some (w.heap.size + 1))) ∧ U3.cell? ⟨Bx, 0, none⟩ = some (.string zn) ∧ U3.cell? ⟨w.heap.size + 1 + 1 + 1 + 1 + 1 + 1 + 1, 0, none⟩ = some (.map (some (w.heap.size + 1 + 1 + 1 + 1 + 1 + 1))) := by
      rw [hU3]
      exact ⟨(cel _ _ _ _ _ (by omega)).trans s2.1, (cel _ _ _ _ _ (by omega)).trans s2.2.1, (cel _ _ _ _ _ (by omega)).trans s2.2.2.1, (cel _ _ _ _ _ (by omega)).trans s2.2.2.2⟩
    clear hE hS hU hZ hNm hFar hM1 hM6 hbx same oth cel hl1 hl6 b0 m1 m2 b3 b4 b5 m6 b7 b8 hlt hr hT hfin hU1 hU2 hU3 c5 c4 c7 cx hxl
    gi_wp2
    refine wpIn_region_heldR (fun U => U.cell? ⟨w.heap.size + 1 + 1 + 1 + 1 + 1, 0, none⟩ = some (.pointer (some ⟨w.heap.size + 1 + 1 + 1 + 1, 0, none⟩)) ∧ U.cell? ⟨w.heap.size + 1 + 1 + 1 + 1, 0, none⟩ = some (.map (some (w.heap.size + 1))) ∧ U.cell? ⟨Bx, 0, none⟩ = some (.string zn) ∧ U.cell? ⟨w.heap.size + 1 + 1 + 1 + 1 + 1 + 1 + 1, 0, none⟩ = some (.map (some (w.heap.size + 1 + 1 + 1 + 1 + 1 + 1)))) (by kernel_rfl) (by kernel_rfl) ?hQ1 s0 ?_
    case hQ1 =>
      rintro ⟨a, w, h⟩
      exact h
    intro U hU0 hSU
    subst hU0
    refine wpAnyH_take (i := 0) (v := ?v0_1) rfl (by kernel_rfl) (by kernel_rfl) (by kernel_rfl) (fun _ _ _ h => h) (Or.inl ⟨by rfl, ?y0_1⟩) hSU ?r0_1
    case y0_1 => intro w hSw;(try dsimp only at hSw);go_simp;(try with_reducible rfl)
    try simp only [Act.put, List.setIfInBounds_toArray]
    refine wpAnyH_take (i := 1) (v := ?v1_1) rfl (by kernel_rfl) (by kernel_rfl) (by kernel_rfl) (fun _ _ _ h => h) (Or.inl ⟨by rfl, ?y1_1⟩) hSU ?r1_1
    case y1_1 => intro w hSw;(try dsimp only at hSw);go_simp;(try with_reducible rfl)
    try simp only [Act.put]
    refine wpAnyH_take (i := 2) (v := ?v2_1) rfl (by kernel_rfl) (by kernel_rfl) (by kernel_rfl) (fun _ _ _ h => h) (Or.inl ⟨by rfl, ?y2_1⟩) hSU ?r2_1
    case y2_1 => intro w hSw;(try dsimp only at hSw);go_simp;(try with_reducible rfl)
    try simp only [Act.put]
    refine wpAnyH_take (i := 3) (v := ?v3_1) rfl (by kernel_rfl) (by kernel_rfl) (by kernel_rfl) (fun _ _ _ h => h) (Or.inl ⟨by rfl, ?y3_1⟩) hSU ?r3_1
    case y3_1 => intro w hSw;(try dsimp only at hSw);go_simp;(try with_reducible rfl)
    try simp only [Act.put]
    refine wpAnyH_take (i := 4) (v := ?v4_1) rfl (by kernel_rfl) (by kernel_rfl) (by kernel_rfl) (fun _ _ _ h => h) (Or.inl ⟨by rfl, ?y4_1⟩) hSU ?r4_1
    case y4_1 => intro w hSw;(try dsimp only at hSw);go_simp;(try with_reducible rfl)
    try simp only [Act.put]
    refine wpAnyH_take (i := 5) (v := ?v5_1) rfl (by kernel_rfl) (by kernel_rfl) (by kernel_rfl) (fun _ _ _ h => h) (Or.inl ⟨by rfl, ?y5_1⟩) hSU ?r5_1
    case y5_1 => intro w hSw;(try dsimp only at hSw);go_simp;(try with_reducible rfl)
    try simp only [Act.put]
    refine wpAnyH_take (i := 6) (v := ?v6_1) rfl (by kernel_rfl) (by kernel_rfl) (by kernel_rfl) (fun _ _ _ h => h) (Or.inl ⟨by rfl, ?y6_1⟩) hSU ?r6_1
    case y6_1 => intro w hSw;(try dsimp only at hSw);go_simp;(try with_reducible rfl)
    try simp only [Act.put]
    refine wpAnyH_take (i := 7) (v := ?v7_1) rfl (by kernel_rfl) (by kernel_rfl) (by kernel_rfl) (fun _ _ _ h => h) (Or.inl ⟨by rfl, ?y7_1⟩) hSU ?r7_1
    case y7_1 => intro w hSw;(try dsimp only at hSw);go_simp;(try with_reducible rfl)
    try simp only [Act.put]
    refine wpAnyH_take (i := 8) (v := ?v8_1) rfl (by kernel_rfl) (by kernel_rfl) (by kernel_rfl) (fun _ _ _ h => h) (Or.inl ⟨by rfl, ?y8_1⟩) hSU ?r8_1
    case y8_1 => intro w hSw;(try dsimp only at hSw);go_simp;(try with_reducible rfl)
    try simp only [Act.put]
    refine wpAnyH_take (i := 9) (v := ?v9_1) rfl (by kernel_rfl) (by kernel_rfl) (by kernel_rfl) (fun _ _ _ h => h) (Or.inl ⟨by rfl, ?y9_1⟩) hSU ?r9_1
    case y9_1 => intro w hSw;(try dsimp only at hSw);go_simp;(try with_reducible rfl)
    try simp only [Act.put]
    refine wpAnyH_all (rs := [10]) (by kernel_rfl) (by simp) (List.forall_mem_cons.2 ⟨?_, (fun _ h => by cases h)⟩)
    refine wpOp_step rfl (fun K hK => ?_)
    go_simp
    refine hK _ _ ⟨s1, ?_⟩
    try simp only [Act.put, List.setIfInBounds_toArray, List.set_cons_zero, List.set_cons_succ]
    refine wpAnyH_take (i := 11) (v := ?v11_1) rfl (by kernel_rfl) (by kernel_rfl) (by kernel_rfl) (fun _ _ _ h => h) (Or.inl ⟨by rfl, ?y11_1⟩) s1 ?r11_1
    case y11_1 => intro w hSw;(try dsimp only at hSw);go_simp;(try with_reducible rfl)
    try simp only [Act.put, List.setIfInBounds_toArray]
    refine wpAnyH_all (rs := [12]) (by kernel_rfl) (by simp) (List.forall_mem_cons.2 ⟨?_, (fun _ h => by cases h)⟩)
    refine wpOp_step rfl (fun K hK => ?_)
    go_simp
    refine hK _ _ ⟨s2, ?_⟩
    try simp only [Act.put, List.setIfInBounds_toArray, List.set_cons_zero, List.set_cons_succ]
    refine wpAnyH_all (rs := [13]) (by kernel_rfl) (by simp) (List.forall_mem_cons.2 ⟨?_, (fun _ h => by cases h)⟩)
    refine wpOp_step rfl (fun K hK => ?_)
    go_simp
    refine hK _ _ ⟨s3, ?_⟩
    try simp only [Act.put, List.setIfInBounds_toArray, List.set_cons_zero, List.set_cons_succ]
    refine wpAnyH_done (by kernel_rfl) ?_ _
    refine ⟨HFIN.out.1, HFIN.out.2.1, HFIN.out.2.2.1, ?_, ?_⟩
    · unfold ents
      rw [List.map_append, List.map_cons, List.map_nil, Bk.fold_snoc]
      exact HFIN.out.2.2.2.1
    · unfold bools
      rw [List.map_append, List.map_cons, List.map_nil, Bk.fold_snoc]
      exact HFIN.out.2.2.2.2
  case done1 =>
    rintro D zz W hD hzz ⟨hFar, hM1, hM6⟩ hK1
    obtain rfl : xs = zz := hzz.symm
    have c0 := (hFar.box b0 (by omega) (by omega)).cell
    have hDW : D < W.heap.size := (Array.getElem?_eq_some_iff.1 hK1).1
    go_wp2_with (go_at_call 44;refine (Back.make_links _ _ _ _).mono ?_;rintro e w1 ⟨rfl, rfl⟩)
    obtain ⟨V2, hV2⟩ : ∃ X, X = W.alloc (.cells #[.slice pl nl cl] 24) := ⟨_, rfl⟩
    obtain ⟨Bs2, hBs2⟩ : ∃ X, X = W.heap.size := ⟨_, rfl⟩
    have hV2s : V2.heap.size = Bs2 + 1 := by rw [hV2, hBs2];simp
    have b8b : Box V2 Bs2 #[.slice pl nl cl] 24 := by rw [hV2, hBs2];exact Box.new _ _ _
    have b3b : Box V2 (w.heap.size + 1 + 1 + 1) (madeCells #[.slice none 0 0] nz) 64 := by rw [hV2];exact (hFar.box b3 (by omega) (by omega)).old
    have b4b : Box V2 (w.heap.size + 1 + 1 + 1 + 1) #[.map (some (w.heap.size + 1)), .map (some (w.heap.size + 1 + 1)), .slice (some ⟨w.heap.size + 1 + 1 + 1, 0, none⟩) nz nz] 99 := by rw [hV2];exact (hFar.box b4 (by omega) (by omega)).old
    have b5b : Box V2 (w.heap.size + 1 + 1 + 1 + 1 + 1) #[.pointer (some ⟨w.heap.size + 1 + 1 + 1 + 1, 0, none⟩)] 48 := by rw [hV2];exact (hFar.box b5 (by omega) (by omega)).old
    have b7b : Box V2 (w.heap.size + 1 + 1 + 1 + 1 + 1 + 1 + 1) #[.map (some (w.heap.size + 1 + 1 + 1 + 1 + 1 + 1))] 90 := by rw [hV2];exact (hFar.box b7 (by omega) (by omega)).old
    have m1b : Mp.Lies V2 Tryz.prog 9 (w.heap.size + 1) (Bk.fold (ents xs) []) := by rw [hV2];exact hM1.old _
    have m2b : Mp.Lies V2 Tryz.prog 9 (w.heap.size + 1 + 1) [] := by rw [hV2];exact (m2.same (hFar.block _ m2.lt (by omega) (by omega))).old _
    have m6b : Mp.Lies V2 Tryz.prog 9 (w.heap.size + 1 + 1 + 1 + 1 + 1 + 1) (Bk.fold (bools xs) []) := by rw [hV2];exact hM6.old _
    have hK1b : V2.heap[D]? = some (.deferred (some [])) := by rw [hV2];exact (Below.heap_alloc W _ D hDW).trans hK1
    have HV2 : Hid (Below w.heap.size w V2) := by rw [hV2];exact ba (hFar.below HV.out (by omega) (by omega) (by omega))
    have hBsn : w.heap.size + 9 ≤ Bs2 := by have := hFar.size;omega
    rw [← hV2, ← hBs2]
    rw [← hBs2] at hDW
    clear hV2 hBs2 hFar hM1 hM6 hK1 c0 b0 m1 m2 b3 b4 b5 m6 b7 b8
    replace m2 := m2b
    refine (wpIn_wide (n := 6)).1 ?_
    refine wpIn_rangeFunc_ownH (F := Fence.wide) rfl (by omega) (gf := 79) (lb := #[.pointer (some ⟨Bs2, 0, none⟩)]) rfl trivial
      (enters_of Tryz.func79 (by kernel_rfl) rfl)
      (Back.stops_links Fence.wide 5 trivial rfl (by omega) (Bs2) w V2 (.slice pl nl cl) t.ls HHL.out HV2.out b8b (by omega) (by rw [HNL.out];omega) ys HYS.out)
      (fun {A B C} h1 h2 => ⟨h1.1.trans h2.1, h2.2.trans h1.2⟩) (fun W l o o' hl hlo hc hk => ⟨belowK_b (w := w) (Nat.le_refl _) W l o o' (by omega) hlo hc hk, World.putObj_heap_other (by omega)⟩) (Below.refl _ _) (fun _ => rfl)
      (fun pre W => Far V2 W (w.heap.size + 1 + 1) (w.heap.size + 1 + 1 + 1 + 1 + 1 + 1) ∧ Mp.Lies W Tryz.prog 9 (w.heap.size + 1 + 1) (Bk.fold (lents pre) []) ∧ Mp.Lies W Tryz.prog 9 (w.heap.size + 1 + 1 + 1 + 1 + 1 + 1) (Bk.fold (lbools pre) (Bk.fold (bools xs) [])))
      (fun _ _ _ => False) (own_all rfl (by omega) (by omega) (fun _ _ => Iff.rfl)) (fun _ _ _ _ _ hs _ _ => hs) ⟨Far.refl _ _ _, m2, m6b⟩
      (fun x a' W => ∃ Bx, V2.heap.size ≤ Bx ∧ Box W Bx #[.string x.1.2.target, .string x.1.2.name] 51 ∧ a' = { tmps := #[.agg #[.slice pr nr cr, .slice pz nz cz, .slice pl nl cl], .pointer (some ⟨w.heap.size, 0, none⟩), .pointer none, .pointer (some ⟨w.heap.size + 1 + 1 + 1 + 1 + 1, 0, none⟩), .pointer (some ⟨w.heap.size + 1 + 1 + 1 + 1 + 1 + 1 + 1, 0, none⟩), undef, undef, undef, .pointer (some ⟨Bx, 0, none⟩), undef, undef, undef, undef, .map (some (w.heap.size + 1)), .map (some (w.heap.size + 1 + 1)), .pointer (some ⟨w.heap.size, 1, none⟩), .slice pz nz cz, .int .i64 nz, .slice (some ⟨w.heap.size + 1 + 1 + 1, 0, none⟩) nz nz, .agg #[.map (some (w.heap.size + 1)), .map (some (w.heap.size + 1 + 1)), .slice (some ⟨w.heap.size + 1 + 1 + 1, 0, none⟩) nz nz], .pointer (some ⟨w.heap.size + 1 + 1 + 1 + 1, 0, none⟩), .map (some (w.heap.size + 1 + 1 + 1 + 1 + 1 + 1)), .pointer (some ⟨w.heap.size, 1, none⟩), .slice pz nz cz, .func (.func 78) #[] #[.pointer (some ⟨w.heap.size + 1 + 1 + 1 + 1 + 1 + 1 + 1 + 1, 0, none⟩)], undef, undef, undef, undef, undef, undef, undef, undef, undef, undef, undef, undef, undef, undef, .pointer (some ⟨w.heap.size, 2, none⟩), .slice pl nl cl, .func (.func 79) #[] #[.pointer (some ⟨Bs2, 0, none⟩)], .int .i64 (x.1.1 : Int), .agg #[.string x.1.2.target, .string x.1.2.name], undef, undef, undef, undef, undef, undef, undef, undef, undef, undef, undef, undef, undef, undef, undef, undef, undef, undef, undef, undef, undef, undef, undef, undef, undef, undef, undef, undef, undef, undef, undef, undef, undef, undef, undef, undef, undef, undef, undef, undef, undef, undef, undef, undef, undef, undef, undef], defers := [] })
      ?hAx2 ?assign2 ?body2 ?done2 ?stop2
    case hAx2 =>
      rintro x a' s W W' row ⟨Bx, h1, h2, h3⟩ hg hr
      refine ⟨Bx, h1, (hg.block Bx h2.lt (fun e => ?_)).trans h2, h3⟩
      obtain ⟨_, o, ho, hc⟩ := hr _ e.symm
      rw [show W.heap[Bx]? = _ from h2] at ho
      cases ho
      cases hc
    case stop2 =>
      rintro D c pre W _ _ h _
      exact h.elim
    case assign2 =>
      rintro l pre ⟨⟨xi, ⟨tg, zn⟩⟩, hxn, hxt⟩ W K hI hK
      have HK := Lib.hid hK;have HI := Lib.hid hI
      dsimp only [Back.encLI]
      clear hK hI
      gi_wp2
      refine HK.out _ _ ((KeepsOthers.alloc _ _).from _) ⟨(Below.refl _ W).alloc (by have := HI.out.1.size;omega) _, (Below.heap_alloc W _ _ (by have := HI.out.1.size;omega))⟩ ?_ ⟨W.heap.size, HI.out.1.size, Box.new _ _ _, rfl⟩
      exact ⟨HI.out.1.grown (World.grownBy_alloc _ _ none) (fun r e => by cases e), HI.out.2.1.old _, HI.out.2.2.old _⟩
    case body2 =>
      rintro l pre ⟨⟨xi, ⟨tg, zn⟩⟩, hxn, hxt⟩ a' W hl hr ⟨hFar, hM1, hM6⟩ ⟨Bx, hBx, hbx, rfl⟩ hlt
      dsimp only at hbx ⊢
      have hxl : ys.length = nl := by have := congrArg List.length HYS.out;rw [List.length_map, Back.rev_len, HNL.out] at this;exact this
      have hl1 : (Bk.fold (lents pre) []).length < maxLen := by
        have h4 := Bk.fold_len (lents pre) []
        have h5 : (lents pre).length = pre.length := List.length_map _
        rw [h5, List.length_nil] at h4
        unfold maxLen
        omega
      have hl6 : (Bk.fold (lbools pre) (Bk.fold (bools xs) [])).length < maxLen := by
        have h4 := Bk.fold_len (lbools pre) (Bk.fold (bools xs) [])
        have h5 : (lbools pre).length = pre.length := List.length_map _
        rw [h5] at h4
        have h6 : ((Bk.fold (bools xs) []) : List Mp.Ent).length ≤ 1000 := by
          have h7 := Bk.fold_len (bools xs) []
          have h8 : (bools xs).length = xs.length := List.length_map _
          have h9 : xs.length = nz := by have := congrArg List.length HX.out;rw [List.length_map, Back.rev_len, HNZ.out] at this;exact this
          rw [h8, List.length_nil] at h7
          omega
        unfold maxLen
        omega
      obtain ⟨v0, st, o1, o2, hE, hS, hZ⟩ := hM1.entry (WideMaps.string_law Tryz.underlying9) Tryz.underlying96 hl1 BkW.zero_s (s := zn) (WideMaps.keyOf_string_mk Tryz.underlying9 hxn) (.string tg)
      obtain ⟨o3, hU, hNm⟩ := hM6.store (WideMaps.string_law Tryz.underlying9) Tryz.underlying90 hl6 BkW.zero_b (s := zn) (WideMaps.keyOf_string_mk Tryz.underlying9 hxn) (.bool true)
      have n1 : w.heap.size + 1 + 1 < W.heap.size := hM1.lt
      have n6 : w.heap.size + 1 + 1 + 1 + 1 + 1 + 1 < W.heap.size := hM6.lt
      have same : ∀ (u : World) (b : Nat) (o : Obj), b < u.heap.size → (setBlock u b o).heap[b]? = some o := fun u b o h => by unfold setBlock;simp [h]
      have oth : ∀ (u : World) (b b' : Nat) (o : Obj), b' ≠ b → (setBlock u b o).heap[b']? = u.heap[b']? := fun u b b' o h => by unfold setBlock;simp [Ne.symm h]
      have cel : ∀ (u : World) (b b' : Nat) (o : Obj) (j : Nat), b' ≠ b → (setBlock u b o).cell? ⟨b', j, none⟩ = u.cell? ⟨b', j, none⟩ := fun u b b' o j h => World.cell?_of_block (oth u b b' o h)
      have c5 := (hFar.box b5b (by omega) (by omega)).cell 0
      have c4 := (hFar.box b4b (by omega) (by omega)).cell 1
      have c7 := (hFar.box b7b (by omega) (by omega)).cell 0
      have cx := hbx.cell 0
      have cy := hbx.cell 1
      obtain ⟨U1, hU1⟩ : ∃ X, X = setBlock W.drew (w.heap.size + 1 + 1) o1 := ⟨_, rfl⟩
      obtain ⟨U2, hU2⟩ : ∃ X, X = setBlock U1 (w.heap.size + 1 + 1) o2 := ⟨_, rfl⟩
      obtain ⟨U3, hU3⟩ : ∃ X, X = setBlock U2 (w.heap.size + 1 + 1 + 1 + 1 + 1 + 1) o3 := ⟨_, rfl⟩
      have eE := hE W.drew rfl
      have eS := hS U1 (by rw [hU1];exact same _ _ _ n1)
      have eU := hU U2 (by rw [hU2, hU1, oth _ _ _ _ (by omega), oth _ _ _ _ (by omega)];rfl)
      simp only [goInt] at eE eS
      rw [← hU1] at eE
      rw [← hU2] at eS
      rw [← hU3] at eU
      have hT := turned W (w.heap.size + 1 + 1) (w.heap.size + 1 + 1 + 1 + 1 + 1 + 1) o1 o2 o3
      rw [← hU1, ← hU2, ← hU3] at hT
      have hfin : KeepsFrom V2.heap.size W U3 ∧ (Below w.heap.size W U3 ∧ U3.heap[Bs2]? = W.heap[Bs2]?) ∧ Far V2 U3 (w.heap.size + 1 + 1) (w.heap.size + 1 + 1 + 1 + 1 + 1 + 1) ∧ Mp.Lies U3 Tryz.prog 9 (w.heap.size + 1 + 1) (Mp.put (Bk.fold (lents pre) []) zn (.string tg)) ∧ Mp.Lies U3 Tryz.prog 9 (w.heap.size + 1 + 1 + 1 + 1 + 1 + 1) (Mp.put (Bk.fold (lbools pre) (Bk.fold (bools xs) [])) zn (.bool true)) :=
        ⟨hT.keeps (by omega) (by omega), ⟨hT.below (by omega) (by omega), hT.block _ (by omega) (by omega)⟩, hT.far hFar, hZ _ (by rw [hU3, oth _ _ _ _ (by omega), hU2];exact same _ _ _ (by rw [hU1];unfold setBlock;simpa using n1)), hNm _ (by rw [hU3];exact same _ _ _ (by rw [hU2, hU1];unfold setBlock;simpa using n6))⟩
      have HFIN := Lib.hid hfin
      have s0 : W.drew.cell? ⟨w.heap.size + 1 + 1 + 1 + 1 + 1, 0, none⟩ = some (.pointer (some ⟨w.heap.size + 1 + 1 + 1 + 1, 0, none⟩)) ∧ W.drew.cell? ⟨w.heap.size + 1 + 1 + 1 + 1, 1, none⟩ = some (.map (some (w.heap.size + 1 + 1))) ∧ W.drew.cell? ⟨Bx, 0, none⟩ = some (.string tg) ∧ W.drew.cell? ⟨w.heap.size + 1 + 1 + 1 + 1 + 1 + 1 + 1, 0, none⟩ = some (.map (some (w.heap.size + 1 + 1 + 1 + 1 + 1 + 1))) ∧ W.drew.cell? ⟨Bx, 1, none⟩ = some (.string zn) := ⟨c5, c4, cx, c7, cy⟩
      have s1 : U1.cell? ⟨w.heap.size + 1 + 1 + 1 + 1 + 1, 0, none⟩ = some (.pointer (some ⟨w.heap.size + 1 + 1 + 1 + 1, 0, none⟩)) ∧ U1.cell? ⟨w.heap.size + 1 + 1 + 1 + 1, 1, none⟩ = some (.map (some (w.heap.size + 1 + 1))) ∧ U1.cell? ⟨Bx, 0, none⟩ = some (.string tg) ∧ U1.cell? ⟨w.heap.size + 1 + 1 + 1 + 1 + 1 + 1 + 1, 0, none⟩ = some (.map (some (w.heap.size + 1 + 1 + 1 + 1 + 1 + 1))) ∧ U1.cell? ⟨Bx, 1, none⟩ = some (.string zn) := by
        rw [hU1]
        exact ⟨(cel _ _ _ _ _ (by omega)).trans s0.1, (cel _ _ _ _ _ (by omega)).trans s0.2.1, (cel _ _ _ _ _ (by omega)).trans s0.2.2.1, (cel _ _ _ _ _ (by omega)).trans s0.2.2.2.1, (cel _ _ _ _ _ (by omega)).trans s0.2.2.2.2⟩
      have s2 : U2.cell? ⟨w.heap.size + 1 + 1 + 1 + 1 + 1, 0, none⟩ = some (.pointer (some ⟨w.heap.size + 1 + 1 + 1 + 1, 0, none⟩)) ∧ U2.cell? ⟨w.heap.size + 1 + 1 + 1 + 1, 1, none⟩ = some (.map (some (w.heap.size + 1 + 1))) ∧ U2.cell? ⟨Bx, 0, none⟩ = some (.string tg) ∧ U2.cell? ⟨w.heap.size + 1 + 1 + 1 + 1 + 1 + 1 + 1, 0, none⟩ = some (.map (some (w.heap.size + 1 + 1 + 1 + 1 + 1 + 1))) ∧ U2.cell? ⟨Bx, 1, none⟩ = some (.string zn) := by
        rw [hU2]
        exact ⟨(cel _ _ _ _ _ (by omega)).trans s1.1, (cel _ _ _ _ _ (by omega)).trans s1.2.1, (cel _ _ _ _ _ (by omega)).trans s1.2.2.1, (cel _ _ _ _ _ (by omega)).trans s1.2.2.2.1, (cel _ _ _ _ _ (by omega)).trans s1.2.2.2.2⟩
      have s3 : U3.cell? ⟨w.heap.size + 1 + 1 + 1 + 1 + 1, 0, none⟩ = some (.pointer (some ⟨w.heap.size + 1 + 1 + 1 + 1, 0, none⟩)) ∧ U3.cell? ⟨w.heap.size + 1 + 1 + 1 + 1, 1, none⟩ = some (.map (some (w.heap.size + 1 + 1))) ∧ U3.cell? ⟨Bx, 0, none⟩ = some (.string tg) ∧ U3.cell? ⟨w.heap.size + 1 + 1 + 1 + 1 + 1 + 1 + 1, 0, none⟩ = some (.map (some (w.heap.size + 1 + 1 + 1 + 1 + 1 + 1))) ∧ U3.cell? ⟨Bx, 1, none⟩ = some (.string zn) := by
        rw [hU3]
        exact ⟨(cel _ _ _ _ _ (by omega)).trans s2.1, (cel _ _ _ _ _ (by omega)).trans s2.2.1, (cel _ _ _ _ _ (by omega)).trans s2.2.2.1, (cel _ _ _ _ _ (by omega)).trans s2.2.2.2.1, (cel _ _ _ _ _ (by omega)).trans s2.2.2.2.2⟩
      clear hE hS hU hZ hNm hFar hM1 hM6 hbx same oth cel hl1 hl6 b4b b5b b7b b8b hlt hr hT hfin hU1 hU2 hU3 c5 c4 c7 cx cy hxl
      gi_wp2
      refine wpIn_region_heldR (fun U => U.cell? ⟨w.heap.size + 1 + 1 + 1 + 1 + 1, 0, none⟩ = some (.pointer (some ⟨w.heap.size + 1 + 1 + 1 + 1, 0, none⟩)) ∧ U.cell? ⟨w.heap.size + 1 + 1 + 1 + 1, 1, none⟩ = some (.map (some (w.heap.size + 1 + 1))) ∧ U.cell? ⟨Bx, 0, none⟩ = some (.string tg) ∧ U.cell? ⟨w.heap.size + 1 + 1 + 1 + 1 + 1 + 1 + 1, 0, none⟩ = some (.map (some (w.heap.size + 1 + 1 + 1 + 1 + 1 + 1))) ∧ U.cell? ⟨Bx, 1, none⟩ = some (.string zn)) (by kernel_rfl) (by kernel_rfl) ?hQ2 s0 ?_
      case hQ2 =>
        rintro ⟨a, w, h⟩
        exact h
      intro U hU0 hSU
      subst hU0
      refine wpAnyH_take (i := 0) (v := ?v0_2) rfl (by kernel_rfl) (by kernel_rfl) (by kernel_rfl) (fun _ _ _ h => h) (Or.inl ⟨by rfl, ?y0_2⟩) hSU ?r0_2
      case y0_2 => intro w hSw;(try dsimp only at hSw);go_simp;(try with_reducible rfl)
      try simp only [Act.put, List.setIfInBounds_toArray]
      refine wpAnyH_take (i := 1) (v := ?v1_2) rfl (by kernel_rfl) (by kernel_rfl) (by kernel_rfl) (fun _ _ _ h => h) (Or.inl ⟨by rfl, ?y1_2⟩) hSU ?r1_2
      case y1_2 => intro w hSw;(try dsimp only at hSw);go_simp;(try with_reducible rfl)
      try simp only [Act.put]
      refine wpAnyH_take (i := 2) (v := ?v2_2) rfl (by kernel_rfl) (by kernel_rfl) (by kernel_rfl) (fun _ _ _ h => h) (Or.inl ⟨by rfl, ?y2_2⟩) hSU ?r2_2
      case y2_2 => intro w hSw;(try dsimp only at hSw);go_simp;(try with_reducible rfl)
      try simp only [Act.put]
      refine wpAnyH_take (i := 3) (v := ?v3_2) rfl (by kernel_rfl) (by kernel_rfl) (by kernel_rfl) (fun _ _ _ h => h) (Or.inl ⟨by rfl, ?y3_2⟩) hSU ?r3_2
      case y3_2 => intro w hSw;(try dsimp only at hSw);go_simp;(try with_reducible rfl)
      try simp only [Act.put]
      refine wpAnyH_take (i := 4) (v := ?v4_2) rfl (by kernel_rfl) (by kernel_rfl) (by kernel_rfl) (fun _ _ _ h => h) (Or.inl ⟨by rfl, ?y4_2⟩) hSU ?r4_2
      case y4_2 => intro w hSw;(try dsimp only at hSw);go_simp;(try with_reducible rfl)
      try simp only [Act.put]
      refine wpAnyH_take (i := 5) (v := ?v5_2) rfl (by kernel_rfl) (by kernel_rfl) (by kernel_rfl) (fun _ _ _ h => h) (Or.inl ⟨by rfl, ?y5_2⟩) hSU ?r5_2
      case y5_2 => intro w hSw;(try dsimp only at hSw);go_simp;(try with_reducible rfl)
      try simp only [Act.put]
      refine wpAnyH_take (i := 6) (v := ?v6_2) rfl (by kernel_rfl) (by kernel_rfl) (by kernel_rfl) (fun _ _ _ h => h) (Or.inl ⟨by rfl, ?y6_2⟩) hSU ?r6_2
      case y6_2 => intro w hSw;(try dsimp only at hSw);go_simp;(try with_reducible rfl)
      try simp only [Act.put]
      refine wpAnyH_take (i := 7) (v := ?v7_2) rfl (by kernel_rfl) (by kernel_rfl) (by kernel_rfl) (fun _ _ _ h => h) (Or.inl ⟨by rfl, ?y7_2⟩) hSU ?r7_2
      case y7_2 => intro w hSw;(try dsimp only at hSw);go_simp;(try with_reducible rfl)
      try simp only [Act.put]
      refine wpAnyH_take (i := 8) (v := ?v8_2) rfl (by kernel_rfl) (by kernel_rfl) (by kernel_rfl) (fun _ _ _ h => h) (Or.inl ⟨by rfl, ?y8_2⟩) hSU ?r8_2
      case y8_2 => intro w hSw;(try dsimp only at hSw);go_simp;(try with_reducible rfl)
      try simp only [Act.put]
      refine wpAnyH_take (i := 9) (v := ?v9_2) rfl (by kernel_rfl) (by kernel_rfl) (by kernel_rfl) (fun _ _ _ h => h) (Or.inl ⟨by rfl, ?y9_2⟩) hSU ?r9_2
      case y9_2 => intro w hSw;(try dsimp only at hSw);go_simp;(try with_reducible rfl)
      try simp only [Act.put]
      refine wpAnyH_take (i := 10) (v := ?v10_2) rfl (by kernel_rfl) (by kernel_rfl) (by kernel_rfl) (fun _ _ _ h => h) (Or.inl ⟨by rfl, ?y10_2⟩) hSU ?r10_2
      case y10_2 => intro w hSw;(try dsimp only at hSw);go_simp;(try with_reducible rfl)
      try simp only [Act.put]
      refine wpAnyH_all (rs := [11]) (by kernel_rfl) (by simp) (List.forall_mem_cons.2 ⟨?_, (fun _ h => by cases h)⟩)
      refine wpOp_step rfl (fun K hK => ?_)
      go_simp
      refine hK _ _ ⟨s1, ?_⟩
      try simp only [Act.put, List.setIfInBounds_toArray, List.set_cons_zero, List.set_cons_succ]
      refine wpAnyH_take (i := 12) (v := ?v12_2) rfl (by kernel_rfl) (by kernel_rfl) (by kernel_rfl) (fun _ _ _ h => h) (Or.inl ⟨by rfl, ?y12_2⟩) s1 ?r12_2
      case y12_2 => intro w hSw;(try dsimp only at hSw);go_simp;(try with_reducible rfl)
      try simp only [Act.put, List.setIfInBounds_toArray]
      refine wpAnyH_all (rs := [13]) (by kernel_rfl) (by simp) (List.forall_mem_cons.2 ⟨?_, (fun _ h => by cases h)⟩)
      refine wpOp_step rfl (fun K hK => ?_)
      go_simp
      refine hK _ _ ⟨s2, ?_⟩
      try simp only [Act.put, List.setIfInBounds_toArray, List.set_cons_zero, List.set_cons_succ]
      refine wpAnyH_all (rs := [14]) (by kernel_rfl) (by simp) (List.forall_mem_cons.2 ⟨?_, (fun _ h => by cases h)⟩)
      refine wpOp_step rfl (fun K hK => ?_)
      go_simp
      refine hK _ _ ⟨s3, ?_⟩
      try simp only [Act.put, List.setIfInBounds_toArray, List.set_cons_zero, List.set_cons_succ]
      refine wpAnyH_done (by kernel_rfl) ?_ _
      refine ⟨HFIN.out.1, HFIN.out.2.1, HFIN.out.2.2.1, ?_, ?_⟩
      · unfold lents
        rw [List.map_append, List.map_cons, List.map_nil, Bk.fold_snoc]
        exact HFIN.out.2.2.2.1
      · unfold lbools
        rw [List.map_append, List.map_cons, List.map_nil, Bk.fold_snoc]
        exact HFIN.out.2.2.2.2
    case done2 =>
      rintro D2 zz W2 hD2 hzz ⟨hFar, hM2, hM6⟩ hK2
      obtain rfl : ys = zz := hzz.symm
      have hW2 := hFar.size
      have hDW2 : D2 < W2.heap.size := (Array.getElem?_eq_some_iff.1 hK2).1
      have c7 := (hFar.box b7b (by omega) (by omega)).cell 0
      have hM1 : Mp.Lies W2 Tryz.prog 9 (w.heap.size + 1) (Bk.fold (ents xs) []) := m1b.same (hFar.block _ m1b.lt (by omega) (by omega))
      have hlen6 : (Bk.fold (lbools ys) (Bk.fold (bools xs) [])).length ≤ 2000 := by
        have a1 := Bk.fold_len (lbools ys) (Bk.fold (bools xs) [])
        have a2 := Bk.fold_len (bools xs) []
        have a3 : (bools xs).length = xs.length := List.length_map _
        have a4 : (lbools ys).length = ys.length := List.length_map _
        have a5 : xs.length = nz := by have := congrArg List.length HX.out;rw [List.length_map, Back.rev_len, HNZ.out] at this;exact this
        have a6 : ys.length = nl := by have := congrArg List.length HYS.out;rw [List.length_map, Back.rev_len, HNL.out] at this;exact this
        rw [a3, List.length_nil] at a2
        rw [a4] at a1
        omega
      obtain ⟨KEYS, hKEYS⟩ : ∃ K, K = SrtS.sortL ((Bk.fold (lbools ys) (Bk.fold (bools xs) [])).map (·.1)) := ⟨_, rfl⟩
      have hsor := SrtS.Sorted (hM6.old (.cells #[.map (some (w.heap.size + 1 + 1 + 1 + 1 + 1 + 1))] 90)) all_bool (Box.new W2 #[.map (some (w.heap.size + 1 + 1 + 1 + 1 + 1 + 1))] 90) (by omega)
      rw [← hKEYS] at hsor
      have hks : ∀ s ∈ KEYS, s.size ≤ 9223372036854775807 := fun s hs => keys_size (by rw [← hKEYS];exact hs)
      have HSOR := Lib.hid hsor;have HM1 := Lib.hid hM1;have HM2 := Lib.hid hM2;have HKS := Lib.hid hks;have HK := Lib.hid hKEYS
      replace hlen6 : Hid ((Bk.fold (lbools ys) (Bk.fold (bools xs) [])).length ≤ 100000) := by show _ ≤ _;omega
      clear hsor hM1 hM2 hM6 hks hKEYS m1b m2 m2b m6b
      go_wp2_with (first
        | (go_at_call 46;refine (SrtS.Keys _ _).mono ?_;rintro e w3 ⟨rfl, rfl⟩)
        | (go_at_call 45;refine HSOR.out.mono ?_;rintro e w3 ⟨v3, rfl, hown3, hb3⟩;obtain ⟨q3, c3, hv3⟩ := Grp.own_form hown3;rw [hv3] at hown3 ⊢))
      have c7w : True := trivial
      obtain ⟨Z, hZ⟩ : ∃ Z, Z = RBk.zn t := ⟨_, rfl⟩
      obtain ⟨LS, hLS⟩ : ∃ L, L = t.ls := ⟨_, rfl⟩
      have b3c : Box w3 (w.heap.size + 1 + 1 + 1) (madeCells #[.slice none 0 0] nz) 64 := ((hFar.box b3b (by omega) (by omega)).old).later hb3
      have b4c : Box w3 (w.heap.size + 1 + 1 + 1 + 1) #[.map (some (w.heap.size + 1)), .map (some (w.heap.size + 1 + 1)), .slice (some ⟨w.heap.size + 1 + 1 + 1, 0, none⟩) nz nz] 99 := ((hFar.box b4b (by omega) (by omega)).old).later hb3
      have b5c : Box w3 (w.heap.size + 1 + 1 + 1 + 1 + 1) #[.pointer (some ⟨w.heap.size + 1 + 1 + 1 + 1, 0, none⟩)] 48 := ((hFar.box b5b (by omega) (by omega)).old).later hb3
      have m1c : Mp.Lies w3 Tryz.prog 9 (w.heap.size + 1) (Bk.zmap Z) := by
        have := (HM1.out.old (.cells #[.map (some (w.heap.size + 1 + 1 + 1 + 1 + 1 + 1))] 90)).later hb3
        rw [ents_eq HX.out] at this
        rw [hZ]
        exact this
      have m2c : Mp.Lies w3 Tryz.prog 9 (w.heap.size + 1 + 1) (Bk.lmap LS) := by
        have := (HM2.out.old (.cells #[.map (some (w.heap.size + 1 + 1 + 1 + 1 + 1 + 1))] 90)).later hb3
        rw [lents_eq HYS.out] at this
        rw [hLS]
        exact this
      have hKEYS2 : KEYS = Bk.keys Z LS := by
        rw [HK.out, hZ, hLS, bools_eq HX.out, lbools_eq HYS.out]
        rfl
      have hd1 : w3.heap[D]? = some (.deferred (some [])) := by
        have h1 : W2.heap[D]? = some (.deferred (some [])) := (hFar.block D (by omega) (by omega) (by omega)).trans hK1b
        have h2 : D < (W2.alloc (.cells #[.map (some (w.heap.size + 1 + 1 + 1 + 1 + 1 + 1))] 90)).heap.size := by simp;omega
        exact (hb3.block D h2).trans ((Below.heap_alloc W2 _ D (by omega)).trans h1)
      have hd2 : w3.heap[D2]? = some (.deferred (some [])) := by
        have h2 : D2 < (W2.alloc (.cells #[.map (some (w.heap.size + 1 + 1 + 1 + 1 + 1 + 1))] 90)).heap.size := by simp;omega
        exact (hb3.block D2 h2).trans ((Below.heap_alloc W2 _ D2 hDW2).trans hK2)
      have hbw3 : Below w.heap.size w w3 := (ba (hFar.below HV2.out (by omega) (by omega) (by omega))).trans (hb3.mono (by simp;omega))
      have hsz3 : W2.heap.size < w3.heap.size := by have := hb3.size;simp at this;omega
      have hlsf : ∀ x ∈ LS, x.target.size ≤ 9223372036854775807 := fun x hx => (H.out.lf x (by rw [← hLS];exact hx)).t
      have hZl : Z.length = nz := by rw [hZ];unfold RBk.zn;rw [List.length_map];exact HNZ.out
      have hLl : LS.length = nl := by rw [hLS];exact HNL.out
      obtain ⟨N, hN⟩ : ∃ N, N = KEYS.length := ⟨_, rfl⟩
      obtain ⟨qk, ck, eqk, hpk⟩ := (HoldsS.of_own hown3).pk1
      rw [← hN] at eqk ⊢
      have hNb : N ≤ 100000 := by rw [hN, HK.out];unfold SrtS.sortL;rw [SrtS.unb_len, List.length_mergeSort];unfold SrtS.bts;rw [List.length_map, List.length_map];exact hlen6.out
      simp only [Value.slice.injEq] at eqk
      obtain ⟨rfl, -, -⟩ := eqk
      have hrow : ∀ b off, q3 = some ⟨b, off, none⟩ → b ≠ w.heap.size + 1 + 1 + 1 := fun b off e => by
        have h1 := (hown3.lt b (by rw [e];rfl)).1
        simp at h1
        omega
      have HPK := Lib.hid hpk;have HROW := Lib.hid hrow;have HN := Lib.hid hN;have HB3 := Lib.hid b3c;have HB4 := Lib.hid b4c;have HB5 := Lib.hid b5c;have HMZ := Lib.hid m1c;have HML := Lib.hid m2c
      have HKE := Lib.hid hKEYS2;have HD1 := Lib.hid hd1;have HD2 := Lib.hid hd2;have HBW := Lib.hid hbw3;have HLF := Lib.hid hlsf;have HZL := Lib.hid hZl;have HLL := Lib.hid hLl;have HZ := Lib.hid hZ;have HLS := Lib.hid hLS
      obtain ⟨i0, hi, hz0, hz1, hz2⟩ := info_parts infoS
      have HI := Lib.hid hi;have HZ0 := Lib.hid hz0;have HZ1 := Lib.hid hz1;have HZ2 := Lib.hid hz2
      clear hpk hrow hN b3c b4c b5c m1c m2c hKEYS2 hd1 hd2 hbw3 hlsf hZl hLl hZ hLS hi hz0 hz1 hz2 hown3 hb3 hv3 c7 c7w hFar hK2 hK1b b3b b4b b5b b7b b8b
      go_loopw [61] (fun i wy => ∃ k : Nat, i = .int .i64 k ∧ k ≤ N ∧ Far w3 wy (w.heap.size + 1 + 1 + 1) (w.heap.size + 1 + 1 + 1) ∧ Hid (Ali wy (w.heap.size + 1 + 1 + 1) nz w3.heap.size (fun i => (KEYS.take k).filter fun s => decide (Bk.find Z LS s = ((i : Int), 0))))) (fun i _ => N - (intOf i).toNat)
      case atStart => exact ⟨0, rfl, Nat.zero_le _, Far.refl _ _ _, Ali.made HB3.out⟩
      case round =>
        obtain ⟨k, rfl, hk, hF, HA⟩ := hrel
        have hFs := hF.size
        have B4 := hF.box HB4.out (by omega) (by omega)
        have B5 := hF.box HB5.out (by omega) (by omega)
        have c5 := B5.cell 0
        by_cases hlt : k < N
        · obtain ⟨s, hs⟩ : ∃ s, KEYS[k]? = some s := ⟨_, List.getElem?_eq_getElem (by rw [← HN.out];exact hlt)⟩
          obtain ⟨g1, o1, rfl, hg1, d1⟩ := HPK.out k s hs
          have hg1n := HROW.out g1 o1 rfl
          replace d1 : wr.cell? ⟨g1, o1 + k, none⟩ = some (.string s) := (World.cell?_of_block (w := w3) (hF.block g1 hg1 hg1n hg1n)).trans d1
          have q1 : (k : Int) < (N : Int) := by omega
          have hMz : Mp.Lies wr Tryz.prog 9 (w.heap.size + 1) (Bk.zmap Z) := HMZ.out.same (hF.block _ HMZ.out.lt (by omega) (by omega))
          have hMl : Mp.Lies wr Tryz.prog 9 (w.heap.size + 1 + 1) (Bk.lmap LS) := HML.out.same (hF.block _ HML.out.lt (by omega) (by omega))
          have hf := BkW.Find ⟨_, _, _, B4, hMz, hMl⟩ (by rw [HZL.out];omega) (by rw [HLL.out];omega) HLF.out s (HKS.out s (List.mem_of_getElem? hs))
          have htk : KEYS.take (k + 1) = KEYS.take k ++ [s] := by rw [List.take_add_one, hs];rfl
          obtain ⟨f, hfe⟩ : ∃ f, f = Bk.find Z LS s := ⟨_, rfl⟩
          rw [← hfe] at hf
          unfold RBk.pairV at hf
          obtain ⟨f1, f2⟩ := f
          dsimp only at hf
          by_cases h0 : f2 = 0
          · obtain ⟨i, hi, hfi⟩ := Bk.find_ok (zs := Z) (ls := LS) (s := s) (by rw [← hfe];exact h0)
            rw [hfi] at hfe
            cases hfe
            rw [HZL.out] at hi
            obtain ⟨vs, hvl, hvb, hvo, hvd⟩ := HA.out
            obtain ⟨v, hvi⟩ : ∃ v, vs[i]? = some v := ⟨_, List.getElem?_eq_getElem (by rw [hvl];exact hi)⟩
            have hov := hvo i v hvi
            obtain ⟨m, hm⟩ : ∃ m, m = ((KEYS.take k).filter fun s => decide (Bk.find Z LS s = ((i : Int), 0))).length := ⟨_, rfl⟩
            have hmk : m ≤ k := by
              rw [hm]
              exact Nat.le_trans (List.length_filter_le _ _) (by rw [List.length_take];omega)
            unfold OwnS at hov
            dsimp only at hov
            rw [← hm] at hov
            obtain ⟨G, hG⟩ : ∃ G, G = ((KEYS.take k).filter fun s => decide (Bk.find Z LS s = ((i : Int), 0))) := ⟨_, rfl⟩
            rw [← hG] at hov
            obtain ⟨qv, cv, rfl⟩ := Grp.own_form hov
            have ca : wr.cell? ⟨w.heap.size + 1 + 1 + 1, i, none⟩ = some (.slice qv m cv) := by rw [hvb.cell];simpa using hvi
            have c4 := B4.cell 2
            have q2 : (i : Int) < (nz : Int) := by omega
            have q3' : (0 : Int) ≤ (i : Int) := by omega
            have hnew : Hid (∀ (w6 : World) (v' : Value) (m' : Nat), wr.drew.grownBy w6 (Value.slice qv m cv).ownBlock → OwnR w6 w3.heap.size v' m' (G ++ [s]) → (v'.ownBlock = (Value.slice qv m cv).ownBlock ∨ ∃ g, v'.ownBlock = some g ∧ wr.drew.heap.size ≤ g) →
                Ali (w6.setCell ⟨w.heap.size + 1 + 1 + 1, i, none⟩ v') (w.heap.size + 1 + 1 + 1) nz w3.heap.size (fun j => (KEYS.take (k + 1)).filter fun s => decide (Bk.find Z LS s = ((j : Int), 0)))) := fun w6 v' m' hg ho hl => by
              rw [hG] at ho
              have h9 := Ali.set (W := wr.drew) hvl hvb hvo hvd (by omega) hvi hg ho hl
              have e9 : (fun j : Nat => (KEYS.take (k + 1)).filter fun s => decide (Bk.find Z LS s = ((j : Int), 0))) = fun j : Nat => if j = i then ((KEYS.take k).filter fun s => decide (Bk.find Z LS s = ((i : Int), 0))) ++ [s] else (KEYS.take k).filter fun s => decide (Bk.find Z LS s = ((j : Int), 0)) := by
                funext j
                rw [htk, List.filter_append]
                by_cases hji : j = i
                · subst hji
                  rw [if_pos rfl]
                  simp [hfi]
                · rw [if_neg hji]
                  have : ¬ (Bk.find Z LS s = ((j : Int), 0)) := fun e => hji (by rw [hfi] at e;simp only [Prod.mk.injEq, and_true] at e;omega)
                  simp [this]
              rw [e9]
              exact h9
            have HOV := Lib.hid hov;have HVB := Lib.hid hvb;have HF := Lib.hid hF
            clear hG hm hvi hvo hvd hvl hov hvb htk hs hMz hMl HA hfi hF hg1n B4 B5
            go_wp2_with (go_at_call 18;refine hf.mono ?_;rintro e w4 ⟨rfl, rfl⟩)
            refine wp_region_noPanic ?_
            refine wp_region_heldM (fun U => U.cell? ⟨w.heap.size + 1 + 1 + 1 + 1 + 1, 0, none⟩ = some (.pointer (some ⟨w.heap.size + 1 + 1 + 1 + 1, 0, none⟩)) ∧ U.cell? ⟨w.heap.size + 1 + 1 + 1 + 1, 2, none⟩ = some (.slice (some ⟨w.heap.size + 1 + 1 + 1, 0, none⟩) nz nz) ∧ U.cell? ⟨w.heap.size + 1 + 1 + 1, i, none⟩ = some (.slice qv m cv)) 16 (by kernel_rfl) ⟨c5, c4, ca⟩ ?_
            intro U hU hSU
            have HU := Lib.hid hU
            have hUs : U.heap.size = wr.heap.size := by rw [hU];rfl
            have HUS := Lib.hid hUs
            clear hU hUs c5 c4 ca d1 hf
            refine wpAnyM_take (i := 0) (v := ?v0_3) rfl (by kernel_rfl) (by kernel_rfl) (by kernel_rfl) [] (by kernel_rfl) (by kernel_rfl) (fun _ _ _ h => h) (Or.inl ⟨by rfl, ?y0_3⟩) hSU ?r0_3
            case y0_3 => intro w hSw;(try dsimp only at hSw);go_simp;(try with_reducible rfl)
            try simp only [Act.put, List.setIfInBounds_toArray]
            refine wpAnyM_take (i := 1) (v := ?v1_3) rfl (by kernel_rfl) (by kernel_rfl) (by kernel_rfl) [] (by kernel_rfl) (by kernel_rfl) (fun _ _ _ h => h) (Or.inl ⟨by rfl, ?y1_3⟩) hSU ?r1_3
            case y1_3 => intro w hSw;(try dsimp only at hSw);go_simp;(try with_reducible rfl)
            try simp only [Act.put]
            refine wpAnyM_take (i := 2) (v := ?v2_3) rfl (by kernel_rfl) (by kernel_rfl) (by kernel_rfl) [] (by kernel_rfl) (by kernel_rfl) (fun _ _ _ h => h) (Or.inl ⟨by rfl, ?y2_3⟩) hSU ?r2_3
            case y2_3 => intro w hSw;(try dsimp only at hSw);go_simp;(try with_reducible rfl)
            try simp only [Act.put]
            refine wpAnyM_take (i := 3) (v := ?v3_3) rfl (by kernel_rfl) (by kernel_rfl) (by kernel_rfl) [] (by kernel_rfl) (by kernel_rfl) (fun _ _ _ h => h) (Or.inl ⟨by rfl, ?y3_3⟩) hSU ?r3_3
            case y3_3 => intro w hSw;(try dsimp only at hSw);go_simp;(try with_reducible rfl)
            try simp only [Act.put]
            refine wpAnyM_take (i := 4) (v := ?v4_3) rfl (by kernel_rfl) (by kernel_rfl) (by kernel_rfl) [] (by kernel_rfl) (by kernel_rfl) (fun _ _ _ h => h) (Or.inl ⟨by rfl, ?y4_3⟩) hSU ?r4_3
            case y4_3 => intro w hSw;(try dsimp only at hSw);go_simp;(try with_reducible rfl)
            try simp only [Act.put]
            refine wpAnyM_take (i := 5) (v := ?v5_3) rfl (by kernel_rfl) (by kernel_rfl) (by kernel_rfl) [] (by kernel_rfl) (by kernel_rfl) (fun _ _ _ h => h) (Or.inl ⟨by rfl, ?y5_3⟩) hSU ?r5_3
            case y5_3 => intro w hSw;(try dsimp only at hSw);go_simp;(try with_reducible rfl)
            try simp only [Act.put]
            refine wpAnyM_take (i := 6) (v := ?v6_3) rfl (by kernel_rfl) (by kernel_rfl) (by kernel_rfl) [] (by kernel_rfl) (by kernel_rfl) (fun _ _ _ h => h) (Or.inl ⟨by rfl, ?y6_3⟩) hSU ?r6_3
            case y6_3 => intro w hSw;(try dsimp only at hSw);go_simp;(try with_reducible rfl)
            try simp only [Act.put]
            refine wpAnyM_take (i := 7) (v := ?v7_3) rfl (by kernel_rfl) (by kernel_rfl) (by kernel_rfl) [] (by kernel_rfl) (by kernel_rfl) (fun _ _ _ h => h) (Or.inl ⟨by rfl, ?y7_3⟩) hSU ?r7_3
            case y7_3 => intro w hSw;(try dsimp only at hSw);go_simp;(try with_reducible rfl)
            try simp only [Act.put]
            refine wpAnyM_take (i := 8) (v := ?v8_3) rfl (by kernel_rfl) (by kernel_rfl) (by kernel_rfl) [] (by kernel_rfl) (by kernel_rfl) (fun _ _ _ h => h) (Or.inl ⟨by rfl, ?y8_3⟩) hSU ?r8_3
            case y8_3 => intro w hSw;(try dsimp only at hSw);go_simp;(try with_reducible rfl)
            try simp only [Act.put]
            refine wpAnyM_take (i := 9) (v := ?v9_3) rfl (by kernel_rfl) (by kernel_rfl) (by kernel_rfl) [] (by kernel_rfl) (by kernel_rfl) (fun _ _ _ h => h) (Or.inl ⟨by rfl, ?y9_3⟩) hSU ?r9_3
            case y9_3 => intro w hSw;(try dsimp only at hSw);go_simp;(try with_reducible rfl)
            try simp only [Act.put]
            refine wpAnyM_take (i := 10) (v := ?v10_3) rfl (by kernel_rfl) (by kernel_rfl) (by kernel_rfl) [] (by kernel_rfl) (by kernel_rfl) (fun _ _ _ h => h) (Or.inl ⟨by rfl, ?y10_3⟩) hSU ?r10_3
            case y10_3 => intro w hSw;(try dsimp only at hSw);go_simp;(try with_reducible rfl)
            try simp only [Act.put]
            refine wpAnyM_take (i := 11) (v := ?v11_3) rfl (by kernel_rfl) (by kernel_rfl) (by kernel_rfl) [] (by kernel_rfl) (by kernel_rfl) (fun _ _ _ h => h) (Or.inl ⟨by rfl, ?y11_3⟩) hSU ?r11_3
            case y11_3 => intro w hSw;(try dsimp only at hSw);go_simp;(try with_reducible rfl)
            try simp only [Act.put]
            refine wpAnyM_take (i := 12) (v := ?v12_3) rfl (by kernel_rfl) (by kernel_rfl) (by kernel_rfl) [] (by kernel_rfl) (by kernel_rfl) (fun _ _ _ h => h) (Or.inl ⟨by rfl, ?y12_3⟩) hSU ?r12_3
            case y12_3 => intro w hSw;(try dsimp only at hSw);go_simp;(try with_reducible rfl)
            try simp only [Act.put]
            have ubx : Box U (w.heap.size + 1 + 1 + 1) vs.toArray 64 := by rw [HU.out];exact HVB.out
            have uov : U.ownsRow w3.heap.size 9 1 (.slice qv m cv) m (G.flatMap strc) := by rw [HU.out];exact HOV.out
            have sX : (U.alloc (.cells #[.string s] 9)).cell? ⟨w.heap.size + 1 + 1 + 1 + 1 + 1, 0, none⟩ = some (.pointer (some ⟨w.heap.size + 1 + 1 + 1 + 1, 0, none⟩)) ∧ (U.alloc (.cells #[.string s] 9)).cell? ⟨w.heap.size + 1 + 1 + 1 + 1, 2, none⟩ = some (.slice (some ⟨w.heap.size + 1 + 1 + 1, 0, none⟩) nz nz) ∧ (U.alloc (.cells #[.string s] 9)).cell? ⟨w.heap.size + 1 + 1 + 1, i, none⟩ = some (.slice qv m cv) := by
              exact ⟨(World.cell?_alloc_lt U _ _ (World.block_lt_of_cell? U _ hSU.1)).trans hSU.1, (World.cell?_alloc_lt U _ _ (World.block_lt_of_cell? U _ hSU.2.1)).trans hSU.2.1, (World.cell?_alloc_lt U _ _ (World.block_lt_of_cell? U _ hSU.2.2)).trans hSU.2.2⟩
            refine wpAnyM_all (rs := [13]) (by kernel_rfl) (by simp) (List.forall_mem_cons.2 ⟨?_, (fun _ h => by cases h)⟩)
            refine wpOp_step rfl (fun K hK => ?_)
            go_simp
            refine hK _ _ ⟨.inr sX, ?_⟩
            clear hK K
            try simp only [Act.put, List.setIfInBounds_toArray, List.set_cons_zero, List.set_cons_succ]
            have xov := uov.alloc (.cells #[.string s] 9)
            refine wpAnyM_all (rs := [14]) (by kernel_rfl) (by simp) (List.forall_mem_cons.2 ⟨?_, (fun _ h => by cases h)⟩)
            refine wpOp_step rfl (fun K hK => ?_)
            refine step_append_lies _ rfl (.tmp 84) (.tmp 86) 64 (by rfl) w3.heap.size 9 i0 _ 1 16 Tryz.underlying64 HI.out HZ0.out HZ1.out HZ2.out (by rfl) (by decide) (.slice qv m cv) m (G.flatMap strc) (by rfl) xov ⟨U.heap.size, 0, none⟩ 1 1 [.string s] (by rfl) (by rfl) (cell_one_at rfl) (by simp [Value.oneCell']) (by decide) (by unfold maxLen;omega) (by omega) (by rw [World.size_alloc, HUS.out];omega) _ rfl ?_
            intro g cap3 w6 hown6 hgrow6 hat6 hlt6
            have hgr : U.grownBy w6 (Value.slice qv m cv).ownBlock := (World.grownBy_alloc _ _ _).trans hgrow6
            have hne : ∀ b, b < w3.heap.size → some b ≠ (Value.slice qv m cv).ownBlock := fun b hb e => by have := (HOV.out.lt b e.symm).1;omega
            have hold : ∀ b, b < w3.heap.size → w6.heap[b]? = U.heap[b]? := fun b hb => hgr.block b (by have := HUS.out;omega) (hne b hb)
            have s6 : w6.cell? ⟨w.heap.size + 1 + 1 + 1 + 1 + 1, 0, none⟩ = some (.pointer (some ⟨w.heap.size + 1 + 1 + 1 + 1, 0, none⟩)) ∧ w6.cell? ⟨w.heap.size + 1 + 1 + 1 + 1, 2, none⟩ = some (.slice (some ⟨w.heap.size + 1 + 1 + 1, 0, none⟩) nz nz) ∧ w6.cell? ⟨w.heap.size + 1 + 1 + 1, i, none⟩ = some (.slice qv m cv) :=
              ⟨(World.cell?_of_block (w := U) (hold (w.heap.size + 1 + 1 + 1 + 1 + 1) (by omega))).trans hSU.1, (World.cell?_of_block (w := U) (hold (w.heap.size + 1 + 1 + 1 + 1) (by omega))).trans hSU.2.1, (World.cell?_of_block (w := U) (hold (w.heap.size + 1 + 1 + 1) (by omega))).trans hSU.2.2⟩
            refine hK _ _ ⟨.inr s6, ?_⟩
            clear hK K
            try simp only [Act.put, List.setIfInBounds_toArray]
            have hfin := hnew.out w6 (.slice (some ⟨g, 0, none⟩) (m + 1) cap3) (m + 1) (by rw [← HU.out];exact hgr) (OwnR.snoc hown6) (by rcases hat6 with h|h;(exact .inl h.symm);(exact .inr ⟨g, rfl, by rw [← HU.out];rw [World.size_alloc] at h;omega⟩))
            have bx6 : Box w6 (w.heap.size + 1 + 1 + 1) vs.toArray 64 := (hold (w.heap.size + 1 + 1 + 1) (by omega)).trans ubx
            have cc := s6.2.2
            have fc := bx6.free i
            have HFAR6 : Hid (Far w3 (w6.setCell ⟨w.heap.size + 1 + 1 + 1, i, none⟩ (.slice (some ⟨g, 0, none⟩) (m + 1) cap3)) (w.heap.size + 1 + 1 + 1) (w.heap.size + 1 + 1 + 1)) := by
              have h1 : Far w3 U (w.heap.size + 1 + 1 + 1) (w.heap.size + 1 + 1 + 1) := by rw [HU.out];exact ⟨HF.out.os, HF.out.tape, HF.out.output, HF.out.size, HF.out.block⟩
              exact (h1.grown hgr (fun r e => .inr (.inr ((HOV.out.lt r e).1)))).grown (Ali.grown_set _ _ _ _) (fun r e => by cases e;exact .inl rfl)
            have HFIN := Lib.hid hfin
            clear hfin hgr hne hold hown6 hgrow6 hat6 hlt6 bx6 uov ubx xov sX hSU
            refine wpAnyM_all (rs := [15]) (by kernel_rfl) (by simp) (List.forall_mem_cons.2 ⟨?_, (fun _ h => by cases h)⟩)
            refine wpOp_step rfl (fun K hK => ?_)
            go_simp
            refine hK _ _ ⟨.inr s6, ?_⟩
            clear hK K
            try simp only [Act.put, List.setIfInBounds_toArray, List.set_cons_zero, List.set_cons_succ]
            refine wpAnyM_all (rs := [16]) (by kernel_rfl) (by simp) (List.forall_mem_cons.2 ⟨?_, (fun _ h => by cases h)⟩)
            refine wpOp_step rfl (fun K hK => ?_)
            go_simp
            refine hK _ _ ⟨.inl rfl, ?_⟩
            clear hK K
            try simp only [Act.put, List.setIfInBounds_toArray, List.set_cons_zero, List.set_cons_succ]
            refine wpAnyM_done (by kernel_rfl) ?_ _
            refine NoPanic.normal ?_
            clear cc fc s6
            go_wp2
            go_roundw
            case rel => exact ⟨k + 1, by go_num, by omega, HFAR6.out, HFIN.out⟩
            case measure => simp [intOf];omega
          · have hA2 : Hid (Ali wr (w.heap.size + 1 + 1 + 1) nz w3.heap.size (fun i => (KEYS.take (k + 1)).filter fun s => decide (Bk.find Z LS s = ((i : Int), 0)))) := by
              have e9 : (fun j : Nat => (KEYS.take (k + 1)).filter fun s => decide (Bk.find Z LS s = ((j : Int), 0))) = fun j : Nat => (KEYS.take k).filter fun s => decide (Bk.find Z LS s = ((j : Int), 0)) := by
                funext j
                rw [htk, List.filter_append]
                have : ¬ (Bk.find Z LS s = ((j : Int), 0)) := fun e => h0 (by rw [← hfe] at e;simp only [Prod.mk.injEq] at e;exact e.2)
                simp [this]
              show Ali _ _ _ _ _
              rw [e9]
              exact HA.out
            have q2 : (f2 == 0) = false := by simpa using h0
            clear hfe hs htk hMz hMl HA
            go_wp2_with (go_at_call 18;refine hf.mono ?_;rintro e w4 ⟨rfl, rfl⟩)
            go_roundw
            case rel => exact ⟨k + 1, by go_num, by omega, hF, hA2⟩
            case measure => simp [intOf];omega
        · obtain rfl : k = N := by omega
          have hA := HA.out
          rw [List.take_of_length_le (by rw [← HN.out];exact Nat.le_refl _)] at hA
          have hd1 : wr.heap[D]? = some (.deferred (some [])) := (hF.block D (by omega) (by omega) (by omega)).trans HD1.out
          have hd2 : wr.heap[D2]? = some (.deferred (some [])) := (hF.block D2 (by omega) (by omega) (by omega)).trans HD2.out
          go_wp2
          have hd3 : (wr.putObj D2 (.deferred none)).heap[D]? = some (.deferred (some [])) := (World.putObj_heap_other (by omega)).trans hd1
          refine ⟨by simp, .inl ⟨_, _, rfl, run_takeDeferred hd2, ⟨by simp, .inl ⟨_, _, rfl, run_takeDeferred hd3, ?_⟩⟩⟩⟩
          refine ⟨_, results_tmp rfl _ _ _, w.heap.size + 1 + 1 + 1 + 1, rfl, ?_, ?_⟩
          · rw [← HZ.out, ← HLS.out]
            obtain ⟨vs, hvl, hvb, hvo, _⟩ := hA
            have hk4 : ∀ b, b ≠ D → b ≠ D2 → ((wr.putObj D2 (.deferred none)).putObj D (.deferred none)).heap[b]? = wr.heap[b]? := fun b h1 h2 => (World.putObj_heap_other h1).trans (World.putObj_heap_other h2)
            have B4 := hF.box HB4.out (by omega) (by omega)
            have hMz := HMZ.out.same (hF.block _ HMZ.out.lt (by omega) (by omega))
            have hMl := HML.out.same (hF.block _ HML.out.lt (by omega) (by omega))
            refine ⟨w.heap.size + 1, w.heap.size + 1 + 1, w.heap.size + 1 + 1 + 1, vs, ?_, hMz.same (hk4 _ (by omega) (by omega)), hMl.same (hk4 _ (by omega) (by omega)), (hk4 (w.heap.size + 1 + 1 + 1) (by omega) (by omega)).trans hvb, by rw [HZL.out];exact hvl, fun i v hv => ?_⟩
            · rw [HZL.out]
              exact (hk4 (w.heap.size + 1 + 1 + 1 + 1) (by omega) (by omega)).trans B4
            · have h1 := hvo i v hv
              dsimp only at h1
              rw [HKE.out] at h1
              exact RBk.own_lower (ownsRow_putObj (ownsRow_putObj h1 _ hd2 rfl) _ hd3 rfl) (Nat.zero_le _)
          · have hb9 : Below w.heap.size w wr := hF.below HBW.out (by omega) (by omega) (by omega)
            exact (hb9.trans (belowK_b (w := w) (Nat.le_refl _) wr D2 _ _ (by omega) hd2 rfl rfl)).trans (belowK_b (w := w) (Nat.le_refl _) _ D _ _ (by omega) hd3 rfl rfl)
end BkN
end Go.Proofs.YtcfmchpoclkpgaaGreatDoor
