/-
  The document's store: Put.
-/
import Derived.Test.YtjgodnakhbkgeaaStoR
import Derived.Test.YtjgodnakhbkgeaaHeldM
import Derived.BigRegion
import Derived.Deep.RegionLaw
import Derived.Deep.DrawnRows
namespace Go.Proofs.Ytjgodnakhbkgeaa
open Go.RowKit NB OW
namespace StR
open Sto
attribute [local go_sem ↓] eqlL neqL
theorem ownE0 {base : Nat} (X : World) (h : base ≤ X.heap.size) : (X.alloc (.cells #[] 50)).ownsRow base 50 5 (.slice (some ⟨X.heap.size, 0, none⟩) 0 0) 0 [] :=
  World.ownsRow_made X #[] 0 h (Nat.zero_le _) (by simp)
theorem ownE1 {base : Nat} (X : World) (o : Obj) (h : base ≤ X.heap.size) : ((X.alloc o).alloc (.cells #[] 50)).ownsRow base 50 5 (.slice (some ⟨X.heap.size + 1, 0, none⟩) 0 0) 0 [] := by
  have := ownE0 (base := base) (X.alloc o) (by simp; omega)
  rwa [World.size_alloc] at this
theorem news_of {W : World} {vb : Nat} {i : InfoV} (h : Box W vb #[.int .i64 i.fr, .int .i64 i.th, .int .i64 i.off, .int .i64 i.save, .string i.abbr] 50) : ∀ j u, i.cells[j]? = some u → W.cell? ((⟨vb, 0, none⟩ : Addr).add j) = some u := by
  intro j u hu
  rw [addr_add, Nat.zero_add, h.cell]
  simpa [InfoV.cells] using hu
theorem boxU (X : World) (o : Obj) (cs : Array Value) (t : TypeId) : Box ((X.alloc o).alloc (.cells cs t)) (X.heap.size + 1) cs t := by
  have := Box.new (X.alloc o) cs t
  rwa [World.size_alloc] at this
theorem below_grown {w X w' : World} {row : Option Nat} (hb : Below w.heap.size w X) (hg : X.grownBy w' row) (hr : ∀ k, row = some k → w.heap.size ≤ k) : Below w.heap.size w w' := hb.grown hg hb.size hr
/-- the new list -/
theorem leftR_put {w X : World} {base b k : Nat} {room : Int} {v v' : Value} {l : List InfoV} (h : SR w base b room v l) (hb : base ≤ w.heap.size) (i : InfoV) (hX : Below w.heap.size w X) (hk : k ≤ l.length) (hn : l.length + 1 ≤ 100000)
    (ho : X.ownsRow w.heap.size 50 5 v' (k + 1 + (l.length - k)) (((l.take k).flatMap InfoV.cells ++ i.cells) ++ (l.drop k).flatMap InfoV.cells)) : LeftR w base b room v (l.take k ++ i :: l.drop k) (X.setCell ⟨b, 1, none⟩ v') := by
  have e1 : (l.take k ++ i :: l.drop k).length = k + 1 + (l.length - k) := by
    rw [List.length_append, List.length_take, List.length_cons, List.length_drop]; omega
  refine leftR_new h hb hX ?_ (by rw [e1]; omega)
  rw [e1, List.flatMap_append, List.flatMap_cons]
  rw [List.append_assoc] at ho
  exact ho
theorem ltAl {W : World} {b : Nat} (O : Obj) (h : b < W.heap.size) : b < (W.alloc O).heap.size := by simp; omega
theorem sAl {W : World} {b c : Nat} {v0 v1 v2 v3 v4 v5 : Value} (O : Obj) (hb : b < W.heap.size) (hc : c < W.heap.size)
    (h : (W.cell? ⟨b, 1, none⟩ = some v0) ∧ (W.cell? ⟨c, 0, none⟩ = some v1) ∧ (W.cell? ⟨c, 1, none⟩ = some v2) ∧ (W.cell? ⟨c, 2, none⟩ = some v3) ∧ (W.cell? ⟨c, 3, none⟩ = some v4) ∧ (W.cell? ⟨c, 4, none⟩ = some v5)) :
    ((W.alloc O).cell? ⟨b, 1, none⟩ = some v0) ∧ ((W.alloc O).cell? ⟨c, 0, none⟩ = some v1) ∧ ((W.alloc O).cell? ⟨c, 1, none⟩ = some v2) ∧ ((W.alloc O).cell? ⟨c, 2, none⟩ = some v3) ∧ ((W.alloc O).cell? ⟨c, 3, none⟩ = some v4) ∧ ((W.alloc O).cell? ⟨c, 4, none⟩ = some v5) :=
  ⟨(World.cell?_alloc_lt W O _ hb).trans h.1, (World.cell?_alloc_lt W O _ hc).trans h.2.1, (World.cell?_alloc_lt W O _ hc).trans h.2.2.1, (World.cell?_alloc_lt W O _ hc).trans h.2.2.2.1, (World.cell?_alloc_lt W O _ hc).trans h.2.2.2.2.1, (World.cell?_alloc_lt W O _ hc).trans h.2.2.2.2.2⟩
theorem sBelow {W V : World} {b c : Nat} {v0 v1 v2 v3 v4 v5 : Value} (l : Below W.heap.size W V) (hb : b < W.heap.size) (hc : c < W.heap.size)
    (h : (W.cell? ⟨b, 1, none⟩ = some v0) ∧ (W.cell? ⟨c, 0, none⟩ = some v1) ∧ (W.cell? ⟨c, 1, none⟩ = some v2) ∧ (W.cell? ⟨c, 2, none⟩ = some v3) ∧ (W.cell? ⟨c, 3, none⟩ = some v4) ∧ (W.cell? ⟨c, 4, none⟩ = some v5)) :
    (V.cell? ⟨b, 1, none⟩ = some v0) ∧ (V.cell? ⟨c, 0, none⟩ = some v1) ∧ (V.cell? ⟨c, 1, none⟩ = some v2) ∧ (V.cell? ⟨c, 2, none⟩ = some v3) ∧ (V.cell? ⟨c, 3, none⟩ = some v4) ∧ (V.cell? ⟨c, 4, none⟩ = some v5) :=
  ⟨(l.cell (p := ⟨b, 1, none⟩) hb).trans h.1, (l.cell (p := ⟨c, 0, none⟩) hc).trans h.2.1, (l.cell (p := ⟨c, 1, none⟩) hc).trans h.2.2.1, (l.cell (p := ⟨c, 2, none⟩) hc).trans h.2.2.2.1, (l.cell (p := ⟨c, 3, none⟩) hc).trans h.2.2.2.2.1, (l.cell (p := ⟨c, 4, none⟩) hc).trans h.2.2.2.2.2⟩
set_option maxRecDepth 100000 in
set_option maxHeartbeats 3200000 in
theorem putNil {w : World} {base b : Nat} {room : Int} (h : SR w base b room (.slice none 0 0) []) (hbw : base ≤ w.heap.size) (hr : 1 ≤ room) (i : InfoV) (hi : i.fr < i.th) :
    Calls Try.prog 23 #[.pointer (some ⟨b, 0, none⟩), .agg i.cells.toArray] w fun e w' => e = .returned (.int .i64 0) ∧ LeftR w base b room (.slice none 0 0) [i] w' := by
  obtain ⟨i0, hi0, hz0, hz1, hz2⟩ := info_parts SlI.info_E
  have c := fun W => Right i.fr i.th W
  rw [decide_eq_true hi] at c
  have C := Lib.hid c
  have H := Lib.hid h
  have l0 := h.box.lt
  have k0 := h.box.cell 1
  have k1 := h.box.cell 0
  have f0 := h.box.free 1
  have r1 : decide (room ≤ 0) = false := decide_eq_false (by omega)
  clear c h
  unfold InfoV.cells
  go_enter Try.func23, Try.ntmps23
  go_wp2_with (go_at_call 61; (with_reducible refine (C.out _).mono ?_); rintro e w1 ⟨rfl, hb1⟩; obtain ⟨hc1, hf1⟩ := bcell hb1; have hc1_0 := fun o => hc1 (b) o (by first | assumption | omega | (simp; done) | (simp; omega)); have hf1_0 := fun o => hf1 (b) o (by first | assumption | omega | (simp; done) | (simp; omega)); have hc1_1 := fun o => hc1 (w.heap.size) o (by first | assumption | omega | (simp; done) | (simp; omega)); have hf1_1 := fun o => hf1 (w.heap.size) o (by first | assumption | omega | (simp; done) | (simp; omega)); clear hc1 hf1; have hz1_0 : b < w1.heap.size := (by first | exact sz1 hb1 | exact sz2 hb1 | exact sz3 hb1 | (have := hb1.size; (try simp only [World.size_alloc, World.size_drew] at this); omega)); have hz1_1 : w.heap.size < w1.heap.size := (by first | exact sz1 hb1 | exact sz2 hb1 | exact sz3 hb1 | (have := hb1.size; (try simp only [World.size_alloc, World.size_drew] at this); omega)))
  go_loopw [19] (fun j wr => j = .int .i64 0 ∧ Below w1.heap.size w1 wr) (fun _ _ => 0)
  case atStart => exact ⟨rfl, Below.refl _ _⟩
  case round =>
    obtain ⟨rfl, hb2⟩ := hrel
    obtain ⟨wa, rfl⟩ : ∃ wa : World, wa = wr := ⟨_, rfl⟩
    obtain ⟨hc2, hf2⟩ := bcell hb2
    have hc2_0 := fun o => hc2 b o hz1_0
    have hf2_0 := fun o => hf2 b o hz1_0
    have hc2_1 := fun o => hc2 w.heap.size o hz1_1
    have hz2_0 : b < wa.heap.size := Nat.lt_of_lt_of_le hz1_0 hb2.size
    have hz2_1 : w.heap.size < wa.heap.size := Nat.lt_of_lt_of_le hz1_1 hb2.size
    clear hc2 hf2
    go_wp2
    go_loopw [32] (fun j wr => j = .int .i64 0 ∧ Below wa.heap.size wa wr) (fun _ _ => 0)
    case atStart => exact ⟨rfl, Below.refl _ _⟩
    case round =>
      obtain ⟨rfl, hb3⟩ := hrel
      obtain ⟨wb, rfl⟩ : ∃ wb : World, wb = wr := ⟨_, rfl⟩
      obtain ⟨hc3, hf3⟩ := bcell hb3
      have hc3_0 := fun o => hc3 b o hz2_0
      have hf3_0 := fun o => hf3 b o hz2_0
      have hc3_1 := fun o => hc3 w.heap.size o hz2_1
      have hz3_0 : b < wb.heap.size := Nat.lt_of_lt_of_le hz2_0 hb3.size
      have hz3_1 : w.heap.size < wb.heap.size := Nat.lt_of_lt_of_le hz2_1 hb3.size
      clear hc3 hf3
      go_wp2
      go_quiet (fail)
      go_wp2
      go_loopw [9] (fun j wr => j = .int .i64 0 ∧ Below wb.heap.size wb wr) (fun _ _ => 0)
      case atStart => exact ⟨rfl, by repeat (first | (with_reducible exact Below.refl _ _) | (with_reducible assumption) | (with_reducible refine ba ?_) | (with_reducible refine bd ?_) | (with_reducible refine bdn ?_ _) | (with_reducible refine bset ?_ (by first | exact Nat.le_refl _ | omega | (simp; done) | (simp; omega))) | (with_reducible refine bt ?_ (by with_reducible assumption)))⟩
      case round =>
        obtain ⟨rfl, hb4⟩ := hrel
        obtain ⟨hc4, hf4⟩ := bcell hb4
        have hc4_0 := fun o => hc4 b o hz3_0
        have hf4_0 := fun o => hf4 b o hz3_0
        have hc4_1 := fun o => hc4 w.heap.size o hz3_1
        have hz4_0 : b < wr.heap.size := Nat.lt_of_lt_of_le hz3_0 hb4.size
        have hz4_1 : w.heap.size < wr.heap.size := Nat.lt_of_lt_of_le hz3_1 hb4.size
        clear hc4 hf4
        go_wp2
        go_quiet (fail)
        go_wp2
        have bX : Below w.heap.size w wr := by repeat (first | (with_reducible exact Below.refl _ _) | (with_reducible assumption) | (with_reducible refine ba ?_) | (with_reducible refine bd ?_) | (with_reducible refine bdn ?_ _) | (with_reducible refine bset ?_ (by first | exact Nat.le_refl _ | omega | (simp; done) | (simp; omega))) | (with_reducible refine bt ?_ (by with_reducible assumption)))
        have BX := Lib.hid bX
        have bS : w.heap.size ≤ wr.heap.size := bX.size
        clear bX hb1 hb2 hb3 hb4
        have halb : ∀ (k : Nat) (O : Obj) (o : Nat), ((wr.drewN k).alloc O).cell? ⟨b, o, none⟩ = wr.cell? ⟨b, o, none⟩ := fun k O o => World.cell?_alloc_lt (wr.drewN k) O _ hz4_0
        have halc : ∀ (k : Nat) (O : Obj) (o : Nat), ((wr.drewN k).alloc O).cell? ⟨w.heap.size, o, none⟩ = wr.cell? ⟨w.heap.size, o, none⟩ := fun k O o => World.cell?_alloc_lt (wr.drewN k) O _ hz4_1
        have hal2b : ∀ (k : Nat) (O O' : Obj) (o : Nat), (((wr.drewN k).alloc O).alloc O').cell? ⟨b, o, none⟩ = wr.cell? ⟨b, o, none⟩ := fun k O O' o => (World.cell?_alloc_lt _ O' _ (by simp; omega)).trans (halb k O o)
        have hal2c : ∀ (k : Nat) (O O' : Obj) (o : Nat), (((wr.drewN k).alloc O).alloc O').cell? ⟨w.heap.size, o, none⟩ = wr.cell? ⟨w.heap.size, o, none⟩ := fun k O O' o => (World.cell?_alloc_lt _ O' _ (by simp; omega)).trans (halc k O o)
        refine wp_region_heldM (fun W => (W.cell? ⟨b, 1, none⟩ = some (.slice none 0 0)) ∧ (W.cell? ⟨w.heap.size, 0, none⟩ = some (.int .i64 i.fr)) ∧ (W.cell? ⟨w.heap.size, 1, none⟩ = some (.int .i64 i.th)) ∧ (W.cell? ⟨w.heap.size, 2, none⟩ = some (.int .i64 i.off)) ∧ (W.cell? ⟨w.heap.size, 3, none⟩ = some (.int .i64 i.save)) ∧ (W.cell? ⟨w.heap.size, 4, none⟩ = some (.string i.abbr))) 21 (by kernel_rfl) ?_ ?_
        · refine ⟨((hc4_0 1).trans ((hc3_0 1).trans ((hc2_0 1).trans ((hc1_0 1).trans (World.cell?_alloc_lt w _ _ l0))))).trans k0, ?_, ?_, ?_, ?_, ?_⟩
          · exact ((hc4_1 0).trans ((hc3_1 0).trans ((hc2_1 0).trans ((hc1_1 0).trans ((Box.new w _ _).cell 0)))))
          · exact ((hc4_1 1).trans ((hc3_1 1).trans ((hc2_1 1).trans ((hc1_1 1).trans ((Box.new w _ _).cell 1)))))
          · exact ((hc4_1 2).trans ((hc3_1 2).trans ((hc2_1 2).trans ((hc1_1 2).trans ((Box.new w _ _).cell 2)))))
          · exact ((hc4_1 3).trans ((hc3_1 3).trans ((hc2_1 3).trans ((hc1_1 3).trans ((Box.new w _ _).cell 3)))))
          · exact ((hc4_1 4).trans ((hc3_1 4).trans ((hc2_1 4).trans ((hc1_1 4).trans ((Box.new w _ _).cell 4)))))
        intro W hW hS0
        refine wpAnyM_take (i := 0) (v := ?v1) rfl (by kernel_rfl) (by kernel_rfl) (by kernel_rfl) [20, 19] (by kernel_rfl) (by kernel_rfl) (fun _ _ _ h => h) (Or.inl ⟨by rfl, ?y1⟩) hS0 ?r1
        case y1 => intro w hSw; (try dsimp only at hSw); go_simp; (try with_reducible rfl)
        try simp only [Act.put, List.setIfInBounds_toArray]
        refine wpAnyM_take (i := 2) (v := ?v2) rfl (by kernel_rfl) (by kernel_rfl) (by kernel_rfl) [18, 11, 8, 7, 5, 4, 3] (by kernel_rfl) (by kernel_rfl) (fun _ _ _ h => h) (Or.inl ⟨by rfl, ?y2⟩) hS0 ?r2
        case y2 => intro w hSw; (try dsimp only at hSw); go_simp; (try with_reducible rfl)
        try simp only [Act.put]
        refine wpAnyM_take (i := 3) (v := ?v3) rfl (by kernel_rfl) (by kernel_rfl) (by kernel_rfl) [18, 11, 8, 7, 5, 4] (by kernel_rfl) (by kernel_rfl) (fun _ _ _ h => h) (Or.inl ⟨by rfl, ?y3⟩) hS0 ?r3
        case y3 => intro w hSw; (try dsimp only at hSw); go_simp; (try with_reducible rfl)
        try simp only [Act.put]
        refine wpAnyM_take (i := 4) (v := ?v4) rfl (by kernel_rfl) (by kernel_rfl) (by kernel_rfl) [18, 11, 8, 7, 5] (by kernel_rfl) (by kernel_rfl) (fun _ _ _ h => h) (Or.inl ⟨by rfl, ?y4⟩) hS0 ?r4
        case y4 => intro w hSw; (try dsimp only at hSw); go_simp; (try with_reducible rfl)
        try simp only [Act.put]
        refine wpAnyM_take (i := 5) (v := ?v5) rfl (by kernel_rfl) (by kernel_rfl) (by kernel_rfl) [18, 11, 8, 7] (by kernel_rfl) (by kernel_rfl) (fun _ _ _ h => h) (Or.inl ⟨by rfl, ?y5⟩) hS0 ?r5
        case y5 => intro w hSw; (try dsimp only at hSw); go_simp; (try with_reducible rfl)
        try simp only [Act.put]
        refine wpAnyM_take (i := 6) (v := ?v6) rfl (by kernel_rfl) (by kernel_rfl) (by kernel_rfl) [18, 11, 8, 7] (by kernel_rfl) (by kernel_rfl) (fun _ _ _ h => h) (Or.inl ⟨by rfl, ?y6⟩) hS0 ?r6
        case y6 => intro w hSw; (try dsimp only at hSw); go_simp; (try with_reducible rfl)
        try simp only [Act.put]
        refine wpAnyM_take (i := 7) (v := ?v7) rfl (by kernel_rfl) (by kernel_rfl) (by kernel_rfl) [18, 11, 8] (by kernel_rfl) (by kernel_rfl) (fun _ _ _ h => h) (Or.inl ⟨by rfl, ?y7⟩) hS0 ?r7
        case y7 => intro w hSw; (try dsimp only at hSw); go_simp; (try with_reducible rfl)
        try simp only [Act.put]
        refine wpAnyM_take (i := 9) (v := ?v8) rfl (by kernel_rfl) (by kernel_rfl) (by kernel_rfl) [18, 11, 10] (by kernel_rfl) (by kernel_rfl) (fun _ _ _ h => h) (Or.inl ⟨by rfl, ?y8⟩) hS0 ?r8
        case y8 => intro w hSw; (try dsimp only at hSw); go_simp; (try with_reducible rfl)
        try simp only [Act.put]
        refine wpAnyM_take (i := 12) (v := ?v9) rfl (by kernel_rfl) (by kernel_rfl) (by kernel_rfl) [18, 17, 15, 14, 13] (by kernel_rfl) (by kernel_rfl) (fun _ _ _ h => h) (Or.inl ⟨by rfl, ?y9⟩) hS0 ?r9
        case y9 => intro w hSw; (try dsimp only at hSw); go_simp; (try with_reducible rfl)
        try simp only [Act.put]
        refine wpAnyM_take (i := 13) (v := ?v10) rfl (by kernel_rfl) (by kernel_rfl) (by kernel_rfl) [18, 17, 15, 14] (by kernel_rfl) (by kernel_rfl) (fun _ _ _ h => h) (Or.inl ⟨by rfl, ?y10⟩) hS0 ?r10
        case y10 => intro w hSw; (try dsimp only at hSw); go_simp; (try with_reducible rfl)
        try simp only [Act.put]
        refine wpAnyM_take (i := 14) (v := ?v11) rfl (by kernel_rfl) (by kernel_rfl) (by kernel_rfl) [18, 17, 15] (by kernel_rfl) (by kernel_rfl) (fun _ _ _ h => h) (Or.inl ⟨by rfl, ?y11⟩) hS0 ?r11
        case y11 => intro w hSw; (try dsimp only at hSw); go_simp; (try with_reducible rfl)
        try simp only [Act.put]
        refine wpAnyM_take (i := 15) (v := ?v12) rfl (by kernel_rfl) (by kernel_rfl) (by kernel_rfl) [18, 17] (by kernel_rfl) (by kernel_rfl) (fun _ _ _ h => h) (Or.inl ⟨by rfl, ?y12⟩) hS0 ?r12
        case y12 => intro w hSw; (try dsimp only at hSw); go_simp; (try with_reducible rfl)
        try simp only [Act.put]
        refine wpAnyM_take (i := 16) (v := ?v13) rfl (by kernel_rfl) (by kernel_rfl) (by kernel_rfl) [18, 17] (by kernel_rfl) (by kernel_rfl) (fun _ _ _ h => h) (Or.inl ⟨by rfl, ?y13⟩) hS0 ?r13
        case y13 => intro w hSw; (try dsimp only at hSw); go_simp; (try with_reducible rfl)
        try simp only [Act.put]
        refine wpAnyM_take (i := 17) (v := ?v14) rfl (by kernel_rfl) (by kernel_rfl) (by kernel_rfl) [18] (by kernel_rfl) (by kernel_rfl) (fun _ _ _ h => h) (Or.inl ⟨by rfl, ?y14⟩) hS0 ?r14
        case y14 => intro w hSw; (try dsimp only at hSw); go_simp; (try with_reducible rfl)
        try simp only [Act.put]
        have lb : b < W.heap.size := by subst hW; simp; omega
        have lc : w.heap.size < W.heap.size := by subst hW; simp; omega
        have bW : Below w.heap.size w W := by subst hW; exact bd (bdn BX.out _)
        have bS2 : w.heap.size ≤ W.heap.size := Nat.le_of_lt lc
        clear hW
        have fW : W.frozen? ⟨b, 1, none⟩ = false := (bW.frozen (p := ⟨b, 1, none⟩) l0).trans f0
        refine wpAnyM_all (rs := [1, 10]) (by kernel_rfl) (by simp) (List.forall_mem_cons.2 ⟨?_, (List.forall_mem_cons.2 ⟨?_, (fun _ h => by cases h)⟩)⟩)
        ·
          refine wpOp_step rfl (fun K hK => ?_)
          go_simp
          refine hK _ _ ⟨.inr (sAl _ lb lc hS0), ?_⟩
          try simp only [Act.put, List.setIfInBounds_toArray, List.set_cons_zero, List.set_cons_succ]
          refine wpAnyM_all (rs := [8, 10]) (by kernel_rfl) (by simp) (List.forall_mem_cons.2 ⟨?_, (List.forall_mem_cons.2 ⟨?_, (fun _ h => by cases h)⟩)⟩)
          ·
            refine wpOp_step rfl (fun K hK => ?_)
            refine step_append_nil rfl (.tmp 77) (.tmp 83) 60 (by rfl) w.heap.size 50 i0 5 Try.underlying60 hi0 hz1 (.slice (some ⟨W.heap.size, 0, none⟩) 0 0) 0 [] (by simp [Act.eval, Act.put]) (by first | exact own_old (ownE0 _ bS2) | exact ownE0 _ bS2 | exact ownE1 _ _ bS2) 0 (by simp [Act.eval, Act.put]) ?_
            refine hK _ _ ⟨.inr (sAl _ lb lc hS0), ?_⟩
            try simp only [Act.put, List.setIfInBounds_toArray]
            refine wpAnyM_all (rs := [10]) (by kernel_rfl) (by simp) (List.forall_mem_cons.2 ⟨?_, (fun _ h => by cases h)⟩)
            refine wpOp_step rfl (fun K hK => ?_)
            go_simp
            refine hK _ _ ⟨.inr (sAl _ (ltAl _ lb) (ltAl _ lc) (sAl _ lb lc hS0)), ?_⟩
            try simp only [Act.put, List.setIfInBounds_toArray, List.set_cons_zero, List.set_cons_succ]
            refine wpAnyM_all (rs := [11]) (by kernel_rfl) (by simp) (List.forall_mem_cons.2 ⟨?_, (fun _ h => by cases h)⟩)
            refine wpOp_step rfl (fun K hK => ?_)
            refine step_append_at rfl (.tmp 84) (.tmp 86) 60 (by rfl) w.heap.size 50 i0 _ 5 48 Try.underlying60 hi0 hz0 hz1 hz2 rfl (by decide) (.slice (some ⟨W.heap.size, 0, none⟩) 0 0) 0 [] (by simp [Act.eval, Act.put]) (by first | exact own_old (ownE0 _ bS2) | exact ownE0 _ bS2 | exact ownE1 _ _ bS2) ⟨W.heap.size + 1, 0, none⟩ 1 1 i.cells (by simp [Act.eval, Act.put]) rfl (news_of (by first | exact boxU _ _ _ _ | exact Box.old (Box.new _ _ _))) (SlI.info_one i) (by unfold maxLen; omega) (by omega) (by simp; omega) ?_
            intro p1 cap1 w5 ho5 hg5 hat5
            have b5 : Below W.heap.size W w5 := below_grown (by repeat (first | (with_reducible exact Below.refl _ _) | (with_reducible assumption) | (with_reducible refine ba ?_) | (with_reducible refine bd ?_) | (with_reducible refine bdn ?_ _) | (with_reducible refine bset ?_ (by first | exact Nat.le_refl _ | omega | (simp; done) | (simp; omega))) | (with_reducible refine bt ?_ (by with_reducible assumption)))) hg5 (by intro j hj; simp [Value.ownBlock] at hj; omega)
            have S5 := sBelow b5 lb lc hS0
            have k5 := S5.1
            have f5 : w5.frozen? ⟨b, 1, none⟩ = false := (b5.frozen (p := ⟨b, 1, none⟩) lb).trans fW
            have bw5 : Below w.heap.size w w5 := bW.trans (b5.mono bS2)
            refine hK _ _ ⟨.inr S5, ?_⟩
            try simp only [Act.put, List.setIfInBounds_toArray]
            refine wpAnyM_all (rs := [18]) (by kernel_rfl) (by simp) (List.forall_mem_cons.2 ⟨?_, (fun _ h => by cases h)⟩)
            refine wpOp_step rfl (fun K hK => ?_)
            refine step_append_nil rfl (.tmp 87) (.tmp 93) 60 (by rfl) w.heap.size 50 i0 5 Try.underlying60 hi0 hz1 (.slice p1 (0 + 1) cap1) (0 + 1) ([] ++ i.cells) (by simp [Act.eval, Act.put]) ho5 0 (by simp [Act.eval, Act.put]) ?_
            refine hK _ _ ⟨.inr S5, ?_⟩
            try simp only [Act.put]
            refine wpAnyM_take (i := 19) (v := ?v15) rfl (by kernel_rfl) (by kernel_rfl) (by kernel_rfl) [20] (by kernel_rfl) (by kernel_rfl) (fun _ _ _ h => h) (Or.inl ⟨by rfl, ?y15⟩) S5 ?r15
            case y15 => intro w hSw; (try dsimp only at hSw); go_simp; (try with_reducible rfl)
            try simp only [Act.put]
            refine wpAnyM_take (i := 20) (v := ?v16) rfl (by kernel_rfl) (by kernel_rfl) (by kernel_rfl) [] (by kernel_rfl) (by kernel_rfl) (fun _ _ _ h => h) (Or.inl ⟨by rfl, ?y16⟩) S5 ?r16
            case y16 => intro w hSw; (try dsimp only at hSw); go_simp; (try with_reducible rfl)
            try simp only [Act.put]
            refine wpAnyM_all (rs := [21]) (by kernel_rfl) (by simp) (List.forall_mem_cons.2 ⟨?_, (fun _ h => by cases h)⟩)
            refine wpOp_step rfl (fun K hK => ?_)
            go_simp
            refine hK _ _ ⟨.inl rfl, ?_⟩
            refine wpAnyM_done (by kernel_rfl) ?_ _
            go_wp2
            go_ret
            exact ⟨rfl, leftR_put (k := 0) (l := []) H.out hbw i bw5 (Nat.zero_le _) (by simp) (by simpa using ho5)⟩
          ·
            refine wpOp_step rfl (fun K hK => ?_)
            go_simp
            refine hK _ _ ⟨.inr (sAl _ (ltAl _ lb) (ltAl _ lc) (sAl _ lb lc hS0)), ?_⟩
            try simp only [Act.put, List.setIfInBounds_toArray, List.set_cons_zero, List.set_cons_succ]
            refine wpAnyM_all (rs := [8]) (by kernel_rfl) (by simp) (List.forall_mem_cons.2 ⟨?_, (fun _ h => by cases h)⟩)
            refine wpOp_step rfl (fun K hK => ?_)
            refine step_append_nil rfl (.tmp 77) (.tmp 83) 60 (by rfl) w.heap.size 50 i0 5 Try.underlying60 hi0 hz1 (.slice (some ⟨W.heap.size, 0, none⟩) 0 0) 0 [] (by simp [Act.eval, Act.put]) (by first | exact own_old (ownE0 _ bS2) | exact ownE0 _ bS2 | exact ownE1 _ _ bS2) 0 (by simp [Act.eval, Act.put]) ?_
            refine hK _ _ ⟨.inr (sAl _ (ltAl _ lb) (ltAl _ lc) (sAl _ lb lc hS0)), ?_⟩
            try simp only [Act.put, List.setIfInBounds_toArray]
            refine wpAnyM_all (rs := [11]) (by kernel_rfl) (by simp) (List.forall_mem_cons.2 ⟨?_, (fun _ h => by cases h)⟩)
            refine wpOp_step rfl (fun K hK => ?_)
            refine step_append_at rfl (.tmp 84) (.tmp 86) 60 (by rfl) w.heap.size 50 i0 _ 5 48 Try.underlying60 hi0 hz0 hz1 hz2 rfl (by decide) (.slice (some ⟨W.heap.size, 0, none⟩) 0 0) 0 [] (by simp [Act.eval, Act.put]) (by first | exact own_old (ownE0 _ bS2) | exact ownE0 _ bS2 | exact ownE1 _ _ bS2) ⟨W.heap.size + 1, 0, none⟩ 1 1 i.cells (by simp [Act.eval, Act.put]) rfl (news_of (by first | exact boxU _ _ _ _ | exact Box.old (Box.new _ _ _))) (SlI.info_one i) (by unfold maxLen; omega) (by omega) (by simp; omega) ?_
            intro p1 cap1 w5 ho5 hg5 hat5
            have b5 : Below W.heap.size W w5 := below_grown (by repeat (first | (with_reducible exact Below.refl _ _) | (with_reducible assumption) | (with_reducible refine ba ?_) | (with_reducible refine bd ?_) | (with_reducible refine bdn ?_ _) | (with_reducible refine bset ?_ (by first | exact Nat.le_refl _ | omega | (simp; done) | (simp; omega))) | (with_reducible refine bt ?_ (by with_reducible assumption)))) hg5 (by intro j hj; simp [Value.ownBlock] at hj; omega)
            have S5 := sBelow b5 lb lc hS0
            have k5 := S5.1
            have f5 : w5.frozen? ⟨b, 1, none⟩ = false := (b5.frozen (p := ⟨b, 1, none⟩) lb).trans fW
            have bw5 : Below w.heap.size w w5 := bW.trans (b5.mono bS2)
            refine hK _ _ ⟨.inr S5, ?_⟩
            try simp only [Act.put]
            refine wpAnyM_all (rs := [18]) (by kernel_rfl) (by simp) (List.forall_mem_cons.2 ⟨?_, (fun _ h => by cases h)⟩)
            refine wpOp_step rfl (fun K hK => ?_)
            refine step_append_nil rfl (.tmp 87) (.tmp 93) 60 (by rfl) w.heap.size 50 i0 5 Try.underlying60 hi0 hz1 (.slice p1 (0 + 1) cap1) (0 + 1) ([] ++ i.cells) (by simp [Act.eval, Act.put]) ho5 0 (by simp [Act.eval, Act.put]) ?_
            refine hK _ _ ⟨.inr S5, ?_⟩
            try simp only [Act.put]
            refine wpAnyM_take (i := 19) (v := ?v17) rfl (by kernel_rfl) (by kernel_rfl) (by kernel_rfl) [20] (by kernel_rfl) (by kernel_rfl) (fun _ _ _ h => h) (Or.inl ⟨by rfl, ?y17⟩) S5 ?r17
            case y17 => intro w hSw; (try dsimp only at hSw); go_simp; (try with_reducible rfl)
            try simp only [Act.put]
            refine wpAnyM_take (i := 20) (v := ?v18) rfl (by kernel_rfl) (by kernel_rfl) (by kernel_rfl) [] (by kernel_rfl) (by kernel_rfl) (fun _ _ _ h => h) (Or.inl ⟨by rfl, ?y18⟩) S5 ?r18
            case y18 => intro w hSw; (try dsimp only at hSw); go_simp; (try with_reducible rfl)
            try simp only [Act.put]
            refine wpAnyM_all (rs := [21]) (by kernel_rfl) (by simp) (List.forall_mem_cons.2 ⟨?_, (fun _ h => by cases h)⟩)
            refine wpOp_step rfl (fun K hK => ?_)
            go_simp
            refine hK _ _ ⟨.inl rfl, ?_⟩
            refine wpAnyM_done (by kernel_rfl) ?_ _
            go_wp2
            go_ret
            exact ⟨rfl, leftR_put (k := 0) (l := []) H.out hbw i bw5 (Nat.zero_le _) (by simp) (by simpa using ho5)⟩
        ·
          refine wpOp_step rfl (fun K hK => ?_)
          go_simp
          refine hK _ _ ⟨.inr (sAl _ lb lc hS0), ?_⟩
          try simp only [Act.put, List.setIfInBounds_toArray, List.set_cons_zero, List.set_cons_succ]
          refine wpAnyM_all (rs := [1]) (by kernel_rfl) (by simp) (List.forall_mem_cons.2 ⟨?_, (fun _ h => by cases h)⟩)
          refine wpOp_step rfl (fun K hK => ?_)
          go_simp
          refine hK _ _ ⟨.inr (sAl _ (ltAl _ lb) (ltAl _ lc) (sAl _ lb lc hS0)), ?_⟩
          try simp only [Act.put, List.setIfInBounds_toArray, List.set_cons_zero, List.set_cons_succ]
          refine wpAnyM_all (rs := [8]) (by kernel_rfl) (by simp) (List.forall_mem_cons.2 ⟨?_, (fun _ h => by cases h)⟩)
          refine wpOp_step rfl (fun K hK => ?_)
          refine step_append_nil rfl (.tmp 77) (.tmp 83) 60 (by rfl) w.heap.size 50 i0 5 Try.underlying60 hi0 hz1 (.slice (some ⟨W.heap.size + 1, 0, none⟩) 0 0) 0 [] (by simp [Act.eval, Act.put]) (by first | exact own_old (ownE0 _ bS2) | exact ownE0 _ bS2 | exact ownE1 _ _ bS2) 0 (by simp [Act.eval, Act.put]) ?_
          refine hK _ _ ⟨.inr (sAl _ (ltAl _ lb) (ltAl _ lc) (sAl _ lb lc hS0)), ?_⟩
          try simp only [Act.put, List.setIfInBounds_toArray]
          refine wpAnyM_all (rs := [11]) (by kernel_rfl) (by simp) (List.forall_mem_cons.2 ⟨?_, (fun _ h => by cases h)⟩)
          refine wpOp_step rfl (fun K hK => ?_)
          refine step_append_at rfl (.tmp 84) (.tmp 86) 60 (by rfl) w.heap.size 50 i0 _ 5 48 Try.underlying60 hi0 hz0 hz1 hz2 rfl (by decide) (.slice (some ⟨W.heap.size + 1, 0, none⟩) 0 0) 0 [] (by simp [Act.eval, Act.put]) (by first | exact own_old (ownE0 _ bS2) | exact ownE0 _ bS2 | exact ownE1 _ _ bS2) ⟨W.heap.size, 0, none⟩ 1 1 i.cells (by simp [Act.eval, Act.put]) rfl (news_of (by first | exact boxU _ _ _ _ | exact Box.old (Box.new _ _ _))) (SlI.info_one i) (by unfold maxLen; omega) (by omega) (by simp; omega) ?_
          intro p1 cap1 w5 ho5 hg5 hat5
          have b5 : Below W.heap.size W w5 := below_grown (by repeat (first | (with_reducible exact Below.refl _ _) | (with_reducible assumption) | (with_reducible refine ba ?_) | (with_reducible refine bd ?_) | (with_reducible refine bdn ?_ _) | (with_reducible refine bset ?_ (by first | exact Nat.le_refl _ | omega | (simp; done) | (simp; omega))) | (with_reducible refine bt ?_ (by with_reducible assumption)))) hg5 (by intro j hj; simp [Value.ownBlock] at hj; omega)
          have S5 := sBelow b5 lb lc hS0
          have k5 := S5.1
          have f5 : w5.frozen? ⟨b, 1, none⟩ = false := (b5.frozen (p := ⟨b, 1, none⟩) lb).trans fW
          have bw5 : Below w.heap.size w w5 := bW.trans (b5.mono bS2)
          refine hK _ _ ⟨.inr S5, ?_⟩
          try simp only [Act.put]
          refine wpAnyM_all (rs := [18]) (by kernel_rfl) (by simp) (List.forall_mem_cons.2 ⟨?_, (fun _ h => by cases h)⟩)
          refine wpOp_step rfl (fun K hK => ?_)
          refine step_append_nil rfl (.tmp 87) (.tmp 93) 60 (by rfl) w.heap.size 50 i0 5 Try.underlying60 hi0 hz1 (.slice p1 (0 + 1) cap1) (0 + 1) ([] ++ i.cells) (by simp [Act.eval, Act.put]) ho5 0 (by simp [Act.eval, Act.put]) ?_
          refine hK _ _ ⟨.inr S5, ?_⟩
          try simp only [Act.put]
          refine wpAnyM_take (i := 19) (v := ?v19) rfl (by kernel_rfl) (by kernel_rfl) (by kernel_rfl) [20] (by kernel_rfl) (by kernel_rfl) (fun _ _ _ h => h) (Or.inl ⟨by rfl, ?y19⟩) S5 ?r19
          case y19 => intro w hSw; (try dsimp only at hSw); go_simp; (try with_reducible rfl)
          try simp only [Act.put]
          refine wpAnyM_take (i := 20) (v := ?v20) rfl (by kernel_rfl) (by kernel_rfl) (by kernel_rfl) [] (by kernel_rfl) (by kernel_rfl) (fun _ _ _ h => h) (Or.inl ⟨by rfl, ?y20⟩) S5 ?r20
          case y20 => intro w hSw; (try dsimp only at hSw); go_simp; (try with_reducible rfl)
          try simp only [Act.put]
          refine wpAnyM_all (rs := [21]) (by kernel_rfl) (by simp) (List.forall_mem_cons.2 ⟨?_, (fun _ h => by cases h)⟩)
          refine wpOp_step rfl (fun K hK => ?_)
          go_simp
          refine hK _ _ ⟨.inl rfl, ?_⟩
          refine wpAnyM_done (by kernel_rfl) ?_ _
          go_wp2
          go_ret
          exact ⟨rfl, leftR_put (k := 0) (l := []) H.out hbw i bw5 (Nat.zero_le _) (by simp) (by simpa using ho5)⟩
end StR
end Go.Proofs.Ytjgodnakhbkgeaa
