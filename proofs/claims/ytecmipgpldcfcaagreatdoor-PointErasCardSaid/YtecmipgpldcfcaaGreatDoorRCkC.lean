import Derived.Test.YtecmipgpldcfcaaGreatDoorG34
import Derived.Test.YtecmipgpldcfcaaGreatDoorRUCheck
import Derived.Test.YtecmipgpldcfcaaGreatDoorG35
namespace Go.Proofs.YtecmipgpldcfcaaGreatDoor
open Go.RowKit NB
namespace RCk
open Ck
set_option maxRecDepth 100000 in
set_option maxHeartbeats 6400000 in
theorem era {w : World} {t : TabV} (h : HoldsT w t) {z i : Nat} {y : ZoneV} {e : EraV} (hz : t.zs[z]? = some y) (he : y.es[i]? = some e) (hr : t.rs.length ≤ 12) (hzl : t.zs.length ≤ 1000) (hel : y.es.length ≤ 100000) :
    Calls Tryz.prog 120 #[.agg #[t.rv, t.zv, t.lv], .int .i64 z, .int .i64 i] w fun x w' => x = .returned (.int .i64 (Ck.eraF t.rs ((t.zs.take z).map ZoneV.name) y.name y.es i e)) ∧ Below w.heap.size w w' := by
  unfold eraF
  obtain ⟨TW, hTW⟩ : ∃ b, b = (((t.zs.take z).map ZoneV.name).any fun a => decide (a = y.name)) := ⟨_, rfl⟩
  obtain ⟨NM, hNM⟩ : ∃ b, b = Ck.named t.rs e.rules := ⟨_, rfl⟩
  obtain ⟨U, hU⟩ : ∃ u, u = Unt.checkU t.rs y.es := ⟨_, rfl⟩
  have hyf := h.zf y (List.mem_of_getElem? hz)
  have ct := fun (X : World) (hX : Below w.heap.size w X) => twice (h.later hX) hz (by omega)
  have cn := fun (X : World) (hX : Below w.heap.size w X) => named (h.r.later hX) e.rules
  have cu := fun (X : World) (hX : Below w.heap.size w X) => RUnt.Check (h.r.later hX) (hyf.later hX).e y.name hel hr
  rw [← hTW] at ct ⊢
  rw [← hNM] at cn ⊢
  rw [← hU] at cu ⊢
  clear hTW hNM hU
  obtain ⟨rv, zv, lv, rs, zs, ls⟩ := t
  obtain ⟨U1, U2⟩ := U
  obtain ⟨yn, yv, ys⟩ := y
  dsimp only at hz he hr hzl hel hyf ct cn cu ⊢
  obtain ⟨pr, cr, e1⟩ := h.r.form
  obtain ⟨pl, cl, e3⟩ := h.l.form
  obtain ⟨pz, capz, e2, hp⟩ := h.z.pk
  obtain ⟨b, off, cap, e4, hb1, hcell⟩ := hyf.e.at he
  dsimp only at e1 e2 e3 e4 hp hcell
  subst e1 e2 e3 e4
  obtain ⟨g2, o2, rfl, hg2, d2⟩ := hp z _ hz
  have x0 := d2 0 _ rfl
  have x1 := d2 1 _ rfl
  rw [Nat.add_zero] at x0
  have k1 := hcell 1 _ rfl
  have k3 := hcell 3 _ rfl
  have hzn : z < zs.length := (List.getElem?_eq_some_iff.1 hz).1
  have hin : i < ys.length := (List.getElem?_eq_some_iff.1 he).1
  generalize rs.length = nr at *
  generalize ls.length = nl at *
  generalize zs.length = nz at *
  generalize ys.length = ny at *
  have CT := Lib.hid ct;have CN := Lib.hid cn;have CU := Lib.hid cu
  clear ct cn cu h hyf hp d2 hcell hz he
  have q1 : (z : Int) < (nz : Int) := by omega
  have q2 : (i : Int) < (ny : Int) := by omega
  have hbT : Box ((w.alloc (.cells #[.slice pr nr cr, .slice (some ⟨g2, o2, none⟩) nz capz, .slice pl nl cl] 26)).alloc (.cells #[.string yn, .slice (some ⟨b, off, none⟩) ny cap] 39)) w.heap.size #[.slice pr nr cr, .slice (some ⟨g2, o2, none⟩) nz capz, .slice pl nl cl] 26 := (Box.new w _ _).old
  have hbZ : Box ((w.alloc (.cells #[.slice pr nr cr, .slice (some ⟨g2, o2, none⟩) nz capz, .slice pl nl cl] 26)).alloc (.cells #[.string yn, .slice (some ⟨b, off, none⟩) ny cap] 39)) (w.heap.size + 1) #[.string yn, .slice (some ⟨b, off, none⟩) ny cap] 39 := by
    have := Box.new (w.alloc (.cells #[.slice pr nr cr, .slice (some ⟨g2, o2, none⟩) nz capz, .slice pl nl cl] 26)) #[.string yn, .slice (some ⟨b, off, none⟩) ny cap] 39
    simpa using this
  have s1 : b < w.heap.size + 1 := by omega
  have s2 : b < w.heap.size + 1 + 1 := by omega
  by_cases h1 : i = 0 ∧ TW = true
  · rw [if_pos h1]
    obtain ⟨rfl, rfl⟩ := h1
    go_enter Tryz.func120, Tryz.ntmps120
    go_wp2_with (go_at_call 167;(with_reducible refine (CT.out _ ?_).mono ?_);(· exact bcq);rintro e w1 ⟨rfl, hb1⟩;obtain ⟨hc1, hf1⟩ := bcell hb1)
    go_ret
    exact ⟨rfl, bcq⟩
  · rw [if_neg h1]
    by_cases h0 : i = 0
    · have hT : TW = false := by cases TW;(· rfl);(· exact absurd ⟨h0, rfl⟩ h1)
      subst h0 hT
      rw [Nat.zero_mul, Nat.add_zero] at k1 k3
      clear h1
      by_cases h2 : e.kind = 2
      · cases NM with
        | false =>
          rw [if_pos ⟨h2, rfl⟩]
          have e2 : (e.kind == 2) = true := by simp [h2]
          rw [h2] at k1
          go_enter Tryz.func120, Tryz.ntmps120
          go_wp2_with (go_at_call 167;(with_reducible refine (CT.out _ ?_).mono ?_);(· exact bcq);rintro e w1 ⟨rfl, hb1⟩;obtain ⟨hc1_0, hf1_0, _⟩ := bcs hb1 (w.heap.size);obtain ⟨hc1_1, hf1_1, hz1_1⟩ := bcs hb1 (w.heap.size + 1);obtain ⟨hc1_2, hf1_2, _⟩ := bcs hb1 (b);have hz1_0 : w.heap.size < w1.heap.size := (by first|exact sz1 hb1|exact sz2 hb1|exact sz3 hb1|(have := hb1.size;(try simp only [World.size_alloc] at this);omega));have hz1_2 : b < w1.heap.size := (by first|exact sz1 hb1|exact sz2 hb1|exact sz3 hb1|(have := hb1.size;(try simp only [World.size_alloc] at this);omega)))
          (refine region_later (by kernel_rfl) (by kernel_rfl) ?_;(repeat (go_big_quiet_step (first|(go_at_call 168;rename_i xL;apply calls_later xL (Nat.le_refl _);exact (CN.out _ (by have hbx := xL.h;exact bcq))))));refine wpQuiet_nil ?_;rintro u7 ⟨xU, eU⟩;have hu7 := xU.h;rw [← eU] at hu7;clear eU xU)
          go_wp2
          go_ret
          exact ⟨rfl, bcq⟩
        | true =>
          rw [if_neg (fun q => absurd q.2 (by decide))]
          rw [h2] at k1
          by_cases h3 : U1 = ((0 : Nat) : Int)
          · rw [if_pos h3]
            subst h3
            go_enter Tryz.func120, Tryz.ntmps120
            go_wp2_with (go_at_call 167;(with_reducible refine (CT.out _ ?_).mono ?_);(· exact bcq);rintro e w1 ⟨rfl, hb1⟩;obtain ⟨hc1_0, hf1_0, _⟩ := bcs hb1 (w.heap.size);obtain ⟨hc1_1, hf1_1, hz1_1⟩ := bcs hb1 (w.heap.size + 1);obtain ⟨hc1_2, hf1_2, _⟩ := bcs hb1 (b);have hz1_0 : w.heap.size < w1.heap.size := (by first|exact sz1 hb1|exact sz2 hb1|exact sz3 hb1|(have := hb1.size;(try simp only [World.size_alloc] at this);omega));have hz1_2 : b < w1.heap.size := (by first|exact sz1 hb1|exact sz2 hb1|exact sz3 hb1|(have := hb1.size;(try simp only [World.size_alloc] at this);omega)))
            (refine region_later (by kernel_rfl) (by kernel_rfl) ?_;(repeat (go_big_quiet_step (first|(go_at_call 168;rename_i xL;apply calls_later xL (Nat.le_refl _);exact (CN.out _ (by have hbx := xL.h;exact bcq))))));refine wpQuiet_nil ?_;rintro u7 ⟨xU, eU⟩;have hu7 := xU.h;rw [← eU] at hu7;clear eU xU)
            have cT := Box.cell ((hbT.later hb1).later hu7)
            have cZ := Box.cell ((hbZ.later hb1).later hu7)
            go_wp2_with (go_at_call 169;(with_reducible refine (CU.out _ ?_).mono ?_);(· exact bcq);rintro e w8 ⟨rfl, hb8⟩;obtain ⟨hc8, hf8⟩ := bcell hb8)
            go_ret
            exact ⟨rfl, bcq⟩
          · rw [if_neg h3]
            have e3 : (U1 == ((0 : Nat) : Int)) = false := by simpa using h3
            go_enter Tryz.func120, Tryz.ntmps120
            go_wp2_with (go_at_call 167;(with_reducible refine (CT.out _ ?_).mono ?_);(· exact bcq);rintro e w1 ⟨rfl, hb1⟩;obtain ⟨hc1_0, hf1_0, _⟩ := bcs hb1 (w.heap.size);obtain ⟨hc1_1, hf1_1, hz1_1⟩ := bcs hb1 (w.heap.size + 1);obtain ⟨hc1_2, hf1_2, _⟩ := bcs hb1 (b);have hz1_0 : w.heap.size < w1.heap.size := (by first|exact sz1 hb1|exact sz2 hb1|exact sz3 hb1|(have := hb1.size;(try simp only [World.size_alloc] at this);omega));have hz1_2 : b < w1.heap.size := (by first|exact sz1 hb1|exact sz2 hb1|exact sz3 hb1|(have := hb1.size;(try simp only [World.size_alloc] at this);omega)))
            (refine region_later (by kernel_rfl) (by kernel_rfl) ?_;(repeat (go_big_quiet_step (first|(go_at_call 168;rename_i xL;apply calls_later xL (Nat.le_refl _);exact (CN.out _ (by have hbx := xL.h;exact bcq))))));refine wpQuiet_nil ?_;rintro u7 ⟨xU, eU⟩;have hu7 := xU.h;rw [← eU] at hu7;clear eU xU)
            have cT := Box.cell ((hbT.later hb1).later hu7)
            have cZ := Box.cell ((hbZ.later hb1).later hu7)
            go_wp2_with (go_at_call 169;(with_reducible refine (CU.out _ ?_).mono ?_);(· exact bcq);rintro e w8 ⟨rfl, hb8⟩;obtain ⟨hc8, hf8⟩ := bcell hb8)
            go_ret
            exact ⟨rfl, bcq⟩
      · rw [if_neg (fun q => h2 q.1)]
        have e2 : (e.kind == 2) = false := by simp [h2]
        by_cases h3 : U1 = ((0 : Nat) : Int)
        · rw [if_pos h3]
          subst h3
          go_enter Tryz.func120, Tryz.ntmps120
          go_wp2_with (go_at_call 167;(with_reducible refine (CT.out _ ?_).mono ?_);(· exact bcq);rintro e w1 ⟨rfl, hb1⟩;obtain ⟨hc1_0, hf1_0, _⟩ := bcs hb1 (w.heap.size);obtain ⟨hc1_1, hf1_1, hz1_1⟩ := bcs hb1 (w.heap.size + 1);obtain ⟨hc1_2, hf1_2, _⟩ := bcs hb1 (b);have hz1_0 : w.heap.size < w1.heap.size := (by first|exact sz1 hb1|exact sz2 hb1|exact sz3 hb1|(have := hb1.size;(try simp only [World.size_alloc] at this);omega));have hz1_2 : b < w1.heap.size := (by first|exact sz1 hb1|exact sz2 hb1|exact sz3 hb1|(have := hb1.size;(try simp only [World.size_alloc] at this);omega)))
          (refine region_later (by kernel_rfl) (by kernel_rfl) ?_;(repeat (go_big_quiet_step (first|(go_at_call 168;rename_i xL;apply calls_later xL (Nat.le_refl _);exact (CN.out _ (by have hbx := xL.h;exact bcq))))));refine wpQuiet_nil ?_;rintro u7 ⟨xU, eU⟩;have hu7 := xU.h;rw [← eU] at hu7;clear eU xU)
          have cT := Box.cell ((hbT.later hb1).later hu7)
          have cZ := Box.cell ((hbZ.later hb1).later hu7)
          go_wp2_with (go_at_call 169;(with_reducible refine (CU.out _ ?_).mono ?_);(· exact bcq);rintro e w8 ⟨rfl, hb8⟩;obtain ⟨hc8, hf8⟩ := bcell hb8)
          go_ret
          exact ⟨rfl, bcq⟩
        · rw [if_neg h3]
          have e3 : (U1 == ((0 : Nat) : Int)) = false := by simpa using h3
          go_enter Tryz.func120, Tryz.ntmps120
          go_wp2_with (go_at_call 167;(with_reducible refine (CT.out _ ?_).mono ?_);(· exact bcq);rintro e w1 ⟨rfl, hb1⟩;obtain ⟨hc1_0, hf1_0, _⟩ := bcs hb1 (w.heap.size);obtain ⟨hc1_1, hf1_1, hz1_1⟩ := bcs hb1 (w.heap.size + 1);obtain ⟨hc1_2, hf1_2, _⟩ := bcs hb1 (b);have hz1_0 : w.heap.size < w1.heap.size := (by first|exact sz1 hb1|exact sz2 hb1|exact sz3 hb1|(have := hb1.size;(try simp only [World.size_alloc] at this);omega));have hz1_2 : b < w1.heap.size := (by first|exact sz1 hb1|exact sz2 hb1|exact sz3 hb1|(have := hb1.size;(try simp only [World.size_alloc] at this);omega)))
          (refine region_later (by kernel_rfl) (by kernel_rfl) ?_;(repeat (go_big_quiet_step (first|(go_at_call 168;rename_i xL;apply calls_later xL (Nat.le_refl _);exact (CN.out _ (by have hbx := xL.h;exact bcq))))));refine wpQuiet_nil ?_;rintro u7 ⟨xU, eU⟩;have hu7 := xU.h;rw [← eU] at hu7;clear eU xU)
          have cT := Box.cell ((hbT.later hb1).later hu7)
          have cZ := Box.cell ((hbZ.later hb1).later hu7)
          go_wp2_with (go_at_call 169;(with_reducible refine (CU.out _ ?_).mono ?_);(· exact bcq);rintro e w8 ⟨rfl, hb8⟩;obtain ⟨hc8, hf8⟩ := bcell hb8)
          go_ret
          exact ⟨rfl, bcq⟩
    · have e0 : ((i : Int) == 0) = false := by simp;omega
      clear h1
      by_cases h2 : e.kind = 2
      · cases NM with
        | false =>
          rw [if_pos ⟨h2, rfl⟩]
          have e2 : (e.kind == 2) = true := by simp [h2]
          rw [h2] at k1
          go_enter Tryz.func120, Tryz.ntmps120
          go_wp2_with (first|fail)
          (refine region_later (by kernel_rfl) (by kernel_rfl) ?_;(repeat (go_big_quiet_step (first|(go_at_call 168;rename_i xL;apply calls_later xL (Nat.le_refl _);exact (CN.out _ (by have hbx := xL.h;exact bcq))))));refine wpQuiet_nil ?_;rintro u7 ⟨xU, eU⟩;have hu7 := xU.h;rw [← eU] at hu7;clear eU xU)
          go_wp2
          go_ret
          exact ⟨rfl, bcq⟩
        | true =>
          rw [if_neg (fun q => absurd q.2 (by decide))]
          rw [h2] at k1
          by_cases h3 : U1 = (i : Int)
          · rw [if_pos h3]
            subst h3
            go_enter Tryz.func120, Tryz.ntmps120
            go_wp2_with (first|fail)
            (refine region_later (by kernel_rfl) (by kernel_rfl) ?_;(repeat (go_big_quiet_step (first|(go_at_call 168;rename_i xL;apply calls_later xL (Nat.le_refl _);exact (CN.out _ (by have hbx := xL.h;exact bcq))))));refine wpQuiet_nil ?_;rintro u7 ⟨xU, eU⟩;have hu7 := xU.h;rw [← eU] at hu7;clear eU xU)
            have cT := Box.cell (hbT.later hu7)
            have cZ := Box.cell (hbZ.later hu7)
            go_wp2_with (go_at_call 169;(with_reducible refine (CU.out _ ?_).mono ?_);(· exact bcq);rintro e w8 ⟨rfl, hb8⟩;obtain ⟨hc8, hf8⟩ := bcell hb8)
            go_ret
            exact ⟨rfl, bcq⟩
          · rw [if_neg h3]
            have e3 : (U1 == (i : Int)) = false := by simpa using h3
            go_enter Tryz.func120, Tryz.ntmps120
            go_wp2_with (first|fail)
            (refine region_later (by kernel_rfl) (by kernel_rfl) ?_;(repeat (go_big_quiet_step (first|(go_at_call 168;rename_i xL;apply calls_later xL (Nat.le_refl _);exact (CN.out _ (by have hbx := xL.h;exact bcq))))));refine wpQuiet_nil ?_;rintro u7 ⟨xU, eU⟩;have hu7 := xU.h;rw [← eU] at hu7;clear eU xU)
            have cT := Box.cell (hbT.later hu7)
            have cZ := Box.cell (hbZ.later hu7)
            go_wp2_with (go_at_call 169;(with_reducible refine (CU.out _ ?_).mono ?_);(· exact bcq);rintro e w8 ⟨rfl, hb8⟩;obtain ⟨hc8, hf8⟩ := bcell hb8)
            go_ret
            exact ⟨rfl, bcq⟩
      · rw [if_neg (fun q => h2 q.1)]
        have e2 : (e.kind == 2) = false := by simp [h2]
        by_cases h3 : U1 = (i : Int)
        · rw [if_pos h3]
          subst h3
          go_enter Tryz.func120, Tryz.ntmps120
          go_wp2_with (first|fail)
          (refine region_later (by kernel_rfl) (by kernel_rfl) ?_;(repeat (go_big_quiet_step (first|(go_at_call 168;rename_i xL;apply calls_later xL (Nat.le_refl _);exact (CN.out _ (by have hbx := xL.h;exact bcq))))));refine wpQuiet_nil ?_;rintro u7 ⟨xU, eU⟩;have hu7 := xU.h;rw [← eU] at hu7;clear eU xU)
          have cT := Box.cell (hbT.later hu7)
          have cZ := Box.cell (hbZ.later hu7)
          go_wp2_with (go_at_call 169;(with_reducible refine (CU.out _ ?_).mono ?_);(· exact bcq);rintro e w8 ⟨rfl, hb8⟩;obtain ⟨hc8, hf8⟩ := bcell hb8)
          go_ret
          exact ⟨rfl, bcq⟩
        · rw [if_neg h3]
          have e3 : (U1 == (i : Int)) = false := by simpa using h3
          go_enter Tryz.func120, Tryz.ntmps120
          go_wp2_with (first|fail)
          (refine region_later (by kernel_rfl) (by kernel_rfl) ?_;(repeat (go_big_quiet_step (first|(go_at_call 168;rename_i xL;apply calls_later xL (Nat.le_refl _);exact (CN.out _ (by have hbx := xL.h;exact bcq))))));refine wpQuiet_nil ?_;rintro u7 ⟨xU, eU⟩;have hu7 := xU.h;rw [← eU] at hu7;clear eU xU)
          have cT := Box.cell (hbT.later hu7)
          have cZ := Box.cell (hbZ.later hu7)
          go_wp2_with (go_at_call 169;(with_reducible refine (CU.out _ ?_).mono ?_);(· exact bcq);rintro e w8 ⟨rfl, hb8⟩;obtain ⟨hc8, hf8⟩ := bcell hb8)
          go_ret
          exact ⟨rfl, bcq⟩
end RCk
end Go.Proofs.YtecmipgpldcfcaaGreatDoor
