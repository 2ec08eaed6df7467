import Derived.Test.YtkpjhgkmjcdobaaGreatDoorIn
import Derived.Test.YtkpjhgkmjcdobaaGreatDoorRNextH
/-
  noontideref25.In and Same, noontideref10.Right: what they give, as the program runs them.
-/
namespace Go.Proofs.YtkpjhgkmjcdobaaGreatDoor
open Go.RowKit NB Nxt
namespace RIn
theorem Right10 (a b : Int) (w : World) : Calls Tryz.prog 136 #[.agg #[.int .i64 a, .int .i64 b]] w fun e w' => e = .returned (.bool (decide (a < b))) ∧ Below w.heap.size w w' := by
  go_enter Tryz.func136, Tryz.ntmps136
  go_wp2
  go_ret
  exact ⟨rfl, by repeat (first | (with_reducible exact Below.refl _ _) | (with_reducible assumption) | (with_reducible refine ba ?_) | (with_reducible refine bd ?_) | (with_reducible refine bdn ?_ _) | (with_reducible refine bset ?_ (by first | exact Nat.le_refl _ | omega | (simp; done) | (simp; omega))) | (with_reducible refine bt ?_ (by with_reducible assumption)))⟩
/-- what is still to come -/
def cont (l : List RuleV) (name : ByteArray) (T : Int) (c : Option OccV) (m : Nat) : List OccV := match c, m with
  | some o, m + 1 => if o.nom < T then o :: Occ.inL l name T o m else []
  | _, _ => []
theorem inL_cont (l : List RuleV) (name : ByteArray) (T : Int) (fr : OccV) (m : Nat) : Occ.inL l name T fr m = cont l name T (Occ.nextO l name fr) m := by
  cases m with
  | zero => unfold Occ.inL cont; cases Occ.nextO l name fr <;> rfl
  | succ m =>
    unfold Occ.inL cont
    cases Occ.nextO l name fr <;> rfl
theorem all_i64 {l : List RuleV} {name : ByteArray} {o : OccV} (h : Occ.All l name l.length o) : I64 o.nom := by
  have := Occ.all_bd h
  unfold I64
  omega
set_option maxRecDepth 100000 in
set_option maxHeartbeats 6400000 in
theorem In {v : Value} {l : List RuleV} {w : World} (hH : Holds w v l) (name : ByteArray) (fr tt most : Int) (hfr : I64 fr) (hmax : most ≤ 100000) :
    Calls Tryz.prog 93 #[v, .string name, .agg #[.int .i64 fr, .int .i64 tt], .int .i64 most] w (All.RowPost w (All.inO l name fr tt most)) := by
  obtain ⟨p, cap, rfl⟩ := hH.form
  have cs := fun W => Right10 fr tt W
  unfold All.inO
  by_cases hlt : fr < tt
  · rw [if_pos hlt]
    rw [show decide (fr < tt) = true by simpa using hlt] at cs
    have cn0 := fun W (h : Holds W (.slice p l.length cap) l) => RNxH.Next h name ⟨-1, 0, fr⟩ hfr
    have cn := fun W (o : OccV) (ho : I64 o.nom) (h : Holds W (.slice p l.length cap) l) => RNxH.Next h name o ho
    obtain ⟨i1, y1, k1, eV, eC⟩ := All.opt_parts (Occ.nextO l name ⟨-1, 0, fr⟩)
    rw [eV] at cn0
    have hc0 := inL_cont l name tt ⟨-1, 0, fr⟩ most.toNat
    rw [hc0]
    obtain ⟨R, hR⟩ : ∃ R, R = cont l name tt (Occ.nextO l name ⟨-1, 0, fr⟩) most.toNat := ⟨_, rfl⟩
    rw [← hR]
    have hi0 : ∀ o, Occ.nextO l name ⟨-1, 0, fr⟩ = some o → I64 o.nom := fun o ho => all_i64 (Occ.next_all ho).1
    have hi1 : ∀ o x, Occ.nextO l name o = some x → I64 x.nom := fun o x hx => all_i64 (Occ.next_all hx).1
    obtain ⟨c0, hcc⟩ : ∃ c, c = Occ.nextO l name ⟨-1, 0, fr⟩ := ⟨_, rfl⟩
    rw [← hcc] at cn0 hR hi0 eC
    clear hcc hc0 eV
    obtain ⟨g0, hg0⟩ : ∃ g, g = c0.isSome := ⟨_, rfl⟩
    rw [← hg0] at cn0
    unfold OccV.cells at cn0 cn
    simp only at cn0
    obtain ⟨j0, hj0, hz0, hz1, hz2⟩ := info_parts All.info_occ
    have HH := Lib.hid hH
    have Cs := Lib.hid cs
    have Cn0 := Lib.hid cn0
    have Cn := Lib.hid cn
    have HR := Lib.hid hR
    have Hi0 := Lib.hid hi0
    have Hi1 := Lib.hid hi1
    have Hg0 := Lib.hid hg0
    have EC := Lib.hid eC
    clear hH cs cn0 cn hR hi0 hi1 hg0 eC
    obtain ⟨len, hlen⟩ : ∃ n, n = l.length := ⟨_, rfl⟩
    rw [← hlen] at HH Cn0 Cn ⊢
    clear hlen
    go_enter Tryz.func93, Tryz.ntmps93
    go_wp2_with (first
      | (go_at_call 136; (with_reducible refine (Cs.out _).mono ?_); rintro e w1 ⟨rfl, hb1⟩; obtain ⟨hc1, hf1⟩ := bcell hb1; have hc1_0 := fun o => hc1 (w.heap.size) o (by first | assumption | omega | (simp; done) | (simp; omega)); have hf1_0 := fun o => hf1 (w.heap.size) o (by first | assumption | omega | (simp; done) | (simp; omega)); clear hc1 hf1; have hz1_0 : w.heap.size < w1.heap.size := (by first | exact sz1 hb1 | exact sz2 hb1 | exact sz3 hb1 | (have := hb1.size; (try simp only [World.size_alloc, World.size_drew] at this); omega)))
      | (go_at_call 63; (with_reducible refine (Cn0.out _ ?_).mono ?_); (· exact HH.out.later (by repeat (first | (with_reducible exact Below.refl _ _) | (with_reducible assumption) | (with_reducible refine ba ?_) | (with_reducible refine bd ?_) | (with_reducible refine bdn ?_ _) | (with_reducible refine bset ?_ (by first | exact Nat.le_refl _ | omega | (simp; done) | (simp; omega))) | (with_reducible refine bt ?_ (by with_reducible assumption))))); rintro e w2 ⟨rfl, hb2⟩; obtain ⟨hc2, hf2⟩ := bcell hb2; have hc2_0 := fun o => hc2 (w.heap.size) o (by first | assumption | omega | (simp; done) | (simp; omega)); have hf2_0 := fun o => hf2 (w.heap.size) o (by first | assumption | omega | (simp; done) | (simp; omega)); clear hc2 hf2; have hz2_0 : w.heap.size < w2.heap.size := (by first | exact sz1 hb2 | exact sz2 hb2 | exact sz3 hb2 | (have := hb2.size; (try simp only [World.size_alloc, World.size_drew] at this); omega))))
    obtain ⟨q, hq⟩ : ∃ q, q = w2.heap.size := ⟨_, rfl⟩
    obtain ⟨V, hV⟩ : ∃ V, V = w2.alloc (.cells #[.int .i64 i1, .int .i64 y1, .int .i64 k1] 53) := ⟨_, rfl⟩
    have hqV : q < V.heap.size := by rw [hV, hq]; simp
    have hBV : Below w.heap.size w V := by rw [hV]; repeat (first | (with_reducible exact Below.refl _ _) | (with_reducible assumption) | (with_reducible refine ba ?_) | (with_reducible refine bd ?_) | (with_reducible refine bdn ?_ _) | (with_reducible refine bset ?_ (by first | exact Nat.le_refl _ | omega | (simp; done) | (simp; omega))) | (with_reducible refine bt ?_ (by with_reducible assumption)))
    have bq : Box V q (All.optC c0) 53 := by rw [hV, hq, EC.out]; exact Box.new _ _ _
    have bs : Box V w.heap.size #[.int .i64 fr, .int .i64 tt] 51 := by rw [hV]; repeat (first | (with_reducible assumption) | (with_reducible exact Box.new _ _ _) | (with_reducible refine Box.old ?_) | (with_reducible refine Box.drew ?_) | (with_reducible refine Box.drewN ?_ _) | (with_reducible refine Box.other ?_ (by first | assumption | omega | (simp; omega))) | (with_reducible refine Box.later ?_ (by with_reducible assumption)))
    have hwq : w.heap.size < q := by rw [hq]; exact Nat.lt_of_lt_of_le hz1_0 hb2.size
    rw [← hq, ← hV]
    clear hV hq hb1 hb2 hc1_0 hf1_0 hc2_0 hf2_0
    obtain ⟨N, hN⟩ : ∃ N, N = V.heap.size := ⟨_, rfl⟩
    have hqN : q < N := by omega
    have hVN : N ≤ V.heap.size := by omega
    clear hN
    have HBV := Lib.hid hBV
    have Hbq := Lib.hid bq
    have Hbs := Lib.hid bs
    clear hBV bq bs
    go_loopw [9, 11] (fun out m wr => ∃ (L : List OccV) (c : Option OccV) (p : Option Addr) (cap : Nat), out = .slice p L.length cap ∧ m = .bool c.isSome ∧ wr.ownsRow N 53 3 (.slice p L.length cap) L.length (L.flatMap OccV.cells) ∧ L.length ≤ most.toNat ∧ R = L ++ cont l name tt c (most.toNat - L.length) ∧ Box wr q (All.optC c) 53 ∧ Box wr w.heap.size #[.int .i64 fr, .int .i64 tt] 51 ∧ Below w.heap.size w wr ∧ N ≤ wr.heap.size ∧ (∀ o, c = some o → I64 o.nom)) (fun out _ _ => match out with | .slice _ k _ => most.toNat - k | _ => 0)
    case atStart => exact ⟨[], c0, none, 0, rfl, by rw [Hg0.out], World.ownsRow_nil _ _ _ _, Nat.zero_le _, by rw [HR.out]; rfl, Hbq.out, Hbs.out, HBV.out, hVN, Hi0.out⟩
    case round =>
      obtain ⟨L, c, sp, sc, rfl, rfl, hown, hLm, hRe, hbq, hbs, hB, hNs, hci⟩ := hrel
      have s1 := hbs.cell 1
      have hsl := hbs.lt
      cases c with
      | none =>
        have hRL : R = L := by rw [hRe]; unfold cont; simp
        have Hown := Lib.hid hown
        have HB := Lib.hid hB
        clear hown hB hRe hbq hci
        go_wp2
        go_ret
        exact ⟨_, rfl, by first | exact All.own_mono Hown.out (by omega) | (rw [hRL]; exact All.own_mono Hown.out (by omega)), HB.out⟩
      | some o =>
        have e0 := hbq.cell 0
        have e1 := hbq.cell 1
        have e2 := hbq.cell 2
        unfold All.optC at e0 e1 e2
        rw [show (some o).isSome = true from rfl]
        have Hown := Lib.hid hown
        have HB := Lib.hid hB
        have Hbq1 := Lib.hid hbq
        have Hbs1 := Lib.hid hbs
        have HRe := Lib.hid hRe
        have hoi := hci o rfl
        have Hoi := Lib.hid hoi
        clear hown hB hbq hbs hRe hci hoi
        by_cases hn : o.nom < tt
        · by_cases hm : L.length < most.toNat
          · have hm' : (L.length : Int) < most := by omega
            obtain ⟨i2, y2, k2, eV2, eC2⟩ := All.opt_parts (Occ.nextO l name o)
            have cn2 := fun W (h : Holds W (.slice p len cap) l) => Cn.out W o Hoi.out h
            rw [eV2] at cn2
            obtain ⟨g2, hg2⟩ : ∃ g, g = (Occ.nextO l name o).isSome := ⟨_, rfl⟩
            rw [← hg2] at cn2
            have Cn2 := Lib.hid cn2
            have Hg2 := Lib.hid hg2
            have Ec2 := Lib.hid eC2
            have hqr : q < wr.heap.size := Hbq1.out.lt
            clear cn2 hg2 eC2 eV2
            go_wp2_with (first
              | (at_builtin; refine wpList_append_own _ (by rfl) _ _ 48 (by rfl) N 53 j0 _ 3 24 Tryz.underlying48 hj0 hz0 hz1 hz2 (by rfl) (by decide) _ L.length _ (by rfl) (Hown.out.alloc _) ⟨wr.heap.size, 0, none⟩ 1 1 [.int .i64 o.rule, .int .i64 o.year, .int .i64 o.nom] (by rfl) (by rfl) (All.news_box (cs := #[.int .i64 o.rule, .int .i64 o.year, .int .i64 o.nom]) (t := 53) (Box.new _ _ _)) ?_ ?_ ?_ ?_ ?_; (· intro u hu; simp only [List.mem_cons, List.not_mem_nil, or_false] at hu; rcases hu with rfl | rfl | rfl <;> rfl); (· unfold maxLen; omega); (· omega); (· simp; omega); intro v' w4 hown' hgrow _; obtain ⟨g4, cap4, rfl⟩ := ownsRow_succ hown'; have hx4 : Box w4 q #[.int .i64 o.rule, .int .i64 o.year, .int .i64 o.nom] 53 := ROcc.Box.grown (Box.old Hbq1.out) hgrow (ROcc.own_row Hown.out) hqN; have hs4 : Box w4 w.heap.size #[.int .i64 fr, .int .i64 tt] 51 := ROcc.Box.grown (Box.old Hbs1.out) hgrow (ROcc.own_row Hown.out) (by omega); have hb4 : Below w.heap.size w w4 := (ba HB.out).grown hgrow (ba HB.out).size (fun j e => by have := ROcc.own_row Hown.out j e; omega); have z0 := hx4.cell 0; have z1 := hx4.cell 1; have z2 := hx4.cell 2; have hz4 : q < w4.heap.size := hx4.lt)
              | (go_at_call 63; (with_reducible refine (Cn2.out _ ?_).mono ?_); (· exact HH.out.later hb4); rintro e w5 ⟨rfl, hb5⟩; have hx5 := hx4.later hb5; have zf := fun o => hx5.free o; have yy0 := hx5.cell 0; have yy1 := hx5.cell 1; have yy2 := hx5.cell 2))
            have hN4 : N ≤ w4.heap.size := by
              have h1 := hgrow.size
              simp only [World.size_alloc] at h1
              omega
            have hx6 : Box (((w5.setCell ⟨q, 0, none⟩ (.int .i64 i2)).setCell ⟨q, 1, none⟩ (.int .i64 y2)).setCell ⟨q, 2, none⟩ (.int .i64 k2)) q (All.optC (Occ.nextO l name o)) 53 := by rw [Ec2.out]; exact hx5.set3
            have hs6 : Box (((w5.setCell ⟨q, 0, none⟩ (.int .i64 i2)).setCell ⟨q, 1, none⟩ (.int .i64 y2)).setCell ⟨q, 2, none⟩ (.int .i64 k2)) w.heap.size #[.int .i64 fr, .int .i64 tt] 51 := (((hs4.later hb5).other (by omega)).other (by omega)).other (by omega)
            have hw6 : Below w.heap.size w (((w5.setCell ⟨q, 0, none⟩ (.int .i64 i2)).setCell ⟨q, 1, none⟩ (.int .i64 y2)).setCell ⟨q, 2, none⟩ (.int .i64 k2)) := bset (bset (bset (bt hb4 hb5) (by omega)) (by omega)) (by omega)
            have hgs : ∀ (X : World) (j : Nat) (u : Value), X.ownsRow N 53 3 (.slice (some ⟨g4, 0, none⟩) (L.length + 1) cap4) (L.length + 1) (L.flatMap OccV.cells ++ [.int .i64 o.rule, .int .i64 o.year, .int .i64 o.nom]) → (X.setCell ⟨q, j, none⟩ u).ownsRow N 53 3 (.slice (some ⟨g4, 0, none⟩) (L.length + 1) cap4) (L.length + 1) (L.flatMap OccV.cells ++ [.int .i64 o.rule, .int .i64 o.year, .int .i64 o.nom]) :=
              fun X j u h => h.kept (All.grown_set X q j u) (.inr (All.row_not h hqN).symm)
            have ho6 := hgs _ 2 (.int .i64 k2) (hgs _ 1 (.int .i64 y2) (hgs _ 0 (.int .i64 i2) (ROcc.own_later hown' hb5)))
            have hN6 : N ≤ (((w5.setCell ⟨q, 0, none⟩ (.int .i64 i2)).setCell ⟨q, 1, none⟩ (.int .i64 y2)).setCell ⟨q, 2, none⟩ (.int .i64 k2)).heap.size := by
              have := hb5.size
              simp
              omega
            have hlx : (L ++ [o]).length = L.length + 1 := by simp
            have hfl : L.flatMap OccV.cells ++ [.int .i64 o.rule, .int .i64 o.year, .int .i64 o.nom] = (L ++ [o]).flatMap OccV.cells := by simp [OccV.cells]
            have hRR : R = (L ++ [o]) ++ cont l name tt (Occ.nextO l name o) (most.toNat - (L ++ [o]).length) := by
              rw [HRe.out, hlx, ← inL_cont]
              obtain ⟨d, hd⟩ : ∃ d, most.toNat - L.length = d + 1 := ⟨most.toNat - L.length - 1, by omega⟩
              rw [hd, show most.toNat - (L.length + 1) = d by omega]
              show L ++ (if o.nom < tt then o :: Occ.inL l name tt o d else []) = _
              rw [if_pos hn]
              simp
            go_roundw
            case rel =>
              refine ⟨L ++ [o], Occ.nextO l name o, some ⟨g4, 0, none⟩, cap4, by rw [hlx], by rw [Hg2.out], ?_, by rw [hlx]; omega, hRR, hx6, hs6, hw6, hN6, Hi1.out o⟩
              rw [hlx, ← hfl]
              exact ho6
            case measure => simp; omega
          · have hRL : R = L := by
              rw [HRe.out, show most.toNat - L.length = 0 by omega]
              unfold cont
              simp
            have hm' : most ≤ (L.length : Int) ∨ False := by omega
            replace hm' : most ≤ (L.length : Int) := by omega
            go_wp2
            go_ret
            exact ⟨_, rfl, by first | exact All.own_mono Hown.out (by omega) | (rw [hRL]; exact All.own_mono Hown.out (by omega)), HB.out⟩
        · have hRL : R = L := by
            rw [HRe.out]
            unfold cont
            cases most.toNat - L.length with
            | zero => simp
            | succ d => simp only; rw [if_neg hn]; simp
          go_wp2
          go_ret
          exact ⟨_, rfl, by first | exact All.own_mono Hown.out (by omega) | (rw [hRL]; exact All.own_mono Hown.out (by omega)), HB.out⟩
  · rw [if_neg hlt]
    rw [show decide (fr < tt) = false by simpa using hlt] at cs
    have Cs := Lib.hid cs
    clear cs
    go_enter Tryz.func93, Tryz.ntmps93
    go_wp2_with (go_at_call 136; (with_reducible refine (Cs.out _).mono ?_); rintro e w1 ⟨rfl, hb1⟩; obtain ⟨hc1, hf1⟩ := bcell hb1; have hc1_0 := fun o => hc1 (w.heap.size) o (by first | assumption | omega | (simp; done) | (simp; omega)); have hf1_0 := fun o => hf1 (w.heap.size) o (by first | assumption | omega | (simp; done) | (simp; omega)); clear hc1 hf1; have hz1_0 : w.heap.size < w1.heap.size := (by first | exact sz1 hb1 | exact sz2 hb1 | exact sz3 hb1 | (have := hb1.size; (try simp only [World.size_alloc, World.size_drew] at this); omega)))
    go_ret
    exact ⟨_, rfl, World.ownsRow_nil _ _ _ _, by repeat (first | (with_reducible exact Below.refl _ _) | (with_reducible assumption) | (with_reducible refine ba ?_) | (with_reducible refine bd ?_) | (with_reducible refine bdn ?_ _) | (with_reducible refine bset ?_ (by first | exact Nat.le_refl _ | omega | (simp; done) | (simp; omega))) | (with_reducible refine bt ?_ (by with_reducible assumption)))⟩
theorem occ_len (o : OccV) : o.cells.length = 3 := rfl
end RIn
end Go.Proofs.YtkpjhgkmjcdobaaGreatDoor
