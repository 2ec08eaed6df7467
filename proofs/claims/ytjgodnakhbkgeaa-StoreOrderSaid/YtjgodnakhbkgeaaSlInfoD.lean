/-
  slices.Delete of one info, and slices.Clone of infos; '==' of infos.
-/
import Derived.Test.YtjgodnakhbkgeaaSlInfo
import Derived.Test.YtjgodnakhbkgeaaStoreP
import Derived.Lib.SliceRun
import Derived.Laws.StructEq
namespace Go.Proofs.Ytjgodnakhbkgeaa
open Go.RowKit NB OW
namespace SlI
set_option maxRecDepth 100000 in
set_option maxHeartbeats 3200000 in
theorem DeleteB {w : World} {base g n cap i : Nat} {cur : Array Value} (hbg : base ≤ g) (hg : w.heap[g]? = some (.cells cur 50 (0, 0))) (hnc : n ≤ cap) (hcm : cap ≤ maxLen) (hsz : cur.size = cap * 5) (hin : i < n) (h1c : ∀ u ∈ cur.toList.take (n * 5), u.oneCell' = true) :
    Calls Try.prog 64 #[.slice (some ⟨g, 0, none⟩) n cap, .int .i64 i, .int .i64 ((i : Int) + 1)] w fun e w' => ∃ v', e = .returned v' ∧ w'.ownsRow base 50 5 v' (i + (n - (i + 1))) ((cur.toList.take (n * 5)).take (i * 5) ++ (cur.toList.take (n * 5)).drop ((i + 1) * 5)) ∧ w.grownBy w' (some g) ∧ v'.ownBlock = some g := by
  obtain ⟨i0, hi0, hz0, hz1, hz2⟩ := info_parts info_E
  obtain ⟨Z, eZ⟩ : ∃ Z : Array Value, Z = #[.int .i64 0, .int .i64 0, .int .i64 0, .int .i64 0, .string ⟨#[]⟩] := ⟨_, rfl⟩
  have hZs : Z.size = 5 := by rw [eZ]; rfl
  have hZ1 : ∀ v ∈ Z.toList, v.oneCell' = true := by rw [eZ]; intro v hv; simp at hv; rcases hv with rfl | rfl <;> rfl
  have hzv : ∀ w, (zeroValue 50).run Try.prog w = .ok (.agg Z) w := by rw [eZ]; exact Try.zeroValue50
  have hzl : (Builtin.zeroCells Z 1).toList.length = 5 := by rw [Array.length_toList, size_zeroCells, hZs]
  obtain ⟨hcs, hl1, hl2, htk⟩ := splice_del cur.toList (Builtin.zeroCells Z 1).toList 5 n i hin hzl (by rw [Array.length_toList, hsz]; omega)
  obtain ⟨cs, ecs⟩ : ∃ cs, cs = (cur.toList.take (n * 5)).drop ((i + 1) * 5) := ⟨_, rfl⟩
  rw [← ecs] at hcs hl1 hl2 htk
  obtain ⟨C1, eC1⟩ : ∃ C1, C1 = cur.toList.take (i * 5) ++ cs ++ cur.toList.drop (i * 5 + cs.length) := ⟨_, rfl⟩
  rw [← eC1] at hl1 hl2 htk
  obtain ⟨C2, eC2⟩ : ∃ C2, C2 = C1.take ((i + (n - (i + 1))) * 5) ++ (Builtin.zeroCells Z 1).toList ++ C1.drop ((i + (n - (i + 1))) * 5 + (Builtin.zeroCells Z 1).toList.length) := ⟨_, rfl⟩
  rw [← eC2] at hl2 htk
  replace hl1 : C1.length = cap * 5 := hl1.trans (Array.length_toList.trans hsz)
  replace hl2 : C2.length = cap * 5 := hl2.trans (Array.length_toList.trans hsz)
  have hs1 : w.drew.setCells g (0 + i * 5) cs = w.drew.setRow g C1.toArray := by
    rw [Nat.zero_add, eC1]
    exact setCells_row g 50 cs (i * 5) cur w.drew hg (by rw [hcs, hsz]; omega)
  obtain ⟨A, hA, hsrc⟩ : ∃ A : Addr, (if cap = i + 1 then some (⟨g, 0, none⟩ : Addr) else some ⟨g, (i + 1) * 5, none⟩) = some A ∧ Hid (∀ t u, cs[t]? = some u → w.drew.cell? (A.add t) = some u) := by
    refine ⟨if cap = i + 1 then ⟨g, 0, none⟩ else ⟨g, (i + 1) * 5, none⟩, by split <;> rfl, fun t u hu => ?_⟩
    have ht := (List.getElem?_eq_some_iff.1 hu).1
    rw [hcs] at ht
    rw [if_neg (by omega), addr_add, show w.drew.cell? _ = w.cell? _ from rfl, cell_of_row w g _ cur _ _ hg]
    rw [ecs, List.getElem?_drop, List.getElem?_take] at hu
    split at hu
    · simpa using hu
    · cases hu
  have hspare : Hid (∀ t, t < cs.length → (w.drew.cell? ⟨g, 0 + i * 5 + t, none⟩).isSome = true ∧ w.drew.frozen? ⟨g, 0 + i * 5 + t, none⟩ = false) := fun t ht => by
    rw [hcs] at ht
    refine ⟨?_, ?_⟩
    · rw [show w.drew.cell? _ = w.cell? _ from rfl, cell_of_row w g _ cur _ _ hg, Array.getElem?_eq_getElem (by rw [hsz]; omega)]; rfl
    · exact frozen_of_row w g _ cur _ hg
  have h1cs : Hid (∀ u ∈ cs, u.oneCell' = true) := fun u hu => h1c u (by rw [ecs] at hu; exact List.mem_of_mem_drop hu)
  have hW1 : (w.drew.setRow g C1.toArray).heap[g]? = some (.cells C1.toArray 50 (0, 0)) := setRow_heap w.drew g cur _ _ _ hg
  obtain ⟨W1, eW1⟩ : ∃ W1, W1 = w.drew.setRow g C1.toArray := ⟨_, rfl⟩
  rw [← eW1] at hW1 hs1
  have hcl : ∀ ty d dc, d = 1 → (Builtin.clear_ #[60] ty #[.slice (some ⟨g, (i + (n - (i + 1))) * 5, none⟩) d dc]).run Try.prog W1 = .ok (.tuple #[]) (W1.setRow g C2.toArray) := fun ty d dc hd => by
    rw [eC2, hd, hzl]
    exact run_clear_k W1 60 50 ty (.agg Z) 5 Try.underlying60 hzv hZs hZ1 g ((i + (n - (i + 1))) * 5) 1 dc (by decide) C1.toArray 50 hW1 (by rw [List.size_toArray, hl1]; omega)
  have hfin : w.grownBy (W1.setRow g C2.toArray) (some g) := grown_grown (grown_drew' (by rw [eW1]; exact grown_setRow _ _ _)) (grown_setRow _ _ _)
  have hown : (W1.setRow g C2.toArray).ownsRow base 50 5 (.slice (some ⟨g, 0, none⟩) (i + (n - (i + 1))) cap) (i + (n - (i + 1))) ((cur.toList.take (n * 5)).take (i * 5) ++ cs) := own_setRow hbg hW1 (by omega) hcm (by simp [hl2]) htk
  rw [← ecs]
  have HF := Lib.hid hfin
  have HO := Lib.hid hown
  have HS := Lib.hid hs1
  have HCS := Lib.hid hcs
  have HI := Lib.hid hi0
  have HZ := Lib.hid hz1
  have hcl' := fun ty => hcl ty (n - (i + (n - (i + 1)))) (cap - (i + (n - (i + 1)))) (by omega)
  unfold maxLen at hcm
  clear hfin hown hcl hcs hl1 hl2 htk ecs eC1 eC2 eW1 hW1 hg hsz h1c hs1 hzl hzv hZs hZ1 eZ hz0 hz1 hz2 hi0
  have b1 : (i : Int) < (n : Int) := by omega
  have b3 : ¬ ((i : Int) = (i : Int) + 1) := by omega
  have b4 : ¬ (cap = i) := by omega
  have b6 : (i : Int) + 1 ≤ (n : Int) := by omega
  have b7 : ((i : Int) + 1).toNat = i + 1 := by omega
  have b8 : (i : Int) ≤ (i : Int) + 1 := by omega
  have b9 : (0 : Int) ≤ (i : Int) + 1 := by omega
  have b10 : (n : Int) ≤ (cap : Int) := by omega
  have b11 : ¬ (cap = i + (n - (i + 1))) := by omega
  have b12 : i ≤ cap := by omega
  go_enter Try.func64, Try.ntmps64
  go_wp2_with fail
  go_region_law (refine step_append_room rfl (.tmp 22) (.tmp 25) 60 rfl 50 i0 5 Try.underlying60 HI.out HZ.out g 0 i cap (by simp [Act.eval, Act.put]) A (n - (i + 1)) (cap - (i + 1)) cs (by simp [Act.eval, Act.put]) HCS.out hsrc.out h1cs.out (by omega) hspare.out ?_; rw [HS.out])
  go_wp2
  go_ret
  exact ⟨_, rfl, HO.out, HF.out, rfl⟩
theorem Delete {w : World} {base : Nat} {v : Value} {n : Nat} {xs : List Value} (hown : w.ownsRow base 50 5 v n xs) (h1x : ∀ u ∈ xs, u.oneCell' = true) (i : Nat) (hi : i < n) :
    Calls Try.prog 64 #[v, .int .i64 i, .int .i64 ((i : Int) + 1)] w fun e w' => ∃ v', e = .returned v' ∧ w'.ownsRow base 50 5 v' (n - 1) (xs.take (i * 5) ++ xs.drop ((i + 1) * 5)) ∧ w.grownBy w' v.ownBlock ∧ v'.ownBlock = v.ownBlock := by
  rcases hown.2 with ⟨rfl, hn0⟩ | ⟨g, cap, cur, rfl, hbg, hg, hnc, hcm, hsz, htk⟩
  · omega
  · refine (DeleteB hbg hg hnc hcm hsz hi (by rw [htk]; exact h1x)).mono ?_
    rintro e w' ⟨v', rfl, h2, h3, h4⟩
    rw [htk, show i + (n - (i + 1)) = n - 1 by omega] at h2
    exact ⟨v', rfl, h2, h3, h4⟩
theorem info_one (x : InfoV) : ∀ u ∈ x.cells, u.oneCell' = true := by
  intro u hu
  unfold InfoV.cells at hu
  simp only [List.mem_cons, List.not_mem_nil, or_false] at hu
  rcases hu with rfl | rfl | rfl | rfl | rfl <;> rfl
theorem CloneA (w : World) (news : List Value) (n : Nat) (hl : news.length = n * 5) (h1 : ∀ u ∈ news, u.oneCell' = true) (hn : n ≤ 100000) (c : Nat) (ad : Addr) (hc : ∀ j u, news[j]? = some u → w.cell? (ad.add j) = some u) : Calls Try.prog 66 #[.slice (some ad) n c] w fun e w' => ∃ v', e = .returned v' ∧ w'.ownsRow w.heap.size 50 5 v' n news ∧ Below w.heap.size w w' := by
  obtain ⟨i0, hi, hz0, hz1, hz2⟩ := info_parts info_E
  have q22 : ∀ (w : World) (a : Option Addr) (n c n' c' : Nat), (binOp .eql 60 (.slice a n c) (.slice none n' c')).run Try.prog w = .ok (.bool a.isNone) w := fun w a n c n' c' => Go.Lib.run_eql_slice_nil w _ _ a n c n' c' Try.underlying60
  have A := Lib.hid hc
  have H2 := Lib.hid hl
  have H1 := Lib.hid h1
  clear hc hl h1
  go_enter Try.func66, Try.ntmps66
  go_wp2_with (at_builtin; refine wpList_append_own _ rfl _ _ 60 rfl w.heap.size 50 i0 _ 5 48 Try.underlying60 hi hz0 hz1 hz2 rfl (by decide) _ _ _ rfl (World.ownsRow_made w #[] 0 (Nat.le_refl _) (Nat.zero_le _) (by simp)) ad n c news rfl ?qc1 ?qc2 ?qc3 ?qc4 ?qc5 ?qc6 ?_)
  case qc1 => exact H2.out
  case qc2 =>
    intro j u hj
    exact Go.Lib.cell?_alloc_some _ (A.out j u hj)
  case qc3 => exact H1.out
  case qc4 => rw [Nat.zero_add]; unfold maxLen; omega
  case qc5 => rw [Nat.zero_add]; omega
  case qc6 => simp
  intro v' w1 hown hgrow hnil
  go_wp2
  go_ret
  refine ⟨v', rfl, by simpa using hown, ?_⟩
  exact ((Below.refl _ w).alloc (Nat.le_refl _) _).grown hgrow (by simp) (by intro k hk; simp [Value.ownBlock] at hk; omega)
/-- slices.Clone of a row that the call owns -/
theorem Clone {w : World} {base : Nat} {v : Value} {n : Nat} {xs : List Value} (hown : w.ownsRow base 50 5 v n xs) (h1x : ∀ u ∈ xs, u.oneCell' = true) (hn : n ≤ 100000) :
    Calls Try.prog 66 #[v] w fun e w' => ∃ v', e = .returned v' ∧ w'.ownsRow w.heap.size 50 5 v' n xs ∧ Below w.heap.size w w' := by
  rcases hown.2 with ⟨rfl, hn0⟩ | ⟨g, cap, cur, rfl, hbg, hg, hnc, hcm, hsz, htk⟩
  · have q22 : ∀ (w : World) (a : Option Addr) (n c n' c' : Nat), (binOp .eql 60 (.slice a n c) (.slice none n' c')).run Try.prog w = .ok (.bool a.isNone) w := fun w a n c n' c' => Go.Lib.run_eql_slice_nil w _ _ a n c n' c' Try.underlying60
    have hx : xs = [] := List.eq_nil_of_length_eq_zero (by rw [hown.1, hn0])
    subst hn0 hx
    clear hown h1x
    go_enter Try.func66, Try.ntmps66
    go_wp2
    go_ret
    exact ⟨_, rfl, World.ownsRow_nil _ _ _ _, by repeat (first | (with_reducible exact Below.refl _ _) | (with_reducible assumption) | (with_reducible refine ba ?_) | (with_reducible refine bd ?_) | (with_reducible refine bdn ?_ _) | (with_reducible refine bset ?_ (by first | exact Nat.le_refl _ | omega | (simp; done) | (simp; omega))) | (with_reducible refine bt ?_ (by with_reducible assumption)))⟩
  · exact CloneA w xs n hown.1 h1x hn cap ⟨g, 0, none⟩ (hown.cells (g := g) rfl)
theorem eq_ways (x y : InfoV) (w : World) : (if x.fr = y.fr then
    if x.th = y.th then
      if x.off = y.off then
        if x.save = y.save then
          if x.abbr.toList = y.abbr.toList then Result.ok (Value.bool true) w else Result.ok (Value.bool false) w
        else Result.ok (Value.bool false) w
      else Result.ok (Value.bool false) w
    else Result.ok (Value.bool false) w
  else Result.ok (Value.bool false) w) = Result.ok (Value.bool (decide (x = y))) w := by
  by_cases h : x = y
  · subst h; simp
  · have hk : ¬ (x.fr = y.fr ∧ x.th = y.th ∧ x.off = y.off ∧ x.save = y.save ∧ x.abbr.toList = y.abbr.toList) := by
      rintro ⟨a, b, c, d, e⟩
      apply h
      cases x; cases y
      simp only at a b c d e
      subst a b c d
      rw [toList_inj e]
    rw [decide_eq_false h]
    split
    · split
      · split
        · split
          · split
            · exact absurd ⟨by assumption, by assumption, by assumption, by assumption, by assumption⟩ hk
            · rfl
          · rfl
        · rfl
      · rfl
    · rfl
/-- '==' and '!=' of two infos -/
theorem eql (x y : InfoV) (w : World) : (binOp .eql 50 (.agg x.cells.toArray) (.agg y.cells.toArray)).run Try.prog w = .ok (.bool (decide (x = y))) w := by
  have u2 := Try.underlying2
  have hS : Try.prog.underlying 50 = some (.struct (Try.prog.fieldsOf 50)) := by kernel_rfl
  have hp : Try.prog.stoodInHeld 50 = false := by kernel_rfl
  unfold InfoV.cells
  rw [run_eql_struct, show (10000 : Nat) = 9999 + 1 from rfl, run_equalIn_agg w 9999 50 _ _ hS hp]
  simp only [Program.fieldsOf, Try.underlying50]
  go_simp
  exact eq_ways x y w
theorem neq (x y : InfoV) (w : World) : (binOp .neq 50 (.agg x.cells.toArray) (.agg y.cells.toArray)).run Try.prog w = .ok (.bool (!decide (x = y))) w := by
  have u2 := Try.underlying2
  have hS : Try.prog.underlying 50 = some (.struct (Try.prog.fieldsOf 50)) := by kernel_rfl
  have hp : Try.prog.stoodInHeld 50 = false := by kernel_rfl
  unfold InfoV.cells
  rw [run_neq_struct, show (10000 : Nat) = 9999 + 1 from rfl, run_equalIn_agg w 9999 50 _ _ hS hp]
  simp only [Program.fieldsOf, Try.underlying50]
  go_simp
  have h := eq_ways x y w
  by_cases e : x = y
  · subst e; simp
  · have hk : ¬ (x.fr = y.fr ∧ x.th = y.th ∧ x.off = y.off ∧ x.save = y.save ∧ x.abbr.toList = y.abbr.toList) := by
      rintro ⟨a, b, c, d, e'⟩
      rw [if_pos a, if_pos b, if_pos c, if_pos d, if_pos e', decide_eq_false e] at h
      cases h
    rw [decide_eq_false e]
    split
    · split
      · split
        · split
          · split
            · exact absurd ⟨by assumption, by assumption, by assumption, by assumption, by assumption⟩ hk
            · rfl
          · rfl
        · rfl
      · rfl
    · rfl
end SlI
end Go.Proofs.Ytjgodnakhbkgeaa
