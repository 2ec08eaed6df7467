/-
  slices.Insert at infos, over a row that the call owns.
-/
import Derived.Test.YtjgodnakhbkgeaaOwn
import Derived.Test.YtjgodnakhbkgeaaSlc
import Derived.Test.YtjgodnakhbkgeaaProg
import Derived.WalkKit
import Derived.Deep.RegionLaw
namespace Go.Proofs.Ytjgodnakhbkgeaa
open Go.RowKit NB OW
namespace SlI
theorem info_E : (Try.prog.info? 50).map (fun i => (i.zero, i.size, i.bytes)) = some (some (.agg #[.int .i64 0, .int .i64 0, .int .i64 0, .int .i64 0, .string ⟨#[]⟩]), 5, 48) := by kernel_rfl
set_option maxRecDepth 100000 in
set_option maxHeartbeats 1600000 in
theorem InsertA {w : World} {base : Nat} {v : Value} {n : Nat} {xs : List Value} (hown : w.ownsRow base 50 5 v n xs) (hb : base ≤ w.heap.size) (vb : Nat) (ns : List Value) (hnl : ns.length = 5) (h1 : ∀ u ∈ ns, u.oneCell' = true)
    (hbox : Box w vb ns.toArray 50) (hbig : (n + 1) * 48 ≤ 140737488355328) :
    Calls Try.prog 60 #[v, .int .i64 n, .slice (some ⟨vb, 0, none⟩) 1 1] w fun e w' => ∃ v', e = .returned v' ∧ w'.ownsRow base 50 5 v' (n + 1) (xs ++ ns) ∧ w.grownBy w' v.ownBlock ∧ (v'.ownBlock = v.ownBlock ∨ v'.ownBlock = some w.heap.size) := by
  obtain ⟨i0, hi, hz0, hz1, hz2⟩ := info_parts info_E
  have hnews : ∀ j u, ns[j]? = some u → w.cell? ((⟨vb, 0, none⟩ : Addr).add j) = some u := fun j u hu => by
    rw [addr_add, Nat.zero_add, hbox.cell]; simpa using hu
  have HO := Lib.hid hown
  have HN := Lib.hid hnews
  have HL := Lib.hid hnl
  have H1 := Lib.hid h1
  rcases hown.2 with ⟨rfl, hn0⟩ | ⟨g, cap, cur, rfl, hbg, hg, hnc, hcm, hsz, htk⟩
  · subst hn0
    clear hown hnews hnl h1 hbox
    go_enter Try.func60, Try.ntmps60
    go_wp2_with (at_builtin; refine wpList_append_own_at _ rfl _ _ _ rfl base 50 i0 _ 5 48 Try.underlying60 hi hz0 hz1 hz2 rfl (by decide) _ _ _ rfl HO.out ⟨vb, 0, none⟩ 1 1 ns rfl (by rw [HL.out]) HN.out H1.out (by unfold maxLen; omega) hbig hb ?_; intro v' w1 hown1 hgrow _ hat)
    go_ret
    exact ⟨v', rfl, hown1, hgrow, hat⟩
  · unfold maxLen at hcm
    clear hown hnews hnl h1 hbox hg htk hsz
    by_cases hcn : cap = n
    · subst hcn
      go_enter Try.func60, Try.ntmps60
      go_wp2_with (at_builtin; refine wpList_append_own_at _ rfl _ _ _ rfl base 50 i0 _ 5 48 Try.underlying60 hi hz0 hz1 hz2 rfl (by decide) _ _ _ rfl HO.out ⟨vb, 0, none⟩ 1 1 ns rfl (by rw [HL.out]) HN.out H1.out (by unfold maxLen; omega) hbig hb ?_; intro v' w1 hown1 hgrow _ hat)
      go_ret
      exact ⟨v', rfl, hown1, hgrow, hat⟩
    · go_enter Try.func60, Try.ntmps60
      go_wp2_with (at_builtin; refine wpList_append_own_at _ rfl _ _ _ rfl base 50 i0 _ 5 48 Try.underlying60 hi hz0 hz1 hz2 rfl (by decide) _ _ _ rfl HO.out ⟨vb, 0, none⟩ 1 1 ns rfl (by rw [HL.out]) HN.out H1.out (by unfold maxLen; omega) hbig hb ?_; intro v' w1 hown1 hgrow _ hat)
      go_ret
      exact ⟨v', rfl, hown1, hgrow, hat⟩
theorem overlaps_no (w : World) (vb g : Nat) (ns : List Value) (hnl : ns.length = 5) (hbox : Box w vb ns.toArray 50) (cur : Array Value) (hg : w.heap[g]? = some (.cells cur 50 (0, 0))) (hc : cur.size ≠ 0) (hne : vb ≠ g) (o lb cb : Nat) :
    (callFunc 117 #[.slice (some ⟨vb, 0, none⟩) 1 1, .slice (some ⟨g, o, none⟩) lb cb]).run Try.prog w = .ok (.value (.bool false)) w := by
  rw [run_callFunc_extern Try.func117 (by kernel_rfl) (by kernel_rfl) (by kernel_rfl) (e := Extern.SlicesOverlaps.overlaps #[60, 60] #[4]) (by kernel_rfl),
    Go.Lib.run_overlaps_apart w 60 4 50 Try.underlying60 5 Try.sizeOf50 ⟨vb, 0, none⟩ ⟨g, o, none⟩ 1 1 lb cb hne 50 50 5 cur.size
      (by unfold World.shape?; rw [show w.heap[(⟨vb, 0, none⟩ : Addr).block]? = some (.cells ns.toArray 50) from hbox]; simp [hnl]) (by unfold World.shape?; rw [show w.heap[(⟨g, o, none⟩ : Addr).block]? = some (.cells cur 50 (0, 0)) from hg]) hc (hbox.free 0) (hbox.free 5)]
  rfl
set_option maxRecDepth 100000 in
set_option maxHeartbeats 1600000 in
theorem InsertB {w : World} {base g n cap i : Nat} {cur : Array Value} (hbg : base ≤ g) (hg : w.heap[g]? = some (.cells cur 50 (0, 0))) (hnc : n + 1 ≤ cap) (hcm : cap ≤ maxLen) (hsz : cur.size = cap * 5) (hin : i < n) (h1c : ∀ u ∈ cur.toList.take (n * 5), u.oneCell' = true)
    (vb : Nat) (ns : List Value) (hnl : ns.length = 5) (h1 : ∀ u ∈ ns, u.oneCell' = true) (hbox : Box w vb ns.toArray 50) (hne : vb ≠ g) :
    Calls Try.prog 60 #[.slice (some ⟨g, 0, none⟩) n cap, .int .i64 i, .slice (some ⟨vb, 0, none⟩) 1 1] w fun e w' => ∃ v', e = .returned v' ∧ w'.ownsRow base 50 5 v' (n + 1) ((cur.toList.take (n * 5)).take (i * 5) ++ (ns ++ (cur.toList.take (n * 5)).drop (i * 5))) ∧ w.grownBy w' (some g) ∧ v'.ownBlock = some g := by
  obtain ⟨hcs, hl1, hl2, htk⟩ := splice_lists cur.toList ns 5 n i (by omega) hnl (by rw [Array.length_toList, hsz]; omega)
  have hov := fun o lb cb => overlaps_no w vb g ns hnl hbox cur hg (by rw [hsz]; omega) hne o lb cb
  have hk : (Try.prog.info? 50).map (·.size) = some 5 := by
    obtain ⟨i0, hi, hz0, hz1, hz2⟩ := info_parts info_E
    rw [hi]; simp [hz1]
  obtain ⟨cs, ecs⟩ : ∃ cs, cs = (cur.toList.take (n * 5)).drop (i * 5) := ⟨_, rfl⟩
  rw [← ecs] at hcs hl1 hl2 htk
  obtain ⟨C1, eC1⟩ : ∃ C1, C1 = cur.toList.take ((i + 1) * 5) ++ cs ++ cur.toList.drop ((i + 1) * 5 + cs.length) := ⟨_, rfl⟩
  rw [← eC1] at hl1 hl2 htk
  obtain ⟨C2, eC2⟩ : ∃ C2, C2 = C1.take (i * 5) ++ ns ++ C1.drop (i * 5 + ns.length) := ⟨_, rfl⟩
  rw [← eC2] at hl2 htk
  replace hl1 : C1.length = cap * 5 := hl1.trans (Array.length_toList.trans hsz)
  replace hl2 : C2.length = cap * 5 := hl2.trans (Array.length_toList.trans hsz)
  have hcp1 : ∀ ty d dc sl sc, d = n - i → sl = n + 1 - i → (Builtin.copy_ #[60, 60] ty #[.slice (some ⟨g, (i + 1) * 5, none⟩) d dc, .slice (some ⟨g, i * 5, none⟩) sl sc]).run Try.prog w.drew = .ok (goInt ((n - i : Nat) : Int)) (w.drew.setRow g C1.toArray) := fun ty d dc sl sc hd hs => by
    rw [eC1, hd, hs]
    exact run_copy_k w.drew _ _ ty 50 5 g ((i + 1) * 5) (n - i) dc ⟨g, i * 5, none⟩ (n + 1 - i) sc (n - i) cur 50 cs Try.underlying60 hk hg (by simp only [Nat.min_def]; split <;> omega) hcs
      (fun j u hu => by
        rw [addr_add, show w.drew.cell? _ = w.cell? _ from rfl, cell_of_row w g _ cur _ _ hg]
        rw [ecs, List.getElem?_drop, List.getElem?_take] at hu
        split at hu
        · simpa using hu
        · cases hu)
      (by rw [hcs, hsz]; omega) (fun u hu => h1c u (by rw [ecs] at hu; exact List.mem_of_mem_drop hu))
  have hW1 : (w.drew.setRow g C1.toArray).heap[g]? = some (.cells C1.toArray 50 (0, 0)) := setRow_heap w.drew g cur _ _ _ hg
  have hv1 : ∀ j, (w.drew.setRow g C1.toArray).cell? ⟨vb, j, none⟩ = ns.toArray[j]? := fun j => by
    rw [World.cell?_of_block (w := w) (setRow_other w.drew g vb _ hne)]
    exact hbox.cell j
  obtain ⟨W1, eW1⟩ : ∃ W1, W1 = w.drew.setRow g C1.toArray := ⟨_, rfl⟩
  rw [← eW1] at hcp1 hW1 hv1
  have hcp2 : ∀ ty dc, (Builtin.copy_ #[60, 60] ty #[.slice (some ⟨g, i * 5, none⟩) (n + 1 - i) dc, .slice (some ⟨vb, 0, none⟩) 1 1]).run Try.prog W1 = .ok (goInt 1) (W1.setRow g C2.toArray) := fun ty dc => by
    rw [eC2]
    exact run_copy_k W1 _ _ ty 50 5 g (i * 5) (n + 1 - i) dc ⟨vb, 0, none⟩ 1 1 1 C1.toArray 50 ns Try.underlying60 hk hW1 (by simp only [Nat.min_def]; split <;> omega) (by rw [hnl])
      (fun j u hu => by rw [addr_add, Nat.zero_add, hv1]; simpa using hu)
      (by rw [hnl, List.size_toArray, hl1]; omega) h1
  have hfin : w.grownBy (W1.setRow g C2.toArray) (some g) := grown_grown (grown_drew' (by rw [eW1]; exact grown_setRow _ _ _)) (grown_setRow _ _ _)
  have hown : (W1.setRow g C2.toArray).ownsRow base 50 5 (.slice (some ⟨g, 0, none⟩) (n + 1) cap) (n + 1) ((cur.toList.take (n * 5)).take (i * 5) ++ (ns ++ cs)) := own_setRow hbg hW1 hnc hcm (by simp [hl2]) htk
  rw [← ecs]
  have HF := Lib.hid hfin
  have HO := Lib.hid hown
  have H1 := Lib.hid hcp1
  have H2 := Lib.hid hcp2
  unfold maxLen at hcm
  clear hfin hown hcp1 hcp2 hcs hl1 hl2 htk ecs eC1 eC2 eW1 hW1 hv1 hg hsz h1c hbox hnl h1 hk
  have b1 : (i : Int) < (n : Int) := by omega
  have b2 : (n : Int) + 1 ≤ (cap : Int) := by omega
  have b3 : ¬ ((i : Int) = (n : Int)) := by omega
  have b4 : ¬ (cap = i) := by omega
  have b5 : ¬ (cap = i + 1) := by omega
  have b6 : (i : Int) ≤ (n : Int) + 1 := by omega
  have b7 : ((i : Int) + 1).toNat = i + 1 := by omega
  have b8 : ((n : Int) + 1).toNat = n + 1 := by omega
  have b9 : (0 : Int) ≤ (i : Int) + 1 := by omega
  have b10 : (i : Int) + 1 ≤ (n : Int) + 1 := by omega
  have b11 : IntKind.i64.wrap ((i : Int) + 1) = (i : Int) + 1 := by rw [IntKind.wrap_i64]; omega
  go_enter Try.func60, Try.ntmps60
  go_wp2_with (simp only [hov])
  go_region_law (refine step_copy_run rfl (.tmp 73) (.tmp 76) 60 60 rfl (.slice (some ⟨g, (i + 1) * 5, none⟩) (n - i) (cap - (i + 1))) (.slice (some ⟨g, i * 5, none⟩) (n + 1 - i) (cap - i)) (by simp [Act.eval, Act.put]) (by simp [Act.eval, Act.put]) (H1.out _ _ _ _ _ rfl rfl) ?_)
  go_wp2_with (refine wpList_copy_run _ rfl (.tmp 80) (.tmp 81) 60 60 rfl (.slice (some ⟨g, i * 5, none⟩) (n + 1 - i) (cap - i)) (.slice (some ⟨vb, 0, none⟩) 1 1) rfl rfl (H2.out _ _) ?_)
  go_ret
  exact ⟨_, rfl, HO.out, HF.out, rfl⟩
set_option maxRecDepth 100000 in
set_option maxHeartbeats 3200000 in
theorem InsertC {w : World} {base g n i : Nat} {cur : Array Value} (hbg : base ≤ g) (hg : w.heap[g]? = some (.cells cur 50 (0, 0))) (hsz : cur.size = n * 5) (hin : i < n) (h1c : ∀ u ∈ cur.toList, u.oneCell' = true) (hbig : (n + 1) * 48 ≤ 140737488355328)
    (vb : Nat) (ns : List Value) (hnl : ns.length = 5) (h1 : ∀ u ∈ ns, u.oneCell' = true) (hbox : Box w vb ns.toArray 50) :
    Calls Try.prog 60 #[.slice (some ⟨g, 0, none⟩) n n, .int .i64 i, .slice (some ⟨vb, 0, none⟩) 1 1] w fun e w' => ∃ v', e = .returned v' ∧ w'.ownsRow base 50 5 v' (n + 1) (cur.toList.take (i * 5) ++ (ns ++ cur.toList.drop (i * 5))) ∧ w.grownBy w' (some g) ∧ v'.ownBlock = some w.heap.size := by
  obtain ⟨i0, hi0, hz0, hz1, hz2⟩ := info_parts info_E
  have hk : (Try.prog.info? 50).map (·.size) = some 5 := by rw [hi0]; simp [hz1]
  have hgl : g < w.heap.size := (Array.getElem?_eq_some_iff.1 hg).1
  have hvl := hbox.lt
  obtain ⟨olds, eo⟩ : ∃ o, o = cur.toList.take (i * 5) := ⟨_, rfl⟩
  have hol : olds.length = i * 5 := by rw [eo, List.length_take, Array.length_toList, hsz]; omega
  obtain ⟨cs, ecs⟩ : ∃ o, o = cur.toList.drop (i * 5) := ⟨_, rfl⟩
  have hcs : cs.length = (n - i) * 5 := by rw [ecs, List.length_drop, Array.length_toList, hsz]; omega
  have hold : (Builtin.firstCells i0.size i (.slice (some ⟨g, 0, none⟩) i n)).run Try.prog w.drew = .ok olds.toArray w.drew := by
    rw [hz1]
    refine run_firstCells_some w.drew 5 i ⟨g, 0, none⟩ i n olds hol (fun j v hj => ?_)
    rw [addr_add, Nat.zero_add, show w.drew.cell? _ = w.cell? _ from rfl, cell_of_row w g _ cur _ _ hg]
    rw [eo, List.getElem?_take] at hj
    split at hj
    · simpa using hj
    · cases hj
  obtain ⟨Z, eZ⟩ : ∃ Z : Array Value, Z = #[.int .i64 0, .int .i64 0, .int .i64 0, .int .i64 0, .string ⟨#[]⟩] := ⟨_, rfl⟩
  rw [← eZ] at hz0
  have hZs : Z.size = 5 := by rw [eZ]; rfl
  have hrz : ∀ ty, (Builtin.append_ #[60, 3] ty #[.slice (some ⟨g, 0, none⟩) i n, .int .i64 ((n : Int) + 1 - (i : Int))]).run Try.prog w =
      .ok (.slice (some ⟨w.heap.size, 0, none⟩) (n + 1) (grownCap w (n + 1) n 50)) (w.drew.alloc (.cells (olds.toArray ++ Builtin.zeroCells Z (n + 1 - i) ++ Builtin.zeroCells Z (grownCap w (n + 1) n 50 - (n + 1))) 50)) := fun ty => by
    have h := Go.Lib.run_append_grow_zeros w 60 3 ty 50 i0 (.agg Z) .i64 .i64 Try.underlying60 Try.underlying3 hi0 hz0 (some ⟨g, 0, none⟩) i n olds hold (n + 1 - i) (by omega) (by omega) (by omega) (by omega) (by rw [hz2]; omega)
      (by rw [hz2, show i + (n + 1 - i) = n + 1 by omega]; exact growslice_fits (by omega) (by omega))
    rw [show i + (n + 1 - i) = n + 1 by omega] at h
    rw [show (n : Int) + 1 - (i : Int) = ((n + 1 - i : Nat) : Int) by omega]
    exact h
  obtain ⟨G, eG⟩ : ∃ G, G = grownCap w (n + 1) n 50 := ⟨_, rfl⟩
  have hGn : n + 1 ≤ G := by rw [eG]; exact grownCap_ge w _ _ _
  have hGm : G ≤ maxLen := by rw [eG]; exact grownCap_le_maxLen w (n + 1) n _ (by unfold maxLen; omega)
  rw [← eG] at hrz
  obtain ⟨ROW, eR⟩ : ∃ R : Array Value, R = olds.toArray ++ Builtin.zeroCells Z (n + 1 - i) ++ Builtin.zeroCells Z (G - (n + 1)) := ⟨_, rfl⟩
  rw [← eR] at hrz
  have hRs : ROW.size = G * 5 := by
    rw [eR]
    simp only [Array.size_append, List.size_toArray, size_zeroCells, hZs, hol]
    omega
  have hRt : ROW.toList.take (i * 5) = olds := by
    rw [eR, Array.toList_append, Array.toList_append, List.append_assoc, List.take_append_of_le_length (by simp [hol]), List.take_of_length_le (by simp [hol])]
  clear eR eG eZ hZs hold
  obtain ⟨N, eN⟩ : ∃ N, N = w.heap.size := ⟨_, rfl⟩
  have hHN : ∀ W : World, W.heap = (w.drew.alloc (.cells ROW 50)).heap → W.heap[N]? = some (.cells ROW 50 (0, 0)) := fun W h => by rw [h, eN]; exact heap_alloc_new w.drew _
  have hHv : ∀ W : World, W.heap = (w.drew.alloc (.cells ROW 50)).heap → ∀ j, W.cell? ⟨vb, j, none⟩ = ns.toArray[j]? := fun W h j => by
    rw [World.cell?_of_block (w := w) (by rw [h]; exact heap_alloc_old w.drew _ hvl)]; exact hbox.cell j
  obtain ⟨hl1, hl2, htk⟩ := splice_new ROW.toList olds ns cs 5 n i (by omega) hol hnl hcs (by rw [Array.length_toList, hRs]; omega) hRt
  obtain ⟨C1, eC1⟩ : ∃ C1, C1 = ROW.toList.take (i * 5) ++ ns ++ ROW.toList.drop (i * 5 + ns.length) := ⟨_, rfl⟩
  rw [← eC1] at hl1 hl2 htk
  obtain ⟨C2, eC2⟩ : ∃ C2, C2 = C1.take ((i + 1) * 5) ++ cs ++ C1.drop ((i + 1) * 5 + cs.length) := ⟨_, rfl⟩
  rw [← eC2] at hl2 htk
  replace hl1 : C1.length = G * 5 := hl1.trans (Array.length_toList.trans hRs)
  replace hl2 : C2.length = G * 5 := hl2.trans (Array.length_toList.trans hRs)
  have hcp1 : ∀ W : World, W.heap = (w.drew.alloc (.cells ROW 50)).heap → ∀ ty dc, (Builtin.copy_ #[60, 60] ty #[.slice (some ⟨N, i * 5, none⟩) (n + 1 - i) dc, .slice (some ⟨vb, 0, none⟩) 1 1]).run Try.prog W = .ok (goInt 1) (W.setRow N C1.toArray) := fun W hW ty dc => by
    rw [eC1]
    exact run_copy_k W _ _ ty 50 5 N (i * 5) (n + 1 - i) dc ⟨vb, 0, none⟩ 1 1 1 ROW 50 ns Try.underlying60 hk (hHN W hW) (by simp only [Nat.min_def]; split <;> omega) (by rw [hnl])
      (fun j u hu => by rw [addr_add, Nat.zero_add, hHv W hW]; simpa using hu)
      (by rw [hnl, hRs]; omega) h1
  have hH2 : ∀ W : World, W.heap = ((w.drew.alloc (.cells ROW 50)).setRow N C1.toArray).heap → W.heap[N]? = some (.cells C1.toArray 50 (0, 0)) := fun W h => by
    rw [h]; exact setRow_heap _ N ROW _ _ _ (hHN _ rfl)
  have hHg : ∀ W : World, W.heap = ((w.drew.alloc (.cells ROW 50)).setRow N C1.toArray).heap → ∀ j, W.cell? ⟨g, j, none⟩ = cur[j]? := fun W h j => by
    rw [World.cell?_of_block (w := w) (by rw [h, setRow_other _ N g _ (by omega)]; exact heap_alloc_old w.drew _ hgl)]
    exact cell_of_row w g j cur _ _ hg
  have hcp2 : ∀ W : World, W.heap = ((w.drew.alloc (.cells ROW 50)).setRow N C1.toArray).heap → ∀ ty dc sc, (Builtin.copy_ #[60, 60] ty #[.slice (some ⟨N, (i + 1) * 5, none⟩) (n - i) dc, .slice (some ⟨g, i * 5, none⟩) (n - i) sc]).run Try.prog W = .ok (goInt ((n - i : Nat) : Int)) (W.setRow N C2.toArray) := fun W hW ty dc sc => by
    rw [eC2]
    exact run_copy_k W _ _ ty 50 5 N ((i + 1) * 5) (n - i) dc ⟨g, i * 5, none⟩ (n - i) sc (n - i) C1.toArray 50 cs Try.underlying60 hk (hH2 W hW) (by simp only [Nat.min_def]; split <;> omega) hcs
      (fun j u hu => by
        rw [addr_add, hHg W hW]
        rw [ecs, List.getElem?_drop] at hu
        simpa using hu)
      (by rw [hcs, List.size_toArray, hl1]; omega) (fun u hu => h1c u (by rw [ecs] at hu; exact List.mem_of_mem_drop hu))
  have hfin : ∀ W : World, W.heap = ((w.drew.alloc (.cells ROW 50)).setRow N C1.toArray).heap → W.os = w.os → W.tape = w.tape → W.output = w.output → (W.setRow N C2.toArray).ownsRow base 50 5 (.slice (some ⟨N, 0, none⟩) (n + 1) G) (n + 1) (olds ++ (ns ++ cs)) ∧ w.grownBy (W.setRow N C2.toArray) (some g) := fun W h q1 q2 q3 => by
    refine ⟨own_setRow (by omega) (hH2 W h) hGn hGm (by simp [hl2]) htk, ⟨q1, q2, q3, ?_, fun k hk _ => ?_⟩⟩
    · simp [World.setRow, h]
    · rw [setRow_other _ N k _ (by omega), h, setRow_other _ N k _ (by omega)]
      exact heap_alloc_old w.drew _ hk
  rw [← eo, ← ecs, ← eN]
  rw [← eN] at hrz
  have HF := Lib.hid hfin
  have H0 := Lib.hid hrz
  have H1 := Lib.hid hcp1
  have H2 := Lib.hid hcp2
  unfold maxLen at hGm
  clear hfin hrz hcp1 hcp2 hcs hl1 hl2 htk ecs eC1 eC2 hHN hHv hH2 hHg hg hsz h1c hbox hnl h1 hk eN eo hol hRs hRt hz0 hz1 hz2 hi0 hvl hgl
  have b1 : (i : Int) < (n : Int) := by omega
  have b2 : ¬ ((n : Int) + 1 ≤ (n : Int)) := by omega
  have b3 : ¬ ((i : Int) = (n : Int)) := by omega
  have b4 : ¬ (n = i) := by omega
  have b4' : ¬ (G = i) := by omega
  have b5 : ¬ (G = i + 1) := by omega
  have b6 : (i : Int) ≤ (n : Int) + 1 := by omega
  have b7 : ((i : Int) + 1).toNat = i + 1 := by omega
  have b8 : (i : Int) ≤ (n : Int) := by omega
  have b9 : (0 : Int) ≤ (i : Int) + 1 := by omega
  have b10 : (i : Int) + 1 ≤ (n : Int) + 1 := by omega
  have b11 : IntKind.i64.wrap ((i : Int) + 1) = (i : Int) + 1 := by rw [IntKind.wrap_i64]; omega
  go_enter Try.func60, Try.ntmps60
  go_wp2_with (first
    | (at_builtin; refine Go.Lib.wpList_append_run _ rfl _ _ _ _ rfl _ _ rfl rfl _ _ (H0.out _) ?_)
    | (refine wpList_copy_run _ rfl (.tmp 43) (.tmp 44) 60 60 rfl (.slice (some ⟨N, i * 5, none⟩) (n + 1 - i) (G - i)) (.slice (some ⟨vb, 0, none⟩) 1 1) rfl rfl (H1.out _ rfl _ _) ?_))
  go_region_law (refine step_copy_run rfl (.tmp 50) (.tmp 53) 60 60 rfl (.slice (some ⟨N, (i + 1) * 5, none⟩) (n - i) (G - (i + 1))) (.slice (some ⟨g, i * 5, none⟩) (n - i) (n - i)) (by simp [Act.eval, Act.put]) (by simp [Act.eval, Act.put]) (H2.out _ (by rfl) _ _ _) ?_)
  go_wp2
  go_ret
  refine ⟨_, rfl, ?_, ?_, rfl⟩
  · exact (HF.out _ (by rfl) (by rfl) (by rfl) (by rfl)).1
  · exact (HF.out _ (by rfl) (by rfl) (by rfl) (by rfl)).2
/-- slices.Insert of one element, over a row that the call owns -/
theorem Insert {w : World} {base : Nat} {v : Value} {n : Nat} {xs : List Value} (hown : w.ownsRow base 50 5 v n xs) (hb : base ≤ w.heap.size) (h1x : ∀ u ∈ xs, u.oneCell' = true) (i : Nat) (hi : i ≤ n) (vb : Nat) (ns : List Value) (hnl : ns.length = 5) (h1 : ∀ u ∈ ns, u.oneCell' = true)
    (hbox : Box w vb ns.toArray 50) (hne : v.ownBlock ≠ some vb) (hbig : (n + 1) * 48 ≤ 140737488355328) :
    Calls Try.prog 60 #[v, .int .i64 i, .slice (some ⟨vb, 0, none⟩) 1 1] w fun e w' => ∃ v', e = .returned v' ∧ w'.ownsRow base 50 5 v' (n + 1) (xs.take (i * 5) ++ (ns ++ xs.drop (i * 5))) ∧ w.grownBy w' v.ownBlock ∧ (v'.ownBlock = v.ownBlock ∨ v'.ownBlock = some w.heap.size) := by
  by_cases hin : i = n
  · subst hin
    have e : xs.take (i * 5) ++ (ns ++ xs.drop (i * 5)) = xs ++ ns := by
      rw [List.take_of_length_le (by rw [hown.1]; exact Nat.le_refl _), List.drop_eq_nil_of_le (by rw [hown.1]; exact Nat.le_refl _), List.append_nil]
    rw [e]
    exact InsertA hown hb vb ns hnl h1 hbox hbig
  · rcases hown.2 with ⟨rfl, hn0⟩ | ⟨g, cap, cur, rfl, hbg, hg, hnc, hcm, hsz, htk⟩
    · omega
    · by_cases hc : n + 1 ≤ cap
      · refine (InsertB hbg hg hc hcm hsz (by omega) (by rw [htk]; exact h1x) vb ns hnl h1 hbox (by rintro rfl; exact hne rfl)).mono ?_
        rintro e w' ⟨v', rfl, h2, h3, h4⟩
        rw [htk] at h2
        exact ⟨v', rfl, h2, h3, .inl h4⟩
      · obtain rfl : cap = n := by omega
        have e : cur.toList = xs := by rw [← htk, List.take_of_length_le (by rw [Array.length_toList, hsz]; exact Nat.le_refl _)]
        refine (InsertC hbg hg hsz (by omega) (by rw [e]; exact h1x) hbig vb ns hnl h1 hbox).mono ?_
        rintro e' w' ⟨v', rfl, h2, h3, h4⟩
        rw [e] at h2
        exact ⟨v', rfl, h2, h3, .inr h4⟩
end SlI
end Go.Proofs.Ytjgodnakhbkgeaa
