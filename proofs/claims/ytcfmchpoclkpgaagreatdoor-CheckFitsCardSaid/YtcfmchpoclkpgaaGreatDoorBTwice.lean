import Derived.Test.YtcfmchpoclkpgaaGreatDoorG19
namespace Go.Proofs.YtcfmchpoclkpgaaGreatDoor
open Go.RowKit NB
namespace BkW
open RBk (pairV mem twiceV zn)
def Met (L : List Mp.Ent) (l : List ByteArray) : Prop := ∀ s, Mp.get L s = if mem s l = true then some (.bool true) else none
theorem mem_snoc (s x : ByteArray) (l : List ByteArray) : mem s (l ++ [x]) = (mem s l || decide (x = s)) := by unfold mem;rw [List.any_append];simp
theorem Met.put {L : List Mp.Ent} {l : List ByteArray} (h : Met L l) (x : ByteArray) : Met (Mp.put L x (.bool true)) (l ++ [x]) := fun s => by
  rw [Mp.get_put, mem_snoc, h s]
  by_cases e : x = s
  · simp [e]
  · simp [e]
theorem g2 {a b c : World} {k : Nat} (h : a.grownBy b (some k)) (h' : b.grownBy c (some k)) : a.grownBy c (some k) := h.trans h'

set_option maxRecDepth 100000 in
theorem name2 {w0 w : World} {t : TabV} (h : HoldsT w0 t) (hB : Below w0.heap.size w0 w) {tb : Nat} (htb : Box w tb #[t.rv, t.zv, t.lv] 26) {j : Nat} {y : ZoneV} (hy : t.zs[j]? = some y) :
    Calls Tryz.prog 40 #[.int .i64 j, .pointer (some ⟨tb, 0, none⟩)] w fun e w' => e = .returned (.string y.name) ∧ w = w' := by
  have c0 := htb.cell
  obtain ⟨p, cap, e1, hp⟩ := h.z.pk
  obtain ⟨g1, o1, rfl, hg1, d1⟩ := hp j y hy
  replace d1 := fun i u hu => (hB.cell (p := ⟨g1, o1 + j * 2 + i, none⟩) hg1).trans (d1 i u hu)
  have x0 := d1 0 _ rfl
  have x1 := d1 1 _ rfl
  rw [Nat.add_zero] at x0
  have q1 : (j : Int) < (t.zs.length : Int) := by have := (List.getElem?_eq_some_iff.1 hy).1;omega
  rw [e1] at c0
  clear e1 hp d1 hy htb h
  generalize t.zs.length = n at *
  go_enter Tryz.func40, Tryz.ntmps40
  go_wp2
  go_ret
  exact ⟨rfl, rfl⟩
set_option maxRecDepth 100000 in
set_option maxHeartbeats 3200000 in
theorem first2 {w0 w : World} {t : TabV} (h : HoldsT w0 t) (hB : Below w0.heap.size w0 w) (hlen : t.zs.length ≤ 100000) {tb mp mb : Nat} (htb : Box w tb #[t.rv, t.zv, t.lv] 26) (hmp : Box w mp #[.map (some mb)] 90) (hmb : w0.heap.size ≤ mb) (ht1 : tb ≠ mb) (hm1 : mp ≠ mb)
    {L : List Mp.Ent} {done : List ByteArray} (hL : Mp.Lies w Tryz.prog 9 mb L) (hM : Met L done) (hLl : L.length ≤ 100000) :
    Calls Tryz.prog 39 #[.int .i64 t.zs.length, .func (.func 40) #[] #[.pointer (some ⟨tb, 0, none⟩)], .pointer (some ⟨mp, 0, none⟩)] w fun e w' =>
      e = .returned (.int .i64 (Bk.twice done (t.zs.map ZoneV.name))) ∧ w.grownBy w' (some mb) ∧ ∃ L', Mp.Lies w' Tryz.prog 9 mb L' ∧ Met L' (done ++ t.zs.map ZoneV.name) ∧ L'.length ≤ L.length + t.zs.length := by
  obtain ⟨R, hR⟩ : ∃ R, R = Bk.twice done (t.zs.map ZoneV.name) := ⟨_, rfl⟩
  rw [← hR]
  have hfits := h.zf
  obtain ⟨n, hn⟩ : ∃ n, n = t.zs.length := ⟨_, rfl⟩
  rw [← hn] at hlen ⊢
  have H := Lib.hid h;have HB := Lib.hid hB;have HTB := Lib.hid htb;have HMP := Lib.hid hmp;have HL0 := Lib.hid hL;have HM0 := Lib.hid hM;have HR := Lib.hid hR;have HN := Lib.hid hn;have HFT := Lib.hid hfits
  clear h hB htb hmp hL hM hR hn hfits
  go_enter Tryz.func39, Tryz.ntmps39
  go_wp2
  go_loopw [10, 6] (fun i a wr => ∃ (k : Nat) (A : Int) (L' : List Mp.Ent), i = .int .i64 k ∧ a = .int .i64 A ∧ k ≤ n ∧ Hid (w.grownBy wr (some mb)) ∧ Hid (Mp.Lies wr Tryz.prog 9 mb L') ∧ Hid (Met L' (done ++ (t.zs.map ZoneV.name).take k)) ∧ L'.length ≤ L.length + k ∧ Hid (A = Bk.twice done ((t.zs.map ZoneV.name).take k))) (fun i _ _ => n - (intOf i).toNat)
  case atStart => exact ⟨0, -1, L, rfl, rfl, Nat.zero_le _, World.grownBy.refl _ _, HL0.out, by rw [List.take_zero, List.append_nil];exact HM0.out, Nat.le_refl _, rfl⟩
  case round =>
    obtain ⟨k, A, L', rfl, rfl, hk, HG, HL, HM, hLk, HA⟩ := hrel
    by_cases hlt : k < n
    · obtain ⟨y, hy⟩ : ∃ y, t.zs[k]? = some y := ⟨_, List.getElem?_eq_getElem (by rw [← HN.out];exact hlt)⟩
      have hBr : Below w0.heap.size w0 wr := HB.out.grown HG.out HB.out.size (fun j hj => by cases hj;exact hmb)
      have hc := name2 H.out hBr (show Box wr tb _ _ from (HG.out.block tb HTB.out.lt (by simp;exact ht1)).trans HTB.out) hy
      have hmpr : Box wr mp #[.map (some mb)] 90 := (HG.out.block mp HMP.out.lt (by simp;exact hm1)).trans HMP.out
      have c0 := hmpr.cell
      have hys : y.name.size ≤ 9223372036854775807 := (HFT.out y (List.mem_of_getElem? hy)).n
      have hlk := HL.out.look false law Tryz.underlying90 (zero_b wr) (s := y.name) (WideMaps.keyOf_string_mk Tryz.underlying9 hys)
      rw [HM.out] at hlk
      have hyn : (t.zs.map ZoneV.name)[k]? = some y.name := by rw [List.getElem?_map, hy];rfl
      have hst := Bk.twice_succ (done := done) (by rw [List.length_map, ← HN.out];exact hlt) hyn
      have hmem : mem y.name (done ++ (t.zs.map ZoneV.name).take k) = ((done ++ (t.zs.map ZoneV.name).take k).any fun z => decide (z = y.name)) := rfl
      have HM2 := Lib.hid (HM.out.put y.name)
      rw [List.append_assoc, show (t.zs.map ZoneV.name).take k ++ [y.name] = (t.zs.map ZoneV.name).take (k + 1) by rw [List.take_add_one, hyn];rfl] at HM2
      obtain ⟨MB, hMB⟩ : ∃ MB, MB = mem y.name (done ++ (t.zs.map ZoneV.name).take k) := ⟨_, rfl⟩
      rw [← HA.out, ← hmem, ← hMB] at hst
      rw [← hMB] at hlk
      have hLl2 : L'.length < maxLen := by unfold maxLen;omega
      have hpl := Mp.put_len y.name (.bool true) L'
      have HST : ∀ (b : Int), Hid ((if A < 0 ∧ MB = true then (k : Int) else A) = b → Bk.twice done ((t.zs.map ZoneV.name).take (k + 1)) = b) := fun b e => hst.trans e
      have q1 : (k : Int) < (n : Int) := by omega
      clear hy hyn hmem hMB hst HA HM hBr
      cases MB with
      | false =>
        have H1 := Lib.hid ((HST A).out (by simp)).symm
        simp only [Bool.false_eq_true, if_false, Option.getD_none] at hlk
        clear HST
        go_wp2_with (first
          | (go_at_call 40;refine hc.mono ?_;rintro e w4 ⟨rfl, rfl⟩)
          | (at_mapUpdate;refine Mp.wpList_put _ rfl _ _ _ 90 rfl 9 4 law Tryz.underlying90 mb L' rfl HL.out hLl2 y.name (.bool true) _ rfl rfl (WideMaps.keyOf_string_mk Tryz.underlying9 hys) ?_;intro w5 hl5 hg5))
        have HL5 := Lib.hid hl5;have HG5 := Lib.hid (g2 HG.out hg5)
        clear hl5 hg5
        go_roundw
        case rel => exact ⟨k + 1, A, _, by go_num, rfl, by omega, HG5, HL5, HM2, by omega, H1⟩
        case measure => simp [intOf];omega
      | true =>
        simp only [if_true, Option.getD_some] at hlk
        by_cases hA : A < 0
        · have H1 := Lib.hid ((HST k).out (by simp [hA])).symm
          clear HST
          go_wp2_with (first
            | (go_at_call 40;refine hc.mono ?_;rintro e w4 ⟨rfl, rfl⟩)
            | (at_mapUpdate;refine Mp.wpList_put _ rfl _ _ _ 90 rfl 9 4 law Tryz.underlying90 mb L' rfl HL.out hLl2 y.name (.bool true) _ rfl rfl (WideMaps.keyOf_string_mk Tryz.underlying9 hys) ?_;intro w5 hl5 hg5))
          have HL5 := Lib.hid hl5;have HG5 := Lib.hid (g2 HG.out hg5)
          clear hl5 hg5
          go_roundw
          case rel => exact ⟨k + 1, (k : Int), _, by go_num, rfl, by omega, HG5, HL5, HM2, by omega, H1⟩
          case measure => simp [intOf];omega
        · have H1 := Lib.hid ((HST A).out (by simp [hA])).symm
          clear HST
          go_wp2_with (first
            | (go_at_call 40;refine hc.mono ?_;rintro e w4 ⟨rfl, rfl⟩)
            | (at_mapUpdate;refine Mp.wpList_put _ rfl _ _ _ 90 rfl 9 4 law Tryz.underlying90 mb L' rfl HL.out hLl2 y.name (.bool true) _ rfl rfl (WideMaps.keyOf_string_mk Tryz.underlying9 hys) ?_;intro w5 hl5 hg5))
          have HL5 := Lib.hid hl5;have HG5 := Lib.hid (g2 HG.out hg5)
          clear hl5 hg5
          go_roundw
          case rel => exact ⟨k + 1, A, _, by go_num, rfl, by omega, HG5, HL5, HM2, by omega, H1⟩
          case measure => simp [intOf];omega
    · obtain rfl : k = n := by omega
      have hA := HA.out
      have hM := HM.out
      rw [List.take_of_length_le (by rw [List.length_map, ← HN.out];exact Nat.le_refl _)] at hA hM
      rw [← HR.out] at hA
      have HA2 := Lib.hid hA;have HM2 := Lib.hid hM
      clear hA hM HA HM
      go_wp2
      go_ret
      exact ⟨by rw [← HA2.out];rfl, HG.out, L', HL.out, HM2.out, hLk⟩
set_option maxRecDepth 100000 in
theorem name3 {w0 w : World} {t : TabV} (h : HoldsT w0 t) (hB : Below w0.heap.size w0 w) {tb : Nat} (htb : Box w tb #[t.rv, t.zv, t.lv] 26) {j : Nat} {y : LinkV} (hy : t.ls[j]? = some y) :
    Calls Tryz.prog 41 #[.int .i64 j, .pointer (some ⟨tb, 0, none⟩)] w fun e w' => e = .returned (.string y.name) ∧ w = w' := by
  have c0 := htb.cell
  obtain ⟨p, cap, e1, hp⟩ := h.l.pk
  obtain ⟨g1, o1, rfl, hg1, d1⟩ := hp j y hy
  replace d1 := fun i u hu => (hB.cell (p := ⟨g1, o1 + j * 2 + i, none⟩) hg1).trans (d1 i u hu)
  have x0 := d1 0 _ rfl
  have x1 := d1 1 _ rfl
  rw [Nat.add_zero] at x0
  have q1 : (j : Int) < (t.ls.length : Int) := by have := (List.getElem?_eq_some_iff.1 hy).1;omega
  rw [e1] at c0
  clear e1 hp d1 hy htb h
  generalize t.ls.length = n at *
  go_enter Tryz.func41, Tryz.ntmps41
  go_wp2
  go_ret
  exact ⟨rfl, rfl⟩
set_option maxRecDepth 100000 in
set_option maxHeartbeats 3200000 in
theorem first3 {w0 w : World} {t : TabV} (h : HoldsT w0 t) (hB : Below w0.heap.size w0 w) (hlen : t.ls.length ≤ 100000) {tb mp mb : Nat} (htb : Box w tb #[t.rv, t.zv, t.lv] 26) (hmp : Box w mp #[.map (some mb)] 90) (hmb : w0.heap.size ≤ mb) (ht1 : tb ≠ mb) (hm1 : mp ≠ mb)
    {L : List Mp.Ent} {done : List ByteArray} (hL : Mp.Lies w Tryz.prog 9 mb L) (hM : Met L done) (hLl : L.length ≤ 100000) :
    Calls Tryz.prog 39 #[.int .i64 t.ls.length, .func (.func 41) #[] #[.pointer (some ⟨tb, 0, none⟩)], .pointer (some ⟨mp, 0, none⟩)] w fun e w' =>
      e = .returned (.int .i64 (Bk.twice done (t.ls.map LinkV.name))) ∧ w.grownBy w' (some mb) ∧ ∃ L', Mp.Lies w' Tryz.prog 9 mb L' ∧ Met L' (done ++ t.ls.map LinkV.name) ∧ L'.length ≤ L.length + t.ls.length := by
  obtain ⟨R, hR⟩ : ∃ R, R = Bk.twice done (t.ls.map LinkV.name) := ⟨_, rfl⟩
  rw [← hR]
  have hfits := h.lf
  obtain ⟨n, hn⟩ : ∃ n, n = t.ls.length := ⟨_, rfl⟩
  rw [← hn] at hlen ⊢
  have H := Lib.hid h;have HB := Lib.hid hB;have HTB := Lib.hid htb;have HMP := Lib.hid hmp;have HL0 := Lib.hid hL;have HM0 := Lib.hid hM;have HR := Lib.hid hR;have HN := Lib.hid hn;have HFT := Lib.hid hfits
  clear h hB htb hmp hL hM hR hn hfits
  go_enter Tryz.func39, Tryz.ntmps39
  go_wp2
  go_loopw [10, 6] (fun i a wr => ∃ (k : Nat) (A : Int) (L' : List Mp.Ent), i = .int .i64 k ∧ a = .int .i64 A ∧ k ≤ n ∧ Hid (w.grownBy wr (some mb)) ∧ Hid (Mp.Lies wr Tryz.prog 9 mb L') ∧ Hid (Met L' (done ++ (t.ls.map LinkV.name).take k)) ∧ L'.length ≤ L.length + k ∧ Hid (A = Bk.twice done ((t.ls.map LinkV.name).take k))) (fun i _ _ => n - (intOf i).toNat)
  case atStart => exact ⟨0, -1, L, rfl, rfl, Nat.zero_le _, World.grownBy.refl _ _, HL0.out, by rw [List.take_zero, List.append_nil];exact HM0.out, Nat.le_refl _, rfl⟩
  case round =>
    obtain ⟨k, A, L', rfl, rfl, hk, HG, HL, HM, hLk, HA⟩ := hrel
    by_cases hlt : k < n
    · obtain ⟨y, hy⟩ : ∃ y, t.ls[k]? = some y := ⟨_, List.getElem?_eq_getElem (by rw [← HN.out];exact hlt)⟩
      have hBr : Below w0.heap.size w0 wr := HB.out.grown HG.out HB.out.size (fun j hj => by cases hj;exact hmb)
      have hc := name3 H.out hBr (show Box wr tb _ _ from (HG.out.block tb HTB.out.lt (by simp;exact ht1)).trans HTB.out) hy
      have hmpr : Box wr mp #[.map (some mb)] 90 := (HG.out.block mp HMP.out.lt (by simp;exact hm1)).trans HMP.out
      have c0 := hmpr.cell
      have hys : y.name.size ≤ 9223372036854775807 := (HFT.out y (List.mem_of_getElem? hy)).n
      have hlk := HL.out.look false law Tryz.underlying90 (zero_b wr) (s := y.name) (WideMaps.keyOf_string_mk Tryz.underlying9 hys)
      rw [HM.out] at hlk
      have hyn : (t.ls.map LinkV.name)[k]? = some y.name := by rw [List.getElem?_map, hy];rfl
      have hst := Bk.twice_succ (done := done) (by rw [List.length_map, ← HN.out];exact hlt) hyn
      have hmem : mem y.name (done ++ (t.ls.map LinkV.name).take k) = ((done ++ (t.ls.map LinkV.name).take k).any fun z => decide (z = y.name)) := rfl
      have HM2 := Lib.hid (HM.out.put y.name)
      rw [List.append_assoc, show (t.ls.map LinkV.name).take k ++ [y.name] = (t.ls.map LinkV.name).take (k + 1) by rw [List.take_add_one, hyn];rfl] at HM2
      obtain ⟨MB, hMB⟩ : ∃ MB, MB = mem y.name (done ++ (t.ls.map LinkV.name).take k) := ⟨_, rfl⟩
      rw [← HA.out, ← hmem, ← hMB] at hst
      rw [← hMB] at hlk
      have hLl2 : L'.length < maxLen := by unfold maxLen;omega
      have hpl := Mp.put_len y.name (.bool true) L'
      have HST : ∀ (b : Int), Hid ((if A < 0 ∧ MB = true then (k : Int) else A) = b → Bk.twice done ((t.ls.map LinkV.name).take (k + 1)) = b) := fun b e => hst.trans e
      have q1 : (k : Int) < (n : Int) := by omega
      clear hy hyn hmem hMB hst HA HM hBr
      cases MB with
      | false =>
        have H1 := Lib.hid ((HST A).out (by simp)).symm
        simp only [Bool.false_eq_true, if_false, Option.getD_none] at hlk
        clear HST
        go_wp2_with (first
          | (go_at_call 41;refine hc.mono ?_;rintro e w4 ⟨rfl, rfl⟩)
          | (at_mapUpdate;refine Mp.wpList_put _ rfl _ _ _ 90 rfl 9 4 law Tryz.underlying90 mb L' rfl HL.out hLl2 y.name (.bool true) _ rfl rfl (WideMaps.keyOf_string_mk Tryz.underlying9 hys) ?_;intro w5 hl5 hg5))
        have HL5 := Lib.hid hl5;have HG5 := Lib.hid (g2 HG.out hg5)
        clear hl5 hg5
        go_roundw
        case rel => exact ⟨k + 1, A, _, by go_num, rfl, by omega, HG5, HL5, HM2, by omega, H1⟩
        case measure => simp [intOf];omega
      | true =>
        simp only [if_true, Option.getD_some] at hlk
        by_cases hA : A < 0
        · have H1 := Lib.hid ((HST k).out (by simp [hA])).symm
          clear HST
          go_wp2_with (first
            | (go_at_call 41;refine hc.mono ?_;rintro e w4 ⟨rfl, rfl⟩)
            | (at_mapUpdate;refine Mp.wpList_put _ rfl _ _ _ 90 rfl 9 4 law Tryz.underlying90 mb L' rfl HL.out hLl2 y.name (.bool true) _ rfl rfl (WideMaps.keyOf_string_mk Tryz.underlying9 hys) ?_;intro w5 hl5 hg5))
          have HL5 := Lib.hid hl5;have HG5 := Lib.hid (g2 HG.out hg5)
          clear hl5 hg5
          go_roundw
          case rel => exact ⟨k + 1, (k : Int), _, by go_num, rfl, by omega, HG5, HL5, HM2, by omega, H1⟩
          case measure => simp [intOf];omega
        · have H1 := Lib.hid ((HST A).out (by simp [hA])).symm
          clear HST
          go_wp2_with (first
            | (go_at_call 41;refine hc.mono ?_;rintro e w4 ⟨rfl, rfl⟩)
            | (at_mapUpdate;refine Mp.wpList_put _ rfl _ _ _ 90 rfl 9 4 law Tryz.underlying90 mb L' rfl HL.out hLl2 y.name (.bool true) _ rfl rfl (WideMaps.keyOf_string_mk Tryz.underlying9 hys) ?_;intro w5 hl5 hg5))
          have HL5 := Lib.hid hl5;have HG5 := Lib.hid (g2 HG.out hg5)
          clear hl5 hg5
          go_roundw
          case rel => exact ⟨k + 1, A, _, by go_num, rfl, by omega, HG5, HL5, HM2, by omega, H1⟩
          case measure => simp [intOf];omega
    · obtain rfl : k = n := by omega
      have hA := HA.out
      have hM := HM.out
      rw [List.take_of_length_le (by rw [List.length_map, ← HN.out];exact Nat.le_refl _)] at hA hM
      rw [← HR.out] at hA
      have HA2 := Lib.hid hA;have HM2 := Lib.hid hM
      clear hA hM HA HM
      go_wp2
      go_ret
      exact ⟨by rw [← HA2.out];rfl, HG.out, L', HL.out, HM2.out, hLk⟩
set_option maxRecDepth 100000 in
set_option maxHeartbeats 3200000 in
theorem Twice {w : World} {t : TabV} (h : HoldsT w t) (hzs : t.zs.length ≤ 1000) (hls : t.ls.length ≤ 1000) :
    Calls Tryz.prog 15 #[.agg #[t.rv, t.zv, t.lv]] w fun e w' => e = .returned (twiceV (zn t) t.ls) ∧ Below w.heap.size w w' := by
  have hmm := @run_makeMap Tryz.prog
  obtain ⟨V, hV⟩ : ∃ V, V = ((w.alloc (.cells #[t.rv, t.zv, t.lv] 26)).alloc (.map #[] 0)).alloc (.cells #[.map (some (w.heap.size + 1))] 90) := ⟨_, rfl⟩
  have hbV : Below w.heap.size w V := by rw [hV];repeat (first|(with_reducible exact Below.refl _ _)|(with_reducible assumption)|(with_reducible refine ba ?_)|(with_reducible refine bd ?_)|(with_reducible refine bdn ?_ _)|(with_reducible refine bset ?_ (by first|exact Nat.le_refl _|omega|(simp;done)|(simp;omega)))|(with_reducible refine bt ?_ (by with_reducible assumption)))
  have hB0 : Box V w.heap.size #[t.rv, t.zv, t.lv] 26 := by rw [hV];exact ((Box.new _ _ _).old).old
  have hB2 : Box V (w.heap.size + 2) #[.map (some (w.heap.size + 1))] 90 := by
    rw [hV]
    have := Box.new ((w.alloc (.cells #[t.rv, t.zv, t.lv] 26)).alloc (.map #[] 0)) #[.map (some (w.heap.size + 1))] 90
    simpa using this
  have hL0 : Mp.Lies V Tryz.prog 9 (w.heap.size + 1) [] := by
    rw [hV]
    have := (Mp.made (w.alloc (.cells #[t.rv, t.zv, t.lv] 26)) Tryz.prog 9).old (.cells #[.map (some (w.heap.size + 1))] 90)
    simpa using this
  have hc1 := first2 h hbV (by omega) hB0 hB2 (by omega) (by omega) (by omega) hL0 (done := []) (fun s => rfl) (by simp)
  obtain ⟨X, hX⟩ : ∃ X, X = Bk.twice [] (t.zs.map ZoneV.name) := ⟨_, rfl⟩
  obtain ⟨Y, hY⟩ : ∃ Y, Y = Bk.twice (t.zs.map ZoneV.name) (t.ls.map LinkV.name) := ⟨_, rfl⟩
  have hR : twiceV (zn t) t.ls = .tuple #[.int .i64 X, .int .i64 Y] := by rw [hX, hY];rfl
  rw [hR]
  rw [← hX, List.nil_append] at hc1
  have hc2 : ∀ (W : World) (L : List Mp.Ent), V.grownBy W (some (w.heap.size + 1)) → Mp.Lies W Tryz.prog 9 (w.heap.size + 1) L → Met L (t.zs.map ZoneV.name) → L.length ≤ 100000 →
      Calls Tryz.prog 39 #[.int .i64 t.ls.length, .func (.func 41) #[] #[.pointer (some ⟨w.heap.size, 0, none⟩)], .pointer (some ⟨w.heap.size + 2, 0, none⟩)] W fun e w' => e = .returned (.int .i64 Y) ∧ W.grownBy w' (some (w.heap.size + 1)) := fun W L hg hL hM hl => by
    rw [hY]
    exact (first3 h (hbV.grown hg hbV.size (fun j hj => by cases hj;omega)) (by omega) (show Box W w.heap.size _ _ from (hg.block _ hB0.lt (by simp)).trans hB0) (show Box W (w.heap.size + 2) _ _ from (hg.block _ hB2.lt (by simp)).trans hB2) (by omega) (by omega) (by omega) hL hM hl).mono (fun e w' ⟨a, b, _⟩ => ⟨a, b⟩)
  have hc0 : ∀ W : World, V.grownBy W (some (w.heap.size + 1)) → ∀ o, W.cell? ⟨w.heap.size, o, none⟩ = (#[t.rv, t.zv, t.lv] : Array Value)[o]? := fun W hg o => (show Box W w.heap.size _ _ from (hg.block _ hB0.lt (by simp)).trans hB0).cell o
  obtain ⟨pr, cr, e1⟩ := h.r.form
  obtain ⟨pz, cz, e2⟩ := h.z.form
  obtain ⟨pl, cl, e3⟩ := h.l.form
  rw [e1, e2, e3] at hc0 hV ⊢
  have HC0 := Lib.hid hc0;have HC2 := Lib.hid hc2;have HC1 := Lib.hid hc1;have HBV := Lib.hid hbV;have HV := Lib.hid hV
  clear hc0 hc2 hc1 hX hY hR e1 e2 e3 h hB0 hB2 hL0 hbV hV
  generalize t.rs.length = nr at *
  generalize t.zs.length = nz at *
  generalize t.ls.length = nl at *
  go_enter Tryz.func15, Tryz.ntmps15
  go_wp2_with (first
    | (go_at_call 39;rw [← HV.out];refine HC1.out.mono ?_;rintro e w4 ⟨rfl, hg4, L4, hl4, hm4, hn4⟩;have c4 := HC0.out _ hg4;have H4 := Lib.hid hl4;have H5 := Lib.hid hm4;clear hl4 hm4)
    | (go_at_call 39;refine (HC2.out _ _ hg4 H4.out H5.out (by simp at hn4;omega)).mono ?_;rintro e w5 ⟨rfl, hg5⟩))
  go_ret2
  exact ⟨rfl, HBV.out.grown (hg4.trans hg5) HBV.out.size (fun j hj => by cases hj;omega)⟩
end BkW
end Go.Proofs.YtcfmchpoclkpgaaGreatDoor
