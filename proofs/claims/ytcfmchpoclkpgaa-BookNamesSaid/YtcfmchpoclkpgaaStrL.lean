/-
  slices.Clone, Grow and Concat at strings.
-/
import Derived.Test.YtcfmchpoclkpgaaStrs
import Derived.Lib.SliceRun
import Derived.Lib.AppendZeros
import Derived.Laws.AppendOwnNone
import Derived.Test.YtcfmchpoclkpgaaGrp
namespace Go.Proofs.Ytcfmchpoclkpgaa
open Go.RowKit NB
namespace StrL
set_option maxRecDepth 100000 in
set_option maxHeartbeats 1600000 in
theorem CloneA (w : World) (l : List ByteArray) (hn : l.length ≤ 100000) (c : Nat) (ad : Addr) (hc : ∀ j u, (l.flatMap strc)[j]? = some u → w.cell? (ad.add j) = some u) :
    Calls Try.prog 70 #[.slice (some ad) l.length c] w fun e w' => ∃ v', e = .returned v' ∧ OwnS w' w.heap.size v' l ∧ Below w.heap.size w w' := by
  obtain ⟨i0, hi, hz0, hz1, hz2⟩ := info_parts infoS
  have q22 : ∀ (w : World) (a : Option Addr) (n c n' c' : Nat), (binOp .eql 48 (.slice a n c) (.slice none n' c')).run Try.prog w = .ok (.bool a.isNone) w := fun w a n c n' c' => Go.Lib.run_eql_slice_nil w _ _ a n c n' c' Try.underlying48
  have hl : (l.flatMap strc).length = l.length * 1 := flatG_len (k := 1) (fun _ => rfl) l
  obtain ⟨n, hn'⟩ : ∃ n, n = l.length := ⟨_, rfl⟩
  have hown0 : (w.alloc (.cells #[] 9)).ownsRow w.heap.size 9 1 (.slice (some ⟨w.heap.size, 0, none⟩) 0 0) 0 [] := World.ownsRow_made w #[] 0 (Nat.le_refl _) (Nat.zero_le _) (by simp)
  unfold OwnS
  rw [← hn'] at hl hn ⊢
  have H1 := Lib.hid (strc_one l)
  have A := Lib.hid hc
  have H2 := Lib.hid hl
  clear hc hl hn'
  generalize l.flatMap strc = news at *
  go_enter Try.func70, Try.ntmps70
  go_wp2_with (at_builtin; refine wpList_append_own _ rfl _ _ 48 rfl w.heap.size 9 i0 _ 1 16 Try.underlying48 hi hz0 hz1 hz2 rfl (by decide) _ _ _ rfl hown0 ad n c news rfl ?qc1 ?qc2 ?qc3 ?qc4 ?qc5 ?qc6 ?_)
  case qc1 => exact H2.out
  case qc2 =>
    intro j u hj
    exact Go.Lib.cell?_alloc_some _ (A.out j u hj)
  case qc3 => exact H1.out
  case qc4 => rw [Nat.zero_add]; unfold maxLen; omega
  case qc5 => rw [Nat.zero_add]; omega
  case qc6 => simp
  intro v' w1 hown hgrow hnil
  go_wp2
  go_ret
  refine ⟨v', rfl, by simpa using hown, ?_⟩
  exact ((Below.refl _ w).alloc (Nat.le_refl _) _).grown hgrow (by simp) (by intro k hk; simp [Value.ownBlock] at hk; omega)
theorem CloneN (c : Nat) (w : World) : Calls Try.prog 70 #[.slice none 0 c] w fun e w' => ∃ v', e = .returned v' ∧ OwnS w' w.heap.size v' [] ∧ Below w.heap.size w w' := by
  have q22 : ∀ (w : World) (a : Option Addr) (n c n' c' : Nat), (binOp .eql 48 (.slice a n c) (.slice none n' c')).run Try.prog w = .ok (.bool a.isNone) w := fun w a n c n' c' => Go.Lib.run_eql_slice_nil w _ _ a n c n' c' Try.underlying48
  go_enter Try.func70, Try.ntmps70
  go_wp2
  go_ret
  exact ⟨_, rfl, World.ownsRow_nil _ _ _ _, by repeat (first | (with_reducible exact Below.refl _ _) | (with_reducible assumption) | (with_reducible refine ba ?_) | (with_reducible refine bd ?_) | (with_reducible refine bdn ?_ _) | (with_reducible refine bset ?_ (by first | exact Nat.le_refl _ | omega | (simp; done) | (simp; omega))) | (with_reducible refine bt ?_ (by with_reducible assumption)))⟩
theorem own_src {w : World} {base m : Nat} {v : Value} {l : List ByteArray} (h : OwnR w base v m l) : (v = .slice none 0 0 ∧ l = []) ∨ ∃ g c, v = .slice (some ⟨g, 0, none⟩) m c ∧ ∀ j u, (l.flatMap strc)[j]? = some u → w.cell? ((⟨g, 0, none⟩ : Addr).add j) = some u := by
  have hl := OwnR.len h
  rcases h.2 with ⟨rfl, hn0⟩ | ⟨g, cap, cur, rfl, _, _, _, _, _, _⟩
  · exact .inl ⟨rfl, List.eq_nil_of_length_eq_zero (by omega)⟩
  · exact .inr ⟨g, cap, rfl, h.cells (g := g) rfl⟩
theorem Clone {w : World} {base m : Nat} {v : Value} {l : List ByteArray} (h : OwnR w base v m l) (hn : l.length ≤ 100000) :
    Calls Try.prog 70 #[v] w fun e w' => ∃ v', e = .returned v' ∧ OwnS w' w.heap.size v' l ∧ Below w.heap.size w w' := by
  rcases own_src h with ⟨rfl, rfl⟩ | ⟨g, c, rfl, hc⟩
  · exact CloneN _ w
  · rw [← OwnR.len h]
    exact CloneA w l hn c _ hc
set_option maxRecDepth 100000 in
set_option maxHeartbeats 1600000 in
/-- slices.Grow of nil -/
theorem Grow (N : Nat) (hN : N ≤ 100000) (w : World) : Calls Try.prog 96 #[.slice none 0 0, .int .i64 N] w fun e w' => ∃ v', e = .returned v' ∧ OwnR w' w.heap.size v' 0 [] ∧ Below w.heap.size w w' := by
  obtain ⟨i0, hi, hz0, hz1, hz2⟩ := info_parts infoS
  by_cases h0 : N = 0
  · subst h0
    go_enter Try.func96, Try.ntmps96
    go_wp2
    go_ret
    exact ⟨_, rfl, World.ownsRow_nil _ _ _ _, Below.refl _ _⟩
  · have hrun := fun ty => Go.Lib.run_append_nil_zeros (P := Try.prog) w 48 3 ty 9 i0 (.string .empty) .i64 .i64 Try.underlying48 Try.underlying3 hi hz0 N (by omega) (by omega) (by omega) (by rw [hz2]; omega)
    obtain ⟨G, hG⟩ : ∃ G, G = grownCap w N 0 9 := ⟨_, rfl⟩
    have hGn : N ≤ G := by rw [hG]; exact grownCap_ge w _ _ _
    have hGm : G ≤ maxLen := by rw [hG]; exact grownCap_le_maxLen w N 0 _ (by unfold maxLen; omega)
    rw [← hG] at hrun
    obtain ⟨ROW, hR⟩ : ∃ R : Array Value, R = Builtin.zeroCells (Value.string .empty).cells N ++ Builtin.zeroCells (Value.string .empty).cells (G - N) := ⟨_, rfl⟩
    rw [← hR] at hrun
    have hRs : ROW.size = G * 1 := by rw [hR, Array.size_append, size_zeroCells, size_zeroCells]; show N * 1 + (G - N) * 1 = _; omega
    have hown : (w.drew.alloc (.cells ROW 9)).ownsRow w.heap.size 9 1 (.slice (some ⟨w.heap.size, 0, none⟩) 0 G) 0 [] :=
      ⟨rfl, .inr ⟨w.heap.size, G, ROW, rfl, Nat.le_refl _, heap_alloc_new w.drew _, Nat.zero_le _, hGm, hRs, by simp⟩⟩
    have hb : Below w.heap.size w (w.drew.alloc (.cells ROW 9)) := ba (bd (Below.refl _ _))
    have HR := Lib.hid hrun; have HO := Lib.hid hown; have HB := Lib.hid hb
    unfold maxLen at hGm
    clear hrun hown hb hR hG hRs hi hz0 hz1 hz2
    have b1 : (0 : Int) < (N : Int) := by omega
    have b2 : (0 : Int) ≤ (N : Int) := by omega
    have b3 : ¬ (N : Int) < 0 := by omega
    have b4 : ¬ (G = 0) := by omega
    go_enter Try.func96, Try.ntmps96
    go_wp2_with (at_builtin; refine Go.Lib.wpList_append_run _ rfl _ _ _ _ rfl _ _ rfl rfl _ _ (HR.out _) ?_)
    go_ret
    exact ⟨_, rfl, HO.out, HB.out⟩
theorem flat_take {Ls : List (List ByteArray)} {k : Nat} {l : List ByteArray} (h : Ls[k]? = some l) : (Ls.take (k + 1)).flatten = (Ls.take k).flatten ++ l := by
  rw [List.take_add_one, h]
  simp
theorem flat_le (Ls : List (List ByteArray)) (k : Nat) : (Ls.take k).flatten.length ≤ Ls.flatten.length := by
  have h := List.take_append_drop k Ls
  have : Ls.flatten.length = (Ls.take k).flatten.length + (Ls.drop k).flatten.length := by rw [← List.length_append, ← List.flatten_append, h]
  omega
set_option maxRecDepth 100000 in
set_option maxHeartbeats 3200000 in
/-- slices.Concat of such slices -/
theorem Concat {w : World} {ab : Nat} {vs : List Value} (hb : Box w ab vs.toArray 48) {Ls : List (List ByteArray)} (hlen : vs.length = Ls.length) (hv : ∀ (i : Nat) (v : Value) (l : List ByteArray), vs[i]? = some v → Ls[i]? = some l → ∃ base, OwnS w base v l) (hn : Ls.length ≤ 100000) (ht : Ls.flatten.length ≤ 100000) :
    Calls Try.prog 67 #[.slice (some ⟨ab, 0, none⟩) Ls.length Ls.length] w fun e w' => ∃ v', e = .returned v' ∧ OwnS w' w.heap.size v' Ls.flatten ∧ Below w.heap.size w w' := by
  obtain ⟨i0, hi, hz0, hz1, hz2⟩ := info_parts infoS
  obtain ⟨R, hR⟩ : ∃ R, R = Ls.flatten := ⟨_, rfl⟩
  obtain ⟨n, hn'⟩ : ∃ n, n = Ls.length := ⟨_, rfl⟩
  have hfl := flat_le Ls
  rw [← hR] at ht hfl ⊢
  rw [← hn'] at hn hlen ⊢
  have hsrc : ∀ k, k < n → ∃ v l, vs[k]? = some v ∧ Ls[k]? = some l ∧ w.cell? ⟨ab, k, none⟩ = some v ∧ ((v = .slice none 0 0 ∧ l = []) ∨ ∃ g c, v = .slice (some ⟨g, 0, none⟩) l.length c ∧ g < w.heap.size ∧ ∀ j u, (l.flatMap strc)[j]? = some u → w.cell? ((⟨g, 0, none⟩ : Addr).add j) = some u) := fun k hk => by
    obtain ⟨v, e1⟩ : ∃ v, vs[k]? = some v := ⟨_, List.getElem?_eq_getElem (by rw [hlen]; exact hk)⟩
    obtain ⟨l, e2⟩ : ∃ v, Ls[k]? = some v := ⟨_, List.getElem?_eq_getElem (by rw [← hn']; exact hk)⟩
    obtain ⟨base, ho⟩ := hv k v l e1 e2
    refine ⟨v, l, e1, e2, by rw [hb.cell]; simpa using e1, ?_⟩
    rcases own_src ho with h | ⟨g, c, rfl, hc⟩
    · exact .inl h
    · exact .inr ⟨g, c, rfl, (ho.lt g rfl).2, hc⟩
  have hab := hb.lt
  have HS := Lib.hid hsrc; have HFL := Lib.hid hfl; have HR := Lib.hid hR; have HN := Lib.hid hn'
  have HI := Lib.hid hi; have HZ0 := Lib.hid hz0; have HZ1 := Lib.hid hz1; have HZ2 := Lib.hid hz2
  clear hsrc hfl hR hn' hb hv hi hz0 hz1 hz2 hlen
  go_enter Try.func67, Try.ntmps67
  go_wp2
  go_loop [11, 3] (fun i s => ∃ k S : Nat, i = .int .i64 k ∧ s = .int .i64 S ∧ k ≤ n ∧ Hid (S = (Ls.take k).flatten.length)) (fun i _ => n - (intOf i).toNat)
  case atStart => exact ⟨0, 0, rfl, rfl, Nat.zero_le _, rfl⟩
  case round =>
    obtain ⟨k, S, rfl, rfl, hk, HK⟩ := hrel
    by_cases hlt : k < n
    · obtain ⟨v, l, e1, e2, c0, hsh⟩ := HS.out k hlt
      have hS2 := flat_take e2
      have hS3 : S + l.length = (Ls.take (k + 1)).flatten.length := by rw [hS2, List.length_append, ← HK.out]
      have hS4 := HFL.out (k + 1)
      rw [← hS3] at hS4
      have HS3 := Lib.hid hS3
      have q1 : (k : Int) < (n : Int) := by omega
      have q2 : ¬ ((S : Int) + (l.length : Int) < 0) := by omega
      clear hS2 hS3 e1 e2
      rcases hsh with ⟨rfl, rfl⟩ | ⟨g, c, rfl, hg, hc⟩
      · have q3 : ¬ ((S : Int) < 0) := by omega
        go_wp2
        go_round
        case rel => exact ⟨k + 1, S, by go_num, rfl, by omega, Lib.hid (by have := HS3.out; rwa [List.length_nil, Nat.add_zero] at this)⟩
        case measure => simp [intOf]; omega
      · have HC := Lib.hid hc
        clear hc
        generalize l.length = m at *
        go_wp2
        go_round
        case rel => exact ⟨k + 1, S + m, by go_num, by go_num, by omega, HS3⟩
        case measure => simp [intOf]; omega
    · obtain rfl : k = n := by omega
      have hS := HK.out
      rw [List.take_of_length_le (by rw [← HN.out]; exact Nat.le_refl _), ← HR.out] at hS
      have hSb : S ≤ 100000 := by omega
      have HSR := Lib.hid hS
      clear hS HK
      go_wp2_with (go_at_call 96; refine (Grow S hSb _).mono ?_; rintro e w1 ⟨v1, rfl, hown1, hb1⟩)
      have HO1 := Lib.hid hown1; have HB1 := Lib.hid hb1
      clear hown1 hb1
      go_loopw [27, 6] (fun i o wr => ∃ (j m : Nat) (v : Value), i = .int .i64 j ∧ o = v ∧ j ≤ k ∧ m ≤ S ∧ Hid (m = (Ls.take j).flatten.length) ∧ Below w.heap.size w wr ∧ Hid (OwnR wr w.heap.size v m (Ls.take j).flatten)) (fun i _ _ => k - (intOf i).toNat)
      case atStart => exact ⟨0, 0, v1, rfl, rfl, Nat.zero_le _, Nat.zero_le _, rfl, HB1.out, HO1.out⟩
      case round =>
        obtain ⟨j, m, v, rfl, rfl, hj, hm, HM, hbr, HO⟩ := hrel
        have hszr := hbr.size
        by_cases hltj : j < k
        · obtain ⟨v, l, e1, e2, c0, hsh⟩ := HS.out j hltj
          have hS2 := flat_take e2
          have hS3 : m + l.length = (Ls.take (j + 1)).flatten.length := by rw [hS2, List.length_append, ← HM.out]
          have hS4 := HFL.out (j + 1)
          rw [← hS3] at hS4
          have HS3 := Lib.hid hS3
          have HS2 := Lib.hid hS2
          have q1 : (j : Int) < (k : Int) := by omega
          replace c0 := (hbr.cell (p := ⟨ab, j, none⟩) hab).trans c0
          clear hS2 hS3 e1 e2
          rcases hsh with ⟨rfl, rfl⟩ | ⟨g, c, rfl, hg, hc⟩
          · have hox := Lib.hid HO.out
            go_wp2_with (at_builtin; refine wpList_append_own_none rfl _ _ 48 rfl w.heap.size 9 i0 1 Try.underlying48 HI.out _ _ _ rfl HO.out rfl ?_)
            go_roundw
            case rel => exact ⟨j + 1, m, _, by go_num, rfl, by omega, hm, Lib.hid (by have := HS3.out; rwa [List.length_nil, Nat.add_zero] at this), hbr, by rw [HS2.out, List.append_nil]; exact HO.out⟩
            case measure => simp [intOf]; omega
          · have hcr : ∀ i u, (l.flatMap strc)[i]? = some u → wr.cell? ((⟨g, 0, none⟩ : Addr).add i) = some u := fun i u hu => by
              rw [addr_add]
              exact (hbr.cell (p := ⟨g, 0 + i, none⟩) hg).trans (by have := hc i u hu; rwa [addr_add] at this)
            have hln : (l.flatMap strc).length = l.length * 1 := flatG_len (k := 1) (fun _ => rfl) l
            have HC := Lib.hid hcr; have HLN := Lib.hid hln
            have hm2 : m + l.length ≤ S := by have := HSR.out; omega
            clear hc hcr hln
            go_wp2_with (at_builtin; refine wpList_append_own _ rfl _ _ 48 rfl w.heap.size 9 i0 _ 1 16 Try.underlying48 HI.out HZ0.out HZ1.out HZ2.out rfl (by decide) _ _ _ rfl HO.out ⟨g, 0, none⟩ l.length c (l.flatMap strc) rfl HLN.out HC.out (strc_one l) (by unfold maxLen; omega) (by omega) (by omega) ?_; intro v3 w3 hown3 hgrow3 _)
            have HR3 : Hid (OwnR w3 w.heap.size v3 (m + l.length) (Ls.take (j + 1)).flatten) := by
              rw [HS2.out]
              unfold OwnR
              rw [List.flatMap_append]
              exact hown3
            have hb3 : Below w.heap.size w w3 := Below.grown hbr hgrow3 hszr (fun i hi => (HO.out.lt i hi).1)
            clear hown3 hgrow3
            go_roundw
            case rel => exact ⟨j + 1, m + l.length, v3, by go_num, rfl, by omega, hm2, HS3, hb3, HR3⟩
            case measure => simp [intOf]; omega
        · obtain rfl : j = k := by omega
          have hO := HO.out
          rw [List.take_of_length_le (by rw [← HN.out]; exact Nat.le_refl _), ← HR.out] at hO
          have HO2 := Lib.hid hO
          clear hO HO
          go_wp2
          go_ret
          exact ⟨_, rfl, OwnR.s HO2.out, hbr⟩
end StrL
end Go.Proofs.Ytcfmchpoclkpgaa
