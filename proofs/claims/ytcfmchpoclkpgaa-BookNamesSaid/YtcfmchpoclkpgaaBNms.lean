/-
  noontidelaw29.BookNames returns true.
-/
import Derived.Test.YtcfmchpoclkpgaaBookR
import Derived.Test.YtcfmchpoclkpgaaBLive
import Derived.Test.YtcfmchpoclkpgaaLightT
namespace Go.Proofs.Ytcfmchpoclkpgaa
open Go.RowKit NB
namespace BkT
theorem light_len' {t : TabV} (h : Eqs.lightT t = true) : t.zs.length ≤ 10 ∧ t.ls.length ≤ 16 := by
  unfold Eqs.lightT at h
  simp only [Bool.and_eq_true, decide_eq_true_eq] at h
  exact ⟨h.2.1, h.2.2.1⟩
theorem slices {f : Nat} {args : Array Value} {W : World} {l : List ByteArray} (h : Calls Try.prog f args W fun e w' => ∃ v', e = .returned v' ∧ OwnS w' W.heap.size v' l ∧ Below W.heap.size W w') :
    Calls Try.prog f args W fun e w' => ∃ q c, e = .returned (.slice q l.length c) ∧ HoldsS w' (.slice q l.length c) l ∧ Below W.heap.size W w' :=
  h.mono (fun _ _ ⟨v, h1, h2, h3⟩ => by
    have h4 := HoldsS.of_own h2
    obtain ⟨p, cap, rfl, _⟩ := h4.pk1
    exact ⟨p, cap, h1, h4, h3⟩)
theorem cells {W : World} {q : Option Addr} {m c : Nat} {l : List ByteArray} (h : HoldsS W (.slice q m c) l) : ∀ i s, l[i]? = some s → ∃ b off, q = some ⟨b, off, none⟩ ∧ b < W.heap.size ∧ W.cell? ⟨b, off + i, none⟩ = some (.string s) := by
  obtain ⟨p, cap, e, hp⟩ := h.pk1
  cases e
  exact hp
set_option maxRecDepth 100000 in
set_option maxHeartbeats 12800000 in
theorem names {w : World} {t : TabV} (h : HoldsT w t) :
    Calls Try.prog 6 #[.agg #[t.rv, t.zv, t.lv]] w fun e w' => e = .returned (.bool true) ∧ Below w.heap.size w w' := by
  have c1 := fun W (h : HoldsT W t) => Eqs.Light h
  have HT := Lib.hid h
  have hlv := BkL.lives
  cases h1 : Eqs.lightT t
  · rw [h1] at c1
    have C1 := Lib.hid c1
    have HLV := Lib.hid hlv
    clear c1 h h1 hlv
    obtain ⟨rv, zv, lv, rs, zs, ls⟩ := t
    go_enter Try.func6, Try.ntmps6
    go_wp2_with (first
      | (go_at_call 19; (with_reducible refine (HLV.out _).mono ?_); rintro e w1 ⟨rfl, hb1⟩; obtain ⟨hc1, hf1⟩ := bcell hb1; have hc1_0 := fun o => hc1 (w.heap.size) o (by first | assumption | omega | (simp; done) | (simp; omega)); have hf1_0 := fun o => hf1 (w.heap.size) o (by first | assumption | omega | (simp; done) | (simp; omega)); clear hc1 hf1; have hz1_0 : w.heap.size < w1.heap.size := (by first | exact sz1 hb1 | exact sz2 hb1 | exact sz3 hb1 | (have := hb1.size; (try simp only [World.size_alloc, World.size_drew] at this); omega)))
      | (go_at_call 9; (with_reducible refine (C1.out _ ?_).mono ?_); (· exact HT.out.later (by repeat (first | (with_reducible exact Below.refl _ _) | (with_reducible assumption) | (with_reducible refine ba ?_) | (with_reducible refine bd ?_) | (with_reducible refine bdn ?_ _) | (with_reducible refine bset ?_ (by first | exact Nat.le_refl _ | omega | (simp; done) | (simp; omega))) | (with_reducible refine bt ?_ (by with_reducible assumption))))); rintro e w2 ⟨rfl, hb2⟩; obtain ⟨hc2, hf2⟩ := bcell hb2))
    go_ret
    exact ⟨rfl, by repeat (first | (with_reducible exact Below.refl _ _) | (with_reducible assumption) | (with_reducible refine ba ?_) | (with_reducible refine bd ?_) | (with_reducible refine bdn ?_ _) | (with_reducible refine bset ?_ (by first | exact Nat.le_refl _ | omega | (simp; done) | (simp; omega))) | (with_reducible refine bt ?_ (by with_reducible assumption)))⟩
  rw [h1] at c1
  obtain ⟨hzl, hll⟩ := light_len' h1
  obtain ⟨Z, hZ⟩ : ∃ Z, Z = RBk.zn t := ⟨_, rfl⟩
  have cN := fun W (h : HoldsT W t) => BkN.New h (by omega) (by omega)
  have hzn : Z.length = t.zs.length := by rw [hZ]; unfold RBk.zn; rw [List.length_map]
  have hfit : ∀ x ∈ t.ls, x.target.size ≤ 9223372036854775807 := fun x hx => (h.lf x hx).t
  rw [← hZ] at cN
  have cF := fun W p (h : BkW.At W p Z t.ls) s hs => BkL.find h (by omega) (by omega) hfit s hs
  unfold RBk.pairV at cF
  obtain ⟨ta, hta⟩ : ∃ ta, Bk.twice [] Z = ta := ⟨_, rfl⟩
  obtain ⟨tb, htb⟩ : ∃ tb, Bk.twice Z (t.ls.map LinkV.name) = tb := ⟨_, rfl⟩
  have cT := fun W (h : HoldsT W t) => BkW.Twice h (by omega) (by omega)
  unfold RBk.twiceV at cT
  rw [← hZ, hta, htb] at cT
  have hk1 : (Bk.pall Z t.ls).flatten.length ≤ 100000 := by have := Bk.pall_len Z t.ls; omega
  have hk2 : (Bk.keys Z t.ls).length ≤ 100000 := by have := Bk.keys_len Z t.ls; omega
  have cA := fun W p (h : BkW.At W p Z t.ls) => slices (BkW.Names h (by omega) hk1)
  rw [Bk.names_eq] at cA
  have cC := fun W p (k : Nat) (h : BkW.At W p Z t.ls) (hk : k < t.zs.length) => slices (by
    have := BkW.Alias h (by omega) hk2 (k : Int)
    rwa [show BkW.paliasI Z t.ls (k : Int) = Bk.palias Z t.ls k by unfold BkW.paliasI; rw [if_pos ⟨by omega, by omega⟩, Int.toNat_natCast]] at this)
  obtain ⟨N, hN⟩ : ∃ N, N = (Bk.rnames Z t.ls).length := ⟨_, rfl⟩
  rw [← hN] at cA
  have hNl : N ≤ 26 := by have := Bk.rnames_len Z t.ls; omega
  have hcN : Bk.cnt Z t.ls t.zs.length = N := by rw [hN, ← hzn, Bk.cnt_all]
  have hcl : ∀ k, k ≤ t.zs.length → Bk.cnt Z t.ls k ≤ 26 := fun k hk => by have := Bk.cnt_le Z t.ls k (by omega); rw [hzn, hcN] at this; omega
  have hsz : ∀ s ∈ Bk.rnames Z t.ls, s.size ≤ 9223372036854775807 := fun s hs => by
    have h3 := (((Bk.rnames_spec Z t.ls).2 s).1 hs).1
    rcases List.mem_append.1 h3 with h3 | h3
    · rw [hZ] at h3
      obtain ⟨y, hy, rfl⟩ := List.mem_map.1 h3
      exact (h.zf y hy).n
    · obtain ⟨y, hy, rfl⟩ := List.mem_map.1 h3
      exact (h.lf y hy).n
  obtain ⟨NM, hNM⟩ : ∃ NM, NM = Bk.rnames Z t.ls := ⟨_, rfl⟩
  have hnf : ∀ s ∈ NM, ∃ i : Nat, i < t.zs.length ∧ Bk.find Z t.ls s = ((i : Int), 0) ∧ s ∈ Bk.palias Z t.ls i := fun s hs => by
    obtain ⟨i, h3, h4⟩ := Bk.name_find (by rw [← hNM]; exact hs)
    exact ⟨i, by omega, h4⟩
  have hnr : ∀ (k : Nat) a b, NM[k]? = some a → NM[k + 1]? = some b → Op.bytesLess a.toList b.toList = true := fun k a b ha hb => Bk.name_rise (by rw [← hNM]; exact ha) (by rw [← hNM]; exact hb)
  have hzo : ta < 0 → tb < 0 → ∀ (i : Nat) y, t.zs[i]? = some y → Bk.find Z t.ls y.name = ((i : Int), 0) := fun h3 h4 i y hy => Bk.zone_once (by omega) (by omega) (by rw [hZ]; unfold RBk.zn; rw [List.getElem?_map, hy]; rfl)
  have hlo : tb < 0 → ∀ (i : Nat) x, t.ls[i]? = some x → Bk.find Z t.ls x.name = Bk.find Z t.ls x.target := fun h4 i x hx => Bk.link_once (by omega) hx
  rw [← hNM] at cA hsz hN
  have hz := h.z
  have hl := h.l
  have hzf := h.zf
  have hlf := h.lf
  clear h1 hta htb hk1 hk2 hzn hZ hNM
  obtain ⟨rv, zv, lv, rs, zs, ls⟩ := t
  dsimp only at *
  obtain ⟨pz, cz, rfl, hpz⟩ := hz.pk
  obtain ⟨pl, cl, rfl, hpl⟩ := hl.pk
  obtain ⟨n, hn⟩ : ∃ n, n = zs.length := ⟨_, rfl⟩
  obtain ⟨n', hn'⟩ : ∃ n', n' = ls.length := ⟨_, rfl⟩
  rw [← hn] at hcl hcN hnf cN cT c1 cC hzl ⊢
  rw [← hn'] at cN cT c1 hll ⊢
  have CN := Lib.hid cN
  have CF := Lib.hid cF
  have CT := Lib.hid cT
  have CA := Lib.hid cA
  have CC := Lib.hid cC
  have C1 := Lib.hid c1
  have HLV := Lib.hid hlv
  have HN := Lib.hid hn
  have HN' := Lib.hid hn'
  have HPZ := Lib.hid hpz
  have HPL := Lib.hid hpl
  have HZF := Lib.hid hzf
  have HLF := Lib.hid hlf
  have HFIT := Lib.hid hfit
  have HCL := Lib.hid hcl
  have HCN := Lib.hid hcN
  have HSZ := Lib.hid hsz
  have HNF := Lib.hid hnf
  have HNR := Lib.hid hnr
  have HZO := Lib.hid hzo
  have HLO := Lib.hid hlo
  have HNL := Lib.hid hN
  clear cN cF cT cA cC c1 hlv hn hn' hpz hpl hzf hlf hfit hcl hcN hsz hnf hnr hzo hlo hN hz hl h
  go_enter Try.func6, Try.ntmps6
  go_wp2_with (first
    | (go_at_call 19; (with_reducible refine (HLV.out _).mono ?_); rintro e w1 ⟨rfl, hb1⟩; obtain ⟨hc1, hf1⟩ := bcell hb1; have hc1_0 := fun o => hc1 (w.heap.size) o (by first | assumption | omega | (simp; done) | (simp; omega)); have hf1_0 := fun o => hf1 (w.heap.size) o (by first | assumption | omega | (simp; done) | (simp; omega)); clear hc1 hf1; have hz1_0 : w.heap.size < w1.heap.size := (by first | exact sz1 hb1 | exact sz2 hb1 | exact sz3 hb1 | (have := hb1.size; (try simp only [World.size_alloc, World.size_drew] at this); omega)))
    | (go_at_call 9; (with_reducible refine (C1.out _ ?_).mono ?_); (· rw [HN.out, HN'.out]; exact HT.out.later (by repeat (first | (with_reducible exact Below.refl _ _) | (with_reducible assumption) | (with_reducible refine ba ?_) | (with_reducible refine bd ?_) | (with_reducible refine bdn ?_ _) | (with_reducible refine bset ?_ (by first | exact Nat.le_refl _ | omega | (simp; done) | (simp; omega))) | (with_reducible refine bt ?_ (by with_reducible assumption))))); rintro e w2 ⟨rfl, hb2⟩; obtain ⟨hc2, hf2⟩ := bcell hb2; have hc2_0 := fun o => hc2 (w.heap.size) o (by first | assumption | omega | (simp; done) | (simp; omega)); have hf2_0 := fun o => hf2 (w.heap.size) o (by first | assumption | omega | (simp; done) | (simp; omega)); clear hc2 hf2; have hz2_0 : w.heap.size < w2.heap.size := (by first | exact sz1 hb2 | exact sz2 hb2 | exact sz3 hb2 | (have := hb2.size; (try simp only [World.size_alloc, World.size_drew] at this); omega)))
    | (go_at_call 20; (with_reducible refine (CN.out _ ?_).mono ?_); (· rw [HN.out, HN'.out]; exact HT.out.later (by repeat (first | (with_reducible exact Below.refl _ _) | (with_reducible assumption) | (with_reducible refine ba ?_) | (with_reducible refine bd ?_) | (with_reducible refine bdn ?_ _) | (with_reducible refine bset ?_ (by first | exact Nat.le_refl _ | omega | (simp; done) | (simp; omega))) | (with_reducible refine bt ?_ (by with_reducible assumption))))); rintro e w3 ⟨p, rfl, hAt, hb3⟩; obtain ⟨hc3, hf3⟩ := bcell hb3; have hc3_0 := fun o => hc3 (w.heap.size) o (by first | assumption | omega | (simp; done) | (simp; omega)); have hf3_0 := fun o => hf3 (w.heap.size) o (by first | assumption | omega | (simp; done) | (simp; omega)); clear hc3 hf3; have hz3_0 : w.heap.size < w3.heap.size := (by first | exact sz1 hb3 | exact sz2 hb3 | exact sz3 hb3 | (have := hb3.size; (try simp only [World.size_alloc, World.size_drew] at this); omega)); have HA := Lib.hid hAt; clear hAt))
  have D := (((Box.new w #[rv, .slice pz n cz, .slice pl n' cl] 26).later hb1).later hb2).later hb3
  have hbw : Below w.heap.size w w3 := by repeat (first | (with_reducible exact Below.refl _ _) | (with_reducible assumption) | (with_reducible refine ba ?_) | (with_reducible refine bd ?_) | (with_reducible refine bdn ?_ _) | (with_reducible refine bset ?_ (by first | exact Nat.le_refl _ | omega | (simp; done) | (simp; omega))) | (with_reducible refine bt ?_ (by with_reducible assumption)))
  have hw3 : w.heap.size < w3.heap.size := D.lt
  clear hb1 hb2 hb3 hc1_0 hf1_0 hz1_0 hc2_0 hf2_0 hz2_0 hc3_0 hf3_0 hz3_0
  have h00 : Bk.cnt Z ls 0 = 0 := rfl
  have HB := Lib.hid hbw
  clear hbw
  go_loopw [4, 38] (fun u j wy => ∃ (k c : Nat), j = .int .i64 k ∧ u = .int .i64 c ∧ c = Bk.cnt Z ls k ∧ k ≤ n ∧ Below w3.heap.size w3 wy) (fun _ j _ => n - (intOf j).toNat)
  case atStart => exact ⟨0, 0, rfl, rfl, h00.symm, Nat.zero_le _, Below.refl _ _⟩
  case round =>
    obtain ⟨k, c, rfl, rfl, hc, hk, hbr⟩ := hrel
    by_cases hlt : k < n
    · have q1 : (k : Int) < (n : Int) := by omega
      have hs := Bk.cnt_succ Z ls k
      have hc1 := HCL.out (k + 1) (by omega)
      have hal := CC.out wr p k (HA.out.later hbr) hlt
      generalize (Bk.palias Z ls k).length = m at hal hs
      rw [hs] at hc1
      rw [← hc] at hs hc1
      have q2 : IntKind.i64.wrap ((c : Int) + (m : Int)) = ((c + m : Nat) : Int) := by rw [IntKind.wrap_i64]; omega
      have HS := Lib.hid hs
      clear hs hc h00
      go_wp2_with (go_at_call 28; refine hal.mono ?_; rintro e w4 ⟨q4, c4, rfl, _, hb4⟩)
      go_roundw
      case rel => exact ⟨k + 1, c + m, by go_num, rfl, HS.out.symm, by omega, by repeat (first | (with_reducible exact Below.refl _ _) | (with_reducible assumption) | (with_reducible refine ba ?_) | (with_reducible refine bd ?_) | (with_reducible refine bdn ?_ _) | (with_reducible refine bset ?_ (by first | exact Nat.le_refl _ | omega | (simp; done) | (simp; omega))) | (with_reducible refine bt ?_ (by with_reducible assumption)))⟩
      case measure => simp [intOf]; omega
    · obtain rfl : k = n := by omega
      obtain rfl : c = N := hc.trans HCN.out
      have HA4 := Lib.hid (HA.out.later hbr)
      clear h00 hc hk hlt
      go_wp2_with (go_at_call 26; refine (CA.out _ _ HA4.out).mono ?_; rintro e w6 ⟨q6, c6, rfl, hl6, hb6⟩)
      have hb36 : Below w3.heap.size w3 w6 := by repeat (first | (with_reducible exact Below.refl _ _) | (with_reducible assumption) | (with_reducible refine ba ?_) | (with_reducible refine bd ?_) | (with_reducible refine bdn ?_ _) | (with_reducible refine bset ?_ (by first | exact Nat.le_refl _ | omega | (simp; done) | (simp; omega))) | (with_reducible refine bt ?_ (by with_reducible assumption)))
      have HPN := Lib.hid (cells hl6)
      have D6 := Lib.hid (D.later hb36)
      have HA6 := Lib.hid (HA.out.later hb36)
      have HB6 := Lib.hid (HB.out.trans (hb36.mono (by omega)))
      have hw6 : w.heap.size < w6.heap.size := D6.out.lt
      clear D HA HA4 hbr hb6 hb36 hl6 hw3 HB
      go_loopw [52] (fun j wy => ∃ k' : Nat, j = .int .i64 k' ∧ k' ≤ c ∧ Below w6.heap.size w6 wy) (fun j _ => c - (intOf j).toNat)
      case atStart => exact ⟨0, rfl, Nat.zero_le _, Below.refl _ _⟩
      case round =>
        obtain ⟨j, rfl, hj, hbr⟩ := hrel
        by_cases hlt : j < c
        · obtain ⟨x, hx⟩ : ∃ x, NM[j]? = some x := ⟨_, List.getElem?_eq_getElem (by rw [← HNL.out]; exact hlt)⟩
          obtain ⟨i, hi, hfe, hmem⟩ := HNF.out x (List.mem_of_getElem? hx)
          obtain ⟨g, o, rfl, hg, d⟩ := HPN.out j x hx
          replace d := (hbr.cell (p := ⟨g, o + j, none⟩) hg).trans d
          have q1 : (j : Int) < (c : Int) := by omega
          have hf := CF.out wr p (HA6.out.later hbr) x (HSZ.out x (List.mem_of_getElem? hx))
          rw [hfe] at hf
          dsimp only at hf
          have hal := CC.out wr p i (HA6.out.later hbr) hi
          obtain ⟨L, hL⟩ : ∃ L, L = Bk.palias Z ls i := ⟨_, rfl⟩
          rw [← hL] at hal hmem
          obtain ⟨m, hm⟩ : ∃ m, m = L.length := ⟨_, rfl⟩
          rw [← hm] at hal
          have hm26 : m ≤ 26 := by
            have h1 := HCL.out (i + 1) (by omega)
            rw [Bk.cnt_succ, ← hL, ← hm] at h1
            omega
          have c0 := (D6.out.later hbr).cell
          have q3 : ¬ ((i : Int) < 0) := by omega
          have q4 : ¬ ((k : Int) ≤ (i : Int)) := by omega
          have HM := Lib.hid hm
          have HMEM := Lib.hid hmem
          clear hL hm hmem hfe
          by_cases hj0 : j = 0
          · subst hj0
            rw [Nat.add_zero] at d
            clear hx
            go_wp2_with (first
              | (go_at_call 21; refine hf.mono ?_; rintro e w' ⟨rfl, rfl⟩)
              | (go_at_call 28; refine hal.mono ?_; rintro e w7 ⟨q7, c7, rfl, hl7, hb7⟩))
            have HP7 := Lib.hid (cells hl7)
            have HB7 := Lib.hid (show Below w6.heap.size w6 w7 by repeat (first | (with_reducible exact Below.refl _ _) | (with_reducible assumption) | (with_reducible refine ba ?_) | (with_reducible refine bd ?_) | (with_reducible refine bdn ?_ _) | (with_reducible refine bset ?_ (by first | exact Nat.le_refl _ | omega | (simp; done) | (simp; omega))) | (with_reducible refine bt ?_ (by with_reducible assumption))))
            clear hl7 hb7 hbr hf hal d c0
            go_loop [11, 93] (fun f jj => ∃ (b : Nat) (F : Bool), jj = .int .i64 b ∧ f = .bool F ∧ Hid (F = (L.take b).any fun y => decide (y = x)) ∧ b ≤ m) (fun _ jj => m - (intOf jj).toNat)
            case atStart => exact ⟨0, false, rfl, rfl, rfl, Nat.zero_le _⟩
            case round =>
              obtain ⟨b, F, rfl, rfl, HF, hb⟩ := hrel
              by_cases hlb : b < m
              · obtain ⟨y, hy⟩ : ∃ y, L[b]? = some y := ⟨_, List.getElem?_eq_getElem (by rw [← HM.out]; exact hlb)⟩
                obtain ⟨g2, o2, rfl, hg2, d2⟩ := HP7.out b y hy
                have r1 : (b : Int) < (m : Int) := by omega
                have hst : ((L.take (b + 1)).any fun y => decide (y = x)) = (F || decide (y = x)) := by
                  rw [List.take_add_one, hy, List.any_append, ← HF.out]; simp
                have HST := Lib.hid hst
                clear hst hy
                cases F with
                | true =>
                  go_wp2
                  go_round
                  case rel => exact ⟨b + 1, true, by go_num, rfl, by have := HST.out; exact this.symm, by omega⟩
                  case measure => simp [intOf]; omega
                | false =>
                  by_cases hyx : y = x
                  · have r2 := str_eq hyx
                    have HYX := Lib.hid hyx
                    clear hyx
                    go_wp2
                    go_round
                    case rel => exact ⟨b + 1, true, by go_num, by simp [r2], by have := HST.out; rw [decide_eq_true HYX.out] at this; exact this.symm, by omega⟩
                    case measure => simp [intOf]; omega
                  · have r2 := str_ne hyx
                    have HYX := Lib.hid hyx
                    clear hyx
                    go_wp2
                    go_round
                    case rel => exact ⟨b + 1, false, by go_num, by simp [r2], by have := HST.out; rw [decide_eq_false HYX.out] at this; exact this.symm, by omega⟩
                    case measure => simp [intOf]; omega
              · obtain rfl : b = m := by omega
                obtain rfl : F = true := by
                  rw [HF.out, List.take_of_length_le (by rw [← HM.out]; exact Nat.le_refl _), List.any_eq_true]
                  exact ⟨x, HMEM.out, decide_eq_true rfl⟩
                go_wp2
                go_roundw
                case rel => exact ⟨0 + 1, by go_num, by omega, HB7.out⟩
                case measure => simp [intOf]; omega
          · have q5 : (0 : Int) < (j : Int) := by omega
            obtain ⟨j', hj'⟩ : ∃ j', j = j' + 1 := ⟨j - 1, by omega⟩
            obtain ⟨y0, hy0⟩ : ∃ y0, NM[j']? = some y0 := ⟨_, List.getElem?_eq_getElem (by rw [← HNL.out]; omega)⟩
            obtain ⟨g', o', he', hg', d'⟩ := HPN.out j' y0 hy0
            cases he'
            replace d' := (hbr.cell (p := ⟨g, o + j', none⟩) hg).trans d'
            have q6 : IntKind.i64.wrap ((j : Int) - 1) = (j' : Int) := by rw [IntKind.wrap_i64]; omega
            have q7 : (j' : Int) < (c : Int) := by omega
            obtain ⟨q8, hne⟩ := Bk.less_not (HNR.out j' y0 x hy0 (by rw [← hj']; exact hx))
            have q9 := str_ne hne
            clear hne
            have HJ := Lib.hid hj'
            clear hx hy0 hj'
            go_wp2_with (first
              | (go_at_call 21; refine hf.mono ?_; rintro e w' ⟨rfl, rfl⟩)
              | (go_at_call 28; refine hal.mono ?_; rintro e w7 ⟨q7, c7, rfl, hl7, hb7⟩))
            have HP7 := Lib.hid (cells hl7)
            have HB7 := Lib.hid (show Below w6.heap.size w6 w7 by repeat (first | (with_reducible exact Below.refl _ _) | (with_reducible assumption) | (with_reducible refine ba ?_) | (with_reducible refine bd ?_) | (with_reducible refine bdn ?_ _) | (with_reducible refine bset ?_ (by first | exact Nat.le_refl _ | omega | (simp; done) | (simp; omega))) | (with_reducible refine bt ?_ (by with_reducible assumption))))
            clear hl7 hb7 hbr hf hal d c0
            go_loop [11, 93] (fun f jj => ∃ (b : Nat) (F : Bool), jj = .int .i64 b ∧ f = .bool F ∧ Hid (F = (L.take b).any fun y => decide (y = x)) ∧ b ≤ m) (fun _ jj => m - (intOf jj).toNat)
            case atStart => exact ⟨0, false, rfl, rfl, rfl, Nat.zero_le _⟩
            case round =>
              obtain ⟨b, F, rfl, rfl, HF, hb⟩ := hrel
              by_cases hlb : b < m
              · obtain ⟨y, hy⟩ : ∃ y, L[b]? = some y := ⟨_, List.getElem?_eq_getElem (by rw [← HM.out]; exact hlb)⟩
                obtain ⟨g2, o2, rfl, hg2, d2⟩ := HP7.out b y hy
                have r1 : (b : Int) < (m : Int) := by omega
                have hst : ((L.take (b + 1)).any fun y => decide (y = x)) = (F || decide (y = x)) := by
                  rw [List.take_add_one, hy, List.any_append, ← HF.out]; simp
                have HST := Lib.hid hst
                clear hst hy
                cases F with
                | true =>
                  go_wp2
                  go_round
                  case rel => exact ⟨b + 1, true, by go_num, rfl, by have := HST.out; exact this.symm, by omega⟩
                  case measure => simp [intOf]; omega
                | false =>
                  by_cases hyx : y = x
                  · have r2 := str_eq hyx
                    have HYX := Lib.hid hyx
                    clear hyx
                    go_wp2
                    go_round
                    case rel => exact ⟨b + 1, true, by go_num, by simp [r2], by have := HST.out; rw [decide_eq_true HYX.out] at this; exact this.symm, by omega⟩
                    case measure => simp [intOf]; omega
                  · have r2 := str_ne hyx
                    have HYX := Lib.hid hyx
                    clear hyx
                    go_wp2
                    go_round
                    case rel => exact ⟨b + 1, false, by go_num, by simp [r2], by have := HST.out; rw [decide_eq_false HYX.out] at this; exact this.symm, by omega⟩
                    case measure => simp [intOf]; omega
              · obtain rfl : b = m := by omega
                obtain rfl : F = true := by
                  rw [HF.out, List.take_of_length_le (by rw [← HM.out]; exact Nat.le_refl _), List.any_eq_true]
                  exact ⟨x, HMEM.out, decide_eq_true rfl⟩
                go_wp2
                go_roundw
                case rel => exact ⟨j + 1, by go_num, by omega, HB7.out⟩
                case measure => simp [intOf]; omega
        · obtain rfl : j = c := by omega
          have c0 := (D6.out.later hbr).cell
          have hbw := HB6.out.trans (hbr.mono (by omega))
          clear hlt hj
          by_cases hta : ta < 0
          · by_cases htb : tb < 0
            · go_wp2_with (go_at_call 23; (with_reducible refine (CT.out _ ?_).mono ?_); (· rw [HN.out, HN'.out]; exact HT.out.later (by repeat (first | (with_reducible exact Below.refl _ _) | (with_reducible assumption) | (with_reducible refine ba ?_) | (with_reducible refine bd ?_) | (with_reducible refine bdn ?_ _) | (with_reducible refine bset ?_ (by first | exact Nat.le_refl _ | omega | (simp; done) | (simp; omega))) | (with_reducible refine bt ?_ (by with_reducible assumption))))); rintro e w8 ⟨rfl, hb8⟩; have c8 := ((D6.out.later hbr).later hb8).cell)
              have hb68 : Below w6.heap.size w6 w8 := by repeat (first | (with_reducible exact Below.refl _ _) | (with_reducible assumption) | (with_reducible refine ba ?_) | (with_reducible refine bd ?_) | (with_reducible refine bdn ?_ _) | (with_reducible refine bset ?_ (by first | exact Nat.le_refl _ | omega | (simp; done) | (simp; omega))) | (with_reducible refine bt ?_ (by with_reducible assumption)))
              have D8 := Lib.hid (D6.out.later hb68)
              have HA8 := Lib.hid (HA6.out.later hb68)
              have HB8 := Lib.hid (HB6.out.trans (hb68.mono (by omega)))
              have hw8 : w.heap.size < w8.heap.size := D8.out.lt
              have HTA := Lib.hid hta
              have HTB := Lib.hid htb
              clear D6 HA6 HB6 hb68 hb8 hbr hw6 c0 c8 hbw hta htb HPN
              go_loopw [131] (fun jj wy => ∃ a : Nat, jj = .int .i64 a ∧ a ≤ k ∧ Below w8.heap.size w8 wy) (fun jj _ => k - (intOf jj).toNat)
              case atStart => exact ⟨0, rfl, Nat.zero_le _, Below.refl _ _⟩
              case round =>
                obtain ⟨a, rfl, ha, hbr⟩ := hrel
                have hbwr := HB8.out.trans (hbr.mono HB8.out.size)
                by_cases hla : a < k
                · obtain ⟨y, hy⟩ : ∃ y, zs[a]? = some y := ⟨_, List.getElem?_eq_getElem (by rw [← HN.out]; exact hla)⟩
                  obtain ⟨g1, o1, rfl, hg1, d1⟩ := HPZ.out a y hy
                  replace d1 := fun i u hu => (hbwr.cell (p := ⟨g1, o1 + a * 2 + i, none⟩) hg1).trans (d1 i u hu)
                  have x0 := d1 0 _ rfl
                  have x1 := d1 1 _ rfl
                  rw [Nat.add_zero] at x0
                  obtain ⟨q2, c2, hv2⟩ := (HZF.out y (List.mem_of_getElem? hy)).e.form
                  rw [hv2] at x1
                  clear hv2
                  generalize y.es.length = m2 at x1
                  have q1 : (a : Int) < (k : Int) := by omega
                  have hfk := fun W (hW : Below wr.heap.size wr W) => CF.out W p (HA8.out.later (hbr.trans (hW.mono hbr.size))) y.name (HZF.out y (List.mem_of_getElem? hy)).n
                  rw [HZO.out HTA.out HTB.out a y hy] at hfk
                  dsimp only at hfk
                  have HFK := Lib.hid hfk
                  clear hfk hy d1
                  go_wp2_with (go_at_call 21; (with_reducible refine (HFK.out _ ?_).mono ?_); (· repeat (first | (with_reducible exact Below.refl _ _) | (with_reducible assumption) | (with_reducible refine ba ?_) | (with_reducible refine bd ?_) | (with_reducible refine bdn ?_ _) | (with_reducible refine bset ?_ (by first | exact Nat.le_refl _ | omega | (simp; done) | (simp; omega))) | (with_reducible refine bt ?_ (by with_reducible assumption)))); rintro e w' ⟨rfl, rfl⟩)
                  go_roundw
                  case rel => exact ⟨a + 1, by go_num, by omega, by repeat (first | (with_reducible exact Below.refl _ _) | (with_reducible assumption) | (with_reducible refine ba ?_) | (with_reducible refine bd ?_) | (with_reducible refine bdn ?_ _) | (with_reducible refine bset ?_ (by first | exact Nat.le_refl _ | omega | (simp; done) | (simp; omega))) | (with_reducible refine bt ?_ (by with_reducible assumption)))⟩
                  case measure => simp [intOf]; omega
                · obtain rfl : a = k := by omega
                  have c0 := (D8.out.later hbr).cell
                  clear hla ha
                  go_wp2
                  obtain ⟨w9, hw9⟩ : ∃ V, V = wr := ⟨_, rfl⟩
                  rw [← hw9] at hbr c0 hbwr ⊢
                  clear hw9 wr
                  have HA9 := Lib.hid (HA8.out.later hbr)
                  have HB9 := Lib.hid hbwr
                  have hw9 : w.heap.size < w9.heap.size := by have := hbr.size; omega
                  clear D8 HA8 HB8 hbr hbwr hw8 c0
                  go_loopw [154] (fun jj wy => ∃ b : Nat, jj = .int .i64 b ∧ b ≤ n' ∧ Below w9.heap.size w9 wy) (fun jj _ => n' - (intOf jj).toNat)
                  case atStart => exact ⟨0, rfl, Nat.zero_le _, Below.refl _ _⟩
                  case round =>
                    obtain ⟨b, rfl, hb, hbr⟩ := hrel
                    have hbwr := HB9.out.trans (hbr.mono HB9.out.size)
                    by_cases hlb : b < n'
                    · obtain ⟨y, hy⟩ : ∃ y, ls[b]? = some y := ⟨_, List.getElem?_eq_getElem (by rw [← HN'.out]; exact hlb)⟩
                      obtain ⟨g1, o1, rfl, hg1, d1⟩ := HPL.out b y hy
                      replace d1 := fun i u hu => (hbwr.cell (p := ⟨g1, o1 + b * 2 + i, none⟩) hg1).trans (d1 i u hu)
                      have x0 := d1 0 _ rfl
                      have x1 := d1 1 _ rfl
                      rw [Nat.add_zero] at x0
                      have q1 : (b : Int) < (n' : Int) := by omega
                      have hfn := fun W (hW : Below wr.heap.size wr W) => CF.out W p (HA9.out.later (hbr.trans (hW.mono hbr.size))) y.name (HLF.out y (List.mem_of_getElem? hy)).n
                      have hft := fun W (hW : Below wr.heap.size wr W) => CF.out W p (HA9.out.later (hbr.trans (hW.mono hbr.size))) y.target (HLF.out y (List.mem_of_getElem? hy)).t
                      rw [HLO.out HTB.out b y hy] at hfn
                      generalize Bk.find Z ls y.target = F at hfn hft
                      obtain ⟨fa, fb⟩ := F
                      dsimp only at hfn hft
                      have HFN := Lib.hid hfn
                      have HFT := Lib.hid hft
                      clear hfn hft hy d1
                      obtain ⟨tg, nm⟩ := y
                      dsimp only at x0 x1 HFN HFT
                      go_wp2_with (first | (go_at_call 21; (with_reducible refine (HFN.out _ ?_).mono ?_); (· repeat (first | (with_reducible exact Below.refl _ _) | (with_reducible assumption) | (with_reducible refine ba ?_) | (with_reducible refine bd ?_) | (with_reducible refine bdn ?_ _) | (with_reducible refine bset ?_ (by first | exact Nat.le_refl _ | omega | (simp; done) | (simp; omega))) | (with_reducible refine bt ?_ (by with_reducible assumption)))); rintro e w' ⟨rfl, rfl⟩) | (go_at_call 21; (with_reducible refine (HFT.out _ ?_).mono ?_); (· repeat (first | (with_reducible exact Below.refl _ _) | (with_reducible assumption) | (with_reducible refine ba ?_) | (with_reducible refine bd ?_) | (with_reducible refine bdn ?_ _) | (with_reducible refine bset ?_ (by first | exact Nat.le_refl _ | omega | (simp; done) | (simp; omega))) | (with_reducible refine bt ?_ (by with_reducible assumption)))); rintro e w' ⟨rfl, rfl⟩))
                      go_roundw
                      case rel => exact ⟨b + 1, by go_num, by omega, by repeat (first | (with_reducible exact Below.refl _ _) | (with_reducible assumption) | (with_reducible refine ba ?_) | (with_reducible refine bd ?_) | (with_reducible refine bdn ?_ _) | (with_reducible refine bset ?_ (by first | exact Nat.le_refl _ | omega | (simp; done) | (simp; omega))) | (with_reducible refine bt ?_ (by with_reducible assumption)))⟩
                      case measure => simp [intOf]; omega
                    · obtain rfl : b = n' := by omega
                      clear hlb hb
                      go_wp2
                      go_ret
                      exact ⟨rfl, hbwr⟩
            · go_wp2_with (go_at_call 23; (with_reducible refine (CT.out _ ?_).mono ?_); (· rw [HN.out, HN'.out]; exact HT.out.later (by repeat (first | (with_reducible exact Below.refl _ _) | (with_reducible assumption) | (with_reducible refine ba ?_) | (with_reducible refine bd ?_) | (with_reducible refine bdn ?_ _) | (with_reducible refine bset ?_ (by first | exact Nat.le_refl _ | omega | (simp; done) | (simp; omega))) | (with_reducible refine bt ?_ (by with_reducible assumption))))); rintro e w8 ⟨rfl, hb8⟩; have c8 := ((D6.out.later hbr).later hb8).cell)
              go_ret
              exact ⟨rfl, hbw.trans (Below.mono (by repeat (first | (with_reducible exact Below.refl _ _) | (with_reducible assumption) | (with_reducible refine ba ?_) | (with_reducible refine bd ?_) | (with_reducible refine bdn ?_ _) | (with_reducible refine bset ?_ (by first | exact Nat.le_refl _ | omega | (simp; done) | (simp; omega))) | (with_reducible refine bt ?_ (by with_reducible assumption)))) hbw.size)⟩
          · go_wp2_with (go_at_call 23; (with_reducible refine (CT.out _ ?_).mono ?_); (· rw [HN.out, HN'.out]; exact HT.out.later (by repeat (first | (with_reducible exact Below.refl _ _) | (with_reducible assumption) | (with_reducible refine ba ?_) | (with_reducible refine bd ?_) | (with_reducible refine bdn ?_ _) | (with_reducible refine bset ?_ (by first | exact Nat.le_refl _ | omega | (simp; done) | (simp; omega))) | (with_reducible refine bt ?_ (by with_reducible assumption))))); rintro e w8 ⟨rfl, hb8⟩; have c8 := ((D6.out.later hbr).later hb8).cell)
            go_ret
            exact ⟨rfl, hbw.trans (Below.mono (by repeat (first | (with_reducible exact Below.refl _ _) | (with_reducible assumption) | (with_reducible refine ba ?_) | (with_reducible refine bd ?_) | (with_reducible refine bdn ?_ _) | (with_reducible refine bset ?_ (by first | exact Nat.le_refl _ | omega | (simp; done) | (simp; omega))) | (with_reducible refine bt ?_ (by with_reducible assumption)))) hbw.size)⟩
theorem named (t : TabV) (W : World) (h : HoldsT W t) :
    Calls Try.prog 6 #[.agg t.cells.toArray] W fun e w' => e = .returned (.bool true) ∧ Below W.heap.size W w' := names h
end BkT
end Go.Proofs.Ytcfmchpoclkpgaa
