/-
  noontidelaw29.BookTells returns true.
-/
import Derived.Test.YtcfmchpoclkpgaaBLive
import Derived.Test.YtcfmchpoclkpgaaLightT
import Derived.Test.YtcfmchpoclkpgaaLess
import Derived.Deep.RegionHeld3
namespace Go.Proofs.Ytcfmchpoclkpgaa
open Go.RowKit NB
namespace BkT
theorem light_len {t : TabV} (h : Eqs.lightT t = true) : t.zs.length ≤ 10 ∧ t.ls.length ≤ 16 := by
  unfold Eqs.lightT at h
  simp only [Bool.and_eq_true, decide_eq_true_eq] at h
  exact ⟨h.2.1, h.2.2.1⟩
theorem same {W : World} {u v : Value} {l : List ByteArray} (h : HoldsS W u l) (h' : HoldsS W v l) : Calls Try.prog 25 #[u, v] W fun e w' => e = .returned (.bool true) ∧ Below W.heap.size W w' := by
  have := Strs.Same h h'
  rwa [decide_eq_true rfl] at this
theorem holds {f : Nat} {args : Array Value} {W : World} {l : List ByteArray} (h : Calls Try.prog f args W fun e w' => ∃ v', e = .returned v' ∧ OwnS w' W.heap.size v' l ∧ Below W.heap.size W w') :
    Calls Try.prog f args W fun e w' => ∃ v', e = .returned v' ∧ HoldsS w' v' l ∧ Below W.heap.size W w' :=
  h.mono (fun _ _ ⟨v, h1, h2, h3⟩ => ⟨v, h1, HoldsS.of_own h2, h3⟩)
set_option maxRecDepth 100000 in
set_option maxHeartbeats 6400000 in
theorem tells {w : World} {t : TabV} (h : HoldsT w t) (s : ByteArray) (hs : s.size ≤ 9223372036854775807) (z : Int) :
    Calls Try.prog 5 #[.agg #[t.rv, t.zv, t.lv], .string s, .int .i64 z] w fun e w' => e = .returned (.bool true) ∧ Below w.heap.size w w' := by
  have c1 := fun W (h : HoldsT W t) => Eqs.Light h
  have HT := Lib.hid h
  have hlv := BkL.lives
  cases h1 : Eqs.lightT t
  · rw [h1] at c1
    have C1 := Lib.hid c1
    have HLV := Lib.hid hlv
    clear c1 h h1 hlv
    obtain ⟨rv, zv, lv, rs, zs, ls⟩ := t
    go_enter Try.func5, Try.ntmps5
    go_wp2_with (first
      | (go_at_call 9; (with_reducible refine (C1.out _ ?_).mono ?_); (· exact HT.out.later (by repeat (first | (with_reducible exact Below.refl _ _) | (with_reducible assumption) | (with_reducible refine ba ?_) | (with_reducible refine bd ?_) | (with_reducible refine bdn ?_ _) | (with_reducible refine bset ?_ (by first | exact Nat.le_refl _ | omega | (simp; done) | (simp; omega))) | (with_reducible refine bt ?_ (by with_reducible assumption))))); rintro e w1 ⟨rfl, hb1⟩; obtain ⟨hc1, hf1⟩ := bcell hb1)
      | (go_at_call 19; (with_reducible refine (HLV.out _).mono ?_); rintro e w2 ⟨rfl, hb2⟩; obtain ⟨hc2, hf2⟩ := bcell hb2))
    go_ret
    exact ⟨rfl, by repeat (first | (with_reducible exact Below.refl _ _) | (with_reducible assumption) | (with_reducible refine ba ?_) | (with_reducible refine bd ?_) | (with_reducible refine bdn ?_ _) | (with_reducible refine bset ?_ (by first | exact Nat.le_refl _ | omega | (simp; done) | (simp; omega))) | (with_reducible refine bt ?_ (by with_reducible assumption)))⟩
  rw [h1] at c1
  obtain ⟨hzl, hll⟩ := light_len h1
  by_cases h2 : s.size ≤ 500
  · have cN := fun W (h : HoldsT W t) => BkN.New h (by omega) (by omega)
    obtain ⟨fa, fb, hF⟩ : ∃ fa fb, Bk.find (RBk.zn t) t.ls s = (fa, fb) := ⟨_, _, rfl⟩
    have hzn : (RBk.zn t).length ≤ 10 := by unfold RBk.zn; rw [List.length_map]; exact hzl
    have hfit : ∀ x ∈ t.ls, x.target.size ≤ 9223372036854775807 := fun x hx => (h.lf x hx).t
    have cF := fun W p (h : BkW.At W p (RBk.zn t) t.ls) => BkL.find h (by omega) (by omega) hfit s hs
    have cG := fun W (h : HoldsT W t) => RBk.Find h (by omega) s
    unfold RBk.findR at cG
    unfold RBk.pairV at cF cG
    rw [hF] at cF cG
    dsimp only at cF cG
    obtain ⟨ta, hta⟩ : ∃ ta, Bk.twice [] (RBk.zn t) = ta := ⟨_, rfl⟩
    obtain ⟨tb, htb⟩ : ∃ tb, Bk.twice (RBk.zn t) (t.ls.map LinkV.name) = tb := ⟨_, rfl⟩
    have cT := fun W (h : HoldsT W t) => BkW.Twice h (by omega) (by omega)
    have cU := fun W (h : HoldsT W t) => RBk.Twice h (by omega) (by omega)
    unfold RBk.twiceV at cT cU
    rw [hta, htb] at cT cU
    have hk1 : (Bk.pall (RBk.zn t) t.ls).flatten.length ≤ 100000 := by have := Bk.pall_len (RBk.zn t) t.ls; omega
    have hk2 : (Bk.keys (RBk.zn t) t.ls).length ≤ 100000 := by have := Bk.keys_len (RBk.zn t) t.ls; omega
    have cA := fun W p (h : BkW.At W p (RBk.zn t) t.ls) => holds (BkW.Names h (by omega) hk1)
    rw [Bk.names_eq] at cA
    have cB := fun W (h : HoldsT W t) => holds (RBk.Names h (by omega) (by omega))
    have cC := fun W p (h : BkW.At W p (RBk.zn t) t.ls) => holds (BkW.Alias h (by omega) hk2 z)
    rw [Bk.alias_eq] at cC
    have cD := fun W (h : HoldsT W t) => holds (RBk.Alias h (by omega) (by omega) z)
    have cS := fun W u v (h : HoldsS W u (Bk.rnames (RBk.zn t) t.ls)) (h' : HoldsS W v (Bk.rnames (RBk.zn t) t.ls)) => same h h'
    have cS' := fun W u v (h : HoldsS W u (Bk.ralias (RBk.zn t) t.ls z)) (h' : HoldsS W v (Bk.ralias (RBk.zn t) t.ls z)) => same h h'
    have CN := Lib.hid cN
    have CF := Lib.hid cF
    have CG := Lib.hid cG
    have CT := Lib.hid cT
    have CU := Lib.hid cU
    have CA := Lib.hid cA
    have CB := Lib.hid cB
    have CC := Lib.hid cC
    have CD := Lib.hid cD
    have CS := Lib.hid cS
    have CZ := Lib.hid cS'
    have C1 := Lib.hid c1
    have HLV := Lib.hid hlv
    clear c1 cN cF cG cT cU cA cB cC cD cS cS' h h1 hlv hF hta htb hk1 hk2 hzn hfit hzl hll
    generalize RBk.zn t = zn at *
    obtain ⟨rv, zv, lv, rs, zs, ls⟩ := t
    go_enter Try.func5, Try.ntmps5
    go_upto_region 10 with (first
      | (go_at_call 9; (with_reducible refine (C1.out _ ?_).mono ?_); (· exact HT.out.later (by repeat (first | (with_reducible exact Below.refl _ _) | (with_reducible assumption) | (with_reducible refine ba ?_) | (with_reducible refine bd ?_) | (with_reducible refine bdn ?_ _) | (with_reducible refine bset ?_ (by first | exact Nat.le_refl _ | omega | (simp; done) | (simp; omega))) | (with_reducible refine bt ?_ (by with_reducible assumption))))); rintro e w1 ⟨rfl, hb1⟩; obtain ⟨hc1, hf1⟩ := bcell hb1; have hc1_0 := fun o => hc1 (w.heap.size) o (by first | assumption | omega | (simp; done) | (simp; omega)); have hf1_0 := fun o => hf1 (w.heap.size) o (by first | assumption | omega | (simp; done) | (simp; omega)); clear hc1 hf1; have hz1_0 : w.heap.size < w1.heap.size := (by first | exact sz1 hb1 | exact sz2 hb1 | exact sz3 hb1 | (have := hb1.size; (try simp only [World.size_alloc, World.size_drew] at this); omega)))
      | (go_at_call 20; (with_reducible refine (CN.out _ ?_).mono ?_); (· exact HT.out.later (by repeat (first | (with_reducible exact Below.refl _ _) | (with_reducible assumption) | (with_reducible refine ba ?_) | (with_reducible refine bd ?_) | (with_reducible refine bdn ?_ _) | (with_reducible refine bset ?_ (by first | exact Nat.le_refl _ | omega | (simp; done) | (simp; omega))) | (with_reducible refine bt ?_ (by with_reducible assumption))))); rintro e w2 ⟨p, rfl, hAt, hb2⟩; obtain ⟨hc2, hf2⟩ := bcell hb2; have hc2_0 := fun o => hc2 (w.heap.size) o (by first | assumption | omega | (simp; done) | (simp; omega)); have hf2_0 := fun o => hf2 (w.heap.size) o (by first | assumption | omega | (simp; done) | (simp; omega)); clear hc2 hf2; have hz2_0 : w.heap.size < w2.heap.size := (by first | exact sz1 hb2 | exact sz2 hb2 | exact sz3 hb2 | (have := hb2.size; (try simp only [World.size_alloc, World.size_drew] at this); omega)); have HA := Lib.hid hAt; clear hAt)
      | (go_at_call 21; (with_reducible refine (CF.out _ _ ?_).mono ?_); (· exact HA.out); rintro e w' ⟨rfl, rfl⟩)
      | (go_at_call 22; (with_reducible refine (CG.out _ ?_).mono ?_); (· exact HT.out.later (by repeat (first | (with_reducible exact Below.refl _ _) | (with_reducible assumption) | (with_reducible refine ba ?_) | (with_reducible refine bd ?_) | (with_reducible refine bdn ?_ _) | (with_reducible refine bset ?_ (by first | exact Nat.le_refl _ | omega | (simp; done) | (simp; omega))) | (with_reducible refine bt ?_ (by with_reducible assumption))))); rintro e w3 ⟨rfl, hb3⟩; obtain ⟨hc3, hf3⟩ := bcell hb3; have hc3_0 := fun o => hc3 (w.heap.size) o (by first | assumption | omega | (simp; done) | (simp; omega)); have hf3_0 := fun o => hf3 (w.heap.size) o (by first | assumption | omega | (simp; done) | (simp; omega)); clear hc3 hf3; have hz3_0 : w.heap.size < w3.heap.size := (by first | exact sz1 hb3 | exact sz2 hb3 | exact sz3 hb3 | (have := hb3.size; (try simp only [World.size_alloc, World.size_drew] at this); omega)))
      | (go_at_call 23; (with_reducible refine (CT.out _ ?_).mono ?_); (· exact HT.out.later (by repeat (first | (with_reducible exact Below.refl _ _) | (with_reducible assumption) | (with_reducible refine ba ?_) | (with_reducible refine bd ?_) | (with_reducible refine bdn ?_ _) | (with_reducible refine bset ?_ (by first | exact Nat.le_refl _ | omega | (simp; done) | (simp; omega))) | (with_reducible refine bt ?_ (by with_reducible assumption))))); rintro e w4 ⟨rfl, hb4⟩; obtain ⟨hc4, hf4⟩ := bcell hb4; have hc4_0 := fun o => hc4 (w.heap.size) o (by first | assumption | omega | (simp; done) | (simp; omega)); have hf4_0 := fun o => hf4 (w.heap.size) o (by first | assumption | omega | (simp; done) | (simp; omega)); clear hc4 hf4; have hz4_0 : w.heap.size < w4.heap.size := (by first | exact sz1 hb4 | exact sz2 hb4 | exact sz3 hb4 | (have := hb4.size; (try simp only [World.size_alloc, World.size_drew] at this); omega)))
      | (go_at_call 24; (with_reducible refine (CU.out _ ?_).mono ?_); (· exact HT.out.later (by repeat (first | (with_reducible exact Below.refl _ _) | (with_reducible assumption) | (with_reducible refine ba ?_) | (with_reducible refine bd ?_) | (with_reducible refine bdn ?_ _) | (with_reducible refine bset ?_ (by first | exact Nat.le_refl _ | omega | (simp; done) | (simp; omega))) | (with_reducible refine bt ?_ (by with_reducible assumption))))); rintro e w5 ⟨rfl, hb5⟩; obtain ⟨hc5, hf5⟩ := bcell hb5; have hc5_0 := fun o => hc5 (w.heap.size) o (by first | assumption | omega | (simp; done) | (simp; omega)); have hf5_0 := fun o => hf5 (w.heap.size) o (by first | assumption | omega | (simp; done) | (simp; omega)); clear hc5 hf5; have hz5_0 : w.heap.size < w5.heap.size := (by first | exact sz1 hb5 | exact sz2 hb5 | exact sz3 hb5 | (have := hb5.size; (try simp only [World.size_alloc, World.size_drew] at this); omega))))
    have D := (((((Box.new w #[rv, zv, lv] 26).later hb1).later hb2).later hb3).later hb4).later hb5
    have HF := Lib.hid (fun (V : World) (hV : Below w5.heap.size w5 V) => (D.later hV).cell)
    have HB := Lib.hid (show Below w.heap.size w w5 by repeat (first | (with_reducible exact Below.refl _ _) | (with_reducible assumption) | (with_reducible refine ba ?_) | (with_reducible refine bd ?_) | (with_reducible refine bdn ?_ _) | (with_reducible refine bset ?_ (by first | exact Nat.le_refl _ | omega | (simp; done) | (simp; omega))) | (with_reducible refine bt ?_ (by with_reducible assumption))))
    have HA5 := Lib.hid ((((HA.out.later hb3).later hb4).later hb5))
    have HT5 := Lib.hid (HT.out.later HB.out)
    clear HA HT D hb1 hb2 hb3 hb4 hb5 hc1_0 hf1_0 hz1_0 hc2_0 hf2_0 hz2_0 hc3_0 hf3_0 hz3_0 hc4_0 hf4_0 hz4_0 hc5_0 hf5_0 hz5_0
    go_region_held3 (fun w' => ∀ j, w'.cell? ⟨w.heap.size, j, none⟩ = (#[rv, zv, lv] : Array Value)[j]?) ((refine HF.out _ ?_; repeat (first | (with_reducible exact Below.refl _ _) | (with_reducible assumption) | (with_reducible refine ba ?_) | (with_reducible refine bd ?_) | (with_reducible refine bdn ?_ _) | (with_reducible refine bset ?_ (by first | exact Nat.le_refl _ | omega | (simp; done) | (simp; omega))) | (with_reducible refine bt ?_ (by with_reducible assumption))))) (first
      | (go_at_call 26; (with_reducible refine (CA.out _ _ ?_).mono ?_); (· exact HA5.out.later (by repeat (first | (with_reducible exact Below.refl _ _) | (with_reducible assumption) | (with_reducible refine ba ?_) | (with_reducible refine bd ?_) | (with_reducible refine bdn ?_ _) | (with_reducible refine bset ?_ (by first | exact Nat.le_refl _ | omega | (simp; done) | (simp; omega))) | (with_reducible refine bt ?_ (by with_reducible assumption))))); rintro e w6 ⟨v6, rfl, hl6, hb6⟩; have HL6 := Lib.hid hl6; clear hl6)
      | (go_at_call 27; (with_reducible refine (CB.out _ ?_).mono ?_); (· exact HT5.out.later (by repeat (first | (with_reducible exact Below.refl _ _) | (with_reducible assumption) | (with_reducible refine ba ?_) | (with_reducible refine bd ?_) | (with_reducible refine bdn ?_ _) | (with_reducible refine bset ?_ (by first | exact Nat.le_refl _ | omega | (simp; done) | (simp; omega))) | (with_reducible refine bt ?_ (by with_reducible assumption))))); rintro e w7 ⟨v7, rfl, hl7, hb7⟩; have HL7 := Lib.hid hl7; clear hl7)
      | (go_at_call 25; (with_reducible refine (CS.out _ _ _ ?_ ?_).mono ?_); (· exact HoldsG.later HL6.out (by repeat (first | (with_reducible exact Below.refl _ _) | (with_reducible assumption) | (with_reducible refine ba ?_) | (with_reducible refine bd ?_) | (with_reducible refine bdn ?_ _) | (with_reducible refine bset ?_ (by first | exact Nat.le_refl _ | omega | (simp; done) | (simp; omega))) | (with_reducible refine bt ?_ (by with_reducible assumption))))); (· exact HoldsG.later HL7.out (by repeat (first | (with_reducible exact Below.refl _ _) | (with_reducible assumption) | (with_reducible refine ba ?_) | (with_reducible refine bd ?_) | (with_reducible refine bdn ?_ _) | (with_reducible refine bset ?_ (by first | exact Nat.le_refl _ | omega | (simp; done) | (simp; omega))) | (with_reducible refine bt ?_ (by with_reducible assumption))))); rintro e w8 ⟨rfl, hb8⟩; obtain ⟨hc8, hf8⟩ := bcell hb8)
      | (go_at_call 28; (with_reducible refine (CC.out _ _ ?_).mono ?_); (· exact HA5.out.later (by repeat (first | (with_reducible exact Below.refl _ _) | (with_reducible assumption) | (with_reducible refine ba ?_) | (with_reducible refine bd ?_) | (with_reducible refine bdn ?_ _) | (with_reducible refine bset ?_ (by first | exact Nat.le_refl _ | omega | (simp; done) | (simp; omega))) | (with_reducible refine bt ?_ (by with_reducible assumption))))); rintro e w9 ⟨v9, rfl, hl9, hb9⟩; have HL9 := Lib.hid hl9; clear hl9)
      | (go_at_call 29; (with_reducible refine (CD.out _ ?_).mono ?_); (· exact HT5.out.later (by repeat (first | (with_reducible exact Below.refl _ _) | (with_reducible assumption) | (with_reducible refine ba ?_) | (with_reducible refine bd ?_) | (with_reducible refine bdn ?_ _) | (with_reducible refine bset ?_ (by first | exact Nat.le_refl _ | omega | (simp; done) | (simp; omega))) | (with_reducible refine bt ?_ (by with_reducible assumption))))); rintro e w10 ⟨v10, rfl, hl10, hb10⟩; have HL10 := Lib.hid hl10; clear hl10)
      | (go_at_call 25; (with_reducible refine (CZ.out _ _ _ ?_ ?_).mono ?_); (· exact HoldsG.later HL9.out (by repeat (first | (with_reducible exact Below.refl _ _) | (with_reducible assumption) | (with_reducible refine ba ?_) | (with_reducible refine bd ?_) | (with_reducible refine bdn ?_ _) | (with_reducible refine bset ?_ (by first | exact Nat.le_refl _ | omega | (simp; done) | (simp; omega))) | (with_reducible refine bt ?_ (by with_reducible assumption))))); (· exact HoldsG.later HL10.out (by repeat (first | (with_reducible exact Below.refl _ _) | (with_reducible assumption) | (with_reducible refine ba ?_) | (with_reducible refine bd ?_) | (with_reducible refine bdn ?_ _) | (with_reducible refine bset ?_ (by first | exact Nat.le_refl _ | omega | (simp; done) | (simp; omega))) | (with_reducible refine bt ?_ (by with_reducible assumption))))); rintro e w11 ⟨rfl, hb11⟩; obtain ⟨hc11, hf11⟩ := bcell hb11)
      | (go_at_call 19; (with_reducible refine (HLV.out _).mono ?_); rintro e w12 ⟨rfl, hb12⟩; obtain ⟨hc12, hf12⟩ := bcell hb12))
    go_wp2
    go_ret
    exact ⟨rfl, HB.out.trans (Below.mono (by repeat (first | (with_reducible exact Below.refl _ _) | (with_reducible assumption) | (with_reducible refine ba ?_) | (with_reducible refine bd ?_) | (with_reducible refine bdn ?_ _) | (with_reducible refine bset ?_ (by first | exact Nat.le_refl _ | omega | (simp; done) | (simp; omega))) | (with_reducible refine bt ?_ (by with_reducible assumption)))) HB.out.size)⟩
  · have C1 := Lib.hid c1
    have HLV := Lib.hid hlv
    clear c1 h h1 hlv hzl hll
    have h3 : 500 < s.size := by omega
    clear h2
    obtain ⟨rv, zv, lv, rs, zs, ls⟩ := t
    go_enter Try.func5, Try.ntmps5
    go_wp2_with (first
      | (go_at_call 9; (with_reducible refine (C1.out _ ?_).mono ?_); (· exact HT.out.later (by repeat (first | (with_reducible exact Below.refl _ _) | (with_reducible assumption) | (with_reducible refine ba ?_) | (with_reducible refine bd ?_) | (with_reducible refine bdn ?_ _) | (with_reducible refine bset ?_ (by first | exact Nat.le_refl _ | omega | (simp; done) | (simp; omega))) | (with_reducible refine bt ?_ (by with_reducible assumption))))); rintro e w1 ⟨rfl, hb1⟩; obtain ⟨hc1, hf1⟩ := bcell hb1)
      | (go_at_call 19; (with_reducible refine (HLV.out _).mono ?_); rintro e w2 ⟨rfl, hb2⟩; obtain ⟨hc2, hf2⟩ := bcell hb2))
    go_ret
    exact ⟨rfl, by repeat (first | (with_reducible exact Below.refl _ _) | (with_reducible assumption) | (with_reducible refine ba ?_) | (with_reducible refine bd ?_) | (with_reducible refine bdn ?_ _) | (with_reducible refine bset ?_ (by first | exact Nat.le_refl _ | omega | (simp; done) | (simp; omega))) | (with_reducible refine bt ?_ (by with_reducible assumption)))⟩
theorem told (t : TabV) (s : ByteArray) (z : Int) (W : World) (h : HoldsT W t) (hs : s.size ≤ 9223372036854775807) (_ : I64 z) :
    Calls Try.prog 5 #[.agg t.cells.toArray, .string s, .int .i64 z] W fun e w' => e = .returned (.bool true) ∧ Below W.heap.size W w' := tells h s hs z
end BkT
end Go.Proofs.Ytcfmchpoclkpgaa
