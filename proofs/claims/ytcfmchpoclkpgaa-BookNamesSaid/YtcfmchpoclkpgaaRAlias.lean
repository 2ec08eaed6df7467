/-
  noontideref29.Alias and Twice.
-/
import Derived.Test.YtcfmchpoclkpgaaRNames
namespace Go.Proofs.Ytcfmchpoclkpgaa
open Go.RowKit NB
namespace Bk
/-- who is there already, and where it was first so -/
def twStep (st : List S × Int) (x : S) : List S × Int := (st.1 ++ [x], if st.2 < 0 ∧ (st.1.any fun y => decide (y = x)) = true then (st.1.length : Int) else st.2)
def tw (done l : List S) : List S × Int := l.foldl twStep (done, -1)
theorem tw_fst (done l : List S) : (tw done l).1 = done ++ l := by
  have h : ∀ (l : List S) (st : List S × Int), (l.foldl twStep st).1 = st.1 ++ l := by
    intro l
    induction l with
    | nil => intro st; simp
    | cons x r ih => intro st; rw [List.foldl_cons, ih]; simp [twStep]
  exact h l _
/-- the place in the list, -1 for none -/
def twice (done l : List S) : Int := if (tw done l).2 < 0 then -1 else (tw done l).2 - done.length
theorem tw_lo (done l : List S) : (tw done l).2 = -1 ∨ (done.length : Int) ≤ (tw done l).2 := by
  have h : ∀ (l : List S) (st : List S × Int), done.length ≤ st.1.length → (st.2 = -1 ∨ (done.length : Int) ≤ st.2) → ((l.foldl twStep st).2 = -1 ∨ (done.length : Int) ≤ (l.foldl twStep st).2) := by
    intro l
    induction l with
    | nil => intro st _ h; exact h
    | cons x r ih =>
      intro st h0 h
      rw [List.foldl_cons]
      refine ih _ (by simp [twStep]; omega) ?_
      unfold twStep
      dsimp only
      split
      · exact .inr (by omega)
      · exact h
  exact h l _ (Nat.le_refl _) (.inl rfl)
theorem tw_succ {done l : List S} {k : Nat} {x : S} (hx : l[k]? = some x) : tw done (l.take (k + 1)) = twStep (tw done (l.take k)) x := by
  unfold tw
  rw [List.take_add_one, hx, List.foldl_append]
  rfl
theorem twice_nil (done : List S) : twice done [] = -1 := rfl
theorem twice_succ {done l : List S} {k : Nat} {x : S} (hk : k < l.length) (hx : l[k]? = some x) : twice done (l.take (k + 1)) = if twice done (l.take k) < 0 ∧ ((done ++ l.take k).any fun y => decide (y = x)) = true then (k : Int) else twice done (l.take k) := by
  have h1 := tw_lo done (l.take k)
  have h3 : (done ++ l.take k).length = done.length + k := by rw [List.length_append, List.length_take, Nat.min_eq_left (Nat.le_of_lt hk)]
  unfold twice
  rw [tw_succ hx]
  unfold twStep
  rw [tw_fst, h3]
  dsimp only
  by_cases hm : ((done ++ l.take k).any fun y => decide (y = x)) = true
  · rcases h1 with h1 | h1
    · rw [h1]
      simp [hm]
      omega
    · have : ¬ (tw done (l.take k)).2 < 0 := by omega
      have h5 : ¬ ((tw done (l.take k)).2 - done.length < 0) := by omega
      simp only [this, false_and, if_false, h5]
  · simp only [hm, and_false, if_false]
    simp
end Bk
namespace RBk
open Eqs
def alia (zs : List ByteArray) (ls : List LinkV) (z : Int) (l : List ByteArray) : List ByteArray := l.filter fun s => decide ((Bk.find zs ls s).1 = z)
theorem alia_yes {zs : List ByteArray} {ls : List LinkV} {z : Int} {l : List ByteArray} {k : Nat} {x : ByteArray} (hx : l[k]? = some x) (h : (Bk.find zs ls x).1 = z) : alia zs ls z (l.take (k + 1)) = alia zs ls z (l.take k) ++ [x] := by
  unfold alia
  rw [List.take_add_one, hx, List.filter_append]
  simp [h]
theorem alia_no {zs : List ByteArray} {ls : List LinkV} {z : Int} {l : List ByteArray} {k : Nat} {x : ByteArray} (hx : l[k]? = some x) (h : ¬ (Bk.find zs ls x).1 = z) : alia zs ls z (l.take (k + 1)) = alia zs ls z (l.take k) := by
  unfold alia
  rw [List.take_add_one, hx, List.filter_append]
  simp [h]
set_option maxRecDepth 100000 in
set_option maxHeartbeats 6400000 in
theorem Alias {w : World} {t : TabV} (h : HoldsT w t) (hzs : t.zs.length ≤ 16) (hls : t.ls.length ≤ 16) (z : Int) :
    Calls Try.prog 29 #[.agg #[t.rv, t.zv, t.lv], .int .i64 z] w fun e w' => ∃ v', e = .returned v' ∧ OwnS w' w.heap.size v' (Bk.ralias (zn t) t.ls z) ∧ Below w.heap.size w w' := by
  obtain ⟨i0, hi, hz0, hz1, hz2⟩ := info_parts infoS
  have hfind : ∀ (W : World) (s : ByteArray), Below w.heap.size w W → Calls Try.prog 22 #[.agg #[t.rv, t.zv, t.lv], .string s] W fun e w' => e = .returned (pairV (Bk.find (zn t) t.ls s)) ∧ Below W.heap.size W w' :=
    fun W s hW => Find (h.later hW) (by omega) s
  have hnam : ∀ (W : World), Below w.heap.size w W → Calls Try.prog 27 #[.agg #[t.rv, t.zv, t.lv]] W fun e w' => ∃ v', e = .returned v' ∧ OwnS w' W.heap.size v' (Bk.rnames (zn t) t.ls) ∧ Below W.heap.size W w' :=
    fun W hW => Names (h.later hW) hzs hls
  obtain ⟨R, hR⟩ : ∃ R, R = Bk.ralias (zn t) t.ls z := ⟨_, rfl⟩
  rw [← hR]
  have hRl : (Bk.rnames (zn t) t.ls).length ≤ 32 := by
    have h1 := out_len (zn t) t.ls (zn t ++ t.ls.map LinkV.name)
    have h2 : (zn t ++ t.ls.map LinkV.name).length ≤ 32 := by unfold zn; simp; omega
    exact Nat.le_trans h1 h2
  obtain ⟨Z, hZ⟩ : ∃ Z, Z = zn t := ⟨_, rfl⟩
  rw [← hZ] at hR hfind hnam hRl
  obtain ⟨ALL, hALL⟩ : ∃ L, L = Bk.rnames Z t.ls := ⟨_, rfl⟩
  have hRR : R = alia Z t.ls z ALL := by rw [hR, hALL]; rfl
  rw [← hALL] at hnam hRl
  obtain ⟨pr, cr, e1⟩ := h.r.form
  obtain ⟨pz, cz, e2⟩ := h.z.form
  obtain ⟨pl, cl, e3⟩ := h.l.form
  rw [e1, e2, e3] at hfind hnam ⊢
  generalize t.rs.length = nr at *
  generalize t.zs.length = nz at *
  generalize t.ls.length = nl at *
  generalize t.ls = ls at *
  have HF := Lib.hid hfind; have HN := Lib.hid hnam; have HRR := Lib.hid hRR
  have HI := Lib.hid hi; have HZ0 := Lib.hid hz0; have HZ1 := Lib.hid hz1; have HZ2 := Lib.hid hz2
  clear hfind hnam hR hZ hALL hRR e1 e2 e3 hi hz0 hz1 hz2 h
  obtain ⟨N, hN⟩ : ∃ N, N = ALL.length := ⟨_, rfl⟩
  rw [← hN] at hRl
  have HLEN := Lib.hid hN
  clear hN
  have hb0 := Box.new w #[.slice pr nr cr, .slice pz nz cz, .slice pl nl cl] 26
  go_enter Try.func29, Try.ntmps29
  go_wp2_with (go_at_call 27; refine (HN.out _ (by repeat (first | (with_reducible exact Below.refl _ _) | (with_reducible assumption) | (with_reducible refine ba ?_) | (with_reducible refine bd ?_) | (with_reducible refine bdn ?_ _) | (with_reducible refine bset ?_ (by first | exact Nat.le_refl _ | omega | (simp; done) | (simp; omega))) | (with_reducible refine bt ?_ (by with_reducible assumption))))).mono ?_; rintro e w1 ⟨v1, rfl, hown1, hb1⟩; obtain ⟨pa, ca, rfl, hpa⟩ := (HoldsS.of_own hown1).pk1; rw [← HLEN.out])
  have hba := hb0.later hb1
  have hbw : Below w.heap.size w w1 := by repeat (first | (with_reducible exact Below.refl _ _) | (with_reducible assumption) | (with_reducible refine ba ?_) | (with_reducible refine bd ?_) | (with_reducible refine bdn ?_ _) | (with_reducible refine bset ?_ (by first | exact Nat.le_refl _ | omega | (simp; done) | (simp; omega))) | (with_reducible refine bt ?_ (by with_reducible assumption)))
  have HPA := Lib.hid hpa; have HB := Lib.hid hbw
  have hsz1 : w.heap.size < w1.heap.size := hba.lt
  clear hpa hown1 hb1 hb0 hbw
  go_loopw [13, 5] (fun i o wy => ∃ (j m : Nat) (v : Value), i = .int .i64 j ∧ o = v ∧ j ≤ N ∧ m ≤ j ∧ Below w1.heap.size w1 wy ∧ Hid (OwnR wy w1.heap.size v m (alia Z ls z (ALL.take j)))) (fun i _ _ => N - (intOf i).toNat)
  case atStart => exact ⟨0, 0, _, rfl, rfl, Nat.zero_le _, Nat.zero_le _, Below.refl _ _, World.ownsRow_nil _ _ _ _⟩
  case round =>
    obtain ⟨i, m, v, rfl, rfl, hi, hm, hbr, HO⟩ := hrel
    have hbx := hba.later hbr
    have c0 := hbx.cell
    have hm1 := hbx.lt
    have hszr := hbr.size
    by_cases hlti : i < N
    · obtain ⟨x, hx⟩ : ∃ x, ALL[i]? = some x := ⟨_, List.getElem?_eq_getElem (by rw [← HLEN.out]; exact hlti)⟩
      obtain ⟨g1, o1, rfl, hg1, d1⟩ := HPA.out i x hx
      replace d1 := (hbr.cell (p := ⟨g1, o1 + i, none⟩) hg1).trans d1
      have q1 : (i : Int) < (N : Int) := by omega
      have hf := HF.out wr x (HB.out.trans (hbr.mono (by omega)))
      obtain ⟨f, hfe⟩ : ∃ f, f = Bk.find Z ls x := ⟨_, rfl⟩
      rw [← hfe] at hf
      unfold pairV at hf
      obtain ⟨f1, f2⟩ := f
      dsimp only at hf
      by_cases h0 : f1 = z
      · have HX : Hid (alia Z ls z (ALL.take (i + 1)) = alia Z ls z (ALL.take i) ++ [x]) := alia_yes hx (by rw [← hfe]; exact h0)
        have q2 : (f1 == z) = true := by simpa using h0
        clear hfe hx
        have H0 := Lib.hid h0
        clear h0
        go_wp2_with (first
          | (go_at_call 22; refine hf.mono ?_; rintro e w4 ⟨rfl, hb4⟩; have hsz4 := hb4.size)
          | (at_builtin; refine wpList_append_own _ rfl _ _ 48 rfl (w1.heap.size) 9 i0 _ 1 16 Try.underlying48 HI.out HZ0.out HZ1.out HZ2.out rfl (by decide) _ _ _ rfl (World.ownsRow.alloc (own_lat HO.out hb4) _) ⟨_, 0, none⟩ 1 1 [.string x] rfl rfl (cell_one_at (by simp)) (by simp [Value.oneCell']) (by unfold maxLen; omega) (by omega) (by simp; omega) ?_; intro v5 w5 hown5 hgrow5 _))
        have HX2 : Hid (OwnR w5 w1.heap.size v5 (m + 1) (alia Z ls z (ALL.take (i + 1)))) := by
          rw [HX.out]
          exact OwnR.snoc hown5
        have hb5 : Below w1.heap.size w1 w5 := Below.grown (ba (bt hbr hb4)) hgrow5 (by simp; omega) (fun j hj => (HO.out.lt j hj).1)
        clear hown5 hgrow5 hb4
        go_roundw
        case rel => exact ⟨i + 1, m + 1, v5, by go_num, rfl, by omega, by omega, hb5, HX2⟩
        case measure => simp [intOf]; omega
      · have HX : Hid (alia Z ls z (ALL.take (i + 1)) = alia Z ls z (ALL.take i)) := alia_no hx (by rw [← hfe]; exact h0)
        have q2 : (f1 == z) = false := by simpa using h0
        clear hfe hx
        go_wp2_with (go_at_call 22; refine hf.mono ?_; rintro e w4 ⟨rfl, hb4⟩)
        go_roundw
        case rel => exact ⟨i + 1, m, _, by go_num, rfl, by omega, by omega, by repeat (first | (with_reducible exact Below.refl _ _) | (with_reducible assumption) | (with_reducible refine ba ?_) | (with_reducible refine bd ?_) | (with_reducible refine bdn ?_ _) | (with_reducible refine bset ?_ (by first | exact Nat.le_refl _ | omega | (simp; done) | (simp; omega))) | (with_reducible refine bt ?_ (by with_reducible assumption))), by rw [HX.out]; exact own_lat HO.out hb4⟩
        case measure => simp [intOf]; omega
    · obtain rfl : i = N := by omega
      have hO := HO.out
      rw [List.take_of_length_le (by rw [← HLEN.out]; exact Nat.le_refl _), ← HRR.out] at hO
      have HO2 := Lib.hid hO
      clear hO HO
      go_wp2
      go_ret
      exact ⟨_, rfl, own_lower (OwnR.s HO2.out) (by omega), HB.out.trans (hbr.mono (by omega))⟩
end RBk
end Go.Proofs.Ytcfmchpoclkpgaa
