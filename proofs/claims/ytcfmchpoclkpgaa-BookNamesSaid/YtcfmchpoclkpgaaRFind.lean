/-
  noontideref23.step and Follow, noontideref29.Find and has.
-/
import Derived.Test.YtcfmchpoclkpgaaStrs
import Derived.Test.YtcfmchpoclkpgaaBookP
namespace Go.Proofs.Ytcfmchpoclkpgaa
open Go.RowKit NB
namespace RBk
open Eqs
theorem step_none {ls : List LinkV} {s : ByteArray} {k : Nat} {x : LinkV} (h : Bk.step (ls.take k) s = none) (hx : ls[k]? = some x) (hn : x.name ≠ s) : Bk.step (ls.take (k + 1)) s = none := by
  unfold Bk.step at *
  rw [List.take_add_one, hx, List.find?_append]
  rw [Option.map_eq_none_iff] at h
  simp [h, hn]
theorem step_some {ls : List LinkV} {s : ByteArray} {k : Nat} {x : LinkV} (h : Bk.step (ls.take k) s = none) (hx : ls[k]? = some x) (hn : x.name = s) : Bk.step ls s = some x.target := by
  unfold Bk.step at *
  rw [Option.map_eq_none_iff] at h
  have e := List.take_append_drop k ls
  rw [List.drop_eq_getElem?_toList_append, hx] at e
  rw [← e, List.find?_append, h]
  simp [hn]
def stepV (o : Option ByteArray) : Value := .tuple #[.string (o.getD ⟨#[]⟩), .bool o.isSome]
set_option maxRecDepth 100000 in
set_option maxHeartbeats 3200000 in
theorem step {w : World} {v : Value} {ls : List LinkV} (h : HoldsG 2 LinkV.cells w v ls) (s : ByteArray) :
    Calls Try.prog 95 #[v, .string s] w fun e w' => e = .returned (stepV (Bk.step ls s)) ∧ Below w.heap.size w w' := by
  have l1 := h.len
  obtain ⟨p, cap, rfl, hp⟩ := h.pk
  obtain ⟨n, hn⟩ : ∃ n, n = ls.length := ⟨_, rfl⟩
  rw [← hn] at l1 ⊢
  have HN := Lib.hid hn; have HP := Lib.hid hp
  clear hn hp h
  go_enter Try.func95, Try.ntmps95
  go_wp2
  go_loopw [10] (fun i wr => ∃ k : Nat, i = .int .i64 k ∧ k ≤ n ∧ Below w.heap.size w wr ∧ Hid (Bk.step (ls.take k) s = none)) (fun i _ => n - (intOf i).toNat)
  case atStart => exact ⟨0, rfl, Nat.zero_le _, Below.refl _ _, rfl⟩
  case round =>
    obtain ⟨k, rfl, hk, hbr, HS⟩ := hrel
    by_cases hlt : k < n
    · obtain ⟨x, hx⟩ : ∃ x, ls[k]? = some x := ⟨_, List.getElem?_eq_getElem (by rw [← HN.out]; exact hlt)⟩
      obtain ⟨g1, o1, rfl, hg1, d1⟩ := HP.out k x hx
      replace d1 := fun j u hu => (hbr.cell (p := ⟨g1, o1 + k * 2 + j, none⟩) hg1).trans (d1 j u hu)
      have x0 := d1 0 _ rfl
      have x1 := d1 1 _ rfl
      rw [Nat.add_zero] at x0
      clear d1
      have q1 : (k : Int) < (n : Int) := by omega
      have HX := Lib.hid hx
      clear hx
      by_cases he : x.name = s
      · have e0 := str_eq he
        have HE := Lib.hid (step_some HS.out HX.out he)
        clear he
        go_wp2
        go_ret2
        exact ⟨by rw [HE.out]; rfl, by repeat (first | (with_reducible exact Below.refl _ _) | (with_reducible assumption) | (with_reducible refine ba ?_) | (with_reducible refine bd ?_) | (with_reducible refine bdn ?_ _) | (with_reducible refine bset ?_ (by first | exact Nat.le_refl _ | omega | (simp; done) | (simp; omega))) | (with_reducible refine bt ?_ (by with_reducible assumption)))⟩
      · have e0 := str_ne he
        have HE := Lib.hid (step_none HS.out HX.out he)
        clear he
        go_wp2
        go_roundw
        case rel => exact ⟨k + 1, by go_num, by omega, by repeat (first | (with_reducible exact Below.refl _ _) | (with_reducible assumption) | (with_reducible refine ba ?_) | (with_reducible refine bd ?_) | (with_reducible refine bdn ?_ _) | (with_reducible refine bset ?_ (by first | exact Nat.le_refl _ | omega | (simp; done) | (simp; omega))) | (with_reducible refine bt ?_ (by with_reducible assumption))), HE⟩
        case measure => simp [intOf]; omega
    · obtain rfl : k = n := by omega
      have HE := HS.out
      rw [List.take_of_length_le (by rw [← HN.out]; exact Nat.le_refl _)] at HE
      have H2 := Lib.hid HE
      clear HE
      go_wp2
      go_ret2
      exact ⟨by rw [H2.out]; rfl, hbr⟩
def followV (o : Option ByteArray) : Value := .tuple #[.string (o.getD ⟨#[]⟩), .int .i64 (if o.isSome then 0 else 13)]
set_option maxRecDepth 100000 in
set_option maxHeartbeats 3200000 in
theorem Follow {w : World} {v : Value} {ls : List LinkV} (h : HoldsG 2 LinkV.cells w v ls) (hls : ls.length ≤ 100000) (s : ByteArray) :
    Calls Try.prog 62 #[v, .string s] w fun e w' => e = .returned (followV (Bk.follow (Bk.step ls) (ls.length + 1) s)) ∧ Below w.heap.size w w' := by
  obtain ⟨p, cap, rfl⟩ := h.form
  have H := Lib.hid h
  clear h
  obtain ⟨n, hn⟩ : ∃ n, n = ls.length := ⟨_, rfl⟩
  rw [← hn] at hls H ⊢
  obtain ⟨R, hR⟩ : ∃ R, R = Bk.follow (Bk.step ls) (n + 1) s := ⟨_, rfl⟩
  rw [← hR]
  have HR := Lib.hid hR
  clear hR hn
  go_enter Try.func62, Try.ntmps62
  go_wp2
  go_loopw [6, 1] (fun i c wr => ∃ (k : Nat) (x : ByteArray), i = .int .i64 k ∧ c = .string x ∧ k ≤ n + 1 ∧ Below w.heap.size w wr ∧ Hid (R = Bk.follow (Bk.step ls) (n + 1 - k) x)) (fun i _ _ => n + 1 - (intOf i).toNat)
  case atStart => exact ⟨0, s, rfl, rfl, Nat.zero_le _, Below.refl _ _, HR.out⟩
  case round =>
    obtain ⟨k, x, rfl, rfl, hk, hbr, HS⟩ := hrel
    by_cases hlt : k ≤ n
    · have hs := HS.out
      rw [show n + 1 - k = (n - k) + 1 by omega] at hs
      have hc := step (H.out.later hbr) x
      obtain ⟨o, ho⟩ : ∃ o, o = Bk.step ls x := ⟨_, rfl⟩
      unfold Bk.follow at hs
      rw [← ho] at hc hs
      clear ho
      have q1 : (k : Int) ≤ (n : Int) := by omega
      cases o with
      | none =>
        have HE := Lib.hid hs
        clear hs
        unfold stepV at hc
        simp only [Option.getD_none, Option.isSome_none] at hc
        go_wp2_with (go_at_call 95; refine hc.mono ?_; rintro e w1 ⟨rfl, hb1⟩)
        go_ret2
        exact ⟨by rw [HE.out]; rfl, by repeat (first | (with_reducible exact Below.refl _ _) | (with_reducible assumption) | (with_reducible refine ba ?_) | (with_reducible refine bd ?_) | (with_reducible refine bdn ?_ _) | (with_reducible refine bset ?_ (by first | exact Nat.le_refl _ | omega | (simp; done) | (simp; omega))) | (with_reducible refine bt ?_ (by with_reducible assumption)))⟩
      | some y =>
        have HE := Lib.hid hs
        clear hs
        unfold stepV at hc
        simp only [Option.getD_some, Option.isSome_some] at hc
        go_wp2_with (go_at_call 95; refine hc.mono ?_; rintro e w1 ⟨rfl, hb1⟩)
        go_roundw
        case rel => exact ⟨k + 1, y, by go_num, rfl, by omega, by repeat (first | (with_reducible exact Below.refl _ _) | (with_reducible assumption) | (with_reducible refine ba ?_) | (with_reducible refine bd ?_) | (with_reducible refine bdn ?_ _) | (with_reducible refine bset ?_ (by first | exact Nat.le_refl _ | omega | (simp; done) | (simp; omega))) | (with_reducible refine bt ?_ (by with_reducible assumption))), by rw [show n + 1 - (k + 1) = n - k by omega]; exact HE.out⟩
        case measure => simp [intOf]; omega
    · obtain rfl : k = n + 1 := by omega
      have hs := HS.out
      rw [Nat.sub_self] at hs
      have HE := Lib.hid hs
      clear hs
      go_wp2
      go_ret2
      exact ⟨by rw [HE.out]; rfl, by repeat (first | (with_reducible exact Below.refl _ _) | (with_reducible assumption) | (with_reducible refine ba ?_) | (with_reducible refine bd ?_) | (with_reducible refine bdn ?_ _) | (with_reducible refine bset ?_ (by first | exact Nat.le_refl _ | omega | (simp; done) | (simp; omega))) | (with_reducible refine bt ?_ (by with_reducible assumption)))⟩
def mem (s : ByteArray) (l : List ByteArray) : Bool := l.any fun x => decide (x = s)
theorem zat_none {zs : List ZoneV} {s : ByteArray} {k : Nat} {x : ZoneV} (h : Bk.zat ((zs.take k).map ZoneV.name) s = none) (hx : zs[k]? = some x) (hn : x.name ≠ s) : Bk.zat ((zs.take (k + 1)).map ZoneV.name) s = none := by
  unfold Bk.zat at *
  rw [List.take_add_one, hx, List.map_append, List.findIdx?_append, h]
  simp [hn]
theorem zat_some {zs : List ZoneV} {s : ByteArray} {k : Nat} {x : ZoneV} (h : Bk.zat ((zs.take k).map ZoneV.name) s = none) (hx : zs[k]? = some x) (hn : x.name = s) : Bk.zat (zs.map ZoneV.name) s = some k := by
  unfold Bk.zat at *
  have hk := (List.getElem?_eq_some_iff.1 hx).1
  have e := List.take_append_drop k zs
  rw [List.drop_eq_getElem?_toList_append, hx] at e
  rw [← e, List.map_append, List.findIdx?_append, h]
  simp [hn, List.findIdx?_cons, Nat.min_eq_left (Nat.le_of_lt hk)]
def zn (t : TabV) : List ByteArray := t.zs.map ZoneV.name
def findR (t : TabV) (s : ByteArray) : Int × Int := Bk.find (zn t) t.ls s
def pairV (x : Int × Int) : Value := .tuple #[.int .i64 x.1, .int .i64 x.2]
set_option maxRecDepth 100000 in
set_option maxHeartbeats 3200000 in
theorem Find {w : World} {t : TabV} (h : HoldsT w t) (hls : t.ls.length ≤ 100000) (s : ByteArray) :
    Calls Try.prog 22 #[.agg #[t.rv, t.zv, t.lv], .string s] w fun e w' => e = .returned (pairV (findR t s)) ∧ Below w.heap.size w w' := by
  obtain ⟨F, hF⟩ : ∃ F, F = findR t s := ⟨_, rfl⟩
  have hF2 := hF
  unfold findR Bk.find Bk.findV zn at hF2
  obtain ⟨o, ho⟩ : ∃ o, o = Bk.follow (Bk.step t.ls) (t.ls.length + 1) s := ⟨_, rfl⟩
  rw [← ho] at hF2
  have hfol : ∀ W : World, Below w.heap.size w W → Calls Try.prog 62 #[t.lv, .string s] W fun e w' => e = .returned (followV o) ∧ Below W.heap.size W w' := fun W hW => by rw [ho]; exact Follow (h.l.later hW) hls s
  clear ho
  rw [← hF]
  clear hF
  have hz := h.z
  have hzf := h.zf
  obtain ⟨rv, zv, lv, rs, zs, ls⟩ := t
  dsimp only at *
  have l1 := hz.len
  obtain ⟨p, cap, rfl, hp⟩ := hz.pk
  obtain ⟨pr, cr, e1⟩ := h.r.form
  obtain ⟨pl, cl, e2⟩ := h.l.form
  dsimp only at e1 e2
  subst e1 e2
  obtain ⟨n, hn⟩ : ∃ n, n = zs.length := ⟨_, rfl⟩
  rw [← hn] at l1 ⊢
  have HN := Lib.hid hn; have HP := Lib.hid hp
  have HZ := Lib.hid hzf
  clear hn hp hz h hls hzf
  generalize rs.length = nr at *
  generalize ls.length = nl at *
  have hb0 := Box.new w #[.slice pr nr cr, .slice p n cap, .slice pl nl cl] 26
  have hc := hfol (w.alloc (.cells #[.slice pr nr cr, .slice p n cap, .slice pl nl cl] 26)) (by repeat (first | (with_reducible exact Below.refl _ _) | (with_reducible assumption) | (with_reducible refine ba ?_) | (with_reducible refine bd ?_) | (with_reducible refine bdn ?_ _) | (with_reducible refine bset ?_ (by first | exact Nat.le_refl _ | omega | (simp; done) | (simp; omega))) | (with_reducible refine bt ?_ (by with_reducible assumption))))
  clear hfol
  cases o with
  | none =>
    dsimp only at hF2
    unfold followV at hc
    simp only [Option.getD_none, Option.isSome_none] at hc
    have HF := Lib.hid hF2
    clear hF2
    go_enter Try.func22, Try.ntmps22
    go_wp2_with (go_at_call 62; refine hc.mono ?_; rintro e w1 ⟨rfl, hb1⟩)
    go_ret2
    exact ⟨by rw [HF.out]; rfl, by repeat (first | (with_reducible exact Below.refl _ _) | (with_reducible assumption) | (with_reducible refine ba ?_) | (with_reducible refine bd ?_) | (with_reducible refine bdn ?_ _) | (with_reducible refine bset ?_ (by first | exact Nat.le_refl _ | omega | (simp; done) | (simp; omega))) | (with_reducible refine bt ?_ (by with_reducible assumption)))⟩
  | some x =>
    dsimp only at hF2
    unfold followV at hc
    simp only [Option.getD_some, Option.isSome_some] at hc
    have HF := Lib.hid hF2
    clear hF2
    go_enter Try.func22, Try.ntmps22
    go_wp2_with (go_at_call 62; refine hc.mono ?_; rintro e w1 ⟨rfl, hb1⟩; have c0 := (hb0.later hb1).cell; have b1 : Below w.heap.size w w1 := (by repeat (first | (with_reducible exact Below.refl _ _) | (with_reducible assumption) | (with_reducible refine ba ?_) | (with_reducible refine bd ?_) | (with_reducible refine bdn ?_ _) | (with_reducible refine bset ?_ (by first | exact Nat.le_refl _ | omega | (simp; done) | (simp; omega))) | (with_reducible refine bt ?_ (by with_reducible assumption)))); clear hb1)
    go_loopw [23] (fun i wr => ∃ k : Nat, i = .int .i64 k ∧ k ≤ n ∧ Below w.heap.size w wr ∧ Hid (Bk.zat ((zs.take k).map ZoneV.name) x = none)) (fun i _ => n - (intOf i).toNat)
    case atStart => exact ⟨0, rfl, Nat.zero_le _, b1, rfl⟩
    case round =>
      clear c0 b1
      obtain ⟨k, rfl, hk, hbr, HS⟩ := hrel
      by_cases hlt : k < n
      · obtain ⟨y, hy⟩ : ∃ y, zs[k]? = some y := ⟨_, List.getElem?_eq_getElem (by rw [← HN.out]; exact hlt)⟩
        obtain ⟨g1, o1, rfl, hg1, d1⟩ := HP.out k y hy
        replace d1 := fun j u hu => (hbr.cell (p := ⟨g1, o1 + k * 2 + j, none⟩) hg1).trans (d1 j u hu)
        have x0 := d1 0 _ rfl
        have x1 := d1 1 _ rfl
        rw [Nat.add_zero] at x0
        obtain ⟨q2, c2, hv2⟩ := (HZ.out y (List.mem_of_getElem? hy)).e.form
        rw [hv2] at x1
        clear hv2
        generalize y.es.length = m2 at x1
        clear d1
        have q1 : (k : Int) < (n : Int) := by omega
        have HX := Lib.hid hy
        clear hy
        by_cases he : y.name = x
        · have e0 := str_eq he
          have HE := Lib.hid (zat_some HS.out HX.out he)
          clear he
          go_wp2
          go_ret2
          exact ⟨by rw [HF.out, HE.out]; rfl, by repeat (first | (with_reducible exact Below.refl _ _) | (with_reducible assumption) | (with_reducible refine ba ?_) | (with_reducible refine bd ?_) | (with_reducible refine bdn ?_ _) | (with_reducible refine bset ?_ (by first | exact Nat.le_refl _ | omega | (simp; done) | (simp; omega))) | (with_reducible refine bt ?_ (by with_reducible assumption)))⟩
        · have e0 := str_ne he
          have HE := Lib.hid (zat_none HS.out HX.out he)
          clear he
          go_wp2
          go_roundw
          case rel => exact ⟨k + 1, by go_num, by omega, by repeat (first | (with_reducible exact Below.refl _ _) | (with_reducible assumption) | (with_reducible refine ba ?_) | (with_reducible refine bd ?_) | (with_reducible refine bdn ?_ _) | (with_reducible refine bset ?_ (by first | exact Nat.le_refl _ | omega | (simp; done) | (simp; omega))) | (with_reducible refine bt ?_ (by with_reducible assumption))), HE⟩
          case measure => simp [intOf]; omega
      · obtain rfl : k = n := by omega
        have HE := HS.out
        rw [List.take_of_length_le (by rw [← HN.out]; exact Nat.le_refl _)] at HE
        have H2 := Lib.hid HE
        clear HE
        go_wp2
        go_ret2
        exact ⟨by rw [HF.out, H2.out]; rfl, hbr⟩
set_option maxRecDepth 100000 in
set_option maxHeartbeats 3200000 in
theorem has {w : World} {v : Value} {l : List ByteArray} (h : HoldsS w v l) (s : ByteArray) :
    Calls Try.prog 66 #[v, .string s] w fun e w' => e = .returned (.bool (mem s l)) ∧ Below w.heap.size w w' := by
  have l1 := h.len
  obtain ⟨p, cap, rfl, hp⟩ := h.pk1
  obtain ⟨n, hn⟩ : ∃ n, n = l.length := ⟨_, rfl⟩
  rw [← hn] at l1 ⊢
  have HN := Lib.hid hn; have HP := Lib.hid hp
  clear hn hp h
  go_enter Try.func66, Try.ntmps66
  go_wp2
  go_loopw [9] (fun i wr => ∃ k : Nat, i = .int .i64 k ∧ k ≤ n ∧ Below w.heap.size w wr ∧ Hid (∀ j x, j < k → l[j]? = some x → x ≠ s)) (fun i _ => n - (intOf i).toNat)
  case atStart => exact ⟨0, rfl, Nat.zero_le _, Below.refl _ _, fun j _ hj => absurd hj (Nat.not_lt_zero _)⟩
  case round =>
    obtain ⟨k, rfl, hk, hbr, HS⟩ := hrel
    by_cases hlt : k < n
    · obtain ⟨x, hx⟩ : ∃ x, l[k]? = some x := ⟨_, List.getElem?_eq_getElem (by rw [← HN.out]; exact hlt)⟩
      obtain ⟨g1, o1, rfl, hg1, d1⟩ := HP.out k x hx
      replace d1 := (hbr.cell (p := ⟨g1, o1 + k, none⟩) hg1).trans d1
      have q1 : (k : Int) < (n : Int) := by omega
      have HX := Lib.hid hx
      clear hx
      by_cases he : x = s
      · have e0 := str_eq he
        have HE : Hid (mem s l = true) := List.any_eq_true.2 ⟨x, List.mem_of_getElem? HX.out, decide_eq_true he⟩
        clear he
        go_wp2
        go_ret
        exact ⟨by rw [HE.out]; rfl, by repeat (first | (with_reducible exact Below.refl _ _) | (with_reducible assumption) | (with_reducible refine ba ?_) | (with_reducible refine bd ?_) | (with_reducible refine bdn ?_ _) | (with_reducible refine bset ?_ (by first | exact Nat.le_refl _ | omega | (simp; done) | (simp; omega))) | (with_reducible refine bt ?_ (by with_reducible assumption)))⟩
      · have e0 := str_ne he
        have HE := Lib.hid he
        clear he
        go_wp2
        go_roundw
        case rel =>
          refine ⟨k + 1, by go_num, by omega, by repeat (first | (with_reducible exact Below.refl _ _) | (with_reducible assumption) | (with_reducible refine ba ?_) | (with_reducible refine bd ?_) | (with_reducible refine bdn ?_ _) | (with_reducible refine bset ?_ (by first | exact Nat.le_refl _ | omega | (simp; done) | (simp; omega))) | (with_reducible refine bt ?_ (by with_reducible assumption))), fun j y hj hy => ?_⟩
          by_cases hjk : j = k
          · subst hjk
            rw [HX.out] at hy
            cases hy
            exact HE.out
          · exact HS.out j y (by omega) hy
        case measure => simp [intOf]; omega
    · obtain rfl : k = n := by omega
      have HE : Hid (mem s l = false) := List.any_eq_false.2 (fun x hm => by
        obtain ⟨j, hj⟩ := List.mem_iff_getElem?.1 hm
        simpa using HS.out j x (by rw [HN.out]; exact (List.getElem?_eq_some_iff.1 hj).1) hj)
      go_wp2
      go_ret
      exact ⟨by rw [HE.out]; rfl, hbr⟩
end RBk
end Go.Proofs.Ytcfmchpoclkpgaa
