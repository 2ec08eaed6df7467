/-
  noontideref29.put: a text put into a rising list of texts.
-/
import Derived.Test.YtcfmchpoclkpgaaRFind
import Derived.OwnWalk
namespace Go.Proofs.Ytcfmchpoclkpgaa
open Go.RowKit NB
namespace Bk
def ltb (a b : S) : Bool := Op.bytesLess a.toList b.toList
def putStep (s : S) (st : List S × Bool) (x : S) : List S × Bool := ((if !st.2 && ltb s x then st.1 ++ [s] else st.1) ++ [x], (!st.2 && ltb s x) || (st.2 || decide (s = x)))
def putL (s : S) (l : List S) : List S × Bool := l.foldl (putStep s) ([], false)
def rput (l : List S) (s : S) : List S := if (putL s l).2 then (putL s l).1 else (putL s l).1 ++ [s]
theorem putL_succ (s : S) {l : List S} {k : Nat} {x : S} (hx : l[k]? = some x) : putL s (l.take (k + 1)) = putStep s (putL s (l.take k)) x := by
  unfold putL
  rw [List.take_add_one, hx, List.foldl_append]
  rfl
end Bk
namespace RBk
open Eqs
set_option maxRecDepth 100000 in
set_option maxHeartbeats 3200000 in
theorem put {w : World} {v : Value} {l : List ByteArray} (h : HoldsS w v l) (hl : l.length ≤ 100000) (s : ByteArray) :
    Calls Try.prog 69 #[v, .string s] w fun e w' => ∃ v', e = .returned v' ∧ OwnS w' w.heap.size v' (Bk.rput l s) ∧ Below w.heap.size w w' := by
  obtain ⟨i0, hi, hz0, hz1, hz2⟩ := info_parts infoS
  obtain ⟨p, cap, rfl, hp⟩ := h.pk1
  obtain ⟨n, hn⟩ : ∃ n, n = l.length := ⟨_, rfl⟩
  rw [← hn] at hl ⊢
  have HN := Lib.hid hn; have HP := Lib.hid hp
  have HI := Lib.hid hi; have HZ0 := Lib.hid hz0; have HZ1 := Lib.hid hz1; have HZ2 := Lib.hid hz2
  clear hn hp h hi hz0 hz1 hz2
  go_enter Try.func69, Try.ntmps69
  go_wp2
  go_loopw [11, 5, 6] (fun i o d wr => ∃ (k m : Nat) (v : Value) (L : List ByteArray) (b : Bool), i = .int .i64 k ∧ o = v ∧ d = .bool b ∧ k ≤ n ∧ m ≤ 2 * k ∧ Below w.heap.size w wr ∧ Hid (OwnR wr w.heap.size v m L) ∧ Hid (Bk.putL s (l.take k) = (L, b))) (fun i _ _ _ => n - (intOf i).toNat)
  case atStart => exact ⟨0, 0, _, [], false, rfl, rfl, rfl, Nat.zero_le _, Nat.zero_le _, Below.refl _ _, World.ownsRow_nil _ _ _ _, rfl⟩
  case round =>
    obtain ⟨k, m, v, L, b, rfl, rfl, rfl, hk, hm, hbr, HO, HL⟩ := hrel
    have hsz := hbr.size
    by_cases hlt : k < n
    · obtain ⟨x, hx⟩ : ∃ x, l[k]? = some x := ⟨_, List.getElem?_eq_getElem (by rw [← HN.out]; exact hlt)⟩
      obtain ⟨g1, o1, rfl, hg1, d1⟩ := HP.out k x hx
      replace d1 := (hbr.cell (p := ⟨g1, o1 + k, none⟩) hg1).trans d1
      have q1 : (k : Int) < (n : Int) := by omega
      have hst := Bk.putL_succ s hx
      rw [HL.out] at hst
      unfold Bk.putStep Bk.ltb at hst
      clear hx HL
      cases b with
      | true =>
        simp only [Bool.not_true, Bool.false_and, Bool.false_eq_true, if_false, Bool.true_or, Bool.or_true] at hst
        have HS := Lib.hid hst
        clear hst
        go_wp2_with (at_builtin; refine wpList_append_own _ rfl _ _ 48 rfl w.heap.size 9 i0 _ 1 16 Try.underlying48 HI.out HZ0.out HZ1.out HZ2.out rfl (by decide) _ _ _ rfl (World.ownsRow.alloc HO.out _) ⟨_, 0, none⟩ 1 1 [.string x] rfl rfl (cell_one_new _ _ _) (by simp [Value.oneCell']) (by unfold maxLen; omega) (by omega) (by simp; omega) ?_; intro v1 w1 hown1 hgrow1 _)
        have HR : Hid (OwnR w1 w.heap.size v1 (m + 1) (L ++ [x])) := OwnR.snoc hown1
        have hb1 : Below w.heap.size w w1 := Below.grown (ba hbr) hgrow1 (by simp; omega) (fun j hj => (HO.out.lt j hj).1)
        clear hown1 hgrow1
        go_roundw
        case rel => exact ⟨k + 1, m + 1, v1, _, true, by go_num, rfl, rfl, by omega, by omega, hb1, HR, HS⟩
        case measure => simp [intOf]; omega
      | false =>
        by_cases hls : Op.bytesLess s.toList x.toList = true
        · simp only [hls, Bool.not_false, Bool.true_and, if_true, Bool.true_or] at hst
          have HS := Lib.hid hst
          have HO2 := Lib.hid (World.ownsRow.alloc HO.out (.cells #[.string s] 9))
          clear hst
          have FTOK : True := trivial
          go_wp2_with (first
            | (at_builtin; have _t := FTOK; refine wpList_append_own _ rfl _ _ 48 rfl w.heap.size 9 i0 _ 1 16 Try.underlying48 HI.out HZ0.out HZ1.out HZ2.out rfl (by decide) _ _ _ rfl HO2.out ⟨_, 0, none⟩ 1 1 [.string s] rfl rfl (cell_one_new _ _ _) (by simp [Value.oneCell']) (by unfold maxLen; omega) (by omega) (by simp; omega) ?_; intro v1 w1 hown1 hgrow1 _; have HR : Hid (OwnR w1 w.heap.size v1 (m + 1) (L ++ [s])) := OwnR.snoc hown1; have hb1 : Below w.heap.size w w1 := Below.grown (ba hbr) hgrow1 (by simp; omega) (fun j hj => (HO.out.lt j hj).1); have hsz1 := hb1.size; clear hown1 hgrow1 FTOK)
            | (at_builtin; refine wpList_append_own _ rfl _ _ 48 rfl w.heap.size 9 i0 _ 1 16 Try.underlying48 HI.out HZ0.out HZ1.out HZ2.out rfl (by decide) _ _ _ rfl (World.ownsRow.alloc HR.out _) ⟨_, 0, none⟩ 1 1 [.string x] rfl rfl (cell_one_new _ _ _) (by simp [Value.oneCell']) (by unfold maxLen; omega) (by omega) (by simp; omega) ?_; intro v2 w2 hown2 hgrow2 _))
          have HR2 : Hid (OwnR w2 w.heap.size v2 (m + 1 + 1) (L ++ [s] ++ [x])) := OwnR.snoc hown2
          have hb2 : Below w.heap.size w w2 := Below.grown (ba hb1) hgrow2 (by simp; omega) (fun j hj => (HR.out.lt j hj).1)
          clear hown2 hgrow2
          go_roundw
          case rel => exact ⟨k + 1, m + 1 + 1, v2, _, true, by go_num, rfl, rfl, by omega, by omega, hb2, HR2, HS⟩
          case measure => simp [intOf]; omega
        · have hls' : Op.bytesLess s.toList x.toList = false := by simpa using hls
          clear hls
          by_cases he : s = x
          · have e0 := str_eq he
            rw [hls', decide_eq_true he] at hst
            simp only [Bool.not_false, Bool.true_and, Bool.false_eq_true, if_false, Bool.or_true] at hst
            rw [← he] at hst
            have HS := Lib.hid hst
            have HE := Lib.hid he
            clear hst he
            go_wp2_with (at_builtin; refine wpList_append_own _ rfl _ _ 48 rfl w.heap.size 9 i0 _ 1 16 Try.underlying48 HI.out HZ0.out HZ1.out HZ2.out rfl (by decide) _ _ _ rfl (World.ownsRow.alloc HO.out _) ⟨_, 0, none⟩ 1 1 [.string x] rfl rfl (cell_one_new _ _ _) (by simp [Value.oneCell']) (by unfold maxLen; omega) (by omega) (by simp; omega) ?_; intro v1 w1 hown1 hgrow1 _)
            have HR : Hid (OwnR w1 w.heap.size v1 (m + 1) (L ++ [s])) := OwnR.snoc (by rw [HE.out]; exact hown1)
            have hb1 : Below w.heap.size w w1 := Below.grown (ba hbr) hgrow1 (by simp; omega) (fun j hj => (HO.out.lt j hj).1)
            clear hown1 hgrow1
            go_roundw
            case rel => exact ⟨k + 1, m + 1, v1, _, true, by go_num, rfl, rfl, by omega, by omega, hb1, HR, HS⟩
            case measure => simp [intOf]; omega
          · have e0 := str_ne he
            simp only [hls', he, decide_false, Bool.not_false, Bool.true_and, Bool.false_eq_true, if_false, Bool.or_false] at hst
            have HS := Lib.hid hst
            clear hst he
            go_wp2_with (at_builtin; refine wpList_append_own _ rfl _ _ 48 rfl w.heap.size 9 i0 _ 1 16 Try.underlying48 HI.out HZ0.out HZ1.out HZ2.out rfl (by decide) _ _ _ rfl (World.ownsRow.alloc HO.out _) ⟨_, 0, none⟩ 1 1 [.string x] rfl rfl (cell_one_new _ _ _) (by simp [Value.oneCell']) (by unfold maxLen; omega) (by omega) (by simp; omega) ?_; intro v1 w1 hown1 hgrow1 _)
            have HR : Hid (OwnR w1 w.heap.size v1 (m + 1) (L ++ [x])) := OwnR.snoc hown1
            have hb1 : Below w.heap.size w w1 := Below.grown (ba hbr) hgrow1 (by simp; omega) (fun j hj => (HO.out.lt j hj).1)
            clear hown1 hgrow1
            go_roundw
            case rel => exact ⟨k + 1, m + 1, v1, _, false, by go_num, rfl, rfl, by omega, by omega, hb1, HR, HS⟩
            case measure => simp [intOf]; omega
    · obtain rfl : k = n := by omega
      have HE := HL.out
      rw [List.take_of_length_le (by rw [← HN.out]; exact Nat.le_refl _)] at HE
      have hR : Bk.rput l s = if b then L else L ++ [s] := by unfold Bk.rput; rw [HE]
      have HR0 := Lib.hid hR
      clear HE HL hR
      cases b with
      | true =>
        go_wp2
        go_ret
        exact ⟨_, rfl, by rw [HR0.out]; exact OwnR.s HO.out, hbr⟩
      | false =>
        go_wp2_with (at_builtin; refine wpList_append_own _ rfl _ _ 48 rfl w.heap.size 9 i0 _ 1 16 Try.underlying48 HI.out HZ0.out HZ1.out HZ2.out rfl (by decide) _ _ _ rfl (World.ownsRow.alloc HO.out _) ⟨_, 0, none⟩ 1 1 [.string s] rfl rfl (cell_one_new _ _ _) (by simp [Value.oneCell']) (by unfold maxLen; omega) (by omega) (by simp; omega) ?_; intro v1 w1 hown1 hgrow1 _)
        go_ret
        exact ⟨v1, rfl, by rw [HR0.out]; exact OwnR.s (OwnR.snoc hown1), Below.grown (ba hbr) hgrow1 (by simp; omega) (fun j hj => (HO.out.lt j hj).1)⟩
end RBk
end Go.Proofs.Ytcfmchpoclkpgaa
