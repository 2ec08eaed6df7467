/-
  Slices of strings: that hold a list; that the call owns. noontideref13.Same: are two lists of texts one?
-/
import Derived.Test.YtcfmchpoclkpgaaSlc
import Derived.Test.YtcfmchpoclkpgaaPk
import Derived.Test.YtcfmchpoclkpgaaProg
import Derived.WalkKit
import Derived.Deep.QuietTactic
import Derived.BigQuiet
import Derived.Maps.AppendAt
namespace Go.Proofs.Ytcfmchpoclkpgaa
open Go.RowKit NB
def strc (s : ByteArray) : List Value := [.string s]
abbrev HoldsS (w : World) (v : Value) (l : List ByteArray) : Prop := HoldsG 1 strc w v l
abbrev OwnS (w : World) (base : Nat) (v : Value) (l : List ByteArray) : Prop := w.ownsRow base 9 1 v l.length (l.flatMap strc)
theorem HoldsG.pk1 {w : World} {v : Value} {l : List ByteArray} (h : HoldsG 1 strc w v l) : ∃ p cap, v = .slice p l.length cap ∧ ∀ i s, l[i]? = some s → ∃ b off, p = some ⟨b, off, none⟩ ∧ b < w.heap.size ∧ w.cell? ⟨b, off + i, none⟩ = some (.string s) := by
  obtain ⟨p, cap, e, hp⟩ := h.pk
  refine ⟨p, cap, e, fun i s hs => ?_⟩
  obtain ⟨b, off, e1, hb, hc⟩ := hp i s hs
  have := hc 0 _ rfl
  simp only [Nat.mul_one, Nat.add_zero] at this
  exact ⟨b, off, e1, hb, this⟩
theorem HoldsS.of_own {w : World} {base : Nat} {v : Value} {l : List ByteArray} (h : OwnS w base v l) : HoldsS w v l := HoldsG.of_own (k := 1) (f := strc) (fun _ => rfl) h
theorem strc_one (l : List ByteArray) : ∀ u ∈ l.flatMap strc, u.oneCell' = true := flatG_one (fun x u hu => by unfold strc at hu; simp at hu; rw [hu]; rfl) l
theorem strc_snoc (l : List ByteArray) (s : ByteArray) : (l ++ [s]).flatMap strc = l.flatMap strc ++ [.string s] := by simp [strc]
theorem infoS : (Try.prog.info? 9).map (fun i => (i.zero, i.size, i.bytes)) = some (some (.string .empty), 1, 16) := by kernel_rfl
abbrev OwnR (w : World) (base : Nat) (v : Value) (m : Nat) (l : List ByteArray) : Prop := w.ownsRow base 9 1 v m (l.flatMap strc)
theorem OwnR.len {w : World} {base m : Nat} {v : Value} {l : List ByteArray} (h : OwnR w base v m l) : l.length = m := by
  have := h.1
  rw [flatG_len (k := 1) (fun _ => rfl)] at this
  omega
theorem OwnR.s {w : World} {base m : Nat} {v : Value} {l : List ByteArray} (h : OwnR w base v m l) : OwnS w base v l := by
  have := OwnR.len h
  subst this
  exact h
theorem OwnR.snoc {w : World} {base m : Nat} {v : Value} {l : List ByteArray} {s : ByteArray} (h : w.ownsRow base 9 1 v m (l.flatMap strc ++ [.string s])) : OwnR w base v m (l ++ [s]) := by
  unfold OwnR
  rw [strc_snoc]
  exact h
namespace RBk
theorem own_lower {W : World} {base base' m : Nat} {e : TypeId} {size : Nat} {v : Value} {xs : List Value} (h : W.ownsRow base e size v m xs) (hb : base' ≤ base) : W.ownsRow base' e size v m xs := by
  refine ⟨h.1, ?_⟩
  rcases h.2 with hn | ⟨g, cap, cur, hv, hbg, rest⟩
  · exact .inl hn
  · exact .inr ⟨g, cap, cur, hv, Nat.le_trans hb hbg, rest⟩
theorem own_lat {w w' : World} {B m : Nat} {e : TypeId} {sz : Nat} {v : Value} {xs : List Value} (h : w.ownsRow B e sz v m xs) (hb : Below w.heap.size w w') : w'.ownsRow B e sz v m xs :=
  h.kept (row := none) ⟨hb.os, hb.tape, hb.output, hb.size, fun k hk _ => hb.block k hk⟩ (by cases v.ownBlock <;> simp)
end RBk
theorem cell_one_at {w : World} {x : Value} {t : TypeId} {N : Nat} (h : N = w.heap.size) : ∀ j u, [x][j]? = some u → (w.alloc (.cells #[x] t)).cell? ((⟨N, 0, none⟩ : Addr).add j) = some u := by
  subst h
  exact cell_one_new w x t
namespace Strs
open Eqs
set_option maxRecDepth 100000 in
set_option maxHeartbeats 3200000 in
theorem Same {w : World} {u v : Value} {l m : List ByteArray} (h : HoldsS w u l) (h' : HoldsS w v m) :
    Calls Try.prog 25 #[u, v] w fun e w' => e = .returned (.bool (decide (l = m))) ∧ Below w.heap.size w w' := by
  have l1 := h.len
  have l2 := h'.len
  obtain ⟨p, cap, rfl, hp⟩ := h.pk1
  obtain ⟨q, cap', rfl, hq⟩ := h'.pk1
  clear h h'
  by_cases hlen : l.length = m.length
  · obtain ⟨n, hn⟩ : ∃ n, n = l.length := ⟨_, rfl⟩
    rw [← hlen] at l2 ⊢
    rw [← hn] at l1 l2 ⊢
    have HN := Lib.hid hn; have HL := Lib.hid hlen; have HP := Lib.hid hp; have HQ := Lib.hid hq
    clear hn hlen hp hq
    go_enter Try.func25, Try.ntmps25
    go_wp2
    go_loopw [13] (fun i wr => ∃ k : Nat, i = .int .i64 k ∧ k ≤ n ∧ Below w.heap.size w wr ∧ Hid (∀ j x y, j < k → l[j]? = some x → m[j]? = some y → x = y)) (fun i _ => n - (intOf i).toNat)
    case atStart => exact ⟨0, rfl, Nat.zero_le _, Below.refl _ _, fun j _ _ hj => absurd hj (Nat.not_lt_zero _)⟩
    case round =>
      obtain ⟨k, rfl, hk, hbr, HS⟩ := hrel
      by_cases hlt : k < n
      · obtain ⟨x, hx⟩ : ∃ x, l[k]? = some x := ⟨_, List.getElem?_eq_getElem (by rw [← HN.out]; exact hlt)⟩
        obtain ⟨y, hy⟩ : ∃ y, m[k]? = some y := ⟨_, List.getElem?_eq_getElem (by rw [← HL.out, ← HN.out]; exact hlt)⟩
        obtain ⟨g1, o1, rfl, hg1, d1⟩ := HP.out k x hx
        obtain ⟨g2, o2, rfl, hg2, d2⟩ := HQ.out k y hy
        replace d1 := (hbr.cell (p := ⟨g1, o1 + k, none⟩) hg1).trans d1
        replace d2 := (hbr.cell (p := ⟨g2, o2 + k, none⟩) hg2).trans d2
        have q1 : (k : Int) < (n : Int) := by omega
        by_cases he : x = y
        · have e0 := str_eq he
          have HX := Lib.hid hx; have HY := Lib.hid hy; have HQ2 := Lib.hid he
          clear hx hy he
          go_wp2
          go_quiet (fail)
          go_wp2
          go_roundw
          case rel =>
            refine ⟨k + 1, by go_num, by omega, by repeat (first | (with_reducible exact Below.refl _ _) | (with_reducible assumption) | (with_reducible refine ba ?_) | (with_reducible refine bd ?_) | (with_reducible refine bdn ?_ _) | (with_reducible refine bset ?_ (by first | exact Nat.le_refl _ | omega | (simp; done) | (simp; omega))) | (with_reducible refine bt ?_ (by with_reducible assumption))), fun j p q hj hp hq => ?_⟩
            by_cases hjk : j = k
            · subst hjk
              rw [HX.out] at hp
              rw [HY.out] at hq
              cases hp; cases hq
              exact HQ2.out
            · exact HS.out j p q (by omega) hp hq
          case measure => simp [intOf]; omega
        · have e0 := str_ne he
          have hno : decide (l = m) = false := decide_eq_false (list_no hx hy he)
          have HO := Lib.hid hno
          clear hx hy he hno
          go_wp2
          go_quiet (fail)
          go_wp2
          go_ret
          exact ⟨by rw [HO.out]; rfl, by repeat (first | (with_reducible exact Below.refl _ _) | (with_reducible assumption) | (with_reducible refine ba ?_) | (with_reducible refine bd ?_) | (with_reducible refine bdn ?_ _) | (with_reducible refine bset ?_ (by first | exact Nat.le_refl _ | omega | (simp; done) | (simp; omega))) | (with_reducible refine bt ?_ (by with_reducible assumption)))⟩
      · obtain rfl : k = n := by omega
        have hyes : decide (l = m) = true := decide_eq_true (list_all HL.out (by rw [← HN.out]; exact HS.out))
        have HY := Lib.hid hyes
        clear hyes
        go_wp2
        go_ret
        exact ⟨by rw [HY.out]; rfl, by repeat (first | (with_reducible exact Below.refl _ _) | (with_reducible assumption) | (with_reducible refine ba ?_) | (with_reducible refine bd ?_) | (with_reducible refine bdn ?_ _) | (with_reducible refine bset ?_ (by first | exact Nat.le_refl _ | omega | (simp; done) | (simp; omega))) | (with_reducible refine bt ?_ (by with_reducible assumption)))⟩
  · have hno : decide (l = m) = false := decide_eq_false (fun e => hlen (by rw [e]))
    have e1 : (!(l.length == m.length)) = true := by simpa using hlen
    have e2 : (!((l.length : Int) == (m.length : Int))) = true := by simpa using (fun e : (l.length : Int) = m.length => hlen (by omega))
    rw [hno]
    clear hp hq hno
    generalize l.length = n at *
    generalize m.length = n' at *
    go_enter Try.func25, Try.ntmps25
    go_wp2
    go_ret
    exact ⟨rfl, by repeat (first | (with_reducible exact Below.refl _ _) | (with_reducible assumption) | (with_reducible refine ba ?_) | (with_reducible refine bd ?_) | (with_reducible refine bdn ?_ _) | (with_reducible refine bset ?_ (by first | exact Nat.le_refl _ | omega | (simp; done) | (simp; omega))) | (with_reducible refine bt ?_ (by with_reducible assumption)))⟩
end Strs
end Go.Proofs.Ytcfmchpoclkpgaa
