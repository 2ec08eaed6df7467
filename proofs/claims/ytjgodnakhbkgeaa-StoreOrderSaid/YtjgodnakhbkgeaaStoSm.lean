/-
  noontideref36.Same: are two lists of infos one?
-/
import Derived.Test.YtjgodnakhbkgeaaStoP
namespace Go.Proofs.Ytjgodnakhbkgeaa
open Go.RowKit NB OW
namespace StR
open Sto
attribute [local go_sem ↓] eqlL neqL
theorem same_no {l m : List InfoV} {k : Nat} {x y : InfoV} (hx : l[k]? = some x) (hy : m[k]? = some y) (h : ¬ x = y) : ¬ l = m := by
  rintro rfl
  rw [hx] at hy
  exact h (Option.some.inj hy)
theorem same_all {l m : List InfoV} (hl : l.length = m.length) (h : ∀ k x y, k < l.length → l[k]? = some x → m[k]? = some y → x = y) : l = m := by
  apply List.ext_getElem hl
  intro k h1 h2
  exact h k _ _ h1 (List.getElem?_eq_getElem h1) (List.getElem?_eq_getElem h2)
set_option maxRecDepth 100000 in
set_option maxHeartbeats 3200000 in
theorem Same {w : World} {u v : Value} {l m : List InfoV} (h : HoldsG 5 InfoV.cells w u l) (h' : HoldsG 5 InfoV.cells w v m) :
    Calls Try.prog 31 #[u, v] w fun e w' => e = .returned (.bool (decide (l = m))) ∧ Below w.heap.size w w' := by
  by_cases hlen : l.length = m.length
  · rcases h.lies with ⟨p, cap, rfl, rfl⟩ | ⟨b, off, cap, rfl, hb, hl⟩
    · obtain rfl : m = [] := List.eq_nil_of_length_eq_zero hlen.symm
      obtain ⟨p', cap', rfl⟩ := h'.form
      clear h h' hlen
      go_enter Try.func31, Try.ntmps31
      go_wp2
      go_loopw [13] (fun i wr => i = .int .i64 0 ∧ Below w.heap.size w wr) (fun _ _ => 0)
      case atStart => exact ⟨rfl, Below.refl _ _⟩
      case round =>
        obtain ⟨rfl, hbr⟩ := hrel
        go_wp2
        go_ret
        exact ⟨by simp, hbr⟩
    · rcases h'.lies with ⟨p', cap', rfl, rfl⟩ | ⟨b', off', cap', rfl, hb', hl'⟩
      · obtain rfl : l = [] := List.eq_nil_of_length_eq_zero hlen
        clear h h' hlen hl
        go_enter Try.func31, Try.ntmps31
        go_wp2
        go_loopw [13] (fun i wr => i = .int .i64 0 ∧ Below w.heap.size w wr) (fun _ _ => 0)
        case atStart => exact ⟨rfl, Below.refl _ _⟩
        case round =>
          obtain ⟨rfl, hbr⟩ := hrel
          go_wp2
          go_ret
          exact ⟨by simp, hbr⟩
      · obtain ⟨n, hn⟩ : ∃ n, n = l.length := ⟨_, rfl⟩
        have hnm := h.len
        rw [← hlen, ← hn]
        rw [← hn] at hnm
        have HL := Lib.hid hl
        have HM := Lib.hid hl'
        have HN := Lib.hid hn
        have HE := Lib.hid hlen
        clear h h' hl hl' hn hlen
        go_enter Try.func31, Try.ntmps31
        go_wp2
        go_loopw [13] (fun i wr => ∃ k : Nat, i = .int .i64 k ∧ k ≤ n ∧ Below w.heap.size w wr ∧ Hid (∀ j x y, j < k → l[j]? = some x → m[j]? = some y → x = y)) (fun i _ => n - (intOf i).toNat)
        case atStart => exact ⟨0, rfl, Nat.zero_le _, Below.refl _ _, fun j _ _ hj => absurd hj (Nat.not_lt_zero _)⟩
        case round =>
          obtain ⟨k, rfl, hk, hbr, HS⟩ := hrel
          by_cases hlt : k < n
          · obtain ⟨x, hx⟩ : ∃ x, l[k]? = some x := ⟨_, List.getElem?_eq_getElem (by rw [← HN.out]; exact hlt)⟩
            obtain ⟨y, hy⟩ : ∃ y, m[k]? = some y := ⟨_, List.getElem?_eq_getElem (by rw [← HE.out, ← HN.out]; exact hlt)⟩
            obtain ⟨c0, c1, c2, c3, c4⟩ := lies_cells (w := wr) (fun i j cs v hi hj => by rw [hbr.cell (p := ⟨b, off + i * 5 + j, none⟩) hb]; exact HL.out i j cs v hi hj) hx
            obtain ⟨d0, d1, d2, d3, d4⟩ := lies_cells (w := wr) (fun i j cs v hi hj => by rw [hbr.cell (p := ⟨b', off' + i * 5 + j, none⟩) hb']; exact HM.out i j cs v hi hj) hy
            have b1 : (k : Int) < (n : Int) := by omega
            by_cases he : x = y
            · have e0 : eqI ⟨x.fr, x.th, x.off, x.save, x.abbr⟩ ⟨y.fr, y.th, y.off, y.save, y.abbr⟩ = true := decide_eq_true he
              have HX := Lib.hid hx
              have HY := Lib.hid hy
              have HQ := Lib.hid he
              clear hx hy he
              go_wp2
              go_quiet (fail)
              go_wp2
              go_roundw
              case rel =>
                refine ⟨k + 1, by go_num, by omega, by repeat (first | (with_reducible exact Below.refl _ _) | (with_reducible assumption) | (with_reducible refine ba ?_) | (with_reducible refine bd ?_) | (with_reducible refine bdn ?_ _) | (with_reducible refine bset ?_ (by first | exact Nat.le_refl _ | omega | (simp; done) | (simp; omega))) | (with_reducible refine bt ?_ (by with_reducible assumption))), fun j p q hj hp hq => ?_⟩
                by_cases hjk : j = k
                · subst hjk
                  rw [HX.out] at hp
                  rw [HY.out] at hq
                  cases hp; cases hq
                  exact HQ.out
                · exact HS.out j p q (by omega) hp hq
              case measure => simp [intOf]; omega
            · have e0 : eqI ⟨x.fr, x.th, x.off, x.save, x.abbr⟩ ⟨y.fr, y.th, y.off, y.save, y.abbr⟩ = false := decide_eq_false he
              have hno := decide_eq_false (same_no hx hy he)
              have HO := Lib.hid hno
              clear hx hy he hno
              go_wp2
              go_quiet (fail)
              go_wp2
              go_ret
              exact ⟨by rw [HO.out]; rfl, by repeat (first | (with_reducible exact Below.refl _ _) | (with_reducible assumption) | (with_reducible refine ba ?_) | (with_reducible refine bd ?_) | (with_reducible refine bdn ?_ _) | (with_reducible refine bset ?_ (by first | exact Nat.le_refl _ | omega | (simp; done) | (simp; omega))) | (with_reducible refine bt ?_ (by with_reducible assumption)))⟩
          · obtain rfl : k = n := by omega
            have hyes := decide_eq_true (same_all HE.out (by rw [← HN.out]; exact HS.out))
            have HY := Lib.hid hyes
            clear hyes
            go_wp2
            go_ret
            exact ⟨by rw [HY.out]; rfl, hbr⟩
  · have hno : decide (l = m) = false := decide_eq_false (fun e => hlen (by rw [e]))
    have h1 := h.len
    have h2 := h'.len
    obtain ⟨p, cap, rfl⟩ := h.form
    obtain ⟨p', cap', rfl⟩ := h'.form
    have e1 : (!(l.length == m.length)) = true := by simpa using hlen
    have e2 : (!((l.length : Int) == (m.length : Int))) = true := by simpa using (fun e : (l.length : Int) = m.length => hlen (by omega))
    rw [hno]
    clear h h' hno
    generalize l.length = n at *
    generalize m.length = n' at *
    go_enter Try.func31, Try.ntmps31
    go_wp2
    go_ret
    exact ⟨rfl, by repeat (first | (with_reducible exact Below.refl _ _) | (with_reducible assumption) | (with_reducible refine ba ?_) | (with_reducible refine bd ?_) | (with_reducible refine bdn ?_ _) | (with_reducible refine bset ?_ (by first | exact Nat.le_refl _ | omega | (simp; done) | (simp; omega))) | (with_reducible refine bt ?_ (by with_reducible assumption)))⟩
end StR
end Go.Proofs.Ytjgodnakhbkgeaa
