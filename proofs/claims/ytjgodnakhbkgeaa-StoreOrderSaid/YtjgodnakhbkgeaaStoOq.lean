/-
  noontidelaw38.StoreOrder returns true: all ways.
-/
import Derived.Test.YtjgodnakhbkgeaaStoOr
namespace Go.Proofs.Ytjgodnakhbkgeaa
open Go.RowKit NB OW
namespace StT
open Sto
set_option maxRecDepth 100000 in
set_option maxHeartbeats 1600000 in
theorem orderNo {W : World} {v : Value} {l : List InfoV} (room t : Int) (h : HoldsG 5 InfoV.cells W v l) (hr : room < 1 ∨ 65536 < room) :
    Calls Try.prog 5 #[.int .i64 room, v, .int .i64 t] W fun e w' => e = .returned (.bool true) ∧ Below W.heap.size W w' := by
  obtain ⟨p, cap, rfl⟩ := h.form
  have hn := h.len
  clear h
  have HR := Lib.hid hr
  clear hr
  generalize l.length = n at *
  by_cases hl : (60 : Int) < (n : Int)
  · go_enter Try.func5, Try.ntmps5
    go_wp2_with (first
      | (go_at_call 20; (with_reducible refine (Sto.NewNo room HR.out _).mono ?_); rintro e w1 ⟨rfl, hb1⟩; obtain ⟨hc1, hf1⟩ := bcell hb1)
      | (go_at_call 19; (with_reducible refine (lives _).mono ?_); rintro e w3 ⟨rfl, hb3⟩; obtain ⟨hc3, hf3⟩ := bcell hb3))
    go_ret
    exact ⟨rfl, by repeat (first | (with_reducible exact Below.refl _ _) | (with_reducible assumption) | (with_reducible refine ba ?_) | (with_reducible refine bd ?_) | (with_reducible refine bdn ?_ _) | (with_reducible refine bset ?_ (by first | exact Nat.le_refl _ | omega | (simp; done) | (simp; omega))) | (with_reducible refine bt ?_ (by with_reducible assumption)))⟩
  · go_enter Try.func5, Try.ntmps5
    go_wp2_with (first
      | (go_at_call 20; (with_reducible refine (Sto.NewNo room HR.out _).mono ?_); rintro e w1 ⟨rfl, hb1⟩; obtain ⟨hc1, hf1⟩ := bcell hb1)
      | (go_at_call 19; (with_reducible refine (lives _).mono ?_); rintro e w3 ⟨rfl, hb3⟩; obtain ⟨hc3, hf3⟩ := bcell hb3))
    go_ret
    exact ⟨rfl, by repeat (first | (with_reducible exact Below.refl _ _) | (with_reducible assumption) | (with_reducible refine ba ?_) | (with_reducible refine bd ?_) | (with_reducible refine bdn ?_ _) | (with_reducible refine bset ?_ (by first | exact Nat.le_refl _ | omega | (simp; done) | (simp; omega))) | (with_reducible refine bt ?_ (by with_reducible assumption)))⟩
set_option maxRecDepth 100000 in
set_option maxHeartbeats 1600000 in
theorem orderFar {W : World} {v : Value} {l : List InfoV} (room t : Int) (h : HoldsG 5 InfoV.cells W v l) (h0 : 1 ≤ room) (h1 : room ≤ 65536) (hl : ¬ l.length ≤ 60) :
    Calls Try.prog 5 #[.int .i64 room, v, .int .i64 t] W fun e w' => e = .returned (.bool true) ∧ Below W.heap.size W w' := by
  obtain ⟨p, cap, rfl⟩ := h.form
  have hn := h.len
  clear h
  generalize l.length = n at *
  have hl2 : (60 : Int) < (n : Int) := by omega
  go_enter Try.func5, Try.ntmps5
  go_wp2_with (first
    | (go_at_call 19; (with_reducible refine (lives _).mono ?_); rintro e w1 ⟨rfl, hb1⟩; obtain ⟨hc1, hf1⟩ := bcell hb1)
    | (go_at_call 20; (with_reducible refine (St.new room h0 h1 _ (B := W.heap.size) ?_).mono ?_); (· exact le_of_below (by repeat (first | (with_reducible exact Below.refl _ _) | (with_reducible assumption) | (with_reducible refine ba ?_) | (with_reducible refine bd ?_) | (with_reducible refine bdn ?_ _) | (with_reducible refine bset ?_ (by first | exact Nat.le_refl _ | omega | (simp; done) | (simp; omega))) | (with_reducible refine bt ?_ (by with_reducible assumption))))); rintro e w2 ⟨b, rfl, hs2, hlt2, hb2⟩))
  go_ret
  exact ⟨rfl, by repeat (first | (with_reducible exact Below.refl _ _) | (with_reducible assumption) | (with_reducible refine ba ?_) | (with_reducible refine bd ?_) | (with_reducible refine bdn ?_ _) | (with_reducible refine bset ?_ (by first | exact Nat.le_refl _ | omega | (simp; done) | (simp; omega))) | (with_reducible refine bt ?_ (by with_reducible assumption)))⟩
/-- noontidelaw38.StoreOrder -/
theorem order (room : Int) (v : Value) (l : List InfoV) (t : Int) (W : World) (_ : I64 room) (h : HoldsG 5 InfoV.cells W v l ∧ ∀ a ∈ l, a.Fit) (_ : I64 t) :
    Calls Try.prog 5 #[.int .i64 room, v, .int .i64 t] W fun e w' => e = .returned (.bool true) ∧ Below W.heap.size W w' := by
  by_cases h0 : 1 ≤ room
  · by_cases h1 : room ≤ 65536
    · by_cases hl : l.length ≤ 60
      · exact orderLoop room t h.1 h.2 h0 h1 hl
      · exact orderFar room t h.1 h0 h1 hl
    · exact orderNo room t h.1 (.inr (by omega))
  · exact orderNo room t h.1 (.inl (by omega))
end StT
end Go.Proofs.Ytjgodnakhbkgeaa
