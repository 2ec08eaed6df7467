/-
  rule.Name: which names may be.
-/
import Derived.Test.YtopdjebnfhfpcaaGreatDoorLib
import Derived.Test.YtopdjebnfhfpcaaGreatDoorPl
namespace Go.Proofs.YtopdjebnfhfpcaaGreatDoor
open Go.RowKit NB
namespace Nam
/-- a letter, or _ -/
def okFirst (c : UInt8) : Bool := (decide (97 ≤ (c ||| 32).toNat) && decide ((c ||| 32).toNat ≤ 122)) || c == 95
/-- a digit, or one of - + / . -/
def okOther (c : UInt8) : Bool := (decide (48 ≤ c.toNat) && decide (c.toNat ≤ 57)) || decide (0 ≤ Go.Lib.indexByte [45, 43, 47, 46] c)
def okAt (l : List UInt8) (j : Nat) : Bool := match l[j]? with
  | none => true
  | some c => okFirst c || (decide (0 < j) && okOther c)
def okAll (l : List UInt8) : Bool := (List.range l.length).all (okAt l)
def nameR (s : ByteArray) : Int := if okAll s.data.toList then (if s.data.toList = [] then 10 else 0) else 10
def nameE (s : ByteArray) : Int := if 64 < s.size then 9 else nameR s
theorem or32 (c : UInt8) : bits .or .u8 (c.toNat : Int) 32 = ((c ||| 32).toNat : Int) := by
  rw [u8_or _ _ (by omega) (by have := c.toNat_lt; omega) (by omega) (by omega)]
  simp [UInt8.toNat_or]
theorem okAt_iff {l : List UInt8} {k : Nat} {c : UInt8} (h : l[k]? = some c) :
    okAt l k = true ↔ (97 ≤ ((c ||| 32).toNat : Int) ∧ ((c ||| 32).toNat : Int) ≤ 122) ∨ (c.toNat : Int) = 95 ∨ (0 < (k : Int) ∧ ((48 ≤ (c.toNat : Int) ∧ (c.toNat : Int) ≤ 57) ∨ 0 ≤ Go.Lib.indexByte [45, 43, 47, 46] c)) := by
  have e : (c == 95) = true ↔ (c.toNat : Int) = 95 := by
    rw [beq_iff_eq]
    constructor
    · rintro rfl; rfl
    · intro h; apply UInt8.toNat_inj.1; show c.toNat = 95; omega
  unfold okAt okFirst okOther
  rw [h]
  simp only [Bool.or_eq_true, Bool.and_eq_true, decide_eq_true_eq, e]
  omega
theorem all_succ {l : List UInt8} {k : Nat} (h : (List.range k).all (okAt l) = true) (h2 : okAt l k = true) : (List.range (k + 1)).all (okAt l) = true := by
  rw [List.range_succ, List.all_append, h]; simp [h2]
theorem not_all {l : List UInt8} {k : Nat} (hk : k < l.length) (h2 : ¬ okAt l k = true) : okAll l = false := by
  unfold okAll
  rw [Bool.eq_false_iff]
  intro h
  exact h2 (List.all_eq_true.1 h k (List.mem_range.2 hk))

set_option maxRecDepth 100000 in
set_option maxHeartbeats 1600000 in
theorem Name_le (s : ByteArray) (hs : s.size ≤ 64) (w : World) : Calls Tryz.prog 61 #[.string s] w fun e w' => e = .returned (.int .i64 (nameR s)) ∧ Below w.heap.size w w' := by
  obtain ⟨cap, o, hrun, hcell⟩ := Lb.bytes_of w s
  have Hcell := Lib.hid hcell; clear hcell
  have hlen : s.data.toList.length = s.size := by simp
  have Hlen := Lib.hid hlen; clear hlen
  have hB : Below w.heap.size w (w.alloc o).drew := ((Below.refl _ _).alloc (Nat.le_refl _) _).drew
  have HB := Lib.hid hB; clear hB
  go_enter Tryz.func61, Tryz.ntmps61
  go_wp2
  go_loop [11] (fun i => ∃ k : Nat, k ≤ s.size ∧ i = .int .i64 k ∧ (List.range k).all (okAt s.data.toList) = true) (fun i => s.size - (intOf i).toNat)
  case atStart => exact ⟨0, Nat.zero_le _, rfl, rfl⟩
  case round =>
    obtain ⟨k, hk, rfl, hall⟩ := hrel
    have Hall := Lib.hid hall; clear hall
    by_cases hlt : k < s.size
    · obtain ⟨c, hc⟩ : ∃ c, s.data.toList[k]? = some c := ⟨s.data.toList[k]'(by rw [Hlen.out]; exact hlt), by simp⟩
      have c1 := Hcell.out k c hc
      have hiff := Lib.hid (okAt_iff hc)
      have Hc := Lib.hid hc; clear hc
      have hor := or32 c
      have hcb : (c.toNat : Int) < 256 := by have := c.toNat_lt; omega
      generalize (c ||| 32).toNat = t at hor hiff
      generalize hix : Go.Lib.indexByte [45, 43, 47, 46] c = ix at hiff
      have hcu : (c.toNat : Int).toNat.toUInt8 = c := by simp
      rw [← hcu] at hix
      have Hix := Lib.hid hix; clear hix hcu
      go_wp2_with (go_at_call 82; refine (Lb.IndexByte _ _ _).mono ?_; rw [Hix.out]; rintro e w' ⟨rfl, rfl⟩)
      all_goals
        first
          | (go_round
             case rel =>
               refine ⟨k + 1, by omega, by go_num, all_succ Hall.out (hiff.out.2 ?_)⟩
               simp only [beq_iff_eq, beq_eq_false_iff_ne, ne_eq] at *
               omega
             case measure => simp [intOf]; omega)
          | (go_ret
             refine ⟨ret_int ?_, HB.out⟩
             unfold nameR
             rw [not_all (k := k) (by rw [Hlen.out]; exact hlt) (by
               rw [hiff.out]
               simp only [beq_iff_eq, beq_eq_false_iff_ne, ne_eq] at *
               omega)]
             rfl)
    · have hks : k = s.size := by omega
      have hfin : okAll s.data.toList = true := by
        unfold okAll; rw [Hlen.out, ← hks]; exact Hall.out
      have Hfin := Lib.hid hfin; clear hfin hks
      by_cases he : s.toList = []
      · have e1 : s.toList.isEmpty = true := by simp [he]
        have e2 : s.data.toList = [] := by rw [← ByteArray.toList_eq]; exact he
        have E2 := Lib.hid e2; clear e2 he
        go_wp2
        go_ret
        refine ⟨ret_int ?_, HB.out⟩
        unfold nameR
        rw [if_pos Hfin.out, if_pos E2.out]
      · have e1 : s.toList.isEmpty = false := by simp [he]
        have e2 : ¬ s.data.toList = [] := by rw [← ByteArray.toList_eq]; exact he
        have E2 := Lib.hid e2; clear e2 he
        go_wp2
        go_ret
        refine ⟨ret_int ?_, HB.out⟩
        unfold nameR
        rw [if_pos Hfin.out, if_neg E2.out]

theorem Name (s : ByteArray) (hm : s.size ≤ 9223372036854775807) (w : World) : Calls Tryz.prog 61 #[.string s] w fun e w' => e = .returned (.int .i64 (nameE s)) ∧ Below w.heap.size w w' := by
  unfold nameE
  by_cases h : 64 < s.size
  · rw [if_pos h]
    go_enter Tryz.func61, Tryz.ntmps61
    go_wp2
    go_ret
    exact ⟨rfl, Below.refl _ _⟩
  · rw [if_neg h]
    exact Name_le s (by omega) w
end Nam
end Go.Proofs.YtopdjebnfhfpcaaGreatDoor
