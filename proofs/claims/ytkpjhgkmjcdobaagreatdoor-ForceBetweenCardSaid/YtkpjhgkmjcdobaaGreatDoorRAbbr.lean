import Derived.Test.YtkpjhgkmjcdobaaGreatDoorAbbr
import Derived.Test.YtkpjhgkmjcdobaaGreatDoorRFormat
/-
  What a time is called: the document's way, as the program runs it.
-/
namespace Go.Proofs.YtkpjhgkmjcdobaaGreatDoor
open Go.RowKit NB
namespace RFmt
open Fmt
theorem bytes_size (l : List Int) : (bytesOf l).size = l.length := by
  unfold bytesOf
  show ((l.map fun d => UInt8.ofNat d.toNat).toArray).size = _
  simp
set_option maxHeartbeats 3200000 in
theorem digit1 (n : Int) (h0 : 0 ≤ n) (h1 : n ≤ 9) (w : World) : Calls Tryz.prog 209 #[.int .u64 n] w fun e w' => e = .returned (.string (bytesOf [48 + n])) ∧ Below w.heap.size w w' := by
  rcases (by omega : n = 0 ∨ n = 1 ∨ n = 2 ∨ n = 3 ∨ n = 4 ∨ n = 5 ∨ n = 6 ∨ n = 7 ∨ n = 8 ∨ n = 9) with rfl | rfl | rfl | rfl | rfl | rfl | rfl | rfl | rfl | rfl
  all_goals
    go_enter Tryz.func209, Tryz.ntmps209
    go_wp2
    go_ret
    exact ⟨rfl, by repeat (first | (with_reducible exact Below.refl _ _) | (with_reducible assumption) | (with_reducible refine ba ?_) | (with_reducible refine bd ?_) | (with_reducible refine bdn ?_ _) | (with_reducible refine bset ?_ (by first | exact Nat.le_refl _ | omega | (simp; done) | (simp; omega))) | (with_reducible refine bt ?_ (by with_reducible assumption)))⟩
set_option maxHeartbeats 3200000 in
theorem digit2 (n : Int) (h0 : 10 ≤ n) (h1 : n ≤ 99) (w : World) : Calls Tryz.prog 209 #[.int .u64 n] w fun e w' => e = .returned (.string (bytesOf (dig n))) ∧ Below w.heap.size w w' := by
  have c1 := fun W => digit1 (n / 10) (by omega) (by omega) W
  have c2 := fun W => digit1 (n % 10) (by omega) (by omega) W
  have s1 := bytes_size [48 + n / 10]
  have s2 := bytes_size [48 + n % 10]
  have hd : bytesOf (dig n) = bytesOf [48 + n / 10] ++ bytesOf [48 + n % 10] := (bytes_app [48 + n / 10] [48 + n % 10]).symm
  rw [hd]
  generalize bytesOf [48 + n / 10] = B1 at *
  generalize bytesOf [48 + n % 10] = B2 at *
  have C1 := Lib.hid c1
  have C2 := Lib.hid c2
  have t1 : B1.size + B2.size ≤ 9223372036854775807 := by rw [s1, s2]; show 1 + 1 ≤ _; decide
  clear c1 c2 hd s1 s2
  go_enter Tryz.func209, Tryz.ntmps209
  go_wp2_with (first
    | (with_reducible (go_at_call 209; (with_reducible refine (C1.out _).mono ?_); rintro e w1 ⟨rfl, hb1⟩; obtain ⟨hc1, hf1⟩ := bcell hb1))
    | (with_reducible (go_at_call 209; (with_reducible refine (C2.out _).mono ?_); rintro e w2 ⟨rfl, hb2⟩; obtain ⟨hc2, hf2⟩ := bcell hb2)))
  go_ret
  exact ⟨rfl, by repeat (first | (with_reducible exact Below.refl _ _) | (with_reducible assumption) | (with_reducible refine ba ?_) | (with_reducible refine bd ?_) | (with_reducible refine bdn ?_ _) | (with_reducible refine bset ?_ (by first | exact Nat.le_refl _ | omega | (simp; done) | (simp; omega))) | (with_reducible refine bt ?_ (by with_reducible assumption)))⟩
def textL (n : Int) : List Int := if n < 10 then [48 + n] else dig n
theorem Text (n : Int) (h0 : 0 ≤ n) (h1 : n ≤ 99) (w : World) : Calls Tryz.prog 190 #[.int .i64 n] w fun e w' => e = .returned (.string (bytesOf (textL n))) ∧ Below w.heap.size w w' := by
  have c1 : ∀ W, Calls Tryz.prog 209 #[.int .u64 n] W fun e w' => e = .returned (.string (bytesOf (textL n))) ∧ Below W.heap.size W w' := by
    intro W
    unfold textL
    by_cases h : n < 10
    · rw [if_pos h]; exact digit1 n h0 (by omega) W
    · rw [if_neg h]; exact digit2 n (by omega) h1 W
  generalize bytesOf (textL n) = B at *
  have C1 := Lib.hid c1
  clear c1
  go_enter Tryz.func190, Tryz.ntmps190
  go_wp2_with (go_at_call 209; (with_reducible refine (C1.out _).mono ?_); rintro e w1 ⟨rfl, hb1⟩; obtain ⟨hc1, hf1⟩ := bcell hb1)
  go_ret
  exact ⟨rfl, by repeat (first | (with_reducible exact Below.refl _ _) | (with_reducible assumption) | (with_reducible refine ba ?_) | (with_reducible refine bd ?_) | (with_reducible refine bdn ?_ _) | (with_reducible refine bset ?_ (by first | exact Nat.le_refl _ | omega | (simp; done) | (simp; omega))) | (with_reducible refine bt ?_ (by with_reducible assumption)))⟩
theorem two (n : Int) (h0 : 0 ≤ n) (h1 : n ≤ 99) (w : World) : Calls Tryz.prog 172 #[.int .i64 n] w fun e w' => e = .returned (.string (bytesOf (dig n))) ∧ Below w.heap.size w w' := by
  have c1 := fun W => Text n h0 h1 W
  by_cases h : n < 10
  · have e1 : bytesOf (dig n) = ⟨#[48]⟩ ++ bytesOf (textL n) := by
      rw [show (⟨#[48]⟩ : ByteArray) = bytesOf [48] from rfl, bytes_app]
      unfold textL dig
      rw [if_pos h, show n / 10 = 0 by omega, show n % 10 = n by omega]
      rfl
    have s1 : (⟨#[48]⟩ : ByteArray).size + (bytesOf (textL n)).size ≤ 9223372036854775807 := by
      rw [bytes_size]; unfold textL; rw [if_pos h]; show 1 + 1 ≤ _; decide
    rw [e1]
    generalize bytesOf (textL n) = B at *
    have C1 := Lib.hid c1
    clear c1 e1
    have cat1 := fun W => run_string_add_sum (P := Tryz.prog) W ⟨#[48]⟩ B s1
    go_enter Tryz.func172, Tryz.ntmps172
    go_wp2_with (go_at_call 190; (with_reducible refine (C1.out _).mono ?_); rintro e w1 ⟨rfl, hb1⟩; obtain ⟨hc1, hf1⟩ := bcell hb1)
    go_ret
    exact ⟨rfl, by repeat (first | (with_reducible exact Below.refl _ _) | (with_reducible assumption) | (with_reducible refine ba ?_) | (with_reducible refine bd ?_) | (with_reducible refine bdn ?_ _) | (with_reducible refine bset ?_ (by first | exact Nat.le_refl _ | omega | (simp; done) | (simp; omega))) | (with_reducible refine bt ?_ (by with_reducible assumption)))⟩
  · have e1 : textL n = dig n := by unfold textL; rw [if_neg h]
    rw [e1] at c1
    have C1 := Lib.hid c1
    generalize bytesOf (dig n) = B at *
    clear c1 e1
    go_enter Tryz.func172, Tryz.ntmps172
    go_wp2_with (go_at_call 190; (with_reducible refine (C1.out _).mono ?_); rintro e w1 ⟨rfl, hb1⟩; obtain ⟨hc1, hf1⟩ := bcell hb1)
    go_ret
    exact ⟨rfl, by repeat (first | (with_reducible exact Below.refl _ _) | (with_reducible assumption) | (with_reducible refine ba ?_) | (with_reducible refine bd ?_) | (with_reducible refine bdn ?_ _) | (with_reducible refine bset ?_ (by first | exact Nat.le_refl _ | omega | (simp; done) | (simp; omega))) | (with_reducible refine bt ?_ (by with_reducible assumption)))⟩
set_option maxHeartbeats 3200000 in
theorem Written (off : Int) (h0 : -359999 ≤ off) (h1 : off ≤ 359999) (w : World) : Calls Tryz.prog 141 #[.int .i64 off] w fun e w' => e = .returned (.string (writtenB off)) ∧ Below w.heap.size w w' := by
  obtain ⟨A, S, hA0, hA1, hS, hs1, hcase⟩ : ∃ (A : Int) (S : ByteArray), 0 ≤ A ∧ A ≤ 359999 ∧ writtenB off = S ++ bytesOf (hms A) ∧ S.size = 1 ∧ ((off < 0 ∧ off = -A ∧ S = ⟨#[45]⟩) ∨ (¬ off < 0 ∧ off = A ∧ S = ⟨#[43]⟩)) := by
    by_cases h : off < 0
    · exact ⟨-off, ⟨#[45]⟩, by omega, by omega, by rw [show (⟨#[45]⟩ : ByteArray) = bytesOf [45] from rfl, bytes_app]; unfold writtenB writtenL; rw [if_pos h]; rfl, rfl, .inl ⟨h, by omega, rfl⟩⟩
    · exact ⟨off, ⟨#[43]⟩, by omega, by omega, by rw [show (⟨#[43]⟩ : ByteArray) = bytesOf [43] from rfl, bytes_app]; unfold writtenB writtenL; rw [if_neg h]; rfl, rfl, .inr ⟨h, rfl, rfl⟩⟩
  rw [hS]
  unfold hms
  have c1 := fun W => two (A / 3600) (by omega) (by omega) W
  have c2 := fun W => two (A / 60 % 60) (by omega) (by omega) W
  have c3 := fun W => two (A % 60) (by omega) (by omega) W
  have s1 := bytes_size (dig (A / 3600))
  have s2 := bytes_size (dig (A / 60 % 60))
  have s3 := bytes_size (dig (A % 60))
  have hne : bytesOf [] = ⟨#[]⟩ := rfl
  have app0 : ∀ B : ByteArray, B ++ ⟨#[]⟩ = B := fun B => by apply ByteArray.ext; simp
  have assoc : ∀ a b c : ByteArray, a ++ (b ++ c) = a ++ b ++ c := fun a b c => by apply ByteArray.ext; simp
  obtain ⟨R, hR⟩ : ∃ R, R = S ++ bytesOf (dig (A / 3600) ++ ((if 0 < A % 3600 then dig (A / 60 % 60) else []) ++ (if 0 < A % 60 then dig (A % 60) else []))) := ⟨_, rfl⟩
  rw [← hR]
  have hR' : R = if 0 < A % 3600 then (if 0 < A % 60 then S ++ bytesOf (dig (A / 3600)) ++ bytesOf (dig (A / 60 % 60)) ++ bytesOf (dig (A % 60)) else S ++ bytesOf (dig (A / 3600)) ++ bytesOf (dig (A / 60 % 60))) else S ++ bytesOf (dig (A / 3600)) := by
    rw [hR]
    by_cases g1 : 0 < A % 3600
    · by_cases g2 : 0 < A % 60
      · simp only [g1, g2, if_true, ← bytes_app, assoc]
      · simp only [g1, g2, if_true, if_false, ← bytes_app, assoc, hne, app0]
    · have g2 : ¬ 0 < A % 60 := by omega
      simp only [g1, g2, if_false, ← bytes_app, hne, app0]
  clear hR hne app0 assoc hS
  simp only [dig, List.length_cons, List.length_nil] at s1 s2 s3
  change (bytesOf (dig (A / 3600))).size = 2 at s1
  change (bytesOf (dig (A / 60 % 60))).size = 2 at s2
  change (bytesOf (dig (A % 60))).size = 2 at s3
  generalize bytesOf (dig (A / 3600)) = D1 at *
  generalize bytesOf (dig (A / 60 % 60)) = D2 at *
  generalize bytesOf (dig (A % 60)) = D3 at *
  have z1 : (S ++ D1).size = S.size + D1.size := ByteArray.size_append
  have z2 : (S ++ D1 ++ D2).size = (S ++ D1).size + D2.size := ByteArray.size_append
  have z3 : (S ++ D1 ++ D2 ++ D3).size = (S ++ D1 ++ D2).size + D3.size := ByteArray.size_append
  have cat1 := fun W => run_string_add_sum (P := Tryz.prog) W S D1 (by omega)
  have cat2 := fun W => run_string_add_sum (P := Tryz.prog) W (S ++ D1) D2 (by omega)
  have cat3 := fun W => run_string_add_sum (P := Tryz.prog) W (S ++ D1 ++ D2) D3 (by omega)
  have l1 : ¬ (9223372036854775807 < S.size + D1.size) := by omega
  have l2 : ¬ (9223372036854775807 < (S ++ D1).size + D2.size) := by omega
  have l3 : ¬ (9223372036854775807 < (S ++ D1 ++ D2).size + D3.size) := by omega
  have C1 := Lib.hid c1
  have C2 := Lib.hid c2
  have C3 := Lib.hid c3
  have HR := Lib.hid hR'
  have q1 : 0 ≤ A / 3600 ∧ A / 3600 ≤ 99 := by omega
  have q2 : 0 ≤ A / 60 % 60 ∧ A / 60 % 60 ≤ 59 := by omega
  have q3 : 0 ≤ A % 60 ∧ A % 60 ≤ 59 := by omega
  have q4 : 0 ≤ A % 3600 := by omega
  have q5 : 0 ≤ A / 60 := by omega
  clear c1 c2 c3 hR' s1 s2 s3 z1 z2 z3 hs1
  rcases hcase with ⟨hn, ho, hSS⟩ | ⟨hn, ho, hSS⟩
  all_goals
    have ho' := ho.symm
    subst ho'
    clear ho
    have hw : wrap64 (-(-A)) = A := by unfold wrap64; omega
    have hnn : - -A = A := by omega
    by_cases g1 : 0 < A % 3600
    all_goals
      by_cases g2 : 0 < A % 60
      all_goals first
        | (exfalso; omega)
        | skip
      all_goals
        have hRR := HR.out
        simp only [g1, g2, if_true, if_false] at hRR
        have HRR := Lib.hid hRR
        clear hRR
        subst hSS
        go_enter Tryz.func141, Tryz.ntmps141
        go_wp2_with (first
          | (with_reducible (go_at_call 172; (with_reducible refine (C1.out _).mono ?_); rintro e w1 ⟨rfl, hb1⟩; obtain ⟨hc1, hf1⟩ := bcell hb1))
          | (with_reducible (go_at_call 172; (with_reducible refine (C2.out _).mono ?_); rintro e w2 ⟨rfl, hb2⟩; obtain ⟨hc2, hf2⟩ := bcell hb2))
          | (with_reducible (go_at_call 172; (with_reducible refine (C3.out _).mono ?_); rintro e w3 ⟨rfl, hb3⟩; obtain ⟨hc3, hf3⟩ := bcell hb3)))
        go_ret
        exact ⟨congrArg (fun x => Ending.returned (Value.string x)) HRR.out.symm, by repeat (first | (with_reducible exact Below.refl _ _) | (with_reducible assumption) | (with_reducible refine ba ?_) | (with_reducible refine bd ?_) | (with_reducible refine bdn ?_ _) | (with_reducible refine bset ?_ (by first | exact Nat.le_refl _ | omega | (simp; done) | (simp; omega))) | (with_reducible refine bt ?_ (by with_reducible assumption)))⟩
theorem find_ex (l : List UInt8) (c : UInt8) : ∃ r, FindIs l c r := by
  by_cases h0 : ∀ j : Nat, l[j]? ≠ some c
  · exact ⟨-1, .inl ⟨rfl, h0⟩⟩
  · obtain ⟨i, hi⟩ := Classical.not_forall.1 h0
    have hi' := Classical.not_not.1 hi
    by_cases h1 : ∀ j : Nat, l[j]? = some c → j = i
    · exact ⟨i, .inr (.inr ⟨i, rfl, hi', h1⟩)⟩
    · obtain ⟨j, hj⟩ := Classical.not_forall.1 h1
      obtain ⟨hj1, hj2⟩ := Classical.not_imp.1 hj
      rcases Nat.lt_or_gt_of_ne hj2 with h | h
      · exact ⟨-2, .inr (.inl ⟨rfl, j, i, h, hj1, hi'⟩)⟩
      · exact ⟨-2, .inr (.inl ⟨rfl, i, j, h, hi', hj1⟩)⟩
theorem find_one' {l : List UInt8} {c : UInt8} {r r' : Int} (h : FindIs l c r) (h' : FindIs l c r') : r = r' := by
  rcases h' with ⟨rfl, h1⟩ | ⟨rfl, i, j, hij, h1, h2⟩ | ⟨i, rfl, h1, h2⟩
  · exact find_none h h1
  · rcases h with ⟨_, g⟩ | ⟨g, _⟩ | ⟨k, _, g1, g2⟩
    · exact absurd h1 (g i)
    · exact g
    · have := g2 i h1; have := g2 j h2; omega
  · exact find_one h h1 h2
theorem sub_extract (s : ByteArray) (i j : Nat) : sub s i j = s.extract i j := by
  unfold sub
  apply ByteArray.ext
  apply Array.ext'
  simp [List.drop_take]
theorem ext_size (s : ByteArray) (i j : Nat) : (s.extract i j).size ≤ s.size := by
  rw [ByteArray.size_extract]
  omega
set_option maxHeartbeats 3200000 in
theorem Abbr (s : ByteArray) (hs : s.size ≤ 9223372036854775807) (off save : Int) (letter : ByteArray) (hl : letter.size ≤ 1000000) (w : World) :
    Calls Tryz.prog 100 #[.string s, .int .i64 off, .int .i64 save, .string letter] w fun e w' => e = .returned (.tuple #[.string (abbrF s off save letter).1, .int .i64 (abbrF s off save letter).2]) ∧ Below w.heap.size w w' := by
  have cc := fun W => Check s hs W
  by_cases h0 : checkE s = 0
  rotate_left
  · unfold abbrF
    rw [if_pos h0]
    generalize checkE s = ce at *
    have Cc := Lib.hid cc
    clear cc
    go_enter Tryz.func100, Tryz.ntmps100
    go_wp2_with (go_at_call 90; (with_reducible refine (Cc.out _).mono ?_); rintro e w' ⟨rfl, rfl⟩)
    go_ret2
    exact ⟨rfl, by repeat (first | (with_reducible exact Below.refl _ _) | (with_reducible assumption) | (with_reducible refine ba ?_) | (with_reducible refine bd ?_) | (with_reducible refine bdn ?_ _) | (with_reducible refine bset ?_ (by first | exact Nat.le_refl _ | omega | (simp; done) | (simp; omega))) | (with_reducible refine bt ?_ (by with_reducible assumption)))⟩
  rw [h0] at cc
  have Cc := Lib.hid cc
  clear cc
  by_cases h1 : off < -359999 ∨ 359999 < off
  · unfold abbrF
    rw [if_neg (by simpa using h0), if_pos h1]
    go_enter Tryz.func100, Tryz.ntmps100
    go_wp2_with (go_at_call 90; (with_reducible refine (Cc.out _).mono ?_); rintro e w' ⟨rfl, rfl⟩)
    all_goals
      go_ret2
      exact ⟨rfl, by repeat (first | (with_reducible exact Below.refl _ _) | (with_reducible assumption) | (with_reducible refine ba ?_) | (with_reducible refine bd ?_) | (with_reducible refine bdn ?_ _) | (with_reducible refine bset ?_ (by first | exact Nat.le_refl _ | omega | (simp; done) | (simp; omega))) | (with_reducible refine bt ?_ (by with_reducible assumption)))⟩
  have hz := (check_kind h0).2
  obtain ⟨p, hp⟩ := find_ex s.data.toList 37
  obtain ⟨q, hq⟩ := find_ex s.data.toList 47
  have cp : ∀ W, Calls Tryz.prog 134 #[.string s, .int .u8 37] W fun e w' => e = .returned (.int .i64 p) ∧ W = w' := fun W => (find s hs 37 W).mono fun e w' ⟨⟨r, he, hr⟩, hw⟩ => ⟨by rw [he, find_one' hr hp], hw⟩
  have cq : ∀ W, Calls Tryz.prog 134 #[.string s, .int .u8 47] W fun e w' => e = .returned (.int .i64 q) ∧ W = w' := fun W => (find s hs 47 W).mono fun e w' ⟨⟨r, he, hr⟩, hw⟩ => ⟨by rw [he, find_one' hr hq], hw⟩
  have cw := fun W => Written off (by omega) (by omega) W
  have hcs := abbr_ref (off := off) (save := save) (letter := letter) h0 h1 hp hq
  generalize abbrF s off save letter = R at *
  have Cp := Lib.hid cp
  have Cq := Lib.hid cq
  have Cw := Lib.hid cw
  clear cp cq cw hp hq h0
  have b1 : ¬ off < -359999 := fun h => h1 (.inl h)
  have b2 : ¬ 359999 < off := fun h => h1 (.inr h)
  clear h1
  have et : s.toList = s.data.toList := ByteArray.toList_eq s
  rcases hcs with ⟨e0, e1⟩ | ⟨e0, i, rfl, hi, e1⟩ | ⟨e0, hp, i, rfl, hi, e1⟩ | ⟨e0, hp, hq, e1⟩
  · have e2 : (s.toList == [37, 122]) = true := by rw [et, e0]; rfl
    clear e0 et
    generalize writtenB off = wb at *
    subst e1
    go_enter Tryz.func100, Tryz.ntmps100
    go_wp2_with (first
      | (go_at_call 90; (with_reducible refine (Cc.out _).mono ?_); rintro e w' ⟨rfl, rfl⟩)
      | (go_at_call 141; (with_reducible refine (Cw.out _).mono ?_); rintro e w1 ⟨rfl, hb1⟩; obtain ⟨hc1, hf1⟩ := bcell hb1))
    go_ret2
    exact ⟨rfl, by repeat (first | (with_reducible exact Below.refl _ _) | (with_reducible assumption) | (with_reducible refine ba ?_) | (with_reducible refine bd ?_) | (with_reducible refine bdn ?_ _) | (with_reducible refine bset ?_ (by first | exact Nat.le_refl _ | omega | (simp; done) | (simp; omega))) | (with_reducible refine bt ?_ (by with_reducible assumption)))⟩
  all_goals
    have e2 : (s.toList == [37, 122]) = false := by rw [et]; simp [e0]
    clear e0 et
    try simp only [sub_extract] at e1
  · have x1 := ext_size s 0 i
    have x2 := ext_size s (i + 2) s.size
    have x3 : (s.extract 0 i ++ letter).size = (s.extract 0 i).size + letter.size := ByteArray.size_append
    have cat1 := fun W => run_string_add_sum (P := Tryz.prog) W (s.extract 0 i) letter (by omega)
    have cat2 := fun W => run_string_add_sum (P := Tryz.prog) W (s.extract 0 i ++ letter) (s.extract (i + 2) s.size) (by omega)
    have y1 : (s.extract 0 i).size + letter.size ≤ 9223372036854775807 := by omega
    have y2 : (s.extract 0 i ++ letter).size + (s.extract (i + 2) s.size).size ≤ 9223372036854775807 := by omega
    clear x1 x2 x3
    subst e1
    simp only
    go_enter Tryz.func100, Tryz.ntmps100
    go_wp2_with (first
      | (go_at_call 90; (with_reducible refine (Cc.out _).mono ?_); rintro e w' ⟨rfl, rfl⟩)
      | (with_reducible (go_at_call 134; (with_reducible refine (Cp.out _).mono ?_); rintro e w' ⟨rfl, rfl⟩))
      | (with_reducible (go_at_call 134; (with_reducible refine (Cq.out _).mono ?_); rintro e w' ⟨rfl, rfl⟩)))
    go_quiet (fail)
    go_wp2
    go_ret2
    exact ⟨rfl, by repeat (first | (with_reducible exact Below.refl _ _) | (with_reducible assumption) | (with_reducible refine ba ?_) | (with_reducible refine bd ?_) | (with_reducible refine bdn ?_ _) | (with_reducible refine bset ?_ (by first | exact Nat.le_refl _ | omega | (simp; done) | (simp; omega))) | (with_reducible refine bt ?_ (by with_reducible assumption)))⟩
  · by_cases hsv : save = 0
    all_goals
      first
        | rw [if_pos hsv] at e1
        | rw [if_neg hsv] at e1
      subst e1
      simp only
      go_enter Tryz.func100, Tryz.ntmps100
      go_wp2_with (first
        | (go_at_call 90; (with_reducible refine (Cc.out _).mono ?_); rintro e w' ⟨rfl, rfl⟩)
        | (with_reducible (go_at_call 134; (with_reducible refine (Cp.out _).mono ?_); rintro e w' ⟨rfl, rfl⟩))
        | (with_reducible (go_at_call 134; (with_reducible refine (Cq.out _).mono ?_); rintro e w' ⟨rfl, rfl⟩)))
      go_ret2
      exact ⟨rfl, by repeat (first | (with_reducible exact Below.refl _ _) | (with_reducible assumption) | (with_reducible refine ba ?_) | (with_reducible refine bd ?_) | (with_reducible refine bdn ?_ _) | (with_reducible refine bset ?_ (by first | exact Nat.le_refl _ | omega | (simp; done) | (simp; omega))) | (with_reducible refine bt ?_ (by with_reducible assumption)))⟩
  · subst e1
    simp only
    go_enter Tryz.func100, Tryz.ntmps100
    go_wp2_with (first
      | (go_at_call 90; (with_reducible refine (Cc.out _).mono ?_); rintro e w' ⟨rfl, rfl⟩)
      | (with_reducible (go_at_call 134; (with_reducible refine (Cp.out _).mono ?_); rintro e w' ⟨rfl, rfl⟩))
      | (with_reducible (go_at_call 134; (with_reducible refine (Cq.out _).mono ?_); rintro e w' ⟨rfl, rfl⟩)))
    go_ret2
    exact ⟨rfl, by repeat (first | (with_reducible exact Below.refl _ _) | (with_reducible assumption) | (with_reducible refine ba ?_) | (with_reducible refine bd ?_) | (with_reducible refine bdn ?_ _) | (with_reducible refine bset ?_ (by first | exact Nat.le_refl _ | omega | (simp; done) | (simp; omega))) | (with_reducible refine bt ?_ (by with_reducible assumption)))⟩
end RFmt
end Go.Proofs.YtkpjhgkmjcdobaaGreatDoor
