import Derived.Test.YtkpjhgkmjcdobaaGreatDoorG3
/-
  format.written, format.Abbr: as the program runs them.
-/
namespace Go.Proofs.YtkpjhgkmjcdobaaGreatDoor
open Go.RowKit NB
namespace Fmt
def u8s (l : List Int) : List Value := l.map fun d => .int .u8 d
def Oct (l : List Int) : Prop := ∀ d ∈ l, 0 ≤ d ∧ d ≤ 255
theorem u8s_app (a b : List Int) : u8s (a ++ b) = u8s a ++ u8s b := by unfold u8s; simp
theorem u8s_back {l : List Int} (h : Oct l) : u8s l = (l.map fun d => UInt8.ofNat d.toNat).map fun c => Value.int .u8 (c.toNat : Int) := by
  unfold u8s
  rw [List.map_map]
  apply List.map_congr_left
  intro d hd
  have := h d hd
  simp only [Function.comp_apply]
  rw [UInt8.toNat_ofNat_of_lt' (by show d.toNat < 256; omega)]
  congr 1; omega
/-- the text of a row of bytes -/
theorem str_own {w : World} {B m : Nat} {v : Value} {l : List Int} (h : w.ownsRow B 5 1 v m (u8s l)) (hl : Oct l) : (convert 146 9 v).run Tryz.prog w = .ok (.string (bytesOf l)) w := by
  have hlen := h.1
  rw [u8s_back hl] at h hlen
  unfold bytesOf
  generalize (l.map fun d => UInt8.ofNat d.toNat) = k at *
  simp only [List.length_map, Nat.mul_one] at hlen
  rcases h.2 with ⟨hv, h2⟩ | ⟨g, cap, cur, hv, hg, hh, hle, hcap, hcs, htk⟩
  · subst hv
    rw [h2] at hlen
    have : k = [] := List.eq_nil_of_length_eq_zero (by omega)
    subst this
    show (convert 146 9 (.slice none 0 0)).run Tryz.prog w = .ok (.string ⟨#[]⟩) w
    kernel_rfl
  · subst hv
    subst hlen
    refine run_convert_bytes_back w 146 9 5 ⟨g, 0, none⟩ cap k Tryz.underlying146 Tryz.underlying5 Tryz.underlying9 (fun j hj => ?_)
    have := h.cells (g := g) rfl j (.int .u8 (k[j].toNat : Int)) (by rw [List.getElem?_map, List.getElem?_eq_getElem hj]; rfl)
    exact this
theorem own_one {w : World} {base g : Nat} {x : Value} {t : TypeId} (h : w.heap[g]? = some (.cells #[x] t)) (hb : base ≤ g) : w.ownsRow base t 1 (.slice (some ⟨g, 0, none⟩) 1 1) 1 [x] :=
  ⟨by simp, .inr ⟨g, 1, #[x], rfl, hb, h, Nat.le_refl _, by decide, by simp, by simp⟩⟩
theorem cell_two_new (w : World) (x y : Value) (t : TypeId) : ∀ j u, [x, y][j]? = some u → (w.alloc (.cells #[x, y] t)).cell? ((⟨w.heap.size, 0, none⟩ : Addr).add j) = some u := by
  intro j u hj
  rw [show ((⟨w.heap.size, 0, none⟩ : Addr).add j) = ⟨w.heap.size, 0 + j, none⟩ by unfold Addr.add; split <;> simp_all, Nat.zero_add, new_cell]
  simpa using hj
def restW (n : Int) (j : Nat) : Int := if j = 0 then n else if j = 1 then n % 3600 else if j = 2 then n % 60 else 0
def outW (n : Int) (j : Nat) : List Int := if j = 0 then [] else if j = 1 then dig (n / 3600) else if j = 2 then dig (n / 3600) ++ (if 0 < n % 3600 then dig (n / 60 % 60) else []) else hms n
def unitW (j : Nat) : Int := if j = 0 then 3600 else if j = 1 then 60 else 1
theorem dig_oct {k : Int} (h0 : 0 ≤ k) (h1 : k ≤ 99) : Oct (dig k) := by
  intro d hd
  unfold dig at hd
  simp only [List.mem_cons, List.not_mem_nil, or_false] at hd
  rcases hd with rfl | rfl <;> omega
theorem oct_app {a b : List Int} (ha : Oct a) (hb : Oct b) : Oct (a ++ b) := by
  intro d hd
  rcases List.mem_append.1 hd with h | h
  · exact ha d h
  · exact hb d h
theorem oct_nil : Oct [] := by intro d hd; cases hd
theorem hms_oct {n : Int} (h0 : 0 ≤ n) (h1 : n ≤ 359999) : Oct (hms n) := by
  unfold hms
  refine oct_app (dig_oct (by omega) (by omega)) (oct_app ?_ ?_)
  · split
    · exact dig_oct (by omega) (by omega)
    · exact oct_nil
  · split
    · exact dig_oct (by omega) (by omega)
    · exact oct_nil
set_option maxRecDepth 100000 in
set_option maxHeartbeats 3200000 in
theorem written (off : Int) (h0 : -359999 ≤ off) (h1 : off ≤ 359999) (w : World) : Calls Tryz.prog 171 #[.int .i64 off] w fun e w' => e = .returned (.string (writtenB off)) ∧ Below w.heap.size w w' := by
  obtain ⟨i0, hi, hz0, hz1, hz2⟩ := info_parts Txt.info_u8
  obtain ⟨A, sg, hA0, hA1, hS, hcase⟩ : ∃ A sg : Int, 0 ≤ A ∧ A ≤ 359999 ∧ writtenB off = bytesOf (sg :: hms A) ∧ ((off < 0 ∧ A = -off ∧ sg = 45) ∨ (¬ off < 0 ∧ A = off ∧ sg = 43)) := by
    by_cases h : off < 0
    · exact ⟨-off, 45, by omega, by omega, by unfold writtenB writtenL; rw [if_pos h], .inl ⟨h, rfl, rfl⟩⟩
    · exact ⟨off, 43, by omega, by omega, by unfold writtenB writtenL; rw [if_neg h], .inr ⟨h, rfl, rfl⟩⟩
  rw [hS]
  have hsg : Oct [sg] := by
    intro d hd
    rw [List.mem_singleton] at hd
    omega
  clear hS
  have hst : ∀ wr, Box wr w.heap.size #[.int .u8 sg] 5 → wr.ownsRow w.heap.size 5 1 (.slice (some ⟨w.heap.size, 0, none⟩) 1 1) 1 (u8s (sg :: outW A 0)) := fun wr h => own_one h (Nat.le_refl _)
  have hsg45 : off < 0 → sg = 45 := by omega
  have hsg43 : ¬ off < 0 → sg = 43 := by omega
  have hR0 : 0 ≤ A / 3600 ∧ A / 3600 ≤ 99 := by omega
  have hR1 : 0 ≤ A % 3600 / 60 ∧ A % 3600 / 60 ≤ 99 := by omega
  have hR2 : 0 ≤ A % 60 ∧ A % 60 ≤ 59 := by omega
  have h12 : A % 3600 % 60 = A % 60 := by omega
  have hm1 : 0 ≤ A % 3600 ∧ A % 3600 ≤ 3599 := by omega
  have o1 : outW A 1 = dig (A / 3600) := rfl
  have o2 : outW A 2 = dig (A / 3600) ++ (if 0 < A % 3600 then dig (A % 3600 / 60) else []) := by
    rw [show A % 3600 / 60 = A / 60 % 60 by omega]
    rfl
  have o3 : outW A 3 = outW A 2 ++ (if 0 < A % 60 then dig (A % 60) else []) := by
    show hms A = (dig (A / 3600) ++ (if 0 < A % 3600 then dig (A / 60 % 60) else [])) ++ _
    unfold hms
    rw [List.append_assoc]
  have hfin : Oct (sg :: hms A) := oct_app hsg (hms_oct hA0 hA1)
  have Hst := Lib.hid hst
  have Hfin := Lib.hid hfin
  have O1 := Lib.hid o1
  have O2 := Lib.hid o2
  have O3 := Lib.hid o3
  have H12 := Lib.hid h12
  have Hcase := Lib.hid hcase
  have HS5 := Lib.hid hsg45
  have HS3 := Lib.hid hsg43
  clear hst hsg hfin o1 o2 o3 hcase h12 hsg45 hsg43
  by_cases hneg : off < 0
  all_goals
    first
      | (have hsE : sg = 45 := HS5.out hneg
         have hA : off = -A := by have := Hcase.out; omega)
      | (have hsE : sg = 43 := HS3.out hneg
         have hA : off = A := by have := Hcase.out; omega)
    have HsE := Lib.hid hsE
    clear hsE Hcase HS5 HS3
    have HA := Lib.hid hA
    clear hA
    go_enter Tryz.func171, Tryz.ntmps171
    go_upto_region 6 with fail
    have i0' : ∀ w, (Instr.index 211 (.agg #[.int .i64 3600, .int .i64 60, .int .i64 1]) (.int .i64 0)).run Tryz.prog w = .ok (.int .i64 3600) w := fun _ => by kernel_rfl
    have i1' : ∀ w, (Instr.index 211 (.agg #[.int .i64 3600, .int .i64 60, .int .i64 1]) (.int .i64 1)).run Tryz.prog w = .ok (.int .i64 60) w := fun _ => by kernel_rfl
    have i2' : ∀ w, (Instr.index 211 (.agg #[.int .i64 3600, .int .i64 60, .int .i64 1]) (.int .i64 2)).run Tryz.prog w = .ok (.int .i64 1) w := fun _ => by kernel_rfl
    first
      | rw [show wrap64 (-off) = A by have := HA.out; unfold wrap64; omega]
      | rw [show -off = A by have := HA.out; omega]
      | (have hoA := HA.out; rw [hoA]; clear hoA)
    have hX : Below w.heap.size w ((w.alloc (.cells #[.int .u8 sg] 5)).alloc (.cells #[.int .i64 3600, .int .i64 60, .int .i64 1] 211)) := by repeat (first | (with_reducible exact Below.refl _ _) | (with_reducible assumption) | (with_reducible refine ba ?_) | (with_reducible refine bd ?_) | (with_reducible refine bdn ?_ _) | (with_reducible refine bset ?_ (by first | exact Nat.le_refl _ | omega | (simp; done) | (simp; omega))) | (with_reducible refine bt ?_ (by with_reducible assumption)))
    obtain ⟨X, hXe, hrowX, hbX⟩ : ∃ X, X = ((w.alloc (.cells #[.int .u8 sg] 5)).alloc (.cells #[.int .i64 3600, .int .i64 60, .int .i64 1] 211)) ∧ X.ownsRow w.heap.size 5 1 (.slice (some ⟨w.heap.size, 0, none⟩) 1 1) 1 (u8s (sg :: outW A 0)) ∧ Below w.heap.size w X := ⟨_, rfl, Hst.out _ ((Box.new w _ _).old), hX⟩
    rw [HsE.out] at hXe
    rw [← hXe]
    clear hXe hX Hst
    go_loopw [17, 0, 3] (fun i n b wr => ∃ (j m : Nat), i = .int .i64 j ∧ j ≤ 3 ∧ n = .int .i64 (restW A j) ∧ m ≤ 2 * j + 1 ∧ wr.ownsRow w.heap.size 5 1 b m (u8s (sg :: outW A j)) ∧ Below w.heap.size w wr) (fun i _ _ _ => 3 - (intOf i).toNat)
    case atStart => exact ⟨0, 1, rfl, by omega, rfl, by omega, hrowX, hbX⟩
    case round =>
      clear hrowX hbX
      obtain ⟨j, m, rfl, hj, rfl, hm, hO, hBl⟩ := hrel
      have hBs := hBl.size
      rcases (by omega : j = 0 ∨ j = 1 ∨ j = 2 ∨ j = 3) with rfl | rfl | rfl | rfl
      · have e0 : restW A 0 = A := rfl
        rw [e0]
        go_wp2_with (at_builtin; refine wpList_append_own _ rfl _ _ 146 rfl w.heap.size 5 i0 (.int .u8 0) 1 1 Tryz.underlying146 hi hz0 hz1 hz2 rfl (by decide) _ _ _ rfl (hO.alloc _) ⟨wr.heap.size, 0, none⟩ 2 2 [.int .u8 (48 + (A / 3600) / 10), .int .u8 (48 + (A / 3600) % 10)] rfl rfl (cell_two_new _ _ _ _) (by intro u hu; simp at hu; rcases hu with rfl | rfl <;> rfl) (by unfold maxLen; omega) (by omega) (by simp; omega) ?_; intro v3 w3 hown3 hg3 _)
        go_roundw
        case rel =>
          exact ⟨1, m + 2, by go_num, by omega, rfl, by omega, (by rw [O1.out]; exact hown3), (hBl.alloc hBl.size _).grown hg3 (by simp; omega) (fun k hk => (hO.lt k hk).1)⟩
        case measure => simp [intOf]
      · have e0 : restW A 1 = A % 3600 := rfl
        rw [e0]
        by_cases hpos : 0 < A % 3600
        · go_wp2_with (at_builtin; refine wpList_append_own _ rfl _ _ 146 rfl w.heap.size 5 i0 (.int .u8 0) 1 1 Tryz.underlying146 hi hz0 hz1 hz2 rfl (by decide) _ _ _ rfl (hO.alloc _) ⟨wr.heap.size, 0, none⟩ 2 2 [.int .u8 (48 + (A % 3600 / 60) / 10), .int .u8 (48 + (A % 3600 / 60) % 10)] rfl rfl (cell_two_new _ _ _ _) (by intro u hu; simp at hu; rcases hu with rfl | rfl <;> rfl) (by unfold maxLen; omega) (by omega) (by simp; omega) ?_; intro v3 w3 hown3 hg3 _)
          go_roundw
          case rel => exact ⟨2, m + 2, by go_num, by omega, (by show Value.int .i64 _ = Value.int .i64 (A % 60); rw [H12.out]), by omega, (by rw [O2.out, if_pos hpos]; rw [O1.out] at hown3; exact hown3), (hBl.alloc hBl.size _).grown hg3 (by simp; omega) (fun k hk => (hO.lt k hk).1)⟩
          case measure => simp [intOf]
        · go_wp2
          go_roundw
          case rel => exact ⟨2, m, by go_num, by omega, (by show Value.int .i64 _ = Value.int .i64 (A % 60); rw [H12.out]), by omega, (by rw [O2.out, if_neg hpos, List.append_nil, ← O1.out]; exact hO), hBl⟩
          case measure => simp [intOf]
      · have e0 : restW A 2 = A % 60 := rfl
        rw [e0]
        by_cases hpos : 0 < A % 60
        · go_wp2_with (at_builtin; refine wpList_append_own _ rfl _ _ 146 rfl w.heap.size 5 i0 (.int .u8 0) 1 1 Tryz.underlying146 hi hz0 hz1 hz2 rfl (by decide) _ _ _ rfl (hO.alloc _) ⟨wr.heap.size, 0, none⟩ 2 2 [.int .u8 (48 + (A % 60) / 10), .int .u8 (48 + A % 10)] rfl rfl (cell_two_new _ _ _ _) (by intro u hu; simp at hu; rcases hu with rfl | rfl <;> rfl) (by unfold maxLen; omega) (by omega) (by simp; omega) ?_; intro v3 w3 hown3 hg3 _)
          go_roundw
          case rel => exact ⟨3, m + 2, by go_num, by omega, (by show Value.int .i64 _ = Value.int .i64 0; congr 1), by omega, (by rw [O3.out, if_pos hpos, show sg :: (outW A 2 ++ dig (A % 60)) = (sg :: outW A 2) ++ dig (A % 60) from rfl, u8s_app]; unfold dig; rw [show A % 60 % 10 = A % 10 by omega]; exact hown3), (hBl.alloc hBl.size _).grown hg3 (by simp; omega) (fun k hk => (hO.lt k hk).1)⟩
          case measure => simp [intOf]
        · go_wp2
          go_roundw
          case rel => exact ⟨3, m, by go_num, by omega, (by show Value.int .i64 _ = Value.int .i64 0; congr 1), by omega, (by rw [O3.out, if_neg hpos, List.append_nil]; exact hO), hBl⟩
          case measure => simp [intOf]
      · have hr := str_own hO Hfin.out
        clear hO
        go_wp2
        go_ret
        exact ⟨rfl, hBl⟩
theorem cutF_size (s : ByteArray) (h : s.size ≤ 16) : (cutF s).2.1.size ≤ 16 ∧ (cutF s).2.2.size ≤ 16 := by
  have z1 := cut_size s.data.toList [37, 115]
  have z2 := cut_size s.data.toList [47]
  simp only [Array.length_toList] at z1 z2
  have hsz : s.data.size = s.size := rfl
  have m : ∀ l : List UInt8, (⟨l.toArray⟩ : ByteArray).size = l.length := fun l => by show l.toArray.size = _; simp
  have e : (⟨#[]⟩ : ByteArray).size = 0 := rfl
  unfold cutF
  simp only
  split
  · exact ⟨by simp [e], by simp [e]⟩
  · split
    · exact ⟨by rw [m]; omega, by rw [m]; omega⟩
    · split
      · exact ⟨by rw [m]; omega, by rw [m]; omega⟩
      · split
        · exact ⟨h, by simp [e]⟩
        · exact ⟨by simp [e], by simp [e]⟩
set_option maxHeartbeats 3200000 in
theorem Abbr (s : ByteArray) (hs : s.size ≤ 9223372036854775807) (off save : Int) (letter : ByteArray) (hl : letter.size ≤ 1000000) (w : World) (ht : Tab w) :
    Calls Tryz.prog 140 #[.string s, .int .i64 off, .int .i64 save, .string letter] w fun e w' => e = .returned (.tuple #[.string (abbrF s off save letter).1, .int .i64 (abbrF s off save letter).2]) ∧ Below w.heap.size w w' := by
  have cc := fun W (h : Tab W) => Check s hs W h
  unfold abbrF
  have HT := Lib.hid ht
  clear ht
  by_cases h0 : checkE s = 0
  rotate_left
  · rw [if_pos h0]
    generalize checkE s = ce at *
    have Cc := Lib.hid cc
    clear cc
    go_enter Tryz.func140, Tryz.ntmps140
    go_wp2_with (go_at_call 74; (with_reducible refine (Cc.out _ ?_).mono ?_); (· exact HT.out.later (by repeat (first | (with_reducible exact Below.refl _ _) | (with_reducible assumption) | (with_reducible refine ba ?_) | (with_reducible refine bd ?_) | (with_reducible refine bdn ?_ _) | (with_reducible refine bset ?_ (by first | exact Nat.le_refl _ | omega | (simp; done) | (simp; omega))) | (with_reducible refine bt ?_ (by with_reducible assumption))))); rintro e w1 ⟨rfl, hb1⟩; obtain ⟨hc1, hf1⟩ := bcell hb1)
    go_ret2
    exact ⟨rfl, by repeat (first | (with_reducible exact Below.refl _ _) | (with_reducible assumption) | (with_reducible refine ba ?_) | (with_reducible refine bd ?_) | (with_reducible refine bdn ?_ _) | (with_reducible refine bset ?_ (by first | exact Nat.le_refl _ | omega | (simp; done) | (simp; omega))) | (with_reducible refine bt ?_ (by with_reducible assumption)))⟩
  rw [if_neg (by simpa using h0)]
  have hz := (check_kind h0).2
  rw [h0] at cc
  have Cc := Lib.hid cc
  clear cc
  by_cases h1 : off < -359999 ∨ 359999 < off
  · rw [if_pos h1]
    go_enter Tryz.func140, Tryz.ntmps140
    go_wp2_with (go_at_call 74; (with_reducible refine (Cc.out _ ?_).mono ?_); (· exact HT.out.later (by repeat (first | (with_reducible exact Below.refl _ _) | (with_reducible assumption) | (with_reducible refine ba ?_) | (with_reducible refine bd ?_) | (with_reducible refine bdn ?_ _) | (with_reducible refine bset ?_ (by first | exact Nat.le_refl _ | omega | (simp; done) | (simp; omega))) | (with_reducible refine bt ?_ (by with_reducible assumption))))); rintro e w1 ⟨rfl, hb1⟩; obtain ⟨hc1, hf1⟩ := bcell hb1)
    all_goals
      go_ret2
      exact ⟨rfl, by repeat (first | (with_reducible exact Below.refl _ _) | (with_reducible assumption) | (with_reducible refine ba ?_) | (with_reducible refine bd ?_) | (with_reducible refine bdn ?_ _) | (with_reducible refine bset ?_ (by first | exact Nat.le_refl _ | omega | (simp; done) | (simp; omega))) | (with_reducible refine bt ?_ (by with_reducible assumption)))⟩
  rw [if_neg h1]
  have hk := cutF_size s hz
  have ck := fun W (h : Tab W) => cut s (by omega) W h
  have cw := fun W => written off (by omega) (by omega) W
  generalize cutF s = c at *
  obtain ⟨k, a, b⟩ := c
  simp only at ck hk ⊢
  generalize writtenB off = wb at *
  have Ck := Lib.hid ck
  have Cw := Lib.hid cw
  have hab : (a ++ letter).size = a.size + letter.size := ByteArray.size_append
  obtain ⟨ha, hb⟩ := hk
  have t1 : a.size + letter.size ≤ 9223372036854775807 := by omega
  have t2 : (a ++ letter).size + b.size ≤ 9223372036854775807 := by omega
  have cat1 := fun W => run_string_add_sum (P := Tryz.prog) W a letter t1
  have cat2 := fun W => run_string_add_sum (P := Tryz.prog) W (a ++ letter) b t2
  clear ck cw hab
  have b1 : ¬ off < -359999 := fun h => h1 (.inl h)
  have b2 : ¬ 359999 < off := fun h => h1 (.inr h)
  clear h1 h0
  by_cases k2 : k = 2
  · rw [if_pos k2]
    subst k2
    go_enter Tryz.func140, Tryz.ntmps140
    go_wp2_with (first
      | (go_at_call 74; (with_reducible refine (Cc.out _ ?_).mono ?_); (· exact HT.out.later (by repeat (first | (with_reducible exact Below.refl _ _) | (with_reducible assumption) | (with_reducible refine ba ?_) | (with_reducible refine bd ?_) | (with_reducible refine bdn ?_ _) | (with_reducible refine bset ?_ (by first | exact Nat.le_refl _ | omega | (simp; done) | (simp; omega))) | (with_reducible refine bt ?_ (by with_reducible assumption))))); rintro e w1 ⟨rfl, hb1⟩; obtain ⟨hc1, hf1⟩ := bcell hb1)
      | (go_at_call 119; (with_reducible refine (Ck.out _ ?_).mono ?_); (· exact HT.out.later (by repeat (first | (with_reducible exact Below.refl _ _) | (with_reducible assumption) | (with_reducible refine ba ?_) | (with_reducible refine bd ?_) | (with_reducible refine bdn ?_ _) | (with_reducible refine bset ?_ (by first | exact Nat.le_refl _ | omega | (simp; done) | (simp; omega))) | (with_reducible refine bt ?_ (by with_reducible assumption))))); rintro e w2 ⟨rfl, hb2⟩; obtain ⟨hc2, hf2⟩ := bcell hb2))
    go_ret2
    exact ⟨rfl, by repeat (first | (with_reducible exact Below.refl _ _) | (with_reducible assumption) | (with_reducible refine ba ?_) | (with_reducible refine bd ?_) | (with_reducible refine bdn ?_ _) | (with_reducible refine bset ?_ (by first | exact Nat.le_refl _ | omega | (simp; done) | (simp; omega))) | (with_reducible refine bt ?_ (by with_reducible assumption)))⟩
  rw [if_neg k2]
  by_cases k3 : k = 3
  · rw [if_pos k3]
    subst k3
    go_enter Tryz.func140, Tryz.ntmps140
    go_wp2_with (first
      | (go_at_call 74; (with_reducible refine (Cc.out _ ?_).mono ?_); (· exact HT.out.later (by repeat (first | (with_reducible exact Below.refl _ _) | (with_reducible assumption) | (with_reducible refine ba ?_) | (with_reducible refine bd ?_) | (with_reducible refine bdn ?_ _) | (with_reducible refine bset ?_ (by first | exact Nat.le_refl _ | omega | (simp; done) | (simp; omega))) | (with_reducible refine bt ?_ (by with_reducible assumption))))); rintro e w1 ⟨rfl, hb1⟩; obtain ⟨hc1, hf1⟩ := bcell hb1)
      | (go_at_call 119; (with_reducible refine (Ck.out _ ?_).mono ?_); (· exact HT.out.later (by repeat (first | (with_reducible exact Below.refl _ _) | (with_reducible assumption) | (with_reducible refine ba ?_) | (with_reducible refine bd ?_) | (with_reducible refine bdn ?_ _) | (with_reducible refine bset ?_ (by first | exact Nat.le_refl _ | omega | (simp; done) | (simp; omega))) | (with_reducible refine bt ?_ (by with_reducible assumption))))); rintro e w2 ⟨rfl, hb2⟩; obtain ⟨hc2, hf2⟩ := bcell hb2)
      | (go_at_call 171; (with_reducible refine (Cw.out _).mono ?_); rintro e w3 ⟨rfl, hb3⟩; obtain ⟨hc3, hf3⟩ := bcell hb3))
    go_ret2
    exact ⟨rfl, by repeat (first | (with_reducible exact Below.refl _ _) | (with_reducible assumption) | (with_reducible refine ba ?_) | (with_reducible refine bd ?_) | (with_reducible refine bdn ?_ _) | (with_reducible refine bset ?_ (by first | exact Nat.le_refl _ | omega | (simp; done) | (simp; omega))) | (with_reducible refine bt ?_ (by with_reducible assumption)))⟩
  rw [if_neg k3]
  by_cases k4 : k = 4
  · subst k4
    by_cases hsv : save = 0
    · rw [if_neg (by simp [hsv])]
      go_enter Tryz.func140, Tryz.ntmps140
      go_wp2_with (first
        | (go_at_call 74; (with_reducible refine (Cc.out _ ?_).mono ?_); (· exact HT.out.later (by repeat (first | (with_reducible exact Below.refl _ _) | (with_reducible assumption) | (with_reducible refine ba ?_) | (with_reducible refine bd ?_) | (with_reducible refine bdn ?_ _) | (with_reducible refine bset ?_ (by first | exact Nat.le_refl _ | omega | (simp; done) | (simp; omega))) | (with_reducible refine bt ?_ (by with_reducible assumption))))); rintro e w1 ⟨rfl, hb1⟩; obtain ⟨hc1, hf1⟩ := bcell hb1)
        | (go_at_call 119; (with_reducible refine (Ck.out _ ?_).mono ?_); (· exact HT.out.later (by repeat (first | (with_reducible exact Below.refl _ _) | (with_reducible assumption) | (with_reducible refine ba ?_) | (with_reducible refine bd ?_) | (with_reducible refine bdn ?_ _) | (with_reducible refine bset ?_ (by first | exact Nat.le_refl _ | omega | (simp; done) | (simp; omega))) | (with_reducible refine bt ?_ (by with_reducible assumption))))); rintro e w2 ⟨rfl, hb2⟩; obtain ⟨hc2, hf2⟩ := bcell hb2))
      go_ret2
      exact ⟨rfl, by repeat (first | (with_reducible exact Below.refl _ _) | (with_reducible assumption) | (with_reducible refine ba ?_) | (with_reducible refine bd ?_) | (with_reducible refine bdn ?_ _) | (with_reducible refine bset ?_ (by first | exact Nat.le_refl _ | omega | (simp; done) | (simp; omega))) | (with_reducible refine bt ?_ (by with_reducible assumption)))⟩
    · rw [if_pos ⟨rfl, hsv⟩]
      go_enter Tryz.func140, Tryz.ntmps140
      go_wp2_with (first
        | (go_at_call 74; (with_reducible refine (Cc.out _ ?_).mono ?_); (· exact HT.out.later (by repeat (first | (with_reducible exact Below.refl _ _) | (with_reducible assumption) | (with_reducible refine ba ?_) | (with_reducible refine bd ?_) | (with_reducible refine bdn ?_ _) | (with_reducible refine bset ?_ (by first | exact Nat.le_refl _ | omega | (simp; done) | (simp; omega))) | (with_reducible refine bt ?_ (by with_reducible assumption))))); rintro e w1 ⟨rfl, hb1⟩; obtain ⟨hc1, hf1⟩ := bcell hb1)
        | (go_at_call 119; (with_reducible refine (Ck.out _ ?_).mono ?_); (· exact HT.out.later (by repeat (first | (with_reducible exact Below.refl _ _) | (with_reducible assumption) | (with_reducible refine ba ?_) | (with_reducible refine bd ?_) | (with_reducible refine bdn ?_ _) | (with_reducible refine bset ?_ (by first | exact Nat.le_refl _ | omega | (simp; done) | (simp; omega))) | (with_reducible refine bt ?_ (by with_reducible assumption))))); rintro e w2 ⟨rfl, hb2⟩; obtain ⟨hc2, hf2⟩ := bcell hb2))
      go_ret2
      exact ⟨rfl, by repeat (first | (with_reducible exact Below.refl _ _) | (with_reducible assumption) | (with_reducible refine ba ?_) | (with_reducible refine bd ?_) | (with_reducible refine bdn ?_ _) | (with_reducible refine bset ?_ (by first | exact Nat.le_refl _ | omega | (simp; done) | (simp; omega))) | (with_reducible refine bt ?_ (by with_reducible assumption)))⟩
  · rw [if_neg (fun h => k4 h.1)]
    go_enter Tryz.func140, Tryz.ntmps140
    go_wp2_with (first
      | (go_at_call 74; (with_reducible refine (Cc.out _ ?_).mono ?_); (· exact HT.out.later (by repeat (first | (with_reducible exact Below.refl _ _) | (with_reducible assumption) | (with_reducible refine ba ?_) | (with_reducible refine bd ?_) | (with_reducible refine bdn ?_ _) | (with_reducible refine bset ?_ (by first | exact Nat.le_refl _ | omega | (simp; done) | (simp; omega))) | (with_reducible refine bt ?_ (by with_reducible assumption))))); rintro e w1 ⟨rfl, hb1⟩; obtain ⟨hc1, hf1⟩ := bcell hb1)
      | (go_at_call 119; (with_reducible refine (Ck.out _ ?_).mono ?_); (· exact HT.out.later (by repeat (first | (with_reducible exact Below.refl _ _) | (with_reducible assumption) | (with_reducible refine ba ?_) | (with_reducible refine bd ?_) | (with_reducible refine bdn ?_ _) | (with_reducible refine bset ?_ (by first | exact Nat.le_refl _ | omega | (simp; done) | (simp; omega))) | (with_reducible refine bt ?_ (by with_reducible assumption))))); rintro e w2 ⟨rfl, hb2⟩; obtain ⟨hc2, hf2⟩ := bcell hb2))
    go_ret2
    exact ⟨rfl, by repeat (first | (with_reducible exact Below.refl _ _) | (with_reducible assumption) | (with_reducible refine ba ?_) | (with_reducible refine bd ?_) | (with_reducible refine bdn ?_ _) | (with_reducible refine bset ?_ (by first | exact Nat.le_refl _ | omega | (simp; done) | (simp; omega))) | (with_reducible refine bt ?_ (by with_reducible assumption)))⟩
end Fmt
end Go.Proofs.YtkpjhgkmjcdobaaGreatDoor
