import Derived.Test.YtecmipgpldcfcaaGreatDoorG13
import Derived.Test.YtecmipgpldcfcaaGreatDoorG1
import Derived.Test.YtecmipgpldcfcaaGreatDoorG9
namespace Go.Proofs.YtecmipgpldcfcaaGreatDoor
open Go.RowKit NB
namespace Fmt
def u8s (l : List Int) : List Value := l.map fun d => .int .u8 d
def Oct (l : List Int) : Prop := ∀ d ∈ l, 0 ≤ d ∧ d ≤ 255
theorem u8s_app (a b : List Int) : u8s (a ++ b) = u8s a ++ u8s b := by unfold u8s;simp
theorem u8s_back {l : List Int} (h : Oct l) : u8s l = (l.map fun d => UInt8.ofNat d.toNat).map fun c => Value.int .u8 (c.toNat : Int) := by
  unfold u8s
  rw [List.map_map]
  apply List.map_congr_left
  intro d hd
  have := h d hd
  simp only [Function.comp_apply]
  rw [UInt8.toNat_ofNat_of_lt' (by show d.toNat < 256;omega)]
  congr 1;omega
theorem str_own {w : World} {B m : Nat} {v : Value} {l : List Int} (h : w.ownsRow B 5 1 v m (u8s l)) (hl : Oct l) : (convert 138 9 v).run Tryz.prog w = .ok (.string (bytesOf l)) w := by
  have hlen := h.1
  rw [u8s_back hl] at h hlen
  unfold bytesOf
  generalize (l.map fun d => UInt8.ofNat d.toNat) = k at *
  simp only [List.length_map, Nat.mul_one] at hlen
  rcases h.2 with ⟨hv, h2⟩|⟨g, cap, cur, hv, hg, hh, hle, hcap, hcs, htk⟩
  · subst hv
    rw [h2] at hlen
    have : k = [] := List.eq_nil_of_length_eq_zero (by omega)
    subst this
    show (convert 138 9 (.slice none 0 0)).run Tryz.prog w = .ok (.string ⟨#[]⟩) w
    kernel_rfl
  · subst hv
    subst hlen
    refine run_convert_bytes_back w 138 9 5 ⟨g, 0, none⟩ cap k Tryz.underlying138 Tryz.underlying5 Tryz.underlying9 (fun j hj => ?_)
    have := h.cells (g := g) rfl j (.int .u8 (k[j].toNat : Int)) (by rw [List.getElem?_map, List.getElem?_eq_getElem hj];rfl)
    exact this
theorem own_one {w : World} {base g : Nat} {x : Value} {t : TypeId} (h : w.heap[g]? = some (.cells #[x] t)) (hb : base ≤ g) : w.ownsRow base t 1 (.slice (some ⟨g, 0, none⟩) 1 1) 1 [x] :=
  ⟨by simp, .inr ⟨g, 1, #[x], rfl, hb, h, Nat.le_refl _, by decide, by simp, by simp⟩⟩
theorem cell_two_new (w : World) (x y : Value) (t : TypeId) : ∀ j u, [x, y][j]? = some u → (w.alloc (.cells #[x, y] t)).cell? ((⟨w.heap.size, 0, none⟩ : Addr).add j) = some u := by
  intro j u hj
  rw [show ((⟨w.heap.size, 0, none⟩ : Addr).add j) = ⟨w.heap.size, 0 + j, none⟩ by unfold Addr.add;split <;> simp_all, Nat.zero_add, new_cell]
  simpa using hj
def restW (n : Int) (j : Nat) : Int := if j = 0 then n else if j = 1 then n % 3600 else if j = 2 then n % 60 else 0
def outW (n : Int) (j : Nat) : List Int := if j = 0 then [] else if j = 1 then dig (n / 3600) else if j = 2 then dig (n / 3600) ++ (if 0 < n % 3600 then dig (n / 60 % 60) else []) else hms n
def unitW (j : Nat) : Int := if j = 0 then 3600 else if j = 1 then 60 else 1
theorem dig_oct {k : Int} (h0 : 0 ≤ k) (h1 : k ≤ 99) : Oct (dig k) := by
  intro d hd
  unfold dig at hd
  simp only [List.mem_cons, List.not_mem_nil, or_false] at hd
  rcases hd with rfl|rfl <;> omega
theorem oct_app {a b : List Int} (ha : Oct a) (hb : Oct b) : Oct (a ++ b) := by
  intro d hd
  rcases List.mem_append.1 hd with h|h
  · exact ha d h
  · exact hb d h
theorem oct_nil : Oct [] := by intro d hd;cases hd
theorem hms_oct {n : Int} (h0 : 0 ≤ n) (h1 : n ≤ 359999) : Oct (hms n) := by
  unfold hms
  refine oct_app (dig_oct (by omega) (by omega)) (oct_app ?_ ?_)
  · split
    · exact dig_oct (by omega) (by omega)
    · exact oct_nil
  · split
    · exact dig_oct (by omega) (by omega)
    · exact oct_nil
set_option maxRecDepth 100000 in
set_option maxHeartbeats 3200000 in
theorem written (off : Int) (h0 : -359999 ≤ off) (h1 : off ≤ 359999) (w : World) : Calls Tryz.prog 140 #[.int .i64 off] w fun e w' => e = .returned (.string (writtenB off)) ∧ Below w.heap.size w w' := by
  obtain ⟨i0, hi, hz0, hz1, hz2⟩ := info_parts Txt.info_u8
  obtain ⟨A, sg, hA0, hA1, hS, hcase⟩ : ∃ A sg : Int, 0 ≤ A ∧ A ≤ 359999 ∧ writtenB off = bytesOf (sg :: hms A) ∧ ((off < 0 ∧ A = -off ∧ sg = 45) ∨ (¬ off < 0 ∧ A = off ∧ sg = 43)) := by
    by_cases h : off < 0
    · exact ⟨-off, 45, by omega, by omega, by unfold writtenB writtenL;rw [if_pos h], .inl ⟨h, rfl, rfl⟩⟩
    · exact ⟨off, 43, by omega, by omega, by unfold writtenB writtenL;rw [if_neg h], .inr ⟨h, rfl, rfl⟩⟩
  rw [hS]
  have hsg : Oct [sg] := by
    intro d hd
    rw [List.mem_singleton] at hd
    omega
  clear hS
  have hst : ∀ wr, Box wr w.heap.size #[.int .u8 sg] 5 → wr.ownsRow w.heap.size 5 1 (.slice (some ⟨w.heap.size, 0, none⟩) 1 1) 1 (u8s (sg :: outW A 0)) := fun wr h => own_one h (Nat.le_refl _)
  have hsg45 : off < 0 → sg = 45 := by omega
  have hsg43 : ¬ off < 0 → sg = 43 := by omega
  have hR0 : 0 ≤ A / 3600 ∧ A / 3600 ≤ 99 := by omega
  have hR1 : 0 ≤ A % 3600 / 60 ∧ A % 3600 / 60 ≤ 99 := by omega
  have hR2 : 0 ≤ A % 60 ∧ A % 60 ≤ 59 := by omega
  have h12 : A % 3600 % 60 = A % 60 := by omega
  have hm1 : 0 ≤ A % 3600 ∧ A % 3600 ≤ 3599 := by omega
  have o1 : outW A 1 = dig (A / 3600) := rfl
  have o2 : outW A 2 = dig (A / 3600) ++ (if 0 < A % 3600 then dig (A % 3600 / 60) else []) := by
    rw [show A % 3600 / 60 = A / 60 % 60 by omega]
    rfl
  have o3 : outW A 3 = outW A 2 ++ (if 0 < A % 60 then dig (A % 60) else []) := by
    show hms A = (dig (A / 3600) ++ (if 0 < A % 3600 then dig (A / 60 % 60) else [])) ++ _
    unfold hms
    rw [List.append_assoc]
  have hfin : Oct (sg :: hms A) := oct_app hsg (hms_oct hA0 hA1)
  have Hst := Lib.hid hst
  have Hfin := Lib.hid hfin
  have O1 := Lib.hid o1
  have O2 := Lib.hid o2
  have O3 := Lib.hid o3
  have H12 := Lib.hid h12
  have Hcase := Lib.hid hcase
  have HS5 := Lib.hid hsg45
  have HS3 := Lib.hid hsg43
  clear hst hsg hfin o1 o2 o3 hcase h12 hsg45 hsg43
  by_cases hneg : off < 0
  all_goals
    first
      | (have hsE : sg = 45 := HS5.out hneg
         have hA : off = -A := by have := Hcase.out;omega)
      | (have hsE : sg = 43 := HS3.out hneg
         have hA : off = A := by have := Hcase.out;omega)
    have HsE := Lib.hid hsE
    clear hsE Hcase HS5 HS3
    have HA := Lib.hid hA
    clear hA
    go_enter Tryz.func140, Tryz.ntmps140
    go_upto_region 6 with fail
    have i0' : ∀ w, (Instr.index 207 (.agg #[.int .i64 3600, .int .i64 60, .int .i64 1]) (.int .i64 0)).run Tryz.prog w = .ok (.int .i64 3600) w := fun _ => by kernel_rfl
    have i1' : ∀ w, (Instr.index 207 (.agg #[.int .i64 3600, .int .i64 60, .int .i64 1]) (.int .i64 1)).run Tryz.prog w = .ok (.int .i64 60) w := fun _ => by kernel_rfl
    have i2' : ∀ w, (Instr.index 207 (.agg #[.int .i64 3600, .int .i64 60, .int .i64 1]) (.int .i64 2)).run Tryz.prog w = .ok (.int .i64 1) w := fun _ => by kernel_rfl
    first
      | rw [show wrap64 (-off) = A by have := HA.out;unfold wrap64;omega]
      | rw [show -off = A by have := HA.out;omega]
      | (have hoA := HA.out;rw [hoA];clear hoA)
    have hX : Below w.heap.size w ((w.alloc (.cells #[.int .u8 sg] 5)).alloc (.cells #[.int .i64 3600, .int .i64 60, .int .i64 1] 207)) := bcq
    obtain ⟨X, hXe, hrowX, hbX⟩ : ∃ X, X = ((w.alloc (.cells #[.int .u8 sg] 5)).alloc (.cells #[.int .i64 3600, .int .i64 60, .int .i64 1] 207)) ∧ X.ownsRow w.heap.size 5 1 (.slice (some ⟨w.heap.size, 0, none⟩) 1 1) 1 (u8s (sg :: outW A 0)) ∧ Below w.heap.size w X := ⟨_, rfl, Hst.out _ ((Box.new w _ _).old), hX⟩
    rw [HsE.out] at hXe
    rw [← hXe]
    clear hXe hX Hst
    go_loopw [17, 0, 3] (fun i n b wr => ∃ (j m : Nat), i = .int .i64 j ∧ j ≤ 3 ∧ n = .int .i64 (restW A j) ∧ m ≤ 2 * j + 1 ∧ wr.ownsRow w.heap.size 5 1 b m (u8s (sg :: outW A j)) ∧ Below w.heap.size w wr) (fun i _ _ _ => 3 - (intOf i).toNat)
    case atStart => exact ⟨0, 1, rfl, by omega, rfl, by omega, hrowX, hbX⟩
    case round =>
      clear hrowX hbX
      obtain ⟨j, m, rfl, hj, rfl, hm, hO, hBl⟩ := hrel
      have hBs := hBl.size
      rcases (by omega : j = 0 ∨ j = 1 ∨ j = 2 ∨ j = 3) with rfl|rfl|rfl|rfl
      · have e0 : restW A 0 = A := rfl
        rw [e0]
        go_wp2_with (at_builtin;refine wpList_append_own _ rfl _ _ 138 rfl w.heap.size 5 i0 (.int .u8 0) 1 1 Tryz.underlying138 hi hz0 hz1 hz2 rfl (by decide) _ _ _ rfl (hO.alloc _) ⟨wr.heap.size, 0, none⟩ 2 2 [.int .u8 (48 + (A / 3600) / 10), .int .u8 (48 + (A / 3600) % 10)] rfl rfl (cell_two_new _ _ _ _) (by intro u hu;simp at hu;rcases hu with rfl|rfl <;> rfl) (by unfold maxLen;omega) (by omega) (by simp;omega) ?_;intro v3 w3 hown3 hg3 _)
        go_roundw
        case rel =>
          exact ⟨1, m + 2, by go_num, by omega, rfl, by omega, (by rw [O1.out];exact hown3), (hBl.alloc hBl.size _).grown hg3 (by simp;omega) (fun k hk => (hO.lt k hk).1)⟩
        case measure => simp [intOf]
      · have e0 : restW A 1 = A % 3600 := rfl
        rw [e0]
        by_cases hpos : 0 < A % 3600
        · go_wp2_with (at_builtin;refine wpList_append_own _ rfl _ _ 138 rfl w.heap.size 5 i0 (.int .u8 0) 1 1 Tryz.underlying138 hi hz0 hz1 hz2 rfl (by decide) _ _ _ rfl (hO.alloc _) ⟨wr.heap.size, 0, none⟩ 2 2 [.int .u8 (48 + (A % 3600 / 60) / 10), .int .u8 (48 + (A % 3600 / 60) % 10)] rfl rfl (cell_two_new _ _ _ _) (by intro u hu;simp at hu;rcases hu with rfl|rfl <;> rfl) (by unfold maxLen;omega) (by omega) (by simp;omega) ?_;intro v3 w3 hown3 hg3 _)
          go_roundw
          case rel => exact ⟨2, m + 2, by go_num, by omega, (by show Value.int .i64 _ = Value.int .i64 (A % 60);rw [H12.out]), by omega, (by rw [O2.out, if_pos hpos];rw [O1.out] at hown3;exact hown3), (hBl.alloc hBl.size _).grown hg3 (by simp;omega) (fun k hk => (hO.lt k hk).1)⟩
          case measure => simp [intOf]
        · go_wp2
          go_roundw
          case rel => exact ⟨2, m, by go_num, by omega, (by show Value.int .i64 _ = Value.int .i64 (A % 60);rw [H12.out]), by omega, (by rw [O2.out, if_neg hpos, List.append_nil, ← O1.out];exact hO), hBl⟩
          case measure => simp [intOf]
      · have e0 : restW A 2 = A % 60 := rfl
        rw [e0]
        by_cases hpos : 0 < A % 60
        · go_wp2_with (at_builtin;refine wpList_append_own _ rfl _ _ 138 rfl w.heap.size 5 i0 (.int .u8 0) 1 1 Tryz.underlying138 hi hz0 hz1 hz2 rfl (by decide) _ _ _ rfl (hO.alloc _) ⟨wr.heap.size, 0, none⟩ 2 2 [.int .u8 (48 + (A % 60) / 10), .int .u8 (48 + A % 10)] rfl rfl (cell_two_new _ _ _ _) (by intro u hu;simp at hu;rcases hu with rfl|rfl <;> rfl) (by unfold maxLen;omega) (by omega) (by simp;omega) ?_;intro v3 w3 hown3 hg3 _)
          go_roundw
          case rel => exact ⟨3, m + 2, by go_num, by omega, (by show Value.int .i64 _ = Value.int .i64 0;congr 1), by omega, (by rw [O3.out, if_pos hpos, show sg :: (outW A 2 ++ dig (A % 60)) = (sg :: outW A 2) ++ dig (A % 60) from rfl, u8s_app];unfold dig;rw [show A % 60 % 10 = A % 10 by omega];exact hown3), (hBl.alloc hBl.size _).grown hg3 (by simp;omega) (fun k hk => (hO.lt k hk).1)⟩
          case measure => simp [intOf]
        · go_wp2
          go_roundw
          case rel => exact ⟨3, m, by go_num, by omega, (by show Value.int .i64 _ = Value.int .i64 0;congr 1), by omega, (by rw [O3.out, if_neg hpos, List.append_nil];exact hO), hBl⟩
          case measure => simp [intOf]
      · have hr := str_own hO Hfin.out
        clear hO
        go_wp2
        go_ret
        exact ⟨rfl, hBl⟩
theorem cutF_size (s : ByteArray) (h : s.size ≤ 16) : (cutF s).2.1.size ≤ 16 ∧ (cutF s).2.2.size ≤ 16 := by
  have z1 := cut_size s.data.toList [37, 115]
  have z2 := cut_size s.data.toList [47]
  simp only [Array.length_toList] at z1 z2
  have hsz : s.data.size = s.size := rfl
  have m : ∀ l : List UInt8, (⟨l.toArray⟩ : ByteArray).size = l.length := fun l => by show l.toArray.size = _;simp
  have e : (⟨#[]⟩ : ByteArray).size = 0 := rfl
  unfold cutF
  simp only
  split
  · exact ⟨by simp [e], by simp [e]⟩
  · split
    · exact ⟨by rw [m];omega, by rw [m];omega⟩
    · split
      · exact ⟨by rw [m];omega, by rw [m];omega⟩
      · split
        · exact ⟨h, by simp [e]⟩
        · exact ⟨by simp [e], by simp [e]⟩
set_option maxHeartbeats 3200000 in
theorem Abbr (s : ByteArray) (hs : s.size ≤ 9223372036854775807) (off save : Int) (letter : ByteArray) (hl : letter.size ≤ 1000000) (w : World) (ht : Tab w) :
    Calls Tryz.prog 93 #[.string s, .int .i64 off, .int .i64 save, .string letter] w fun e w' => e = .returned (.tuple #[.string (abbrF s off save letter).1, .int .i64 (abbrF s off save letter).2]) ∧ Below w.heap.size w w' := by
  have cc := fun W (h : Tab W) => Check s hs W h
  unfold abbrF
  have HT := Lib.hid ht
  clear ht
  by_cases h0 : checkE s = 0
  rotate_left
  · rw [if_pos h0]
    generalize checkE s = ce at *
    have Cc := Lib.hid cc
    clear cc
    go_enter Tryz.func93, Tryz.ntmps93
    go_wp2_with (go_at_call 52;(with_reducible refine (Cc.out _ ?_).mono ?_);(· exact HT.out.later bcq);rintro e w1 ⟨rfl, hb1⟩;obtain ⟨hc1, hf1⟩ := bcell hb1)
    go_ret2
    exact ⟨rfl, bcq⟩
  rw [if_neg (by simpa using h0)]
  have hz := (check_kind h0).2
  rw [h0] at cc
  have Cc := Lib.hid cc
  clear cc
  by_cases h1 : off < -359999 ∨ 359999 < off
  · rw [if_pos h1]
    go_enter Tryz.func93, Tryz.ntmps93
    go_wp2_with (go_at_call 52;(with_reducible refine (Cc.out _ ?_).mono ?_);(· exact HT.out.later bcq);rintro e w1 ⟨rfl, hb1⟩;obtain ⟨hc1, hf1⟩ := bcell hb1)
    all_goals
      go_ret2
      exact ⟨rfl, bcq⟩
  rw [if_neg h1]
  have hk := cutF_size s hz
  have ck := fun W (h : Tab W) => cut s (by omega) W h
  have cw := fun W => written off (by omega) (by omega) W
  generalize cutF s = c at *
  obtain ⟨k, a, b⟩ := c
  simp only at ck hk ⊢
  generalize writtenB off = wb at *
  have Ck := Lib.hid ck
  have Cw := Lib.hid cw
  have hab : (a ++ letter).size = a.size + letter.size := ByteArray.size_append
  obtain ⟨ha, hb⟩ := hk
  have t1 : a.size + letter.size ≤ 9223372036854775807 := by omega
  have t2 : (a ++ letter).size + b.size ≤ 9223372036854775807 := by omega
  have cat1 := fun W => run_string_add_sum (P := Tryz.prog) W a letter t1
  have cat2 := fun W => run_string_add_sum (P := Tryz.prog) W (a ++ letter) b t2
  clear ck cw hab
  have b1 : ¬ off < -359999 := fun h => h1 (.inl h)
  have b2 : ¬ 359999 < off := fun h => h1 (.inr h)
  clear h1 h0
  by_cases k2 : k = 2
  · rw [if_pos k2]
    subst k2
    go_enter Tryz.func93, Tryz.ntmps93
    go_wp2_with (first
      | (go_at_call 52;(with_reducible refine (Cc.out _ ?_).mono ?_);(· exact HT.out.later bcq);rintro e w1 ⟨rfl, hb1⟩;obtain ⟨hc1, hf1⟩ := bcell hb1)
      | (go_at_call 83;(with_reducible refine (Ck.out _ ?_).mono ?_);(· exact HT.out.later bcq);rintro e w2 ⟨rfl, hb2⟩;obtain ⟨hc2, hf2⟩ := bcell hb2))
    go_ret2
    exact ⟨rfl, bcq⟩
  rw [if_neg k2]
  by_cases k3 : k = 3
  · rw [if_pos k3]
    subst k3
    go_enter Tryz.func93, Tryz.ntmps93
    go_wp2_with (first
      | (go_at_call 52;(with_reducible refine (Cc.out _ ?_).mono ?_);(· exact HT.out.later bcq);rintro e w1 ⟨rfl, hb1⟩;obtain ⟨hc1, hf1⟩ := bcell hb1)
      | (go_at_call 83;(with_reducible refine (Ck.out _ ?_).mono ?_);(· exact HT.out.later bcq);rintro e w2 ⟨rfl, hb2⟩;obtain ⟨hc2, hf2⟩ := bcell hb2)
      | (go_at_call 140;(with_reducible refine (Cw.out _).mono ?_);rintro e w3 ⟨rfl, hb3⟩;obtain ⟨hc3, hf3⟩ := bcell hb3))
    go_ret2
    exact ⟨rfl, bcq⟩
  rw [if_neg k3]
  by_cases k4 : k = 4
  · subst k4
    by_cases hsv : save = 0
    · rw [if_neg (by simp [hsv])]
      go_enter Tryz.func93, Tryz.ntmps93
      go_wp2_with (first
        | (go_at_call 52;(with_reducible refine (Cc.out _ ?_).mono ?_);(· exact HT.out.later bcq);rintro e w1 ⟨rfl, hb1⟩;obtain ⟨hc1, hf1⟩ := bcell hb1)
        | (go_at_call 83;(with_reducible refine (Ck.out _ ?_).mono ?_);(· exact HT.out.later bcq);rintro e w2 ⟨rfl, hb2⟩;obtain ⟨hc2, hf2⟩ := bcell hb2))
      go_ret2
      exact ⟨rfl, bcq⟩
    · rw [if_pos ⟨rfl, hsv⟩]
      go_enter Tryz.func93, Tryz.ntmps93
      go_wp2_with (first
        | (go_at_call 52;(with_reducible refine (Cc.out _ ?_).mono ?_);(· exact HT.out.later bcq);rintro e w1 ⟨rfl, hb1⟩;obtain ⟨hc1, hf1⟩ := bcell hb1)
        | (go_at_call 83;(with_reducible refine (Ck.out _ ?_).mono ?_);(· exact HT.out.later bcq);rintro e w2 ⟨rfl, hb2⟩;obtain ⟨hc2, hf2⟩ := bcell hb2))
      go_ret2
      exact ⟨rfl, bcq⟩
  · rw [if_neg (fun h => k4 h.1)]
    go_enter Tryz.func93, Tryz.ntmps93
    go_wp2_with (first
      | (go_at_call 52;(with_reducible refine (Cc.out _ ?_).mono ?_);(· exact HT.out.later bcq);rintro e w1 ⟨rfl, hb1⟩;obtain ⟨hc1, hf1⟩ := bcell hb1)
      | (go_at_call 83;(with_reducible refine (Ck.out _ ?_).mono ?_);(· exact HT.out.later bcq);rintro e w2 ⟨rfl, hb2⟩;obtain ⟨hc2, hf2⟩ := bcell hb2))
    go_ret2
    exact ⟨rfl, bcq⟩
end Fmt
end Go.Proofs.YtecmipgpldcfcaaGreatDoor
namespace Go.Proofs.YtecmipgpldcfcaaGreatDoor
open Go.RowKit NB
namespace RFmt
open Fmt
theorem bytes_size (l : List Int) : (bytesOf l).size = l.length := by
  unfold bytesOf
  show ((l.map fun d => UInt8.ofNat d.toNat).toArray).size = _
  simp
set_option maxHeartbeats 3200000 in
theorem digit1 (n : Int) (h0 : 0 ≤ n) (h1 : n ≤ 9) (w : World) : Calls Tryz.prog 159 #[.int .u64 n] w fun e w' => e = .returned (.string (bytesOf [48 + n])) ∧ Below w.heap.size w w' := by
  rcases (by omega : n = 0 ∨ n = 1 ∨ n = 2 ∨ n = 3 ∨ n = 4 ∨ n = 5 ∨ n = 6 ∨ n = 7 ∨ n = 8 ∨ n = 9) with rfl|rfl|rfl|rfl|rfl|rfl|rfl|rfl|rfl|rfl
  all_goals
    go_enter Tryz.func159, Tryz.ntmps159
    go_wp2
    go_ret
    exact ⟨rfl, bcq⟩
set_option maxHeartbeats 3200000 in
theorem digit2 (n : Int) (h0 : 10 ≤ n) (h1 : n ≤ 99) (w : World) : Calls Tryz.prog 159 #[.int .u64 n] w fun e w' => e = .returned (.string (bytesOf (dig n))) ∧ Below w.heap.size w w' := by
  have c1 := fun W => digit1 (n / 10) (by omega) (by omega) W
  have c2 := fun W => digit1 (n % 10) (by omega) (by omega) W
  have s1 := bytes_size [48 + n / 10]
  have s2 := bytes_size [48 + n % 10]
  have hd : bytesOf (dig n) = bytesOf [48 + n / 10] ++ bytesOf [48 + n % 10] := (bytes_app [48 + n / 10] [48 + n % 10]).symm
  rw [hd]
  generalize bytesOf [48 + n / 10] = B1 at *
  generalize bytesOf [48 + n % 10] = B2 at *
  have C1 := Lib.hid c1
  have C2 := Lib.hid c2
  have t1 : B1.size + B2.size ≤ 9223372036854775807 := by rw [s1, s2];show 1 + 1 ≤ _;decide
  clear c1 c2 hd s1 s2
  go_enter Tryz.func159, Tryz.ntmps159
  go_wp2_with (first
    | (with_reducible (go_at_call 159;(with_reducible refine (C1.out _).mono ?_);rintro e w1 ⟨rfl, hb1⟩;obtain ⟨hc1, hf1⟩ := bcell hb1))
    | (with_reducible (go_at_call 159;(with_reducible refine (C2.out _).mono ?_);rintro e w2 ⟨rfl, hb2⟩;obtain ⟨hc2, hf2⟩ := bcell hb2)))
  go_ret
  exact ⟨rfl, bcq⟩
def textL (n : Int) : List Int := if n < 10 then [48 + n] else dig n
theorem Text (n : Int) (h0 : 0 ≤ n) (h1 : n ≤ 99) (w : World) : Calls Tryz.prog 115 #[.int .i64 n] w fun e w' => e = .returned (.string (bytesOf (textL n))) ∧ Below w.heap.size w w' := by
  have c1 : ∀ W, Calls Tryz.prog 159 #[.int .u64 n] W fun e w' => e = .returned (.string (bytesOf (textL n))) ∧ Below W.heap.size W w' := by
    intro W
    unfold textL
    by_cases h : n < 10
    · rw [if_pos h];exact digit1 n h0 (by omega) W
    · rw [if_neg h];exact digit2 n (by omega) h1 W
  generalize bytesOf (textL n) = B at *
  have C1 := Lib.hid c1
  clear c1
  go_enter Tryz.func115, Tryz.ntmps115
  go_wp2_with (go_at_call 159;(with_reducible refine (C1.out _).mono ?_);rintro e w1 ⟨rfl, hb1⟩;obtain ⟨hc1, hf1⟩ := bcell hb1)
  go_ret
  exact ⟨rfl, bcq⟩
theorem two (n : Int) (h0 : 0 ≤ n) (h1 : n ≤ 99) (w : World) : Calls Tryz.prog 175 #[.int .i64 n] w fun e w' => e = .returned (.string (bytesOf (dig n))) ∧ Below w.heap.size w w' := by
  have c1 := fun W => Text n h0 h1 W
  by_cases h : n < 10
  · have e1 : bytesOf (dig n) = ⟨#[48]⟩ ++ bytesOf (textL n) := by
      rw [show (⟨#[48]⟩ : ByteArray) = bytesOf [48] from rfl, bytes_app]
      unfold textL dig
      rw [if_pos h, show n / 10 = 0 by omega, show n % 10 = n by omega]
      rfl
    have s1 : (⟨#[48]⟩ : ByteArray).size + (bytesOf (textL n)).size ≤ 9223372036854775807 := by
      rw [bytes_size];unfold textL;rw [if_pos h];show 1 + 1 ≤ _;decide
    rw [e1]
    generalize bytesOf (textL n) = B at *
    have C1 := Lib.hid c1
    clear c1 e1
    have cat1 := fun W => run_string_add_sum (P := Tryz.prog) W ⟨#[48]⟩ B s1
    go_enter Tryz.func175, Tryz.ntmps175
    go_wp2_with (go_at_call 115;(with_reducible refine (C1.out _).mono ?_);rintro e w1 ⟨rfl, hb1⟩;obtain ⟨hc1, hf1⟩ := bcell hb1)
    go_ret
    exact ⟨rfl, bcq⟩
  · have e1 : textL n = dig n := by unfold textL;rw [if_neg h]
    rw [e1] at c1
    have C1 := Lib.hid c1
    generalize bytesOf (dig n) = B at *
    clear c1 e1
    go_enter Tryz.func175, Tryz.ntmps175
    go_wp2_with (go_at_call 115;(with_reducible refine (C1.out _).mono ?_);rintro e w1 ⟨rfl, hb1⟩;obtain ⟨hc1, hf1⟩ := bcell hb1)
    go_ret
    exact ⟨rfl, bcq⟩
set_option maxHeartbeats 3200000 in
theorem Written (off : Int) (h0 : -359999 ≤ off) (h1 : off ≤ 359999) (w : World) : Calls Tryz.prog 128 #[.int .i64 off] w fun e w' => e = .returned (.string (writtenB off)) ∧ Below w.heap.size w w' := by
  obtain ⟨A, S, hA0, hA1, hS, hs1, hcase⟩ : ∃ (A : Int) (S : ByteArray), 0 ≤ A ∧ A ≤ 359999 ∧ writtenB off = S ++ bytesOf (hms A) ∧ S.size = 1 ∧ ((off < 0 ∧ off = -A ∧ S = ⟨#[45]⟩) ∨ (¬ off < 0 ∧ off = A ∧ S = ⟨#[43]⟩)) := by
    by_cases h : off < 0
    · exact ⟨-off, ⟨#[45]⟩, by omega, by omega, by rw [show (⟨#[45]⟩ : ByteArray) = bytesOf [45] from rfl, bytes_app];unfold writtenB writtenL;rw [if_pos h];rfl, rfl, .inl ⟨h, by omega, rfl⟩⟩
    · exact ⟨off, ⟨#[43]⟩, by omega, by omega, by rw [show (⟨#[43]⟩ : ByteArray) = bytesOf [43] from rfl, bytes_app];unfold writtenB writtenL;rw [if_neg h];rfl, rfl, .inr ⟨h, rfl, rfl⟩⟩
  rw [hS]
  unfold hms
  have c1 := fun W => two (A / 3600) (by omega) (by omega) W
  have c2 := fun W => two (A / 60 % 60) (by omega) (by omega) W
  have c3 := fun W => two (A % 60) (by omega) (by omega) W
  have s1 := bytes_size (dig (A / 3600))
  have s2 := bytes_size (dig (A / 60 % 60))
  have s3 := bytes_size (dig (A % 60))
  have hne : bytesOf [] = ⟨#[]⟩ := rfl
  have app0 : ∀ B : ByteArray, B ++ ⟨#[]⟩ = B := fun B => by apply ByteArray.ext;simp
  have assoc : ∀ a b c : ByteArray, a ++ (b ++ c) = a ++ b ++ c := fun a b c => by apply ByteArray.ext;simp
  obtain ⟨R, hR⟩ : ∃ R, R = S ++ bytesOf (dig (A / 3600) ++ ((if 0 < A % 3600 then dig (A / 60 % 60) else []) ++ (if 0 < A % 60 then dig (A % 60) else []))) := ⟨_, rfl⟩
  rw [← hR]
  have hR' : R = if 0 < A % 3600 then (if 0 < A % 60 then S ++ bytesOf (dig (A / 3600)) ++ bytesOf (dig (A / 60 % 60)) ++ bytesOf (dig (A % 60)) else S ++ bytesOf (dig (A / 3600)) ++ bytesOf (dig (A / 60 % 60))) else S ++ bytesOf (dig (A / 3600)) := by
    rw [hR]
    by_cases g1 : 0 < A % 3600
    · by_cases g2 : 0 < A % 60
      · simp only [g1, g2, if_true, ← bytes_app, assoc]
      · simp only [g1, g2, if_true, if_false, ← bytes_app, assoc, hne, app0]
    · have g2 : ¬ 0 < A % 60 := by omega
      simp only [g1, g2, if_false, ← bytes_app, hne, app0]
  clear hR hne app0 assoc hS
  simp only [dig, List.length_cons, List.length_nil] at s1 s2 s3
  change (bytesOf (dig (A / 3600))).size = 2 at s1
  change (bytesOf (dig (A / 60 % 60))).size = 2 at s2
  change (bytesOf (dig (A % 60))).size = 2 at s3
  generalize bytesOf (dig (A / 3600)) = D1 at *
  generalize bytesOf (dig (A / 60 % 60)) = D2 at *
  generalize bytesOf (dig (A % 60)) = D3 at *
  have z1 : (S ++ D1).size = S.size + D1.size := ByteArray.size_append
  have z2 : (S ++ D1 ++ D2).size = (S ++ D1).size + D2.size := ByteArray.size_append
  have z3 : (S ++ D1 ++ D2 ++ D3).size = (S ++ D1 ++ D2).size + D3.size := ByteArray.size_append
  have cat1 := fun W => run_string_add_sum (P := Tryz.prog) W S D1 (by omega)
  have cat2 := fun W => run_string_add_sum (P := Tryz.prog) W (S ++ D1) D2 (by omega)
  have cat3 := fun W => run_string_add_sum (P := Tryz.prog) W (S ++ D1 ++ D2) D3 (by omega)
  have l1 : ¬ (9223372036854775807 < S.size + D1.size) := by omega
  have l2 : ¬ (9223372036854775807 < (S ++ D1).size + D2.size) := by omega
  have l3 : ¬ (9223372036854775807 < (S ++ D1 ++ D2).size + D3.size) := by omega
  have C1 := Lib.hid c1
  have C2 := Lib.hid c2
  have C3 := Lib.hid c3
  have HR := Lib.hid hR'
  have q1 : 0 ≤ A / 3600 ∧ A / 3600 ≤ 99 := by omega
  have q2 : 0 ≤ A / 60 % 60 ∧ A / 60 % 60 ≤ 59 := by omega
  have q3 : 0 ≤ A % 60 ∧ A % 60 ≤ 59 := by omega
  have q4 : 0 ≤ A % 3600 := by omega
  have q5 : 0 ≤ A / 60 := by omega
  clear c1 c2 c3 hR' s1 s2 s3 z1 z2 z3 hs1
  rcases hcase with ⟨hn, ho, hSS⟩|⟨hn, ho, hSS⟩
  all_goals
    have ho' := ho.symm
    subst ho'
    clear ho
    have hw : wrap64 (-(-A)) = A := by unfold wrap64;omega
    have hnn : - -A = A := by omega
    by_cases g1 : 0 < A % 3600
    all_goals
      by_cases g2 : 0 < A % 60
      all_goals first
        | (exfalso;omega)
        | skip
      all_goals
        have hRR := HR.out
        simp only [g1, g2, if_true, if_false] at hRR
        have HRR := Lib.hid hRR
        clear hRR
        subst hSS
        go_enter Tryz.func128, Tryz.ntmps128
        go_wp2_with (first
          | (with_reducible (go_at_call 175;(with_reducible refine (C1.out _).mono ?_);rintro e w1 ⟨rfl, hb1⟩;obtain ⟨hc1, hf1⟩ := bcell hb1))
          | (with_reducible (go_at_call 175;(with_reducible refine (C2.out _).mono ?_);rintro e w2 ⟨rfl, hb2⟩;obtain ⟨hc2, hf2⟩ := bcell hb2))
          | (with_reducible (go_at_call 175;(with_reducible refine (C3.out _).mono ?_);rintro e w3 ⟨rfl, hb3⟩;obtain ⟨hc3, hf3⟩ := bcell hb3)))
        go_ret
        exact ⟨congrArg (fun x => Ending.returned (Value.string x)) HRR.out.symm, bcq⟩
theorem find_ex (l : List UInt8) (c : UInt8) : ∃ r, FindIs l c r := by
  by_cases h0 : ∀ j : Nat, l[j]? ≠ some c
  · exact ⟨-1, .inl ⟨rfl, h0⟩⟩
  · obtain ⟨i, hi⟩ := Classical.not_forall.1 h0
    have hi' := Classical.not_not.1 hi
    by_cases h1 : ∀ j : Nat, l[j]? = some c → j = i
    · exact ⟨i, .inr (.inr ⟨i, rfl, hi', h1⟩)⟩
    · obtain ⟨j, hj⟩ := Classical.not_forall.1 h1
      obtain ⟨hj1, hj2⟩ := Classical.not_imp.1 hj
      rcases Nat.lt_or_gt_of_ne hj2 with h|h
      · exact ⟨-2, .inr (.inl ⟨rfl, j, i, h, hj1, hi'⟩)⟩
      · exact ⟨-2, .inr (.inl ⟨rfl, i, j, h, hi', hj1⟩)⟩
theorem find_one' {l : List UInt8} {c : UInt8} {r r' : Int} (h : FindIs l c r) (h' : FindIs l c r') : r = r' := by
  rcases h' with ⟨rfl, h1⟩|⟨rfl, i, j, hij, h1, h2⟩|⟨i, rfl, h1, h2⟩
  · exact find_none h h1
  · rcases h with ⟨_, g⟩|⟨g, _⟩|⟨k, _, g1, g2⟩
    · exact absurd h1 (g i)
    · exact g
    · have := g2 i h1;have := g2 j h2;omega
  · exact find_one h h1 h2
theorem sub_extract (s : ByteArray) (i j : Nat) : sub s i j = s.extract i j := by
  unfold sub
  apply ByteArray.ext
  apply Array.ext'
  simp [List.drop_take]
theorem ext_size (s : ByteArray) (i j : Nat) : (s.extract i j).size ≤ s.size := by
  rw [ByteArray.size_extract]
  omega
set_option maxHeartbeats 3200000 in
theorem Abbr (s : ByteArray) (hs : s.size ≤ 9223372036854775807) (off save : Int) (letter : ByteArray) (hl : letter.size ≤ 1000000) (w : World) :
    Calls Tryz.prog 78 #[.string s, .int .i64 off, .int .i64 save, .string letter] w fun e w' => e = .returned (.tuple #[.string (abbrF s off save letter).1, .int .i64 (abbrF s off save letter).2]) ∧ Below w.heap.size w w' := by
  have cc := fun W => Check s hs W
  by_cases h0 : checkE s = 0
  rotate_left
  · unfold abbrF
    rw [if_pos h0]
    generalize checkE s = ce at *
    have Cc := Lib.hid cc
    clear cc
    go_enter Tryz.func78, Tryz.ntmps78
    go_wp2_with (go_at_call 75;(with_reducible refine (Cc.out _).mono ?_);rintro e w' ⟨rfl, rfl⟩)
    go_ret2
    exact ⟨rfl, bcq⟩
  rw [h0] at cc
  have Cc := Lib.hid cc
  clear cc
  by_cases h1 : off < -359999 ∨ 359999 < off
  · unfold abbrF
    rw [if_neg (by simpa using h0), if_pos h1]
    go_enter Tryz.func78, Tryz.ntmps78
    go_wp2_with (go_at_call 75;(with_reducible refine (Cc.out _).mono ?_);rintro e w' ⟨rfl, rfl⟩)
    all_goals
      go_ret2
      exact ⟨rfl, bcq⟩
  have hz := (check_kind h0).2
  obtain ⟨p, hp⟩ := find_ex s.data.toList 37
  obtain ⟨q, hq⟩ := find_ex s.data.toList 47
  have cp : ∀ W, Calls Tryz.prog 125 #[.string s, .int .u8 37] W fun e w' => e = .returned (.int .i64 p) ∧ W = w' := fun W => (find s hs 37 W).mono fun e w' ⟨⟨r, he, hr⟩, hw⟩ => ⟨by rw [he, find_one' hr hp], hw⟩
  have cq : ∀ W, Calls Tryz.prog 125 #[.string s, .int .u8 47] W fun e w' => e = .returned (.int .i64 q) ∧ W = w' := fun W => (find s hs 47 W).mono fun e w' ⟨⟨r, he, hr⟩, hw⟩ => ⟨by rw [he, find_one' hr hq], hw⟩
  have cw := fun W => Written off (by omega) (by omega) W
  have hcs := abbr_ref (off := off) (save := save) (letter := letter) h0 h1 hp hq
  generalize abbrF s off save letter = R at *
  have Cp := Lib.hid cp
  have Cq := Lib.hid cq
  have Cw := Lib.hid cw
  clear cp cq cw hp hq h0
  have b1 : ¬ off < -359999 := fun h => h1 (.inl h)
  have b2 : ¬ 359999 < off := fun h => h1 (.inr h)
  clear h1
  have et : s.toList = s.data.toList := ByteArray.toList_eq s
  rcases hcs with ⟨e0, e1⟩|⟨e0, i, rfl, hi, e1⟩|⟨e0, hp, i, rfl, hi, e1⟩|⟨e0, hp, hq, e1⟩
  · have e2 : (s.toList == [37, 122]) = true := by rw [et, e0];rfl
    clear e0 et
    generalize writtenB off = wb at *
    subst e1
    go_enter Tryz.func78, Tryz.ntmps78
    go_wp2_with (first
      | (go_at_call 75;(with_reducible refine (Cc.out _).mono ?_);rintro e w' ⟨rfl, rfl⟩)
      | (go_at_call 128;(with_reducible refine (Cw.out _).mono ?_);rintro e w1 ⟨rfl, hb1⟩;obtain ⟨hc1, hf1⟩ := bcell hb1))
    go_ret2
    exact ⟨rfl, bcq⟩
  all_goals
    have e2 : (s.toList == [37, 122]) = false := by rw [et];simp [e0]
    clear e0 et
    try simp only [sub_extract] at e1
  · have x1 := ext_size s 0 i
    have x2 := ext_size s (i + 2) s.size
    have x3 : (s.extract 0 i ++ letter).size = (s.extract 0 i).size + letter.size := ByteArray.size_append
    have cat1 := fun W => run_string_add_sum (P := Tryz.prog) W (s.extract 0 i) letter (by omega)
    have cat2 := fun W => run_string_add_sum (P := Tryz.prog) W (s.extract 0 i ++ letter) (s.extract (i + 2) s.size) (by omega)
    have y1 : (s.extract 0 i).size + letter.size ≤ 9223372036854775807 := by omega
    have y2 : (s.extract 0 i ++ letter).size + (s.extract (i + 2) s.size).size ≤ 9223372036854775807 := by omega
    clear x1 x2 x3
    subst e1
    simp only
    go_enter Tryz.func78, Tryz.ntmps78
    go_wp2_with (first
      | (go_at_call 75;(with_reducible refine (Cc.out _).mono ?_);rintro e w' ⟨rfl, rfl⟩)
      | (with_reducible (go_at_call 125;(with_reducible refine (Cp.out _).mono ?_);rintro e w' ⟨rfl, rfl⟩))
      | (with_reducible (go_at_call 125;(with_reducible refine (Cq.out _).mono ?_);rintro e w' ⟨rfl, rfl⟩)))
    go_quiet (fail)
    go_wp2
    go_ret2
    exact ⟨rfl, bcq⟩
  · by_cases hsv : save = 0
    all_goals
      first
        | rw [if_pos hsv] at e1
        | rw [if_neg hsv] at e1
      subst e1
      simp only
      go_enter Tryz.func78, Tryz.ntmps78
      go_wp2_with (first
        | (go_at_call 75;(with_reducible refine (Cc.out _).mono ?_);rintro e w' ⟨rfl, rfl⟩)
        | (with_reducible (go_at_call 125;(with_reducible refine (Cp.out _).mono ?_);rintro e w' ⟨rfl, rfl⟩))
        | (with_reducible (go_at_call 125;(with_reducible refine (Cq.out _).mono ?_);rintro e w' ⟨rfl, rfl⟩)))
      go_ret2
      exact ⟨rfl, bcq⟩
  · subst e1
    simp only
    go_enter Tryz.func78, Tryz.ntmps78
    go_wp2_with (first
      | (go_at_call 75;(with_reducible refine (Cc.out _).mono ?_);rintro e w' ⟨rfl, rfl⟩)
      | (with_reducible (go_at_call 125;(with_reducible refine (Cp.out _).mono ?_);rintro e w' ⟨rfl, rfl⟩))
      | (with_reducible (go_at_call 125;(with_reducible refine (Cq.out _).mono ?_);rintro e w' ⟨rfl, rfl⟩)))
    go_ret2
    exact ⟨rfl, bcq⟩
end RFmt
end Go.Proofs.YtecmipgpldcfcaaGreatDoor
