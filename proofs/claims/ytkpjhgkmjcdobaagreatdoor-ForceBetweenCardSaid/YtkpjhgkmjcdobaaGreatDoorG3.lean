import Derived.Test.YtkpjhgkmjcdobaaGreatDoorG2
import Derived.Test.YtkpjhgkmjcdobaaGreatDoorG1
/-
  What a time is called, in plain data: the program's way and the document's way are one.
-/
namespace Go.Proofs.YtkpjhgkmjcdobaaGreatDoor
open Go.RowKit NB
namespace Fmt
/-- two digits -/
def dig (k : Int) : List Int := [48 + k / 10, 48 + k % 10]
def hms (n : Int) : List Int := dig (n / 3600) ++ ((if 0 < n % 3600 then dig (n / 60 % 60) else []) ++ (if 0 < n % 60 then dig (n % 60) else []))
def bytesOf (l : List Int) : ByteArray := ⟨(l.map fun d => UInt8.ofNat d.toNat).toArray⟩
def writtenL (off : Int) : List Int := if off < 0 then 45 :: hms (-off) else 43 :: hms off
def writtenB (off : Int) : ByteArray := bytesOf (writtenL off)
theorem bytes_app (a b : List Int) : bytesOf a ++ bytesOf b = bytesOf (a ++ b) := by
  unfold bytesOf
  apply ByteArray.ext
  simp
def abbrF (s : ByteArray) (off save : Int) (letter : ByteArray) : ByteArray × Int :=
  if checkE s ≠ 0 then (⟨#[]⟩, checkE s)
  else if off < -359999 ∨ 359999 < off then (⟨#[]⟩, 1)
  else if (cutF s).1 = 2 then ((cutF s).2.1 ++ letter ++ (cutF s).2.2, 0)
  else if (cutF s).1 = 3 then (writtenB off, 0)
  else if (cutF s).1 = 4 ∧ save ≠ 0 then ((cutF s).2.2, 0)
  else ((cutF s).2.1, 0)
theorem kind_cases (s : ByteArray) (h : (cutF s).1 ≠ 0) :
    (s.data.toList = [37, 122] ∧ cutF s = (3, ⟨#[]⟩, ⟨#[]⟩)) ∨ (s.data.toList ≠ [37, 122] ∧ ∃ a b, s.data.toList = a ++ 37 :: 115 :: b ∧ wd a = true ∧ wd b = true ∧ cutF s = (2, ⟨a.toArray⟩, ⟨b.toArray⟩)) ∨ (s.data.toList ≠ [37, 122] ∧ ∃ a b, s.data.toList = a ++ 47 :: b ∧ wd a = true ∧ wd b = true ∧ cutF s = (4, ⟨a.toArray⟩, ⟨b.toArray⟩)) ∨ (s.data.toList ≠ [37, 122] ∧ wd s.data.toList = true ∧ cutF s = (1, s, ⟨#[]⟩)) := by
  have e : s.toList = s.data.toList := ByteArray.toList_eq s
  have ew : wordB s = wd s.data.toList := rfl
  unfold cutF at h ⊢
  simp only [e, ew] at h ⊢
  by_cases h0 : s.data.toList = [37, 122]
  · exact .inl ⟨h0, if_pos h0⟩
  · rw [if_neg h0] at h ⊢
    by_cases h1 : (Go.Lib.cut s.data.toList [37, 115]).2.2 = true ∧ wd (Go.Lib.cut s.data.toList [37, 115]).1 = true ∧ wd (Go.Lib.cut s.data.toList [37, 115]).2.1 = true
    · rw [if_pos h1] at h ⊢
      exact .inr (.inl ⟨h0, _, _, (cut_is h1.1).trans (List.append_assoc _ _ _), h1.2.1, h1.2.2, rfl⟩)
    · rw [if_neg h1] at h ⊢
      by_cases h2 : (Go.Lib.cut s.data.toList [47]).2.2 = true ∧ (Go.Lib.cut s.data.toList [47]).1 ≠ [] ∧ (Go.Lib.cut s.data.toList [47]).2.1 ≠ [] ∧ wd (Go.Lib.cut s.data.toList [47]).1 = true ∧ wd (Go.Lib.cut s.data.toList [47]).2.1 = true
      · rw [if_pos h2] at h ⊢
        exact .inr (.inr (.inl ⟨h0, _, _, (cut_is h2.1).trans (List.append_assoc _ _ _), h2.2.2.2.1, h2.2.2.2.2, rfl⟩))
      · rw [if_neg h2] at h ⊢
        by_cases h3 : s.data.toList ≠ [] ∧ wd s.data.toList = true
        · rw [if_pos h3] at h ⊢
          exact .inr (.inr (.inr ⟨h0, h3.2, rfl⟩))
        · rw [if_neg h3] at h
          exact absurd rfl h
theorem check_kind {s : ByteArray} (h : checkE s = 0) : (cutF s).1 ≠ 0 ∧ s.size ≤ 16 := by
  unfold checkE at h
  split at h
  · cases h
  · rename_i h1
    split at h
    · cases h
    · rename_i h2
      exact ⟨h2, by omega⟩
/-- a part of a text, as the program's slices have it -/
def sub (s : ByteArray) (i j : Nat) : ByteArray := ⟨((s.data.toList.take j).drop i).toArray⟩
/-- the document's way -/
theorem abbr_ref {s : ByteArray} {off save : Int} {letter : ByteArray} (hc : checkE s = 0) (h1 : ¬ (off < -359999 ∨ 359999 < off)) {p q : Int} (hp : FindIs s.data.toList 37 p) (hq : FindIs s.data.toList 47 q) :
    (s.data.toList = [37, 122] ∧ abbrF s off save letter = (writtenB off, 0)) ∨ (s.data.toList ≠ [37, 122] ∧ ∃ i : Nat, p = i ∧ i + 2 ≤ s.size ∧ abbrF s off save letter = (sub s 0 i ++ letter ++ sub s (i + 2) s.size, 0)) ∨ (s.data.toList ≠ [37, 122] ∧ p < 0 ∧ ∃ i : Nat, q = i ∧ i + 1 ≤ s.size ∧ abbrF s off save letter = (if save = 0 then sub s 0 i else sub s (i + 1) s.size, 0)) ∨ (s.data.toList ≠ [37, 122] ∧ p < 0 ∧ q < 0 ∧ abbrF s off save letter = (s, 0)) := by
  have hk := (check_kind hc).1
  have hsz : s.size = s.data.toList.length := (Array.length_toList).symm
  unfold abbrF sub
  rw [if_neg (by simpa using hc), if_neg h1, hsz]
  rcases kind_cases s hk with ⟨h0, hcut⟩ | ⟨h0, a, b, e, ha, hb, hcut⟩ | ⟨h0, a, b, e, ha, hb, hcut⟩ | ⟨h0, hw, hcut⟩
  · rw [hcut]
    exact .inl ⟨h0, by simp⟩
  · rw [hcut]
    refine .inr (.inl ⟨h0, a.length, ?_, ?_, ?_⟩)
    · have hb1 : ∀ j : Nat, (115 :: b : List UInt8)[j]? ≠ some 37 := by
        have := no_in (a := []) (r := b) (c := 37) (d := 115) (by decide) (by simp) (wd_not hb not37)
        simpa using this
      have po := pos_one (wd_not ha not37) hb1
      rw [← e] at po
      exact find_one hp po.1 po.2
    · rw [e]; simp
    · rw [e]
      simp only [if_true]
      congr 2
      · congr 1
        simp
      · rw [List.take_length, show a.length + 2 = (a ++ [37, 115]).length by simp, show a ++ 37 :: 115 :: b = (a ++ [37, 115]) ++ b by simp, List.drop_left]
  · rw [hcut]
    have po := pos_one (wd_not ha not47) (wd_not hb not47)
    rw [← e] at po
    have n37 := no_in (a := a) (r := b) (c := 37) (d := 47) (by decide) (wd_not ha not37) (wd_not hb not37)
    rw [← e] at n37
    have ep := find_none hp n37
    refine .inr (.inr (.inl ⟨h0, by omega, a.length, find_one hq po.1 po.2, by rw [e]; simp, ?_⟩))
    rw [e]
    have e1 : ((a ++ 47 :: b).take a.length).drop 0 = a := by simp
    have e2 : ((a ++ 47 :: b).take (a ++ 47 :: b).length).drop (a.length + 1) = b := by
      rw [List.take_length, show a.length + 1 = (a ++ [47]).length by simp, show a ++ 47 :: b = (a ++ [47]) ++ b by simp, List.drop_left]
    rw [e1, e2]
    by_cases hs : save = 0
    · simp [hs]
    · simp [hs]
  · rw [hcut]
    have ep := find_none hp (wd_not hw not37)
    have eq' := find_none hq (wd_not hw not47)
    exact .inr (.inr (.inr ⟨h0, by omega, by omega, by simp⟩))
end Fmt
end Go.Proofs.YtkpjhgkmjcdobaaGreatDoor
/-
  num.Text: a number's text (here: that there is one), as the program runs it.
-/
namespace Go.Proofs.YtkpjhgkmjcdobaaGreatDoor
open Go.RowKit NB
namespace Txt
theorem info_u8 : (Tryz.prog.info? 5).map (fun i => (i.zero, i.size, i.bytes)) = some (some (.int .u8 0), 1, 1) := by kernel_rfl
def farI (n : Int) : Int := if n < 0 then -n else n
theorem far (n : Int) (h0 : -9223372036854775808 ≤ n) (h1 : n ≤ 9223372036854775807) (w : World) : Calls Tryz.prog 202 #[.int .i64 n] w fun e w' => e = .returned (.int .u64 (farI n)) ∧ w = w' := by
  unfold farI
  by_cases h : n < 0
  · rw [if_pos h]
    go_enter Tryz.func202, Tryz.ntmps202
    go_wp2
    go_ret
    refine ⟨ret_int ?_, rfl⟩
    rw [IntKind.wrap_u64, IntKind.wrap_u64]; omega
  · rw [if_neg h]
    go_enter Tryz.func202, Tryz.ntmps202
    go_wp2
    go_ret
    exact ⟨rfl, rfl⟩
def SomeStr (w : World) (e : Ending) (w' : World) : Prop := ∃ r : ByteArray, e = .returned (.string r) ∧ Below w.heap.size w w'
def Fitp (p n : Nat) : Prop := p * 10 ^ n ≤ 10 ^ 22
theorem Fitp.start {p m : Nat} (h : p ≤ 9223372036854775808) (hm : m ≤ 1) : Fitp p m := by
  unfold Fitp
  have h1 : 10 ^ m ≤ 10 ^ 1 := Nat.pow_le_pow_right (by omega) hm
  exact Nat.le_trans (Nat.mul_le_mul h h1) (by decide)
theorem Fitp.len {p n : Nat} (h : Fitp p n) (hp : 1 ≤ p) : n ≤ 22 := by
  unfold Fitp at h
  have h2 : 10 ^ n ≤ 10 ^ 22 := Nat.le_trans (Nat.le_mul_of_pos_left _ hp) h
  exact (Nat.pow_le_pow_iff_right (by omega)).1 h2
theorem Fitp.next {p n : Nat} (h : Fitp p n) : Fitp (p / 10) (n + 1) := by
  unfold Fitp at *
  rw [Nat.pow_succ]
  have h1 : p / 10 * 10 ≤ p := Nat.div_mul_le_self p 10
  calc p / 10 * (10 ^ n * 10) = (p / 10 * 10) * 10 ^ n := by rw [Nat.mul_comm (10 ^ n) 10, Nat.mul_assoc]
    _ ≤ p * 10 ^ n := Nat.mul_le_mul_right _ h1
    _ ≤ 10 ^ 22 := h
def Bytes (xs : List Value) : Prop := ∀ x ∈ xs, ∃ c : UInt8, x = .int .u8 (c.toNat : Int)
theorem Bytes.list : ∀ {xs : List Value}, Bytes xs → ∃ l : List UInt8, xs = l.map fun c => Value.int .u8 (c.toNat : Int)
  | [], _ => ⟨[], rfl⟩
  | x :: xs, h => by
    obtain ⟨c, rfl⟩ := h x (by simp)
    obtain ⟨l, rfl⟩ := Bytes.list (xs := xs) (fun y hy => h y (by simp [hy]))
    exact ⟨c :: l, rfl⟩
theorem Bytes.snoc {xs : List Value} (h : Bytes xs) (d : Int) (h0 : 0 ≤ d) (h1 : d ≤ 255) : Bytes (xs ++ [.int .u8 d]) := by
  intro x hx
  rcases List.mem_append.1 hx with hx | hx
  · exact h x hx
  · simp only [List.mem_singleton] at hx
    subst hx
    refine ⟨UInt8.ofNat d.toNat, ?_⟩
    rw [UInt8.toNat_ofNat_of_lt' (by show d.toNat < 256; omega)]
    congr 1; omega
theorem str_of_own {w : World} {B m : Nat} {v : Value} {xs : List Value} (h : w.ownsRow B 5 1 v m xs) (hb : Bytes xs) :
    ∃ r, (convert 146 9 v).run Tryz.prog w = .ok (.string r) w := by
  obtain ⟨l, rfl⟩ := hb.list
  have hlen := h.1
  simp only [List.length_map, Nat.mul_one] at hlen
  rcases h.2 with ⟨hv, _⟩ | ⟨g, cap, cur, hv, hg, hh, hle, hcap, hcs, htk⟩
  · subst hv
    exact ⟨⟨#[]⟩, by kernel_rfl⟩
  · subst hv
    subst hlen
    refine ⟨_, run_convert_bytes_back w 146 9 5 ⟨g, 0, none⟩ cap l Tryz.underlying146 Tryz.underlying5 Tryz.underlying9 (fun j hj => ?_)⟩
    have := h.cells (g := g) rfl j (.int .u8 (l[j].toNat : Int)) (by rw [List.getElem?_map, List.getElem?_eq_getElem hj]; rfl)
    exact this

set_option maxHeartbeats 1600000 in
set_option maxRecDepth 100000 in
theorem Text (n : Int) (h0 : -9223372036854775808 ≤ n) (h1 : n ≤ 9223372036854775807) (w : World) : Calls Tryz.prog 176 #[.int .i64 n] w (SomeStr w) := by
  obtain ⟨i0, hi, hz0, hz1, hz2⟩ := info_parts info_u8
  obtain ⟨u, hu⟩ := Int.eq_ofNat_of_zero_le (a := farI n) (by unfold farI; split <;> omega)
  have hu2 : (u : Int) ≤ 9223372036854775808 := by rw [← hu]; unfold farI; split <;> omega
  have hu3 : u ≤ 9223372036854775808 := by omega
  have HU := Lib.hid hu; clear hu
  by_cases hneg : n < 0
  all_goals
    go_enter Tryz.func176, Tryz.ntmps176
    go_wp2_with (first
      | (at_make; refine wpList_make_own _ rfl _ _ 146 rfl w.heap.size 5 i0 (.int .u8 0) 1 Tryz.underlying146 hi hz0 hz1 _ _ _ 20 rfl rfl rfl (by rw [hz2]; decide) (by decide) (Nat.le_refl _) ?_; intro w1 hown hg1)
      | (at_builtin; refine wpList_append_own _ rfl _ _ 146 rfl w.heap.size 5 i0 (.int .u8 0) 1 1 Tryz.underlying146 hi hz0 hz1 hz2 rfl (by decide) _ _ _ rfl (hown.alloc _) ⟨w1.heap.size, 0, none⟩ 1 1 [.int .u8 45] rfl rfl (cell_one_new _ _ _) (by intro u hu; simp at hu; subst hu; rfl) (by decide) (by decide) (by have := hg1.size; simp; omega) ?_; intro v2 w2 hown2 hg2 _)
      | (go_at_call 202; refine (far _ (by omega) (by omega) _).mono ?_; rw [HU.out]; rintro e w' ⟨rfl, rfl⟩))
    go_loop [5] (fun x => ∃ p : Nat, x = .int .u64 p ∧ 1 ≤ p ∧ (p = 1 ∨ p ≤ u)) (fun x => u + 1 - (intOf x).toNat)
    case atStart => exact ⟨1, rfl, by omega, .inl rfl⟩
    case round =>
      obtain ⟨p, rfl, hp1, hpu⟩ := hrel
      have hq0 : (0 : Int) ≤ (u : Int) / (p : Int) := Int.ediv_nonneg (by omega) (by omega)
      have hq1 : (u : Int) / (p : Int) ≤ u := Int.ediv_le_self _ (by omega)
      have hp18 : (p : Int) ≤ 9223372036854775808 := by omega
      have hpz : ((p : Int) == 0) = false := by simp; omega
      by_cases hge : 10 ≤ u / p
      · have hge' : (10 : Int) ≤ (u : Int) / (p : Int) := by exact_mod_cast hge
        have hmul : 10 * p ≤ u := by
          have := (Nat.le_div_iff_mul_le (show 0 < p by omega)).1 hge
          exact this
        go_wp2
        go_round
        case rel => exact ⟨p * 10, by go_num, by omega, by omega⟩
        case measure => simp [intOf]; omega
      · have hlt' : (u : Int) / (p : Int) < 10 := by
          have : u / p < 10 := by omega
          exact_mod_cast this
        go_wp2
        go_loopw [3, 5] (fun b x wr => ∃ (q m : Nat) (xs : List Value), x = .int .u64 q ∧ q ≤ 9223372036854775808 ∧ wr.ownsRow w.heap.size 5 1 b m xs ∧ Bytes xs ∧ Fitp q m ∧ Below w.heap.size w wr) (fun _ x _ => (intOf x).toNat)
        case atStart =>
          first
            | exact ⟨p, 0 + 1, _, rfl, by omega, hown2, by intro x hx; simp at hx; exact ⟨45, hx⟩, Fitp.start (by omega) (by omega), (((Below.refl _ _).grown hg1 (Nat.le_refl _) (fun _ h => by cases h)).alloc hg1.size _).grown hg2 (by have := hg1.size; simp; omega) (fun k hk => (hown.lt k hk).1)⟩
            | exact ⟨p, 0, _, rfl, by omega, hown, by intro x hx; simp at hx, Fitp.start (by omega) (by omega), (Below.refl _ _).grown hg1 (Nat.le_refl _) (fun _ h => by cases h)⟩
        case round =>
          obtain ⟨q, m, xs, rfl, hq, hO, hX, hF, hBl⟩ := hrel
          have hBs := hBl.size
          by_cases hz : q = 0
          · subst hz
            obtain ⟨r, hr⟩ := str_of_own hO hX
            clear hO hX
            go_wp2
            go_ret
            exact ⟨r, rfl, hBl⟩
          · have hq1' : 0 < q := by omega
            have hm := hF.len hq1'
            have a0 : (0 : Int) ≤ (u : Int) / (q : Int) := Int.ediv_nonneg (by omega) (by omega)
            have a1 : (u : Int) / (q : Int) ≤ u := Int.ediv_le_self _ (by omega)
            have b0 : 0 ≤ (u : Int) / (q : Int) % 10 := by omega
            have b1 : (u : Int) / (q : Int) % 10 ≤ 9 := by omega
            have hqz : ((q : Int) == 0) = false := by simp; omega
            have HX := Lib.hid (hX.snoc (48 + (u : Int) / (q : Int) % 10) (by omega) (by omega))
            have HF := Lib.hid hF.next
            clear hX hF
            go_wp2_with (at_builtin; refine wpList_append_own _ rfl _ _ 146 rfl w.heap.size 5 i0 (.int .u8 0) 1 1 Tryz.underlying146 hi hz0 hz1 hz2 rfl (by decide) _ _ _ rfl (hO.alloc _) ⟨wr.heap.size, 0, none⟩ 1 1 [.int .u8 (48 + (u : Int) / (q : Int) % 10)] rfl rfl (cell_one_new _ _ _) (by intro u hu; simp at hu; subst hu; rfl) (by unfold maxLen; omega) (by omega) (by simp; omega) ?_; intro v3 w3 hown3 hg3 _)
            go_roundw
            case rel => exact ⟨q / 10, m + 1, _, by go_num, by omega, hown3, HX.out, HF.out, (hBl.alloc hBl.size _).grown hg3 (by simp; omega) (fun k hk => (hO.lt k hk).1)⟩
            case measure => simp [intOf]; omega
end Txt
end Go.Proofs.YtkpjhgkmjcdobaaGreatDoor
