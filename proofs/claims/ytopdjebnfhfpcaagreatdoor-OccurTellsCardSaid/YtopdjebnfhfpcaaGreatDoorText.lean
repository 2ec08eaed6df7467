/-
  num.Text: a number's text (here: that there is one), as the program runs it.
-/
import Derived.Test.YtopdjebnfhfpcaaGreatDoorLib
import Derived.Test.YtopdjebnfhfpcaaGreatDoorPl
namespace Go.Proofs.YtopdjebnfhfpcaaGreatDoor
open Go.RowKit NB
namespace Txt
theorem info_u8 : (Tryz.prog.info? 5).map (fun i => (i.zero, i.size, i.bytes)) = some (some (.int .u8 0), 1, 1) := by kernel_rfl
def farI (n : Int) : Int := if n < 0 then -n else n
theorem far (n : Int) (h0 : -9223372036854775808 ≤ n) (h1 : n ≤ 9223372036854775807) (w : World) : Calls Tryz.prog 98 #[.int .i64 n] w fun e w' => e = .returned (.int .u64 (farI n)) ∧ w = w' := by
  unfold farI
  by_cases h : n < 0
  · rw [if_pos h]
    go_enter Tryz.func98, Tryz.ntmps98
    go_wp2
    go_ret
    refine ⟨ret_int ?_, rfl⟩
    rw [IntKind.wrap_u64, IntKind.wrap_u64]; omega
  · rw [if_neg h]
    go_enter Tryz.func98, Tryz.ntmps98
    go_wp2
    go_ret
    exact ⟨rfl, rfl⟩
def SomeStr (w : World) (e : Ending) (w' : World) : Prop := ∃ r : ByteArray, e = .returned (.string r) ∧ Below w.heap.size w w'
def Fitp (p n : Nat) : Prop := p * 10 ^ n ≤ 10 ^ 22
theorem Fitp.start {p m : Nat} (h : p ≤ 9223372036854775808) (hm : m ≤ 1) : Fitp p m := by
  unfold Fitp
  have h1 : 10 ^ m ≤ 10 ^ 1 := Nat.pow_le_pow_right (by omega) hm
  exact Nat.le_trans (Nat.mul_le_mul h h1) (by decide)
theorem Fitp.len {p n : Nat} (h : Fitp p n) (hp : 1 ≤ p) : n ≤ 22 := by
  unfold Fitp at h
  have h2 : 10 ^ n ≤ 10 ^ 22 := Nat.le_trans (Nat.le_mul_of_pos_left _ hp) h
  exact (Nat.pow_le_pow_iff_right (by omega)).1 h2
theorem Fitp.next {p n : Nat} (h : Fitp p n) : Fitp (p / 10) (n + 1) := by
  unfold Fitp at *
  rw [Nat.pow_succ]
  have h1 : p / 10 * 10 ≤ p := Nat.div_mul_le_self p 10
  calc p / 10 * (10 ^ n * 10) = (p / 10 * 10) * 10 ^ n := by rw [Nat.mul_comm (10 ^ n) 10, Nat.mul_assoc]
    _ ≤ p * 10 ^ n := Nat.mul_le_mul_right _ h1
    _ ≤ 10 ^ 22 := h
def Bytes (xs : List Value) : Prop := ∀ x ∈ xs, ∃ c : UInt8, x = .int .u8 (c.toNat : Int)
theorem Bytes.list : ∀ {xs : List Value}, Bytes xs → ∃ l : List UInt8, xs = l.map fun c => Value.int .u8 (c.toNat : Int)
  | [], _ => ⟨[], rfl⟩
  | x :: xs, h => by
    obtain ⟨c, rfl⟩ := h x (by simp)
    obtain ⟨l, rfl⟩ := Bytes.list (xs := xs) (fun y hy => h y (by simp [hy]))
    exact ⟨c :: l, rfl⟩
theorem Bytes.snoc {xs : List Value} (h : Bytes xs) (d : Int) (h0 : 0 ≤ d) (h1 : d ≤ 255) : Bytes (xs ++ [.int .u8 d]) := by
  intro x hx
  rcases List.mem_append.1 hx with hx | hx
  · exact h x hx
  · simp only [List.mem_singleton] at hx
    subst hx
    refine ⟨UInt8.ofNat d.toNat, ?_⟩
    rw [UInt8.toNat_ofNat_of_lt' (by show d.toNat < 256; omega)]
    congr 1; omega
theorem str_of_own {w : World} {B m : Nat} {v : Value} {xs : List Value} (h : w.ownsRow B 5 1 v m xs) (hb : Bytes xs) :
    ∃ r, (convert 90 9 v).run Tryz.prog w = .ok (.string r) w := by
  obtain ⟨l, rfl⟩ := hb.list
  have hlen := h.1
  simp only [List.length_map, Nat.mul_one] at hlen
  rcases h.2 with ⟨hv, _⟩ | ⟨g, cap, cur, hv, hg, hh, hle, hcap, hcs, htk⟩
  · subst hv
    exact ⟨⟨#[]⟩, by kernel_rfl⟩
  · subst hv
    subst hlen
    refine ⟨_, run_convert_bytes_back w 90 9 5 ⟨g, 0, none⟩ cap l Tryz.underlying90 Tryz.underlying5 Tryz.underlying9 (fun j hj => ?_)⟩
    have := h.cells (g := g) rfl j (.int .u8 (l[j].toNat : Int)) (by rw [List.getElem?_map, List.getElem?_eq_getElem hj]; rfl)
    exact this

set_option maxHeartbeats 1600000 in
set_option maxRecDepth 100000 in
theorem Text (n : Int) (h0 : -9223372036854775808 ≤ n) (h1 : n ≤ 9223372036854775807) (w : World) : Calls Tryz.prog 80 #[.int .i64 n] w (SomeStr w) := by
  obtain ⟨i0, hi, hz0, hz1, hz2⟩ := info_parts info_u8
  obtain ⟨u, hu⟩ := Int.eq_ofNat_of_zero_le (a := farI n) (by unfold farI; split <;> omega)
  have hu2 : (u : Int) ≤ 9223372036854775808 := by rw [← hu]; unfold farI; split <;> omega
  have hu3 : u ≤ 9223372036854775808 := by omega
  have HU := Lib.hid hu; clear hu
  by_cases hneg : n < 0
  all_goals
    go_enter Tryz.func80, Tryz.ntmps80
    go_wp2_with (first
      | (at_make; refine wpList_make_own _ rfl _ _ 90 rfl w.heap.size 5 i0 (.int .u8 0) 1 Tryz.underlying90 hi hz0 hz1 _ _ _ 20 rfl rfl rfl (by rw [hz2]; decide) (by decide) (Nat.le_refl _) ?_; intro w1 hown hg1)
      | (at_builtin; refine wpList_append_own _ rfl _ _ 90 rfl w.heap.size 5 i0 (.int .u8 0) 1 1 Tryz.underlying90 hi hz0 hz1 hz2 rfl (by decide) _ _ _ rfl (hown.alloc _) ⟨w1.heap.size, 0, none⟩ 1 1 [.int .u8 45] rfl rfl (cell_one_new _ _ _) (by intro u hu; simp at hu; subst hu; rfl) (by decide) (by decide) (by have := hg1.size; simp; omega) ?_; intro v2 w2 hown2 hg2 _)
      | (go_at_call 98; refine (far _ (by omega) (by omega) _).mono ?_; rw [HU.out]; rintro e w' ⟨rfl, rfl⟩))
    go_loop [5] (fun x => ∃ p : Nat, x = .int .u64 p ∧ 1 ≤ p ∧ (p = 1 ∨ p ≤ u)) (fun x => u + 1 - (intOf x).toNat)
    case atStart => exact ⟨1, rfl, by omega, .inl rfl⟩
    case round =>
      obtain ⟨p, rfl, hp1, hpu⟩ := hrel
      have hq0 : (0 : Int) ≤ (u : Int) / (p : Int) := Int.ediv_nonneg (by omega) (by omega)
      have hq1 : (u : Int) / (p : Int) ≤ u := Int.ediv_le_self _ (by omega)
      have hp18 : (p : Int) ≤ 9223372036854775808 := by omega
      have hpz : ((p : Int) == 0) = false := by simp; omega
      by_cases hge : 10 ≤ u / p
      · have hge' : (10 : Int) ≤ (u : Int) / (p : Int) := by exact_mod_cast hge
        have hmul : 10 * p ≤ u := by
          have := (Nat.le_div_iff_mul_le (show 0 < p by omega)).1 hge
          exact this
        go_wp2
        go_round
        case rel => exact ⟨p * 10, by go_num, by omega, by omega⟩
        case measure => simp [intOf]; omega
      · have hlt' : (u : Int) / (p : Int) < 10 := by
          have : u / p < 10 := by omega
          exact_mod_cast this
        go_wp2
        go_loopw [3, 5] (fun b x wr => ∃ (q m : Nat) (xs : List Value), x = .int .u64 q ∧ q ≤ 9223372036854775808 ∧ wr.ownsRow w.heap.size 5 1 b m xs ∧ Bytes xs ∧ Fitp q m ∧ Below w.heap.size w wr) (fun _ x _ => (intOf x).toNat)
        case atStart =>
          first
            | exact ⟨p, 0 + 1, _, rfl, by omega, hown2, by intro x hx; simp at hx; exact ⟨45, hx⟩, Fitp.start (by omega) (by omega), (((Below.refl _ _).grown hg1 (Nat.le_refl _) (fun _ h => by cases h)).alloc hg1.size _).grown hg2 (by have := hg1.size; simp; omega) (fun k hk => (hown.lt k hk).1)⟩
            | exact ⟨p, 0, _, rfl, by omega, hown, by intro x hx; simp at hx, Fitp.start (by omega) (by omega), (Below.refl _ _).grown hg1 (Nat.le_refl _) (fun _ h => by cases h)⟩
        case round =>
          obtain ⟨q, m, xs, rfl, hq, hO, hX, hF, hBl⟩ := hrel
          have hBs := hBl.size
          by_cases hz : q = 0
          · subst hz
            obtain ⟨r, hr⟩ := str_of_own hO hX
            clear hO hX
            go_wp2
            go_ret
            exact ⟨r, rfl, hBl⟩
          · have hq1' : 0 < q := by omega
            have hm := hF.len hq1'
            have a0 : (0 : Int) ≤ (u : Int) / (q : Int) := Int.ediv_nonneg (by omega) (by omega)
            have a1 : (u : Int) / (q : Int) ≤ u := Int.ediv_le_self _ (by omega)
            have b0 : 0 ≤ (u : Int) / (q : Int) % 10 := by omega
            have b1 : (u : Int) / (q : Int) % 10 ≤ 9 := by omega
            have hqz : ((q : Int) == 0) = false := by simp; omega
            have HX := Lib.hid (hX.snoc (48 + (u : Int) / (q : Int) % 10) (by omega) (by omega))
            have HF := Lib.hid hF.next
            clear hX hF
            go_wp2_with (at_builtin; refine wpList_append_own _ rfl _ _ 90 rfl w.heap.size 5 i0 (.int .u8 0) 1 1 Tryz.underlying90 hi hz0 hz1 hz2 rfl (by decide) _ _ _ rfl (hO.alloc _) ⟨wr.heap.size, 0, none⟩ 1 1 [.int .u8 (48 + (u : Int) / (q : Int) % 10)] rfl rfl (cell_one_new _ _ _) (by intro u hu; simp at hu; subst hu; rfl) (by unfold maxLen; omega) (by omega) (by simp; omega) ?_; intro v3 w3 hown3 hg3 _)
            go_roundw
            case rel => exact ⟨q / 10, m + 1, _, by go_num, by omega, hown3, HX.out, HF.out, (hBl.alloc hBl.size _).grown hg3 (by simp; omega) (fun k hk => (hO.lt k hk).1)⟩
            case measure => simp [intOf]; omega
end Txt
end Go.Proofs.YtopdjebnfhfpcaaGreatDoor
