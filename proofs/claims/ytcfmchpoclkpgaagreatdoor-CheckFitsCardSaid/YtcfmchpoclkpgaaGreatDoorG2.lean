import Derived.Test.YtcfmchpoclkpgaaGreatDoorG1
namespace Go.Proofs.YtcfmchpoclkpgaaGreatDoor
open Go.RowKit NB
namespace Txt
theorem info_u8 : (Tryz.prog.info? 5).map (fun i => (i.zero, i.size, i.bytes)) = some (some (.int .u8 0), 1, 1) := by kernel_rfl
def farI (n : Int) : Int := if n < 0 then -n else n
theorem far (n : Int) (h0 : -9223372036854775808 ≤ n) (h1 : n ≤ 9223372036854775807) (w : World) : Calls Tryz.prog 250 #[.int .i64 n] w fun e w' => e = .returned (.int .u64 (farI n)) ∧ w = w' := by
  unfold farI
  by_cases h : n < 0
  · rw [if_pos h]
    go_enter Tryz.func250, Tryz.ntmps250
    go_wp2
    go_ret
    refine ⟨ret_int ?_, rfl⟩
    rw [IntKind.wrap_u64, IntKind.wrap_u64];omega
  · rw [if_neg h]
    go_enter Tryz.func250, Tryz.ntmps250
    go_wp2
    go_ret
    exact ⟨rfl, rfl⟩
def SomeStr (w : World) (e : Ending) (w' : World) : Prop := ∃ r : ByteArray, e = .returned (.string r) ∧ Below w.heap.size w w'
def Fitp (p n : Nat) : Prop := p * 10 ^ n ≤ 10 ^ 22
theorem Fitp.start {p m : Nat} (h : p ≤ 9223372036854775808) (hm : m ≤ 1) : Fitp p m := by
  unfold Fitp
  have h1 : 10 ^ m ≤ 10 ^ 1 := Nat.pow_le_pow_right (by omega) hm
  exact Nat.le_trans (Nat.mul_le_mul h h1) (by decide)
theorem Fitp.len {p n : Nat} (h : Fitp p n) (hp : 1 ≤ p) : n ≤ 22 := by
  unfold Fitp at h
  have h2 : 10 ^ n ≤ 10 ^ 22 := Nat.le_trans (Nat.le_mul_of_pos_left _ hp) h
  exact (Nat.pow_le_pow_iff_right (by omega)).1 h2
theorem Fitp.next {p n : Nat} (h : Fitp p n) : Fitp (p / 10) (n + 1) := by
  unfold Fitp at *
  rw [Nat.pow_succ]
  have h1 : p / 10 * 10 ≤ p := Nat.div_mul_le_self p 10
  calc p / 10 * (10 ^ n * 10) = (p / 10 * 10) * 10 ^ n := by rw [Nat.mul_comm (10 ^ n) 10, Nat.mul_assoc]
    _ ≤ p * 10 ^ n := Nat.mul_le_mul_right _ h1
    _ ≤ 10 ^ 22 := h
def Bytes (xs : List Value) : Prop := ∀ x ∈ xs, ∃ c : UInt8, x = .int .u8 (c.toNat : Int)
theorem Bytes.list : ∀ {xs : List Value}, Bytes xs → ∃ l : List UInt8, xs = l.map fun c => Value.int .u8 (c.toNat : Int)
  | [], _ => ⟨[], rfl⟩
  | x :: xs, h => by
    obtain ⟨c, rfl⟩ := h x (by simp)
    obtain ⟨l, rfl⟩ := Bytes.list (xs := xs) (fun y hy => h y (by simp [hy]))
    exact ⟨c :: l, rfl⟩
theorem Bytes.snoc {xs : List Value} (h : Bytes xs) (d : Int) (h0 : 0 ≤ d) (h1 : d ≤ 255) : Bytes (xs ++ [.int .u8 d]) := by
  intro x hx
  rcases List.mem_append.1 hx with hx|hx
  · exact h x hx
  · simp only [List.mem_singleton] at hx
    subst hx
    refine ⟨UInt8.ofNat d.toNat, ?_⟩
    rw [UInt8.toNat_ofNat_of_lt' (by show d.toNat < 256;omega)]
    congr 1;omega
theorem str_of_own {w : World} {B m : Nat} {v : Value} {xs : List Value} (h : w.ownsRow B 5 1 v m xs) (hb : Bytes xs) :
    ∃ r, (convert 248 9 v).run Tryz.prog w = .ok (.string r) w := by
  obtain ⟨l, rfl⟩ := hb.list
  have hlen := h.1
  simp only [List.length_map, Nat.mul_one] at hlen
  rcases h.2 with ⟨hv, _⟩|⟨g, cap, cur, hv, hg, hh, hle, hcap, hcs, htk⟩
  · subst hv
    exact ⟨⟨#[]⟩, by kernel_rfl⟩
  · subst hv
    subst hlen
    refine ⟨_, run_convert_bytes_back w 248 9 5 ⟨g, 0, none⟩ cap l Tryz.underlying248 Tryz.underlying5 Tryz.underlying9 (fun j hj => ?_)⟩
    have := h.cells (g := g) rfl j (.int .u8 (l[j].toNat : Int)) (by rw [List.getElem?_map, List.getElem?_eq_getElem hj];rfl)
    exact this

set_option maxHeartbeats 1600000 in
set_option maxRecDepth 100000 in
theorem Text (n : Int) (h0 : -9223372036854775808 ≤ n) (h1 : n ≤ 9223372036854775807) (w : World) : Calls Tryz.prog 189 #[.int .i64 n] w (SomeStr w) := by
  obtain ⟨i0, hi, hz0, hz1, hz2⟩ := info_parts info_u8
  obtain ⟨u, hu⟩ := Int.eq_ofNat_of_zero_le (a := farI n) (by unfold farI;split <;> omega)
  have hu2 : (u : Int) ≤ 9223372036854775808 := by rw [← hu];unfold farI;split <;> omega
  have hu3 : u ≤ 9223372036854775808 := by omega
  have HU := Lib.hid hu;clear hu
  by_cases hneg : n < 0
  all_goals
    go_enter Tryz.func189, Tryz.ntmps189
    go_wp2_with (first
      | (at_make;refine wpList_make_own _ rfl _ _ 248 rfl w.heap.size 5 i0 (.int .u8 0) 1 Tryz.underlying248 hi hz0 hz1 _ _ _ 20 rfl rfl rfl (by rw [hz2];decide) (by decide) (Nat.le_refl _) ?_;intro w1 hown hg1)
      | (at_builtin;refine wpList_append_own _ rfl _ _ 248 rfl w.heap.size 5 i0 (.int .u8 0) 1 1 Tryz.underlying248 hi hz0 hz1 hz2 rfl (by decide) _ _ _ rfl (hown.alloc _) ⟨w1.heap.size, 0, none⟩ 1 1 [.int .u8 45] rfl rfl (cell_one_new _ _ _) (by intro u hu;simp at hu;subst hu;rfl) (by decide) (by decide) (by have := hg1.size;simp;omega) ?_;intro v2 w2 hown2 hg2 _)
      | (go_at_call 250;refine (far _ (by omega) (by omega) _).mono ?_;rw [HU.out];rintro e w' ⟨rfl, rfl⟩))
    go_loop [5] (fun x => ∃ p : Nat, x = .int .u64 p ∧ 1 ≤ p ∧ (p = 1 ∨ p ≤ u)) (fun x => u + 1 - (intOf x).toNat)
    case atStart => exact ⟨1, rfl, by omega, .inl rfl⟩
    case round =>
      obtain ⟨p, rfl, hp1, hpu⟩ := hrel
      have hq0 : (0 : Int) ≤ (u : Int) / (p : Int) := Int.ediv_nonneg (by omega) (by omega)
      have hq1 : (u : Int) / (p : Int) ≤ u := Int.ediv_le_self _ (by omega)
      have hp18 : (p : Int) ≤ 9223372036854775808 := by omega
      have hpz : ((p : Int) == 0) = false := by simp;omega
      by_cases hge : 10 ≤ u / p
      · have hge' : (10 : Int) ≤ (u : Int) / (p : Int) := by exact_mod_cast hge
        have hmul : 10 * p ≤ u := by
          have := (Nat.le_div_iff_mul_le (show 0 < p by omega)).1 hge
          exact this
        go_wp2
        go_round
        case rel => exact ⟨p * 10, by go_num, by omega, by omega⟩
        case measure => simp [intOf];omega
      · have hlt' : (u : Int) / (p : Int) < 10 := by
          have : u / p < 10 := by omega
          exact_mod_cast this
        go_wp2
        go_loopw [3, 5] (fun b x wr => ∃ (q m : Nat) (xs : List Value), x = .int .u64 q ∧ q ≤ 9223372036854775808 ∧ wr.ownsRow w.heap.size 5 1 b m xs ∧ Bytes xs ∧ Fitp q m ∧ Below w.heap.size w wr) (fun _ x _ => (intOf x).toNat)
        case atStart =>
          first
            | exact ⟨p, 0 + 1, _, rfl, by omega, hown2, by intro x hx;simp at hx;exact ⟨45, hx⟩, Fitp.start (by omega) (by omega), (((Below.refl _ _).grown hg1 (Nat.le_refl _) (fun _ h => by cases h)).alloc hg1.size _).grown hg2 (by have := hg1.size;simp;omega) (fun k hk => (hown.lt k hk).1)⟩
            | exact ⟨p, 0, _, rfl, by omega, hown, by intro x hx;simp at hx, Fitp.start (by omega) (by omega), (Below.refl _ _).grown hg1 (Nat.le_refl _) (fun _ h => by cases h)⟩
        case round =>
          obtain ⟨q, m, xs, rfl, hq, hO, hX, hF, hBl⟩ := hrel
          have hBs := hBl.size
          by_cases hz : q = 0
          · subst hz
            obtain ⟨r, hr⟩ := str_of_own hO hX
            clear hO hX
            go_wp2
            go_ret
            exact ⟨r, rfl, hBl⟩
          · have hq1' : 0 < q := by omega
            have hm := hF.len hq1'
            have a0 : (0 : Int) ≤ (u : Int) / (q : Int) := Int.ediv_nonneg (by omega) (by omega)
            have a1 : (u : Int) / (q : Int) ≤ u := Int.ediv_le_self _ (by omega)
            have b0 : 0 ≤ (u : Int) / (q : Int) % 10 := by omega
            have b1 : (u : Int) / (q : Int) % 10 ≤ 9 := by omega
            have hqz : ((q : Int) == 0) = false := by simp;omega
            have HX := Lib.hid (hX.snoc (48 + (u : Int) / (q : Int) % 10) (by omega) (by omega))
            have HF := Lib.hid hF.next
            clear hX hF
            go_wp2_with (at_builtin;refine wpList_append_own _ rfl _ _ 248 rfl w.heap.size 5 i0 (.int .u8 0) 1 1 Tryz.underlying248 hi hz0 hz1 hz2 rfl (by decide) _ _ _ rfl (hO.alloc _) ⟨wr.heap.size, 0, none⟩ 1 1 [.int .u8 (48 + (u : Int) / (q : Int) % 10)] rfl rfl (cell_one_new _ _ _) (by intro u hu;simp at hu;subst hu;rfl) (by unfold maxLen;omega) (by omega) (by simp;omega) ?_;intro v3 w3 hown3 hg3 _)
            go_roundw
            case rel => exact ⟨q / 10, m + 1, _, by go_num, by omega, hown3, HX.out, HF.out, (hBl.alloc hBl.size _).grown hg3 (by simp;omega) (fun k hk => (hO.lt k hk).1)⟩
            case measure => simp [intOf];omega
end Txt
end Go.Proofs.YtcfmchpoclkpgaaGreatDoor
namespace Go.Proofs.YtcfmchpoclkpgaaGreatDoor
open Go.RowKit NB
namespace Nam
def okFirst (c : UInt8) : Bool := (decide (97 ≤ (c ||| 32).toNat) && decide ((c ||| 32).toNat ≤ 122)) || c == 95
def okOther (c : UInt8) : Bool := (decide (48 ≤ c.toNat) && decide (c.toNat ≤ 57)) || decide (0 ≤ Go.Lib.indexByte [45, 43, 47, 46] c)
def okAt (l : List UInt8) (j : Nat) : Bool := match l[j]? with
  | none => true
  | some c => okFirst c || (decide (0 < j) && okOther c)
def okAll (l : List UInt8) : Bool := (List.range l.length).all (okAt l)
def nameR (s : ByteArray) : Int := if okAll s.data.toList then (if s.data.toList = [] then 10 else 0) else 10
def nameE (s : ByteArray) : Int := if 64 < s.size then 9 else nameR s
theorem or32 (c : UInt8) : bits .or .u8 (c.toNat : Int) 32 = ((c ||| 32).toNat : Int) := by
  rw [u8_or _ _ (by omega) (by have := c.toNat_lt;omega) (by omega) (by omega)]
  simp [UInt8.toNat_or]
theorem okAt_iff {l : List UInt8} {k : Nat} {c : UInt8} (h : l[k]? = some c) :
    okAt l k = true ↔ (97 ≤ ((c ||| 32).toNat : Int) ∧ ((c ||| 32).toNat : Int) ≤ 122) ∨ (c.toNat : Int) = 95 ∨ (0 < (k : Int) ∧ ((48 ≤ (c.toNat : Int) ∧ (c.toNat : Int) ≤ 57) ∨ 0 ≤ Go.Lib.indexByte [45, 43, 47, 46] c)) := by
  have e : (c == 95) = true ↔ (c.toNat : Int) = 95 := by
    rw [beq_iff_eq]
    constructor
    · rintro rfl;rfl
    · intro h;apply UInt8.toNat_inj.1;show c.toNat = 95;omega
  unfold okAt okFirst okOther
  rw [h]
  simp only [Bool.or_eq_true, Bool.and_eq_true, decide_eq_true_eq, e]
  omega
theorem all_succ {l : List UInt8} {k : Nat} (h : (List.range k).all (okAt l) = true) (h2 : okAt l k = true) : (List.range (k + 1)).all (okAt l) = true := by
  rw [List.range_succ, List.all_append, h];simp [h2]
theorem not_all {l : List UInt8} {k : Nat} (hk : k < l.length) (h2 : ¬ okAt l k = true) : okAll l = false := by
  unfold okAll
  rw [Bool.eq_false_iff]
  intro h
  exact h2 (List.all_eq_true.1 h k (List.mem_range.2 hk))

set_option maxRecDepth 100000 in
set_option maxHeartbeats 1600000 in
theorem Name_le (s : ByteArray) (hs : s.size ≤ 64) (w : World) : Calls Tryz.prog 117 #[.string s] w fun e w' => e = .returned (.int .i64 (nameR s)) ∧ Below w.heap.size w w' := by
  obtain ⟨cap, o, hrun, hcell⟩ := Lb.bytes_of w s
  have Hcell := Lib.hid hcell;clear hcell
  have hlen : s.data.toList.length = s.size := by simp
  have Hlen := Lib.hid hlen;clear hlen
  have hB : Below w.heap.size w (w.alloc o).drew := ((Below.refl _ _).alloc (Nat.le_refl _) _).drew
  have HB := Lib.hid hB;clear hB
  go_enter Tryz.func117, Tryz.ntmps117
  go_wp2
  go_loop [11] (fun i => ∃ k : Nat, k ≤ s.size ∧ i = .int .i64 k ∧ (List.range k).all (okAt s.data.toList) = true) (fun i => s.size - (intOf i).toNat)
  case atStart => exact ⟨0, Nat.zero_le _, rfl, rfl⟩
  case round =>
    obtain ⟨k, hk, rfl, hall⟩ := hrel
    have Hall := Lib.hid hall;clear hall
    by_cases hlt : k < s.size
    · obtain ⟨c, hc⟩ : ∃ c, s.data.toList[k]? = some c := ⟨s.data.toList[k]'(by rw [Hlen.out];exact hlt), by simp⟩
      have c1 := Hcell.out k c hc
      have hiff := Lib.hid (okAt_iff hc)
      have Hc := Lib.hid hc;clear hc
      have hor := or32 c
      have hcb : (c.toNat : Int) < 256 := by have := c.toNat_lt;omega
      generalize (c ||| 32).toNat = t at hor hiff
      generalize hix : Go.Lib.indexByte [45, 43, 47, 46] c = ix at hiff
      have hcu : (c.toNat : Int).toNat.toUInt8 = c := by simp
      rw [← hcu] at hix
      have Hix := Lib.hid hix;clear hix hcu
      go_wp2_with (go_at_call 173;refine (Lb.IndexByte _ _ _).mono ?_;rw [Hix.out];rintro e w' ⟨rfl, rfl⟩)
      all_goals
        first
          | (go_round
             case rel =>
               refine ⟨k + 1, by omega, by go_num, all_succ Hall.out (hiff.out.2 ?_)⟩
               simp only [beq_iff_eq, beq_eq_false_iff_ne, ne_eq] at *
               omega
             case measure => simp [intOf];omega)
          | (go_ret
             refine ⟨ret_int ?_, HB.out⟩
             unfold nameR
             rw [not_all (k := k) (by rw [Hlen.out];exact hlt) (by
               rw [hiff.out]
               simp only [beq_eq_false_iff_ne, ne_eq] at *
               omega)]
             rfl)
    · have hks : k = s.size := by omega
      have hfin : okAll s.data.toList = true := by
        unfold okAll;rw [Hlen.out, ← hks];exact Hall.out
      have Hfin := Lib.hid hfin;clear hfin hks
      by_cases he : s.toList = []
      · have e1 : s.toList.isEmpty = true := by simp [he]
        have e2 : s.data.toList = [] := by rw [← ByteArray.toList_eq];exact he
        have E2 := Lib.hid e2;clear e2 he
        go_wp2
        go_ret
        refine ⟨ret_int ?_, HB.out⟩
        unfold nameR
        rw [if_pos Hfin.out, if_pos E2.out]
      · have e1 : s.toList.isEmpty = false := by simp [he]
        have e2 : ¬ s.data.toList = [] := by rw [← ByteArray.toList_eq];exact he
        have E2 := Lib.hid e2;clear e2 he
        go_wp2
        go_ret
        refine ⟨ret_int ?_, HB.out⟩
        unfold nameR
        rw [if_pos Hfin.out, if_neg E2.out]

theorem Name (s : ByteArray) (hm : s.size ≤ 9223372036854775807) (w : World) : Calls Tryz.prog 117 #[.string s] w fun e w' => e = .returned (.int .i64 (nameE s)) ∧ Below w.heap.size w w' := by
  unfold nameE
  by_cases h : 64 < s.size
  · rw [if_pos h]
    go_enter Tryz.func117, Tryz.ntmps117
    go_wp2
    go_ret
    exact ⟨rfl, Below.refl _ _⟩
  · rw [if_neg h]
    exact Name_le s (by omega) w
end Nam
end Go.Proofs.YtcfmchpoclkpgaaGreatDoor
namespace Go.Proofs.YtcfmchpoclkpgaaGreatDoor
open Go.RowKit NB
namespace Fmt
def wset : List UInt8 := [65, 66, 67, 68, 69, 70, 71, 72, 73, 74, 75, 76, 77, 78, 79, 80, 81, 82, 83, 84, 85, 86, 87, 88, 89, 90, 97, 98, 99, 100, 101, 102, 103, 104, 105, 106, 107, 108, 109, 110, 111, 112, 113, 114, 115, 116, 117, 118, 119, 120, 121, 122, 48, 49, 50, 51, 52, 53, 54, 55, 56, 57, 43, 45]
def wordB (s : ByteArray) : Bool := s.data.toList.all (wset.contains ·)
theorem dropWhile_nil {l : List UInt8} {p : UInt8 → Bool} : l.dropWhile p = [] ↔ l.all p = true := by
  induction l with
  | nil => simp
  | cons a l ih =>
    by_cases h : p a = true
    · simp [h, ih]
    · simp [h]
theorem trim_nil (l cs : List UInt8) : Go.Lib.trimS l cs = [] ↔ l.all (cs.contains ·) = true := by
  unfold Go.Lib.trimS Go.Lib.trimLeftS Go.Lib.trimRightS
  rw [dropWhile_nil]
  constructor
  · intro h
    have h2 : (l.reverse.dropWhile (cs.contains ·)).all (cs.contains ·) = true := by
      rw [← List.all_reverse];exact h
    rcases hd : l.reverse.dropWhile (cs.contains ·) with _|⟨a, t⟩
    · rw [dropWhile_nil, List.all_reverse] at hd;exact hd
    · have := List.head_dropWhile_not (l := l.reverse) (cs.contains ·) (by rw [hd];simp)
      simp only [hd, List.head_cons] at this
      rw [hd] at h2
      simp only [List.all_cons, Bool.and_eq_true] at h2
      rw [this] at h2
      exact absurd h2.1 (by simp)
  · intro h
    have : l.reverse.dropWhile (cs.contains ·) = [] := by rw [dropWhile_nil, List.all_reverse];exact h
    rw [this];rfl
theorem emp (l : List UInt8) : (⟨l.toArray⟩ : ByteArray).toList.isEmpty = l.isEmpty := by rw [ByteArray.toList_eq]

theorem word (s : ByteArray) (hs : s.size ≤ 9223372036854775807) (w : World) : Calls Tryz.prog 231 #[.string s] w fun e w' => e = .returned (.bool (wordB s)) ∧ Below w.heap.size w w' := by
  have hcon := Lb.Trim s ⟨#[65, 66, 67, 68, 69, 70, 71, 72, 73, 74, 75, 76, 77, 78, 79, 80, 81, 82, 83, 84, 85, 86, 87, 88, 89, 90, 97, 98, 99, 100, 101, 102, 103, 104, 105, 106, 107, 108, 109, 110, 111, 112, 113, 114, 115, 116, 117, 118, 119, 120, 121, 122, 48, 49, 50, 51, 52, 53, 54, 55, 56, 57, 43, 45]⟩ w hs (by decide) (ascii_of_all (by decide))
  have hf : (⟨(Go.Lib.trimS s.data.toList wset).toArray⟩ : ByteArray).toList.isEmpty = wordB s := by
    rw [emp, Bool.eq_iff_iff, List.isEmpty_iff, trim_nil];rfl
  change Calls Tryz.prog 276 _ _ (fun e w' => e = .returned (.string ⟨(Go.Lib.trimS s.data.toList wset).toArray⟩) ∧ Below w.heap.size w w') at hcon
  rw [← hf]
  generalize (⟨(Go.Lib.trimS s.data.toList wset).toArray⟩ : ByteArray) = r at hcon ⊢
  clear hf
  have Hcon := Lib.hid hcon;clear hcon
  go_enter Tryz.func231, Tryz.ntmps231
  go_wp2_with (go_at_call 276;refine Hcon.out.mono ?_;rintro e w' ⟨rfl, hB⟩)
  go_ret
  exact ⟨rfl, hB⟩

def letS (s : ByteArray) : ByteArray := if s.toList = [45] ∨ 6 < s.size ∨ s.toList = [] ∨ wordB s = false then ⟨#[]⟩ else s
def letE (s : ByteArray) : Int := if s.toList = [45] then 0 else if 6 < s.size then 9 else if s.toList = [] ∨ wordB s = false then 4 else 0
set_option maxHeartbeats 800000 in
theorem Letter (s : ByteArray) (hs : s.size ≤ 9223372036854775807) (w : World) : Calls Tryz.prog 190 #[.string s] w fun e w' => e = .returned (.tuple #[.string (letS s), .int .i64 (letE s)]) ∧ Below w.heap.size w w' := by
  unfold letS letE
  by_cases h1 : s.toList = [45]
  · have e1 : (s.toList == [45]) = true := by simp [h1]
    rw [if_pos (.inl h1), if_pos h1]
    clear h1
    go_enter Tryz.func190, Tryz.ntmps190
    go_wp2
    go_ret2
    exact ⟨rfl, Below.refl _ _⟩
  · have e1 : (s.toList == [45]) = false := by simp [h1]
    rw [if_neg h1]
    by_cases h2 : 6 < s.size
    · rw [if_pos (.inr (.inl h2)), if_pos h2]
      clear h1
      go_enter Tryz.func190, Tryz.ntmps190
      go_wp2
      go_ret2
      exact ⟨rfl, Below.refl _ _⟩
    · rw [if_neg h2]
      by_cases h3 : s.toList = []
      · have e3 : s.toList.isEmpty = true := by simp [h3]
        rw [if_pos (.inr (.inr (.inl h3))), if_pos (.inl h3)]
        clear h1
        have H3 := Lib.hid h3;clear h3
        go_enter Tryz.func190, Tryz.ntmps190
        go_wp2
        go_ret2
        exact ⟨rfl, Below.refl _ _⟩
      · have e3 : s.toList.isEmpty = false := by simp [h3]
        cases h4 : wordB s
        · rw [if_pos (.inr (.inr (.inr rfl))), if_pos (.inr rfl)]
          clear h1 h3
          have H4 := Lib.hid h4;clear h4
          go_enter Tryz.func190, Tryz.ntmps190
          go_wp2_with (go_at_call 231;refine (word _ (by omega) _).mono ?_;rw [H4.out];rintro e w' ⟨rfl, hB⟩)
          go_ret2
          exact ⟨rfl, hB⟩
        · rw [if_neg (by simp [h1, h2, h3]), if_neg (by simp [h3])]
          clear h1 h3
          have H4 := Lib.hid h4;clear h4
          go_enter Tryz.func190, Tryz.ntmps190
          go_wp2_with (go_at_call 231;refine (word _ (by omega) _).mono ?_;rw [H4.out];rintro e w' ⟨rfl, hB⟩)
          go_ret2
          exact ⟨rfl, hB⟩

def letterOK (s : ByteArray) : Bool := decide (s.toList = []) || (!decide (s.toList = [45]) && decide (s.size ≤ 6) && wordB s)
theorem letter_ok {s : ByteArray} (h : s.toList ≠ []) : letterOK s = true ↔ letE s = 0 ∧ s.toList ≠ [45] := by
  unfold letterOK letE
  by_cases h1 : s.toList = [45]
  · simp [h1]
  · by_cases h2 : 6 < s.size
    · simp [h1, h2, h];omega
    · cases h4 : wordB s <;> simp [h1, h2, h] <;> omega
def ltext (s : ByteArray) : ByteArray := if s.toList = [] then ⟨#[45]⟩ else if letterOK s then s else ⟨#[]⟩
set_option maxHeartbeats 800000 in
theorem LetterText (s : ByteArray) (hs : s.size ≤ 9223372036854775807) (w : World) : Calls Tryz.prog 128 #[.string s] w fun e w' => e = .returned (.tuple #[.string (ltext s), .int .i64 (if letterOK s then 0 else 4)]) ∧ Below w.heap.size w w' := by
  unfold ltext
  by_cases h1 : s.toList = []
  · have e1 : s.toList.isEmpty = true := by simp [h1]
    have e2 : letterOK s = true := by unfold letterOK;simp [h1]
    rw [if_pos h1, e2]
    clear h1 e2
    go_enter Tryz.func128, Tryz.ntmps128
    go_wp2
    go_ret2
    exact ⟨rfl, Below.refl _ _⟩
  · have e1 : s.toList.isEmpty = false := by simp [h1]
    rw [if_neg h1]
    have hk := letter_ok h1
    cases h4 : letterOK s
    · by_cases h5 : letE s = 0
      · have h6 : s.toList = [45] := by
          by_cases h6 : s.toList = [45]
          · exact h6
          · exact absurd (hk.2 ⟨h5, h6⟩) (by rw [h4];simp)
        have h7 : letS s = ⟨#[]⟩ := by unfold letS;rw [if_pos (.inl h6)]
        have h8 : (([] : List UInt8) == s.toList) = false := by simp [h6]
        have H5 := Lib.hid h5;have H7 := Lib.hid h7
        clear hk h4 h5 h6 h7 h1
        go_enter Tryz.func128, Tryz.ntmps128
        go_wp2_with (go_at_call 190;refine (Letter _ (by omega) _).mono ?_;rw [H5.out, H7.out];rintro e w' ⟨rfl, hB⟩)
        go_ret2
        exact ⟨rfl, hB⟩
      · have h6 : (letE s != 0) = true := by simp [h5]
        have h6' : (letE s == 0) = false := by simp [h5]
        clear hk h4 h5 h1
        go_enter Tryz.func128, Tryz.ntmps128
        go_wp2_with (go_at_call 190;refine (Letter _ (by omega) _).mono ?_;rintro e w' ⟨rfl, hB⟩)
        go_ret2
        exact ⟨rfl, hB⟩
    · obtain ⟨h5, h6⟩ := hk.1 h4
      have h7 : letS s = s := by
        unfold letS
        unfold letE at h5
        rw [if_neg h6] at h5
        rw [if_neg]
        rintro (h|h|h|h)
        · exact h6 h
        · rw [if_pos h] at h5;cases h5
        · exact h1 h
        · by_cases h2 : 6 < s.size
          · rw [if_pos h2] at h5;cases h5
          · rw [if_neg h2, if_pos (.inr h)] at h5;cases h5
      have H5 := Lib.hid h5;have H7 := Lib.hid h7
      clear hk h4 h5 h6 h7 h1
      go_enter Tryz.func128, Tryz.ntmps128
      go_wp2_with (go_at_call 190;refine (Letter _ (by omega) _).mono ?_;rw [H5.out, H7.out];rintro e w' ⟨rfl, hB⟩)
      go_ret2
      exact ⟨rfl, hB⟩
end Fmt
end Go.Proofs.YtcfmchpoclkpgaaGreatDoor
