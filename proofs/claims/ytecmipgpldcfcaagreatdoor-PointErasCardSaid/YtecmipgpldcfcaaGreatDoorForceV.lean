import Derived.Test.YtecmipgpldcfcaaGreatDoorG13
import Derived.Test.YtecmipgpldcfcaaGreatDoorG17
import Derived.Test.YtecmipgpldcfcaaGreatDoorG3
namespace Go.Proofs.YtecmipgpldcfcaaGreatDoor
open Go.RowKit NB Nxt
namespace Frc
def viewC (e : EraV) (r : Value) (g n : Nat) : Array Value := #[.int .i64 e.off, .int .i64 e.kind, .int .i64 e.save, .string e.rules, .string e.format, .bool e.u.has, .int .i64 e.u.year, .int .i64 e.u.month, .int .i64 e.u.kind, .int .i64 e.u.week, .int .i64 e.u.day, .int .i64 e.u.sec, .int .i64 e.u.base, r, .slice (some ⟨g, 0, none⟩) n n]
def valX (e : EraV) (r : RuleV) : ValV := if r.name = e.rules then valO e r else ⟨0, 0, ⟨#[]⟩⟩
structure View (W : World) (b : Nat) (l : List RuleV) (e : EraV) (r : Value) (g : Nat) : Prop where
  box : Box W b (viewC e r g l.length) 111
  rules : Holds W r l
  lt : g < W.heap.size
  vals : ∀ (i : Nat) (x : RuleV), l[i]? = some x → ∀ (j : Nat) (u : Value), (valX e x).cells[j]? = some u → W.cell? ⟨g, i * 3 + j, none⟩ = some u
theorem View.later {W W' : World} {b : Nat} {l : List RuleV} {e : EraV} {r : Value} {g : Nat} (h : View W b l e r g) (hb : Below W.heap.size W W') : View W' b l e r g :=
  ⟨h.box.later hb, h.rules.later hb, Nat.lt_of_lt_of_le h.lt hb.size, fun i x hx j u hu => (hb.cell (p := ⟨g, i * 3 + j, none⟩) h.lt).trans (h.vals i x hx j u hu)⟩
set_option maxHeartbeats 1600000 in
theorem value (e : EraV) (he : e.format.size ≤ 9223372036854775807) (r : Value) (g n b : Nat) (save : Int) (letter : ByteArray) (hl : letter.size ≤ 1000000) (w : World) (hb : Box w b (viewC e r g n) 111) (ht : Tab w) :
    Calls Tryz.prog 57 #[.pointer (some ⟨b, 0, none⟩), .int .i64 save, .string letter] w fun x w' => x = .returned (.agg (valR e save letter).cells.toArray) ∧ Below w.heap.size w w' := by
  have ca := fun W (h : Tab W) => Fmt.Abbr e.format he (wrap64 (e.off + save)) save letter hl W h
  unfold valR ValV.cells
  simp only
  generalize (Fmt.abbrF e.format (wrap64 (e.off + save)) save letter) = ab at *
  obtain ⟨ab1, ab2⟩ := ab
  simp only at ca ⊢
  have Ca := Lib.hid ca
  have HT := Lib.hid ht
  clear ca ht
  unfold viewC at hb
  have c0 := hb.cell
  have l0 := hb.lt
  clear hb
  go_enter Tryz.func57, Tryz.ntmps57
  go_wp2_with (go_at_call 93;(with_reducible refine (Ca.out _ ?_).mono ?_);(· exact HT.out.later bcq);rintro e w1 ⟨rfl, hb1⟩;obtain ⟨hc1_0, hf1_0, hz1_0⟩ := bcs hb1 (w.heap.size))
  refine bodyPost_ret (v := .agg #[.int .i64 (wrap64 (e.off + save)), .int .i64 save, .string ab1]) ?_ rfl ⟨rfl, ?_⟩
  · simp only [results, Tryz.results57]
    go_simp
  · exact bcq
theorem info_val : (Tryz.prog.info? 33).map (fun i => (i.zero, i.size, i.bytes)) = some (some (.agg #[.int .i64 0, .int .i64 0, .string ⟨#[]⟩]), 3, 32) := by kernel_rfl
theorem hat {w : World} {v : Value} {l : List RuleV} (h : Holds w v l) {k : Nat} {x : RuleV} (hx : l[k]? = some x) : ∃ b off cap, v = .slice (some ⟨b, off, none⟩) l.length cap ∧ b < w.heap.size ∧ ∀ (j : Nat) (u : Value), x.cells[j]? = some u → w.cell? ⟨b, off + k * 11 + j, none⟩ = some u := by
  rcases h.lies with ⟨p, cap, h1, h2⟩|⟨b, off, cap, h1, h2, h3⟩
  · rw [h2] at hx;simp at hx
  · exact ⟨b, off, cap, h1, h2, fun j u hu => h3 k j _ u (by rw [List.getElem?_map, hx];rfl) hu⟩
def Filled (l : List RuleV) (e : EraV) (k : Nat) (C : Array Value) : Prop := ∀ (i : Nat) (x : RuleV), l[i]? = some x → ∀ (j : Nat) (u : Value), (if i < k then valX e x else ⟨0, 0, ⟨#[]⟩⟩).cells[j]? = some u → C[i * 3 + j]? = some u
theorem Filled.skip {l : List RuleV} {e : EraV} {k : Nat} {C : Array Value} (h : Filled l e k C) {y : RuleV} (hy : l[k]? = some y) (hn : ¬ y.name = e.rules) : Filled l e (k + 1) C := by
  intro i x hx j u hu
  refine h i x hx j u ?_
  by_cases hi : i < k
  · rw [if_pos hi];rw [if_pos (by omega)] at hu;exact hu
  · rw [if_neg hi]
    by_cases hi2 : i < k + 1
    · obtain rfl : i = k := by omega
      rw [hy] at hx
      cases hx
      rw [if_pos hi2] at hu
      unfold valX at hu
      rw [if_neg hn] at hu
      exact hu
    · rw [if_neg hi2] at hu;exact hu
theorem Filled.put {l : List RuleV} {e : EraV} {k : Nat} {C : Array Value} (h : Filled l e k C) (hC : C.size = l.length * 3) {y : RuleV} (hy : l[k]? = some y) (hn : y.name = e.rules) : Filled l e (k + 1) (((C.setIfInBounds (k * 3) (.int .i64 (valO e y).off)).setIfInBounds (k * 3 + 1) (.int .i64 (valO e y).save)).setIfInBounds (k * 3 + 2) (.string (valO e y).abbr)) := by
  intro i x hx j u hu
  have hkl := (List.getElem?_eq_some_iff.1 hy).1
  have hil := (List.getElem?_eq_some_iff.1 hx).1
  have hj3 : j < 3 := by
    have := (List.getElem?_eq_some_iff.1 hu).1
    exact this
  by_cases hi : i = k
  · subst hi
    rw [hy] at hx
    cases hx
    rw [if_pos (by omega)] at hu
    unfold valX at hu
    rw [if_pos hn] at hu
    rcases (by omega : j = 0 ∨ j = 1 ∨ j = 2) with rfl|rfl|rfl
    · cases hu
      rw [Array.getElem?_setIfInBounds_ne (by omega), Array.getElem?_setIfInBounds_ne (by omega), Nat.add_zero, Array.getElem?_setIfInBounds_self_of_lt (by omega)]
    · cases hu
      rw [Array.getElem?_setIfInBounds_ne (by omega), Array.getElem?_setIfInBounds_self_of_lt (by simp;omega)]
    · cases hu
      rw [Array.getElem?_setIfInBounds_self_of_lt (by simp;omega)]
  · rw [Array.getElem?_setIfInBounds_ne (by omega), Array.getElem?_setIfInBounds_ne (by omega), Array.getElem?_setIfInBounds_ne (by omega)]
    refine h i x hx j u ?_
    by_cases hi1 : i < k
    · rw [if_pos hi1];rw [if_pos (by omega)] at hu;exact hu
    · rw [if_neg hi1];rw [if_neg (by omega)] at hu;exact hu
set_option maxHeartbeats 1600000 in
set_option maxRecDepth 100000 in
theorem of1 (e : EraV) (he : e.Fit) {r : Value} {l : List RuleV} {w : World} (hr : Holds w r l) (ht : Tab w) (hs : ∀ x ∈ l, x.letter.size ≤ 1000000) (hn : l.length ≤ 100000) :
    Calls Tryz.prog 28 #[r, .agg e.cells.toArray] w fun x w' => ∃ b g, x = .returned (.pointer (some ⟨b, 0, none⟩)) ∧ View w' b l e r g ∧ Below w.heap.size w w' := by
  obtain ⟨rp, rc, rfl⟩ := hr.form
  have HH := Lib.hid hr
  have HT := Lib.hid ht
  have Hs := Lib.hid hs
  unfold EraV.cells
  clear hr ht hs
  obtain ⟨n, hnl⟩ : ∃ n, n = l.length := ⟨_, rfl⟩
  rw [← hnl] at hn ⊢
  have HN := Lib.hid hnl
  clear hnl
  obtain ⟨i0, hi, hz0, hz1, hz2⟩ := info_parts info_val
  obtain ⟨Z, hZ⟩ : ∃ Z, Z = madeCells (Value.agg #[.int .i64 0, .int .i64 0, .string ⟨#[]⟩]).cells (n * 3) := ⟨_, rfl⟩
  have hmk : ∀ W : World, (Instr.makeSlice 109 (.int .i64 (n : Int)) (.int .i64 (n : Int))).run Tryz.prog W = .ok (.slice (some ⟨W.heap.size, 0, none⟩) n n) (W.alloc (.cells Z 33)) := by
    intro W
    have := run_make (P := Tryz.prog) W 109 33 i0 _ Tryz.underlying109 hi hz0 .i64 .i64 n n (by omega) (Int.le_refl _) (by rw [hz2];omega) (by omega)
    simpa [hz1, ← hZ] using this
  have hZs : Z.size = n * 3 := by rw [hZ];exact size_madeCells _ _
  have hZv : ∀ (i j : Nat) (u : Value), i < n → (⟨0, 0, ⟨#[]⟩⟩ : ValV).cells[j]? = some u → Z[i * 3 + j]? = some u := by
    intro i j u hi hj
    have hj3 : j < 3 := (List.getElem?_eq_some_iff.1 hj).1
    rw [hZ]
    unfold madeCells
    rw [Array.getElem?_map, Array.getElem?_range, if_pos (by omega)]
    rcases (by omega : j = 0 ∨ j = 1 ∨ j = 2) with rfl|rfl|rfl
    · simp only [Option.map_some];cases hj;change some ((#[.int .i64 0, .int .i64 0, .string ⟨#[]⟩] : Array Value)[(i * 3 + 0) % 3]!) = _;rw [show (i * 3 + 0) % 3 = 0 by omega];rfl
    · simp only [Option.map_some];cases hj;change some ((#[.int .i64 0, .int .i64 0, .string ⟨#[]⟩] : Array Value)[(i * 3 + 1) % 3]!) = _;rw [show (i * 3 + 1) % 3 = 1 by omega];rfl
    · simp only [Option.map_some];cases hj;change some ((#[.int .i64 0, .int .i64 0, .string ⟨#[]⟩] : Array Value)[(i * 3 + 2) % 3]!) = _;rw [show (i * 3 + 2) % 3 = 2 by omega];rfl
  have HZ := Lib.hid hZ
  clear hZ hi hz0 hz1 hz2
  go_enter Tryz.func28, Tryz.ntmps28
  go_upto_region 1 with fail
  go_region
  have bE : Box ((((w.alloc (.cells #[.int .i64 e.off, .int .i64 e.kind, .int .i64 e.save, .string e.rules, .string e.format, .bool e.u.has, .int .i64 e.u.year, .int .i64 e.u.month, .int .i64 e.u.kind, .int .i64 e.u.week, .int .i64 e.u.day, .int .i64 e.u.sec, .int .i64 e.u.base] 51)).alloc (.cells Z 33)).alloc (.cells #[.int .i64 e.off, .int .i64 e.kind, .int .i64 e.save, .string e.rules, .string e.format, .bool e.u.has, .int .i64 e.u.year, .int .i64 e.u.month, .int .i64 e.u.kind, .int .i64 e.u.week, .int .i64 e.u.day, .int .i64 e.u.sec, .int .i64 e.u.base, .slice rp n rc, .slice (some ⟨w.heap.size + 1, 0, none⟩) n n] 111)).drew) w.heap.size #[.int .i64 e.off, .int .i64 e.kind, .int .i64 e.save, .string e.rules, .string e.format, .bool e.u.has, .int .i64 e.u.year, .int .i64 e.u.month, .int .i64 e.u.kind, .int .i64 e.u.week, .int .i64 e.u.day, .int .i64 e.u.sec, .int .i64 e.u.base] 51 := bxq
  have bG : Box ((((w.alloc (.cells #[.int .i64 e.off, .int .i64 e.kind, .int .i64 e.save, .string e.rules, .string e.format, .bool e.u.has, .int .i64 e.u.year, .int .i64 e.u.month, .int .i64 e.u.kind, .int .i64 e.u.week, .int .i64 e.u.day, .int .i64 e.u.sec, .int .i64 e.u.base] 51)).alloc (.cells Z 33)).alloc (.cells #[.int .i64 e.off, .int .i64 e.kind, .int .i64 e.save, .string e.rules, .string e.format, .bool e.u.has, .int .i64 e.u.year, .int .i64 e.u.month, .int .i64 e.u.kind, .int .i64 e.u.week, .int .i64 e.u.day, .int .i64 e.u.sec, .int .i64 e.u.base, .slice rp n rc, .slice (some ⟨w.heap.size + 1, 0, none⟩) n n] 111)).drew) (w.heap.size + 1) Z 33 := by
    refine Box.drew (Box.old ?_)
    have := Box.new (w.alloc (.cells #[.int .i64 e.off, .int .i64 e.kind, .int .i64 e.save, .string e.rules, .string e.format, .bool e.u.has, .int .i64 e.u.year, .int .i64 e.u.month, .int .i64 e.u.kind, .int .i64 e.u.week, .int .i64 e.u.day, .int .i64 e.u.sec, .int .i64 e.u.base] 51)) Z 33
    rwa [World.size_alloc] at this
  have bV : Box ((((w.alloc (.cells #[.int .i64 e.off, .int .i64 e.kind, .int .i64 e.save, .string e.rules, .string e.format, .bool e.u.has, .int .i64 e.u.year, .int .i64 e.u.month, .int .i64 e.u.kind, .int .i64 e.u.week, .int .i64 e.u.day, .int .i64 e.u.sec, .int .i64 e.u.base] 51)).alloc (.cells Z 33)).alloc (.cells #[.int .i64 e.off, .int .i64 e.kind, .int .i64 e.save, .string e.rules, .string e.format, .bool e.u.has, .int .i64 e.u.year, .int .i64 e.u.month, .int .i64 e.u.kind, .int .i64 e.u.week, .int .i64 e.u.day, .int .i64 e.u.sec, .int .i64 e.u.base, .slice rp n rc, .slice (some ⟨w.heap.size + 1, 0, none⟩) n n] 111)).drew) (w.heap.size + 1 + 1) #[.int .i64 e.off, .int .i64 e.kind, .int .i64 e.save, .string e.rules, .string e.format, .bool e.u.has, .int .i64 e.u.year, .int .i64 e.u.month, .int .i64 e.u.kind, .int .i64 e.u.week, .int .i64 e.u.day, .int .i64 e.u.sec, .int .i64 e.u.base, .slice rp n rc, .slice (some ⟨w.heap.size + 1, 0, none⟩) n n] 111 := by
    refine Box.drew ?_
    have := Box.new ((w.alloc (.cells #[.int .i64 e.off, .int .i64 e.kind, .int .i64 e.save, .string e.rules, .string e.format, .bool e.u.has, .int .i64 e.u.year, .int .i64 e.u.month, .int .i64 e.u.kind, .int .i64 e.u.week, .int .i64 e.u.day, .int .i64 e.u.sec, .int .i64 e.u.base] 51)).alloc (.cells Z 33)) #[.int .i64 e.off, .int .i64 e.kind, .int .i64 e.save, .string e.rules, .string e.format, .bool e.u.has, .int .i64 e.u.year, .int .i64 e.u.month, .int .i64 e.u.kind, .int .i64 e.u.week, .int .i64 e.u.day, .int .i64 e.u.sec, .int .i64 e.u.base, .slice rp n rc, .slice (some ⟨w.heap.size + 1, 0, none⟩) n n] 111
    rwa [World.size_alloc, World.size_alloc] at this
  have hB1 : Below w.heap.size w ((((w.alloc (.cells #[.int .i64 e.off, .int .i64 e.kind, .int .i64 e.save, .string e.rules, .string e.format, .bool e.u.has, .int .i64 e.u.year, .int .i64 e.u.month, .int .i64 e.u.kind, .int .i64 e.u.week, .int .i64 e.u.day, .int .i64 e.u.sec, .int .i64 e.u.base] 51)).alloc (.cells Z 33)).alloc (.cells #[.int .i64 e.off, .int .i64 e.kind, .int .i64 e.save, .string e.rules, .string e.format, .bool e.u.has, .int .i64 e.u.year, .int .i64 e.u.month, .int .i64 e.u.kind, .int .i64 e.u.week, .int .i64 e.u.day, .int .i64 e.u.sec, .int .i64 e.u.base, .slice rp n rc, .slice (some ⟨w.heap.size + 1, 0, none⟩) n n] 111)).drew) := bcq
  generalize ((((w.alloc (.cells #[.int .i64 e.off, .int .i64 e.kind, .int .i64 e.save, .string e.rules, .string e.format, .bool e.u.has, .int .i64 e.u.year, .int .i64 e.u.month, .int .i64 e.u.kind, .int .i64 e.u.week, .int .i64 e.u.day, .int .i64 e.u.sec, .int .i64 e.u.base] 51)).alloc (.cells Z 33)).alloc (.cells #[.int .i64 e.off, .int .i64 e.kind, .int .i64 e.save, .string e.rules, .string e.format, .bool e.u.has, .int .i64 e.u.year, .int .i64 e.u.month, .int .i64 e.u.kind, .int .i64 e.u.week, .int .i64 e.u.day, .int .i64 e.u.sec, .int .i64 e.u.base, .slice rp n rc, .slice (some ⟨w.heap.size + 1, 0, none⟩) n n] 111)).drew) = X at *
  have hF0 : Filled l e 0 Z := fun i x hx j u hu => hZv i j u (by have := (List.getElem?_eq_some_iff.1 hx).1;rw [HN.out];exact this) (by simpa using hu)
  clear hZv hmk
  obtain ⟨p1, hp1⟩ : ∃ p, p = w.heap.size + 1 := ⟨_, rfl⟩
  obtain ⟨p2, hp2⟩ : ∃ p, p = w.heap.size + 1 + 1 := ⟨_, rfl⟩
  rw [← hp2] at bV ⊢
  rw [← hp1] at bG bV ⊢
  have hq1 : w.heap.size < p1 ∧ p1 < p2 := by omega
  clear hp1 hp2
  go_wp2
  go_loopw [17] (fun i wr => ∃ k : Nat, i = .int .i64 k ∧ k ≤ n ∧ Below w.heap.size w wr ∧ Box wr w.heap.size #[.int .i64 e.off, .int .i64 e.kind, .int .i64 e.save, .string e.rules, .string e.format, .bool e.u.has, .int .i64 e.u.year, .int .i64 e.u.month, .int .i64 e.u.kind, .int .i64 e.u.week, .int .i64 e.u.day, .int .i64 e.u.sec, .int .i64 e.u.base] 51 ∧ Box wr p2 #[.int .i64 e.off, .int .i64 e.kind, .int .i64 e.save, .string e.rules, .string e.format, .bool e.u.has, .int .i64 e.u.year, .int .i64 e.u.month, .int .i64 e.u.kind, .int .i64 e.u.week, .int .i64 e.u.day, .int .i64 e.u.sec, .int .i64 e.u.base, .slice rp n rc, .slice (some ⟨p1, 0, none⟩) n n] 111 ∧ ∃ C : Array Value, Box wr p1 C 33 ∧ C.size = n * 3 ∧ Filled l e k C) (fun i _ => n - (intOf i).toNat)
  case atStart => exact ⟨0, rfl, Nat.zero_le _, hB1, bE, bV, Z, bG, hZs, hF0⟩
  case round =>
    clear hB1 bE bG bV hF0 hZs
    obtain ⟨k, rfl, hk, hbel, bE, bV, C, bG, hC, hF⟩ := hrel
    have HF := Lib.hid hF
    have HBE := Lib.hid bE
    have HBV := Lib.hid bV
    have HBG := Lib.hid bG
    have HbW := Lib.hid hbel
    have cE := bE.cell
    have cV := bV.cell
    have lE := bE.lt
    have lG := bG.lt
    have lV := bV.lt
    clear hF bE bV bG hbel
    by_cases hlt : k < n
    · obtain ⟨x, hx⟩ : ∃ x, l[k]? = some x := ⟨l[k]'(by rw [← HN.out];exact hlt), by simp⟩
      obtain ⟨b, off, cap, hq, hb, hcl⟩ := hat HH.out hx
      simp only [Value.slice.injEq] at hq
      obtain ⟨rfl, -, rfl⟩ := hq
      have hd : ∀ (j : Nat) (u : Value), x.cells[j]? = some u → wr.cell? ⟨b, off + k * 11 + j, none⟩ = some u := fun j u hu => (HbW.out.cell (p := ⟨b, off + k * 11 + j, none⟩) hb).trans (hcl j u hu)
      have hbU : b < wr.heap.size := Nat.lt_of_lt_of_le hb HbW.out.size
      have d0 := hd 0 _ rfl
      have d1 := hd 1 _ rfl
      have d2 := hd 2 _ rfl
      have d3 := hd 3 _ rfl
      have d4 := hd 4 _ rfl
      have d5 := hd 5 _ rfl
      have d6 := hd 6 _ rfl
      have d7 := hd 7 _ rfl
      have d8 := hd 8 _ rfl
      have d9 := hd 9 _ rfl
      have d10 := hd 10 _ rfl
      simp only [Nat.add_zero] at d0
      have hlx := Hs.out x (List.mem_of_getElem? hx)
      have Hx := Lib.hid hx
      clear hd hcl hx
      by_cases hnm : x.name = e.rules
      case neg =>
        have e1 := str_ne hnm
        have Hnm := Lib.hid hnm
        clear hnm
        go_wp2
        have hbel := HbW.out
        have bE := HBE.out
        have bV := HBV.out
        have bG := HBG.out
        go_roundw
        case rel => exact ⟨k + 1, by go_num, hlt, bcq, bxq, bxq, C, bxq, hC, HF.out.skip Hx.out Hnm.out⟩
        case measure => simp [intOf];omega
      case pos =>
        have e1 := str_eq hnm
        have Hnm := Lib.hid hnm
        clear hnm
        go_upto_region 6 with fail
        obtain ⟨v0, hv0⟩ : ∃ v, C[k * 3]? = some v := ⟨C[k * 3]'(by omega), by simp⟩
        obtain ⟨v1, hv1⟩ : ∃ v, C[k * 3 + 1]? = some v := ⟨C[k * 3 + 1]'(by omega), by simp⟩
        obtain ⟨v2, hv2⟩ : ∃ v, C[k * 3 + 2]? = some v := ⟨C[k * 3 + 2]'(by omega), by simp⟩
        have bG := HBG.out
        have g0 := (bG.cell (k * 3)).trans hv0
        have g1 := (bG.cell (k * 3 + 1)).trans hv1
        have g2 := (bG.cell (k * 3 + 2)).trans hv2
        have f0 := bG.free (k * 3)
        have f1 := bG.free (k * 3 + 1)
        have f2 := bG.free (k * 3 + 2)
        clear bG d0 d1 d2 d3 d4 d5 d6 d7 d8 d9 d10 cE
        obtain ⟨y, hy⟩ : ∃ y, y = valO e x := ⟨_, rfl⟩
        have cval : ∀ W, Box W p2 (viewC e (.slice (some ⟨b, off, none⟩) n rc) p1 n) 111 → Tab W → Calls Tryz.prog 57 #[.pointer (some ⟨p2, 0, none⟩), .int .i64 x.save, .string x.letter] W fun z w' => z = .returned (.agg #[.int .i64 y.off, .int .i64 y.save, .string y.abbr]) ∧ Below W.heap.size W w' := fun W h h' => by rw [hy];exact value e he.f (.slice (some ⟨b, off, none⟩) n rc) p1 n p2 x.save x.letter hlx W h h'
        have Cval := Lib.hid cval
        have HY := Lib.hid hy
        clear hy
        clear cval
        go_region_with ((go_at_call 57);(with_reducible refine (Cval.out _ ?_ ?_).mono ?_);(· have bV := HBV.out;unfold viewC;exact bxq);(· exact HT.out.later (bt HbW.out bcq));rintro e2 w2 ⟨rfl, hb2⟩;obtain ⟨hc2_0, hf2_0, hz2_0⟩ := bcs hb2 (p1);obtain ⟨hc2_1, hf2_1, hz2_1⟩ := bcs hb2 (p2);obtain ⟨hc2_2, hf2_2, hz2_2⟩ := bcs hb2 (wr.heap.size))
        all_goals
          have hput := HF.out.put (by rw [← HN.out];exact hC) Hx.out Hnm.out
          rw [← HY.out] at hput
          have HP := Lib.hid hput
          have bG2 : Box w2 p1 C 33 := by have bG := HBG.out;exact bxq
          have bE2 : Box w2 w.heap.size #[.int .i64 e.off, .int .i64 e.kind, .int .i64 e.save, .string e.rules, .string e.format, .bool e.u.has, .int .i64 e.u.year, .int .i64 e.u.month, .int .i64 e.u.kind, .int .i64 e.u.week, .int .i64 e.u.day, .int .i64 e.u.sec, .int .i64 e.u.base] 51 := by have bE := HBE.out;exact bxq
          have bV2 : Box w2 p2 #[.int .i64 e.off, .int .i64 e.kind, .int .i64 e.save, .string e.rules, .string e.format, .bool e.u.has, .int .i64 e.u.year, .int .i64 e.u.month, .int .i64 e.u.kind, .int .i64 e.u.week, .int .i64 e.u.day, .int .i64 e.u.sec, .int .i64 e.u.base, .slice (some ⟨b, off, none⟩) n rc, .slice (some ⟨p1, 0, none⟩) n n] 111 := by have bV := HBV.out;exact bxq
          have hbl2 : Below w.heap.size w w2 := by have hbel := HbW.out;exact bcq
          have HG2 := Lib.hid bG2
          have HE2 := Lib.hid bE2
          have HV2 := Lib.hid bV2
          have HL2 := Lib.hid hbl2
          clear hput bG2 bE2 bV2 hbl2 hb2 hc2_0 hf2_0 hc2_1 hf2_1 hc2_2 hf2_2 g0 g1 g2 f0 f1 f2 hv0 hv1 hv2 cV
          go_wp2
          go_roundw
          case rel => exact ⟨k + 1, by go_num, hlt, bset (bset (bset HL2.out (by omega)) (by omega)) (by omega), ((HE2.out.other (by omega)).other (by omega)).other (by omega), ((HV2.out.other (by omega)).other (by omega)).other (by omega), _, ((HG2.out.set).set).set, by simp [hC], HP.out⟩
          case measure => simp [intOf];omega
    · clear cE cV
      go_wp2
      have bV := HBV.out
      have bG := HBG.out
      go_ret
      have hkn : k = n := by omega
      subst hkn
      have hn' := HN.out
      subst hn'
      refine ⟨p2, p1, rfl, ⟨bV, HH.out.later HbW.out, lG, fun i x hx j u hu => ?_⟩, HbW.out⟩
      rw [bG.cell]
      have hil := (List.getElem?_eq_some_iff.1 hx).1
      exact HF.out i x hx j u (by rw [if_pos hil];exact hu)
end Frc
end Go.Proofs.YtecmipgpldcfcaaGreatDoor
