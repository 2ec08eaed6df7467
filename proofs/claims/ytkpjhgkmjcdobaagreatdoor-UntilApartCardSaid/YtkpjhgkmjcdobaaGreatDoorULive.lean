import Derived.Test.YtkpjhgkmjcdobaaGreatDoorUTells
import Derived.Test.YtkpjhgkmjcdobaaGreatDoorG15
/-
  noontidelaw28.lives.
-/
namespace Go.Proofs.YtkpjhgkmjcdobaaGreatDoor
open Go.RowKit NB Nxt
namespace L28
open Unt
def u1 : UntilV := ⟨true, 1950, 1, 0, 0, 1, 0, 0⟩
def u0 : UntilV := ⟨false, 0, 0, 0, 0, 0, 0, 0⟩
def u8 : UntilV := ⟨true, 0, 0, 0, 0, 0, 0, 0⟩
def eE : EraV := ⟨3600, 0, 0, ⟨#[]⟩, ⟨#[88]⟩, ⟨true, 1950, 1, 0, 0, 1, 0, 0⟩⟩
theorem fit_eE : eE.Fit := ⟨by decide, by decide, by unfold I64; decide, by unfold I64; decide, by unfold I64; decide, by unfold I64; decide⟩
def eF : EraV := ⟨3600, 1, 3600, ⟨#[]⟩, ⟨#[88]⟩, ⟨true, 1950, 1, 0, 0, 1, 0, 0⟩⟩
theorem fit_eF : eF.Fit := ⟨by decide, by decide, by unfold I64; decide, by unfold I64; decide, by unfold I64; decide, by unfold I64; decide⟩
def eG : EraV := ⟨3600, 1, 3600, ⟨#[]⟩, ⟨#[88]⟩, ⟨true, 1950, 1, 0, 0, 1, 0, 1⟩⟩
theorem fit_eG : eG.Fit := ⟨by decide, by decide, by unfold I64; decide, by unfold I64; decide, by unfold I64; decide, by unfold I64; decide⟩
def eH : EraV := ⟨0, 0, 0, ⟨#[]⟩, ⟨#[89]⟩, ⟨false, 0, 0, 0, 0, 0, 0, 0⟩⟩
theorem fit_eH : eH.Fit := ⟨by decide, by decide, by unfold I64; decide, by unfold I64; decide, by unfold I64; decide, by unfold I64; decide⟩
def eZ : EraV := ⟨0, 0, 0, ⟨#[]⟩, ⟨#[]⟩, ⟨false, 0, 0, 0, 0, 0, 0, 0⟩⟩
theorem fit_eZ : eZ.Fit := ⟨by decide, by decide, by unfold I64; decide, by unfold I64; decide, by unfold I64; decide, by unfold I64; decide⟩
def eX : EraV := ⟨-18000, 2, 0, ⟨#[85, 83]⟩, ⟨#[69, 37, 115, 84]⟩, ⟨true, 2024, 11, 0, 0, 4, 0, 0⟩⟩
theorem fit_eX : eX.Fit := ⟨by decide, by decide, by unfold I64; decide, by unfold I64; decide, by unfold I64; decide, by unfold I64; decide⟩
def eX3 : EraV := ⟨-18000, 2, 0, ⟨#[85, 83]⟩, ⟨#[69, 37, 115, 84]⟩, ⟨true, 2024, 11, 0, 0, 3, 0, 0⟩⟩
theorem fit_eX3 : eX3.Fit := ⟨by decide, by decide, by unfold I64; decide, by unfold I64; decide, by unfold I64; decide, by unfold I64; decide⟩
theorem fit_u1 : u1.Fit := ⟨by unfold I64; decide, by unfold I64; decide⟩
theorem fit_u0 : u0.Fit := ⟨by unfold I64; decide, by unfold I64; decide⟩
theorem fit_u8 : u8.Fit := ⟨by unfold I64; decide, by unfold I64; decide⟩
theorem i1 : instU [] eE = (-631155600, 0) := by decide +kernel
theorem i2 : instU [] eF = (-631159200, 0) := by decide +kernel
theorem i3 : instU [] eG = (-631155600, 0) := by decide +kernel
theorem i4 : instU [] eH = (0, 12) := by decide +kernel
theorem i5 : instU [] eZ = (0, 4) := by decide +kernel
theorem n1 : nomU u1 = (-631152000, 0) := by decide +kernel
theorem n2 : nomU u0 = (0, 12) := by decide +kernel
theorem n3 : nomU u8 = (0, 4) := by decide +kernel
theorem r1 : Zn.endsR [] [eE, eH] = [-631155600] := by decide +kernel
theorem s1 : Zn.endsE [eE, eH] = 0 := by decide +kernel
theorem r2 : Zn.endsR [] [eE] = [] := by decide +kernel
theorem s2 : Zn.endsE [eE] = 4 := by decide +kernel
theorem bad0 {l : List RuleV} {es : List EraV} {L : List Int} {i : Nat} {t p : Int} (h1 : L[i]? = some t) (h2 : (if 0 < i then (L[i - 1]?).getD 0 else t - 345600) = p) (_h3 : p < t) (h4 : 345600 ≤ t - p) (h5 : ¬ nearO l es[i]? (t - 172800) t) (h6 : ¬ nearO l es[i + 1]? t (t + 172800)) : badAt l es L i = 0 := by
  unfold badAt
  rw [h1]
  simp only
  rw [h2]
  rw [if_neg (by omega), if_neg (by rintro (h | h | h); exact absurd h4 (by omega); exact h5 h; exact h6 h)]
theorem not_near {l : List RuleV} {e : EraV} {a b : Int} (h : ¬ e.kind = 2) : ¬ nearO l (some e) a b := fun hh => h hh.1
theorem bad14 {l : List RuleV} {es : List EraV} {L : List Int} {i : Nat} {t p : Int} (h1 : L[i]? = some t) (h2 : (if 0 < i then (L[i - 1]?).getD 0 else t - 345600) = p) (h3 : t ≤ p) : badAt l es L i = 14 := by
  unfold badAt
  rw [h1]
  simp only
  rw [h2]
  rw [if_pos h3]
theorem bad15 {l : List RuleV} {es : List EraV} {L : List Int} {i : Nat} {t p : Int} (h1 : L[i]? = some t) (h2 : (if 0 < i then (L[i - 1]?).getD 0 else t - 345600) = p) (h3 : p < t) (h4 : t - p < 345600 ∨ nearO l es[i]? (t - 172800) t ∨ nearO l es[i + 1]? t (t + 172800)) : badAt l es L i = 15 := by
  unfold badAt
  rw [h1]
  simp only
  rw [h2]
  rw [if_neg (by omega), if_pos h4]
theorem check_of {l : List RuleV} {es : List EraV} {L : List Int} {n : Nat} (hz : Zn.zoneB es = true) (hL : Zn.endsL l es = L) (hn : L.length = n) : checkU l es = first (badAt l es L) n 0 := by
  unfold checkU
  rw [if_pos hz, hL, hn]
theorem first_stop {f : Nat → Int} {c k : Nat} {v : Int} (h : f k = v) (hv : v ≠ 0) : first f (c + 1) k = ((k : Int), v) := by
  unfold first
  rw [h, if_neg hv]
theorem first_on {f : Nat → Int} {c k : Nat} (h : f k = 0) : first f (c + 1) k = first f c (k + 1) := by
  rw [first, if_pos h]
theorem c1 : checkU [] [eE, eF, eH] = (1, 14) := by
  rw [check_of (L := [-631155600, -631159200]) (n := 2) (by decide +kernel) (by decide +kernel) rfl]
  rw [first_on (bad0 (l := []) (es := [eE, eF, eH]) (L := [-631155600, -631159200]) (i := 0) (t := -631155600) rfl rfl (by decide) (by decide) (not_near (by decide)) (not_near (by decide)))]
  exact first_stop (bad14 (t := -631159200) rfl rfl (by decide)) (by decide)
theorem c2 : checkU [] [eF, eE, eH] = (1, 15) := by
  rw [check_of (L := [-631159200, -631155600]) (n := 2) (by decide +kernel) (by decide +kernel) rfl]
  rw [first_on (bad0 (l := []) (es := [eF, eE, eH]) (L := [-631159200, -631155600]) (i := 0) (t := -631159200) rfl rfl (by decide) (by decide) (not_near (by decide)) (not_near (by decide)))]
  exact first_stop (bad15 (t := -631155600) rfl rfl (by decide) (.inl (by decide))) (by decide)
theorem c3 : checkU [] [] = (-1, 4) := by
  unfold checkU
  rw [if_neg (by decide)]
theorem n4 : NearP [Us.us0, Us.us1] eX 1730523600 1730696400 :=
  ⟨by decide, ⟨1, 2024, 1730599200⟩, after_all (by decide) L26.a1, by decide +kernel, by decide +kernel⟩
theorem c4 : checkU [Us.us0, Us.us1] [eX, eH] = (0, 15) := by
  rw [check_of (L := [1730696400]) (n := 1) (by decide +kernel) (by decide +kernel) rfl]
  exact first_stop (bad15 (t := 1730696400) rfl rfl (by decide) (.inr (.inl n4))) (by decide)
theorem n5 : ¬ NearP [Us.us0, Us.us1] eX3 1730433600 1730606400 := by
  refine RUnt.near_list (by decide) (by decide) (by decide) ?_
  rw [show Occ.inL [Us.us0, Us.us1] eX3.rules (1730606400 + 64801) ⟨-1, 0, 1730433600 - 64800⟩ 10000 = [⟨1, 2024, 1730599200⟩] by decide +kernel]
  intro x hx
  rw [List.mem_singleton] at hx
  subst hx
  decide +kernel
theorem c5 : checkU [Us.us0, Us.us1] [eX3, eH] = (-1, 0) := by
  rw [check_of (L := [1730606400]) (n := 1) (by decide +kernel) (by decide +kernel) rfl]
  rw [first_on (bad0 (l := [Us.us0, Us.us1]) (es := [eX3, eH]) (L := [1730606400]) (i := 0) (t := 1730606400) rfl rfl (by decide) (by decide) n5 (not_near (by decide)))]
  rfl
theorem era_len (e : EraV) : e.cells.length = 13 := rfl
theorem eraNew (X : World) (es : List EraV) (cs : Array Value) (t : TypeId) (n cap b : Nat) (hn : n = es.length) (h : cs.toList = es.flatMap EraV.cells) (hf : ∀ e ∈ es, e.Fit) (hl : es.length ≤ 9223372036854775807) (hb : b = X.heap.size) : HoldsE (X.alloc (.cells cs t)) (.slice (some ⟨b, 0, none⟩) n cap) es := by
  subst hn hb
  refine ⟨.inr ⟨X.heap.size, 0, cap, rfl, by simp, ?_⟩, hf, hl⟩
  intro i j c v hi hj
  rw [List.getElem?_map] at hi
  cases hx : es[i]? with
  | none => rw [hx] at hi; cases hi
  | some x =>
    rw [hx] at hi
    cases hi
    rw [cell_of_row _ _ _ _ _ _ (heap_alloc_new X _), Nat.zero_add]
    have := Grp.flat_at era_len es i j x v hx hj
    rw [← h] at this
    simpa using this
theorem nilR (W : World) : Holds W (.slice none 0 0) [] := ⟨.inl ⟨_, _, rfl, rfl⟩, by simp, by simp⟩
theorem nilE (W : World) : HoldsE W (.slice none 0 0) [] := ⟨.inl ⟨_, _, rfl, rfl⟩, by simp, by simp⟩
theorem E1 (X : World) (b : Nat) (hb : b = X.heap.size) (ht : Tab X) : Calls Tryz.prog 16 #[.slice none 0 0, .agg #[.string { data := #[] }, .slice (some ⟨b, 0, none⟩) 2 2]] (X.alloc (.cells (#[.int .i64 3600, .int .i64 0, .int .i64 0, .string { data := #[] }, .string { data := #[88] }, .bool true, .int .i64 1950, .int .i64 1, .int .i64 0, .int .i64 0, .int .i64 1, .int .i64 0, .int .i64 0, .int .i64 0, .int .i64 0, .int .i64 0, .string { data := #[] }, .string { data := #[89] }, .bool false, .int .i64 0, .int .i64 0, .int .i64 0, .int .i64 0, .int .i64 0, .int .i64 0, .int .i64 0] : Array Value) 30)) fun x w' => ∃ v, x = .returned (.tuple #[v, .int .i64 0]) ∧ w'.ownsRow (X.alloc (.cells (#[.int .i64 3600, .int .i64 0, .int .i64 0, .string { data := #[] }, .string { data := #[88] }, .bool true, .int .i64 1950, .int .i64 1, .int .i64 0, .int .i64 0, .int .i64 1, .int .i64 0, .int .i64 0, .int .i64 0, .int .i64 0, .int .i64 0, .string { data := #[] }, .string { data := #[89] }, .bool false, .int .i64 0, .int .i64 0, .int .i64 0, .int .i64 0, .int .i64 0, .int .i64 0, .int .i64 0] : Array Value) 30)).heap.size 2 1 v ([-631155600] : List Int).length (Zn.ints [-631155600]) ∧ Below (X.alloc (.cells (#[.int .i64 3600, .int .i64 0, .int .i64 0, .string { data := #[] }, .string { data := #[88] }, .bool true, .int .i64 1950, .int .i64 1, .int .i64 0, .int .i64 0, .int .i64 1, .int .i64 0, .int .i64 0, .int .i64 0, .int .i64 0, .int .i64 0, .string { data := #[] }, .string { data := #[89] }, .bool false, .int .i64 0, .int .i64 0, .int .i64 0, .int .i64 0, .int .i64 0, .int .i64 0, .int .i64 0] : Array Value) 30)).heap.size (X.alloc (.cells (#[.int .i64 3600, .int .i64 0, .int .i64 0, .string { data := #[] }, .string { data := #[88] }, .bool true, .int .i64 1950, .int .i64 1, .int .i64 0, .int .i64 0, .int .i64 1, .int .i64 0, .int .i64 0, .int .i64 0, .int .i64 0, .int .i64 0, .string { data := #[] }, .string { data := #[89] }, .bool false, .int .i64 0, .int .i64 0, .int .i64 0, .int .i64 0, .int .i64 0, .int .i64 0, .int .i64 0] : Array Value) 30)) w' := by
  have h := Zn.Ends (nilR _) (eraNew X [eE, eH] (#[.int .i64 3600, .int .i64 0, .int .i64 0, .string { data := #[] }, .string { data := #[88] }, .bool true, .int .i64 1950, .int .i64 1, .int .i64 0, .int .i64 0, .int .i64 1, .int .i64 0, .int .i64 0, .int .i64 0, .int .i64 0, .int .i64 0, .string { data := #[] }, .string { data := #[89] }, .bool false, .int .i64 0, .int .i64 0, .int .i64 0, .int .i64 0, .int .i64 0, .int .i64 0, .int .i64 0] : Array Value) 30 2 2 b rfl rfl (by intro e he; simp only [List.mem_cons, List.not_mem_nil, or_false] at he; rcases he with rfl | rfl <;> first | exact fit_eE | exact fit_eH) (by decide) hb) ⟨#[]⟩ (by decide) (ht.later (ba (Below.refl _ _)))
  unfold Zn.EndsPost at h
  rw [r1, s1] at h
  exact h
theorem E2 (X : World) (b : Nat) (hb : b = X.heap.size) (ht : Tab X) : Calls Tryz.prog 16 #[.slice none 0 0, .agg #[.string { data := #[] }, .slice (some ⟨b, 0, none⟩) 1 1]] (X.alloc (.cells (#[.int .i64 3600, .int .i64 0, .int .i64 0, .string { data := #[] }, .string { data := #[88] }, .bool true, .int .i64 1950, .int .i64 1, .int .i64 0, .int .i64 0, .int .i64 1, .int .i64 0, .int .i64 0] : Array Value) 30)) fun x w' => ∃ v, x = .returned (.tuple #[v, .int .i64 4]) ∧ w'.ownsRow (X.alloc (.cells (#[.int .i64 3600, .int .i64 0, .int .i64 0, .string { data := #[] }, .string { data := #[88] }, .bool true, .int .i64 1950, .int .i64 1, .int .i64 0, .int .i64 0, .int .i64 1, .int .i64 0, .int .i64 0] : Array Value) 30)).heap.size 2 1 v ([] : List Int).length (Zn.ints []) ∧ Below (X.alloc (.cells (#[.int .i64 3600, .int .i64 0, .int .i64 0, .string { data := #[] }, .string { data := #[88] }, .bool true, .int .i64 1950, .int .i64 1, .int .i64 0, .int .i64 0, .int .i64 1, .int .i64 0, .int .i64 0] : Array Value) 30)).heap.size (X.alloc (.cells (#[.int .i64 3600, .int .i64 0, .int .i64 0, .string { data := #[] }, .string { data := #[88] }, .bool true, .int .i64 1950, .int .i64 1, .int .i64 0, .int .i64 0, .int .i64 1, .int .i64 0, .int .i64 0] : Array Value) 30)) w' := by
  have h := Zn.Ends (nilR _) (eraNew X [eE] (#[.int .i64 3600, .int .i64 0, .int .i64 0, .string { data := #[] }, .string { data := #[88] }, .bool true, .int .i64 1950, .int .i64 1, .int .i64 0, .int .i64 0, .int .i64 1, .int .i64 0, .int .i64 0] : Array Value) 30 1 1 b rfl rfl (by intro e he; simp only [List.mem_cons, List.not_mem_nil, or_false] at he; rcases he with rfl <;> first | exact fit_eE) (by decide) hb) ⟨#[]⟩ (by decide) (ht.later (ba (Below.refl _ _)))
  unfold Zn.EndsPost at h
  rw [r2, s2] at h
  exact h
theorem C1 (X : World) (b : Nat) (hb : b = X.heap.size) (ht : Tab X) : Calls Tryz.prog 18 #[.slice none 0 0, .agg #[.string { data := #[] }, .slice (some ⟨b, 0, none⟩) 3 3]] (X.alloc (.cells (#[.int .i64 3600, .int .i64 0, .int .i64 0, .string { data := #[] }, .string { data := #[88] }, .bool true, .int .i64 1950, .int .i64 1, .int .i64 0, .int .i64 0, .int .i64 1, .int .i64 0, .int .i64 0, .int .i64 3600, .int .i64 1, .int .i64 3600, .string { data := #[] }, .string { data := #[88] }, .bool true, .int .i64 1950, .int .i64 1, .int .i64 0, .int .i64 0, .int .i64 1, .int .i64 0, .int .i64 0, .int .i64 0, .int .i64 0, .int .i64 0, .string { data := #[] }, .string { data := #[89] }, .bool false, .int .i64 0, .int .i64 0, .int .i64 0, .int .i64 0, .int .i64 0, .int .i64 0, .int .i64 0] : Array Value) 30)) fun x w' => x = .returned (.tuple #[.int .i64 1, .int .i64 14]) ∧ Below (X.alloc (.cells (#[.int .i64 3600, .int .i64 0, .int .i64 0, .string { data := #[] }, .string { data := #[88] }, .bool true, .int .i64 1950, .int .i64 1, .int .i64 0, .int .i64 0, .int .i64 1, .int .i64 0, .int .i64 0, .int .i64 3600, .int .i64 1, .int .i64 3600, .string { data := #[] }, .string { data := #[88] }, .bool true, .int .i64 1950, .int .i64 1, .int .i64 0, .int .i64 0, .int .i64 1, .int .i64 0, .int .i64 0, .int .i64 0, .int .i64 0, .int .i64 0, .string { data := #[] }, .string { data := #[89] }, .bool false, .int .i64 0, .int .i64 0, .int .i64 0, .int .i64 0, .int .i64 0, .int .i64 0, .int .i64 0] : Array Value) 30)).heap.size (X.alloc (.cells (#[.int .i64 3600, .int .i64 0, .int .i64 0, .string { data := #[] }, .string { data := #[88] }, .bool true, .int .i64 1950, .int .i64 1, .int .i64 0, .int .i64 0, .int .i64 1, .int .i64 0, .int .i64 0, .int .i64 3600, .int .i64 1, .int .i64 3600, .string { data := #[] }, .string { data := #[88] }, .bool true, .int .i64 1950, .int .i64 1, .int .i64 0, .int .i64 0, .int .i64 1, .int .i64 0, .int .i64 0, .int .i64 0, .int .i64 0, .int .i64 0, .string { data := #[] }, .string { data := #[89] }, .bool false, .int .i64 0, .int .i64 0, .int .i64 0, .int .i64 0, .int .i64 0, .int .i64 0, .int .i64 0] : Array Value) 30)) w' := by
  have h := Unt.Check (nilR _) (eraNew X [eE, eF, eH] (#[.int .i64 3600, .int .i64 0, .int .i64 0, .string { data := #[] }, .string { data := #[88] }, .bool true, .int .i64 1950, .int .i64 1, .int .i64 0, .int .i64 0, .int .i64 1, .int .i64 0, .int .i64 0, .int .i64 3600, .int .i64 1, .int .i64 3600, .string { data := #[] }, .string { data := #[88] }, .bool true, .int .i64 1950, .int .i64 1, .int .i64 0, .int .i64 0, .int .i64 1, .int .i64 0, .int .i64 0, .int .i64 0, .int .i64 0, .int .i64 0, .string { data := #[] }, .string { data := #[89] }, .bool false, .int .i64 0, .int .i64 0, .int .i64 0, .int .i64 0, .int .i64 0, .int .i64 0, .int .i64 0] : Array Value) 30 3 3 b rfl rfl (by intro e he; simp only [List.mem_cons, List.not_mem_nil, or_false] at he; rcases he with rfl | rfl | rfl <;> first | exact fit_eE | exact fit_eF | exact fit_eH) (by decide) hb) ⟨#[]⟩ (by decide) (ht.later (ba (Below.refl _ _)))
  rw [c1] at h
  exact h
theorem C2 (X : World) (b : Nat) (hb : b = X.heap.size) (ht : Tab X) : Calls Tryz.prog 18 #[.slice none 0 0, .agg #[.string { data := #[] }, .slice (some ⟨b, 0, none⟩) 3 3]] (X.alloc (.cells (#[.int .i64 3600, .int .i64 1, .int .i64 3600, .string { data := #[] }, .string { data := #[88] }, .bool true, .int .i64 1950, .int .i64 1, .int .i64 0, .int .i64 0, .int .i64 1, .int .i64 0, .int .i64 0, .int .i64 3600, .int .i64 0, .int .i64 0, .string { data := #[] }, .string { data := #[88] }, .bool true, .int .i64 1950, .int .i64 1, .int .i64 0, .int .i64 0, .int .i64 1, .int .i64 0, .int .i64 0, .int .i64 0, .int .i64 0, .int .i64 0, .string { data := #[] }, .string { data := #[89] }, .bool false, .int .i64 0, .int .i64 0, .int .i64 0, .int .i64 0, .int .i64 0, .int .i64 0, .int .i64 0] : Array Value) 30)) fun x w' => x = .returned (.tuple #[.int .i64 1, .int .i64 15]) ∧ Below (X.alloc (.cells (#[.int .i64 3600, .int .i64 1, .int .i64 3600, .string { data := #[] }, .string { data := #[88] }, .bool true, .int .i64 1950, .int .i64 1, .int .i64 0, .int .i64 0, .int .i64 1, .int .i64 0, .int .i64 0, .int .i64 3600, .int .i64 0, .int .i64 0, .string { data := #[] }, .string { data := #[88] }, .bool true, .int .i64 1950, .int .i64 1, .int .i64 0, .int .i64 0, .int .i64 1, .int .i64 0, .int .i64 0, .int .i64 0, .int .i64 0, .int .i64 0, .string { data := #[] }, .string { data := #[89] }, .bool false, .int .i64 0, .int .i64 0, .int .i64 0, .int .i64 0, .int .i64 0, .int .i64 0, .int .i64 0] : Array Value) 30)).heap.size (X.alloc (.cells (#[.int .i64 3600, .int .i64 1, .int .i64 3600, .string { data := #[] }, .string { data := #[88] }, .bool true, .int .i64 1950, .int .i64 1, .int .i64 0, .int .i64 0, .int .i64 1, .int .i64 0, .int .i64 0, .int .i64 3600, .int .i64 0, .int .i64 0, .string { data := #[] }, .string { data := #[88] }, .bool true, .int .i64 1950, .int .i64 1, .int .i64 0, .int .i64 0, .int .i64 1, .int .i64 0, .int .i64 0, .int .i64 0, .int .i64 0, .int .i64 0, .string { data := #[] }, .string { data := #[89] }, .bool false, .int .i64 0, .int .i64 0, .int .i64 0, .int .i64 0, .int .i64 0, .int .i64 0, .int .i64 0] : Array Value) 30)) w' := by
  have h := Unt.Check (nilR _) (eraNew X [eF, eE, eH] (#[.int .i64 3600, .int .i64 1, .int .i64 3600, .string { data := #[] }, .string { data := #[88] }, .bool true, .int .i64 1950, .int .i64 1, .int .i64 0, .int .i64 0, .int .i64 1, .int .i64 0, .int .i64 0, .int .i64 3600, .int .i64 0, .int .i64 0, .string { data := #[] }, .string { data := #[88] }, .bool true, .int .i64 1950, .int .i64 1, .int .i64 0, .int .i64 0, .int .i64 1, .int .i64 0, .int .i64 0, .int .i64 0, .int .i64 0, .int .i64 0, .string { data := #[] }, .string { data := #[89] }, .bool false, .int .i64 0, .int .i64 0, .int .i64 0, .int .i64 0, .int .i64 0, .int .i64 0, .int .i64 0] : Array Value) 30 3 3 b rfl rfl (by intro e he; simp only [List.mem_cons, List.not_mem_nil, or_false] at he; rcases he with rfl | rfl | rfl <;> first | exact fit_eE | exact fit_eF | exact fit_eH) (by decide) hb) ⟨#[]⟩ (by decide) (ht.later (ba (Below.refl _ _)))
  rw [c2] at h
  exact h
theorem C4 (X : World) (b : Nat) (hb : b = X.heap.size) (ht : Tab X) {r : Value} (hr : Holds X r [Us.us0, Us.us1]) : Calls Tryz.prog 18 #[r, .agg #[.string { data := #[] }, .slice (some ⟨b, 0, none⟩) 2 2]] (X.alloc (.cells (#[.int .i64 (-18000), .int .i64 2, .int .i64 0, .string { data := #[85, 83] }, .string { data := #[69, 37, 115, 84] }, .bool true, .int .i64 2024, .int .i64 11, .int .i64 0, .int .i64 0, .int .i64 4, .int .i64 0, .int .i64 0, .int .i64 0, .int .i64 0, .int .i64 0, .string { data := #[] }, .string { data := #[89] }, .bool false, .int .i64 0, .int .i64 0, .int .i64 0, .int .i64 0, .int .i64 0, .int .i64 0, .int .i64 0] : Array Value) 30)) fun x w' => x = .returned (.tuple #[.int .i64 0, .int .i64 15]) ∧ Below (X.alloc (.cells (#[.int .i64 (-18000), .int .i64 2, .int .i64 0, .string { data := #[85, 83] }, .string { data := #[69, 37, 115, 84] }, .bool true, .int .i64 2024, .int .i64 11, .int .i64 0, .int .i64 0, .int .i64 4, .int .i64 0, .int .i64 0, .int .i64 0, .int .i64 0, .int .i64 0, .string { data := #[] }, .string { data := #[89] }, .bool false, .int .i64 0, .int .i64 0, .int .i64 0, .int .i64 0, .int .i64 0, .int .i64 0, .int .i64 0] : Array Value) 30)).heap.size (X.alloc (.cells (#[.int .i64 (-18000), .int .i64 2, .int .i64 0, .string { data := #[85, 83] }, .string { data := #[69, 37, 115, 84] }, .bool true, .int .i64 2024, .int .i64 11, .int .i64 0, .int .i64 0, .int .i64 4, .int .i64 0, .int .i64 0, .int .i64 0, .int .i64 0, .int .i64 0, .string { data := #[] }, .string { data := #[89] }, .bool false, .int .i64 0, .int .i64 0, .int .i64 0, .int .i64 0, .int .i64 0, .int .i64 0, .int .i64 0] : Array Value) 30)) w' := by
  have h := Unt.Check (hr.later (ba (Below.refl _ _))) (eraNew X [eX, eH] (#[.int .i64 (-18000), .int .i64 2, .int .i64 0, .string { data := #[85, 83] }, .string { data := #[69, 37, 115, 84] }, .bool true, .int .i64 2024, .int .i64 11, .int .i64 0, .int .i64 0, .int .i64 4, .int .i64 0, .int .i64 0, .int .i64 0, .int .i64 0, .int .i64 0, .string { data := #[] }, .string { data := #[89] }, .bool false, .int .i64 0, .int .i64 0, .int .i64 0, .int .i64 0, .int .i64 0, .int .i64 0, .int .i64 0] : Array Value) 30 2 2 b rfl rfl (by intro e he; simp only [List.mem_cons, List.not_mem_nil, or_false] at he; rcases he with rfl | rfl <;> first | exact fit_eH | exact fit_eX) (by decide) hb) ⟨#[]⟩ (by decide) (ht.later (ba (Below.refl _ _)))
  rw [c4] at h
  exact h
theorem C5 (X : World) (b : Nat) (hb : b = X.heap.size) (ht : Tab X) {r : Value} (hr : Holds X r [Us.us0, Us.us1]) : Calls Tryz.prog 18 #[r, .agg #[.string { data := #[] }, .slice (some ⟨b, 0, none⟩) 2 2]] (X.alloc (.cells (#[.int .i64 (-18000), .int .i64 2, .int .i64 0, .string { data := #[85, 83] }, .string { data := #[69, 37, 115, 84] }, .bool true, .int .i64 2024, .int .i64 11, .int .i64 0, .int .i64 0, .int .i64 3, .int .i64 0, .int .i64 0, .int .i64 0, .int .i64 0, .int .i64 0, .string { data := #[] }, .string { data := #[89] }, .bool false, .int .i64 0, .int .i64 0, .int .i64 0, .int .i64 0, .int .i64 0, .int .i64 0, .int .i64 0] : Array Value) 30)) fun x w' => x = .returned (.tuple #[.int .i64 (-1), .int .i64 0]) ∧ Below (X.alloc (.cells (#[.int .i64 (-18000), .int .i64 2, .int .i64 0, .string { data := #[85, 83] }, .string { data := #[69, 37, 115, 84] }, .bool true, .int .i64 2024, .int .i64 11, .int .i64 0, .int .i64 0, .int .i64 3, .int .i64 0, .int .i64 0, .int .i64 0, .int .i64 0, .int .i64 0, .string { data := #[] }, .string { data := #[89] }, .bool false, .int .i64 0, .int .i64 0, .int .i64 0, .int .i64 0, .int .i64 0, .int .i64 0, .int .i64 0] : Array Value) 30)).heap.size (X.alloc (.cells (#[.int .i64 (-18000), .int .i64 2, .int .i64 0, .string { data := #[85, 83] }, .string { data := #[69, 37, 115, 84] }, .bool true, .int .i64 2024, .int .i64 11, .int .i64 0, .int .i64 0, .int .i64 3, .int .i64 0, .int .i64 0, .int .i64 0, .int .i64 0, .int .i64 0, .string { data := #[] }, .string { data := #[89] }, .bool false, .int .i64 0, .int .i64 0, .int .i64 0, .int .i64 0, .int .i64 0, .int .i64 0, .int .i64 0] : Array Value) 30)) w' := by
  have h := Unt.Check (hr.later (ba (Below.refl _ _))) (eraNew X [eX3, eH] (#[.int .i64 (-18000), .int .i64 2, .int .i64 0, .string { data := #[85, 83] }, .string { data := #[69, 37, 115, 84] }, .bool true, .int .i64 2024, .int .i64 11, .int .i64 0, .int .i64 0, .int .i64 3, .int .i64 0, .int .i64 0, .int .i64 0, .int .i64 0, .int .i64 0, .string { data := #[] }, .string { data := #[89] }, .bool false, .int .i64 0, .int .i64 0, .int .i64 0, .int .i64 0, .int .i64 0, .int .i64 0, .int .i64 0] : Array Value) 30 2 2 b rfl rfl (by intro e he; simp only [List.mem_cons, List.not_mem_nil, or_false] at he; rcases he with rfl | rfl <;> first | exact fit_eH | exact fit_eX3) (by decide) hb) ⟨#[]⟩ (by decide) (ht.later (ba (Below.refl _ _)))
  rw [c5] at h
  exact h
theorem C3 (X : World) (ht : Tab X) : Calls Tryz.prog 18 #[.slice none 0 0, .agg #[.string { data := #[] }, .slice none 0 0]] X fun x w' => x = .returned (.tuple #[.int .i64 (-1), .int .i64 4]) ∧ Below X.heap.size X w' := by
  have h := Unt.Check (nilR X) (nilE X) ⟨#[]⟩ (by decide) ht
  rw [c3] at h
  exact h
theorem I1 (X : World) (ht : Tab X) : Calls Tryz.prog 14 #[.slice none 0 0, .agg #[.int .i64 3600, .int .i64 0, .int .i64 0, .string { data := #[] }, .string { data := #[88] }, .bool true, .int .i64 1950, .int .i64 1, .int .i64 0, .int .i64 0, .int .i64 1, .int .i64 0, .int .i64 0]] X fun x w' => x = .returned (.tuple #[.int .i64 (-631155600), .int .i64 0]) ∧ Below X.heap.size X w' := by
  have h := Unt.Instant (nilR X) eE fit_eE ht
  rw [i1] at h
  exact h
theorem I2 (X : World) (ht : Tab X) : Calls Tryz.prog 14 #[.slice none 0 0, .agg #[.int .i64 3600, .int .i64 1, .int .i64 3600, .string { data := #[] }, .string { data := #[88] }, .bool true, .int .i64 1950, .int .i64 1, .int .i64 0, .int .i64 0, .int .i64 1, .int .i64 0, .int .i64 0]] X fun x w' => x = .returned (.tuple #[.int .i64 (-631159200), .int .i64 0]) ∧ Below X.heap.size X w' := by
  have h := Unt.Instant (nilR X) eF fit_eF ht
  rw [i2] at h
  exact h
theorem I3 (X : World) (ht : Tab X) : Calls Tryz.prog 14 #[.slice none 0 0, .agg #[.int .i64 3600, .int .i64 1, .int .i64 3600, .string { data := #[] }, .string { data := #[88] }, .bool true, .int .i64 1950, .int .i64 1, .int .i64 0, .int .i64 0, .int .i64 1, .int .i64 0, .int .i64 1]] X fun x w' => x = .returned (.tuple #[.int .i64 (-631155600), .int .i64 0]) ∧ Below X.heap.size X w' := by
  have h := Unt.Instant (nilR X) eG fit_eG ht
  rw [i3] at h
  exact h
theorem I4 (X : World) (ht : Tab X) : Calls Tryz.prog 14 #[.slice none 0 0, .agg #[.int .i64 0, .int .i64 0, .int .i64 0, .string { data := #[] }, .string { data := #[89] }, .bool false, .int .i64 0, .int .i64 0, .int .i64 0, .int .i64 0, .int .i64 0, .int .i64 0, .int .i64 0]] X fun x w' => x = .returned (.tuple #[.int .i64 0, .int .i64 12]) ∧ Below X.heap.size X w' := by
  have h := Unt.Instant (nilR X) eH fit_eH ht
  rw [i4] at h
  exact h
theorem I5 (X : World) (ht : Tab X) : Calls Tryz.prog 14 #[.slice none 0 0, .agg #[.int .i64 0, .int .i64 0, .int .i64 0, .string { data := #[] }, .string { data := #[] }, .bool false, .int .i64 0, .int .i64 0, .int .i64 0, .int .i64 0, .int .i64 0, .int .i64 0, .int .i64 0]] X fun x w' => x = .returned (.tuple #[.int .i64 0, .int .i64 4]) ∧ Below X.heap.size X w' := by
  have h := Unt.Instant (nilR X) eZ fit_eZ ht
  rw [i5] at h
  exact h
theorem N1 (X : World) (ht : Tab X) : Calls Tryz.prog 12 #[.agg #[.bool true, .int .i64 1950, .int .i64 1, .int .i64 0, .int .i64 0, .int .i64 1, .int .i64 0, .int .i64 0]] X fun x w' => x = .returned (.tuple #[.int .i64 (-631152000), .int .i64 0]) ∧ Below X.heap.size X w' := by
  have h := Unt.Nom u1 fit_u1 X ht
  rw [n1] at h
  exact h
theorem N2 (X : World) (ht : Tab X) : Calls Tryz.prog 12 #[.agg #[.bool false, .int .i64 0, .int .i64 0, .int .i64 0, .int .i64 0, .int .i64 0, .int .i64 0, .int .i64 0]] X fun x w' => x = .returned (.tuple #[.int .i64 0, .int .i64 12]) ∧ Below X.heap.size X w' := by
  have h := Unt.Nom u0 fit_u0 X ht
  rw [n2] at h
  exact h
theorem N3 (X : World) (ht : Tab X) : Calls Tryz.prog 12 #[.agg #[.bool true, .int .i64 0, .int .i64 0, .int .i64 0, .int .i64 0, .int .i64 0, .int .i64 0, .int .i64 0]] X fun x w' => x = .returned (.tuple #[.int .i64 0, .int .i64 4]) ∧ Below X.heap.size X w' := by
  have h := Unt.Nom u8 fit_u8 X ht
  rw [n3] at h
  exact h
end L28
end Go.Proofs.YtkpjhgkmjcdobaaGreatDoor
