import Derived.Test.YtcfmchpoclkpgaaRuleS
namespace Go.Proofs.Ytcfmchpoclkpgaa
open Go.RowKit NB
/-- n elements of sz cells each lie at block b from off on -/
def Lies (w : World) (b off sz : Nat) (cells : List (List Value)) : Prop := ∀ (i j : Nat) (cs : List Value) (v : Value), cells[i]? = some cs → cs[j]? = some v → w.cell? ⟨b, off + i * sz + j, none⟩ = some v
namespace Lgt
def lightR (r : RuleV) : Bool := decide (r.name.size ≤ 200) && decide (r.letter.size ≤ 200)
def light (l : List RuleV) : Bool := decide (l.length ≤ 12) && l.all lightR
theorem all_take_succ {α : Type} {p : α → Bool} {l : List α} {k : Nat} {r : α} (hr : l[k]? = some r) (h : (l.take k).all p = true) (hp : p r = true) : (l.take (k + 1)).all p = true := by
  rw [List.take_add_one, hr]
  simp only [Option.toList_some, List.all_append, List.all_cons, List.all_nil, Bool.and_true, Bool.and_eq_true]
  exact ⟨h, hp⟩
theorem all_false {α : Type} {p : α → Bool} {l : List α} {k : Nat} {r : α} (hr : l[k]? = some r) (hp : p r = false) : l.all p = false := by
  rw [Bool.eq_false_iff]
  intro h
  have := List.all_eq_true.mp h r (List.mem_of_getElem? hr)
  rw [hp] at this
  cases this
def Post (b : Bool) (w : World) (e : Ending) (w' : World) : Prop := e = .returned (.bool b) ∧ Below w.heap.size w w'
theorem LightNil (w : World) : Calls Try.prog 36 #[.slice none 0 0] w (Post true w) := by
  go_enter Try.func36, Try.ntmps36
  go_wp2
  go_loopw [10] (fun i wr => i = .int .i64 0 ∧ Below w.heap.size w wr) (fun i _ => 0)
  case atStart => exact ⟨rfl, Below.refl _ _⟩
  case round =>
    obtain ⟨rfl, hbel⟩ := hrel
    go_wp2
    go_ret
    exact ⟨rfl, hbel⟩
set_option maxHeartbeats 800000 in
theorem Light (b off cap : Nat) (l : List RuleV) (w : World) (hc : Lies w b off 11 (l.map RuleV.cells)) (hb : b < w.heap.size) (hcap : l.length ≤ 9223372036854775807) (hs : ∀ r ∈ l, r.Fit) : Calls Try.prog 36 #[.slice (some ⟨b, off, none⟩) l.length cap] w (Post (light l) w) := by
  have Hc := Lib.hid hc; clear hc
  have Hs := Lib.hid hs; clear hs
  by_cases hn : l.length ≤ 12
  · have hL : light l = l.all lightR := by unfold light; rw [decide_eq_true hn]; rfl
    rw [hL]
    clear hL
    generalize hN : l.length = n at hn hcap
    have HN := Lib.hid hN; clear hN
    go_enter Try.func36, Try.ntmps36
    go_wp2
    go_loopw [10] (fun i wr => ∃ k : Nat, k ≤ n ∧ i = .int .i64 k ∧ ((l.take k).all lightR) = true ∧ Below w.heap.size w wr) (fun i _ => n - (intOf i).toNat)
    case atStart => exact ⟨0, Nat.zero_le _, rfl, rfl, Below.refl _ _⟩
    case round =>
      obtain ⟨k, hk, rfl, hall, hbel⟩ := hrel
      have Hall := Lib.hid hall; clear hall
      by_cases hlt : k < n
      · have hbs := hbel.size
        obtain ⟨r, hr⟩ : ∃ r, l[k]? = some r := ⟨l[k]'(by rw [HN.out]; exact hlt), by simp⟩
        have Hbel := Lib.hid hbel; clear hbel
        have c (j : Nat) (v : Value) (hv : r.cells[j]? = some v) : wr.cell? ⟨b, off + k * 11 + j, none⟩ = some v := by
          rw [Hbel.out.cell (p := ⟨b, off + k * 11 + j, none⟩) hb]
          exact Hc.out k j _ v (by rw [List.getElem?_map, hr]; rfl) hv
        have c0 := c 0 _ rfl
        have c1 := c 1 _ rfl
        have c2 := c 2 _ rfl
        have c3 := c 3 _ rfl
        have c4 := c 4 _ rfl
        have c5 := c 5 _ rfl
        have c6 := c 6 _ rfl
        have c7 := c 7 _ rfl
        have c8 := c 8 _ rfl
        have c9 := c 9 _ rfl
        have c10 := c 10 _ rfl
        simp only [Nat.add_zero] at c0
        clear c
        have hs1 := (Hs.out r (List.mem_of_getElem? hr)).n
        have hs2 := (Hs.out r (List.mem_of_getElem? hr)).l
        have Hr := Lib.hid hr; clear hr
        go_wp2
        all_goals first
          | (
            refine ⟨⟨k + 1, hlt, rfl, all_take_succ Hr.out Hall.out ?_, Hbel.out.alloc hbs _⟩, (by simp [intOf]; omega)⟩
            unfold lightR
            rw [Bool.and_eq_true, decide_eq_true_eq, decide_eq_true_eq]
            omega)
          | (
            go_ret
            refine ⟨ret_bool (all_false Hr.out ?_).symm, Hbel.out.alloc hbs _⟩
            unfold lightR
            rw [Bool.and_eq_false_iff, decide_eq_false_iff_not, decide_eq_false_iff_not]
            omega)
      · go_wp2
        go_ret
        refine ⟨ret_bool ?_, hbel⟩
        have := Hall.out
        rw [List.take_of_length_le (by rw [HN.out]; omega)] at this
        exact this.symm
  · have hL : light l = false := by unfold light; rw [decide_eq_false hn]; rfl
    rw [hL]
    clear hL
    generalize l.length = n at hn hcap
    go_enter Try.func36, Try.ntmps36
    go_wp2
    go_ret
    exact ⟨rfl, Below.refl _ _⟩
end Lgt
end Go.Proofs.Ytcfmchpoclkpgaa
