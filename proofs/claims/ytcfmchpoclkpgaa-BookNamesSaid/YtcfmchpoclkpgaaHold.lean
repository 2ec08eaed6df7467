/-
  A slice of rules, whole: nil, empty, or in a block.
-/
import Derived.Test.YtcfmchpoclkpgaaNC
import Derived.Test.YtcfmchpoclkpgaaLight
import Derived.Test.YtcfmchpoclkpgaaOpen
import Derived.Deep.Slices
import Derived.SizedLaws
namespace Go.Proofs.Ytcfmchpoclkpgaa
open Go.RowKit NB
/-- A slice value that holds such rules. -/
structure Holds (w : World) (v : Value) (l : List RuleV) : Prop where
  lies : (∃ p cap, v = .slice p 0 cap ∧ l = []) ∨ (∃ b off cap, v = .slice (some ⟨b, off, none⟩) l.length cap ∧ b < w.heap.size ∧ Lies w b off 11 (l.map RuleV.cells))
  fit : ∀ r ∈ l, r.Fit
  len : l.length ≤ 9223372036854775807
theorem Holds.later {w w' : World} {v : Value} {l : List RuleV} (h : Holds w v l) (hb : Below w.heap.size w w') : Holds w' v l := by
  refine ⟨?_, h.fit, h.len⟩
  rcases h.lies with h1 | ⟨b, off, cap, h1, h2, h3⟩
  · exact .inl h1
  · refine .inr ⟨b, off, cap, h1, Nat.lt_of_lt_of_le h2 hb.size, fun i j cs v hi hj => ?_⟩
    rw [hb.cell (p := ⟨b, off + i * 11 + j, none⟩) h2]
    exact h3 i j cs v hi hj
theorem Holds.form {w : World} {v : Value} {l : List RuleV} (h : Holds w v l) : ∃ p cap, v = .slice p l.length cap := by
  rcases h.lies with ⟨p, cap, h1, h2⟩ | ⟨b, off, cap, h1, _, _⟩
  · exact ⟨p, cap, by rw [h1, h2]; rfl⟩
  · exact ⟨_, cap, h1⟩
namespace Lgt
theorem LightE (p : Option Addr) (cap : Nat) (w : World) : Calls Try.prog 36 #[.slice p 0 cap] w (Post true w) := by
  go_enter Try.func36, Try.ntmps36
  go_wp2
  go_loopw [10] (fun i wr => i = .int .i64 0 ∧ Below w.heap.size w wr) (fun i _ => 0)
  case atStart => exact ⟨rfl, Below.refl _ _⟩
  case round =>
    obtain ⟨rfl, hbel⟩ := hrel
    go_wp2
    go_ret
    exact ⟨rfl, hbel⟩
theorem LightH {w : World} {v : Value} {l : List RuleV} (h : Holds w v l) : Calls Try.prog 36 #[v] w fun e w' => e = .returned (.bool (light l)) ∧ Below w.heap.size w w' := by
  rcases h.lies with ⟨p, cap, rfl, rfl⟩ | ⟨b, off, cap, rfl, h2, h3⟩
  · exact LightE p cap w
  · exact Light b off cap l w h3 h2 h.len h.fit
theorem light_len {l : List RuleV} (h : light l = true) : l.length ≤ 12 := by
  unfold light at h
  simp only [Bool.and_eq_true, decide_eq_true_eq] at h
  exact h.1
end Lgt
section
variable {H : Type} {enc : TypeId × Value → H} {w : World} {base : Nat} {spare : Nat → Bool} {held : Bool}
theorem addr_add (b off n : Nat) : (⟨b, off, none⟩ : Addr).add n = ⟨b, off + n, none⟩ := by unfold Addr.add; split <;> simp_all
theorem info_cells {a : Addr} {n : Nat} {cs : List Value} (h : w.cells? base a n = some cs) (hn : 0 < n) : a.spot = none ∧ a.block < w.heap.size := by
  obtain ⟨_, hlen, hcell⟩ := World.cells?_some h
  obtain ⟨v, hv⟩ : ∃ v, cs[0]? = some v := ⟨cs[0]'(by omega), List.getElem?_eq_getElem (by omega)⟩
  have h0 := hcell 0 hn
  have h1 : w.cell? a ≠ none := by
    intro hc
    have : (a.add 0) = a := by unfold Addr.add; simp
    rw [this, hc] at h0
    rw [← h0] at hv
    cases hv
  unfold World.cell? at h1
  cases hh : w.heap[a.block]? with
  | none => rw [hh] at h1; exact absurd rfl h1
  | some o =>
    refine ⟨?_, (Array.getElem?_eq_some_iff.1 hh).1⟩
    rw [hh] at h1
    cases o with
    | cells c t f =>
      simp only at h1
      cases hs : a.spot with
      | none => rfl
      | some x => rw [hs] at h1; simp at h1
    | _ => exact absurd rfl h1
theorem rules_open {fuel : Nat} {cs : List Value} {x : DataW H × List MemPlace} (h : DataW.trod enc Try.prog w base spare held fuel 22 cs = some x) : ∃ (v : Value) (l : List RuleV), cs = [v] ∧ Holds w v l ∧ (l = [] ∨ ∃ es sp, x.1 = .slice es sp ∧ es.length = l.length) := by
  rcases Deep.open_slice Try.underlying22 h with ⟨rfl, _⟩ | ⟨a, len, cap, m, n, D, Pl, rfl, hb, hl, hm, hmm, hxx, hx⟩
  · exact ⟨_, [], rfl, ⟨.inl ⟨_, _, rfl, rfl⟩, by simp, by simp⟩, .inl rfl⟩
  · have hlm : len ≤ m := by rw [hmm]; split <;> omega
    have each : ∀ i, i < m → ∃ r : RuleV, w.cells? base (a.add (i * 11)) 11 = some r.cells ∧ r.Fit := by
      intro i hi
      obtain ⟨cs', h1, h2⟩ := hx i hi
      obtain ⟨r, rfl, hf⟩ := rule_cells h2
      rw [c27] at h1
      exact ⟨r, h1, hf⟩
    by_cases h0 : len = 0
    · subst h0
      exact ⟨_, [], rfl, ⟨.inl ⟨_, _, rfl, rfl⟩, by simp, by simp⟩, .inl rfl⟩
    · obtain ⟨q, hq⟩ : ∃ q : Nat → RuleV, ∀ i, i < m → w.cells? base (a.add (i * 11)) 11 = some (q i).cells ∧ (q i).Fit :=
        ⟨fun i => if hi : i < m then (each i hi).choose else ⟨⟨#[]⟩, 0, 0, 0, 0, 0, 0, 0, 0, 0, ⟨#[]⟩⟩, fun i hi => by simp only [dif_pos hi]; exact (each i hi).choose_spec⟩
      obtain ⟨ha, hab⟩ := info_cells (hq 0 (by omega)).1 (by decide)
      have ha' : a = ⟨a.block, a.off, none⟩ := by
        have : (a.add (0 * 11)).spot = a.spot := by simp [Addr.add]
        rw [this] at ha
        cases a
        simp only at ha
        rw [ha]
      have hab' : a.block < w.heap.size := by
        have : (a.add (0 * 11)).block = a.block := by simp [Addr.add]
        rwa [this] at hab
      refine ⟨_, (List.range len).map q, rfl, ⟨.inr ⟨a.block, a.off, cap, by rw [← ha']; simp, hab', ?_⟩, ?_, by simp; unfold maxLen at hm; omega⟩, .inr ⟨_, _, by rw [hxx], by simp⟩⟩
      · intro i j c v hi hj
        rw [List.map_map, List.getElem?_map] at hi
        cases hr : (List.range len)[i]? with
        | none => rw [hr] at hi; cases hi
        | some k =>
          rw [hr] at hi
          cases hi
          obtain ⟨hk, rfl⟩ := List.getElem?_eq_some_iff.1 hr
          rw [List.length_range] at hk
          simp only [List.getElem_range] at hj ⊢
          obtain ⟨_, hlen, hcell⟩ := World.cells?_some (hq i (by omega)).1
          have hj11 : j < 11 := by
            have := (List.getElem?_eq_some_iff.1 hj).1
            exact this
          have := hcell j hj11
          rw [Deep.add_add] at this
          have he : a.add (i * 11 + j) = ⟨a.block, a.off + i * 11 + j, none⟩ := by
            rw [Nat.add_assoc]
            conv => lhs; rw [ha']
            exact addr_add _ _ _
          rw [he] at this
          rw [this]
          exact hj
      · intro r hr
        rw [List.mem_map] at hr
        obtain ⟨i, hi, rfl⟩ := hr
        exact (hq i (by rw [List.mem_range] at hi; omega)).2
theorem bytes_rule : Try.prog.bytesOf 68 = 104 := by kernel_rfl
theorem rules_sized {ts : List TypeId} {ds : List (DataW H)} {l : List RuleV} {d : DataW H} {j : Nat} (hz : l = [] ∨ ∃ es sp, d = .slice es sp ∧ es.length = l.length) (hr : (DataW.weightsEach Try.prog ts ds).all (· ≤ reachBytes) = true) (ht : ts[j]? = some 22) (hd : ds[j]? = some d) : l.length * 104 ≤ 140737488355328 := by
  rcases hz with rfl | ⟨es, sp, rfl, he⟩
  · simp
  · have := sized_slice hr ht hd Try.underlying22
    rw [bytes_rule, he] at this
    have h2 : reachBytes = 140737488351232 := rfl
    rw [h2] at this
    omega
end
end Go.Proofs.Ytcfmchpoclkpgaa
