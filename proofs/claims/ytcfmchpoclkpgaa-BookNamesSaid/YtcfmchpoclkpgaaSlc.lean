/-
  A slice of structs, whole: nil, empty, or in a block; opened out of an argument; one that the call owns.
-/
import Derived.Test.YtcfmchpoclkpgaaNC
import Derived.Test.YtcfmchpoclkpgaaLight
import Derived.Test.YtcfmchpoclkpgaaOpen
import Derived.Test.YtcfmchpoclkpgaaHold
import Derived.Deep.Slices
import Derived.SizedLaws
import Derived.Laws.AppendOwn
namespace Go.Proofs.Ytcfmchpoclkpgaa
open Go.RowKit NB
/-- A slice value that holds such structs, of k cells each. -/
structure HoldsG {α : Type} (k : Nat) (f : α → List Value) (w : World) (v : Value) (l : List α) : Prop where
  lies : (∃ p cap, v = .slice p 0 cap ∧ l = []) ∨ (∃ b off cap, v = .slice (some ⟨b, off, none⟩) l.length cap ∧ b < w.heap.size ∧ Lies w b off k (l.map f))
  len : l.length ≤ 9223372036854775807
namespace HoldsG
variable {α : Type} {k : Nat} {f : α → List Value} {w w' : World} {v : Value} {l : List α}
theorem later (h : HoldsG k f w v l) (hb : Below w.heap.size w w') : HoldsG k f w' v l := by
  refine ⟨?_, h.len⟩
  rcases h.lies with h1 | ⟨b, off, cap, h1, h2, h3⟩
  · exact .inl h1
  · refine .inr ⟨b, off, cap, h1, Nat.lt_of_lt_of_le h2 hb.size, fun i j cs v hi hj => ?_⟩
    rw [hb.cell (p := ⟨b, off + i * k + j, none⟩) h2]
    exact h3 i j cs v hi hj
theorem form (h : HoldsG k f w v l) : ∃ p cap, v = .slice p l.length cap := by
  rcases h.lies with ⟨p, cap, h1, h2⟩ | ⟨b, off, cap, h1, _, _⟩
  · exact ⟨p, cap, by rw [h1, h2]; rfl⟩
  · exact ⟨_, cap, h1⟩
/-- behind a world that lets the slice's block be -/
theorem keep (h : HoldsG k f w v l) (hsz : w.heap.size ≤ w'.heap.size) (hb : ∀ b, v.ownBlock = some b → b < w.heap.size → w'.heap[b]? = w.heap[b]?) : HoldsG k f w' v l := by
  refine ⟨?_, h.len⟩
  rcases h.lies with h1 | ⟨b, off, cap, h1, h2, h3⟩
  · exact .inl h1
  · refine .inr ⟨b, off, cap, h1, Nat.lt_of_lt_of_le h2 hsz, fun i j cs v hi hj => ?_⟩
    rw [World.cell?_of_block (w := w) (hb b (by rw [h1]; rfl) h2)]
    exact h3 i j cs v hi hj
end HoldsG
theorem flatG_at {α : Type} {k : Nat} {f : α → List Value} (hf : ∀ x, (f x).length = k) : ∀ (l : List α) (i j : Nat) (x : α) (u : Value), l[i]? = some x → (f x)[j]? = some u → (l.flatMap f)[i * k + j]? = some u
  | [], i, j, x, u, h, _ => by simp at h
  | y :: r, 0, j, x, u, h, hu => by
    simp at h; subst h
    rw [List.flatMap_cons, Nat.zero_mul, Nat.zero_add, List.getElem?_append_left (List.getElem?_eq_some_iff.1 hu).1]
    exact hu
  | y :: r, i + 1, j, x, u, h, hu => by
    rw [List.flatMap_cons, List.getElem?_append_right (by rw [hf, Nat.add_mul]; omega), hf, show (i + 1) * k + j - k = i * k + j by rw [Nat.add_mul]; omega]
    exact flatG_at hf r i j x u (by simpa using h) hu
theorem flatG_len {α : Type} {k : Nat} {f : α → List Value} (hf : ∀ x, (f x).length = k) : ∀ (l : List α), (l.flatMap f).length = l.length * k
  | [] => by simp
  | y :: r => by rw [List.flatMap_cons, List.length_append, hf, flatG_len hf r, List.length_cons, Nat.add_mul]; omega
theorem flatG_inv {α : Type} {k : Nat} {f : α → List Value} (hf : ∀ x, (f x).length = k) (hk : 0 < k) {l : List α} {j : Nat} {u : Value} (h : (l.flatMap f)[j]? = some u) : ∃ x, l[j / k]? = some x ∧ (f x)[j % k]? = some u := by
  have hj := (List.getElem?_eq_some_iff.1 h).1
  rw [flatG_len hf] at hj
  have hi : j / k < l.length := Nat.div_lt_of_lt_mul (by rwa [Nat.mul_comm] at hj)
  obtain ⟨x, hx⟩ : ∃ x, l[j / k]? = some x := ⟨l[j / k], by simp⟩
  have hc : j % k < (f x).length := by rw [hf]; exact Nat.mod_lt _ hk
  have := flatG_at hf l (j / k) (j % k) x _ hx (List.getElem?_eq_getElem hc)
  rw [Nat.div_add_mod' j k, h] at this
  exact ⟨x, hx, by rw [List.getElem?_eq_getElem hc]; exact this.symm⟩
theorem flatG_one {α : Type} {f : α → List Value} (h1 : ∀ x, ∀ u ∈ f x, u.oneCell' = true) (l : List α) : ∀ u ∈ l.flatMap f, u.oneCell' = true := by
  intro u hu
  obtain ⟨x, _, hx⟩ := List.mem_flatMap.1 hu
  exact h1 x u hx
theorem HoldsG.of_own {α : Type} {k : Nat} {f : α → List Value} (hf : ∀ x, (f x).length = k) {w : World} {base e : Nat} {v : Value} {l : List α} (h : w.ownsRow base e k v l.length (l.flatMap f)) : HoldsG k f w v l := by
  rcases h.2 with ⟨rfl, hn⟩ | ⟨g, cap, cur, rfl, hb, hg, hnc, hcm, hsz, htk⟩
  · exact ⟨.inl ⟨_, _, by rw [List.eq_nil_of_length_eq_zero hn]; exact ⟨rfl, rfl⟩⟩, by omega⟩
  · refine ⟨.inr ⟨g, 0, cap, rfl, (Array.getElem?_eq_some_iff.1 hg).1, fun i j cs u hi hj => ?_⟩, by unfold maxLen at hcm; omega⟩
    rw [List.getElem?_map] at hi
    cases hx : l[i]? with
    | none => rw [hx] at hi; cases hi
    | some x =>
      rw [hx] at hi
      cases hi
      rw [Nat.zero_add]
      exact h.cells (g := g) rfl (i * k + j) u (flatG_at hf l i j x u hx hj) |> fun e => by
        rw [addr_add, Nat.zero_add] at e
        exact e
section
variable {H : Type} {enc : TypeId × Value → H} {w : World} {base : Nat} {spare : Nat → Bool} {held : Bool}
theorem slice_open {α : Type} [Inhabited α] {k : Nat} {f : α → List Value} {F : α → Prop} (hf : ∀ x, (f x).length = k) (hk0 : 0 < k) {T E : TypeId} (hu : Try.prog.underlying T = some (.slice E)) (hk : Try.prog.cellsOf E = k)
    (el : ∀ {fuel : Nat} {cs : List Value} {x : DataW H × List MemPlace}, DataW.trod enc Try.prog w base spare held fuel E cs = some x → ∃ a : α, cs = f a ∧ F a)
    {fuel : Nat} {cs : List Value} {x : DataW H × List MemPlace} (h : DataW.trod enc Try.prog w base spare held fuel T cs = some x) :
    ∃ (v : Value) (l : List α), cs = [v] ∧ (HoldsG k f w v l ∧ ∀ a ∈ l, F a) ∧ (l = [] ∨ ∃ es sp, x.1 = .slice es sp ∧ es.length = l.length) := by
  rcases Deep.open_slice hu h with ⟨rfl, _⟩ | ⟨a, len, cap, m, n, D, Pl, rfl, hb, hl, hm, hmm, hxx, hx⟩
  · exact ⟨_, [], rfl, ⟨⟨.inl ⟨_, _, rfl, rfl⟩, by simp⟩, by simp⟩, .inl rfl⟩
  · rw [hk] at hx
    have hlm : len ≤ m := by rw [hmm]; split <;> omega
    have each : ∀ i, i < m → ∃ r : α, w.cells? base (a.add (i * k)) k = some (f r) ∧ F r := by
      intro i hi
      obtain ⟨cs', h1, h2⟩ := hx i hi
      obtain ⟨r, rfl, hf⟩ := el h2
      exact ⟨r, h1, hf⟩
    by_cases h0 : len = 0
    · subst h0
      exact ⟨_, [], rfl, ⟨⟨.inl ⟨_, _, rfl, rfl⟩, by simp⟩, by simp⟩, .inl rfl⟩
    · obtain ⟨q, hq⟩ : ∃ q : Nat → α, ∀ i, i < m → w.cells? base (a.add (i * k)) k = some (f (q i)) ∧ F (q i) :=
        ⟨fun i => if hi : i < m then (each i hi).choose else default, fun i hi => by simp only [dif_pos hi]; exact (each i hi).choose_spec⟩
      obtain ⟨ha, hab⟩ := info_cells (hq 0 (by omega)).1 hk0
      have ha' : a = ⟨a.block, a.off, none⟩ := by
        have : (a.add (0 * k)).spot = a.spot := by simp [Addr.add]
        rw [this] at ha
        cases a
        simp only at ha
        rw [ha]
      have hab' : a.block < w.heap.size := by
        have : (a.add (0 * k)).block = a.block := by simp [Addr.add]
        rwa [this] at hab
      refine ⟨_, (List.range len).map q, rfl, ⟨⟨.inr ⟨a.block, a.off, cap, by rw [← ha']; simp, hab', ?_⟩, by simp; unfold maxLen at hm; omega⟩, ?_⟩, .inr ⟨_, _, by rw [hxx], by simp⟩⟩
      · intro i j c v hi hj
        rw [List.map_map, List.getElem?_map] at hi
        cases hr : (List.range len)[i]? with
        | none => rw [hr] at hi; cases hi
        | some y =>
          rw [hr] at hi
          cases hi
          obtain ⟨hy, rfl⟩ := List.getElem?_eq_some_iff.1 hr
          rw [List.length_range] at hy
          simp only [List.getElem_range, Function.comp] at hj ⊢
          obtain ⟨_, hlen, hcell⟩ := World.cells?_some (hq i (by omega)).1
          have hj11 : j < k := by
            have := (List.getElem?_eq_some_iff.1 hj).1
            rwa [hf] at this
          have := hcell j hj11
          rw [Deep.add_add] at this
          have he : a.add (i * k + j) = ⟨a.block, a.off + i * k + j, none⟩ := by
            rw [Nat.add_assoc]
            conv => lhs; rw [ha']
            exact addr_add _ _ _
          rw [he] at this
          rw [this]
          exact hj
      · intro r hr
        rw [List.mem_map] at hr
        obtain ⟨i, hi, rfl⟩ := hr
        exact (hq i (by rw [List.mem_range] at hi; omega)).2
end
end Go.Proofs.Ytcfmchpoclkpgaa
