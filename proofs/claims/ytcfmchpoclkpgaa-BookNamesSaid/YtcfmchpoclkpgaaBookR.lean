/-
  What BookNames asks of a book, in plain data. No program in sight.
-/
import Derived.Test.YtcfmchpoclkpgaaBookQ
namespace Go.Proofs.Ytcfmchpoclkpgaa
namespace Bk
theorem sortL_len (l : List S) : (SrtS.sortL l).length = l.length := by
  unfold SrtS.sortL SrtS.unb SrtS.bts
  rw [List.length_map, List.length_mergeSort, List.length_map]
theorem less_not {a b : S} (h : Op.bytesLess a.toList b.toList = true) : Op.bytesLess b.toList a.toList = false ∧ b ≠ a := by
  have h1 : lt a b := (ltb_iff a b).1 h
  refine ⟨?_, fun e => lt_irrefl a (by rw [e] at h1; exact h1)⟩
  cases h2 : Op.bytesLess b.toList a.toList with
  | false => rfl
  | true => exact absurd (lt_trans h1 ((ltb_iff b a).1 h2)) (lt_irrefl a)
/-- how many names the first zones have -/
def cnt (zs : List S) (ls : List LinkV) (k : Nat) : Nat := ((List.range k).map fun i => (palias zs ls i).length).sum
theorem cnt_succ (zs : List S) (ls : List LinkV) (k : Nat) : cnt zs ls (k + 1) = cnt zs ls k + (palias zs ls k).length := by
  unfold cnt
  rw [List.range_succ, List.map_append, List.sum_append]
  simp
theorem cnt_all (zs : List S) (ls : List LinkV) : cnt zs ls zs.length = (rnames zs ls).length := by
  rw [← names_eq]
  unfold pnames
  rw [sortL_len, List.length_flatten]
  unfold pall cnt
  rw [List.map_map]
  rfl
theorem cnt_le (zs : List S) (ls : List LinkV) : ∀ k, k ≤ zs.length → cnt zs ls k ≤ cnt zs ls zs.length := by
  have h : ∀ d k, k + d = zs.length → cnt zs ls k ≤ cnt zs ls zs.length := by
    intro d
    induction d with
    | zero => intro k hk; rw [← hk, Nat.add_zero]; exact Nat.le_refl _
    | succ d ih =>
      intro k hk
      have := ih (k + 1) (by omega)
      rw [cnt_succ] at this
      omega
  exact fun k hk => h (zs.length - k) k (by omega)
theorem rnames_len (zs : List S) (ls : List LinkV) : (rnames zs ls).length ≤ zs.length + ls.length := by
  rw [← cnt_all]
  have h := pall_len zs ls
  rw [List.length_flatten] at h
  unfold pall at h
  rw [List.map_map] at h
  exact h
theorem name_find {zs : List S} {ls : List LinkV} {s : S} (h : s ∈ rnames zs ls) : ∃ i : Nat, i < zs.length ∧ find zs ls s = ((i : Int), 0) ∧ s ∈ palias zs ls i := by
  obtain ⟨h1, h2⟩ := ((rnames_spec zs ls).2 s).1 h
  obtain ⟨i, hi, he⟩ := find_ok h2
  exact ⟨i, hi, he, ((palias_spec zs ls i).2 s).2 ⟨h1, he⟩⟩
theorem name_rise {zs : List S} {ls : List LinkV} {k : Nat} {a b : S} (ha : (rnames zs ls)[k]? = some a) (hb : (rnames zs ls)[k + 1]? = some b) : Op.bytesLess a.toList b.toList = true := by
  refine (ltb_iff a b).2 ?_
  obtain ⟨h1, rfl⟩ := List.getElem?_eq_some_iff.1 ha
  obtain ⟨h2, rfl⟩ := List.getElem?_eq_some_iff.1 hb
  exact List.pairwise_iff_getElem.1 (rnames_spec zs ls).1 k (k + 1) h1 h2 (by omega)
theorem once {done l : List S} (h : twice done l < 0) {k : Nat} {x : S} (hx : l[k]? = some x) : x ∉ done ++ l.take k := by
  have H : ∀ d k, k + d = l.length → twice done (l.take k) < 0 := by
    intro d
    induction d with
    | zero => intro k hk; rw [List.take_of_length_le (by omega)]; exact h
    | succ d ih =>
      intro k hk
      have hk' : k < l.length := by omega
      have := ih (k + 1) (by omega)
      rw [twice_succ hk' (List.getElem?_eq_getElem hk')] at this
      split at this
      · omega
      · exact this
  have hk : k < l.length := (List.getElem?_eq_some_iff.1 hx).1
  have h1 := H (l.length - k) k (by omega)
  have h2 := H (l.length - (k + 1)) (k + 1) (by omega)
  rw [twice_succ hk hx] at h2
  intro hm
  rw [if_pos ⟨h1, by rw [List.any_eq_true]; exact ⟨x, hm, decide_eq_true rfl⟩⟩] at h2
  omega
theorem zone_once {zs : List S} {ls : List LinkV} (h1 : twice [] zs < 0) (h2 : twice zs (ls.map LinkV.name) < 0) {i : Nat} {z : S} (hz : zs[i]? = some z) : find zs ls z = ((i : Int), 0) := by
  have hs : step ls z = none := by
    unfold step
    rw [Option.map_eq_none_iff, List.find?_eq_none]
    intro x hx
    simp only [decide_eq_true_eq]
    intro e
    obtain ⟨k, hk⟩ := List.mem_iff_getElem?.1 hx
    have := once h2 (k := k) (x := x.name) (by rw [List.getElem?_map, hk]; rfl)
    exact this (List.mem_append.2 (.inl (by rw [e]; exact List.mem_of_getElem? hz)))
  have hzat : zat zs z = some i := by
    unfold zat
    have hi : i < zs.length := (List.getElem?_eq_some_iff.1 hz).1
    rw [List.findIdx?_eq_some_iff_getElem]
    refine ⟨hi, by simp [(List.getElem?_eq_some_iff.1 hz).2], fun j hj => ?_⟩
    simp only [decide_eq_true_eq]
    intro e
    have := once h1 hz
    rw [List.nil_append] at this
    exact this (by rw [← e]; exact List.mem_iff_getElem?.2 ⟨j, by rw [List.getElem?_take, if_pos hj]; exact List.getElem?_eq_getElem _⟩)
  unfold find
  unfold follow
  rw [hs]
  unfold findV
  dsimp only
  rw [hzat]
theorem link_once {zs : List S} {ls : List LinkV} (h2 : twice zs (ls.map LinkV.name) < 0) {i : Nat} {x : LinkV} (hx : ls[i]? = some x) : find zs ls x.name = find zs ls x.target := by
  have hs : step ls x.name = some x.target := by
    unfold step
    have hi : i < ls.length := (List.getElem?_eq_some_iff.1 hx).1
    have h3 : ls.find? (fun y => decide (y.name = x.name)) = some x := by
      rw [List.find?_eq_some_iff_getElem]
      refine ⟨by simp, i, hi, (List.getElem?_eq_some_iff.1 hx).2, fun j hj => ?_⟩
      have := once h2 (k := i) (x := x.name) (by rw [List.getElem?_map, hx]; rfl)
      simp only [Bool.not_eq_eq_eq_not, Bool.not_true, decide_eq_false_iff_not]
      intro e
      refine this (List.mem_append.2 (.inr ?_))
      rw [← e]
      refine List.mem_iff_getElem?.2 ⟨j, ?_⟩
      rw [List.getElem?_take, if_pos hj, List.getElem?_map, List.getElem?_eq_getElem (by omega)]
      rfl
    rw [h3]
    rfl
  have h4 := follow_eq (f := step ls) (D := ls.map LinkV.name) (fun s hs => by
    unfold step at hs
    rw [Option.isSome_map, List.find?_isSome] at hs
    obtain ⟨y, hy, e⟩ := hs
    rw [decide_eq_true_eq] at e
    exact List.mem_map.2 ⟨y, hy, e⟩) 1 x.name
  rw [List.length_map] at h4
  unfold find
  rw [← h4]
  rw [show ls.length + 1 + 1 = (ls.length + 1) + 1 from rfl]
  rw [show follow (step ls) ((ls.length + 1) + 1) x.name = follow (step ls) (ls.length + 1) x.target by
    show (match step ls x.name with | none => some x.name | some t => follow (step ls) (ls.length + 1) t) = _
    rw [hs]]
end Bk
end Go.Proofs.Ytcfmchpoclkpgaa
