/-
  The book's names and aliases are the document's. No program in sight.
-/
import Derived.Test.YtcfmchpoclkpgaaRTwice
import Derived.Test.YtcfmchpoclkpgaaBNames
import Derived.Sort.Walk0
namespace Go.Proofs.Ytcfmchpoclkpgaa
namespace Bk
/-! ### the order of texts -/
def lt (a b : S) : Prop := a.data.toList < b.data.toList
theorem lt_irrefl (a : S) : ¬ lt a a := List.lt_irrefl _
theorem lt_trans {a b c : S} (h : lt a b) (h' : lt b c) : lt a c := List.lt_trans h h'
theorem data_inj {a b : S} (h : a.data.toList = b.data.toList) : a = b := by
  cases a; cases b
  simp only at h
  rw [Array.toList_inj.1 h]
theorem lt_total {a b : S} (h : ¬ lt a b) (hn : a ≠ b) : lt b a := by
  by_cases h2 : lt b a
  · exact h2
  · exact absurd (data_inj (List.le_antisymm (List.not_lt.1 h2) (List.not_lt.1 h))) hn
theorem ltb_iff (a b : S) : ltb a b = true ↔ lt a b := by
  unfold ltb lt
  rw [bytesLess_eq, Lib.toList_data, Lib.toList_data]
  exact decide_eq_true_iff
abbrev Rising (l : List S) : Prop := l.Pairwise lt
theorem rising_eq : ∀ {l m : List S}, Rising l → Rising m → (∀ s, s ∈ l ↔ s ∈ m) → l = m
  | [], [], _, _, _ => rfl
  | [], b :: m, _, _, h => by have := (h b).2 (by simp); cases this
  | a :: l, [], _, _, h => by have := (h a).1 (by simp); cases this
  | a :: l, b :: m, hl, hm, h => by
    obtain ⟨h1, h2⟩ := List.pairwise_cons.1 hl
    obtain ⟨h3, h4⟩ := List.pairwise_cons.1 hm
    have e : a = b := by
      rcases List.mem_cons.1 ((h a).1 (by simp)) with e | e
      · exact e
      · rcases List.mem_cons.1 ((h b).2 (by simp)) with e' | e'
        · exact e'.symm
        · exact absurd (lt_trans (h1 b e') (h3 a e)) (lt_irrefl a)
    subst e
    rw [rising_eq h2 h4 (fun s => ?_)]
    constructor
    · intro hs
      rcases List.mem_cons.1 ((h s).1 (by simp [hs])) with e | e
      · subst e
        exact absurd (h1 s hs) (lt_irrefl s)
      · exact e
    · intro hs
      rcases List.mem_cons.1 ((h s).2 (by simp [hs])) with e | e
      · subst e
        exact absurd (h3 s hs) (lt_irrefl s)
      · exact e
/-! ### the document's way -/
open Classical in
noncomputable def ins (s : S) : List S → List S
  | [] => [s]
  | x :: r => if lt s x then s :: x :: r else if s = x then x :: r else x :: ins s r
theorem fold_done (s : S) : ∀ (l o : List S), l.foldl (putStep s) (o, true) = (o ++ l, true)
  | [], o => by simp
  | x :: r, o => by
    rw [List.foldl_cons, show putStep s (o, true) x = (o ++ [x], true) by unfold putStep; simp, fold_done s r]
    simp
theorem fold_ins (s : S) : ∀ (l o : List S), (if (l.foldl (putStep s) (o, false)).2 then (l.foldl (putStep s) (o, false)).1 else (l.foldl (putStep s) (o, false)).1 ++ [s]) = o ++ ins s l
  | [], o => by simp [ins]
  | x :: r, o => by
    rw [List.foldl_cons]
    unfold ins
    by_cases h1 : lt s x
    · have hb := (ltb_iff s x).2 h1
      rw [if_pos h1, show putStep s (o, false) x = (o ++ [s] ++ [x], true) by unfold putStep; simp [hb], fold_done]
      simp
    · have hb : ltb s x = false := by
        rw [Bool.eq_false_iff]
        exact fun h => h1 ((ltb_iff s x).1 h)
      rw [if_neg h1]
      by_cases h2 : s = x
      · rw [if_pos h2, show putStep s (o, false) x = (o ++ [x], true) by unfold putStep; rw [decide_eq_true h2, hb]; simp, fold_done]
        simp
      · rw [if_neg h2, show putStep s (o, false) x = (o ++ [x], false) by unfold putStep; simp [hb, h2], fold_ins s r]
        simp
theorem rput_ins (l : List S) (s : S) : rput l s = ins s l := by
  unfold rput putL
  rw [fold_ins s l []]
  rfl
theorem mem_ins (s x : S) : ∀ l : List S, x ∈ ins s l ↔ x = s ∨ x ∈ l
  | [] => by simp [ins]
  | y :: r => by
    unfold ins
    split
    · simp
    · split
      · rename_i h
        subst h
        simp
      · rw [List.mem_cons, mem_ins s x r, List.mem_cons]
        constructor
        · rintro (h | h | h)
          · exact .inr (.inl h)
          · exact .inl h
          · exact .inr (.inr h)
        · rintro (h | h | h)
          · exact .inr (.inl h)
          · exact .inl h
          · exact .inr (.inr h)
theorem rising_ins (s : S) : ∀ {l : List S}, Rising l → Rising (ins s l)
  | [], _ => by simp [ins, Rising]
  | y :: r, h => by
    obtain ⟨h1, h2⟩ := List.pairwise_cons.1 h
    unfold ins
    split
    · rename_i hl
      refine List.pairwise_cons.2 ⟨fun z hz => ?_, h⟩
      rcases List.mem_cons.1 hz with rfl | hz
      · exact hl
      · exact lt_trans hl (h1 z hz)
    · rename_i hl
      split
      · exact h
      · rename_i hn
        refine List.pairwise_cons.2 ⟨fun z hz => ?_, rising_ins s h2⟩
        rcases (mem_ins s z r).1 hz with rfl | hz
        · exact lt_total hl hn
        · exact h1 z hz
theorem fold_rput : ∀ (l o : List S), Rising o → Rising (l.foldl rput o) ∧ ∀ x, x ∈ l.foldl rput o ↔ x ∈ o ∨ x ∈ l
  | [], o, h => ⟨h, fun x => by simp⟩
  | s :: l, o, h => by
    rw [List.foldl_cons, rput_ins]
    obtain ⟨h1, h2⟩ := fold_rput l (ins s o) (rising_ins s h)
    refine ⟨h1, fun x => ?_⟩
    rw [h2, mem_ins, List.mem_cons]
    constructor
    · rintro ((h | h) | h)
      · exact .inr (.inl h)
      · exact .inl h
      · exact .inr (.inr h)
    · rintro (h | h | h)
      · exact .inl (.inr h)
      · exact .inl (.inl h)
      · exact .inr h
theorem rnames_spec (zs : List S) (ls : List LinkV) : Rising (rnames zs ls) ∧ ∀ x, x ∈ rnames zs ls ↔ x ∈ zs ++ ls.map LinkV.name ∧ (find zs ls x).2 = 0 := by
  obtain ⟨h1, h2⟩ := fold_rput ((zs ++ ls.map LinkV.name).filter (okN zs ls)) [] List.Pairwise.nil
  refine ⟨h1, fun x => ?_⟩
  unfold rnames
  rw [h2, List.mem_filter]
  unfold okN
  simp
/-! ### the program's -/
theorem sortL_mem (l : List S) (x : S) : x ∈ SrtS.sortL l ↔ x ∈ l := by
  unfold SrtS.sortL SrtS.unb
  rw [List.mem_map]
  constructor
  · rintro ⟨y, hy, rfl⟩
    rw [List.mem_mergeSort] at hy
    unfold SrtS.bts at hy
    obtain ⟨z, hz, rfl⟩ := List.mem_map.1 hy
    exact hz
  · intro h
    exact ⟨x.data.toList, by rw [List.mem_mergeSort]; exact List.mem_map.2 ⟨x, h, rfl⟩, rfl⟩
theorem sortL_rising {l : List S} (hn : l.Nodup) : Rising (SrtS.sortL l) := by
  have tr : ∀ a b c : List UInt8, decide (a ≤ b) = true → decide (b ≤ c) = true → decide (a ≤ c) = true := fun a b c h1 h2 => by simp only [decide_eq_true_eq] at *; exact List.le_trans h1 h2
  have tot : ∀ a b : List UInt8, (decide (a ≤ b) || decide (b ≤ a)) = true := fun a b => by simp only [Bool.or_eq_true, decide_eq_true_eq]; exact List.le_total a b
  have h1 := List.pairwise_mergeSort tr tot (SrtS.bts l)
  have h2 : ((SrtS.bts l).mergeSort fun x y => decide (x ≤ y)).Nodup := by
    refine (List.mergeSort_perm (SrtS.bts l) _).nodup_iff.2 ?_
    unfold SrtS.bts List.Nodup
    rw [List.pairwise_map]
    exact hn.imp (fun h e => h (data_inj e))
  unfold Rising SrtS.sortL SrtS.unb
  rw [List.pairwise_map]
  have h3 := List.Pairwise.and h1 h2
  refine h3.imp (fun {a b} h => ?_)
  show a < b
  have hle : a ≤ b := by simpa using h.1
  by_cases hlt : a < b
  · exact hlt
  · exact absurd (List.le_antisymm hle (List.not_lt.1 hlt)) h.2
theorem put_nodup {L : List Mp.Ent} (h : (L.map (·.1)).Nodup) (s : S) (v : Value) : ((Mp.put L s v).map (·.1)).Nodup := by
  rw [Mp.put_keys]
  split
  · exact h
  · rename_i hs
    refine List.nodup_append.2 ⟨h, by simp, fun a ha b hb e => ?_⟩
    rw [List.mem_singleton] at hb
    subst hb
    subst e
    exact hs ha
theorem fold_nodup : ∀ (ps L : List Mp.Ent), (L.map (·.1)).Nodup → ((fold ps L).map (·.1)).Nodup
  | [], L, h => h
  | p :: ps, L, h => fold_nodup ps (Mp.put L p.1 p.2) (put_nodup h _ _)
theorem keys_spec (zs : List S) (ls : List LinkV) : Rising (keys zs ls) ∧ ∀ x, x ∈ keys zs ls ↔ x ∈ zs ++ ls.map LinkV.name := by
  refine ⟨sortL_rising (fold_nodup _ _ (fold_nodup _ _ List.nodup_nil)), fun x => ?_⟩
  unfold keys
  rw [sortL_mem]
  unfold nmap
  rw [mem_fold, mem_fold, List.mem_append]
  simp [List.mem_map]
theorem palias_spec (zs : List S) (ls : List LinkV) (i : Nat) : Rising (palias zs ls i) ∧ ∀ x, x ∈ palias zs ls i ↔ x ∈ zs ++ ls.map LinkV.name ∧ find zs ls x = ((i : Int), 0) := by
  obtain ⟨h1, h2⟩ := keys_spec zs ls
  refine ⟨h1.filter _, fun x => ?_⟩
  unfold palias
  rw [List.mem_filter, h2, decide_eq_true_eq]
theorem pall_nodup (zs : List S) (ls : List LinkV) : (pall zs ls).flatten.Nodup := by
  unfold pall
  rw [← List.flatMap_def]
  unfold List.Nodup
  rw [List.pairwise_flatMap]
  refine ⟨fun i _ => (palias_spec zs ls i).1.imp (fun h e => by subst e; exact lt_irrefl _ h), ?_⟩
  refine List.pairwise_lt_range.imp (fun {i j} hij x hx y hy e => ?_)
  subst e
  have a1 := ((palias_spec zs ls i).2 x).1 hx
  have a2 := ((palias_spec zs ls j).2 x).1 hy
  have := a1.2.symm.trans a2.2
  simp only [Prod.mk.injEq, and_true] at this
  omega
theorem mem_pall (zs : List S) (ls : List LinkV) (x : S) : x ∈ (pall zs ls).flatten ↔ x ∈ zs ++ ls.map LinkV.name ∧ (find zs ls x).2 = 0 := by
  unfold pall
  rw [← List.flatMap_def, List.mem_flatMap]
  constructor
  · rintro ⟨i, _, hx⟩
    obtain ⟨h1, h2⟩ := ((palias_spec zs ls i).2 x).1 hx
    exact ⟨h1, by rw [h2]⟩
  · rintro ⟨h1, h2⟩
    obtain ⟨i, hi, he⟩ := find_ok h2
    exact ⟨i, List.mem_range.2 hi, ((palias_spec zs ls i).2 x).2 ⟨h1, he⟩⟩
theorem names_eq (zs : List S) (ls : List LinkV) : pnames zs ls = rnames zs ls := by
  obtain ⟨h1, h2⟩ := rnames_spec zs ls
  refine rising_eq (sortL_rising (pall_nodup zs ls)) h1 (fun x => ?_)
  rw [h2]
  unfold pnames
  rw [sortL_mem, mem_pall]
theorem alias_eq (zs : List S) (ls : List LinkV) (z : Int) : BkW.paliasI zs ls z = ralias zs ls z := by
  obtain ⟨h1, h2⟩ := rnames_spec zs ls
  have h3 : Rising (ralias zs ls z) := h1.filter _
  have h4 : ∀ x, x ∈ ralias zs ls z ↔ x ∈ zs ++ ls.map LinkV.name ∧ (find zs ls x).2 = 0 ∧ (find zs ls x).1 = z := fun x => by
    unfold ralias
    rw [List.mem_filter, h2, decide_eq_true_eq, and_assoc]
  unfold BkW.paliasI
  split
  · rename_i hz
    obtain ⟨h5, h6⟩ := palias_spec zs ls z.toNat
    refine rising_eq h5 h3 (fun x => ?_)
    rw [h6, h4]
    have e : (z.toNat : Int) = z := by omega
    rw [e]
    constructor
    · rintro ⟨a, b⟩
      exact ⟨a, by rw [b], by rw [b]⟩
    · rintro ⟨a, b, c⟩
      exact ⟨a, Prod.ext c b⟩
  · rename_i hz
    refine rising_eq List.Pairwise.nil h3 (fun x => ?_)
    rw [h4]
    constructor
    · intro h; cases h
    · rintro ⟨a, b, c⟩
      obtain ⟨i, hi, he⟩ := find_ok b
      rw [he] at c
      exact absurd (by simp only at c; omega) hz
theorem rising_nodup {l : List S} (h : Rising l) : l.Nodup := h.imp (fun h e => by subst e; exact lt_irrefl _ h)
theorem pall_len (zs : List S) (ls : List LinkV) : (pall zs ls).flatten.length ≤ zs.length + ls.length := by
  have := nodup_le _ (zs ++ ls.map LinkV.name) (pall_nodup zs ls) (fun x hx => ((mem_pall zs ls x).1 hx).1)
  simpa using this
theorem keys_len (zs : List S) (ls : List LinkV) : (keys zs ls).length ≤ zs.length + ls.length := by
  have := nodup_le _ (zs ++ ls.map LinkV.name) (rising_nodup (keys_spec zs ls).1) (fun x hx => ((keys_spec zs ls).2 x).1 hx)
  simpa using this
end Bk
end Go.Proofs.Ytcfmchpoclkpgaa
