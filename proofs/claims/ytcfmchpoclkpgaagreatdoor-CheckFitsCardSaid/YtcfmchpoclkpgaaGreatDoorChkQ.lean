import Derived.Test.YtcfmchpoclkpgaaGreatDoorG20
namespace Go.Proofs.YtcfmchpoclkpgaaGreatDoor
namespace Ck
theorem run_take {L : List Fault} {i : Nat} {x : Fault} (h : L[i]? = some x) (f : Fault) : run f (L.take (i + 1)) = less (run f (L.take i)) x := by
  rw [List.take_add_one, h]
  exact run_snoc f _ x
def lines (rs : List Int) (es : List (List Int)) (ls : List Int) : List Int := rs ++ ls ++ es.flatten
def zoneOk (p : ZoneV × List Int) : Bool := Zn.zoneB p.1.es && decide (p.2.length = p.1.es.length)
def whereB (nr : Nat) (zs : List ZoneV) (nl : Nat) (rs : List Int) (es : List (List Int)) (ls : List Int) : Bool :=
  decide (rs.length = nr) && (decide (es.length = zs.length) && (decide (ls.length = nl) && ((zs.zip es).all zoneOk && (lines rs es ls).all fun n => decide (1 ≤ n))))
noncomputable def all (l : List RuleV) (zs : List ZoneV) (ls : List LinkV) (rs : List Int) (es : List (List Int)) (ns : List Int) : List Fault :=
  zoneFs l zs es ++ (ruleFs l rs ++ linkFs (zs.map ZoneV.name) ls ns)
noncomputable def chk (l : List RuleV) (zs : List ZoneV) (ls : List LinkV) (rs : List Int) (es : List (List Int)) (ns : List Int) : Fault :=
  if whereB l.length zs ls.length rs es ns = true then run (0, 0) (all l zs ls rs es ns) else (0, 4)
theorem where_parts {nr : Nat} {zs : List ZoneV} {nl : Nat} {rs : List Int} {es : List (List Int)} {ls : List Int} (h : whereB nr zs nl rs es ls = true) :
    rs.length = nr ∧ es.length = zs.length ∧ ls.length = nl ∧ (∀ p ∈ zs.zip es, Zn.zoneB p.1.es = true ∧ p.2.length = p.1.es.length) ∧ ∀ n ∈ lines rs es ls, 1 ≤ n := by
  unfold whereB at h
  simp only [Bool.and_eq_true, decide_eq_true_eq, List.all_eq_true] at h
  obtain ⟨h1, h2, h3, h4, h5⟩ := h
  refine ⟨h1, h2, h3, fun p hp => ?_, h5⟩
  have := h4 p hp
  unfold zoneOk at this
  simpa using this
theorem whereB_of {nr : Nat} {zs : List ZoneV} {nl : Nat} {rs : List Int} {es : List (List Int)} {ls : List Int} (h1 : rs.length = nr) (h2 : es.length = zs.length) (h3 : ls.length = nl) (h4 : (zs.zip es).all zoneOk = true) (h5 : ((lines rs es ls).all fun n => decide (1 ≤ n)) = true) : whereB nr zs nl rs es ls = true := by
  unfold whereB
  rw [decide_eq_true h1, decide_eq_true h2, decide_eq_true h3, h4, h5]
  rfl
theorem getD_mem {l : List Int} {i : Nat} (h : i < l.length) : l.getD i 0 ∈ l := by
  rw [List.getD_eq_getElem?_getD, List.getElem?_eq_getElem h]
  exact List.getElem_mem h
theorem zone_line {l : List RuleV} {zs : List ZoneV} {es : List (List Int)} (h : ∀ p ∈ zs.zip es, p.2.length = p.1.es.length) (hl : es.length = zs.length) {p : Fault} (hp : p ∈ zoneFs l zs es) : p.1 ∈ es.flatten := by
  unfold zoneFs at hp
  rw [List.mem_flatMap] at hp
  obtain ⟨⟨z, k⟩, hz, hp⟩ := hp
  rw [List.mem_zipIdx_iff_getElem?] at hz
  unfold eraFs at hp
  rw [List.mem_map] at hp
  obtain ⟨⟨e, i⟩, he, rfl⟩ := hp
  rw [List.mem_zipIdx_iff_getElem?] at he
  dsimp only at *
  have hk : k < es.length := by rw [hl];exact (List.getElem?_eq_some_iff.1 hz).1
  have hr : es[k]? = some es[k] := List.getElem?_eq_getElem hk
  have hlen : (es[k]).length = z.es.length := h (z, es[k]) (List.mem_of_getElem? (List.getElem?_zip_eq_some.2 ⟨hz, hr⟩))
  rw [List.mem_flatten]
  refine ⟨es[k], List.getElem_mem hk, ?_⟩
  rw [List.getD_eq_getElem?_getD (l := es), hr]
  exact getD_mem (by rw [hlen];exact (List.getElem?_eq_some_iff.1 he).1)
theorem rule_line {l : List RuleV} {rs : List Int} (h : rs.length = l.length) {p : Fault} (hp : p ∈ ruleFs l rs) : p.1 ∈ rs := by
  unfold ruleFs at hp
  rw [List.mem_map] at hp
  obtain ⟨i, hi, rfl⟩ := hp
  exact getD_mem (by rw [h];exact List.mem_range.1 hi)
theorem link_line {zs : List ByteArray} {ls : List LinkV} {ns : List Int} (h : ns.length = ls.length) {p : Fault} (hp : p ∈ linkFs zs ls ns) : p.1 ∈ ns := by
  unfold linkFs at hp
  rw [List.mem_map] at hp
  obtain ⟨⟨x, i⟩, hx, rfl⟩ := hp
  rw [List.mem_zipIdx_iff_getElem?] at hx
  exact getD_mem (by rw [h];exact (List.getElem?_eq_some_iff.1 hx).1)
theorem all_line {l : List RuleV} {zs : List ZoneV} {ls : List LinkV} {rs : List Int} {es : List (List Int)} {ns : List Int} (h : whereB l.length zs ls.length rs es ns = true) {p : Fault} (hp : p ∈ all l zs ls rs es ns) : 1 ≤ p.1 := by
  obtain ⟨h1, h2, h3, h4, h5⟩ := where_parts h
  refine h5 _ ?_
  unfold all at hp
  unfold lines
  rcases List.mem_append.1 hp with hp|hp
  · exact List.mem_append.2 (.inr (zone_line (fun p hp => (h4 p hp).2) h2 hp))
  · rcases List.mem_append.1 hp with hp|hp
    · exact List.mem_append.2 (.inl (List.mem_append.2 (.inl (rule_line h1 hp))))
    · exact List.mem_append.2 (.inl (List.mem_append.2 (.inr (link_line h3 hp))))
theorem fits_line {l : List RuleV} {zs : List ZoneV} {ls : List LinkV} {rs : List Int} {es : List (List Int)} {ns : List Int} (h : (chk l zs ls rs es ns).2 ≠ 0) : decide (0 < (chk l zs ls rs es ns).1) = whereB l.length zs ls.length rs es ns := by
  unfold chk at *
  by_cases hw : whereB l.length zs ls.length rs es ns = true
  · rw [if_pos hw] at h ⊢
    rw [hw, decide_eq_true_eq]
    rcases run_mem (all l zs ls rs es ns) (0, 0) with e|e
    · rw [e] at h
      exact absurd rfl h
    · have := all_line hw e
      omega
  · rw [if_neg hw]
    rw [Bool.not_eq_true] at hw
    rw [hw]
    rfl
theorem first_cases (f : Nat → Int) : ∀ c k : Nat, Unt.first f c k = (-1, 0) ∨ ∃ j : Nat, k ≤ j ∧ j < k + c ∧ Unt.first f c k = ((j : Int), f j) ∧ f j ≠ 0
  | 0, k => .inl rfl
  | c + 1, k => by
    unfold Unt.first
    by_cases h : f k = 0
    · rw [if_pos h]
      rcases first_cases f c (k + 1) with h1|⟨j, h1, h2, h3, h4⟩
      · exact .inl h1
      · exact .inr ⟨j, by omega, by omega, h3, h4⟩
    · rw [if_neg h]
      exact .inr ⟨k, Nat.le_refl _, by omega, rfl, h⟩
theorem checkU_cases {l : List RuleV} {es : List EraV} (h : Zn.zoneB es = true) : Unt.checkU l es = (-1, 0) ∨ ∃ j : Nat, j < es.length ∧ (Unt.checkU l es).1 = (j : Int) ∧ (Unt.checkU l es).2 ≠ 0 := by
  unfold Unt.checkU
  rw [if_pos h]
  have hl := Zn.endsL_len l es es.length
  rw [List.take_of_length_le (Nat.le_refl _)] at hl
  rcases first_cases (Unt.badAt l es (Zn.endsL l es)) (Zn.endsL l es).length 0 with h1|⟨j, h1, h2, h3, h4⟩
  · exact .inl h1
  · refine .inr ⟨j, by omega, ?_, ?_⟩
    · rw [h3]
    · rw [h3];exact h4
structure Fine (l : List RuleV) (zs : List ZoneV) (ls : List LinkV) : Prop where
  rules : Chk.check l = (-1, 0)
  zones : Bk.twice [] (zs.map ZoneV.name) < 0
  links : Bk.twice (zs.map ZoneV.name) (ls.map LinkV.name) < 0
  find : ∀ x ∈ ls, (Bk.find (zs.map ZoneV.name) ls x.name).2 = 0
  eras : ∀ z ∈ zs, Unt.checkU l z.es = (-1, 0)
  named : ∀ z ∈ zs, ∀ e ∈ z.es, e.kind = 2 → named l e.rules = true
theorem zone_mem {l : List RuleV} {zs : List ZoneV} {es : List (List Int)} {k i : Nat} {z : ZoneV} {e : EraV} (hz : zs[k]? = some z) (he : z.es[i]? = some e) : ((es.getD k []).getD i 0, eraF l ((zs.take k).map ZoneV.name) z.name z.es i e) ∈ zoneFs l zs es := by
  unfold zoneFs
  rw [List.mem_flatMap]
  refine ⟨(z, k), List.mem_zipIdx_iff_getElem?.2 hz, ?_⟩
  unfold eraFs
  rw [List.mem_map]
  exact ⟨(e, i), List.mem_zipIdx_iff_getElem?.2 he, rfl⟩
theorem rules_fine {l : List RuleV} (h : ∀ i, i < l.length → ruleF l i = 0) : Chk.check l = (-1, 0) := by
  rcases Chk.check_cases l with h1|⟨k, r, hr, hb, h1⟩
  · exact Chk.check_none h1
  · exfalso
    have hk : k < l.length := (List.getElem?_eq_some_iff.1 hr).1
    have h2 := h k hk
    unfold ruleF at h2
    have e2 : Chk.check (l.take (k + 1)) = ((k : Int), Chk.firstBad r (Chk.same r (l.take k))) := by rw [Chk.check_take l k hk, Chk.check_some hr hb h1, if_pos ⟨by show (0 : Int) ≤ k;omega, Int.le_refl _⟩]
    rw [e2, if_pos rfl] at h2
    exact hb h2
theorem any_name {l : List ByteArray} {s : ByteArray} : (l.any fun y => decide (y = s)) = true ↔ s ∈ l := by
  rw [List.any_eq_true]
  constructor
  · rintro ⟨y, hy, e⟩
    rw [decide_eq_true_eq] at e
    rw [← e]
    exact hy
  · intro h
    exact ⟨s, h, decide_eq_true rfl⟩
theorem fine {l : List RuleV} {zs : List ZoneV} {ls : List LinkV} {rs : List Int} {es : List (List Int)} {ns : List Int} (h : (chk l zs ls rs es ns).2 = 0) : Fine l zs ls := by
  unfold chk at h
  by_cases hw : whereB l.length zs ls.length rs es ns = true
  case neg =>
    rw [if_neg hw] at h
    exact absurd h (by decide)
  rw [if_pos hw] at h
  obtain ⟨h1, h2, h3, h4, _⟩ := where_parts hw
  have hall : ∀ p ∈ all l zs ls rs es ns, p.2 = 0 := by
    intro p hp
    refine Classical.byContradiction (fun hn => run_err _ (0, 0) (.inr ⟨p, hp, hn⟩) h)
  unfold all at hall
  have hzb : ∀ (k : Nat) (z : ZoneV), zs[k]? = some z → Zn.zoneB z.es = true := by
    intro k z hz
    have hk : k < es.length := by rw [h2];exact (List.getElem?_eq_some_iff.1 hz).1
    exact (h4 (z, es[k]) (List.mem_of_getElem? (List.getElem?_zip_eq_some.2 ⟨hz, List.getElem?_eq_getElem hk⟩))).1
  have hera : ∀ (k : Nat) (z : ZoneV), zs[k]? = some z → ∀ (i : Nat) (e : EraV), z.es[i]? = some e → eraF l ((zs.take k).map ZoneV.name) z.name z.es i e = 0 := fun k z hz i e he => hall _ (List.mem_append.2 (.inl (zone_mem hz he)))
  have hlink : ∀ (i : Nat) (x : LinkV), ls[i]? = some x → linkF (zs.map ZoneV.name) ls i x = 0 := by
    intro i x hx
    refine hall (ns.getD i 0, linkF (zs.map ZoneV.name) ls i x) (List.mem_append.2 (.inr (List.mem_append.2 (.inr ?_))))
    unfold linkFs
    rw [List.mem_map]
    exact ⟨(x, i), List.mem_zipIdx_iff_getElem?.2 hx, rfl⟩
  have hlk : ∀ (i : Nat) (x : LinkV), ls[i]? = some x → x.name ∉ zs.map ZoneV.name ++ (ls.take i).map LinkV.name ∧ (Bk.find (zs.map ZoneV.name) ls x.name).2 = 0 := by
    intro i x hx
    have := hlink i x hx
    unfold linkF at this
    split at this
    · exact absurd this (by decide)
    · rename_i hn
      exact ⟨fun hm => hn (any_name.2 hm), this⟩
  refine ⟨rules_fine fun i hi => ?_, Bk.never ?_, Bk.never ?_, ?_, ?_, ?_⟩
  · refine hall (rs.getD i 0, ruleF l i) (List.mem_append.2 (.inr (List.mem_append.2 (.inl ?_))))
    unfold ruleFs
    rw [List.mem_map]
    exact ⟨i, List.mem_range.2 hi, rfl⟩
  · intro k x hx
    rw [List.getElem?_map] at hx
    obtain ⟨z, hz, rfl⟩ := Option.map_eq_some_iff.1 hx
    have hpos := (Zn.zone_iff.1 (hzb k z hz)).1
    have h0 := hera k z hz 0 _ (List.getElem?_eq_getElem hpos)
    unfold eraF at h0
    split at h0
    · exact absurd h0 (by decide)
    · rename_i hn
      rw [List.nil_append, ← List.map_take]
      exact fun hm => hn ⟨rfl, any_name.2 hm⟩
  · intro k x hx
    rw [List.getElem?_map] at hx
    obtain ⟨y, hy, rfl⟩ := Option.map_eq_some_iff.1 hx
    rw [← List.map_take]
    exact (hlk k y hy).1
  · intro x hx
    obtain ⟨i, hi⟩ := List.getElem?_of_mem hx
    exact (hlk i x hi).2
  · intro z hz
    obtain ⟨k, hk⟩ := List.getElem?_of_mem hz
    rcases checkU_cases (l := l) (hzb k z hk) with h6|⟨j, hj, h6, h7⟩
    · exact h6
    · exfalso
      have h0 := hera k z hk j _ (List.getElem?_eq_getElem hj)
      unfold eraF at h0
      split at h0
      · exact absurd h0 (by decide)
      · split at h0
        · exact absurd h0 (by decide)
        · exact h7 h0
  · intro z hz e he hk2
    obtain ⟨k, hk⟩ := List.getElem?_of_mem hz
    obtain ⟨i, hi⟩ := List.getElem?_of_mem he
    have h0 := hera k z hk i e hi
    unfold eraF at h0
    split at h0
    · exact absurd h0 (by decide)
    · split at h0
      · exact absurd h0 (by decide)
      · rename_i hn
        cases hq : named l e.rules
        · exact absurd ⟨hk2, hq⟩ hn
        · rfl
def up (m n : Nat) : List Int := (List.range n).map fun i => ((m + i + 1 : Nat) : Int)
theorem up_len (m n : Nat) : (up m n).length = n := by unfold up;simp
theorem up_zero (m : Nat) : up m 0 = [] := rfl
theorem up_succ (m n : Nat) : up m (n + 1) = up m n ++ [((m + n + 1 : Nat) : Int)] := by
  unfold up
  rw [List.range_succ, List.map_append]
  rfl
theorem up_mem {m n : Nat} {x : Int} (h : x ∈ up m n) : (m : Int) < x ∧ x ≤ ((m + n : Nat) : Int) := by
  unfold up at h
  rw [List.mem_map] at h
  obtain ⟨i, hi, rfl⟩ := h
  have := List.mem_range.1 hi
  omega
def sumE : List ZoneV → Nat
  | [] => 0
  | z :: zs => z.es.length + sumE zs
def upE : Nat → List ZoneV → List (List Int)
  | _, [] => []
  | m, z :: zs => up m z.es.length :: upE (m + z.es.length) zs
theorem sumE_snoc : ∀ (zs : List ZoneV) (z : ZoneV), sumE (zs ++ [z]) = sumE zs + z.es.length
  | [], z => by simp [sumE]
  | y :: zs, z => by
    show y.es.length + sumE (zs ++ [z]) = y.es.length + sumE zs + z.es.length
    rw [sumE_snoc zs z]
    omega
theorem upE_snoc : ∀ (m : Nat) (zs : List ZoneV) (z : ZoneV), upE m (zs ++ [z]) = upE m zs ++ [up (m + sumE zs) z.es.length]
  | m, [], z => rfl
  | m, y :: zs, z => by
    show up m y.es.length :: upE (m + y.es.length) (zs ++ [z]) = up m y.es.length :: (upE (m + y.es.length) zs ++ [up (m + (y.es.length + sumE zs)) z.es.length])
    rw [upE_snoc (m + y.es.length) zs z, Nat.add_assoc]
theorem upE_len : ∀ (m : Nat) (zs : List ZoneV), (upE m zs).length = zs.length
  | _, [] => rfl
  | m, z :: zs => by
    show (upE (m + z.es.length) zs).length + 1 = zs.length + 1
    rw [upE_len]
theorem upE_mem : ∀ {m : Nat} {zs : List ZoneV} {x : Int}, x ∈ (upE m zs).flatten → (m : Int) < x ∧ x ≤ ((m + sumE zs : Nat) : Int)
  | m, [], x, h => by simp [upE] at h
  | m, z :: zs, x, h => by
    have h' : x ∈ up m z.es.length ++ (upE (m + z.es.length) zs).flatten := h
    show (m : Int) < x ∧ x ≤ ((m + (z.es.length + sumE zs) : Nat) : Int)
    rcases List.mem_append.1 h' with h1|h1
    · have := up_mem h1
      omega
    · have := upE_mem h1
      omega
noncomputable def chkP (l : List RuleV) (zs : List ZoneV) (ls : List LinkV) : Fault := chk l zs ls (up 0 l.length) (upE l.length zs) (up (l.length + sumE zs) ls.length)
noncomputable def zoneTo (l : List RuleV) (zs : List ZoneV) (ns : List (List Int)) (k : Nat) : List Fault := (zs.zipIdx.take k).flatMap fun p => eraFs l ((zs.take p.2).map ZoneV.name) p.1.name p.1.es (ns.getD p.2 [])
theorem zoneTo_zero (l : List RuleV) (zs : List ZoneV) (ns : List (List Int)) : zoneTo l zs ns 0 = [] := rfl
theorem zoneTo_succ {l : List RuleV} {zs : List ZoneV} {ns : List (List Int)} {k : Nat} {z : ZoneV} (hz : zs[k]? = some z) : zoneTo l zs ns (k + 1) = zoneTo l zs ns k ++ eraFs l ((zs.take k).map ZoneV.name) z.name z.es (ns.getD k []) := by
  unfold zoneTo
  have h : zs.zipIdx[k]? = some (z, k) := by rw [List.getElem?_zipIdx, hz];simp
  rw [List.take_add_one, h, List.flatMap_append]
  simp
theorem zoneTo_all {l : List RuleV} {zs : List ZoneV} {ns : List (List Int)} : zoneTo l zs ns zs.length = zoneFs l zs ns := by
  unfold zoneTo zoneFs
  rw [List.take_of_length_le (by simp)]
theorem eraFs_at {l : List RuleV} {done : List ByteArray} {name : ByteArray} {es : List EraV} {ns : List Int} {i : Nat} {e : EraV} (he : es[i]? = some e) : (eraFs l done name es ns)[i]? = some (ns.getD i 0, eraF l done name es i e) := by
  unfold eraFs
  rw [List.getElem?_map, List.getElem?_zipIdx, he]
  simp
theorem eraFs_len {l : List RuleV} {done : List ByteArray} {name : ByteArray} {es : List EraV} {ns : List Int} : (eraFs l done name es ns).length = es.length := by unfold eraFs;simp
theorem linkFs_at {zs : List ByteArray} {ls : List LinkV} {ns : List Int} {i : Nat} {x : LinkV} (hx : ls[i]? = some x) : (linkFs zs ls ns)[i]? = some (ns.getD i 0, linkF zs ls i x) := by
  unfold linkFs
  rw [List.getElem?_map, List.getElem?_zipIdx, hx]
  simp
theorem linkFs_len {zs : List ByteArray} {ls : List LinkV} {ns : List Int} : (linkFs zs ls ns).length = ls.length := by unfold linkFs;simp
end Ck
end Go.Proofs.YtcfmchpoclkpgaaGreatDoor
