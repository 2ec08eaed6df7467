import Derived.Test.YtcfmchpoclkpgaaGreatDoorG19
import Derived.Test.YtcfmchpoclkpgaaGreatDoorG18
import Derived.Test.YtcfmchpoclkpgaaGreatDoorChkP
namespace Go.Proofs.YtcfmchpoclkpgaaGreatDoor
namespace Bk
end Bk
end Go.Proofs.YtcfmchpoclkpgaaGreatDoor
namespace Go.Proofs.YtcfmchpoclkpgaaGreatDoor
open Go.RowKit Go.ChangeShapes Go.WideShapes
def intC (n : Int) : List Value := [.int .i64 n]
structure RowN where
  v : Value
  ns : List Int
def RowN.cells (r : RowN) : List Value := [r.v]
structure RowN.Fit (w : World) (r : RowN) : Prop where
  h : HoldsG 1 intC w r.v r.ns
  f : ∀ n ∈ r.ns, I64 n
theorem RowN.Fit.later {w w' : World} {r : RowN} (h : r.Fit w) (hb : Below w.heap.size w w') : r.Fit w' := ⟨h.h.later hb, h.f⟩
structure WhV where
  rv : Value
  ev : Value
  lv : Value
  rs : List Int
  es : List RowN
  ls : List Int
def WhV.cells (x : WhV) : List Value := [x.rv, x.ev, x.lv]
structure HoldsW (w : World) (x : WhV) : Prop where
  r : HoldsG 1 intC w x.rv x.rs
  rf : ∀ n ∈ x.rs, I64 n
  e : HoldsG 1 RowN.cells w x.ev x.es
  ef : ∀ y ∈ x.es, y.Fit w
  l : HoldsG 1 intC w x.lv x.ls
  lf : ∀ n ∈ x.ls, I64 n
theorem HoldsW.later {w w' : World} {x : WhV} (h : HoldsW w x) (hb : Below w.heap.size w w') : HoldsW w' x :=
  ⟨h.r.later hb, h.rf, h.e.later hb, fun y hy => (h.ef y hy).later hb, h.l.later hb, h.lf⟩
instance : Inhabited RowN := ⟨⟨.slice none 0 0, []⟩⟩
section
variable {H : Type} {enc : TypeId × Value → H} {w : World} {base : Nat} {spare : Nat → Bool} {held : Bool}
end
end Go.Proofs.YtcfmchpoclkpgaaGreatDoor
namespace Go.Proofs.YtcfmchpoclkpgaaGreatDoor
namespace Ck
theorem run_take {L : List Fault} {i : Nat} {x : Fault} (h : L[i]? = some x) (f : Fault) : run f (L.take (i + 1)) = less (run f (L.take i)) x := by
  rw [List.take_add_one, h]
  exact run_snoc f _ x
def lines (rs : List Int) (es : List (List Int)) (ls : List Int) : List Int := rs ++ ls ++ es.flatten
def zoneOk (p : ZoneV × List Int) : Bool := Zn.zoneB p.1.es && decide (p.2.length = p.1.es.length)
def whereB (nr : Nat) (zs : List ZoneV) (nl : Nat) (rs : List Int) (es : List (List Int)) (ls : List Int) : Bool :=
  decide (rs.length = nr) && (decide (es.length = zs.length) && (decide (ls.length = nl) && ((zs.zip es).all zoneOk && (lines rs es ls).all fun n => decide (1 ≤ n))))
noncomputable def all (l : List RuleV) (zs : List ZoneV) (ls : List LinkV) (rs : List Int) (es : List (List Int)) (ns : List Int) : List Fault :=
  zoneFs l zs es ++ (ruleFs l rs ++ linkFs (zs.map ZoneV.name) ls ns)
noncomputable def chk (l : List RuleV) (zs : List ZoneV) (ls : List LinkV) (rs : List Int) (es : List (List Int)) (ns : List Int) : Fault :=
  if whereB l.length zs ls.length rs es ns = true then run (0, 0) (all l zs ls rs es ns) else (0, 4)
theorem where_parts {nr : Nat} {zs : List ZoneV} {nl : Nat} {rs : List Int} {es : List (List Int)} {ls : List Int} (h : whereB nr zs nl rs es ls = true) :
    rs.length = nr ∧ es.length = zs.length ∧ ls.length = nl ∧ (∀ p ∈ zs.zip es, Zn.zoneB p.1.es = true ∧ p.2.length = p.1.es.length) ∧ ∀ n ∈ lines rs es ls, 1 ≤ n := by
  unfold whereB at h
  simp only [Bool.and_eq_true, decide_eq_true_eq, List.all_eq_true] at h
  obtain ⟨h1, h2, h3, h4, h5⟩ := h
  refine ⟨h1, h2, h3, fun p hp => ?_, h5⟩
  have := h4 p hp
  unfold zoneOk at this
  simpa using this
theorem whereB_of {nr : Nat} {zs : List ZoneV} {nl : Nat} {rs : List Int} {es : List (List Int)} {ls : List Int} (h1 : rs.length = nr) (h2 : es.length = zs.length) (h3 : ls.length = nl) (h4 : (zs.zip es).all zoneOk = true) (h5 : ((lines rs es ls).all fun n => decide (1 ≤ n)) = true) : whereB nr zs nl rs es ls = true := by
  unfold whereB
  rw [decide_eq_true h1, decide_eq_true h2, decide_eq_true h3, h4, h5]
  rfl
theorem getD_mem {l : List Int} {i : Nat} (h : i < l.length) : l.getD i 0 ∈ l := by
  rw [List.getD_eq_getElem?_getD, List.getElem?_eq_getElem h]
  exact List.getElem_mem h
theorem zone_line {l : List RuleV} {zs : List ZoneV} {es : List (List Int)} (h : ∀ p ∈ zs.zip es, p.2.length = p.1.es.length) (hl : es.length = zs.length) {p : Fault} (hp : p ∈ zoneFs l zs es) : p.1 ∈ es.flatten := by
  unfold zoneFs at hp
  rw [List.mem_flatMap] at hp
  obtain ⟨⟨z, k⟩, hz, hp⟩ := hp
  rw [List.mem_zipIdx_iff_getElem?] at hz
  unfold eraFs at hp
  rw [List.mem_map] at hp
  obtain ⟨⟨e, i⟩, he, rfl⟩ := hp
  rw [List.mem_zipIdx_iff_getElem?] at he
  dsimp only at *
  have hk : k < es.length := by rw [hl];exact (List.getElem?_eq_some_iff.1 hz).1
  have hr : es[k]? = some es[k] := List.getElem?_eq_getElem hk
  have hlen : (es[k]).length = z.es.length := h (z, es[k]) (List.mem_of_getElem? (List.getElem?_zip_eq_some.2 ⟨hz, hr⟩))
  rw [List.mem_flatten]
  refine ⟨es[k], List.getElem_mem hk, ?_⟩
  rw [List.getD_eq_getElem?_getD (l := es), hr]
  exact getD_mem (by rw [hlen];exact (List.getElem?_eq_some_iff.1 he).1)
theorem rule_line {l : List RuleV} {rs : List Int} (h : rs.length = l.length) {p : Fault} (hp : p ∈ ruleFs l rs) : p.1 ∈ rs := by
  unfold ruleFs at hp
  rw [List.mem_map] at hp
  obtain ⟨i, hi, rfl⟩ := hp
  exact getD_mem (by rw [h];exact List.mem_range.1 hi)
theorem link_line {zs : List ByteArray} {ls : List LinkV} {ns : List Int} (h : ns.length = ls.length) {p : Fault} (hp : p ∈ linkFs zs ls ns) : p.1 ∈ ns := by
  unfold linkFs at hp
  rw [List.mem_map] at hp
  obtain ⟨⟨x, i⟩, hx, rfl⟩ := hp
  rw [List.mem_zipIdx_iff_getElem?] at hx
  exact getD_mem (by rw [h];exact (List.getElem?_eq_some_iff.1 hx).1)
structure Fine (l : List RuleV) (zs : List ZoneV) (ls : List LinkV) : Prop where
  rules : Chk.check l = (-1, 0)
  zones : Bk.twice [] (zs.map ZoneV.name) < 0
  links : Bk.twice (zs.map ZoneV.name) (ls.map LinkV.name) < 0
  find : ∀ x ∈ ls, (Bk.find (zs.map ZoneV.name) ls x.name).2 = 0
  eras : ∀ z ∈ zs, Unt.checkU l z.es = (-1, 0)
  named : ∀ z ∈ zs, ∀ e ∈ z.es, e.kind = 2 → named l e.rules = true
def up (m n : Nat) : List Int := (List.range n).map fun i => ((m + i + 1 : Nat) : Int)
theorem up_len (m n : Nat) : (up m n).length = n := by unfold up;simp
theorem up_zero (m : Nat) : up m 0 = [] := rfl
theorem up_succ (m n : Nat) : up m (n + 1) = up m n ++ [((m + n + 1 : Nat) : Int)] := by
  unfold up
  rw [List.range_succ, List.map_append]
  rfl
theorem up_mem {m n : Nat} {x : Int} (h : x ∈ up m n) : (m : Int) < x ∧ x ≤ ((m + n : Nat) : Int) := by
  unfold up at h
  rw [List.mem_map] at h
  obtain ⟨i, hi, rfl⟩ := h
  have := List.mem_range.1 hi
  omega
def sumE : List ZoneV → Nat
  | [] => 0
  | z :: zs => z.es.length + sumE zs
def upE : Nat → List ZoneV → List (List Int)
  | _, [] => []
  | m, z :: zs => up m z.es.length :: upE (m + z.es.length) zs
theorem sumE_snoc : ∀ (zs : List ZoneV) (z : ZoneV), sumE (zs ++ [z]) = sumE zs + z.es.length
  | [], z => by simp [sumE]
  | y :: zs, z => by
    show y.es.length + sumE (zs ++ [z]) = y.es.length + sumE zs + z.es.length
    rw [sumE_snoc zs z]
    omega
theorem upE_snoc : ∀ (m : Nat) (zs : List ZoneV) (z : ZoneV), upE m (zs ++ [z]) = upE m zs ++ [up (m + sumE zs) z.es.length]
  | m, [], z => rfl
  | m, y :: zs, z => by
    show up m y.es.length :: upE (m + y.es.length) (zs ++ [z]) = up m y.es.length :: (upE (m + y.es.length) zs ++ [up (m + (y.es.length + sumE zs)) z.es.length])
    rw [upE_snoc (m + y.es.length) zs z, Nat.add_assoc]
theorem upE_len : ∀ (m : Nat) (zs : List ZoneV), (upE m zs).length = zs.length
  | _, [] => rfl
  | m, z :: zs => by
    show (upE (m + z.es.length) zs).length + 1 = zs.length + 1
    rw [upE_len]
theorem upE_mem : ∀ {m : Nat} {zs : List ZoneV} {x : Int}, x ∈ (upE m zs).flatten → (m : Int) < x ∧ x ≤ ((m + sumE zs : Nat) : Int)
  | m, [], x, h => by simp [upE] at h
  | m, z :: zs, x, h => by
    have h' : x ∈ up m z.es.length ++ (upE (m + z.es.length) zs).flatten := h
    show (m : Int) < x ∧ x ≤ ((m + (z.es.length + sumE zs) : Nat) : Int)
    rcases List.mem_append.1 h' with h1|h1
    · have := up_mem h1
      omega
    · have := upE_mem h1
      omega
theorem upE_zip : ∀ {m : Nat} {zs : List ZoneV} {p : ZoneV × List Int}, p ∈ zs.zip (upE m zs) → p.2.length = p.1.es.length
  | m, [], p, h => by simp at h
  | m, z :: zs, p, h => by
    have h' : p ∈ (z, up m z.es.length) :: zs.zip (upE (m + z.es.length) zs) := h
    rcases List.mem_cons.1 h' with rfl|h1
    · exact up_len _ _
    · exact upE_zip h1
theorem where_plain (n : Nat) (zs : List ZoneV) (k : Nat) : whereB n zs k (up 0 n) (upE n zs) (up (n + sumE zs) k) = zs.all fun z => Zn.zoneB z.es := by
  unfold whereB
  rw [up_len, upE_len, up_len, decide_eq_true rfl, decide_eq_true rfl, decide_eq_true rfl, Bool.true_and, Bool.true_and, Bool.true_and]
  have h1 : ((lines (up 0 n) (upE n zs) (up (n + sumE zs) k)).all fun n => decide (1 ≤ n)) = true := by
    rw [List.all_eq_true]
    intro x hx
    rw [decide_eq_true_eq]
    unfold lines at hx
    rcases List.mem_append.1 hx with hx|hx
    · rcases List.mem_append.1 hx with hx|hx
      · have := up_mem hx;omega
      · have := up_mem hx;omega
    · have := upE_mem hx;omega
  rw [h1, Bool.and_true, Bool.eq_iff_iff, List.all_eq_true, List.all_eq_true]
  constructor
  · intro h z hz
    obtain ⟨i, hi⟩ := List.getElem?_of_mem hz
    have hi2 : i < (upE n zs).length := by rw [upE_len];exact (List.getElem?_eq_some_iff.1 hi).1
    have := h (z, (upE n zs)[i]) (List.mem_of_getElem? (List.getElem?_zip_eq_some.2 ⟨hi, List.getElem?_eq_getElem hi2⟩))
    unfold zoneOk at this
    rw [Bool.and_eq_true] at this
    exact this.1
  · intro h p hp
    unfold zoneOk
    rw [h p.1 (List.of_mem_zip hp).1, decide_eq_true (upE_zip hp)]
    rfl
noncomputable def chkP (l : List RuleV) (zs : List ZoneV) (ls : List LinkV) : Fault := chk l zs ls (up 0 l.length) (upE l.length zs) (up (l.length + sumE zs) ls.length)
theorem one_plain (l : List RuleV) (zs : List ZoneV) (ls ms : List LinkV) :
    (((l.length + sumE zs : Nat) : Int) < (chkP l zs ls).1 ∧ (((l.length + sumE zs : Nat) : Int) < (chkP l zs ms).1 ∨ chkP l zs ms = (0, 0))) ∨
    (chkP l zs ls = (0, 0) ∧ (((l.length + sumE zs : Nat) : Int) < (chkP l zs ms).1 ∨ chkP l zs ms = (0, 0))) ∨ chkP l zs ls = chkP l zs ms := by
  unfold chkP chk
  rw [where_plain, where_plain]
  by_cases h : (zs.all fun z => Zn.zoneB z.es) = true
  · rw [if_pos h, if_pos h]
    unfold all
    rw [← List.append_assoc, ← List.append_assoc]
    refine one_law (first := ((l.length + sumE zs : Nat) : Int)) ?_ ?_ ?_
    · intro p hp
      rcases List.mem_append.1 hp with hp|hp
      · have := upE_mem (zone_line (fun p hp => upE_zip hp) (upE_len _ _) hp)
        omega
      · have := up_mem (rule_line (up_len _ _) hp)
        omega
    · intro p hp
      exact (up_mem (link_line (up_len _ _) hp)).1
    · intro p hp
      exact (up_mem (link_line (up_len _ _) hp)).1
  · rw [if_neg h, if_neg h]
    exact .inr (.inr rfl)
noncomputable def zoneTo (l : List RuleV) (zs : List ZoneV) (ns : List (List Int)) (k : Nat) : List Fault := (zs.zipIdx.take k).flatMap fun p => eraFs l ((zs.take p.2).map ZoneV.name) p.1.name p.1.es (ns.getD p.2 [])
theorem zoneTo_zero (l : List RuleV) (zs : List ZoneV) (ns : List (List Int)) : zoneTo l zs ns 0 = [] := rfl
theorem zoneTo_succ {l : List RuleV} {zs : List ZoneV} {ns : List (List Int)} {k : Nat} {z : ZoneV} (hz : zs[k]? = some z) : zoneTo l zs ns (k + 1) = zoneTo l zs ns k ++ eraFs l ((zs.take k).map ZoneV.name) z.name z.es (ns.getD k []) := by
  unfold zoneTo
  have h : zs.zipIdx[k]? = some (z, k) := by rw [List.getElem?_zipIdx, hz];simp
  rw [List.take_add_one, h, List.flatMap_append]
  simp
theorem zoneTo_all {l : List RuleV} {zs : List ZoneV} {ns : List (List Int)} : zoneTo l zs ns zs.length = zoneFs l zs ns := by
  unfold zoneTo zoneFs
  rw [List.take_of_length_le (by simp)]
theorem eraFs_at {l : List RuleV} {done : List ByteArray} {name : ByteArray} {es : List EraV} {ns : List Int} {i : Nat} {e : EraV} (he : es[i]? = some e) : (eraFs l done name es ns)[i]? = some (ns.getD i 0, eraF l done name es i e) := by
  unfold eraFs
  rw [List.getElem?_map, List.getElem?_zipIdx, he]
  simp
theorem eraFs_len {l : List RuleV} {done : List ByteArray} {name : ByteArray} {es : List EraV} {ns : List Int} : (eraFs l done name es ns).length = es.length := by unfold eraFs;simp
theorem linkFs_at {zs : List ByteArray} {ls : List LinkV} {ns : List Int} {i : Nat} {x : LinkV} (hx : ls[i]? = some x) : (linkFs zs ls ns)[i]? = some (ns.getD i 0, linkF zs ls i x) := by
  unfold linkFs
  rw [List.getElem?_map, List.getElem?_zipIdx, hx]
  simp
theorem linkFs_len {zs : List ByteArray} {ls : List LinkV} {ns : List Int} : (linkFs zs ls ns).length = ls.length := by unfold linkFs;simp
end Ck
end Go.Proofs.YtcfmchpoclkpgaaGreatDoor
