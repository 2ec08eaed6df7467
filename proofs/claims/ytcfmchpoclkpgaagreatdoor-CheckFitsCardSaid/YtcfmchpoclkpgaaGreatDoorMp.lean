import Derived.Test.YtcfmchpoclkpgaaGreatDoorG13
import Derived.Maps.OwnIn
import Derived.Maps.OwnSet
import Derived.Sort.KeysCollected
import Derived.WideKeyEntry
namespace Go.Proofs.YtcfmchpoclkpgaaGreatDoor
namespace Mp
open Go.RowKit Go.ChangeMaps Go.MapKept Go.ChangeShapes
open Go.WideElems (Fit rd rg pl rd_val rd_mk other_key)
open Go.Maps (Keyed)
abbrev Ent := ByteArray × Value
def get (L : List Ent) (s : ByteArray) : Option Value := (L.find? fun p => decide (p.1 = s)).map (·.2)
def put : List Ent → ByteArray → Value → List Ent
  | [], s, v => [(s, v)]
  | p :: r, s, v => if p.1 = s then (s, v) :: r else p :: put r s v
theorem get_cons (p : Ent) (r : List Ent) (s : ByteArray) : get (p :: r) s = if p.1 = s then some p.2 else get r s := by
  unfold get
  rw [List.find?_cons]
  by_cases h : p.1 = s <;> simp [h]
theorem get_put (s s' : ByteArray) (v : Value) : ∀ L : List Ent, get (put L s v) s' = if s = s' then some v else get L s'
  | [] => by
    unfold put
    rw [get_cons]
  | p :: r => by
    unfold put
    split
    · rename_i h
      rw [get_cons, get_cons]
      by_cases h2 : s = s'
      · simp [h2]
      · rw [if_neg h2, if_neg h2, if_neg (by rw [h];exact h2)]
    · rename_i h
      rw [get_cons, get_put s s' v r, get_cons]
      by_cases h2 : p.1 = s'
      · rw [if_pos h2, if_pos h2, if_neg (fun e => h (h2.trans e.symm))]
      · rw [if_neg h2, if_neg h2]
theorem put_len (s : ByteArray) (v : Value) : ∀ L : List Ent, (put L s v).length ≤ L.length + 1
  | [] => by simp [put]
  | p :: r => by
    unfold put
    split
    · simp
    · have := put_len s v r
      simp only [List.length_cons]
      omega
open Classical in
theorem put_keys (s : ByteArray) (v : Value) : ∀ L : List Ent, (put L s v).map (·.1) = if s ∈ L.map (·.1) then L.map (·.1) else L.map (·.1) ++ [s]
  | [] => by simp [put]
  | p :: r => by
    unfold put
    by_cases h : p.1 = s
    · rw [if_pos h]
      simp [h]
    · rw [if_neg h, List.map_cons, put_keys s v r]
      by_cases h2 : s ∈ r.map (·.1)
      · rw [if_pos h2, if_pos (by simp only [List.map_cons, List.mem_cons];exact .inr h2)]
        rfl
      · rw [if_neg h2, if_neg (by simp only [List.map_cons, List.mem_cons];rintro (e|e);(exact h e.symm);(exact h2 e))]
        rfl
theorem get_mem {L : List Ent} {s : ByteArray} {v : Value} (h : get L s = some v) : (s, v) ∈ L := by
  unfold get at h
  obtain ⟨p, hp, rfl⟩ := Option.map_eq_some_iff.1 h
  have h1 := List.find?_some hp
  have h2 := List.mem_of_find?_eq_some hp
  simp only [decide_eq_true_eq] at h1
  subst h1
  exact h2
theorem get_none {L : List Ent} {s : ByteArray} : get L s = none ↔ s ∉ L.map (·.1) := by
  unfold get
  rw [Option.map_eq_none_iff, List.find?_eq_none, List.mem_map]
  constructor
  · rintro h ⟨p, hp, rfl⟩
    exact absurd (decide_eq_true rfl) (h p hp)
  · intro h p hp e
    exact h ⟨p, hp, of_decide_eq_true e⟩
def Lies (w : World) (P : Program) (k : TypeId) (b : Nat) (L : List Ent) : Prop :=
  ∃ es clock, w.heap[b]? = some (.map es clock) ∧ Fit P k Grp.R0 es clock ∧ es.toList.map (fun x => (x.key, x.val)) = L.map fun p => (Value.string p.1, p.2)
variable {w : World} {P : Program} {k e t : TypeId} {b : Nat} {L : List Ent}
theorem made (w : World) (P : Program) (k : TypeId) : Lies (w.alloc (.map #[] 0)) P k w.heap.size [] := ⟨#[], 0, (MapKept.heap_alloc w _).1, ⟨by simp, stamped_empty 0, by simp⟩, rfl⟩
theorem Lies.lt (h : Lies w P k b L) : b < w.heap.size := by
  obtain ⟨es, clock, hb, _⟩ := h
  exact (Array.getElem?_eq_some_iff.1 hb).1
theorem Lies.same {w' : World} (h : Lies w P k b L) (he : w'.heap[b]? = w.heap[b]?) : Lies w' P k b L := by
  obtain ⟨es, clock, hb, r⟩ := h
  exact ⟨es, clock, he.trans hb, r⟩
theorem Lies.kept {w' : World} {row : Option Nat} (h : Lies w P k b L) (hg : w.grownBy w' row) (hne : some b ≠ row) : Lies w' P k b L := h.same (hg.block b h.lt hne)
theorem Lies.later {w' : World} (h : Lies w P k b L) (hb : Below w.heap.size w w') : Lies w' P k b L := h.same (hb.block b h.lt)
theorem Lies.old (h : Lies w P k b L) (o : Obj) : Lies (w.alloc o) P k b L := h.later ((Below.refl _ _).alloc (Nat.le_refl _) _)
theorem Lies.other {n j : Nat} {v : Value} (h : Lies w P k b L) (hn : b ≠ n) : Lies (w.setCell ⟨n, j, none⟩ v) P k b L := h.same (Below.heap_setCell w ⟨n, j, none⟩ v b hn)
theorem mem_of {es : Array MapEntry} (hL : es.toList.map (fun x => (x.key, x.val)) = L.map fun p => (Value.string p.1, p.2)) {x : MapEntry} (hx : x ∈ es.toList) : ∃ p ∈ L, x.key = .string p.1 ∧ x.val = p.2 := by
  have : (x.key, x.val) ∈ L.map fun p => (Value.string p.1, p.2) := by rw [← hL];exact List.mem_map.2 ⟨x, hx, rfl⟩
  obtain ⟨p, hp, e1⟩ := List.mem_map.1 this
  simp only [Prod.mk.injEq] at e1
  exact ⟨p, hp, e1.1.symm, e1.2.symm⟩
theorem of_mem {es : Array MapEntry} (hL : es.toList.map (fun x => (x.key, x.val)) = L.map fun p => (Value.string p.1, p.2)) {p : Ent} (hp : p ∈ L) : ∃ x ∈ es.toList, x.key = .string p.1 ∧ x.val = p.2 := by
  have : (Value.string p.1, p.2) ∈ es.toList.map fun x => (x.key, x.val) := by rw [hL];exact List.mem_map.2 ⟨p, hp, rfl⟩
  obtain ⟨x, hx, e1⟩ := List.mem_map.1 this
  simp only [Prod.mk.injEq] at e1
  exact ⟨x, hx, e1.1, e1.2⟩
theorem keys_apart {es : Array MapEntry} {clock : Nat} (F : Fit P k Grp.R0 es clock) (hL : es.toList.map (fun x => (x.key, x.val)) = L.map fun p => (Value.string p.1, p.2)) : (L.map (·.1)).Nodup := by
  have hn : es.toList.Pairwise (fun x y => x.key ≠ y.key) := ((stamped_iff es clock).1 F.stamped).2.2
  have h1 : (es.toList.map (fun x => (x.key, x.val))).Pairwise (fun x y => x.1 ≠ y.1) := by rw [List.pairwise_map];exact hn
  rw [hL, List.pairwise_map] at h1
  unfold List.Nodup
  rw [List.pairwise_map]
  exact h1.imp (fun h e => h (by rw [e]))
theorem find_nodup {L : List Ent} (hn : (L.map (·.1)).Nodup) {p : Ent} (hp : p ∈ L) : get L p.1 = some p.2 := by
  induction L with
  | nil => cases hp
  | cons q r ih =>
    rw [get_cons]
    rw [List.map_cons, List.nodup_cons] at hn
    rcases List.mem_cons.1 hp with rfl|h
    · rw [if_pos rfl]
    · rw [if_neg (fun e : q.1 = p.1 => hn.1 (by rw [e];exact List.mem_map.2 ⟨p, h, rfl⟩))]
      exact ih hn.2 h
theorem Lies.look (c : Bool) (h : Lies w P k b L) (K : Keyed P k) (ht : P.underlying t = some (.map k e)) {z : Value} (hz : (zeroValue e).run P w = .ok z w) {s : ByteArray} {kl : Lit} (hkey : keyOf P k (.string s) = some kl) :
    (Instr.lookup t (.map (some b)) (.string s) c).run P w = .ok (if c then .tuple #[(get L s).getD z, .bool (get L s).isSome] else (get L s).getD z) w := by
  obtain ⟨es, clock, hb, F, hL⟩ := h
  rcases Maps.fit_look c K ht hz hb F hkey with ⟨hrun, hno, _⟩|⟨e0, y, hm, hk, hrun, _⟩
  · have : get L s = none := get_none.2 (fun hm => by
      obtain ⟨p, hp, rfl⟩ := List.mem_map.1 hm
      obtain ⟨x, hx, e1, _⟩ := of_mem hL hp
      exact hno x hx e1)
    rw [this]
    exact hrun
  · obtain ⟨p, hp, e1, e2⟩ := mem_of hL hm
    obtain rfl : p.1 = s := by rw [hk] at e1;injection e1 with e1;exact e1.symm
    rw [find_nodup (keys_apart F hL) hp, ← e2]
    exact hrun
theorem Lies.len (h : Lies w P k b L) (ht : P.underlying t = some (.map k e)) (ty : TypeId) : (Builtin.len_ #[t] ty #[.map (some b)]).run P w = .ok (.int .i64 L.length) w := by
  obtain ⟨es, clock, hb, F, hL⟩ := h
  have h1 : w.ownsMap P k (Grp.R0) b es.size (.map ((es.toList.map (rg P k Grp.R0)).foldr DataW.insert [])) := ⟨es, clock, hb, F, Nat.le_refl _, rfl⟩
  rw [h1.len ht ty]
  have h2 : Maps.size (DataW.map ((es.toList.map (rg P k Grp.R0)).foldr DataW.insert [])) = L.length := by
    show List.length _ = _
    rw [length_sorted, List.length_map]
    have := congrArg List.length hL
    simpa using this
  rw [h2]
theorem put_at {s : ByteArray} {v : Value} : ∀ {L : List Ent} {j : Nat} {p : Ent}, (L.map (·.1)).Nodup → L[j]? = some p → p.1 = s → put L s v = L.set j (s, v)
  | [], j, p, _, h, _ => by simp at h
  | q :: r, 0, p, _, h, hs => by
    simp at h
    subst h
    unfold put
    rw [if_pos hs]
    rfl
  | q :: r, j + 1, p, hn, h, hs => by
    rw [List.map_cons, List.nodup_cons] at hn
    have h' : r[j]? = some p := by simpa using h
    unfold put
    rw [if_neg (fun e => hn.1 (List.mem_map.2 ⟨p, List.mem_of_getElem? h', hs.trans e.symm⟩)), put_at hn.2 h' hs]
    rfl
theorem put_new {s : ByteArray} {v : Value} : ∀ {L : List Ent}, s ∉ L.map (·.1) → put L s v = L ++ [(s, v)]
  | [], _ => rfl
  | q :: r, h => by
    unfold put
    rw [if_neg (fun e => h (by simp [e])), put_new (L := r) (fun hm => h (by simp only [List.map_cons, List.mem_cons];exact .inr hm))]
    rfl
theorem Lies.update (h : Lies w P k b L) (K : Keyed P k) (ht : P.underlying t = some (.map k e)) (hn : L.length < maxLen) {s : ByteArray} {kl : Lit} (hkey : keyOf P k (.string s) = some kl) (v : Value) :
    ∃ w', (Instr.mapUpdate t (.map (some b)) (.string s) v).run P w = .ok () w' ∧ Lies w' P k b (put L s v) ∧ w.grownBy w' (some b) := by
  obtain ⟨es, clock, hb, hF, hL⟩ := h
  have hsz : es.size = L.length := by have := congrArg List.length hL;simpa using this
  have hg : ∀ o : Obj, w.grownBy (setBlock w b o) (some b) := fun o => ⟨rfl, rfl, rfl, by simp [setBlock], fun i _ hi => heap_setBlock_other hb _ (fun e => hi (by rw [e]))⟩
  rcases K.find w hkey es.toList hF.keys with ⟨h1, h2⟩|⟨j, e0, h1, h2, h3⟩
  · refine ⟨setBlock w b (.map (es.push ⟨.string s, v, clock⟩) (clock + 1)), ?_, ⟨_, _, heap_setBlock_same hb _, ⟨by simp;omega, stamped_push hF.stamped h2, ?_⟩, ?_⟩, hg _⟩
    · simp [Instr.mapUpdate, run_underlying ht, MapKept.run_getObj_map hb, K.check w false hkey, h1, MapKept.run_setObj_map _ hb, Result.andThen, setBlock]
    · intro x hx
      simp only [Array.toList_push, List.mem_append, List.mem_singleton] at hx
      rcases hx with hx|rfl
      · exact hF.reads x hx
      · exact ⟨_, rd_mk hkey rfl⟩
    · rw [put_new (fun hm => by
        obtain ⟨p, hp, rfl⟩ := List.mem_map.1 hm
        obtain ⟨x, hx, e1, _⟩ := of_mem hL hp
        exact h2 x hx e1)]
      simp [hL]
  · have hj : es[j]? = some e0 := by simpa using h2
    have hkeyf : ∀ e', es[j]? = some e' → ({ e' with key := .string s, val := v } : MapEntry).key = e'.key := fun e' he' => by rw [hj] at he';cases he';exact h3.symm
    have hlist : (es.modify j (fun e' => { e' with key := .string s, val := v })).toList = es.toList.set j { e0 with key := .string s, val := v } := by rw [Array.toList_modify, modify_eq_set _ _ _ _ h2]
    have hjl : j < es.toList.length := (List.getElem?_eq_some_iff.1 h2).1
    have who : ∀ x ∈ es.toList.set j { e0 with key := .string s, val := v }, x = { e0 with key := .string s, val := v } ∨ x ∈ es.toList := fun x hx => (List.mem_or_eq_of_mem_set hx).symm
    refine ⟨setBlock w b (.map (es.modify j (fun e' => { e' with key := .string s, val := v })) clock), ?_, ⟨_, _, heap_setBlock_same hb _, ⟨by simpa using hF.size, stamped_modify hF.stamped _ _ (fun _ _ => rfl) (fun e' _ he' => hkeyf e' he'), ?_⟩, ?_⟩, hg _⟩
    · simp [Instr.mapUpdate, run_underlying ht, MapKept.run_getObj_map hb, K.check w false hkey, h1, hj, h3, K.stays w hkey, MapKept.run_setObj_map _ hb, Result.andThen, setBlock]
    · intro x hx
      rw [hlist] at hx
      rcases who x hx with rfl|hx'
      · exact ⟨_, rd_mk hkey rfl⟩
      · exact hF.reads x hx'
    · have hlj : j < L.length := by rw [← hsz];simpa using hjl
      have hp : L[j]? = some L[j] := List.getElem?_eq_getElem hlj
      have e1 : (Value.string (L[j]).1, (L[j]).2) = (e0.key, e0.val) := by
        have h5 := congrArg (·[j]?) hL
        simp only [List.getElem?_map, h2, hp, Option.map_some] at h5
        exact (Option.some.inj h5).symm
      simp only [Prod.mk.injEq] at e1
      have e2 : (L[j]).1 = s := by have := e1.1;rw [h3] at this;injection this
      rw [hlist, put_at (keys_apart hF hL) hp e2, List.map_set, List.map_set, hL]
theorem wpList_put (w : World) {ops : Array Oper} {rest : List Oper} {o : Oper} {a : Act} {Q : Exit → Act → World → Prop} (hg : o.guard = none) (m x v : Operand) (t : TypeId) (hop : o.op = Op.mapUpdate t m x v)
    (k e : TypeId) (K : Keyed P k) (ht : P.underlying t = some (.map k e)) (b : Nat) (L : List Ent) (hm : a.eval m = .map (some b)) (h : Lies w P k b L) (hn : L.length < maxLen) (s : ByteArray) (val : Value) (kl : Lit)
    (hx : a.eval x = .string s) (hv : a.eval v = val) (hkey : keyOf P k (.string s) = some kl)
    (hK : ∀ w', Lies w' P k b (put L s val) → w.grownBy w' (some b) → wpList P ops Q rest (a.put o.dst undef) w') : wpList P ops Q (o :: rest) a w := by
  refine wpList_plain hg fun K' hK' => ?_
  obtain ⟨w', hrun, r1, r2⟩ := h.update K ht hn hkey val
  unfold Oper.wp
  simp [execOp, hop, hm, hx, hv, hrun, Result.andThen]
  exact hK' _ _ (hK w' r1 r2)
theorem Lies.entry (h : Lies w P k b L) (K : WideMaps.KeyLaw P k) (ht : P.underlying t = some (.map k e)) (hn : L.length < maxLen) {z : Value} (hz : ∀ u : World, (zeroValue e).run P u = .ok z u) {s : ByteArray} {kl : Lit} (hkey : keyOf P k (.string s) = some kl) (val : Value) :
    ∃ (v0 : Value) (st : Nat) (o1 o2 : Obj), (∀ u : World, u.heap[b]? = w.heap[b]? → (Instr.mapEntry t (.map (some b)) (.string s)).run P u = .ok (.tuple #[v0, goInt st]) (setBlock u b o1)) ∧
      (∀ u : World, u.heap[b]? = some o1 → (Instr.entryStore t (.map (some b)) (goInt st) val).run P u = .ok () (setBlock u b o2)) ∧ (∀ u : World, u.heap[b]? = some o2 → Lies u P k b (put L s val)) := by
  obtain ⟨w', hup, hl', hg'⟩ := h.update (Keyed.of_law K) ht hn hkey val
  obtain ⟨es, clock, hb, hF, hL⟩ := h
  obtain ⟨v0, st, es1, clock1, hr1, hv0, hst⟩ := WideElems.entry_then_store K ht hz hb hF hkey
  have hb1 : (setBlock w b (.map es1 clock1)).heap[b]? = some (.map es1 clock1) := heap_setBlock_same hb _
  obtain ⟨es2, clock2, hr2, hr3⟩ := hst _ val hb1
  have hw' : w' = setBlock w b (.map es2 clock2) := by
    rw [hr3] at hup
    injection hup with _ h1
    exact h1.symm
  refine ⟨v0, st, .map es1 clock1, .map es2 clock2, fun u hu => ?_, fun u hu => ?_, fun u hu => hl'.same (by rw [hu, hw', heap_setBlock_same hb _])⟩
  · obtain ⟨s1, s2, s3⟩ := hF.stamped
    rcases K.find u hkey es.toList hF.keys with ⟨h1, h2⟩|⟨j, e0, h1, h2, h3⟩ <;> rcases K.find w hkey es.toList hF.keys with ⟨g1, g2⟩|⟨i, e9, g1, g2, g3⟩
    · have hu' := hu.trans hb
      simp only [Instr.mapEntry, Sem.run_bind, run_underlying ht, MapKept.run_getObj_map hb, MapKept.run_getObj_map hu', K.check w false hkey, K.check u false hkey, g1, h1, hz, MapKept.run_setObj_map _ hb, MapKept.run_setObj_map _ hu', Result.andThen] at hr1 ⊢
      rw [Sem.run_pure] at hr1 ⊢
      injection hr1 with a1 a2
      have a3 := congrArg (fun w : World => w.heap[b]?) a2
      have hbl : b < w.heap.size := (Array.getElem?_eq_some_iff.1 hb).1
      simp only [heap_setBlock_same hb, Array.getElem?_setIfInBounds_self_of_lt hbl] at a3
      injection a3 with a3
      rw [a1, a3]
      rfl
    · exact absurd g3 (h2 e9 (List.mem_of_getElem? g2))
    · exact absurd h3 (g2 e0 (List.mem_of_getElem? h2))
    · have hij : i = j := by
        by_cases hne : i = j
        · exact hne
        · exact absurd (g3.trans h3.symm) (other_key hF h2 g2 hne)
      subst hij
      have hu' := hu.trans hb
      simp only [Instr.mapEntry, Sem.run_bind, run_underlying ht, MapKept.run_getObj_map hb, MapKept.run_getObj_map hu', K.check w false hkey, K.check u false hkey, g1, h1, Result.andThen] at hr1 ⊢
      have he : es[i]? = some e9 := by simpa using g2
      obtain rfl : e9 = e0 := by rw [g2] at h2;exact Option.some.inj h2
      simp only [he, Option.map_some, Option.getD_some, g3, K.stays w hkey, K.stays u hkey, MapKept.run_setObj_map _ hb, MapKept.run_setObj_map _ hu'] at hr1 ⊢
      rw [Sem.run_pure] at hr1 ⊢
      injection hr1 with a1 a2
      have a3 := congrArg (fun w : World => w.heap[b]?) a2
      have hbl : b < w.heap.size := (Array.getElem?_eq_some_iff.1 hb).1
      simp only [heap_setBlock_same hb, Array.getElem?_setIfInBounds_self_of_lt hbl] at a3
      injection a3 with a3
      rw [a1, a3]
      rfl
  · obtain ⟨es3, clock3, hr4, hr5⟩ := hst u val hu
    rw [hr5] at hr3
    injection hr3 with _ h1
    have h2 := congrArg (fun w : World => w.heap[b]?) h1
    simp only [heap_setBlock_same hb] at h2
    rw [hr4]
    injection h2 with h2
    rw [h2]
theorem Lies.store (h : Lies w P k b L) (K : WideMaps.KeyLaw P k) (ht : P.underlying t = some (.map k e)) (hn : L.length < maxLen) {z : Value} (hz : ∀ u : World, (zeroValue e).run P u = .ok z u) {s : ByteArray} {kl : Lit} (hkey : keyOf P k (.string s) = some kl) (val : Value) :
    ∃ o2 : Obj, (∀ u : World, u.heap[b]? = w.heap[b]? → (Instr.mapUpdate t (.map (some b)) (.string s) val).run P u = .ok () (setBlock u b o2)) ∧ (∀ u : World, u.heap[b]? = some o2 → Lies u P k b (put L s val)) := by
  obtain ⟨v0, st, o1, o2, h1, h2, h3⟩ := h.entry K ht hn hz hkey val
  refine ⟨o2, fun u hu => ?_, h3⟩
  obtain ⟨es, clock, hb, hF, hL⟩ := h
  have hu' := hu.trans hb
  obtain ⟨v9, st9, es1, clock1, hr1, _, hst⟩ := WideElems.entry_then_store K ht hz hu' hF hkey
  have e1 := h1 u hu
  rw [hr1] at e1
  injection e1 with a1 a2
  have a3 := congrArg (fun w : World => w.heap[b]?) a2
  simp only [heap_setBlock_same hu'] at a3
  injection a3 with a3
  have hw2 : (setBlock u b o1).heap[b]? = some (.map es1 clock1) := by rw [heap_setBlock_same hu', a3]
  obtain ⟨es2, clock2, hr2, hr3⟩ := hst _ val hw2
  have e2 := h2 (setBlock u b o1) (heap_setBlock_same hu' _)
  simp only [Value.tuple.injEq] at a1
  have a4 : goInt (st9 : Int) = goInt (st : Int) := by
    have := congrArg (fun a : Array Value => a[1]?) a1
    simpa using this
  rw [a4, e2] at hr2
  injection hr2 with _ b2
  have b3 := congrArg (fun w : World => w.heap[b]?) b2
  simp only [heap_setBlock_same hw2] at b3
  injection b3 with b3
  rw [hr3, b3]
theorem Lies.owns {H : Type} (h : Lies w P k b L) (hk : P.underlying k = some .string) (he : P.underlying e = some .bool) (hv : ∀ p ∈ L, ∃ x, p.2 = .bool x) :
    ∃ D : DataW H, w.ownsMap P k (plainElem P e) b L.length D ∧ Maps.size D = L.length ∧ (strKeys D).Perm (L.map (·.1.data.toList)) := by
  obtain ⟨es, clock, hb, F, hL⟩ := h
  have hsz : es.size = L.length := by have := congrArg List.length hL;simpa using this
  have hr : ∀ x ∈ es.toList, ∃ p, p ∈ L ∧ x.key = .string p.1 ∧ ∃ d, rd P k (plainElem (H := H) P e) x = some (.string p.1.data.toList, d) := fun x hx => by
    obtain ⟨p, hp, e1, e2⟩ := mem_of hL hx
    obtain ⟨y, hy⟩ := hv p hp
    obtain ⟨z, hz⟩ := F.keys x hx
    have h6 : rd P k (plainElem (H := H) P e) x = some (z, .lit (.bool y)) := by
      have h7 : plainElem (H := H) P e x.val = some (.lit (.bool y), []) := by rw [e2, hy];exact plainElem_bool he y
      exact rd_mk hz h7
    obtain ⟨l, el, rfl, _⟩ := Maps.keyOf_str hk hz
    have e3 : l = p.1.data.toList := by
      have h8 := el.symm.trans e1
      unfold encStr at h8
      injection h8 with h8
      rw [← h8]
    exact ⟨p, hp, e1, _, by rw [h6, e3]⟩
  have F' : Fit P k (plainElem (H := H) P e) es clock := ⟨F.size, F.stamped, fun x hx => by
    obtain ⟨p, _, _, d, hd⟩ := hr x hx
    exact ⟨_, hd⟩⟩
  refine ⟨_, ⟨es, clock, hb, F', Nat.le_of_eq hsz, rfl⟩, ?_, ?_⟩
  · show List.length _ = _
    rw [length_sorted, List.length_map]
    simpa using hsz
  · show (List.map _ _).Perm _
    refine (List.Perm.map _ (WideShapes.sorted_perm _)).trans (List.Perm.of_eq ?_)
    rw [List.map_map]
    have h9 : es.toList.map (fun x => (match x.key with|.string s => s.data.toList|_ => [])) = L.map (·.1.data.toList) := by
      have h5 := congrArg (List.map (fun q : Value × Value => match q.1 with|.string s => s.data.toList|_ => [])) hL
      rw [List.map_map, List.map_map] at h5
      exact h5
    rw [← h9]
    refine List.map_congr_left fun x hx => ?_
    obtain ⟨p, _, e1, d, hd⟩ := hr x hx
    rw [e1]
    show strOf (rg P k (plainElem P e) x).1 = _
    unfold WideElems.rg
    rw [hd]
    rfl
end Mp
end Go.Proofs.YtcfmchpoclkpgaaGreatDoor
