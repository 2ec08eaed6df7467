/-
  Rows of k cells an element that a call owns: copy and clear over a block that is known whole, and what inserting and deleting leave. No program stands in this text.
-/
import Derived.Test.YtjgodnakhbkgeaaNC
import Derived.Laws.CopyRow
import Derived.Laws.CopyOwn
import Derived.Lib.AppendZerosOnto
import Derived.Deep.AppendLies
import Derived.Laws.OwnMore
import Derived.Lib.Overlaps
import Derived.Laws.Externs
namespace Go.Proofs.Ytjgodnakhbkgeaa
open Go.RowKit NB
namespace OW
variable {P : Program}
theorem run_copy_k (w : World) (dT sT ty elem : TypeId) (k g o dLen dCap : Nat) (a : Addr) (sLen sCap m : Nat) (cur : Array Value) (t : TypeId) (cs : List Value)
    (hu : P.underlying dT = some (.slice elem)) (hs : (P.info? elem).map (·.size) = some k)
    (hg : w.heap[g]? = some (.cells cur t (0, 0))) (hm : m = Nat.min sLen dLen) (hn : cs.length = m * k)
    (hsrc : ∀ j v, cs[j]? = some v → w.cell? (a.add j) = some v) (hfit : o + cs.length ≤ cur.size) (h1 : ∀ v ∈ cs, v.oneCell' = true) :
    (Builtin.copy_ #[dT, sT] ty #[.slice (some ⟨g, o, none⟩) dLen dCap, .slice (some a) sLen sCap]).run P w =
      .ok (goInt m) (w.setRow g (cur.toList.take o ++ cs ++ cur.toList.drop (o + cs.length)).toArray) := by
  have hst := run_storeCells_at P g o t cs 0 cur w hg (by simpa using hfit) h1
  cases hq : P.info? elem with
  | none => simp [hq] at hs
  | some i =>
    have hi : i.size = k := by simpa [hq] using hs
    have hf := run_firstCells_some (P := P) w k m a sLen sCap cs hn hsrc
    simp [Builtin.copy_, run_underlying hu, Builtin.lenOf, sizeOf, typeInfo, hq, hi, ← hm, hf, hst]
theorem run_clear_k (w : World) (t e ty : TypeId) (z : Value) (k : Nat) (ht : P.underlying t = some (.slice e)) (hv : ∀ w, (zeroValue e).run P w = .ok z w) (hz : z.cells.size = k) (h1 : ∀ v ∈ z.cells.toList, v.oneCell' = true) (g o n c : Nat) (hn : 0 < n)
    (cur : Array Value) (tt : TypeId) (hg : w.heap[g]? = some (.cells cur tt (0, 0))) (hfit : o + n * k ≤ cur.size) :
    (Builtin.clear_ #[t] ty #[.slice (some ⟨g, o, none⟩) n c]).run P w = .ok (.tuple #[]) (w.setRow g (cur.toList.take o ++ (Builtin.zeroCells z.cells n).toList ++ cur.toList.drop (o + n * k)).toArray) := by
  have hl : (Builtin.zeroCells z.cells n).toList.length = n * k := by rw [Array.length_toList, size_zeroCells, hz]
  have hst := run_storeCells_at P g o tt (Builtin.zeroCells z.cells n).toList 0 cur w hg (by rw [hl]; simpa using hfit) (by
    intro v hv'
    unfold Builtin.zeroCells at hv'
    rw [Array.mem_toList_iff, Array.mem_map] at hv'
    obtain ⟨i, hi, rfl⟩ := hv'
    rw [Array.mem_range] at hi
    have hp : 0 < z.cells.size := by
      rcases Nat.eq_zero_or_pos z.cells.size with h | h
      · rw [h, Nat.mul_zero] at hi; omega
      · exact h
    rw [getElem!_pos z.cells _ (Nat.mod_lt _ hp)]
    exact h1 _ (by rw [Array.mem_toList_iff]; exact Array.getElem_mem _))
  rw [hl] at hst
  simp only [Nat.add_zero] at hst
  obtain ⟨m, rfl⟩ : ∃ m, n = m + 1 := ⟨n - 1, by omega⟩
  simp [Builtin.clear_, run_underlying ht, hv, hst]
/-- a copy whose run is known, for the walk -/
theorem wp_copy_run (w : World) {o : Oper} {a : Act} {K : Act → World → Prop} {Q : Exit → Act → World → Prop} (d s : Operand) (t t' : TypeId)
    (ho : o.op = .call { callee := .builtin .copy, args := #[d, s], argTypes := #[t, t'] }) (v u : Value) (hd : a.eval d = v) (hs : a.eval s = u) {v' : Value} {w' : World}
    (hr : (Builtin.copy_ #[t, t'] o.type #[v, u]).run P w = .ok v' w') (h : K (a.put o.dst v') w') : o.wp P a w K Q := by
  unfold Oper.wp execOp
  simp only [ho, resolve, invoke, builtin, Sem.run_bind, Sem.run_pure, Result.andThen_ok, List.map_toArray, List.map_cons, List.map_nil, hd, hs, hr]
  exact h
theorem wpList_copy_run (w : World) {ops : Array Oper} {rest : List Oper} {o : Oper} {a : Act} {Q : Exit → Act → World → Prop} (hgd : o.guard = none) (d s : Operand) (t t' : TypeId)
    (ho : o.op = .call { callee := .builtin .copy, args := #[d, s], argTypes := #[t, t'] }) (v u : Value) (hd : a.eval d = v) (hs : a.eval s = u) {v' : Value} {w' : World}
    (hr : (Builtin.copy_ #[t, t'] o.type #[v, u]).run P w = .ok v' w') (h : wpList P ops Q rest (a.put o.dst v') w') : wpList P ops Q (o :: rest) a w :=
  wpList_plain hgd fun _ hK => wp_copy_run w d s t t' ho v u hd hs hr (hK _ _ h)
theorem step_copy_run {ops : Array Oper} {o : Oper} {a : Act} {w : World} {K : Act → World → Prop} {Q : Exit → Act → World → Prop} {E : Prop}
    (hg : o.guard = none) (d x : Operand) (dT sT : TypeId) (hop : o.op = Op.call { callee := Callee.builtin Builtin.copy, args := #[d, x], argTypes := #[dT, sT] })
    (v u : Value) (hd : a.eval d = v) (hx : a.eval x = u) {v' : Value} {w' : World} (hr : (Builtin.copy_ #[dT, sT] o.type #[v, u]).run P w = .ok v' w') (hK : K (a.put o.dst v') w') :
    if Region.wanted o (yielded ops a.tmps) = true then Oper.wp P o a w K Q else E := by
  have hw : Region.wanted o (yielded ops a.tmps) = true := by simp [Region.wanted, hg]
  rw [if_pos hw]
  exact wp_copy_run w d x dT sT hop v u hd hx hr hK
theorem own_setRow {w : World} {base g n cap e k : Nat} {cur cur' : Array Value} {xs : List Value} (hb : base ≤ g) (hg : w.heap[g]? = some (.cells cur e (0, 0))) (hn : n ≤ cap) (hm : cap ≤ maxLen) (hs : cur'.size = cap * k) (hl : cur'.toList.take (n * k) = xs) :
    (w.setRow g cur').ownsRow base e k (.slice (some ⟨g, 0, none⟩) n cap) n xs := by
  refine ⟨?_, .inr ⟨g, cap, cur', rfl, hb, setRow_heap w g cur _ e _ hg, hn, hm, hs, hl⟩⟩
  rw [← hl, List.length_take, Array.length_toList, hs]
  have := Nat.mul_le_mul_right k hn
  omega
theorem grown_setRow (w : World) (g : Nat) (cs : Array Value) : w.grownBy (w.setRow g cs) (some g) :=
  ⟨rfl, rfl, rfl, by simp [World.setRow], fun k _ hk => setRow_other w g k cs (fun e => hk (by rw [e]))⟩
theorem grown_drew {w w' : World} {row : Option Nat} (h : w.grownBy w' row) : w.grownBy w'.drew row := ⟨h.os, h.tape, h.output, h.size, h.block⟩
theorem grown_drew' {w w' : World} {row : Option Nat} (h : w.drew.grownBy w' row) : w.grownBy w' row := ⟨h.os, h.tape, h.output, h.size, h.block⟩
theorem grown_grown {a b c : World} {row : Option Nat} (h : a.grownBy b row) (k : b.grownBy c row) : a.grownBy c row := World.grownBy.trans h k
theorem splice_lists (C ns : List Value) (k n i : Nat) (hi : i ≤ n) (hnl : ns.length = k) (hC : (n + 1) * k ≤ C.length) :
    let cs := (C.take (n * k)).drop (i * k)
    let C1 := C.take ((i + 1) * k) ++ cs ++ C.drop ((i + 1) * k + cs.length)
    let C2 := C1.take (i * k) ++ ns ++ C1.drop (i * k + ns.length)
    cs.length = (n - i) * k ∧ C1.length = C.length ∧ C2.length = C.length ∧ C2.take ((n + 1) * k) = (C.take (n * k)).take (i * k) ++ (ns ++ (C.take (n * k)).drop (i * k)) := by
  have e1 : (n + 1) * k = n * k + k := by rw [Nat.add_mul, Nat.one_mul]
  have e2 : (i + 1) * k = i * k + k := by rw [Nat.add_mul, Nat.one_mul]
  have e3 : (n - i) * k = n * k - i * k := by rw [Nat.sub_mul]
  have e4 : i * k ≤ n * k := Nat.mul_le_mul_right k hi
  rw [e1] at hC
  intro cs C1 C2
  have hcs : cs.length = n * k - i * k := by show (List.drop _ (List.take _ _)).length = _; rw [List.length_drop, List.length_take]; omega
  have hce : cs = (C.take (n * k)).drop (i * k) := rfl
  clear_value cs
  rw [← hce]
  clear hce
  have h1 : C1.length = C.length := by
    show (List.take _ _ ++ cs ++ List.drop _ _).length = _
    rw [List.length_append, List.length_append, List.length_take, List.length_drop, hcs, e2]; omega
  have hA : C1.take (i * k) = C.take (i * k) := by
    show (List.take _ _ ++ cs ++ List.drop _ _).take _ = _
    rw [List.append_assoc, List.take_append_of_le_length (by rw [List.length_take, e2]; omega), List.take_take, e2, Nat.min_eq_left (by omega)]
  have hB : C1.drop (i * k + k) = cs ++ C.drop ((i + 1) * k + cs.length) := by
    show (List.take _ _ ++ cs ++ List.drop _ _).drop _ = _
    rw [List.append_assoc, List.drop_append_of_le_length (by rw [List.length_take, e2]; omega), e2, List.drop_eq_nil_of_le (by rw [List.length_take]; omega), List.nil_append]
  have h2 : C2 = C.take (i * k) ++ (ns ++ (cs ++ C.drop ((i + 1) * k + cs.length))) := by
    show List.take _ C1 ++ ns ++ List.drop _ C1 = _
    rw [hA, hnl, hB, List.append_assoc]
  refine ⟨by rw [hcs, e3], h1, ?_, ?_⟩
  · rw [h2]
    simp only [List.length_append, List.length_take, List.length_drop, hcs, hnl, e2]
    omega
  · rw [h2, List.take_take, Nat.min_eq_left e4, e1]
    have l1 : (C.take (i * k)).length = i * k := by rw [List.length_take]; omega
    rw [List.take_append, l1, List.take_of_length_le (by rw [l1]; omega)]
    congr 1
    rw [List.take_append, hnl, List.take_of_length_le (by rw [hnl]; omega)]
    congr 1
    rw [List.take_append_of_le_length (by rw [hcs]; omega), List.take_of_length_le (by rw [hcs]; omega)]
theorem splice_new (C olds ns cs : List Value) (k n i : Nat) (hi : i ≤ n) (ho : olds.length = i * k) (hnl : ns.length = k) (hcs : cs.length = (n - i) * k) (hC : (n + 1) * k ≤ C.length) (hCo : C.take (i * k) = olds) :
    let C1 := C.take (i * k) ++ ns ++ C.drop (i * k + ns.length)
    let C2 := C1.take ((i + 1) * k) ++ cs ++ C1.drop ((i + 1) * k + cs.length)
    C1.length = C.length ∧ C2.length = C.length ∧ C2.take ((n + 1) * k) = olds ++ (ns ++ cs) := by
  have e1 : (n + 1) * k = n * k + k := by rw [Nat.add_mul, Nat.one_mul]
  have e2 : (i + 1) * k = i * k + k := by rw [Nat.add_mul, Nat.one_mul]
  have e3 : (n - i) * k = n * k - i * k := by rw [Nat.sub_mul]
  have e4 : i * k ≤ n * k := Nat.mul_le_mul_right k hi
  rw [e1] at hC
  rw [e3] at hcs
  intro C1 C2
  have hC1 : C1 = olds ++ (ns ++ C.drop (i * k + k)) := by
    show List.take _ C ++ ns ++ List.drop _ C = _
    rw [hCo, hnl, List.append_assoc]
  have h1 : C1.length = C.length := by
    rw [hC1]; simp only [List.length_append, List.length_drop, ho, hnl]; omega
  have hA : C1.take ((i + 1) * k) = olds ++ ns := by
    rw [hC1, ← List.append_assoc, e2, List.take_append_of_le_length (by rw [List.length_append, ho, hnl]; omega), List.take_of_length_le (by rw [List.length_append, ho, hnl]; omega)]
  have h2 : C2 = olds ++ (ns ++ (cs ++ C1.drop ((i + 1) * k + cs.length))) := by
    show List.take _ C1 ++ cs ++ List.drop _ C1 = _
    rw [hA, List.append_assoc, List.append_assoc]
  refine ⟨h1, ?_, ?_⟩
  · rw [h2]
    simp only [List.length_append, List.length_drop, ho, hnl, hcs, h1, e2]
    omega
  · rw [h2, e1, List.take_append, ho, List.take_of_length_le (by rw [ho]; omega)]
    congr 1
    rw [List.take_append, hnl, List.take_of_length_le (by rw [hnl]; omega)]
    congr 1
    rw [List.take_append_of_le_length (by rw [hcs]; omega), List.take_of_length_le (by rw [hcs]; omega)]
theorem setCells_row (g : Nat) (t : TypeId) : ∀ (vs : List Value) (o : Nat) (cur : Array Value) (w : World), w.heap[g]? = some (.cells cur t (0, 0)) → o + vs.length ≤ cur.size →
    w.setCells g o vs = w.setRow g (cur.toList.take o ++ vs ++ cur.toList.drop (o + vs.length)).toArray
  | [], o, cur, w, hg, _ => by
    simp only [World.setCells, List.append_nil, List.length_nil, Nat.add_zero, List.take_append_drop, Array.toArray_toList]
    exact (setRow_self w g cur t (0, 0) hg).symm
  | v :: r, o, cur, w, hg, hl => by
    have ho : o < cur.size := by simp at hl; omega
    rw [World.setCells, setCell_eq_setRow w g o cur t (0, 0) v hg, setCells_row g t r (o + 1) (cur.setIfInBounds o v) (w.setRow g (cur.setIfInBounds o v)) (setRow_heap w g cur _ t _ hg) (by simp at hl ⊢; omega), setRow_setRow]
    have e := list_seg_step cur.toList o v r (by simp at hl ⊢; omega)
    congr 2
    simpa [Array.toList_setIfInBounds, Nat.add_assoc, Nat.add_comm, Nat.add_left_comm] using e
theorem splice_del (C zs : List Value) (k n i : Nat) (hi : i < n) (hz : zs.length = k) (hC : n * k ≤ C.length) :
    let cs := (C.take (n * k)).drop ((i + 1) * k)
    let C1 := C.take (i * k) ++ cs ++ C.drop (i * k + cs.length)
    let C2 := C1.take ((i + (n - (i + 1))) * k) ++ zs ++ C1.drop ((i + (n - (i + 1))) * k + zs.length)
    cs.length = (n - (i + 1)) * k ∧ C1.length = C.length ∧ C2.length = C.length ∧ C2.take ((i + (n - (i + 1))) * k) = (C.take (n * k)).take (i * k) ++ (C.take (n * k)).drop ((i + 1) * k) := by
  obtain ⟨m, rfl⟩ : ∃ m, n = i + 1 + m := ⟨n - (i + 1), by omega⟩
  have e0 : i + 1 + m - (i + 1) = m := by omega
  rw [e0]
  have e1 : (i + 1 + m) * k = i * k + k + m * k := by rw [Nat.add_mul, Nat.add_mul, Nat.one_mul]
  have e2 : (i + 1) * k = i * k + k := by rw [Nat.add_mul, Nat.one_mul]
  have e3 : (i + m) * k = i * k + m * k := by rw [Nat.add_mul]
  rw [e1] at hC
  intro cs C1 C2
  have hcs : cs.length = m * k := by show (List.drop _ (List.take _ _)).length = _; rw [List.length_drop, List.length_take]; omega
  have hce : cs = (C.take ((i + 1 + m) * k)).drop ((i + 1) * k) := rfl
  clear_value cs
  rw [← hce]
  clear hce
  have h1 : C1.length = C.length := by
    show (List.take _ _ ++ cs ++ List.drop _ _).length = _
    rw [List.length_append, List.length_append, List.length_take, List.length_drop, hcs]; omega
  have hA : C1.take ((i + m) * k) = C.take (i * k) ++ cs := by
    show (List.take _ _ ++ cs ++ List.drop _ _).take _ = _
    rw [List.take_append_of_le_length (by rw [List.length_append, List.length_take, hcs, e3]; omega), List.take_of_length_le (by rw [List.length_append, List.length_take, hcs, e3]; omega)]
  have h2 : C2 = C.take (i * k) ++ cs ++ (zs ++ C1.drop ((i + m) * k + zs.length)) := by
    show List.take _ C1 ++ zs ++ List.drop _ C1 = _
    rw [hA, List.append_assoc]
  refine ⟨hcs, h1, ?_, ?_⟩
  · rw [h2]
    simp only [List.length_append, List.length_take, List.length_drop, hcs, hz, h1, e3]
    omega
  · rw [h2, List.take_take, Nat.min_eq_left (by rw [e1]; omega), List.take_append_of_le_length (by rw [List.length_append, List.length_take, hcs, e3]; omega), List.take_of_length_le (by rw [List.length_append, List.length_take, hcs, e3]; omega)]
theorem step_append_at {w : World} {ops : Array Oper} {o : Oper} {a : Act} {K : Act → World → Prop} {Q : Exit → Act → World → Prop} {E : Prop} (hgd : o.guard = none) (s x : Operand) (t : TypeId)
    (ho : o.op = .call { callee := .builtin .append, args := #[s, x], argTypes := #[t, t] })
    (base : Nat) (e : TypeId) (i : TypeInfo) (z : Value) (size bytes : Nat) (ht : P.underlying t = some (.slice e)) (hi : P.info? e = some i) (hz : i.zero = some z)
    (hsize : i.size = size) (hby : i.bytes = bytes) (hzs : z.cells.size = size) (hsz : 0 < size)
    (v : Value) (n : Nat) (xs : List Value) (hs : a.eval s = v) (hown : w.ownsRow base e size v n xs)
    (ad : Addr) (m c : Nat) (news : List Value) (hx : a.eval x = .slice (some ad) m c) (hl : news.length = m * size) (hnews : ∀ j u, news[j]? = some u → w.cell? (ad.add j) = some u) (h1 : ∀ u ∈ news, u.oneCell' = true)
    (h63 : n + m ≤ maxLen) (hbytes : (n + m) * bytes ≤ 140737488355328) (hbase : base ≤ w.heap.size)
    (h : ∀ p cap w', w'.ownsRow base e size (.slice p (n + m) cap) (n + m) (xs ++ news) → w.grownBy w' v.ownBlock → ((Value.slice p (n + m) cap).ownBlock = v.ownBlock ∨ (Value.slice p (n + m) cap).ownBlock = some w.heap.size) → K (a.put o.dst (.slice p (n + m) cap)) w') :
    if Region.wanted o (yielded ops a.tmps) = true then Oper.wp P o a w K Q else E := by
  have hw : Region.wanted o (yielded ops a.tmps) = true := by simp [Region.wanted, hgd]
  rw [if_pos hw]
  obtain ⟨v', w', hr, h2, h3, _, h5⟩ := run_append_own_at (P := P) w base t o.type e i z size bytes ht hi hz hsize hby hzs hsz v n xs hown ad m c news hl hnews h1 h63 hbytes hbase
  obtain ⟨p, cap, rfl⟩ : ∃ p cap, v' = .slice p (n + m) cap := by
    rcases h2.2 with ⟨rfl, e⟩ | ⟨g, cap, cur, rfl, _⟩
    · exact ⟨none, 0, by rw [e]⟩
    · exact ⟨_, _, rfl⟩
  unfold Oper.wp execOp
  simp only [ho, resolve, invoke, builtin, Sem.run_bind, Sem.run_pure, Result.andThen_ok, List.map_toArray, List.map_cons, List.map_nil, hs, hx, hr]
  exact h p cap w' h2 h3 h5
/-- .. of a source that is nil -/
theorem step_append_nil {w : World} {ops : Array Oper} {o : Oper} {a : Act} {K : Act → World → Prop} {Q : Exit → Act → World → Prop} {E : Prop} (hgd : o.guard = none) (s x : Operand) (t : TypeId)
    (ho : o.op = .call { callee := .builtin .append, args := #[s, x], argTypes := #[t, t] })
    (base : Nat) (e : TypeId) (i : TypeInfo) (size : Nat) (ht : P.underlying t = some (.slice e)) (hi : P.info? e = some i) (hsize : i.size = size)
    (v : Value) (n : Nat) (xs : List Value) (hs : a.eval s = v) (hown : w.ownsRow base e size v n xs) (c : Nat) (hx : a.eval x = .slice none 0 c) (h : K (a.put o.dst v) w) :
    if Region.wanted o (yielded ops a.tmps) = true then Oper.wp P o a w K Q else E := by
  have hw : Region.wanted o (yielded ops a.tmps) = true := by simp [Region.wanted, hgd]
  rw [if_pos hw]
  have hr : (Builtin.append_ #[t, t] o.type #[v, .slice none 0 c]).run P w = .ok v w := by
    rcases hown.2 with ⟨rfl, rfl⟩ | ⟨g, cap, cur, rfl, _, _, hnc, _⟩
    · simp [Builtin.append_, run_underlying ht, sizeOf, typeInfo, hi, Builtin.lenOf, Builtin.firstCells]
    · simp [Builtin.append_, run_underlying ht, sizeOf, typeInfo, hi, Builtin.lenOf, Builtin.firstCells, hnc, storeCells]
  unfold Oper.wp execOp
  simp only [ho, resolve, invoke, builtin, Sem.run_bind, Sem.run_pure, Result.andThen_ok, List.map_toArray, List.map_cons, List.map_nil, hs, hx, hr]
  exact h
end OW
end Go.Proofs.Ytjgodnakhbkgeaa
