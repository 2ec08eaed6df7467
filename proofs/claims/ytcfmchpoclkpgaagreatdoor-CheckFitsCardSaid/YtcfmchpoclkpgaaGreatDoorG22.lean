import Derived.Deep.RegionHeld3
import Derived.RangeFuncCalls
import Derived.OwnWalkIn
import Derived.OrdersIn
import Derived.Test.YtcfmchpoclkpgaaGreatDoorG17
import Derived.Laws.MakeOwn
namespace Go.Proofs.YtcfmchpoclkpgaaGreatDoor
open Go
section
variable {P : Program} {ops : Array Oper} {Q : Exit → Act → World → Prop} {md : Region.Mode} {S : World → Prop} {m : Nat}
def wpAnyM (P : Program) (md : Region.Mode) (ops : Array Oper) (Q : Exit → Act → World → Prop) (S : World → Prop) (m : Nat) : Nat → Array Bool → Act → World → Prop
  | 0, listed, a, w => Region.ready md ops listed = [] ∧ Q .normal a w
  | fuel + 1, listed, a, w =>
    (Region.ready md ops listed = [] → Q .normal a w) ∧
    ∀ i ∈ Region.ready md ops listed, wpOp P ops Q i (fun a' w' => (i = m ∨ S w') ∧ wpAnyM P md ops Q S m fuel (listed.setIfInBounds i true) a' w') a w
theorem wpAny_of_heldM : ∀ (fuel : Nat) (listed : Array Bool) (a : Act) (w : World), wpAnyM P md ops Q S m fuel listed a w → wpAny P md ops Q fuel listed a w
  | 0, _, _, _, h => h
  | fuel + 1, _, _, _, h => ⟨h.1, fun i hi => wpOp_mono (fun a' w' h' => wpAny_of_heldM fuel _ a' w' h'.2) (h.2 i hi)⟩
def waits (md : Region.Mode) (ops : Array Oper) (k i : Nat) : Bool :=
  match ops[k]? with
  | some o => o.after.any fun e => Region.binds md e && (e.on == i)
  | none => false
def climb (md : Region.Mode) (ops : Array Oper) : Nat → List Nat → Nat → Bool
  | k, [], i => waits md ops k i
  | k, j :: js, i => waits md ops k j && climb md ops j js i
def Closed (md : Region.Mode) (ops : Array Oper) (listed : Array Bool) : Prop :=
  ∀ k o, ops[k]? = some o → listed.getD k false = true → ∀ e ∈ o.after, Region.binds md e = true → listed.getD e.on false = true
def closedB (md : Region.Mode) (ops : Array Oper) (listed : Array Bool) : Bool :=
  (List.range ops.size).all fun k => !listed.getD k false || (match ops[k]? with
    | some o => o.after.all fun e => !Region.binds md e || listed.getD e.on false
    | none => true)
theorem closed_spec {listed : Array Bool} (h : closedB md ops listed = true) : Closed md ops listed := by
  intro k o ho hl e he hb
  unfold closedB at h
  rw [List.all_eq_true] at h
  have hk := h k (by rw [List.mem_range];exact (Array.getElem?_eq_some_iff.1 ho).1)
  rw [ho, hl] at hk
  simp only [Bool.not_true, Bool.false_or, Array.all_eq_true_iff_forall_mem] at hk
  have h2 := hk e he
  rw [hb] at h2
  simpa using h2
theorem waits_spec {k i : Nat} (h : waits md ops k i = true) : ∃ o, ops[k]? = some o ∧ ∃ e, e ∈ o.after ∧ Region.binds md e = true ∧ e.on = i := by
  unfold waits at h
  cases ho : ops[k]? with
  | none => rw [ho] at h;cases h
  | some o =>
    rw [ho] at h
    simp only [Array.any_eq_true', Bool.and_eq_true, beq_iff_eq] at h
    obtain ⟨e, he, hb, hi⟩ := h
    exact ⟨o, rfl, e, he, hb, hi⟩
theorem climb_listed {listed : Array Bool} (hc : Closed md ops listed) : ∀ (js : List Nat) (k i : Nat), climb md ops k js i = true → listed.getD k false = true → listed.getD i false = true
  | [], k, i, h, hk => by
    obtain ⟨o, ho, e, he, hb, rfl⟩ := waits_spec h
    exact hc k o ho hk e he hb
  | j :: js, k, i, h, hk => by
    unfold climb at h
    rw [Bool.and_eq_true] at h
    obtain ⟨o, ho, e, he, hb, rfl⟩ := waits_spec h.1
    exact climb_listed hc js e.on i h.2 (hc k o ho hk e he hb)
theorem climb_ready {listed : Array Bool} (hc : Closed md ops listed) {js : List Nat} {k i : Nat} (h : climb md ops k js i = true) (hk : k ∈ Region.ready md ops listed) : listed.getD i false = true := by
  obtain ⟨_, o, ho, hall⟩ := mem_ready.1 hk
  cases js with
  | nil =>
    obtain ⟨o', ho', e, he, hb, rfl⟩ := waits_spec h
    rw [ho] at ho';cases ho'
    exact hall e he hb
  | cons j js =>
    unfold climb at h
    rw [Bool.and_eq_true] at h
    obtain ⟨o', ho', e, he, hb, rfl⟩ := waits_spec h.1
    rw [ho] at ho';cases ho'
    exact climb_listed hc js e.on i h.2 (hall e he hb)
theorem closed_set {listed : Array Bool} {j : Nat} (hc : Closed md ops listed) (hj : j ∈ Region.ready md ops listed) : Closed md ops (listed.setIfInBounds j true) := by
  intro k o ho hl e he hb
  by_cases hkj : j = k
  · subst hkj
    obtain ⟨_, o', ho', hall⟩ := mem_ready.1 hj
    rw [ho] at ho';cases ho'
    exact getD_set_true (hall e he hb)
  · rw [getD_set_ne false hkj] at hl
    exact getD_set_true (hc k o ho hl e he hb)
theorem wpAnyM_first {i : Nat} {oi : Oper} {v : Value} (hi : ops[i]? = some oi) (hsel : ∀ (j : Nat) (o : Oper) cs b, ops[j]? = some o → o.op ≠ .select cs b)
    (hQ : ∀ c a w, Q (.panic c) (a.put oi.dst v) w → Q (.panic c) a w) {js : List Nat} (hm : climb md ops m js i = true) :
    ∀ (fuel : Nat) (listed : Array Bool) (a : Act) (w : World),
      (∀ j oj, ops[j]? = some oj → j ≠ i → listed.getD j true = false → (∀ e ∈ oj.after, Region.binds md e = true → e.on ≠ i) → oi.apart ops oj = true) →
      Closed md ops listed → i ∈ Region.ready md ops listed → YieldsIf P ops S oi v a → S w →
      wpAnyM P md ops Q S m fuel (listed.setIfInBounds i true) (a.put oi.dst v) w → wpAnyM P md ops Q S m (fuel + 1) listed a w := by
  intro fuel
  induction fuel with
  | zero =>
    intro listed a w _ _ hr hy hS H
    refine ⟨fun h => (by rw [h] at hr;cases hr), fun j hj => ?_⟩
    by_cases hji : j = i
    · subst hji;exact hy.wpOp hi hS ⟨.inr hS, H⟩
    · have := ready_mono hj hji
      rw [H.1] at this
      cases this
  | succ fuel ih =>
    intro listed a w hfree hcl hr hy hS H
    refine ⟨fun h => (by rw [h] at hr;cases hr), fun j hj => ?_⟩
    by_cases hji : j = i
    · subst hji;exact hy.wpOp hi hS ⟨.inr hS, H⟩
    · have h1 := H.2 j (ready_mono hj hji)
      obtain ⟨hjun, oj, hoj, hall⟩ := mem_ready.1 hj
      have hnot : ∀ e ∈ oj.after, Region.binds md e = true → e.on ≠ i := fun e he hb heq => by
        have h1 := hall e he hb
        have h0 := (mem_ready.1 hr).1
        rw [heq] at h1
        rcases Nat.lt_or_ge i listed.size with h'|h'
        · simp [h'] at h0 h1;rw [h0] at h1;cases h1
        · simp [Array.getElem?_eq_none h'] at h1
      have hjm : j ≠ m := fun hjm => by
        subst hjm
        have h1 := climb_ready hcl hm hj
        have h0 := (mem_ready.1 hr).1
        rcases Nat.lt_or_ge i listed.size with h'|h'
        · simp [h'] at h0 h1;rw [h0] at h1;cases h1
        · simp [Array.getElem?_eq_none h'] at h1
      have h2 := wpOp_putIf hoj (hfree j oj hoj hji hjun hnot) (fun cs b => hsel i oi cs b hi) (fun cs b => hsel j oj cs b hoj) hQ hy h1
      have hfree' : ∀ k ok, ops[k]? = some ok → k ≠ i → (listed.setIfInBounds j true).getD k true = false →
          (∀ e ∈ ok.after, Region.binds md e = true → e.on ≠ i) → oi.apart ops ok = true := fun k ok hk hki hun hno => by
        refine hfree k ok hk hki ?_ hno
        by_cases hjk : j = k
        · subst hjk;exact hjun
        · rw [getD_set_ne true hjk] at hun;exact hun
      refine wpOp_mono (fun a' w' h3 => ?_) h2
      have s3 : S w' := h3.2.1.resolve_left hjm
      refine ⟨.inr s3, ih (listed.setIfInBounds j true) a' w' hfree' (closed_set hcl hj) (ready_mono hr (Ne.symm hji)) h3.1 s3 ?_⟩
      rw [Array.setIfInBounds_comm _ _ hji]
      exact h3.2.2
theorem wpAnyM_take {i : Nat} {oi : Oper} {v : Value} {fuel : Nat} {listed : Array Bool} {a : Act} {w : World} (hi : ops[i]? = some oi)
    (hs : Region.noSelect ops = true) (hf : Region.free md ops listed i = true) (hr : (Region.ready md ops listed).contains i = true) (js : List Nat) (hm : climb md ops m js i = true) (hc : closedB md ops listed = true)
    (hQ : ∀ c a w, Q (.panic c) (a.put oi.dst v) w → Q (.panic c) a w) (hy : YieldsIf P ops S oi v a) (hS : S w)
    (h : wpAnyM P md ops Q S m fuel (listed.setIfInBounds i true) (a.put oi.dst v) w) : wpAnyM P md ops Q S m (fuel + 1) listed a w :=
  wpAnyM_first hi (Region.noSelect_spec hs) hQ hm fuel listed a w (Region.free_spec hi hf) (closed_spec hc) (by simpa using hr) hy hS h
theorem wpAnyM_all {rs : List Nat} {fuel : Nat} {listed : Array Bool} {a : Act} {w : World} (hr : Region.ready md ops listed = rs) (hne : rs ≠ [])
    (h : ∀ i ∈ rs, wpOp P ops Q i (fun a' w' => (i = m ∨ S w') ∧ wpAnyM P md ops Q S m fuel (listed.setIfInBounds i true) a' w') a w) : wpAnyM P md ops Q S m (fuel + 1) listed a w :=
  ⟨fun h0 => absurd (hr ▸ h0) hne, hr ▸ h⟩
theorem wpAnyM_done {listed : Array Bool} {a : Act} {w : World} (hr : Region.ready md ops listed = []) (h : Q .normal a w) :
    ∀ fuel, wpAnyM P md ops Q S m fuel listed a w
  | 0 => ⟨hr, h⟩
  | _ + 1 => ⟨fun _ => h, by rw [hr];simp⟩
theorem wp_region_heldM {id : Nat} {a : Act} {w : World} (S : World → Prop) (m : Nat) (hm : P.follows .mixedOrders = true) (hS : S w.drew)
    (h : ∀ W, W = w.drew → S W → wpAnyM P .any ops Q S m ops.size (Array.replicate ops.size false) a W) : (Code.region id ops true).wp P Q a w :=
  wp_region_any hm (wpAny_of_heldM _ _ _ _ (h w.drew rfl hS))
end
end Go.Proofs.YtcfmchpoclkpgaaGreatDoor
namespace Go.Proofs.YtcfmchpoclkpgaaGreatDoor
open Go
section
variable {P : Program} {ops : Array Oper} {Q : Exit → Act → World → Prop} {md : Region.Mode} {S : World → Prop} {m l n : Nat}
theorem op_inRound {o : Oper} {a : Act} {w : World} {K : Act → World → Prop} (hdef : ∀ c, o.op ≠ .defer c) (h : o.wp P a w K Q) : o.wpIn (Fence.wide.inRound l) n P a w K Q := by
  refine ⟨fun _ _ => trivial, ?_⟩
  rw [show (Fence.wide.inRound l).round = some l from rfl, Oper.semAt_some l _ _ hdef]
  unfold Oper.wp at h
  cases hr : (execOp a.eval o).run P w with
  | ok nx w' =>
    rw [hr] at h
    cases nx with
    | enter f args => exact ⟨(fun h => by cases h), CallsIn.inRound l (callsIn_wide.2 h)⟩
    | row r args => exact ⟨(fun h => by cases h), fun c cs _ => by obtain ⟨v, w'', h1, h2⟩ := h c cs;exact ⟨v, w'', h1, stepsIn_wide.2 h2⟩⟩
    | _ => first|exact h|exact h.elim
  | halt x w' =>
    rw [hr] at h
    cases x <;> first|exact h|exact h.elim
def noDefer (ops : Array Oper) : Bool := ops.all fun o => match o.op with
  | .defer _ => false
  | _ => true
theorem noDefer_spec (h : noDefer ops = true) {i : Nat} {o : Oper} (ho : ops[i]? = some o) : ∀ c, o.op ≠ .defer c := fun c hc => by
  unfold noDefer at h
  rw [Array.all_eq_true_iff_forall_mem] at h
  have := h o (Array.mem_of_getElem? ho)
  rw [hc] at this
  cases this
theorem wpOp_inRound (hd : noDefer ops = true) (hQ : ¬ LetsOut Q) {i : Nat} {K K' : Act → World → Prop} {a : Act} {w : World} (hK : ∀ a w, K a w → K' a w) (h : wpOp P ops Q i K a w) : wpOpIn (Fence.wide.inRound l) n P ops Q i K' a w := by
  unfold wpOp at h
  unfold wpOpIn
  cases ho : ops[i]? with
  | none => rw [ho] at h;exact hK _ _ h
  | some o =>
    rw [ho] at h
    simp only at h ⊢
    split
    · rename_i hw
      rw [if_pos hw] at h
      rcases h with h|h
      · exact op_inRound (noDefer_spec hd ho) (Oper.wp_mono hK h)
      · exact absurd h.2 hQ
    · rename_i hw
      rw [if_neg hw] at h
      exact ⟨fun _ _ => trivial, hK _ _ h⟩
theorem any_inRound (hd : noDefer ops = true) (hQ : ¬ LetsOut Q) : ∀ (fuel : Nat) (listed : Array Bool) (a : Act) (w : World), wpAny P md ops Q fuel listed a w → wpAnyIn (Fence.wide.inRound l) n P md ops Q fuel listed a w
  | 0, _, _, _, h => h
  | fuel + 1, _, _, _, h => ⟨h.1, fun i hi => wpOp_inRound hd hQ (fun a' w' h' => any_inRound hd hQ fuel _ a' w' h') (h.2 i hi)⟩
theorem wpIn_region_heldR {id : Nat} {a : Act} {w : World} (S : World → Prop) (hm : P.follows .mixedOrders = true) (hd : noDefer ops = true) (hQ : ¬ LetsOut Q) (hS : S w.drew)
    (h : ∀ W, W = w.drew → S W → wpAnyH P .any ops Q S ops.size (Array.replicate ops.size false) a W) : (Code.region id ops true).wpIn (Fence.wide.inRound l) n P Q a w :=
  wpIn_region_any hm (any_inRound hd hQ _ _ _ _ (wpAny_of_held _ _ _ _ (h w.drew rfl hS)))
end
end Go.Proofs.YtcfmchpoclkpgaaGreatDoor
namespace Go.Proofs.YtcfmchpoclkpgaaGreatDoor
open Go.RowKit NB
def Ali (W : World) (ab n base : Nat) (G : Nat → List ByteArray) : Prop :=
  ∃ vs : List Value, vs.length = n ∧ Box W ab vs.toArray 64 ∧ (∀ i v, vs[i]? = some v → OwnS W base v (G i)) ∧
    (∀ (i j : Nat) (v u : Value), i ≠ j → vs[i]? = some v → vs[j]? = some u → v.ownBlock = none ∨ v.ownBlock ≠ u.ownBlock)
namespace Ali
theorem made {W : World} {ab n base : Nat} (h : Box W ab (madeCells #[.slice none 0 0] n) 64) : Ali W ab n base (fun _ => []) := by
  refine ⟨List.replicate n (.slice none 0 0), by simp, ?_, fun i v hv => ?_, fun i j v u _ hv _ => ?_⟩
  · have e : madeCells #[Value.slice none 0 0] n = (List.replicate n (Value.slice none 0 0)).toArray := by
      apply Array.ext
      · simp [madeCells]
      · intro i h1 h2
        simp [madeCells, Nat.mod_one]
    rw [← e]
    exact h
  · rw [List.getElem?_replicate] at hv
    split at hv
    · cases hv
      exact World.ownsRow_nil _ _ _ _
    · cases hv
  · rw [List.getElem?_replicate] at hv
    split at hv
    · cases hv
      exact .inl rfl
    · cases hv
theorem grown_set (w : World) (b j : Nat) (v : Value) : w.grownBy (w.setCell ⟨b, j, none⟩ v) (some b) := by
  refine ⟨rfl, rfl, rfl, by simp, fun k _ hk => Below.heap_setCell w ⟨b, j, none⟩ v k (fun e => hk (by rw [e]))⟩
theorem set {W w1 : World} {ab n base i m : Nat} {G : Nat → List ByteArray} {vs : List Value} {v v' : Value} {s : ByteArray} (hl : vs.length = n) (hb : Box W ab vs.toArray 64) (ho : ∀ (i : Nat) (v : Value), vs[i]? = some v → OwnS W base v (G i))
    (hd : ∀ (i j : Nat) (v u : Value), i ≠ j → vs[i]? = some v → vs[j]? = some u → v.ownBlock = none ∨ v.ownBlock ≠ u.ownBlock) (hab : ab < base) (hv : vs[i]? = some v)
    (hg : W.grownBy w1 v.ownBlock) (hown : OwnR w1 base v' m (G i ++ [s])) (hloc : v'.ownBlock = v.ownBlock ∨ ∃ g, v'.ownBlock = some g ∧ W.heap.size ≤ g) :
    Ali (w1.setCell ⟨ab, i, none⟩ v') ab n base (fun j => if j = i then G i ++ [s] else G j) := by
  have hil := (List.getElem?_eq_some_iff.1 hv).1
  have habo : ∀ u l, OwnS W base u l → u.ownBlock ≠ some ab := fun u l h e => by have := (h.lt ab e).1;omega
  have habo' : ∀ u l, OwnS w1 base u l → u.ownBlock ≠ some ab := fun u l h e => by have := (h.lt ab e).1;omega
  have hb1 : Box w1 ab vs.toArray 64 := (hg.block ab hb.lt (fun e => habo v _ (ho i v hv) e.symm)).trans hb
  refine ⟨vs.set i v', by simp [hl], ?_, fun j u hu => ?_, fun j k u x hjk hu hx => ?_⟩
  · have := hb1.set (j := i) (v := v')
    simpa using this
  · dsimp only
    rw [List.getElem?_set] at hu
    by_cases hij : i = j
    · subst hij
      rw [if_pos rfl, if_pos hil] at hu
      cases hu
      rw [if_pos rfl]
      exact OwnR.s (hown.kept (grown_set _ _ _ _) (.inr (fun e => by have := (hown.lt ab e).1;omega)))
    · rw [if_neg hij] at hu
      rw [if_neg (Ne.symm hij)]
      have h1 := ho j u hu
      have h2 : OwnS w1 base u (G j) := h1.kept hg (hd j i u v (Ne.symm hij) hu hv)
      exact h2.kept (grown_set _ _ _ _) (.inr (habo' u _ h2))
  · have old : ∀ (j : Nat) (u : Value), j ≠ i → vs[j]? = some u → u.ownBlock = none ∨ u.ownBlock ≠ v'.ownBlock := fun j u hj hu => by
      rcases hloc with h|⟨g, h, hgs⟩
      · rw [h]
        exact hd j i u v hj hu hv
      · cases hub : u.ownBlock with
        | none => exact .inl rfl
        | some q =>
          refine .inr (fun e => ?_)
          rw [h] at e
          cases e
          have := ((ho j u hu).lt g hub).2
          omega
    rw [List.getElem?_set] at hu hx
    by_cases hij : i = j
    · subst hij
      rw [if_pos rfl, if_pos hil] at hu
      rw [if_neg hjk] at hx
      cases hu
      cases hvb : v'.ownBlock with
      | none => exact .inl rfl
      | some q =>
        refine .inr (fun e => ?_)
        rcases old k x (Ne.symm hjk) hx with h|h
        · rw [h] at e
          cases e
        · exact h (e.symm.trans hvb.symm)
    · rw [if_neg hij] at hu
      by_cases hik : i = k
      · subst hik
        rw [if_pos rfl, if_pos hil] at hx
        cases hx
        exact old j u (Ne.symm hij) hu
      · rw [if_neg hik] at hx
        exact hd j k u x hjk hu hx
end Ali
end Go.Proofs.YtcfmchpoclkpgaaGreatDoor
