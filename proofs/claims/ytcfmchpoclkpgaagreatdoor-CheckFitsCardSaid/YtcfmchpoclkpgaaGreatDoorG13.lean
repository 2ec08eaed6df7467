import Derived.Test.YtcfmchpoclkpgaaGreatDoorG6
import Derived.Test.YtcfmchpoclkpgaaGreatDoorG1
import Derived.Test.YtcfmchpoclkpgaaGreatDoorProg
import Derived.Test.YtcfmchpoclkpgaaGreatDoorG8
import Derived.Test.YtcfmchpoclkpgaaGreatDoorG3
import Derived.Test.YtcfmchpoclkpgaaGreatDoorG4
import Derived.Test.YtcfmchpoclkpgaaGreatDoorG5
import Derived.Test.YtcfmchpoclkpgaaGreatDoorNom
import Derived.Test.YtcfmchpoclkpgaaGreatDoorG10
import Derived.Deep.AppendLies
import Derived.Maps.Own
import Derived.Maps.AppendAt
namespace Go.Proofs.YtcfmchpoclkpgaaGreatDoor
open Go.RowKit NB
namespace Fmt
def FindIs (l : List UInt8) (c : UInt8) (r : Int) : Prop := (r = -1 ∧ ∀ j : Nat, l[j]? ≠ some c) ∨ (r = -2 ∧ ∃ i j : Nat, i < j ∧ l[i]? = some c ∧ l[j]? = some c) ∨ (∃ i : Nat, r = i ∧ l[i]? = some c ∧ ∀ j : Nat, l[j]? = some c → j = i)
def allow (l : List UInt8) : Bool := l.all fun c => wset.contains c || c == 37 || c == 47
def okR (l : List UInt8) (p q : Int) : Bool :=
  (decide (0 < l.length) && decide (p = -1) && decide (q = -1)) ||
  (decide (0 ≤ p) && decide (q = -1) && decide (p + 1 < l.length) && decide (l[p.toNat + 1]? = some 115)) ||
  (decide (p = -1) && decide (0 < q) && decide (q < l.length - 1)) || decide (l = [37, 122])
def K1 (l : List UInt8) : Prop := (Go.Lib.cut l [37, 115]).2.2 = true ∧ wd (Go.Lib.cut l [37, 115]).1 = true ∧ wd (Go.Lib.cut l [37, 115]).2.1 = true
def K2 (l : List UInt8) : Prop := (Go.Lib.cut l [47]).2.2 = true ∧ (Go.Lib.cut l [47]).1 ≠ [] ∧ (Go.Lib.cut l [47]).2.1 ≠ [] ∧ wd (Go.Lib.cut l [47]).1 = true ∧ wd (Go.Lib.cut l [47]).2.1 = true
end Fmt
end Go.Proofs.YtcfmchpoclkpgaaGreatDoor
namespace Go.Proofs.YtcfmchpoclkpgaaGreatDoor
open Go.RowKit NB
namespace RNum
end RNum
end Go.Proofs.YtcfmchpoclkpgaaGreatDoor
namespace Go.Proofs.YtcfmchpoclkpgaaGreatDoor
open Go.RowKit NB
namespace RCiv
end RCiv
end Go.Proofs.YtcfmchpoclkpgaaGreatDoor
namespace Go.Proofs.YtcfmchpoclkpgaaGreatDoor
open Go.RowKit NB
namespace RCiv
def okN (n : Int) : Bool := decide (Cal.ahead (-40000) ≤ n) && decide (n < Cal.ahead 40001)
end RCiv
end Go.Proofs.YtcfmchpoclkpgaaGreatDoor
namespace Go.Proofs.YtcfmchpoclkpgaaGreatDoor
open Go.RowKit NB
namespace RDay
end RDay
end Go.Proofs.YtcfmchpoclkpgaaGreatDoor
namespace Go.Proofs.YtcfmchpoclkpgaaGreatDoor
open Go.RowKit NB
namespace RRule
open Fmt
def Wd (s : ByteArray) (k : Nat) : Prop := ((s.data.toList.take k).all (wset.contains ·)) = true
theorem Wd.succ {s : ByteArray} {k : Nat} {c : UInt8} (h : Wd s k) (hc : s.data.toList[k]? = some c) (h2 : wset.contains c = true) : Wd s (k + 1) := by
  unfold Wd at *
  rw [List.take_add_one, hc, List.all_append, h]
  simp
  simpa using h2
def Nd (s : ByteArray) (k : Nat) : Prop := (List.range k).all (Nam.okAt s.data.toList) = true
theorem Nd.succ {s : ByteArray} {k : Nat} (h : Nd s k) (h2 : Nam.okAt s.data.toList k = true) : Nd s (k + 1) := Nam.all_succ h h2
end RRule
end Go.Proofs.YtcfmchpoclkpgaaGreatDoor
namespace Go.Proofs.YtcfmchpoclkpgaaGreatDoor
open Go.RowKit NB Fmt
namespace RFmt
def St (l : List UInt8) (c : UInt8) (k : Nat) (a : Int) : Prop := (a = -1 ∧ ∀ j : Nat, j < k → l[j]? ≠ some c) ∨ (∃ i : Nat, i < k ∧ a = i ∧ l[i]? = some c ∧ ∀ j : Nat, j < k → l[j]? = some c → j = i)
end RFmt
end Go.Proofs.YtcfmchpoclkpgaaGreatDoor
namespace Go.Proofs.YtcfmchpoclkpgaaGreatDoor
open Go.RowKit NB Er
namespace REr
end REr
end Go.Proofs.YtcfmchpoclkpgaaGreatDoor
namespace Go.Proofs.YtcfmchpoclkpgaaGreatDoor
open Go.RowKit NB
namespace RCiv
end RCiv
end Go.Proofs.YtcfmchpoclkpgaaGreatDoor
namespace Go.Proofs.YtcfmchpoclkpgaaGreatDoor
open Go.RowKit NB
namespace ROcc
end ROcc
end Go.Proofs.YtcfmchpoclkpgaaGreatDoor
namespace Go.Proofs.YtcfmchpoclkpgaaGreatDoor
namespace Grp
open Go.RowKit Go.ChangeMaps Go.MapKept Go.ChangeShapes
open Go.WideElems (Fit rd rg pl rd_val rd_mk other_key)
open Go.Maps (Keyed)
def R0 (_ : Value) : Option (DataW Unit × List MemPlace) := some (.nil, [])
def Rows (w : World) (P : Program) (k : TypeId) (base : Nat) (e : TypeId) (sz b n : Nat) (F : Value → List Value) : Prop :=
  ∃ es clock, w.heap[b]? = some (.map es clock) ∧ Fit P k R0 es clock ∧ es.size ≤ n ∧ b < base ∧
    (∀ x ∈ es.toList, ∃ m, m ≤ n ∧ w.ownsRow base e sz x.val m (F x.key)) ∧ (∀ key, (∀ x ∈ es.toList, x.key ≠ key) → F key = []) ∧
    (∀ x ∈ es.toList, ∀ y ∈ es.toList, x.key ≠ y.key → x.val.ownBlock = none ∨ x.val.ownBlock ≠ y.val.ownBlock)
open Classical in
noncomputable def upd (F : Value → List Value) (key : Value) (xs : List Value) : Value → List Value := fun y => if y = key then xs else F y
variable {w : World} {P : Program} {k e : TypeId} {base sz b n : Nat} {F : Value → List Value}
theorem made (w : World) (P : Program) (k e : TypeId) (sz : Nat) : Rows (w.alloc (.map #[] 0)) P k (w.heap.size + 1) e sz w.heap.size 0 (fun _ => []) :=
  ⟨#[], 0, (MapKept.heap_alloc w _).1, ⟨by simp, stamped_empty 0, by simp⟩, Nat.le_refl _, Nat.lt_succ_self _, by simp, by simp, by simp⟩
def Back (w : World) (P : Program) (t k : TypeId) (base : Nat) (e : TypeId) (sz b n : Nat) (F : Value → List Value) (key v : Value) : Prop :=
  ∀ (w1 : World) (v' : Value) (xs' : List Value) (m' : Nat), w.grownBy w1 v.ownBlock → w1.ownsRow base e sz v' m' xs' → m' ≤ n + 1 → (v'.ownBlock = v.ownBlock ∨ ∃ g, v'.ownBlock = some g ∧ w.heap.size ≤ g) →
    ∃ w2, (Instr.mapUpdate t (.map (some b)) key v').run P w1 = .ok () w2 ∧ Rows w2 P k base e sz b (n + 1) (upd F key xs') ∧ w1.grownBy w2 (some b)
theorem back {t E : TypeId} {es : Array MapEntry} {clock : Nat} {key v : Value} {kl : Lit} (K : Keyed P k) (ht : P.underlying t = some (.map k E)) (hb : w.heap[b]? = some (.map es clock)) (hF : Fit P k R0 es clock) (hs : es.size ≤ n) (hn : n < maxLen) (hbb : b < base)
    (ho : ∀ x ∈ es.toList, ∃ m, m ≤ n ∧ w.ownsRow base e sz x.val m (F x.key)) (ha : ∀ key, (∀ x ∈ es.toList, x.key ≠ key) → F key = [])
    (hd : ∀ x ∈ es.toList, ∀ y ∈ es.toList, x.key ≠ y.key → x.val.ownBlock = none ∨ x.val.ownBlock ≠ y.val.ownBlock)
    (hkey : keyOf P k key = some kl) (hv : ∀ x ∈ es.toList, x.key ≠ key → x.val.ownBlock = none ∨ x.val.ownBlock ≠ v.ownBlock) (hvb : v.ownBlock ≠ some b) :
    Back w P t k base e sz b n F key v := by
  intro w1 v' xs' m' hg hown' hl' hloc
  have hblt : b < w.heap.size := (Array.getElem?_eq_some_iff.1 hb).1
  have hb1 : w1.heap[b]? = some (.map es clock) := (hg.block b hblt (fun e1 => hvb e1.symm)).trans hb
  -- the write, and who is there behind it
  obtain ⟨es', clock', hrun, hF', hsz, who, stay⟩ : ∃ es' clock', (Instr.mapUpdate t (.map (some b)) key v').run P w1 = .ok () (setBlock w1 b (.map es' clock')) ∧ Fit P k R0 es' clock' ∧ es'.size ≤ n + 1 ∧
      (∀ x ∈ es'.toList, (x ∈ es.toList ∧ x.key ≠ key) ∨ (x.key = key ∧ x.val = v')) ∧ (∀ y, (∀ x ∈ es'.toList, x.key ≠ y) → y ≠ key ∧ ∀ x ∈ es.toList, x.key ≠ y) := by
    rcases K.find w1 hkey es.toList hF.keys with ⟨h1, h2⟩|⟨j, e0, h1, h2, h3⟩
    · refine ⟨es.push ⟨key, v', clock⟩, clock + 1, ?_, ⟨by simp;omega, stamped_push hF.stamped h2, ?_⟩, by simp;omega, ?_, ?_⟩
      · simp [Instr.mapUpdate, run_underlying ht, MapKept.run_getObj_map hb1, K.check w1 false hkey, h1, MapKept.run_setObj_map _ hb1, Result.andThen, setBlock]
      · intro x hx
        simp only [Array.toList_push, List.mem_append, List.mem_singleton] at hx
        rcases hx with hx|rfl
        · exact hF.reads x hx
        · exact ⟨_, rd_mk hkey rfl⟩
      · intro x hx
        simp only [Array.toList_push, List.mem_append, List.mem_singleton] at hx
        rcases hx with hx|rfl
        · exact Or.inl ⟨hx, h2 x hx⟩
        · exact Or.inr ⟨rfl, rfl⟩
      · intro y hy
        refine ⟨fun e1 => hy ⟨key, v', clock⟩ (by simp) e1.symm, fun x hx => hy x (by simp [Array.mem_toList_iff.1 hx])⟩
    · have hj : es[j]? = some e0 := by simpa using h2
      have hkeyf : ∀ e', es[j]? = some e' → ({ e' with key := key, val := v' } : MapEntry).key = e'.key := fun e' he' => by rw [hj] at he';cases he';exact h3.symm
      have hlist : (es.modify j (fun e' => { e' with key := key, val := v' })).toList = es.toList.set j { e0 with key := key, val := v' } := by rw [Array.toList_modify, modify_eq_set _ _ _ _ h2]
      have hjl : j < es.toList.length := (List.getElem?_eq_some_iff.1 h2).1
      have who : ∀ x ∈ es.toList.set j { e0 with key := key, val := v' }, x = { e0 with key := key, val := v' } ∨ (x ∈ es.toList ∧ x.key ≠ key) := by
        intro x hx
        obtain ⟨i, hi, ex⟩ := List.getElem_of_mem hx
        rw [List.getElem_set] at ex
        split at ex
        · exact Or.inl ex.symm
        · rename_i hne
          have hi' : i < es.toList.length := by simpa using hi
          refine Or.inr ⟨ex ▸ List.getElem_mem hi', ?_⟩
          rw [← h3]
          exact other_key hF h2 (by rw [List.getElem?_eq_getElem hi', ex]) (fun e1 => hne e1.symm)
      refine ⟨es.modify j (fun e' => { e' with key := key, val := v' }), clock, ?_, ⟨by simpa using hF.size, stamped_modify hF.stamped _ _ (fun _ _ => rfl) (fun e' _ he' => hkeyf e' he'), ?_⟩, by simp;omega, ?_, ?_⟩
      · simp [Instr.mapUpdate, run_underlying ht, MapKept.run_getObj_map hb1, K.check w1 false hkey, h1, hj, h3, K.stays w1 hkey, MapKept.run_setObj_map _ hb1, Result.andThen, setBlock]
      · intro x hx
        rw [hlist] at hx
        rcases who x hx with rfl|⟨hx', hne⟩
        · exact ⟨_, rd_mk hkey rfl⟩
        · exact hF.reads x hx'
      · intro x hx
        rw [hlist] at hx
        rcases who x hx with rfl|h
        · exact Or.inr ⟨rfl, rfl⟩
        · exact Or.inl h
      · intro y hy
        rw [hlist] at hy
        have hky : y ≠ key := fun e1 => hy { e0 with key := key, val := v' } (List.mem_iff_getElem.2 ⟨j, by simpa using hjl, by simp⟩) e1.symm
        refine ⟨hky, fun x hx e1 => ?_⟩
        obtain ⟨i, hi, ex⟩ := List.getElem_of_mem hx
        by_cases hij : i = j
        · subst hij
          have : e0 = x := by
            have h4 := List.getElem?_eq_getElem hi
            rw [h2, ex] at h4
            exact Option.some.inj h4
          subst this
          exact hky (e1.symm.trans h3)
        · refine hy x (List.mem_iff_getElem.2 ⟨i, by simpa using hi, ?_⟩) e1
          rw [List.getElem_set, if_neg (fun e2 => hij e2.symm)]
          exact ex
  have hg2 : w1.grownBy (setBlock w1 b (.map es' clock')) (some b) := ⟨rfl, rfl, rfl, by simp [setBlock], fun i _ hi => heap_setBlock_other hb1 _ (fun e1 => hi (by rw [e1]))⟩
  have own_ne : ∀ {u : Value} {m : Nat} {ys : List Value}, w1.ownsRow base e sz u m ys → u.ownBlock = none ∨ u.ownBlock ≠ some b := fun {u m ys} ho => by
    cases hu : u.ownBlock with
    | none => exact Or.inl rfl
    | some g =>
      refine Or.inr (fun e1 => ?_)
      have := (ho.lt g hu).1
      cases e1
      omega
  have old_new : ∀ x ∈ es.toList, x.key ≠ key → x.val.ownBlock = none ∨ x.val.ownBlock ≠ v'.ownBlock := by
    intro x hx hne
    rcases hloc with h1|⟨g, h1, h2⟩
    · rw [h1]
      exact hv x hx hne
    · cases hx' : x.val.ownBlock with
      | none => exact Or.inl rfl
      | some gx =>
        obtain ⟨m, _, ho1⟩ := ho x hx
        have := (ho1.lt gx hx').2
        refine Or.inr (fun e1 => ?_)
        rw [h1] at e1
        cases e1
        omega
  refine ⟨_, hrun, ⟨es', clock', heap_setBlock_same hb1 _, hF', hsz, hbb, ?_, ?_, ?_⟩, hg2⟩
  · intro x hx
    rcases who x hx with ⟨hx0, hne⟩|⟨hxk, hval⟩
    · obtain ⟨m, hm, ho1⟩ := ho x hx0
      have h2 := ho1.kept hg (hv x hx0 hne)
      refine ⟨m, by omega, ?_⟩
      unfold upd
      rw [if_neg hne]
      exact h2.kept hg2 (own_ne h2)
    · refine ⟨m', hl', ?_⟩
      unfold upd
      rw [if_pos hxk, hval]
      exact hown'.kept hg2 (own_ne hown')
  · intro y hy
    obtain ⟨h1, h2⟩ := stay y hy
    unfold upd
    rw [if_neg h1]
    exact ha y h2
  · intro x hx y hy hne
    rcases who x hx with ⟨hx0, hxk⟩|⟨hxk, hxv⟩ <;> rcases who y hy with ⟨hy0, hyk⟩|⟨hyk, hyv⟩
    · exact hd x hx0 y hy0 hne
    · rw [hyv]
      exact old_new x hx0 hxk
    · rw [hxv]
      cases hv' : v'.ownBlock with
      | none => exact Or.inl rfl
      | some g =>
        refine Or.inr (fun e1 => ?_)
        rcases old_new y hy0 hyk with h|h
        · rw [h] at e1
          cases e1
        · exact h (by rw [hv', e1])
    · exact absurd (hxk.trans hyk.symm) hne
theorem one_entry {es : Array MapEntry} {clock : Nat} (hF : Fit P k R0 es clock) {x y : MapEntry} (hx : x ∈ es.toList) (hy : y ∈ es.toList) (he : x.key = y.key) : x = y := by
  obtain ⟨i, hi⟩ := List.mem_iff_getElem?.1 hx
  obtain ⟨j, hj⟩ := List.mem_iff_getElem?.1 hy
  by_cases h : i = j
  · subst h
    rw [hi] at hj
    exact Option.some.inj hj
  · exact absurd he (other_key hF hj hi h)
theorem look {t E : TypeId} {key : Value} {kl : Lit} (h : Rows w P k base e sz b n F) (K : Keyed P k) (ht : P.underlying t = some (.map k E)) (hz : ∀ w : World, (zeroValue E).run P w = .ok (.slice none 0 0) w) (hn : n < maxLen) (hkey : keyOf P k key = some kl) :
    ∃ v m, (∀ u : World, u.heap[b]? = w.heap[b]? → (Instr.lookup t (.map (some b)) key false).run P u = .ok v u) ∧ m ≤ n ∧ w.ownsRow base e sz v m (F key) ∧ Back w P t k base e sz b n F key v := by
  obtain ⟨es, clock, hb, hF, hs, hbb, ho, ha, hd⟩ := h
  rcases Maps.fit_look false K ht (hz w) hb hF hkey with ⟨_, hno, _⟩|⟨e0, y, hm0, h3, _, _, _, _⟩
  · refine ⟨.slice none 0 0, 0, fun u hu => ?_, Nat.zero_le _, ?_, back K ht hb hF hs hn hbb ho ha hd hkey (fun x _ _ => ?_) (by simp [Value.ownBlock])⟩
    · rcases Maps.fit_look false K ht (hz u) (hu.trans hb) hF hkey with ⟨hrun, _, _⟩|⟨e1, _, hm1, h31, _, _, _, _⟩
      · exact hrun
      · exact absurd h31 (hno e1 hm1)
    · rw [ha key hno]
      exact World.ownsRow_nil _ _ _ _
    · cases x.val.ownBlock <;> simp [Value.ownBlock]
  · obtain ⟨m, hm, ho1⟩ := ho e0 hm0
    refine ⟨e0.val, m, fun u hu => ?_, hm, by rw [← h3];exact ho1, back K ht hb hF hs hn hbb ho ha hd hkey (fun x hx hne => hd x hx e0 hm0 (by rw [h3];exact hne)) (fun e1 => ?_)⟩
    · rcases Maps.fit_look false K ht (hz u) (hu.trans hb) hF hkey with ⟨_, hno, _⟩|⟨e1, _, hm1, h31, hrun, _, _, _⟩
      · exact absurd h3 (hno e0 hm0)
      · rw [one_entry hF hm1 hm0 (h31.trans h3.symm)] at hrun
        exact hrun
    · have := (ho1.lt b e1).1
      omega
theorem own_cell {w : World} {base : Nat} {e : TypeId} {sz m j : Nat} {v : Value} {xs : List Value} (h : w.ownsRow base e sz v m xs) (hj : j < m) :
    ∃ g, (∃ cap, v = .slice (some ⟨g, 0, none⟩) m cap) ∧ base ≤ g ∧ g < w.heap.size ∧ ∀ c u, xs[c]? = some u → w.cell? ⟨g, c, none⟩ = some u := by
  rcases h.2 with ⟨rfl, h0⟩|⟨g, cap, cur, rfl, hg, hh, hn, hcap, hsz, ht⟩
  · omega
  · refine ⟨g, ⟨cap, rfl⟩, hg, (Array.getElem?_eq_some_iff.1 hh).1, fun c u hu => ?_⟩
    rw [cell_of_row w g c cur e (0, 0) hh]
    rw [← ht] at hu
    rw [List.getElem?_take] at hu
    split at hu
    · simpa using hu
    · cases hu
theorem own_form {w : World} {base : Nat} {e : TypeId} {sz m : Nat} {v : Value} {xs : List Value} (h : w.ownsRow base e sz v m xs) : ∃ q cap, v = .slice q m cap := by
  rcases h.2 with ⟨rfl, h0⟩|⟨g, cap, cur, rfl, _⟩
  · exact ⟨none, 0, by rw [h0]⟩
  · exact ⟨_, _, rfl⟩
theorem flat_at {α : Type} {f : α → List Value} {sz : Nat} (hf : ∀ x, (f x).length = sz) : ∀ (l : List α) (j c : Nat) (x : α) (u : Value), l[j]? = some x → (f x)[c]? = some u → (l.flatMap f)[j * sz + c]? = some u
  | [], j, c, x, u, h, _ => by simp at h
  | y :: r, 0, c, x, u, h, hc => by
    simp at h
    subst h
    rw [List.flatMap_cons, Nat.zero_mul, Nat.zero_add, List.getElem?_append_left (List.getElem?_eq_some_iff.1 hc).1]
    exact hc
  | y :: r, j + 1, c, x, u, h, hc => by
    rw [List.flatMap_cons, List.getElem?_append_right (by rw [hf, Nat.succ_mul];omega), hf]
    have := flat_at hf r j c x u (by simpa using h) hc
    rw [show (j + 1) * sz + c - sz = j * sz + c by rw [Nat.succ_mul];omega]
    exact this
end Grp
end Go.Proofs.YtcfmchpoclkpgaaGreatDoor
