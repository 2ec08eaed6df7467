import Derived.Test.YtcfmchpoclkpgaaGreatDoorG10
import Derived.RangeFuncNested
import Derived.RangeFuncBound
import Derived.RangeFuncCalls
import Derived.RangeFuncLeaves
import Derived.Test.YtcfmchpoclkpgaaGreatDoorG6
namespace Go.Proofs.YtcfmchpoclkpgaaGreatDoor
open Go.RowKit NB
namespace Chn
def ruleAt (l : List RuleV) (i : Int) : Option RuleV := if 0 ≤ i then l[i.toNat]? else none
def baseAt (l : List RuleV) (i : Int) : Int := match ruleAt l i with|some r => r.base|none => 0
def saveAt (l : List RuleV) (i : Int) : Int := match ruleAt l i with|some r => r.save|none => 0
def saved (l : List RuleV) (name : ByteArray) (o : OccV) : Int := match Occ.prevO l name o with|some p => saveAt l p.rule|none => 0
def shift (off base s : Int) : Int := if base = 0 then off + s else if base = 1 then off else 0
def inst (l : List RuleV) (name : ByteArray) (off : Int) (o : OccV) : Int := o.nom - shift off (baseAt l o.rule) (saved l name o)
def may (off : Int) : Bool := decide (-54000 ≤ off) && decide (off ≤ 54000)
def isO (l : List RuleV) (name : ByteArray) (o : OccV) : Bool := match ruleAt l o.rule with
  | some r => decide (r.name = name) && decide (Nom.nomE r o.year = (o.nom, 0))
  | none => false
def instE (l : List RuleV) (name : ByteArray) (off : Int) (o : OccV) : Int × Int := if may off then (if isO l name o then (inst l name off o, 0) else (0, 12)) else (0, 1)
theorem rule_at {l : List RuleV} {i : Nat} {r : RuleV} (h : l[i]? = some r) : ruleAt l i = some r := by
  unfold ruleAt
  rw [if_pos (by omega), show (i : Int).toNat = i by omega]
  exact h
theorem is_all {l : List RuleV} {name : ByteArray} {o : OccV} : isO l name o = true ↔ Occ.All l name l.length o := by
  unfold isO
  constructor
  · intro h
    unfold ruleAt at h
    by_cases h0 : 0 ≤ o.rule
    · rw [if_pos h0] at h
      cases hr : l[o.rule.toNat]? with
      | none => rw [hr] at h;cases h
      | some r =>
        rw [hr] at h
        simp only [Bool.and_eq_true, decide_eq_true_eq] at h
        obtain ⟨h1, h2⟩ := h
        unfold Nom.nomE at h2
        cases hR : Rul.right r
        · rw [hR, if_neg (by decide)] at h2;exact absurd (congrArg Prod.snd h2) (by simp)
        · rw [hR, if_pos rfl] at h2
          by_cases hy : o.year < r.fr ∨ r.to < o.year
          · rw [if_pos hy] at h2;exact absurd (congrArg Prod.snd h2) (by simp)
          · rw [if_neg hy] at h2
            have h3 := congrArg Prod.fst h2
            simp only at h3
            refine ⟨o.rule.toNat, r, (List.getElem?_eq_some_iff.1 hr).1, hr, h1, hR, by omega, by omega, ?_⟩
            unfold Occ.occ
            rw [h3, show ((o.rule.toNat : Nat) : Int) = o.rule by omega]
    · rw [if_neg h0] at h;cases h
  · rintro ⟨i, r, hi, hr, hn, hR, h1, h2, e⟩
    have e1 : o.rule = i := by rw [e];rfl
    have e2 : o.nom = Occ.nomR r o.year := by rw [e];rfl
    rw [e1, rule_at hr]
    simp only [Bool.and_eq_true, decide_eq_true_eq]
    refine ⟨hn, ?_⟩
    unfold Nom.nomE
    rw [if_pos hR, if_neg (by omega), e2]
theorem save_bd {r : RuleV} (hR : Rul.right r = true) : -10800 ≤ r.save ∧ r.save ≤ 10800 := by
  have := Rul.right_spec hR
  omega
end Chn
end Go.Proofs.YtcfmchpoclkpgaaGreatDoor
namespace Go.Proofs.YtcfmchpoclkpgaaGreatDoor
open Go.RowKit NB
namespace Occ
theorem hit_det {nx : OccV → Option OccV} {ok : OccV → Bool} {c R R' : Option OccV} (h : Hit nx ok c R) (h' : Hit nx ok c R') : R = R' := by
  induction h with
  | none => cases h';rfl
  | here ho =>
    cases h' with
    | here => rfl
    | go hn => rw [ho] at hn;cases hn
  | go hn _ ih =>
    cases h' with
    | here ho => rw [ho] at hn;cases hn
    | go _ h2 => exact ih h2
open Classical in
noncomputable def pick (nx : OccV → Option OccV) (ok : OccV → Bool) (c : Option OccV) : Option OccV := if h : ∃ R, Hit nx ok c R then Classical.choose h else none
theorem pick_eq {nx : OccV → Option OccV} {ok : OccV → Bool} {c R : Option OccV} (h : Hit nx ok c R) : pick nx ok c = R := by
  unfold pick
  rw [dif_pos ⟨R, h⟩]
  exact hit_det (Classical.choose_spec (⟨R, h⟩ : ∃ R, Hit nx ok c R)) h
theorem pick_next (l : List RuleV) (name : ByteArray) (ok : OccV → Bool) (fr : OccV) : Hit (nextO l name) ok (nextO l name fr) (pick (nextO l name) ok (nextO l name fr)) := by
  obtain ⟨R, h⟩ := hit_next l name ok fr
  rw [pick_eq h]
  exact h
theorem pick_none {nx : OccV → Option OccV} {ok : OccV → Bool} : pick nx ok none = none := pick_eq .none
theorem pick_here {nx : OccV → Option OccV} {ok : OccV → Bool} {o : OccV} (h : ok o = true) : pick nx ok (some o) = some o := pick_eq (.here h)
theorem step_next' {l : List RuleV} {name : ByteArray} {ok : OccV → Bool} {o : OccV} (ho : ok o = false) : pick (nextO l name) ok (some o) = pick (nextO l name) ok (nextO l name o) :=
  pick_eq (.go ho (pick_next l name ok o))
theorem less_tri {l : List RuleV} {name : ByteArray} {a b : OccV} (ha : All l name l.length a) (hb : All l name l.length b) : less a b = true ∨ a = b ∨ less b a = true := by
  cases h1 : less a b
  · cases h2 : less b a
    · obtain ⟨e1, e2⟩ := weak_less.alike a b h1 h2
      exact .inr (.inl (All_alike ha hb e1 e2))
    · exact .inr (.inr rfl)
  · exact .inl rfl
theorem next_le {l : List RuleV} {name : ByteArray} {fr o x : OccV} (h : nextO l name fr = some o) (hx : All l name l.length x) (hl : less fr x = true) : x = o ∨ less o x = true := by
  rcases less_tri hx (next_all h).1 with h1|h1|h1
  · exact (next_gap h hx hl h1).elim
  · exact .inl h1
  · exact .inr h1
end Occ
namespace Chn
def clampE (t : Int) : Int := Occ.clampI t (-2000000000000) 2000000000000
noncomputable def lastO (l : List RuleV) (name : ByteArray) (off t : Int) : Option OccV := if may off then Occ.pick (Occ.prevO l name) (fun o => decide (inst l name off o ≤ clampE t)) (Occ.prevO l name ⟨-1, 0, clampE t + 64800 + 1⟩) else none
noncomputable def afterO (l : List RuleV) (name : ByteArray) (off t : Int) : Option OccV := if may off then Occ.pick (Occ.nextO l name) (fun o => decide (clampE t < inst l name off o)) (Occ.nextO l name ⟨-1, 0, clampE t - 64800⟩) else none
def clockE (l : List RuleV) (name : ByteArray) (off nom base : Int) : Int × Int :=
  if may off = false ∨ nom < -2000000000000 ∨ 2000000000000 < nom then (0, 1) else if base < 0 ∨ 2 < base then (0, 4) else (nom - shift off base (saved l name ⟨-1, 0, nom⟩), 0)
theorem saved_bd (l : List RuleV) (name : ByteArray) (o : OccV) : -10800 ≤ saved l name o ∧ saved l name o ≤ 10800 := by
  unfold saved
  cases h : Occ.prevO l name o with
  | none => exact ⟨by simp, by simp⟩
  | some p =>
    obtain ⟨i, r, hi, hr, hn, hR, _, _, e⟩ := (Occ.prev_all h).1
    have e1 : p.rule = i := by rw [e];rfl
    simp only
    unfold saveAt
    rw [e1, rule_at hr]
    exact save_bd hR
theorem may_iff {off : Int} : may off = true ↔ -54000 ≤ off ∧ off ≤ 54000 := by
  unfold may;simp
theorem shift_bd {off base s : Int} (h : may off = true) (h1 : -10800 ≤ s) (h2 : s ≤ 10800) : -64800 ≤ shift off base s ∧ shift off base s ≤ 64800 := by
  rw [may_iff] at h
  unfold shift
  split
  · omega
  · split <;> omega
theorem inst_bd {l : List RuleV} {name : ByteArray} {off : Int} (h : may off = true) (o : OccV) : o.nom - 64800 ≤ inst l name off o ∧ inst l name off o ≤ o.nom + 64800 := by
  have := saved_bd l name o
  have := shift_bd (base := baseAt l o.rule) h this.1 this.2
  unfold inst
  omega
theorem all_range {l : List RuleV} {name : ByteArray} {o : OccV} (h : Occ.All l name l.length o) : -1099000000000 < o.nom ∧ o.nom < 1099000000000 := by
  obtain ⟨i, r, hi, hr, hn, hR, h1, h2, e⟩ := h
  have := Occ.nom_range hR h1 h2
  rw [show o.nom = Occ.nomR r o.year by rw [e];rfl]
  exact this
theorem after_spec {l : List RuleV} {name : ByteArray} {off t : Int} (hm : may off = true) : match afterO l name off t with
    | none => ∀ x, Occ.All l name l.length x → inst l name off x ≤ clampE t
    | some o => Occ.All l name l.length o ∧ clampE t < inst l name off o ∧ ∀ x, Occ.All l name l.length x → Occ.less x o = true → inst l name off x ≤ clampE t := by
  have h := Occ.found_next (Occ.pick_next l name (fun o => decide (clampE t < inst l name off o)) ⟨-1, 0, clampE t - 64800⟩)
  have far : ∀ x : OccV, Occ.All l name l.length x → Occ.less ⟨-1, 0, clampE t - 64800⟩ x = false → inst l name off x ≤ clampE t := by
    intro x ha hx
    have := (inst_bd (l := l) (name := name) hm x).2
    have := (Occ.all_bd ha).2.2.1
    rw [Bool.eq_false_iff, Ne, Occ.less_iff] at hx
    simp only at hx
    omega
  unfold afterO
  rw [if_pos hm]
  generalize Occ.pick (Occ.nextO l name) (fun o => decide (clampE t < inst l name off o)) (Occ.nextO l name ⟨-1, 0, clampE t - 64800⟩) = R at h
  cases R with
  | none =>
    intro x hx
    cases hf : Occ.less ⟨-1, 0, clampE t - 64800⟩ x
    · exact far x hx hf
    · have := h x hx hf
      simp only [decide_eq_false_iff_not] at this
      omega
  | some o =>
    obtain ⟨h1, h2, h3, h4⟩ := h
    simp only [decide_eq_true_eq] at h3
    refine ⟨h1, h3, fun x hx hl => ?_⟩
    cases hf : Occ.less ⟨-1, 0, clampE t - 64800⟩ x
    · exact far x hx hf
    · have := h4 x hx hf hl
      simp only [decide_eq_false_iff_not] at this
      omega
theorem clamp_le {l : List RuleV} {name : ByteArray} {off t : Int} {o : OccV} (hm : may off = true) (ho : Occ.All l name l.length o) (h : inst l name off o ≤ clampE t) : inst l name off o ≤ t := by
  have := (inst_bd (l := l) (name := name) hm o).1
  have := all_range ho
  unfold clampE Occ.clampI at h
  split at h
  · omega
  · split at h <;> omega
theorem instE_all {l : List RuleV} {name : ByteArray} {off : Int} {o : OccV} (hm : may off = true) (ho : Occ.All l name l.length o) : instE l name off o = (inst l name off o, 0) := by
  unfold instE
  rw [if_pos hm, if_pos (is_all.2 ho)]
def around (l : List RuleV) (name : ByteArray) (t : Int) : List OccV := Occ.inL l name (t + 1036800) ⟨-1, 0, t - 1036800⟩ 20
def Spaced (L : List OccV) : Prop := ∀ (i : Nat) (a b : OccV), L[i]? = some a → L[i + 1]? = some b → a.nom + 345600 ≤ b.nom
end Chn
end Go.Proofs.YtcfmchpoclkpgaaGreatDoor
namespace Go.Proofs.YtcfmchpoclkpgaaGreatDoor
open Go.RowKit NB
namespace Rng
variable {F : Fence} {n : Nat} {P : Program}
def Iter {α : Type} (F : Fence) (n : Nat) (P : Program) (g : Nat) (lb : Array Value) (encs : α → Array Value) (xs : List α) (Kp : Nat → World → World → Prop) (w : World) : Prop :=
  ∀ (l : Nat) (J : Nat → List α → World → Prop) (Jx : List α → World → Prop),
    (∀ c pre A B, J c pre A → Below A.heap.size A B → J c pre B) →
    (∀ c pre A o v, w.heap.size ≤ c → J c pre A → J c pre (A.setCell ⟨c, o, none⟩ v)) →
    (∀ c pre x A, w.heap.size ≤ c → c < A.heap.size → J c pre A → YieldAt F (n - 1) P l (encs x) A fun e B => (e = .returned (.bool true) ∧ J c (pre ++ [x]) B ∧ Kp c A B) ∨ (e = .returned (.bool false) ∧ Jx (pre ++ [x]) B)) →
    (∀ c, w.heap.size ≤ c → J c [] w) →
    CallsIn F n P g (#[.func (.yield l) #[] #[]] ++ lb) w fun e B => (∃ v, e = .returned v) ∧ ((∃ c, w.heap.size ≤ c ∧ J c xs B) ∨ (∃ pre, pre <+: xs ∧ Jx pre B))
def Left {α : Type} (B : Nat) (Kp : World → World → Prop) (I : List α → World → Prop) (Ix : Code → List α → World → Prop) (xs : List α) (W : World) : Exit → Act → World → Prop
  | .normal, _, V => KeepsFrom B W V ∧ Kp W V ∧ I xs V
  | .ret, _, V => KeepsFrom B W V ∧ Ix .ret xs V
  | .exit id, _, V => KeepsFrom B W V ∧ Ix (.exit id) xs V
  | .goto t, _, V => KeepsFrom B W V ∧ Ix (.goto t) xs V
  | .panic _, _, _ => False
  | .outgrown, _, _ => False
end Rng
end Go.Proofs.YtcfmchpoclkpgaaGreatDoor
