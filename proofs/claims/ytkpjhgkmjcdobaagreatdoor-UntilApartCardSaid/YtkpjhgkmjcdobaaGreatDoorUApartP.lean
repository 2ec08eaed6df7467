import Derived.Test.YtkpjhgkmjcdobaaGreatDoorG13
import Derived.Test.YtkpjhgkmjcdobaaGreatDoorIn
/-
  noontidelaw28.UntilApart in plain data: what until.Check says of a zone's ends.
-/
namespace Go.Proofs.YtkpjhgkmjcdobaaGreatDoor
open Go.RowKit NB Nxt
namespace Unt
theorem first_or {f : Nat → Int} : ∀ (c k : Nat), (first f c k = (-1, 0) ∧ ∀ j, k ≤ j → j < k + c → f j = 0) ∨ ∃ j : Nat, first f c k = ((j : Int), f j) ∧ f j ≠ 0 ∧ j < k + c
  | 0, k => .inl ⟨rfl, fun j h1 h2 => by omega⟩
  | c + 1, k => by
    unfold first
    by_cases h : f k = 0
    · rw [if_pos h]
      rcases first_or (f := f) c (k + 1) with ⟨h1, h2⟩ | ⟨j, h1, h2, h3⟩
      · refine .inl ⟨h1, fun j h3 h4 => ?_⟩
        by_cases hj : j = k
        · rw [hj]; exact h
        · exact h2 j (by omega) (by omega)
      · exact .inr ⟨j, h1, h2, by omega⟩
    · rw [if_neg h]
      exact .inr ⟨k, rfl, h, by omega⟩
theorem bad_val (l : List RuleV) (es : List EraV) (L : List Int) (i : Nat) : badAt l es L i = 0 ∨ badAt l es L i = 14 ∨ badAt l es L i = 15 := by
  unfold badAt
  cases L[i]? with
  | none => exact .inl rfl
  | some t =>
    simp only
    generalize (if 0 < i then (L[i - 1]?).getD 0 else t - 345600) = q
    split
    · exact .inr (.inl rfl)
    · split
      · exact .inr (.inr rfl)
      · exact .inl rfl
theorem check_form {l : List RuleV} {es : List EraV} (h : Zn.zoneB es = false) : checkU l es = (-1, 4) ∧ Zn.endsE es = 4 ∧ Zn.endsR l es = [] := by
  refine ⟨?_, ?_, ?_⟩
  · unfold checkU; rw [h]; rfl
  · unfold Zn.endsE; rw [h]; rfl
  · unfold Zn.endsR; rw [h]; rfl
theorem check_zone {l : List RuleV} {es : List EraV} (h : Zn.zoneB es = true) : Zn.endsE es = 0 ∧ Zn.endsR l es = Zn.endsL l es ∧ ((checkU l es = (-1, 0) ∧ ∀ i, i < (Zn.endsL l es).length → badAt l es (Zn.endsL l es) i = 0) ∨ ∃ (j : Nat) (s : Int), checkU l es = ((j : Int), s) ∧ (s = 14 ∨ s = 15) ∧ j < (Zn.endsL l es).length) := by
  refine ⟨?_, ?_, ?_⟩
  · unfold Zn.endsE; rw [if_pos h]
  · unfold Zn.endsR; rw [if_pos h]
  · unfold checkU
    rw [if_pos h]
    rcases first_or (f := badAt l es (Zn.endsL l es)) (Zn.endsL l es).length 0 with ⟨h1, h2⟩ | ⟨j, h1, h2, h3⟩
    · exact .inl ⟨h1, fun i hi => h2 i (by omega) (by omega)⟩
    · refine .inr ⟨j, _, h1, ?_, by omega⟩
      rcases bad_val l es (Zn.endsL l es) j with h | h | h
      · exact absurd h h2
      · exact .inl h
      · exact .inr h
/-- what holds at each end, if nothing is wrong -/
theorem ok_end {l : List RuleV} {es : List EraV} {L : List Int} {i : Nat} {t : Int} {e f : EraV} (h : badAt l es L i = 0) (ht : L[i]? = some t) (he : es[i]? = some e) (hf : es[i + 1]? = some f) : (0 < i → ∀ q, L[i - 1]? = some q → 345600 ≤ t - q) ∧ ¬ NearP l e (t - 172800) t ∧ ¬ NearP l f t (t + 172800) := by
  unfold badAt at h
  rw [ht] at h
  simp only at h
  generalize hp : (if 0 < i then (L[i - 1]?).getD 0 else t - 345600) = p at h
  split at h
  · cases h
  · rename_i h1
    split at h
    · cases h
    · rename_i h2
      rw [he, hf] at h2
      unfold nearO at h2
      simp only [not_or] at h2
      refine ⟨fun h0 q hq => ?_, h2.2.1, h2.2.2⟩
      have := h2.1
      rw [if_pos h0, hq] at hp
      simp only [Option.getD_some] at hp
      omega
/-- an occurrence around an end -/
theorem ok_occ {l : List RuleV} {e : EraV} {a b : Int} {fr tt : Int} {o : OccV} (hR : Er.rightB e = true) (hk : e.kind = 2) (hn : ¬ NearP l e a b) (ho : o ∈ All.inO l e.rules fr tt 20) : Chn.instE l e.rules e.off o = (Chn.inst l e.rules e.off o, 0) ∧ ¬ (a < Chn.inst l e.rules e.off o ∧ Chn.inst l e.rules e.off o < b) := by
  have hA : Occ.All l e.rules l.length o := by
    unfold All.inO at ho
    split at ho
    · exact (Occ.inL_all ho).1
    · cases ho
  have hm : Chn.may e.off = true := Chn.may_iff.2 (right_spec hR).1
  exact ⟨Chn.instE_all hm hA, fun hh => hn ⟨hk, o, hA, hh.1, hh.2⟩⟩
end Unt
end Go.Proofs.YtkpjhgkmjcdobaaGreatDoor
