/-
  The rules that the statements name: noontidelaw26.Us, noontidelaw21.Eu.
-/
import Derived.Test.YtopdjebnfhfpcaaGreatDoorRuleS
namespace Go.Proofs.YtopdjebnfhfpcaaGreatDoor
open Go.RowKit NB
namespace Us
def us0 : RuleV := ⟨⟨#[85, 83]⟩, 2007, 32767, 3, 2, 0, 8, 7200, 0, 3600, ⟨#[68]⟩⟩
def us1 : RuleV := ⟨⟨#[85, 83]⟩, 2007, 32767, 11, 2, 0, 1, 7200, 0, 0, ⟨#[83]⟩⟩
def eu : RuleV := ⟨⟨#[69, 85]⟩, 1981, 32767, 3, 1, 0, 0, 3600, 2, 3600, ⟨#[83]⟩⟩
theorem Us (w : World) : Calls Tryz.prog 46 #[] w fun e w' => e = .returned (.slice (some ⟨w.heap.size, 0, none⟩) 2 2) ∧ w' = w.alloc (.cells (us0.cells ++ us1.cells).toArray 34) := by
  unfold us0 us1 RuleV.cells
  go_enter Tryz.func46, Tryz.ntmps46
  go_wp2
  go_ret
  exact ⟨rfl, rfl⟩
theorem Eu (w : World) : Calls Tryz.prog 29 #[] w fun e w' => e = .returned (.agg eu.cells.toArray) ∧ Below w.heap.size w w' := by
  unfold eu RuleV.cells
  go_enter Tryz.func29, Tryz.ntmps29
  go_wp2
  refine bodyPost_ret (v := .agg #[.string ⟨#[69, 85]⟩, .int .i64 1981, .int .i64 32767, .int .i64 3, .int .i64 1, .int .i64 0, .int .i64 0, .int .i64 3600, .int .i64 2, .int .i64 3600, .string ⟨#[83]⟩]) ?_ rfl ⟨rfl, ?_⟩
  · simp only [results, Tryz.results29]
    go_simp
  · exact (Below.refl _ _).alloc (Nat.le_refl _) _
def zero : RuleV := ⟨⟨#[]⟩, 0, 0, 0, 0, 0, 0, 0, 0, 0, ⟨#[]⟩⟩
def enn : RuleV := ⟨⟨#[69, 85]⟩, 1981, 32767, 4, 0, 0, 1, 3600, 2, 3600, ⟨#[83]⟩⟩
def emm : RuleV := ⟨⟨#[69, 85]⟩, 1992, 32767, 4, 0, 0, 1, 3600, 2, 3600, ⟨#[83]⟩⟩
def eoo : RuleV := ⟨⟨#[69, 85]⟩, 1981, 1990, 3, 1, 0, 0, 3600, 2, 3600, ⟨#[83]⟩⟩
theorem fit_us0 : us0.Fit := ⟨by decide, by decide, by unfold I64; decide, by unfold I64; decide, by unfold I64; decide, by unfold I64; decide⟩
theorem fit_us1 : us1.Fit := ⟨by decide, by decide, by unfold I64; decide, by unfold I64; decide, by unfold I64; decide, by unfold I64; decide⟩
theorem fit_eu : eu.Fit := ⟨by decide, by decide, by unfold I64; decide, by unfold I64; decide, by unfold I64; decide, by unfold I64; decide⟩
theorem fit_zero : zero.Fit := ⟨by decide, by decide, by unfold I64; decide, by unfold I64; decide, by unfold I64; decide, by unfold I64; decide⟩
theorem fit_enn : enn.Fit := ⟨by decide, by decide, by unfold I64; decide, by unfold I64; decide, by unfold I64; decide, by unfold I64; decide⟩
theorem fit_emm : emm.Fit := ⟨by decide, by decide, by unfold I64; decide, by unfold I64; decide, by unfold I64; decide, by unfold I64; decide⟩
theorem fit_eoo : eoo.Fit := ⟨by decide, by decide, by unfold I64; decide, by unfold I64; decide, by unfold I64; decide, by unfold I64; decide⟩
end Us
end Go.Proofs.YtopdjebnfhfpcaaGreatDoor
