/-
  '==' and '!=' of rules, links and eras.
-/
import Derived.Test.YtcfmchpoclkpgaaOpenT
namespace Go.Proofs.Ytcfmchpoclkpgaa
open Go.RowKit NB
namespace Eqs
theorem extK {x y : LinkV} (h0 : x.target.toList = y.target.toList) (h1 : x.name.toList = y.name.toList) : x = y := by
  replace h0 := toList_inj h0
  replace h1 := toList_inj h1
  obtain ⟨a0, a1⟩ := x
  obtain ⟨b0, b1⟩ := y
  dsimp only at h0 h1
  subst h0 h1
  rfl
set_option maxRecDepth 100000 in
set_option maxHeartbeats 1600000 in
theorem eqlK (x y : LinkV) (w : World) : (binOp .eql 58 (.agg #[.string x.target, .string x.name]) (.agg #[.string y.target, .string y.name])).run Try.prog w = .ok (.bool (decide (x = y))) w := by
  have u2 := Try.underlying2
  have hS : Try.prog.underlying 58 = some (.struct (Try.prog.fieldsOf 58)) := by kernel_rfl
  have hp : Try.prog.stoodInHeld 58 = false := by kernel_rfl
  rw [run_eql_struct, show (10000 : Nat) = 9999 + 1 from rfl, run_equalIn_agg w 9999 58 _ _ hS hp]
  simp only [Program.fieldsOf, Try.underlying58]
  go_simp
  by_cases e : x = y
  · subst e; simp
  · rw [decide_eq_false e]
    by_cases h0 : x.target.toList = y.target.toList
    case neg => rw [if_neg h0] <;> rfl
    rw [if_pos h0]
    by_cases h1 : x.name.toList = y.name.toList
    case neg => rw [if_neg h1] <;> rfl
    rw [if_pos h1]
    exact absurd (extK h0 h1) e
set_option maxRecDepth 100000 in
set_option maxHeartbeats 1600000 in
theorem neqK (x y : LinkV) (w : World) : (binOp .neq 58 (.agg #[.string x.target, .string x.name]) (.agg #[.string y.target, .string y.name])).run Try.prog w = .ok (.bool (!decide (x = y))) w := by
  have u2 := Try.underlying2
  have hS : Try.prog.underlying 58 = some (.struct (Try.prog.fieldsOf 58)) := by kernel_rfl
  have hp : Try.prog.stoodInHeld 58 = false := by kernel_rfl
  rw [run_neq_struct, show (10000 : Nat) = 9999 + 1 from rfl, run_equalIn_agg w 9999 58 _ _ hS hp]
  simp only [Program.fieldsOf, Try.underlying58]
  go_simp
  by_cases e : x = y
  · subst e; simp
  · rw [decide_eq_false e]
    by_cases h0 : x.target.toList = y.target.toList
    case neg => rw [if_neg h0] <;> rfl
    rw [if_pos h0]
    by_cases h1 : x.name.toList = y.name.toList
    case neg => rw [if_neg h1] <;> rfl
    rw [if_pos h1]
    exact absurd (extK h0 h1) e
theorem extR {x y : RuleV} (h0 : x.name.toList = y.name.toList) (h1 : x.fr = y.fr) (h2 : x.to = y.to) (h3 : x.month = y.month) (h4 : x.kind = y.kind) (h5 : x.week = y.week) (h6 : x.day = y.day) (h7 : x.sec = y.sec) (h8 : x.base = y.base) (h9 : x.save = y.save) (h10 : x.letter.toList = y.letter.toList) : x = y := by
  replace h0 := toList_inj h0
  replace h10 := toList_inj h10
  obtain ⟨a0, a1, a2, a3, a4, a5, a6, a7, a8, a9, a10⟩ := x
  obtain ⟨b0, b1, b2, b3, b4, b5, b6, b7, b8, b9, b10⟩ := y
  dsimp only at h0 h1 h2 h3 h4 h5 h6 h7 h8 h9 h10
  subst h0 h1 h2 h3 h4 h5 h6 h7 h8 h9 h10
  rfl
set_option maxRecDepth 100000 in
set_option maxHeartbeats 1600000 in
theorem eqlR (x y : RuleV) (w : World) : (binOp .eql 68 (.agg #[.string x.name, .int .i64 x.fr, .int .i64 x.to, .int .i64 x.month, .int .i64 x.kind, .int .i64 x.week, .int .i64 x.day, .int .i64 x.sec, .int .i64 x.base, .int .i64 x.save, .string x.letter]) (.agg #[.string y.name, .int .i64 y.fr, .int .i64 y.to, .int .i64 y.month, .int .i64 y.kind, .int .i64 y.week, .int .i64 y.day, .int .i64 y.sec, .int .i64 y.base, .int .i64 y.save, .string y.letter])).run Try.prog w = .ok (.bool (decide (x = y))) w := by
  have u2 := Try.underlying2
  have hS : Try.prog.underlying 68 = some (.struct (Try.prog.fieldsOf 68)) := by kernel_rfl
  have hp : Try.prog.stoodInHeld 68 = false := by kernel_rfl
  rw [run_eql_struct, show (10000 : Nat) = 9999 + 1 from rfl, run_equalIn_agg w 9999 68 _ _ hS hp]
  simp only [Program.fieldsOf, Try.underlying68]
  go_simp
  by_cases e : x = y
  · subst e; simp
  · rw [decide_eq_false e]
    by_cases h0 : x.name.toList = y.name.toList
    case neg => rw [if_neg h0] <;> rfl
    rw [if_pos h0]
    by_cases h1 : x.fr = y.fr
    case neg => rw [if_neg h1] <;> rfl
    rw [if_pos h1]
    by_cases h2 : x.to = y.to
    case neg => rw [if_neg h2] <;> rfl
    rw [if_pos h2]
    by_cases h3 : x.month = y.month
    case neg => rw [if_neg h3] <;> rfl
    rw [if_pos h3]
    by_cases h4 : x.kind = y.kind
    case neg => rw [if_neg h4] <;> rfl
    rw [if_pos h4]
    by_cases h5 : x.week = y.week
    case neg => rw [if_neg h5] <;> rfl
    rw [if_pos h5]
    by_cases h6 : x.day = y.day
    case neg => rw [if_neg h6] <;> rfl
    rw [if_pos h6]
    by_cases h7 : x.sec = y.sec
    case neg => rw [if_neg h7] <;> rfl
    rw [if_pos h7]
    by_cases h8 : x.base = y.base
    case neg => rw [if_neg h8] <;> rfl
    rw [if_pos h8]
    by_cases h9 : x.save = y.save
    case neg => rw [if_neg h9] <;> rfl
    rw [if_pos h9]
    by_cases h10 : x.letter.toList = y.letter.toList
    case neg => rw [if_neg h10] <;> rfl
    rw [if_pos h10]
    exact absurd (extR h0 h1 h2 h3 h4 h5 h6 h7 h8 h9 h10) e
set_option maxRecDepth 100000 in
set_option maxHeartbeats 1600000 in
theorem neqR (x y : RuleV) (w : World) : (binOp .neq 68 (.agg #[.string x.name, .int .i64 x.fr, .int .i64 x.to, .int .i64 x.month, .int .i64 x.kind, .int .i64 x.week, .int .i64 x.day, .int .i64 x.sec, .int .i64 x.base, .int .i64 x.save, .string x.letter]) (.agg #[.string y.name, .int .i64 y.fr, .int .i64 y.to, .int .i64 y.month, .int .i64 y.kind, .int .i64 y.week, .int .i64 y.day, .int .i64 y.sec, .int .i64 y.base, .int .i64 y.save, .string y.letter])).run Try.prog w = .ok (.bool (!decide (x = y))) w := by
  have u2 := Try.underlying2
  have hS : Try.prog.underlying 68 = some (.struct (Try.prog.fieldsOf 68)) := by kernel_rfl
  have hp : Try.prog.stoodInHeld 68 = false := by kernel_rfl
  rw [run_neq_struct, show (10000 : Nat) = 9999 + 1 from rfl, run_equalIn_agg w 9999 68 _ _ hS hp]
  simp only [Program.fieldsOf, Try.underlying68]
  go_simp
  by_cases e : x = y
  · subst e; simp
  · rw [decide_eq_false e]
    by_cases h0 : x.name.toList = y.name.toList
    case neg => rw [if_neg h0] <;> rfl
    rw [if_pos h0]
    by_cases h1 : x.fr = y.fr
    case neg => rw [if_neg h1] <;> rfl
    rw [if_pos h1]
    by_cases h2 : x.to = y.to
    case neg => rw [if_neg h2] <;> rfl
    rw [if_pos h2]
    by_cases h3 : x.month = y.month
    case neg => rw [if_neg h3] <;> rfl
    rw [if_pos h3]
    by_cases h4 : x.kind = y.kind
    case neg => rw [if_neg h4] <;> rfl
    rw [if_pos h4]
    by_cases h5 : x.week = y.week
    case neg => rw [if_neg h5] <;> rfl
    rw [if_pos h5]
    by_cases h6 : x.day = y.day
    case neg => rw [if_neg h6] <;> rfl
    rw [if_pos h6]
    by_cases h7 : x.sec = y.sec
    case neg => rw [if_neg h7] <;> rfl
    rw [if_pos h7]
    by_cases h8 : x.base = y.base
    case neg => rw [if_neg h8] <;> rfl
    rw [if_pos h8]
    by_cases h9 : x.save = y.save
    case neg => rw [if_neg h9] <;> rfl
    rw [if_pos h9]
    by_cases h10 : x.letter.toList = y.letter.toList
    case neg => rw [if_neg h10] <;> rfl
    rw [if_pos h10]
    exact absurd (extR h0 h1 h2 h3 h4 h5 h6 h7 h8 h9 h10) e
theorem extE {x y : EraV} (h0 : x.off = y.off) (h1 : x.kind = y.kind) (h2 : x.save = y.save) (h3 : x.rules.toList = y.rules.toList) (h4 : x.format.toList = y.format.toList) (h5 : x.u.has = y.u.has) (h6 : x.u.year = y.u.year) (h7 : x.u.month = y.u.month) (h8 : x.u.kind = y.u.kind) (h9 : x.u.week = y.u.week) (h10 : x.u.day = y.u.day) (h11 : x.u.sec = y.u.sec) (h12 : x.u.base = y.u.base) : x = y := by
  replace h3 := toList_inj h3
  replace h4 := toList_inj h4
  obtain ⟨a0, a1, a2, a3, a4, ⟨a5, a6, a7, a8, a9, a10, a11, a12⟩⟩ := x
  obtain ⟨b0, b1, b2, b3, b4, ⟨b5, b6, b7, b8, b9, b10, b11, b12⟩⟩ := y
  dsimp only at h0 h1 h2 h3 h4 h5 h6 h7 h8 h9 h10 h11 h12
  subst h0 h1 h2 h3 h4 h5 h6 h7 h8 h9 h10 h11 h12
  rfl
set_option maxRecDepth 100000 in
set_option maxHeartbeats 1600000 in
theorem eqlE (x y : EraV) (w : World) : (binOp .eql 92 (.agg #[.int .i64 x.off, .int .i64 x.kind, .int .i64 x.save, .string x.rules, .string x.format, .bool x.u.has, .int .i64 x.u.year, .int .i64 x.u.month, .int .i64 x.u.kind, .int .i64 x.u.week, .int .i64 x.u.day, .int .i64 x.u.sec, .int .i64 x.u.base]) (.agg #[.int .i64 y.off, .int .i64 y.kind, .int .i64 y.save, .string y.rules, .string y.format, .bool y.u.has, .int .i64 y.u.year, .int .i64 y.u.month, .int .i64 y.u.kind, .int .i64 y.u.week, .int .i64 y.u.day, .int .i64 y.u.sec, .int .i64 y.u.base])).run Try.prog w = .ok (.bool (decide (x = y))) w := by
  have u2 := Try.underlying2
  have hS : Try.prog.underlying 92 = some (.struct (Try.prog.fieldsOf 92)) := by kernel_rfl
  have hp : Try.prog.stoodInHeld 92 = false := by kernel_rfl
  rw [run_eql_struct, show (10000 : Nat) = 9999 + 1 from rfl, run_equalIn_agg w 9999 92 _ _ hS hp]
  simp only [Program.fieldsOf, Try.underlying92]
  go_simp
  by_cases e : x = y
  · subst e; simp
  · rw [decide_eq_false e]
    by_cases h0 : x.off = y.off
    case neg => rw [if_neg h0] <;> rfl
    rw [if_pos h0]
    by_cases h1 : x.kind = y.kind
    case neg => rw [if_neg h1] <;> rfl
    rw [if_pos h1]
    by_cases h2 : x.save = y.save
    case neg => rw [if_neg h2] <;> rfl
    rw [if_pos h2]
    by_cases h3 : x.rules.toList = y.rules.toList
    case neg => rw [if_neg h3] <;> rfl
    rw [if_pos h3]
    by_cases h4 : x.format.toList = y.format.toList
    case neg => rw [if_neg h4] <;> rfl
    rw [if_pos h4]
    by_cases h5 : x.u.has = y.u.has
    case neg => rw [if_neg h5] <;> rfl
    rw [if_pos h5]
    by_cases h6 : x.u.year = y.u.year
    case neg => rw [if_neg h6] <;> rfl
    rw [if_pos h6]
    by_cases h7 : x.u.month = y.u.month
    case neg => rw [if_neg h7] <;> rfl
    rw [if_pos h7]
    by_cases h8 : x.u.kind = y.u.kind
    case neg => rw [if_neg h8] <;> rfl
    rw [if_pos h8]
    by_cases h9 : x.u.week = y.u.week
    case neg => rw [if_neg h9] <;> rfl
    rw [if_pos h9]
    by_cases h10 : x.u.day = y.u.day
    case neg => rw [if_neg h10] <;> rfl
    rw [if_pos h10]
    by_cases h11 : x.u.sec = y.u.sec
    case neg => rw [if_neg h11] <;> rfl
    rw [if_pos h11]
    by_cases h12 : x.u.base = y.u.base
    case neg => rw [if_neg h12] <;> rfl
    rw [if_pos h12]
    exact absurd (extE h0 h1 h2 h3 h4 h5 h6 h7 h8 h9 h10 h11 h12) e
set_option maxRecDepth 100000 in
set_option maxHeartbeats 1600000 in
theorem neqE (x y : EraV) (w : World) : (binOp .neq 92 (.agg #[.int .i64 x.off, .int .i64 x.kind, .int .i64 x.save, .string x.rules, .string x.format, .bool x.u.has, .int .i64 x.u.year, .int .i64 x.u.month, .int .i64 x.u.kind, .int .i64 x.u.week, .int .i64 x.u.day, .int .i64 x.u.sec, .int .i64 x.u.base]) (.agg #[.int .i64 y.off, .int .i64 y.kind, .int .i64 y.save, .string y.rules, .string y.format, .bool y.u.has, .int .i64 y.u.year, .int .i64 y.u.month, .int .i64 y.u.kind, .int .i64 y.u.week, .int .i64 y.u.day, .int .i64 y.u.sec, .int .i64 y.u.base])).run Try.prog w = .ok (.bool (!decide (x = y))) w := by
  have u2 := Try.underlying2
  have hS : Try.prog.underlying 92 = some (.struct (Try.prog.fieldsOf 92)) := by kernel_rfl
  have hp : Try.prog.stoodInHeld 92 = false := by kernel_rfl
  rw [run_neq_struct, show (10000 : Nat) = 9999 + 1 from rfl, run_equalIn_agg w 9999 92 _ _ hS hp]
  simp only [Program.fieldsOf, Try.underlying92]
  go_simp
  by_cases e : x = y
  · subst e; simp
  · rw [decide_eq_false e]
    by_cases h0 : x.off = y.off
    case neg => rw [if_neg h0] <;> rfl
    rw [if_pos h0]
    by_cases h1 : x.kind = y.kind
    case neg => rw [if_neg h1] <;> rfl
    rw [if_pos h1]
    by_cases h2 : x.save = y.save
    case neg => rw [if_neg h2] <;> rfl
    rw [if_pos h2]
    by_cases h3 : x.rules.toList = y.rules.toList
    case neg => rw [if_neg h3] <;> rfl
    rw [if_pos h3]
    by_cases h4 : x.format.toList = y.format.toList
    case neg => rw [if_neg h4] <;> rfl
    rw [if_pos h4]
    by_cases h5 : x.u.has = y.u.has
    case neg => rw [if_neg h5] <;> rfl
    rw [if_pos h5]
    by_cases h6 : x.u.year = y.u.year
    case neg => rw [if_neg h6] <;> rfl
    rw [if_pos h6]
    by_cases h7 : x.u.month = y.u.month
    case neg => rw [if_neg h7] <;> rfl
    rw [if_pos h7]
    by_cases h8 : x.u.kind = y.u.kind
    case neg => rw [if_neg h8] <;> rfl
    rw [if_pos h8]
    by_cases h9 : x.u.week = y.u.week
    case neg => rw [if_neg h9] <;> rfl
    rw [if_pos h9]
    by_cases h10 : x.u.day = y.u.day
    case neg => rw [if_neg h10] <;> rfl
    rw [if_pos h10]
    by_cases h11 : x.u.sec = y.u.sec
    case neg => rw [if_neg h11] <;> rfl
    rw [if_pos h11]
    by_cases h12 : x.u.base = y.u.base
    case neg => rw [if_neg h12] <;> rfl
    rw [if_pos h12]
    exact absurd (extE h0 h1 h2 h3 h4 h5 h6 h7 h8 h9 h10 h11 h12) e
end Eqs
end Go.Proofs.Ytcfmchpoclkpgaa
