/-
  Ends and eras in plain data, and as they lie. No function of the program stands in this text.
-/
import Derived.Test.YtcfmchpoclkpgaaNC
import Derived.Test.YtcfmchpoclkpgaaHold
import Derived.Deep.Slices
namespace Go.Proofs.Ytcfmchpoclkpgaa
open Go.RowKit NB
/-- where an era ends -/
structure UntilV where
  has : Bool
  year : Int
  month : Int
  kind : Int
  week : Int
  day : Int
  sec : Int
  base : Int
deriving DecidableEq
def UntilV.cells (u : UntilV) : List Value := [.bool u.has, .int .i64 u.year, .int .i64 u.month, .int .i64 u.kind, .int .i64 u.week, .int .i64 u.day, .int .i64 u.sec, .int .i64 u.base]
structure EraV where
  off : Int
  kind : Int
  save : Int
  rules : ByteArray
  format : ByteArray
  u : UntilV
deriving DecidableEq
def EraV.cells (e : EraV) : List Value := [.int .i64 e.off, .int .i64 e.kind, .int .i64 e.save, .string e.rules, .string e.format, .bool e.u.has, .int .i64 e.u.year, .int .i64 e.u.month, .int .i64 e.u.kind, .int .i64 e.u.week, .int .i64 e.u.day, .int .i64 e.u.sec, .int .i64 e.u.base]
/-- what an era's parts may hold, whatever it is -/
structure EraV.Fit (e : EraV) : Prop where
  r : e.rules.size ≤ 9223372036854775807
  f : e.format.size ≤ 9223372036854775807
  off : I64 e.off
  save : I64 e.save
  year : I64 e.u.year
  sec : I64 e.u.sec
structure UntilV.Fit (u : UntilV) : Prop where
  year : I64 u.year
  sec : I64 u.sec
theorem EraV.Fit.u {e : EraV} (h : e.Fit) : e.u.Fit := ⟨h.year, h.sec⟩
/-- A slice value that holds such eras. -/
structure HoldsE (w : World) (v : Value) (es : List EraV) : Prop where
  lies : (∃ p cap, v = .slice p 0 cap ∧ es = []) ∨ (∃ b off cap, v = .slice (some ⟨b, off, none⟩) es.length cap ∧ b < w.heap.size ∧ Lies w b off 13 (es.map EraV.cells))
  fit : ∀ e ∈ es, e.Fit
  len : es.length ≤ 9223372036854775807
theorem HoldsE.later {w w' : World} {v : Value} {es : List EraV} (h : HoldsE w v es) (hb : Below w.heap.size w w') : HoldsE w' v es := by
  refine ⟨?_, h.fit, h.len⟩
  rcases h.lies with h1 | ⟨b, off, cap, h1, h2, h3⟩
  · exact .inl h1
  · refine .inr ⟨b, off, cap, h1, Nat.lt_of_lt_of_le h2 hb.size, fun i j cs v hi hj => ?_⟩
    rw [hb.cell (p := ⟨b, off + i * 13 + j, none⟩) h2]
    exact h3 i j cs v hi hj
theorem HoldsE.form {w : World} {v : Value} {es : List EraV} (h : HoldsE w v es) : ∃ p cap, v = .slice p es.length cap := by
  rcases h.lies with ⟨p, cap, h1, h2⟩ | ⟨b, off, cap, h1, _, _⟩
  · exact ⟨p, cap, by rw [h1, h2]; rfl⟩
  · exact ⟨_, cap, h1⟩
/-- an era's cells, where it lies -/
theorem HoldsE.at {w : World} {v : Value} {es : List EraV} (h : HoldsE w v es) {k : Nat} {e : EraV} (he : es[k]? = some e) : ∃ b off cap, v = .slice (some ⟨b, off, none⟩) es.length cap ∧ b < w.heap.size ∧ ∀ (j : Nat) (u : Value), e.cells[j]? = some u → w.cell? ⟨b, off + k * 13 + j, none⟩ = some u := by
  rcases h.lies with ⟨p, cap, h1, h2⟩ | ⟨b, off, cap, h1, h2, h3⟩
  · rw [h2] at he; simp at he
  · exact ⟨b, off, cap, h1, h2, fun j u hu => h3 k j _ u (by rw [List.getElem?_map, he]; rfl) hu⟩
end Go.Proofs.Ytcfmchpoclkpgaa
