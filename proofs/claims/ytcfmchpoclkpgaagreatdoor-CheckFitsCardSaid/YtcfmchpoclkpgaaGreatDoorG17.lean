import Derived.Test.YtcfmchpoclkpgaaGreatDoorG6
import Derived.Test.YtcfmchpoclkpgaaGreatDoorG7
import Derived.Deep.Slices
import Derived.SizedLaws
import Derived.Laws.AppendOwn
import Derived.Test.YtcfmchpoclkpgaaGreatDoorProg
import Derived.WalkKit
import Derived.Deep.QuietTactic
import Derived.BigQuiet
import Derived.Maps.AppendAt
namespace Go.Proofs.YtcfmchpoclkpgaaGreatDoor
open Go.RowKit NB
structure HoldsG {α : Type} (k : Nat) (f : α → List Value) (w : World) (v : Value) (l : List α) : Prop where
  lies : (∃ p cap, v = .slice p 0 cap ∧ l = []) ∨ (∃ b off cap, v = .slice (some ⟨b, off, none⟩) l.length cap ∧ b < w.heap.size ∧ Lies w b off k (l.map f))
  len : l.length ≤ 9223372036854775807
namespace HoldsG
variable {α : Type} {k : Nat} {f : α → List Value} {w w' : World} {v : Value} {l : List α}
theorem later (h : HoldsG k f w v l) (hb : Below w.heap.size w w') : HoldsG k f w' v l := by
  refine ⟨?_, h.len⟩
  rcases h.lies with h1|⟨b, off, cap, h1, h2, h3⟩
  · exact .inl h1
  · refine .inr ⟨b, off, cap, h1, Nat.lt_of_lt_of_le h2 hb.size, fun i j cs v hi hj => ?_⟩
    rw [hb.cell (p := ⟨b, off + i * k + j, none⟩) h2]
    exact h3 i j cs v hi hj
theorem form (h : HoldsG k f w v l) : ∃ p cap, v = .slice p l.length cap := by
  rcases h.lies with ⟨p, cap, h1, h2⟩|⟨b, off, cap, h1, _, _⟩
  · exact ⟨p, cap, by rw [h1, h2];rfl⟩
  · exact ⟨_, cap, h1⟩
end HoldsG
theorem flatG_at {α : Type} {k : Nat} {f : α → List Value} (hf : ∀ x, (f x).length = k) : ∀ (l : List α) (i j : Nat) (x : α) (u : Value), l[i]? = some x → (f x)[j]? = some u → (l.flatMap f)[i * k + j]? = some u
  | [], i, j, x, u, h, _ => by simp at h
  | y :: r, 0, j, x, u, h, hu => by
    simp at h;subst h
    rw [List.flatMap_cons, Nat.zero_mul, Nat.zero_add, List.getElem?_append_left (List.getElem?_eq_some_iff.1 hu).1]
    exact hu
  | y :: r, i + 1, j, x, u, h, hu => by
    rw [List.flatMap_cons, List.getElem?_append_right (by rw [hf, Nat.add_mul];omega), hf, show (i + 1) * k + j - k = i * k + j by rw [Nat.add_mul];omega]
    exact flatG_at hf r i j x u (by simpa using h) hu
theorem flatG_len {α : Type} {k : Nat} {f : α → List Value} (hf : ∀ x, (f x).length = k) : ∀ (l : List α), (l.flatMap f).length = l.length * k
  | [] => by simp
  | y :: r => by rw [List.flatMap_cons, List.length_append, hf, flatG_len hf r, List.length_cons, Nat.add_mul];omega
theorem flatG_one {α : Type} {f : α → List Value} (h1 : ∀ x, ∀ u ∈ f x, u.oneCell' = true) (l : List α) : ∀ u ∈ l.flatMap f, u.oneCell' = true := by
  intro u hu
  obtain ⟨x, _, hx⟩ := List.mem_flatMap.1 hu
  exact h1 x u hx
theorem HoldsG.of_own {α : Type} {k : Nat} {f : α → List Value} (hf : ∀ x, (f x).length = k) {w : World} {base e : Nat} {v : Value} {l : List α} (h : w.ownsRow base e k v l.length (l.flatMap f)) : HoldsG k f w v l := by
  rcases h.2 with ⟨rfl, hn⟩|⟨g, cap, cur, rfl, hb, hg, hnc, hcm, hsz, htk⟩
  · exact ⟨.inl ⟨_, _, by rw [List.eq_nil_of_length_eq_zero hn];exact ⟨rfl, rfl⟩⟩, by omega⟩
  · refine ⟨.inr ⟨g, 0, cap, rfl, (Array.getElem?_eq_some_iff.1 hg).1, fun i j cs u hi hj => ?_⟩, by unfold maxLen at hcm;omega⟩
    rw [List.getElem?_map] at hi
    cases hx : l[i]? with
    | none => rw [hx] at hi;cases hi
    | some x =>
      rw [hx] at hi
      cases hi
      rw [Nat.zero_add]
      exact h.cells (g := g) rfl (i * k + j) u (flatG_at hf l i j x u hx hj) |> fun e => by
        rw [addr_add, Nat.zero_add] at e
        exact e
section
variable {H : Type} {enc : TypeId × Value → H} {w : World} {base : Nat} {spare : Nat → Bool} {held : Bool}
theorem slice_open {α : Type} [Inhabited α] {k : Nat} {f : α → List Value} {F : α → Prop} (hf : ∀ x, (f x).length = k) (hk0 : 0 < k) {T E : TypeId} (hu : Tryz.prog.underlying T = some (.slice E)) (hk : Tryz.prog.cellsOf E = k)
    (el : ∀ {fuel : Nat} {cs : List Value} {x : DataW H × List MemPlace}, DataW.trod enc Tryz.prog w base spare held fuel E cs = some x → ∃ a : α, cs = f a ∧ F a)
    {fuel : Nat} {cs : List Value} {x : DataW H × List MemPlace} (h : DataW.trod enc Tryz.prog w base spare held fuel T cs = some x) :
    ∃ (v : Value) (l : List α), cs = [v] ∧ (HoldsG k f w v l ∧ ∀ a ∈ l, F a) ∧ (l = [] ∨ ∃ es sp, x.1 = .slice es sp ∧ es.length = l.length) := by
  rcases Deep.open_slice hu h with ⟨rfl, _⟩|⟨a, len, cap, m, n, D, Pl, rfl, hb, hl, hm, hmm, hxx, hx⟩
  · exact ⟨_, [], rfl, ⟨⟨.inl ⟨_, _, rfl, rfl⟩, by simp⟩, by simp⟩, .inl rfl⟩
  · rw [hk] at hx
    have hlm : len ≤ m := by rw [hmm];split <;> omega
    have each : ∀ i, i < m → ∃ r : α, w.cells? base (a.add (i * k)) k = some (f r) ∧ F r := by
      intro i hi
      obtain ⟨cs', h1, h2⟩ := hx i hi
      obtain ⟨r, rfl, hf⟩ := el h2
      exact ⟨r, h1, hf⟩
    by_cases h0 : len = 0
    · subst h0
      exact ⟨_, [], rfl, ⟨⟨.inl ⟨_, _, rfl, rfl⟩, by simp⟩, by simp⟩, .inl rfl⟩
    · obtain ⟨q, hq⟩ : ∃ q : Nat → α, ∀ i, i < m → w.cells? base (a.add (i * k)) k = some (f (q i)) ∧ F (q i) :=
        ⟨fun i => if hi : i < m then (each i hi).choose else default, fun i hi => by simp only [dif_pos hi];exact (each i hi).choose_spec⟩
      obtain ⟨ha, hab⟩ := info_cells (hq 0 (by omega)).1 hk0
      have ha' : a = ⟨a.block, a.off, none⟩ := by
        have : (a.add (0 * k)).spot = a.spot := by simp [Addr.add]
        rw [this] at ha
        cases a
        simp only at ha
        rw [ha]
      have hab' : a.block < w.heap.size := by
        have : (a.add (0 * k)).block = a.block := by simp [Addr.add]
        rwa [this] at hab
      refine ⟨_, (List.range len).map q, rfl, ⟨⟨.inr ⟨a.block, a.off, cap, by rw [← ha'];simp, hab', ?_⟩, by simp;unfold maxLen at hm;omega⟩, ?_⟩, .inr ⟨_, _, by rw [hxx], by simp⟩⟩
      · intro i j c v hi hj
        rw [List.map_map, List.getElem?_map] at hi
        cases hr : (List.range len)[i]? with
        | none => rw [hr] at hi;cases hi
        | some y =>
          rw [hr] at hi
          cases hi
          obtain ⟨hy, rfl⟩ := List.getElem?_eq_some_iff.1 hr
          rw [List.length_range] at hy
          simp only [List.getElem_range, Function.comp] at hj ⊢
          obtain ⟨_, hlen, hcell⟩ := World.cells?_some (hq i (by omega)).1
          have hj11 : j < k := by
            have := (List.getElem?_eq_some_iff.1 hj).1
            rwa [hf] at this
          have := hcell j hj11
          rw [Deep.add_add] at this
          have he : a.add (i * k + j) = ⟨a.block, a.off + i * k + j, none⟩ := by
            rw [Nat.add_assoc]
            conv => lhs;rw [ha']
            exact addr_add _ _ _
          rw [he] at this
          rw [this]
          exact hj
      · intro r hr
        rw [List.mem_map] at hr
        obtain ⟨i, hi, rfl⟩ := hr
        exact (hq i (by rw [List.mem_range] at hi;omega)).2
end
end Go.Proofs.YtcfmchpoclkpgaaGreatDoor
namespace Go.Proofs.YtcfmchpoclkpgaaGreatDoor
open Go.RowKit NB
theorem HoldsG.pk {α : Type} {k : Nat} {f : α → List Value} {w : World} {v : Value} {l : List α} (h : HoldsG k f w v l) : ∃ p cap, v = .slice p l.length cap ∧ ∀ i x, l[i]? = some x → ∃ b off, p = some ⟨b, off, none⟩ ∧ b < w.heap.size ∧ ∀ j u, (f x)[j]? = some u → w.cell? ⟨b, off + i * k + j, none⟩ = some u := by
  rcases h.lies with ⟨p, cap, rfl, rfl⟩|⟨b, off, cap, rfl, hb, hl⟩
  · exact ⟨p, cap, rfl, fun i x hx => by simp at hx⟩
  · refine ⟨_, cap, rfl, fun i x hx => ⟨b, off, rfl, hb, fun j u hu => hl i j (f x) u ?_ hu⟩⟩
    rw [List.getElem?_map, hx];rfl
theorem HoldsE.g {w : World} {v : Value} {es : List EraV} (h : HoldsE w v es) : HoldsG 13 EraV.cells w v es := ⟨h.lies, h.len⟩
theorem Holds.g {w : World} {v : Value} {l : List RuleV} (h : Holds w v l) : HoldsG 11 RuleV.cells w v l := ⟨h.lies, h.len⟩
namespace Eqs
end Eqs
end Go.Proofs.YtcfmchpoclkpgaaGreatDoor
namespace Go.Proofs.YtcfmchpoclkpgaaGreatDoor
open Go.RowKit NB
def strc (s : ByteArray) : List Value := [.string s]
abbrev HoldsS (w : World) (v : Value) (l : List ByteArray) : Prop := HoldsG 1 strc w v l
abbrev OwnS (w : World) (base : Nat) (v : Value) (l : List ByteArray) : Prop := w.ownsRow base 9 1 v l.length (l.flatMap strc)
theorem HoldsG.pk1 {w : World} {v : Value} {l : List ByteArray} (h : HoldsG 1 strc w v l) : ∃ p cap, v = .slice p l.length cap ∧ ∀ i s, l[i]? = some s → ∃ b off, p = some ⟨b, off, none⟩ ∧ b < w.heap.size ∧ w.cell? ⟨b, off + i, none⟩ = some (.string s) := by
  obtain ⟨p, cap, e, hp⟩ := h.pk
  refine ⟨p, cap, e, fun i s hs => ?_⟩
  obtain ⟨b, off, e1, hb, hc⟩ := hp i s hs
  have := hc 0 _ rfl
  simp only [Nat.mul_one, Nat.add_zero] at this
  exact ⟨b, off, e1, hb, this⟩
theorem HoldsS.of_own {w : World} {base : Nat} {v : Value} {l : List ByteArray} (h : OwnS w base v l) : HoldsS w v l := HoldsG.of_own (k := 1) (f := strc) (fun _ => rfl) h
theorem strc_snoc (l : List ByteArray) (s : ByteArray) : (l ++ [s]).flatMap strc = l.flatMap strc ++ [.string s] := by simp [strc]
theorem infoS : (Tryz.prog.info? 9).map (fun i => (i.zero, i.size, i.bytes)) = some (some (.string .empty), 1, 16) := by kernel_rfl
abbrev OwnR (w : World) (base : Nat) (v : Value) (m : Nat) (l : List ByteArray) : Prop := w.ownsRow base 9 1 v m (l.flatMap strc)
theorem OwnR.len {w : World} {base m : Nat} {v : Value} {l : List ByteArray} (h : OwnR w base v m l) : l.length = m := by
  have := h.1
  rw [flatG_len (k := 1) (fun _ => rfl)] at this
  omega
theorem OwnR.s {w : World} {base m : Nat} {v : Value} {l : List ByteArray} (h : OwnR w base v m l) : OwnS w base v l := by
  have := OwnR.len h
  subst this
  exact h
theorem OwnR.snoc {w : World} {base m : Nat} {v : Value} {l : List ByteArray} {s : ByteArray} (h : w.ownsRow base 9 1 v m (l.flatMap strc ++ [.string s])) : OwnR w base v m (l ++ [s]) := by
  unfold OwnR
  rw [strc_snoc]
  exact h
namespace RBk
theorem own_lower {W : World} {base base' m : Nat} {e : TypeId} {size : Nat} {v : Value} {xs : List Value} (h : W.ownsRow base e size v m xs) (hb : base' ≤ base) : W.ownsRow base' e size v m xs := by
  refine ⟨h.1, ?_⟩
  rcases h.2 with hn|⟨g, cap, cur, hv, hbg, rest⟩
  · exact .inl hn
  · exact .inr ⟨g, cap, cur, hv, Nat.le_trans hb hbg, rest⟩
theorem own_lat {w w' : World} {B m : Nat} {e : TypeId} {sz : Nat} {v : Value} {xs : List Value} (h : w.ownsRow B e sz v m xs) (hb : Below w.heap.size w w') : w'.ownsRow B e sz v m xs :=
  h.kept (row := none) ⟨hb.os, hb.tape, hb.output, hb.size, fun k hk _ => hb.block k hk⟩ (by cases v.ownBlock <;> simp)
end RBk
theorem cell_one_at {w : World} {x : Value} {t : TypeId} {N : Nat} (h : N = w.heap.size) : ∀ j u, [x][j]? = some u → (w.alloc (.cells #[x] t)).cell? ((⟨N, 0, none⟩ : Addr).add j) = some u := by
  subst h
  exact cell_one_new w x t
namespace Strs
open Eqs
end Strs
end Go.Proofs.YtcfmchpoclkpgaaGreatDoor
