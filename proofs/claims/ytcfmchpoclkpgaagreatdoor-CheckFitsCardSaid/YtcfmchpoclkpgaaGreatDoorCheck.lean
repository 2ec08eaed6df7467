import Derived.Test.YtcfmchpoclkpgaaGreatDoorG7
import Derived.Test.YtcfmchpoclkpgaaGreatDoorG16
import Derived.Test.YtcfmchpoclkpgaaGreatDoorG13
import Derived.Deep.AppendLies
import Derived.Deep.RegionHeld3
namespace Go.Proofs.YtcfmchpoclkpgaaGreatDoor
open Go.RowKit NB
namespace Chk
def firstBad (r : RuleV) : List RuleV → Int
  | [] => 0
  | x :: xs => if Apt.pairE x r = 0 then firstBad r xs else Apt.pairE x r
def same (r : RuleV) (done : List RuleV) : List RuleV := done.filter fun x => decide (x.name = r.name)
def scan : List RuleV → List RuleV → Int → Int × Int
  | _, [], _ => (-1, 0)
  | done, r :: rs, i => if firstBad r (same r done) = 0 then scan (done ++ [r]) rs (i + 1) else (i, firstBad r (same r done))
def check (l : List RuleV) : Int × Int := scan [] l 0
theorem check_at {l : List RuleV} {k : Nat} {r : RuleV} (hr : l[k]? = some r) : scan (l.take k) (l.drop k) k = if firstBad r (same r (l.take k)) = 0 then scan (l.take (k + 1)) (l.drop (k + 1)) (k + 1 : Nat) else (k, firstBad r (same r (l.take k))) := by
  obtain ⟨hk, rfl⟩ := List.getElem?_eq_some_iff.1 hr
  rw [List.drop_eq_getElem_cons hk, scan, List.take_add_one, hr]
  rfl
def F (done : List RuleV) : Value → List Value
  | .string s => (done.filter fun x => decide (x.name = s)).flatMap RuleV.cells
  | _ => []
theorem F_nil : F [] = fun _ => [] := by
  funext v
  cases v <;> rfl
theorem F_put (done : List RuleV) (r : RuleV) : Grp.upd (F done) (.string r.name) (F done (.string r.name) ++ r.cells) = F (done ++ [r]) := by
  funext v
  unfold Grp.upd
  by_cases h : v = .string r.name
  · rw [if_pos h, h]
    unfold F
    simp
  · rw [if_neg h]
    cases v with
    | string s =>
      have hne : ¬ r.name = s := fun e => h (by rw [e])
      unfold F
      simp [hne]
    | _ => rfl
theorem bad_at {r : RuleV} : ∀ (l : List RuleV) (j : Nat) (x : RuleV), firstBad r (l.take j) = 0 → l[j]? = some x → Apt.pairE x r ≠ 0 → firstBad r l = Apt.pairE x r
  | [], _, _, _, h, _ => by simp at h
  | y :: ys, 0, x, _, h, hx => by
    simp at h
    subst h
    unfold firstBad
    rw [if_neg hx]
  | y :: ys, j + 1, x, h0, h, hx => by
    rw [List.take_succ_cons] at h0
    unfold firstBad at h0 ⊢
    by_cases hy : Apt.pairE y r = 0
    · rw [if_pos hy] at h0 ⊢
      exact bad_at ys j x h0 (by simpa using h) hx
    · rw [if_neg hy] at h0
      exact absurd h0 hy
theorem good_at {r : RuleV} : ∀ (l : List RuleV) (j : Nat) (x : RuleV), firstBad r (l.take j) = 0 → l[j]? = some x → Apt.pairE x r = 0 → firstBad r (l.take (j + 1)) = 0
  | [], _, _, _, h, _ => by simp at h
  | y :: ys, 0, x, _, h, hx => by
    simp at h
    subst h
    simp [firstBad, hx]
  | y :: ys, j + 1, x, h0, h, hx => by
    rw [List.take_succ_cons] at h0 ⊢
    unfold firstBad at h0 ⊢
    by_cases hy : Apt.pairE y r = 0
    · rw [if_pos hy] at h0 ⊢
      exact good_at ys j x h0 (by simpa using h) hx
    · rw [if_neg hy] at h0
      exact absurd h0 hy
theorem info_rule : (Tryz.prog.info? 63).map (fun i => (i.zero, i.size, i.bytes)) = some (some (.agg #[.string .empty, .int .i64 0, .int .i64 0, .int .i64 0, .int .i64 0, .int .i64 0, .int .i64 0, .int .i64 0, .int .i64 0, .int .i64 0, .string .empty]), 11, 104) := by kernel_rfl
theorem zero_rules (w : World) : (zeroValue 22).run Tryz.prog w = .ok (.slice none 0 0) w := by kernel_rfl
theorem grown_of {W u : World} (h : Below W.heap.size W u) (row : Option Nat) : W.grownBy u row := ⟨h.os, h.tape, h.output, h.size, fun k hk _ => h.block k hk⟩
theorem grown_drew {W u : World} {row : Option Nat} (h : W.grownBy u row) : W.grownBy u.drew row := ⟨h.os, h.tape, h.output, h.size, h.block⟩
theorem own_drew {w : World} {base e sz m : Nat} {v : Value} {xs : List Value} (h : w.ownsRow base e sz v m xs) : w.drew.ownsRow base e sz v m xs := h
theorem cells_one (r : RuleV) : ∀ u ∈ r.cells, u.oneCell' = true := by
  intro u hu
  simp only [RuleV.cells, List.mem_cons, List.not_mem_nil, or_false] at hu
  rcases hu with rfl|rfl|rfl|rfl|rfl|rfl|rfl|rfl|rfl|rfl|rfl <;> rfl
theorem cells_len (r : RuleV) : r.cells.length = 11 := rfl
theorem len_of_own {w : World} {base m : Nat} {v : Value} {r : RuleV} {done : List RuleV} (h : w.ownsRow base 63 11 v m (F done (.string r.name))) : (same r done).length = m := by
  have := h.1
  unfold F at this
  have hl : ∀ l : List RuleV, (l.flatMap RuleV.cells).length = l.length * 11 := by
    intro l
    induction l with
    | nil => rfl
    | cons x xs ih => rw [List.flatMap_cons, List.length_append, ih, cells_len, List.length_cons];omega
  simp only [hl] at this
  unfold same
  omega
def Post (X : Int × Int) (w : World) (e : Ending) (w' : World) : Prop := e = .returned (.tuple #[.int .i64 X.1, .int .i64 X.2]) ∧ Below w.heap.size w w'
set_option maxRecDepth 100000 in
set_option maxHeartbeats 3200000 in
theorem Check (b off cap : Nat) (l : List RuleV) (w : World) (hc : Lies w b off 11 (l.map RuleV.cells)) (hb : b < w.heap.size) (hlen : l.length * 104 ≤ 140737488355328) (hs : ∀ r ∈ l, r.Fit) : Calls Tryz.prog 16 #[.slice (some ⟨b, off, none⟩) l.length cap] w (Post (check l) w) := by
  obtain ⟨i0, hi, hz0, hz1, hz2⟩ := info_parts info_rule
  have Hi := Lib.hid hi;clear hi
  have Hc := Lib.hid hc;clear hc
  have Hs := Lib.hid hs;clear hs
  have hmm := @run_makeMap Tryz.prog
  have hX : scan (l.take 0) (l.drop 0) (0 : Nat) = check l := rfl
  generalize check l = X at *
  generalize hN : l.length = n at hlen
  have HN := Lib.hid hN;clear hN
  go_enter Tryz.func16, Tryz.ntmps16
  have HX := Lib.hid hX;clear hX
  go_wp2
  go_loopw [13] (fun i wr => ∃ k : Nat, k ≤ n ∧ i = .int .i64 k ∧ scan (l.take k) (l.drop k) k = X ∧ Below w.heap.size w wr ∧ Grp.Rows wr Tryz.prog 9 (w.heap.size + 1) 63 11 w.heap.size k (F (l.take k))) (fun i _ => n - (intOf i).toNat)
  case atStart => exact ⟨0, Nat.zero_le _, rfl, HX.out, (Below.refl _ _).alloc (Nat.le_refl _) _, by rw [List.take_zero, F_nil];exact Grp.made _ _ _ _ _⟩
  case round =>
    obtain ⟨k, hk, rfl, hX, hbel, hrows⟩ := hrel
    obtain ⟨V, hV⟩ : ∃ V, V = wr := ⟨_, rfl⟩
    subst hV
    clear HX
    by_cases hlt : k < n
    · have hbs := hbel.size
      obtain ⟨r, hr⟩ : ∃ r, l[k]? = some r := ⟨l[k]'(by rw [HN.out];exact hlt), by simp⟩
      have hfit := Hs.out r (List.mem_of_getElem? hr)
      rw [check_at hr] at hX
      have HX := Lib.hid hX;clear hX
      have Hbel := Lib.hid hbel;clear hbel
      have c (j : Nat) (v : Value) (hv : r.cells[j]? = some v) : V.cell? ⟨b, off + k * 11 + j, none⟩ = some v := by
        rw [Hbel.out.cell (p := ⟨b, off + k * 11 + j, none⟩) hb]
        exact Hc.out k j _ v (by rw [List.getElem?_map, hr];rfl) hv
      have c0 := c 0 _ rfl
      have c1 := c 1 _ rfl
      have c2 := c 2 _ rfl
      have c3 := c 3 _ rfl
      have c4 := c 4 _ rfl
      have c5 := c 5 _ rfl
      have c6 := c 6 _ rfl
      have c7 := c 7 _ rfl
      have c8 := c 8 _ rfl
      have c9 := c 9 _ rfl
      have c10 := c 10 _ rfl
      simp only [Nat.add_zero] at c0
      clear c
      have hmaxn : k < maxLen := by unfold maxLen;omega
      obtain ⟨v, m, hlk, hm, hown, hback⟩ := Grp.look hrows (Maps.string_keyed Tryz.underlying9) Tryz.underlying93 zero_rules hmaxn (Go.WideMaps.keyOf_string_mk Tryz.underlying9 (s := r.name) hfit.n)
      have hml := len_of_own hown
      have hmb : w.heap.size < V.heap.size := by
        obtain ⟨es, clock, hb1, _⟩ := hrows
        exact (Array.getElem?_eq_some_iff.1 hb1).1
      obtain ⟨q, cap2, hv⟩ := Grp.own_form hown
      have Hrows := Lib.hid hrows;clear hrows
      have hl0 := hlk (V.alloc (Obj.cells #[.string r.name, .int .i64 r.fr, .int .i64 r.to, .int .i64 r.month, .int .i64 r.kind, .int .i64 r.week, .int .i64 r.day, .int .i64 r.sec, .int .i64 r.base, .int .i64 r.save, .string r.letter] 63)) (Below.heap_alloc V _ _ hmb)
      subst hv
      have Hlk := Lib.hid hlk;clear hlk
      have Hback := Lib.hid hback;clear hback
      have Hown := Lib.hid hown;clear hown
      have Hr := Lib.hid hr;clear hr
      have Hfit := Lib.hid hfit;clear hfit
      go_wp2
      clear hl0 c0 c1 c2 c3 c4 c5 c6 c7 c8 c9 c10
      obtain ⟨W, hW, hcw, hgw, hsw⟩ : ∃ W : World, W = V.alloc (Obj.cells #[.string r.name, .int .i64 r.fr, .int .i64 r.to, .int .i64 r.month, .int .i64 r.kind, .int .i64 r.week, .int .i64 r.day, .int .i64 r.sec, .int .i64 r.base, .int .i64 r.save, .string r.letter] 63) ∧ (∀ o, W.cell? ⟨V.heap.size, o, none⟩ = r.cells[o]?) ∧ Below V.heap.size V W ∧ W.heap.size = V.heap.size + 1 :=
        ⟨_, rfl, fun o => (cell_of_row _ _ _ _ _ _ (heap_alloc_new V _)).trans (List.getElem?_toArray (xs := r.cells)), (Below.refl _ _).alloc (Nat.le_refl _) _, by simp⟩
      rw [← hW]
      clear hW
      have HBW := Lib.hid hgw;clear hgw
      have Hcw := Lib.hid hcw;clear hcw
      have hsw1 : V.heap.size < W.heap.size := by omega
      have HSW := Lib.hid hsw;clear hsw
      go_loopw [23] (fun i wr => ∃ j : Nat, j ≤ m ∧ i = .int .i64 j ∧ firstBad r ((same r (l.take k)).take j) = 0 ∧ Below W.heap.size W wr) (fun i _ => m - (intOf i).toNat)
      case atStart => exact ⟨0, Nat.zero_le _, rfl, rfl, Below.refl _ _⟩
      case round =>
        obtain ⟨j, hj, rfl, hfb, hbi⟩ := hrel
        have hzi := hbi.size
        have d (o : Nat) (v : Value) (hv : r.cells[o]? = some v) : wr.cell? ⟨V.heap.size, o, none⟩ = some v := by
          rw [hbi.cell (p := ⟨V.heap.size, o, none⟩) hsw1, Hcw.out]
          exact hv
        have d0 := d 0 _ rfl
        have d1 := d 1 _ rfl
        have d2 := d 2 _ rfl
        have d3 := d 3 _ rfl
        have d4 := d 4 _ rfl
        have d5 := d 5 _ rfl
        have d6 := d 6 _ rfl
        have d7 := d 7 _ rfl
        have d8 := d 8 _ rfl
        have d9 := d 9 _ rfl
        have d10 := d 10 _ rfl
        clear d
        have Hbi := Lib.hid hbi;clear hbi
        have hwi : V.heap.size < wr.heap.size := by omega
        by_cases hjl : j < m
        · obtain ⟨x, hx⟩ : ∃ x, (same r (l.take k))[j]? = some x := ⟨(same r (l.take k))[j]'(by rw [hml];exact hjl), by simp⟩
          obtain ⟨g, ⟨cap3, hq⟩, hg1, hg2, hgc⟩ := Grp.own_cell Hown.out hjl
          simp only [Value.slice.injEq] at hq
          obtain ⟨rfl, -, -⟩ := hq
          have c (o : Nat) (v : Value) (hv : x.cells[o]? = some v) : wr.cell? ⟨g, j * 11 + o, none⟩ = some v := by
            rw [Hbi.out.cell (p := ⟨g, j * 11 + o, none⟩) (Nat.lt_trans hg2 hsw1), HBW.out.cell (p := ⟨g, j * 11 + o, none⟩) hg2]
            exact hgc _ _ (Grp.flat_at cells_len _ j o x v hx hv)
          have c0 := c 0 _ rfl
          have c1 := c 1 _ rfl
          have c2 := c 2 _ rfl
          have c3 := c 3 _ rfl
          have c4 := c 4 _ rfl
          have c5 := c 5 _ rfl
          have c6 := c 6 _ rfl
          have c7 := c 7 _ rfl
          have c8 := c 8 _ rfl
          have c9 := c 9 _ rfl
          have c10 := c 10 _ rfl
          simp only [Nat.add_zero] at c0
          clear c hgc
          have hxf : x.Fit := by
            have h1 := List.mem_of_getElem? hx
            unfold same at h1
            exact Hs.out x (List.mem_of_mem_take (List.mem_filter.1 h1).1)
          have hcall := fun W0 => Apt.Pair x r hxf Hfit.out W0
          unfold RuleV.cells at hcall
          have Hcall := Lib.hid hcall;clear hcall hxf
          have Hx := Lib.hid hx;clear hx
          have Hfb := Lib.hid hfb;clear hfb
          by_cases hp : Apt.pairE x r = 0
          · go_wp2_with (go_at_call 42;refine (Hcall.out _).mono ?_;rw [hp];rintro e w2 ⟨rfl, hb2⟩)
            go_roundw
            case rel => exact ⟨j + 1, hjl, by go_num, good_at _ j x Hfb.out Hx.out hp, (Hbi.out.alloc hzi _).trans (hb2.mono (by simp;omega))⟩
            case measure => simp [intOf];omega
          · have hbad := bad_at _ j x Hfb.out Hx.out hp
            have hX := HX.out
            rw [hbad, if_neg hp] at hX
            have HX2 := Lib.hid hX
            generalize Apt.pairE x r = pe at *
            clear hX hbad HX
            go_wp2_with (go_at_call 42;refine (Hcall.out _).mono ?_;rintro e w2 ⟨rfl, hb2⟩)
            go_ret2
            refine ⟨by rw [← HX2.out];rfl, (Hbel.out.trans (HBW.out.mono hbs)).trans (((Hbi.out.alloc hzi _).trans (hb2.mono (by simp;omega))).mono (by omega))⟩
        · have hjm : j = m := by omega
          have hbad := hfb
          rw [List.take_of_length_le (by rw [hml, hjm];exact Nat.le_refl _)] at hbad
          have hX := HX.out
          rw [hbad, if_pos rfl] at hX
          have HX2 := Lib.hid hX
          clear hX hbad hfb HX
          have hob : ∀ j, (Value.slice q m cap2).ownBlock = some j → w.heap.size + 1 ≤ j ∧ j < V.heap.size := Hown.out.lt
          have hSS : ∀ u : World, W.grownBy u (Value.slice q m cap2).ownBlock → (∀ o, u.cell? ⟨V.heap.size, o, none⟩ = (#[.string r.name, .int .i64 r.fr, .int .i64 r.to, .int .i64 r.month, .int .i64 r.kind, .int .i64 r.week, .int .i64 r.day, .int .i64 r.sec, .int .i64 r.base, .int .i64 r.save, .string r.letter] : Array Value)[o]?) := by
            intro u hu o
            rw [hu.cell_far ⟨V.heap.size, o, none⟩ hsw1 (fun e1 => by have := (hob _ e1.symm).2;simp at this), Hcw.out]
            exact (List.getElem?_toArray (xs := r.cells)).symm
          have hLL : ∀ u : World, W.grownBy u (Value.slice q m cap2).ownBlock → (Instr.lookup 93 (.map (some w.heap.size)) (.string r.name) false).run Tryz.prog u = .ok (.slice q m cap2) u := by
            intro u hu
            exact Hlk.out u (by rw [hu.block w.heap.size (by omega) (fun e1 => by have := (hob _ e1.symm).1;omega), HBW.out.block w.heap.size hmb])
          have HS := Lib.hid hSS
          clear hSS d0 d1 d2 d3 d4 d5 d6 d7 d8 d9 d10
          have hgi := grown_of Hbi.out (Value.slice q m cap2).ownBlock
          have hS0 := HS.out wr hgi
          have hL0 := hLL wr hgi
          have hL1 := hLL wr.drew (grown_drew hgi)
          have hL2 := hLL (wr.alloc (Obj.cells #[.string r.name, .int .i64 r.fr, .int .i64 r.to, .int .i64 r.month, .int .i64 r.kind, .int .i64 r.week, .int .i64 r.day, .int .i64 r.sec, .int .i64 r.base, .int .i64 r.save, .string r.letter] 63)) (hgi.trans (World.grownBy_alloc _ _ _))
          have hL3 := hLL (wr.drew.alloc (Obj.cells #[.string r.name, .int .i64 r.fr, .int .i64 r.to, .int .i64 r.month, .int .i64 r.kind, .int .i64 r.week, .int .i64 r.day, .int .i64 r.sec, .int .i64 r.base, .int .i64 r.save, .string r.letter] 63)) ((grown_drew hgi).trans (World.grownBy_alloc _ _ _))
          have hL4 := hLL (wr.drew.alloc (Obj.cells #[.string r.name, .int .i64 r.fr, .int .i64 r.to, .int .i64 r.month, .int .i64 r.kind, .int .i64 r.week, .int .i64 r.day, .int .i64 r.sec, .int .i64 r.base, .int .i64 r.save, .string r.letter] 63)).drew (grown_drew ((grown_drew hgi).trans (World.grownBy_alloc _ _ _)))
          have hL5 := hLL (wr.alloc (Obj.cells #[.string r.name, .int .i64 r.fr, .int .i64 r.to, .int .i64 r.month, .int .i64 r.kind, .int .i64 r.week, .int .i64 r.day, .int .i64 r.sec, .int .i64 r.base, .int .i64 r.save, .string r.letter] 63)).drew (grown_drew (hgi.trans (World.grownBy_alloc _ _ _)))
          clear hLL
          have hgV := (grown_of HBW.out (Value.slice q m cap2).ownBlock).trans hgi
          have HOW := Lib.hid ((Hown.out.kept (grown_of HBW.out none) (by cases (Value.slice q m cap2).ownBlock <;> simp)).kept (grown_of Hbi.out none) (by cases (Value.slice q m cap2).ownBlock <;> simp))
          go_wp2
          go_region_held3 (fun w' => (∀ o, w'.cell? ⟨V.heap.size, o, none⟩ = (#[.string r.name, .int .i64 r.fr, .int .i64 r.to, .int .i64 r.month, .int .i64 r.kind, .int .i64 r.week, .int .i64 r.day, .int .i64 r.sec, .int .i64 r.base, .int .i64 r.save, .string r.letter] : Array Value)[o]?))
            (first|exact hS2|(apply HS.out;repeat (first
                | exact hgi
                | refine grown_drew ?_
                | refine World.grownBy.trans ?_ hgrow
                | refine World.grownBy.trans ?_ (World.grownBy_alloc _ _ _)))) ((refine step_append_lies _ (by rfl) _ _ _ (by rfl) (w.heap.size + 1) 63 i0 _ 11 104 Tryz.underlying22 Hi.out hz0 hz1 hz2 (by rfl) (by decide) (.slice q m cap2) m (F (l.take k) (.string r.name)) (by rfl) (by repeat (first|exact HOW.out|refine World.ownsRow.alloc ?_ _|refine own_drew ?_)) ⟨wr.heap.size, 0, none⟩ 1 1 r.cells (by rfl) (by rfl) (World.news_of_block (heap_alloc_new _ _)) (cells_one r) (by decide) (by unfold maxLen;omega) (by omega) (by simp;omega) (wr.heap.size + 1) (by simp) ?_;intro g cap3 w1 hown1 hgrow hat hlt1;have hgW : V.grownBy w1 (Value.slice q m cap2).ownBlock := (by repeat (first|exact hgV|refine grown_drew ?_|refine World.grownBy.trans ?_ hgrow|refine World.grownBy.trans ?_ (World.grownBy_alloc _ _ _)));obtain ⟨w2, hst, hrows2, hg2⟩ := Hback.out w1 _ _ _ hgW hown1 (by omega) (hat.elim (fun h => .inl h.symm) (fun h => .inr ⟨g, rfl, by omega⟩));have Hrows2 := Lib.hid hrows2;clear hrows2;have hS2 : ∀ o, w2.cell? ⟨V.heap.size, o, none⟩ = (#[.string r.name, .int .i64 r.fr, .int .i64 r.to, .int .i64 r.month, .int .i64 r.kind, .int .i64 r.week, .int .i64 r.day, .int .i64 r.sec, .int .i64 r.base, .int .i64 r.save, .string r.letter] : Array Value)[o]? := (fun o => (hg2.cell_far ⟨V.heap.size, o, none⟩ (by have := hgW.size;have := hgrow.size;simp at *;omega) (by simp;omega)).trans (HS.out w1 (by repeat (first|exact hgi|refine grown_drew ?_|refine World.grownBy.trans ?_ hgrow|refine World.grownBy.trans ?_ (World.grownBy_alloc _ _ _))) o))))
          all_goals
            have hrw : Grp.Rows w2 Tryz.prog 9 (w.heap.size + 1) 63 11 w.heap.size (k + 1) (F (l.take (k + 1))) := by
              have h1 := Hrows2.out
              rw [F_put] at h1
              rw [List.take_add_one, Hr.out]
              exact h1
            have HRW := Lib.hid hrw
            clear hrw
            have hbe : Below w.heap.size w w2 := (Hbel.out.grown hgW hbs (fun j hj => by have := (hob j hj).1;omega)).grown hg2 (Nat.le_trans hbs hgW.size) (fun j hj => by cases hj;exact Nat.le_refl _)
            have HBE := Lib.hid hbe
            clear hbe hS2 hg2 hst hgW hgrow hown1 hat hlt1 hL0 hL1 hL2 hL3 hL4 hL5 hgV hS0 hgi
            go_wp2
            go_roundw
            case rel => exact ⟨k + 1, hlt, by go_num, HX2.out, HBE.out, HRW.out⟩
            case measure => simp [intOf];omega
    · have hkn : k = n := by omega
      have hX2 : ((-1 : Int), (0 : Int)) = X := by
        rw [← hX, List.drop_of_length_le (by rw [HN.out];omega)]
        rfl
      have HX3 := Lib.hid hX2
      clear hX hX2
      go_wp2
      go_ret2
      refine ⟨by rw [← HX3.out];rfl, hbel⟩
end Chk
end Go.Proofs.YtcfmchpoclkpgaaGreatDoor
