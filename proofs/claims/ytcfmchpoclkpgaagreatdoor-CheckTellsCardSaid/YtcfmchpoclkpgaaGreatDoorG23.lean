import Derived.Test.YtcfmchpoclkpgaaGreatDoorG22
import Derived.Test.YtcfmchpoclkpgaaGreatDoorG17
import Derived.Test.YtcfmchpoclkpgaaGreatDoorG4
import Derived.Test.YtcfmchpoclkpgaaGreatDoorG3
import Derived.Laws.CopyRow
import Derived.Laws.CopyOwn
import Derived.Lib.AppendZerosOnto
import Derived.Deep.AppendLies
import Derived.Laws.OwnMore
import Derived.Lib.Overlaps
import Derived.Laws.Externs
import Derived.Test.YtcfmchpoclkpgaaGreatDoorG20
import Derived.Test.YtcfmchpoclkpgaaGreatDoorG19
namespace Go.Proofs.YtcfmchpoclkpgaaGreatDoor
open Go.RowKit NB
namespace R27
theorem same_in {r x : RuleV} {l : List RuleV} {j : Nat} (h : l[j]? = some x) (hn : x.name = r.name) : Chk.same r (l.take (j + 1)) = Chk.same r (l.take j) ++ [x] := by
  unfold Chk.same
  rw [List.take_add_one, h, List.filter_append]
  simp [hn]
theorem same_out {r x : RuleV} {l : List RuleV} {j : Nat} (h : l[j]? = some x) (hn : ¬ x.name = r.name) : Chk.same r (l.take (j + 1)) = Chk.same r (l.take j) := by
  unfold Chk.same
  rw [List.take_add_one, h, List.filter_append]
  simp [hn]
theorem bad_app {r : RuleV} : ∀ (a c : List RuleV), Chk.firstBad r a = 0 → Chk.firstBad r (a ++ c) = Chk.firstBad r c
  | [], _, _ => rfl
  | y :: ys, c, h => by
    unfold Chk.firstBad at h
    by_cases hy : Apt.pairE y r = 0
    · rw [if_pos hy] at h
      rw [List.cons_append]
      conv => lhs;unfold Chk.firstBad
      rw [if_pos hy]
      exact bad_app ys c h
    · rw [if_neg hy] at h
      exact absurd h hy
theorem bad_keep {r : RuleV} : ∀ (a c : List RuleV), Chk.firstBad r a ≠ 0 → Chk.firstBad r (a ++ c) = Chk.firstBad r a
  | [], _, h => absurd rfl h
  | y :: ys, c, h => by
    unfold Chk.firstBad at h
    rw [List.cons_append]
    unfold Chk.firstBad
    by_cases hy : Apt.pairE y r = 0
    · rw [if_pos hy] at h
      rw [if_pos hy, if_pos hy]
      exact bad_keep ys c h
    · rw [if_neg hy, if_neg hy]
theorem bad_one {r x : RuleV} : Chk.firstBad r [x] = Apt.pairE x r := by
  unfold Chk.firstBad Chk.firstBad
  split
  · rename_i h;exact h.symm
  · rfl
def Ok (r : RuleV) (l : List RuleV) (j : Nat) : Prop := Chk.firstBad r (Chk.same r (l.take j)) = 0
theorem Ok.skip {r x : RuleV} {l : List RuleV} {j : Nat} (h : Ok r l j) (hx : l[j]? = some x) (hn : ¬ x.name = r.name) : Ok r l (j + 1) := by
  unfold Ok at *
  rwa [same_out hx hn]
theorem Ok.good {r x : RuleV} {l : List RuleV} {j : Nat} (h : Ok r l j) (hx : l[j]? = some x) (hn : x.name = r.name) (hp : Apt.pairE x r = 0) : Ok r l (j + 1) := by
  unfold Ok at *
  rw [same_in hx hn, bad_app _ _ h, bad_one, hp]
theorem Ok.bad {r x : RuleV} {l : List RuleV} {j k : Nat} (h : Ok r l j) (hx : l[j]? = some x) (hn : x.name = r.name) (hp : Apt.pairE x r ≠ 0) (hj : j < k) : Chk.firstBad r (Chk.same r (l.take k)) = Apt.pairE x r := by
  have h1 : Chk.firstBad r (Chk.same r (l.take (j + 1))) = Apt.pairE x r := by
    rw [same_in hx hn, bad_app _ _ h, bad_one]
  have h2 : l.take k = l.take (j + 1) ++ (l.take k).drop (j + 1) := by
    have := List.take_append_drop (j + 1) (l.take k)
    rw [List.take_take, Nat.min_eq_left (by omega)] at this
    exact this.symm
  rw [h2]
  unfold Chk.same at h1 ⊢
  rw [List.filter_append, bad_keep _ _ (by rw [h1];exact hp), h1]
def At (l : List RuleV) (k : Nat) : Prop := Chk.check l = Chk.scan (l.take k) (l.drop k) k
theorem At.next {l : List RuleV} {k : Nat} {r : RuleV} (h : At l k) (hr : l[k]? = some r) (ho : Ok r l k) : At l (k + 1) := by
  unfold At at *
  rw [h, Chk.check_at hr]
  exact if_pos ho
theorem At.found {l : List RuleV} {k : Nat} {r : RuleV} {e : Int} (h : At l k) (hr : l[k]? = some r) (hb : Chk.firstBad r (Chk.same r (l.take k)) = e) (hn : e ≠ 0) : Chk.check l = ((k : Int), e) := by
  unfold At at h
  rw [h, Chk.check_at hr, if_neg (by rw [hb];exact hn), hb]
theorem At.fin {l : List RuleV} (h : At l l.length) : Chk.check l = (-1, 0) := by
  unfold At at h
  rw [h, List.drop_length]
  rfl
set_option maxHeartbeats 6400000 in
theorem Check (b off cap : Nat) (l : List RuleV) (w : World) (hc : Lies w b off 11 (l.map RuleV.cells)) (hb : b < w.heap.size) (hcap : l.length ≤ 9223372036854775807) (hs : ∀ r ∈ l, r.Fit) :
    Calls Tryz.prog 74 #[.slice (some ⟨b, off, none⟩) l.length cap] w (Chk.Post (Chk.check l) w) := by
  unfold Chk.Post
  obtain ⟨n, hn⟩ : ∃ n, n = l.length := ⟨_, rfl⟩
  rw [← hn] at hcap ⊢
  have HN := Lib.hid hn
  have Hc := Lib.hid hc
  have Hs := Lib.hid hs
  clear hn hc hs
  go_enter Tryz.func74, Tryz.ntmps74
  go_wp2
  go_loopw [9] (fun i wr => ∃ k : Nat, k ≤ n ∧ i = .int .i64 k ∧ At l k ∧ Below w.heap.size w wr) (fun i _ => n - (intOf i).toNat)
  case atStart => exact ⟨0, Nat.zero_le _, rfl, rfl, Below.refl _ _⟩
  case round =>
    obtain ⟨k, hk, rfl, hat, hbel⟩ := hrel
    obtain ⟨wo, hwo⟩ : ∃ wo : World, wo = wr := ⟨_, rfl⟩
    subst hwo
    by_cases hlt : k < n
    · obtain ⟨r, hr⟩ : ∃ r, l[k]? = some r := ⟨l[k]'(by rw [← HN.out];exact hlt), by simp⟩
      have hrf := Hs.out r (List.mem_of_getElem? hr)
      have Hr := Lib.hid hr
      have Hbel := Lib.hid hbel
      clear hr hbel
      go_wp2
      go_loopw [5] (fun i wr => ∃ j : Nat, j ≤ k ∧ i = .int .i64 j ∧ Ok r l j ∧ Below w.heap.size w wr) (fun i _ => k - (intOf i).toNat)
      case atStart => exact ⟨0, Nat.zero_le _, rfl, rfl, Hbel.out⟩
      case round =>
        obtain ⟨j, hj, rfl, hok, hbel⟩ := hrel
        by_cases hjk : j < k
        · obtain ⟨x, hx⟩ : ∃ x, l[j]? = some x := ⟨l[j]'(by rw [← HN.out];omega), by simp⟩
          have hxf := Hs.out x (List.mem_of_getElem? hx)
          have c (i : Nat) (y : RuleV) (hy : l[i]? = some y) (o : Nat) (v : Value) (hv : y.cells[o]? = some v) : wr.cell? ⟨b, off + i * 11 + o, none⟩ = some v := by
            rw [hbel.cell (p := ⟨b, off + i * 11 + o, none⟩) hb]
            exact Hc.out i o _ v (by rw [List.getElem?_map, hy];rfl) hv
          have x0 := c j x hx 0 _ rfl
          have x1 := c j x hx 1 _ rfl
          have x2 := c j x hx 2 _ rfl
          have x3 := c j x hx 3 _ rfl
          have x4 := c j x hx 4 _ rfl
          have x5 := c j x hx 5 _ rfl
          have x6 := c j x hx 6 _ rfl
          have x7 := c j x hx 7 _ rfl
          have x8 := c j x hx 8 _ rfl
          have x9 := c j x hx 9 _ rfl
          have x10 := c j x hx 10 _ rfl
          simp only [Nat.add_zero] at x0
          have r0 := c k r Hr.out 0 _ rfl
          have r1 := c k r Hr.out 1 _ rfl
          have r2 := c k r Hr.out 2 _ rfl
          have r3 := c k r Hr.out 3 _ rfl
          have r4 := c k r Hr.out 4 _ rfl
          have r5 := c k r Hr.out 5 _ rfl
          have r6 := c k r Hr.out 6 _ rfl
          have r7 := c k r Hr.out 7 _ rfl
          have r8 := c k r Hr.out 8 _ rfl
          have r9 := c k r Hr.out 9 _ rfl
          have r10 := c k r Hr.out 10 _ rfl
          simp only [Nat.add_zero] at r0
          clear c
          have cp := fun W => Pair x r hxf hrf W
          unfold RuleV.cells at cp
          have Hx := Lib.hid hx
          clear hx
          have hjn : j < n := by omega
          have hbw : b < wr.heap.size := Nat.lt_of_lt_of_le hb hbel.size
          by_cases hnm : x.name = r.name
          case neg =>
            have e1 := str_ne hnm
            have Hnm := Lib.hid hnm
            clear hnm cp
            go_wp2
            go_quiet (fail)
            go_wp2
            go_roundw
            case rel => exact ⟨j + 1, by omega, by go_num, hok.skip Hx.out Hnm.out, by repeat (first|(with_reducible exact Below.refl _ _)|(with_reducible assumption)|(with_reducible refine ba ?_)|(with_reducible refine bd ?_)|(with_reducible refine bdn ?_ _)|(with_reducible refine bset ?_ (by first|exact Nat.le_refl _|omega|(simp;done)|(simp;omega)))|(with_reducible refine bt ?_ (by with_reducible assumption)))⟩
            case measure => simp [intOf];omega
          case pos =>
            have e1 := str_eq hnm
            have Hnm := Lib.hid hnm
            clear hnm
            by_cases hp : Apt.pairE x r = 0
            · have e2 : (Apt.pairE x r == 0) = true := by rw [beq_iff_eq];exact hp
              have e3 : (Apt.pairE x r != 0) = false := by rw [bne, e2];rfl
              have hnx := hok.good Hx.out Hnm.out hp
              clear hp hok
              generalize Apt.pairE x r = pe at *
              have Cp := Lib.hid cp
              have Hnx := Lib.hid hnx
              clear cp hnx
              go_wp2
              go_quiet (fail)
              go_wp2
              (refine region_later (by kernel_rfl) (by kernel_rfl) ?_;(repeat (go_big_quiet_step (first|(go_at_call 124;rename_i xL;apply calls_later xL (Nat.le_refl _);exact (Cp.out _)))));refine wpQuiet_nil ?_;rintro _ ⟨⟨u1, hu1⟩, rfl⟩)
              go_wp2
              go_roundw
              case rel => exact ⟨j + 1, by omega, by go_num, Hnx.out, by repeat (first|(with_reducible exact Below.refl _ _)|(with_reducible assumption)|(with_reducible refine ba ?_)|(with_reducible refine bd ?_)|(with_reducible refine bdn ?_ _)|(with_reducible refine bset ?_ (by first|exact Nat.le_refl _|omega|(simp;done)|(simp;omega)))|(with_reducible refine bt ?_ (by with_reducible assumption)))⟩
              case measure => simp [intOf];omega
            · have e2 : (Apt.pairE x r == 0) = false := by rw [beq_eq_false_iff_ne];exact hp
              have e3 : (Apt.pairE x r != 0) = true := by rw [bne, e2];rfl
              have hfd := hat.found Hr.out (hok.bad Hx.out Hnm.out hp hjk) hp
              clear hp hok
              generalize Apt.pairE x r = pe at *
              have Cp := Lib.hid cp
              have Hfd := Lib.hid hfd
              clear cp hfd
              go_wp2
              go_quiet (fail)
              go_wp2
              (refine region_later (by kernel_rfl) (by kernel_rfl) ?_;(repeat (go_big_quiet_step (first|(go_at_call 124;rename_i xL;apply calls_later xL (Nat.le_refl _);exact (Cp.out _)))));refine wpQuiet_nil ?_;rintro _ ⟨⟨u1, hu1⟩, rfl⟩)
              go_wp2
              go_ret2
              exact ⟨by rw [Hfd.out];rfl, by repeat (first|(with_reducible exact Below.refl _ _)|(with_reducible assumption)|(with_reducible refine ba ?_)|(with_reducible refine bd ?_)|(with_reducible refine bdn ?_ _)|(with_reducible refine bset ?_ (by first|exact Nat.le_refl _|omega|(simp;done)|(simp;omega)))|(with_reducible refine bt ?_ (by with_reducible assumption)))⟩
        · obtain rfl : j = k := by omega
          have hnx := hat.next Hr.out hok
          have Hnx := Lib.hid hnx
          clear hnx
          go_wp2
          go_roundw
          case rel => exact ⟨j + 1, by omega, by go_num, Hnx.out, hbel⟩
          case measure => simp [intOf];omega
    · obtain rfl : k = n := by omega
      have hfin : Chk.check l = (-1, 0) := At.fin (by rw [← HN.out];exact hat)
      have Hfin := Lib.hid hfin
      clear hfin
      go_wp2
      go_ret2
      exact ⟨by rw [Hfin.out];rfl, hbel⟩
end R27
end Go.Proofs.YtcfmchpoclkpgaaGreatDoor
namespace Go.Proofs.YtcfmchpoclkpgaaGreatDoor
open Go.RowKit NB
namespace Chk
theorem CheckE (p : Option Addr) (cap : Nat) (w : World) : Calls Tryz.prog 16 #[.slice p 0 cap] w (Post (check []) w) := by
  have hmm := @run_makeMap Tryz.prog
  go_enter Tryz.func16, Tryz.ntmps16
  go_wp2
  go_loopw [13] (fun i wr => i = .int .i64 0 ∧ Below w.heap.size w wr) (fun i _ => 0)
  case atStart => exact ⟨rfl, (Below.refl _ _).alloc (Nat.le_refl _) _⟩
  case round =>
    obtain ⟨rfl, hbel⟩ := hrel
    go_wp2
    go_ret2
    exact ⟨rfl, hbel⟩
theorem CheckH {w : World} {v : Value} {l : List RuleV} (h : Holds w v l) (hl : l.length ≤ 12) : Calls Tryz.prog 16 #[v] w fun e w' => e = .returned (.tuple #[.int .i64 (check l).1, .int .i64 (check l).2]) ∧ Below w.heap.size w w' := by
  rcases h.lies with ⟨p, cap, rfl, rfl⟩|⟨b, off, cap, rfl, h2, h3⟩
  · exact CheckE p cap w
  · exact Check b off cap l w h3 h2 (by omega) h.fit
end Chk
namespace R27
theorem CheckE (p : Option Addr) (cap : Nat) (w : World) : Calls Tryz.prog 74 #[.slice p 0 cap] w (Chk.Post (Chk.check []) w) := by
  have h : Chk.check [] = (-1, 0) := rfl
  rw [h]
  unfold Chk.Post
  go_enter Tryz.func74, Tryz.ntmps74
  go_wp2
  go_loopw [9] (fun i wr => i = .int .i64 0 ∧ Below w.heap.size w wr) (fun i _ => 0)
  case atStart => exact ⟨rfl, Below.refl _ _⟩
  case round =>
    obtain ⟨rfl, hbel⟩ := hrel
    go_wp2
    go_ret2
    exact ⟨rfl, hbel⟩
theorem CheckH {w : World} {v : Value} {l : List RuleV} (h : Holds w v l) : Calls Tryz.prog 74 #[v] w fun e w' => e = .returned (.tuple #[.int .i64 (Chk.check l).1, .int .i64 (Chk.check l).2]) ∧ Below w.heap.size w w' := by
  rcases h.lies with ⟨p, cap, rfl, rfl⟩|⟨b, off, cap, rfl, h2, h3⟩
  · exact CheckE p cap w
  · exact Check b off cap l w h3 h2 h.len h.fit
end R27
end Go.Proofs.YtcfmchpoclkpgaaGreatDoor
namespace Go.Proofs.YtcfmchpoclkpgaaGreatDoor
open Go.RowKit NB
namespace OW
variable {P : Program}
theorem grown_drew {w w' : World} {row : Option Nat} (h : w.grownBy w' row) : w.grownBy w'.drew row := ⟨h.os, h.tape, h.output, h.size, h.block⟩
theorem step_append_at {w : World} {ops : Array Oper} {o : Oper} {a : Act} {K : Act → World → Prop} {Q : Exit → Act → World → Prop} {E : Prop} (hgd : o.guard = none) (s x : Operand) (t : TypeId)
    (ho : o.op = .call { callee := .builtin .append, args := #[s, x], argTypes := #[t, t] })
    (base : Nat) (e : TypeId) (i : TypeInfo) (z : Value) (size bytes : Nat) (ht : P.underlying t = some (.slice e)) (hi : P.info? e = some i) (hz : i.zero = some z)
    (hsize : i.size = size) (hby : i.bytes = bytes) (hzs : z.cells.size = size) (hsz : 0 < size)
    (v : Value) (n : Nat) (xs : List Value) (hs : a.eval s = v) (hown : w.ownsRow base e size v n xs)
    (ad : Addr) (m c : Nat) (news : List Value) (hx : a.eval x = .slice (some ad) m c) (hl : news.length = m * size) (hnews : ∀ j u, news[j]? = some u → w.cell? (ad.add j) = some u) (h1 : ∀ u ∈ news, u.oneCell' = true)
    (h63 : n + m ≤ maxLen) (hbytes : (n + m) * bytes ≤ 140737488355328) (hbase : base ≤ w.heap.size)
    (h : ∀ p cap w', w'.ownsRow base e size (.slice p (n + m) cap) (n + m) (xs ++ news) → w.grownBy w' v.ownBlock → ((Value.slice p (n + m) cap).ownBlock = v.ownBlock ∨ (Value.slice p (n + m) cap).ownBlock = some w.heap.size) → K (a.put o.dst (.slice p (n + m) cap)) w') :
    if Region.wanted o (yielded ops a.tmps) = true then Oper.wp P o a w K Q else E := by
  have hw : Region.wanted o (yielded ops a.tmps) = true := by simp [Region.wanted, hgd]
  rw [if_pos hw]
  obtain ⟨v', w', hr, h2, h3, _, h5⟩ := run_append_own_at (P := P) w base t o.type e i z size bytes ht hi hz hsize hby hzs hsz v n xs hown ad m c news hl hnews h1 h63 hbytes hbase
  obtain ⟨p, cap, rfl⟩ : ∃ p cap, v' = .slice p (n + m) cap := by
    rcases h2.2 with ⟨rfl, e⟩|⟨g, cap, cur, rfl, _⟩
    · exact ⟨none, 0, by rw [e]⟩
    · exact ⟨_, _, rfl⟩
  unfold Oper.wp execOp
  simp only [ho, resolve, invoke, builtin, Sem.run_bind, Sem.run_pure, Result.andThen_ok, List.map_toArray, List.map_cons, List.map_nil, hs, hx, hr]
  exact h p cap w' h2 h3 h5
end OW
end Go.Proofs.YtcfmchpoclkpgaaGreatDoor
namespace Go.Proofs.YtcfmchpoclkpgaaGreatDoor
open Go.RowKit NB
abbrev OwnI (w : World) (base : Nat) (v : Value) (l : List Int) : Prop := w.ownsRow base 3 1 v l.length (l.flatMap intC)
abbrev HoldsI (w : World) (v : Value) (l : List Int) : Prop := HoldsG 1 intC w v l
theorem HoldsI.of_own {w : World} {base : Nat} {v : Value} {l : List Int} (h : OwnI w base v l) : HoldsI w v l := HoldsG.of_own (k := 1) (f := intC) (fun _ => rfl) h
theorem HoldsG.pkI {w : World} {v : Value} {l : List Int} (h : HoldsG 1 intC w v l) : ∃ p cap, v = .slice p l.length cap ∧ ∀ (i : Nat) (n : Int), l[i]? = some n → ∃ b off, p = some ⟨b, off, none⟩ ∧ b < w.heap.size ∧ w.cell? ⟨b, off + i, none⟩ = some (.int .i64 n) := by
  obtain ⟨p, cap, e, hp⟩ := h.pk
  refine ⟨p, cap, e, fun i s hs => ?_⟩
  obtain ⟨b, off, e1, hb, hc⟩ := hp i s hs
  have := hc 0 _ rfl
  simp only [Nat.mul_one, Nat.add_zero] at this
  exact ⟨b, off, e1, hb, this⟩
theorem infoI : (Tryz.prog.info? 3).map (fun i => (i.zero, i.size, i.bytes)) = some (some (.int .i64 0), 1, 8) := by kernel_rfl
namespace IntS
theorem ints_one (l : List Int) : ∀ u ∈ l.flatMap intC, u.oneCell' = true := flatG_one (fun x u hu => by unfold intC at hu;simp at hu;rw [hu];rfl) l
theorem ints_len (l : List Int) : (l.flatMap intC).length = l.length * 1 := flatG_len (k := 1) (fun _ => rfl) l
theorem own_mk {w : World} {base : Nat} {v : Value} {L M : List Int} (h : w.ownsRow base 3 1 v (L.length + M.length) (L.flatMap intC ++ M.flatMap intC)) : OwnI w base v (L ++ M) := by
  unfold OwnI
  rw [List.length_append, List.flatMap_append]
  exact h
theorem append {w : World} {base : Nat} {v x : Value} {L M : List Int} (ho : OwnI w base v L) (hx : HoldsI w x M) (hl : L.length + M.length ≤ 1000000) (hb : base ≤ w.heap.size) (ty : TypeId) :
    ∃ v' w', (Builtin.append_ #[27, 27] ty #[v, x]).run Tryz.prog w = .ok v' w' ∧ OwnI w' base v' (L ++ M) ∧ w.grownBy w' v.ownBlock ∧ (v'.ownBlock = v.ownBlock ∨ v'.ownBlock = some w.heap.size) := by
  obtain ⟨i0, hi, hz0, hz1, hz2⟩ := info_parts infoI
  have big : L.length + M.length ≤ maxLen := by unfold maxLen;omega
  rcases hx.lies with ⟨p, cap, rfl, rfl⟩|⟨b, off, cap, rfl, hlt, hc⟩
  · cases p with
    | none =>
      refine ⟨v, w, ?_, by rw [List.append_nil];exact ho, World.grownBy.refl _ _, .inl rfl⟩
      rcases ho.2 with ⟨rfl, _⟩|⟨g, c, cur, rfl, _, _, hnc, _⟩
      · simp [Builtin.append_, run_underlying Tryz.underlying27, sizeOf, typeInfo, hi, Builtin.lenOf, Builtin.firstCells]
      · simp [Builtin.append_, run_underlying Tryz.underlying27, sizeOf, typeInfo, hi, Builtin.lenOf, Builtin.firstCells, hnc, storeCells]
    | some ad =>
      obtain ⟨v', w', hr, h2, h3, _, h5⟩ := run_append_own_at (P := Tryz.prog) w base 27 ty 3 i0 _ 1 8 Tryz.underlying27 hi hz0 hz1 hz2 rfl (by decide) v L.length (L.flatMap intC) ho ad 0 cap [] rfl (by simp) (by simp) (by simpa using big) (by simp at hl;omega) hb
      exact ⟨v', w', hr, own_mk (M := []) (by simpa using h2), h3, h5⟩
  · obtain ⟨v', w', hr, h2, h3, _, h5⟩ := run_append_own_at (P := Tryz.prog) w base 27 ty 3 i0 _ 1 8 Tryz.underlying27 hi hz0 hz1 hz2 rfl (by decide) v L.length (L.flatMap intC) ho ⟨b, off, none⟩ M.length cap (M.flatMap intC) (ints_len M) (fun j u hu => by
        have hj : j < M.length := by have := (List.getElem?_eq_some_iff.1 hu).1;rw [ints_len] at this;omega
        have he : (⟨b, off, none⟩ : Addr).add j = ⟨b, off + j, none⟩ := by unfold Addr.add;split <;> simp_all
        rw [he]
        have hm : (M.map intC)[j]? = some (intC M[j]) := by rw [List.getElem?_map, List.getElem?_eq_getElem hj];rfl
        have h0 := hc j 0 (intC M[j]) (.int .i64 M[j]) hm rfl
        have h6 := flatG_at (k := 1) (f := intC) (fun _ => rfl) M j 0 M[j] (.int .i64 M[j]) (List.getElem?_eq_getElem hj) rfl
        simp only [Nat.mul_one, Nat.add_zero] at h0 h6
        rw [h6] at hu
        cases hu
        exact h0) (ints_one M) big (by omega) hb
    exact ⟨v', w', hr, own_mk h2, h3, h5⟩
theorem wpList_app {w : World} {ops : Array Oper} {rest : List Oper} {o : Oper} {a : Act} {Q : Exit → Act → World → Prop} (hgd : o.guard = none) (s x : Operand)
    (ho : o.op = .call { callee := .builtin .append, args := #[s, x], argTypes := #[27, 27] }) {base : Nat} {v xv : Value} {L M : List Int} (hs : a.eval s = v) (hown : OwnI w base v L) (hx : a.eval x = xv) (hM : HoldsI w xv M)
    (hl : L.length + M.length ≤ 1000000) (hb : base ≤ w.heap.size)
    (h : ∀ v' w', OwnI w' base v' (L ++ M) → w.grownBy w' v.ownBlock → (v'.ownBlock = v.ownBlock ∨ v'.ownBlock = some w.heap.size) → wpList Tryz.prog ops Q rest (a.put o.dst v') w') : wpList Tryz.prog ops Q (o :: rest) a w := by
  refine wpList_plain hgd fun K hK => ?_
  obtain ⟨v', w', hr, h2, h3, h4⟩ := append hown hM hl hb o.type
  unfold Oper.wp execOp
  simp only [ho, resolve, invoke, builtin, Sem.run_bind, Sem.run_pure, Result.andThen_ok, List.map_toArray, List.map_cons, List.map_nil, hs, hx, hr]
  exact hK _ _ (h v' w' h2 h3 h4)
theorem step_app {w : World} {ops : Array Oper} {o : Oper} {a : Act} {K : Act → World → Prop} {Q : Exit → Act → World → Prop} {E : Prop} (hgd : o.guard = none) (s x : Operand)
    (ho : o.op = .call { callee := .builtin .append, args := #[s, x], argTypes := #[27, 27] }) {base : Nat} {v xv : Value} {L M : List Int} (hs : a.eval s = v) (hown : OwnI w base v L) (hx : a.eval x = xv) (hM : HoldsI w xv M)
    (hl : L.length + M.length ≤ 1000000) (hb : base ≤ w.heap.size)
    (h : ∀ v' w', OwnI w' base v' (L ++ M) → w.grownBy w' v.ownBlock → (v'.ownBlock = v.ownBlock ∨ v'.ownBlock = some w.heap.size) → K (a.put o.dst v') w') :
    if Region.wanted o (yielded ops a.tmps) = true then Oper.wp Tryz.prog o a w K Q else E := by
  have hw : Region.wanted o (yielded ops a.tmps) = true := by simp [Region.wanted, hgd]
  rw [if_pos hw]
  obtain ⟨v', w', hr, h2, h3, h4⟩ := append hown hM hl hb o.type
  unfold Oper.wp execOp
  simp only [ho, resolve, invoke, builtin, Sem.run_bind, Sem.run_pure, Result.andThen_ok, List.map_toArray, List.map_cons, List.map_nil, hs, hx, hr]
  exact h v' w' h2 h3 h4
end IntS
end Go.Proofs.YtcfmchpoclkpgaaGreatDoor
namespace Go.Proofs.YtcfmchpoclkpgaaGreatDoor
open Go.RowKit NB
namespace CkW
open Ck
theorem far_solo {V W U : World} {x y : Nat} (h : BkN.Far V W x y) (h2 : Solo W U x) : BkN.Far V U x y :=
  ⟨h2.os.trans h.os, h2.tape.trans h.tape, h2.output.trans h.output, Nat.le_trans h.size h2.size, fun k hk hx hy => (h2.block k (Nat.lt_of_lt_of_le hk h.size) hx hx).trans (h.block k hk hx hy)⟩
theorem far_lat {V W U : World} {x y : Nat} (h : BkN.Far V W x y) (h2 : Below W.heap.size W U) : BkN.Far V U x y :=
  ⟨h2.os.trans h.os, h2.tape.trans h.tape, h2.output.trans h.output, Nat.le_trans h.size h2.size, fun k hk hx hy => (h2.block k (Nat.lt_of_lt_of_le hk h.size)).trans (h.block k hk hx hy)⟩
theorem solo_below {B : Nat} {V W U : World} {x : Nat} (h : Below B V W) (h2 : Solo W U x) (hB : B ≤ x) (hs : B ≤ W.heap.size) : Below B V U :=
  ⟨h2.os.trans h.os, h2.tape.trans h.tape, h2.output.trans h.output, Nat.le_trans h.size h2.size, fun k hk => (h2.block k (by omega) (by omega) (by omega)).trans (h.block k hk)⟩
theorem solo_lies {W U : World} {x : Nat} {P : Program} {k : TypeId} {b : Nat} {L : List Mp.Ent} (h : Mp.Lies W P k b L) (h2 : Solo W U x) (hb : b ≠ x) : Mp.Lies U P k b L := h.same (h2.block b h.lt hb hb)
set_option maxRecDepth 100000 in
set_option maxHeartbeats 3200000 in
theorem rules {w0 W : World} {rv zv lv xrv xev xlv : Value} {rs : List RuleV} {xr : List Int} {f : Fault} (hB : Below w0.heap.size w0 W) (hF : Box W w0.heap.size #[rv, zv, lv, xrv, xev, xlv, .int .i64 f.1, .int .i64 f.2] 86)
    (hr : Holds w0 rv rs) (hx : HoldsI w0 xrv xr) (hl : xr.length = rs.length) (hn : rs.length ≤ 12) :
    Calls Tryz.prog 33 #[.pointer (some ⟨w0.heap.size, 0, none⟩)] W fun e w' => e = .returned (.tuple #[]) ∧ Box w' w0.heap.size #[rv, zv, lv, xrv, xev, xlv, .int .i64 (run f (ruleFs rs xr)).1, .int .i64 (run f (ruleFs rs xr)).2] 86 ∧ Below w0.heap.size w0 w' := by
  rw [rules_one]
  have hlt := Chk.check_lt rs
  have cc := Chk.CheckH (hr.later hB) hn
  obtain ⟨U, hU⟩ : ∃ u, u = Chk.check rs := ⟨_, rfl⟩
  rw [← hU] at hlt cc ⊢
  obtain ⟨U1, U2⟩ := U
  dsimp only at hlt cc ⊢
  have HF := Lib.hid hF
  have c0 := hF.cell
  have hs := hF.lt
  obtain ⟨p, c, rfl, hp⟩ := HoldsG.pkI hx
  obtain ⟨pr, cr, rfl⟩ := hr.form
  obtain ⟨n, hn2⟩ : ∃ n, n = rs.length := ⟨_, rfl⟩
  rw [hl] at c0 HF ⊢
  rw [← hn2] at hlt c0 cc HF ⊢
  have HX := Lib.hid hx;have HP := Lib.hid hp;have HN2 := Lib.hid hn2;have HL := Lib.hid hl;have HB := Lib.hid hB
  clear hx hp hn2 hl hr hU hF hB
  by_cases h0 : 0 ≤ U1
  · rw [if_pos h0]
    obtain ⟨k, rfl⟩ : ∃ k : Nat, U1 = k := ⟨U1.toNat, by omega⟩
    obtain ⟨m, hm⟩ : ∃ m, xr[k]? = some m := ⟨_, List.getElem?_eq_getElem (by rw [HL.out, ← HN2.out];omega)⟩
    obtain ⟨g1, o1, rfl, hg1, d1⟩ := HP.out k m hm
    have x0 := (HB.out.cell (p := ⟨g1, o1 + k, none⟩) hg1).trans d1
    have hgd : xr.getD (k : Int).toNat 0 = m := by rw [Int.toNat_natCast, List.getD_eq_getElem?_getD, hm];rfl
    rw [hgd]
    have hg1' : g1 < W.heap.size := by omega
    clear d1 hm hgd
    go_enter Tryz.func33, Tryz.ntmps33
    go_wp2_with (first
      | (go_at_call 16;refine cc.mono ?_;rintro e w1 ⟨rfl, hb1⟩;have hF1 := HF.out.later hb1;have c1 := hF1.cell;have x1 := (hb1.cell (p := ⟨g1, o1 + k, none⟩) hg1').trans x0)
      | (go_at_call 70;refine (tell hF1 m U2).mono ?_;rintro e w2 ⟨rfl, hF2, hs2⟩))
    have hB1 := HB.out.trans (hb1.mono HB.out.size)
    exact Go.Great.bodyPost_end0 rfl rfl ⟨rfl, hF2, solo_below hB1 hs2 (Nat.le_refl _) hB1.size⟩
  · rw [if_neg h0]
    have e1 : ¬ (U1 ≥ 0) := by omega
    have e2 : U1 < 0 := by omega
    go_enter Tryz.func33, Tryz.ntmps33
    go_wp2_with (go_at_call 16;refine cc.mono ?_;rintro e w1 ⟨rfl, hb1⟩;have hF1 := HF.out.later hb1)
    exact Go.Great.bodyPost_end0 rfl rfl ⟨rfl, hF1, HB.out.trans (hb1.mono HB.out.size)⟩
end CkW
end Go.Proofs.YtcfmchpoclkpgaaGreatDoor
namespace Go.Proofs.YtcfmchpoclkpgaaGreatDoor
open Go.RowKit NB
namespace BkW
open RBk (pairV mem twiceV zn)
def Met (L : List Mp.Ent) (l : List ByteArray) : Prop := ∀ s, Mp.get L s = if mem s l = true then some (.bool true) else none
theorem mem_snoc (s x : ByteArray) (l : List ByteArray) : mem s (l ++ [x]) = (mem s l || decide (x = s)) := by unfold mem;rw [List.any_append];simp
theorem Met.put {L : List Mp.Ent} {l : List ByteArray} (h : Met L l) (x : ByteArray) : Met (Mp.put L x (.bool true)) (l ++ [x]) := fun s => by
  rw [Mp.get_put, mem_snoc, h s]
  by_cases e : x = s
  · simp [e]
  · simp [e]
theorem g2 {a b c : World} {k : Nat} (h : a.grownBy b (some k)) (h' : b.grownBy c (some k)) : a.grownBy c (some k) := h.trans h'

end BkW
end Go.Proofs.YtcfmchpoclkpgaaGreatDoor
