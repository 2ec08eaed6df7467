import Derived.Test.YtecmipgpldcfcaaGreatDoorG14
import Derived.Test.YtecmipgpldcfcaaGreatDoorG28
import Derived.Test.YtecmipgpldcfcaaGreatDoorG33
import Derived.Test.YtecmipgpldcfcaaGreatDoorG13
import Derived.Test.YtecmipgpldcfcaaGreatDoorG12
namespace Go.Proofs.YtecmipgpldcfcaaGreatDoor
open Go.RowKit Go.ChangeShapes Go.WideShapes
def Capd (v : Value) : Prop := ∀ p n c, v = .slice p n c → n ≤ c ∧ c ≤ maxLen
theorem Capd.mk {p : Option Addr} {n c : Nat} (h : n ≤ c) (hc : c ≤ maxLen) : Capd (.slice p n c) := by
  intro q m d e
  cases e
  exact ⟨h, hc⟩
structure HoldsC (w : World) (t : TabV) : Prop where
  h : HoldsT w t
  r : Capd t.rv
  l : Capd t.lv
theorem HoldsC.later {w w' : World} {t : TabV} (h : HoldsC w t) (hb : Below w.heap.size w w') : HoldsC w' t := ⟨h.h.later hb, h.r, h.l⟩
theorem HoldsG.take {α : Type} {k : Nat} {f : α → List Value} {w : World} {p : Option Addr} {n c m : Nat} {l : List α} (h : HoldsG k f w (.slice p n c) l) (hm : m ≤ l.length) : HoldsG k f w (.slice p m c) (l.take m) := by
  refine ⟨?_, by rw [List.length_take];have := h.len;omega⟩
  rcases h.lies with ⟨q, d, e, hl⟩|⟨b, off, d, e, hb, hc⟩
  · cases e
    subst hl
    have : m = 0 := by simpa using hm
    subst this
    exact .inl ⟨_, _, rfl, rfl⟩
  · cases e
    refine .inr ⟨b, off, _, by rw [List.length_take, Nat.min_eq_left hm], hb, fun i j cs v hi hj => ?_⟩
    rw [List.map_take, List.getElem?_take] at hi
    split at hi
    · exact hc i j cs v hi hj
    · cases hi
theorem Holds.take {w : World} {p : Option Addr} {n c m : Nat} {l : List RuleV} (h : Holds w (.slice p n c) l) (hm : m ≤ l.length) : Holds w (.slice p m c) (l.take m) := by
  have hg := h.g.take hm
  refine ⟨hg.lies, fun r hr => h.fit r (List.mem_of_mem_take hr), hg.len⟩
section
variable {H : Type} {enc : TypeId × Value → H} {w : World} {base : Nat} {spare : Nat → Bool} {held : Bool}
end
end Go.Proofs.YtecmipgpldcfcaaGreatDoor
namespace Go.Proofs.YtecmipgpldcfcaaGreatDoor
open Go.RowKit NB
namespace RdR
open Rd RWr
theorem up_few {m n : Nat} (h : m + n ≤ 1000000) : ∀ x ∈ Ck.up m n, I64 x := fun x hx => by
  have := Ck.up_mem hx
  unfold I64
  omega
theorem sumE_few : ∀ (zs : List ZoneV), (∀ z ∈ zs, z.es.length ≤ 1000) → Ck.sumE zs ≤ 1000 * zs.length
  | [], _ => by simp [Ck.sumE]
  | z :: zs, h => by
    have h1 := h z (by simp)
    have h2 := sumE_few zs (fun y hy => h y (by simp [hy]))
    show z.es.length + Ck.sumE zs ≤ 1000 * (zs.length + 1)
    omega
theorem own_capd {w : World} {base : Nat} {e : TypeId} {sz : Nat} {v : Value} {n : Nat} {xs : List Value} (h : w.ownsRow base e sz v n xs) : Capd v := by
  rcases h.2 with ⟨rfl, hn⟩|⟨g, cap, cur, rfl, hb, hg, hnc, hcm, hsz, htk⟩
  · exact Capd.mk (Nat.le_refl _) (Nat.zero_le _)
  · exact Capd.mk hnc hcm
theorem Sm.of {a b : List ZoneV} (h : Sm a b) {x : ZoneV} (hx : x ∈ a) : ∃ z ∈ b, z.name = x.name ∧ z.es = x.es := by
  have h1 : (x.name, x.es) ∈ b.map (fun z => (z.name, z.es)) := by
    rw [← h]
    exact List.mem_map.2 ⟨x, hx, rfl⟩
  obtain ⟨z, hz, e⟩ := List.mem_map.1 h1
  exact ⟨z, hz, congrArg Prod.fst e, congrArg Prod.snd e⟩
theorem Got.holds {t : TabV} {w0 : World} (ht : HoldsT w0 t) (hf : Fine1 t) {W : World} {B p : Nat} {rv lv zv ev kv nv : Value} (h : Got t W B p rv lv zv ev kv nv) :
    ∃ (zs1 : List ZoneV) (es : List RowN), HoldsC W ⟨rv, zv, kv, t.rs, zs1, t.ls⟩ ∧ HoldsW W ⟨lv, ev, nv, Ck.up 0 t.rs.length, es, Ck.up (t.rs.length + Ck.sumE zs1) t.ls.length⟩ ∧ Sm zs1 t.zs ∧ es.map RowN.ns = Ck.upE t.rs.length zs1 := by
  obtain ⟨F, zs1, es, hP, hs, hw⟩ := h
  have hin : ∀ x ∈ zs1, x.es.length ≤ 12 ∧ (∀ e ∈ x.es, e.Fit) ∧ x.name.size ≤ 9223372036854775807 := fun x hx => by
    obtain ⟨z, hz, e1, e2⟩ := hs.of hx
    rw [← e1, ← e2]
    exact ⟨hf.l4 z hz, (ht.zf z hz).e.fit, (ht.zf z hz).n⟩
  have hzl : zs1.length ≤ 10 := by rw [hs.len];exact hf.l2
  have hse := sumE_few zs1 (fun z hz => by have := (hin z hz).1;omega)
  have hrl := hf.l1
  have hll := hf.l3
  have gr : HoldsG 11 RuleV.cells W rv t.rs := HoldsG.of_own (f := RuleV.cells) (fun _ => rfl) hP.r
  have gz : HoldsG 2 ZoneV.cells W zv zs1 := HoldsG.of_own (f := ZoneV.cells) (fun _ => rfl) hP.z
  have gk : HoldsG 2 LinkV.cells W kv t.ls := HoldsG.of_own (f := LinkV.cells) (fun _ => rfl) hP.k
  have ge : HoldsG 1 RowN.cells W ev es := HoldsG.of_own (f := RowN.cells) (fun _ => rfl) hP.e
  have gl : HoldsG 1 intC W lv (Ck.up 0 t.rs.length) := HoldsG.of_own (f := intC) (fun _ => rfl) (by rw [Ck.up_len];exact hP.l)
  have gn : HoldsG 1 intC W nv (Ck.up (t.rs.length + Ck.sumE zs1) t.ls.length) := HoldsG.of_own (f := intC) (fun _ => rfl) (by rw [Ck.up_len];exact hP.n)
  have gzf : ∀ x ∈ zs1, x.Fit W := fun x hx => by
    have g : HoldsG 13 EraV.cells W x.v x.es := HoldsG.of_own (f := EraV.cells) (fun _ => rfl) (hP.zf x hx)
    exact ⟨(hin x hx).2.2, ⟨g.lies, (hin x hx).2.1, g.len⟩⟩
  refine ⟨zs1, es, ⟨⟨⟨gr.lies, hf.rf, gr.len⟩, gz, gzf, gk, hf.lf⟩, own_capd hP.r, own_capd hP.k⟩, ⟨gl, up_few (by omega), ge, fun y hy => ⟨HoldsG.of_own (f := intC) (fun _ => rfl) (hP.ef y hy).1, ?_⟩, gn, up_few (by omega)⟩, hs, hw⟩
  intro n hn
  have hm : n ∈ (Ck.upE t.rs.length zs1).flatten := by
    rw [← hw]
    exact List.mem_flatten.2 ⟨y.ns, List.mem_map.2 ⟨y, hy, rfl⟩, hn⟩
  have := Ck.upE_mem hm
  unfold I64
  omega
theorem rows_few {es : List RowN} {m : Nat} {zs : List ZoneV} (h : es.map RowN.ns = Ck.upE m zs) (hz : ∀ z ∈ zs, z.es.length ≤ 12) : ∀ y ∈ es, y.ns.length ≤ 100 := by
  intro y hy
  obtain ⟨k, hk⟩ := List.getElem?_of_mem hy
  have h1 : (Ck.upE m zs)[k]? = some y.ns := by rw [← h, List.getElem?_map, hk];rfl
  have hk2 : k < zs.length := by
    have := (List.getElem?_eq_some_iff.1 h1).1
    rwa [Ck.upE_len] at this
  have h2 := Ck.upE_zip (p := (zs[k], y.ns)) (List.mem_of_getElem? (List.getElem?_zip_eq_some.2 ⟨List.getElem?_eq_getElem hk2, h1⟩))
  dsimp only at h2
  have := hz _ (List.getElem_mem hk2)
  omega
theorem fine1 {w : World} {t : TabV} (ht : HoldsT w t) (hl : Eqs.lightT t = true) (hr : rightT t = true) : Fine1 t := by
  obtain ⟨h1, h2, h3, h4, _⟩ := Ck.light_parts hl
  refine ⟨hr, ht.r.fit, ht.lf, ?_, h2, h3, fun z hz => ?_⟩
  · unfold Lgt.light at h1
    rw [Bool.and_eq_true, decide_eq_true_eq] at h1
    exact h1.1
  · have := h4 z hz
    unfold Zn.lightZ at this
    simp only [Bool.and_eq_true, decide_eq_true_eq] at this
    exact this.1.1
end RdR
end Go.Proofs.YtecmipgpldcfcaaGreatDoor
namespace Go.Proofs.YtecmipgpldcfcaaGreatDoor
open Go.RowKit NB
namespace RCk
open Ck
theorem less (a b : Fault) (w : World) : Calls Tryz.prog 119 #[.agg #[.int .i64 a.1, .int .i64 a.2], .agg #[.int .i64 b.1, .int .i64 b.2]] w fun e w' => e = .returned (.agg #[.int .i64 (Ck.less a b).1, .int .i64 (Ck.less a b).2]) ∧ Below w.heap.size w w' := by
  obtain ⟨al, ae⟩ := a
  obtain ⟨bl, be⟩ := b
  unfold Ck.less
  dsimp only
  by_cases h1 : be = 0
  · rw [if_neg (fun h => h.1 h1)]
    go_enter Tryz.func119, Tryz.ntmps119
    go_wp2
    refine bodyPost_ret (v := .agg #[.int .i64 al, .int .i64 ae]) ?_ rfl ⟨rfl, ?_⟩
    · simp only [results, Tryz.results119]
      go_simp
    · exact bcq
  · by_cases h2 : ae = 0
    · rw [if_pos ⟨h1, .inl h2⟩]
      go_enter Tryz.func119, Tryz.ntmps119
      go_wp2
      refine bodyPost_ret (v := .agg #[.int .i64 bl, .int .i64 be]) ?_ rfl ⟨rfl, ?_⟩
      · simp only [results, Tryz.results119]
        go_simp
      · exact bcq
    · by_cases h3 : bl < al
      · rw [if_pos ⟨h1, .inr h3⟩]
        go_enter Tryz.func119, Tryz.ntmps119
        go_wp2
        refine bodyPost_ret (v := .agg #[.int .i64 bl, .int .i64 be]) ?_ rfl ⟨rfl, ?_⟩
        · simp only [results, Tryz.results119]
          go_simp
        · exact bcq
      · rw [if_neg (fun h => h.2.elim h2 h3)]
        have e1 : (be != 0) = true := by simpa using h1
        have e2 : (ae == 0) = false := by simpa using h2
        have e3 : al ≤ bl := by omega
        clear h1 h2 h3
        go_enter Tryz.func119, Tryz.ntmps119
        go_wp2
        all_goals
          refine bodyPost_ret (v := .agg #[.int .i64 al, .int .i64 ae]) ?_ rfl ⟨rfl, ?_⟩
          · simp only [results, Tryz.results119]
            go_simp
          · exact bcq
end RCk
end Go.Proofs.YtecmipgpldcfcaaGreatDoor
namespace Go.Proofs.YtecmipgpldcfcaaGreatDoor
open Go.RowKit NB
namespace RCk
open Ck
set_option maxRecDepth 100000 in
set_option maxHeartbeats 3200000 in
theorem named {w : World} {v : Value} {l : List RuleV} (h : Holds w v l) (s : ByteArray) :
    Calls Tryz.prog 168 #[v, .string s] w fun e w' => e = .returned (.bool (Ck.named l s)) ∧ Below w.heap.size w w' := by
  have l1 := h.len
  obtain ⟨p, cap, rfl, hp⟩ := h.g.pk
  obtain ⟨n, hn⟩ : ∃ n, n = l.length := ⟨_, rfl⟩
  rw [← hn] at l1 ⊢
  have HN := Lib.hid hn;have HP := Lib.hid hp
  clear hn hp h
  go_enter Tryz.func168, Tryz.ntmps168
  go_wp2
  go_loopw [9] (fun i wr => ∃ k : Nat, i = .int .i64 k ∧ k ≤ n ∧ Below w.heap.size w wr ∧ Hid (∀ j x, j < k → l[j]? = some x → x.name ≠ s)) (fun i _ => n - (intOf i).toNat)
  case atStart => exact ⟨0, rfl, Nat.zero_le _, Below.refl _ _, fun j _ hj => absurd hj (Nat.not_lt_zero _)⟩
  case round =>
    obtain ⟨k, rfl, hk, hbr, HS⟩ := hrel
    by_cases hlt : k < n
    · obtain ⟨x, hx⟩ : ∃ x, l[k]? = some x := ⟨_, List.getElem?_eq_getElem (by rw [← HN.out];exact hlt)⟩
      obtain ⟨g1, o1, rfl, hg1, d1⟩ := HP.out k x hx
      replace d1 := fun j u hu => (hbr.cell (p := ⟨g1, o1 + k * 11 + j, none⟩) hg1).trans (d1 j u hu)
      have x0 := d1 0 _ rfl
      have x1 := d1 1 _ rfl
      have x2 := d1 2 _ rfl
      have x3 := d1 3 _ rfl
      have x4 := d1 4 _ rfl
      have x5 := d1 5 _ rfl
      have x6 := d1 6 _ rfl
      have x7 := d1 7 _ rfl
      have x8 := d1 8 _ rfl
      have x9 := d1 9 _ rfl
      have x10 := d1 10 _ rfl
      rw [Nat.add_zero] at x0
      clear d1
      have q1 : (k : Int) < (n : Int) := by omega
      have HX := Lib.hid hx
      clear hx
      by_cases he : x.name = s
      · have e0 := str_eq he
        have HE : Hid (Ck.named l s = true) := List.any_eq_true.2 ⟨x, List.mem_of_getElem? HX.out, decide_eq_true he⟩
        clear he
        go_wp2
        go_ret
        exact ⟨by rw [HE.out];rfl, bcq⟩
      · have e0 := str_ne he
        have HE := Lib.hid he
        clear he
        go_wp2
        go_roundw
        case rel =>
          refine ⟨k + 1, by go_num, by omega, bcq, fun j y hj hy => ?_⟩
          by_cases hjk : j = k
          · subst hjk
            rw [HX.out] at hy
            cases hy
            exact HE.out
          · exact HS.out j y (by omega) hy
        case measure => simp [intOf];omega
    · obtain rfl : k = n := by omega
      have HE : Hid (Ck.named l s = false) := List.any_eq_false.2 (fun x hm => by
        obtain ⟨j, hj⟩ := List.mem_iff_getElem?.1 hm
        simpa using HS.out j x (by rw [HN.out];exact (List.getElem?_eq_some_iff.1 hj).1) hj)
      go_wp2
      go_ret
      exact ⟨by rw [HE.out];rfl, hbr⟩
set_option maxRecDepth 100000 in
set_option maxHeartbeats 3200000 in
theorem twice {w : World} {t : TabV} (h : HoldsT w t) {z : Nat} {y : ZoneV} (hz : t.zs[z]? = some y) (hlen : t.zs.length ≤ 100000) :
    Calls Tryz.prog 167 #[.agg #[t.rv, t.zv, t.lv], .int .i64 z] w fun e w' => e = .returned (.bool (((t.zs.take z).map ZoneV.name).any fun a => decide (a = y.name))) ∧ Below w.heap.size w w' := by
  obtain ⟨rv, zv, lv, rs, zs, ls⟩ := t
  dsimp only at hz hlen ⊢
  obtain ⟨pr, cr, e1⟩ := h.r.form
  obtain ⟨pl, cl, e3⟩ := h.l.form
  obtain ⟨p, cap, e2, hp⟩ := h.z.pk
  dsimp only at e1 e2 e3 hp
  subst e1 e2 e3
  obtain ⟨n, hn⟩ : ∃ n, n = zs.length := ⟨_, rfl⟩
  have hzn : z < n := by rw [hn];exact (List.getElem?_eq_some_iff.1 hz).1
  obtain ⟨g2, o2, hpe, hg2, d2⟩ := hp z y hz
  rw [← hn] at hlen ⊢
  have HN := Lib.hid hn;have HP := Lib.hid hp;have HZ := Lib.hid hz
  have HD2 := Lib.hid d2
  clear hn hp h hz d2
  generalize rs.length = nr at *
  generalize ls.length = nl at *
  have hb0 := Box.new w #[.slice pr nr cr, .slice p n cap, .slice pl nl cl] 26
  obtain ⟨V, hV⟩ : ∃ V, V = w.alloc (.cells #[.slice pr nr cr, .slice p n cap, .slice pl nl cl] 26) := ⟨_, rfl⟩
  have hbV : Below w.heap.size w V := by rw [hV];exact bcq
  rw [← hV] at hb0
  have HV := Lib.hid hV
  clear hV
  subst hpe
  go_enter Tryz.func167, Tryz.ntmps167
  go_wp2_with (first|fail)
  rw [← HV.out]
  go_loopw [5] (fun i wr => ∃ k : Nat, i = .int .i64 k ∧ k ≤ z ∧ Below V.heap.size V wr ∧ Hid (∀ j x, j < k → zs[j]? = some x → x.name ≠ y.name)) (fun i _ => z - (intOf i).toNat)
  case atStart => exact ⟨0, rfl, Nat.zero_le _, Below.refl _ _, fun j _ hj => absurd hj (Nat.not_lt_zero _)⟩
  case round =>
    obtain ⟨k, rfl, hk, hbr, HS⟩ := hrel
    have hbw : Below w.heap.size w wr := hbV.trans (hbr.mono hbV.size)
    have c0 := (hb0.later hbr).cell
    by_cases hlt : k < z
    · obtain ⟨x, hx⟩ : ∃ x, zs[k]? = some x := ⟨_, List.getElem?_eq_getElem (by rw [← HN.out];omega)⟩
      obtain ⟨g1, o1, hge, hg1, d1⟩ := HP.out k x hx
      obtain ⟨rfl, rfl, _⟩ : g2 = g1 ∧ o2 = o1 ∧ True := by simpa using hge
      have x0 := (hbw.cell (p := ⟨g2, o2 + k * 2 + 0, none⟩) hg2).trans (d1 0 _ rfl)
      have y0 := (hbw.cell (p := ⟨g2, o2 + z * 2 + 0, none⟩) hg2).trans (HD2.out 0 _ rfl)
      rw [Nat.add_zero] at x0 y0
      clear d1 hge
      have q1 : (k : Int) < (z : Int) := by omega
      have q2 : (k : Int) < (n : Int) := by omega
      have q3 : (z : Int) < (n : Int) := by omega
      have HX := Lib.hid hx
      clear hx
      by_cases he : x.name = y.name
      · have e0 := str_eq he
        have HE : Hid ((((zs.take z).map ZoneV.name).any fun a => decide (a = y.name)) = true) := by
          refine List.any_eq_true.2 ⟨x.name, List.mem_map.2 ⟨x, ?_, rfl⟩, decide_eq_true he⟩
          exact List.mem_of_getElem? (i := k) (by rw [List.getElem?_take, if_pos (by omega)];exact HX.out)
        clear he
        go_wp2
        go_region
        all_goals
          go_wp2
          go_ret
          exact ⟨by rw [HE.out];rfl, bcq⟩
      · have e0 := str_ne he
        have HE := Lib.hid he
        clear he
        go_wp2
        go_region
        all_goals
          go_wp2
          go_roundw
          case rel =>
            refine ⟨k + 1, by go_num, by omega, bcq, fun j u hj hy => ?_⟩
            by_cases hjk : j = k
            · subst hjk
              rw [HX.out] at hy
              cases hy
              exact HE.out
            · exact HS.out j u (by omega) hy
          case measure => simp [intOf];omega
    · obtain rfl : k = z := by omega
      have HE : Hid ((((zs.take k).map ZoneV.name).any fun a => decide (a = y.name)) = false) := List.any_eq_false.2 (fun a hm => by
        obtain ⟨x, hx, rfl⟩ := List.mem_map.1 hm
        obtain ⟨j, hj⟩ := List.mem_iff_getElem?.1 hx
        rw [List.getElem?_take] at hj
        split at hj
        · simpa using HS.out j x (by omega) hj
        · cases hj)
      go_wp2
      go_ret
      exact ⟨by rw [HE.out];rfl, bcq⟩
end RCk
end Go.Proofs.YtecmipgpldcfcaaGreatDoor
namespace Go.Proofs.YtecmipgpldcfcaaGreatDoor
open Go.RowKit NB Nxt
namespace Unt
end Unt
end Go.Proofs.YtecmipgpldcfcaaGreatDoor
namespace Go.Proofs.YtecmipgpldcfcaaGreatDoor
open Go.RowKit NB Nxt
namespace Unt
theorem near_iff {l : List RuleV} {e : EraV} {a b : Int} : nearB l e a b = true ↔ NearP l e a b := by unfold nearB;simp
theorem bad_14 {l : List RuleV} {es : List EraV} {L : List Int} {i : Nat} {t q : Int} (ht : L[i + 1]? = some t) (hq : L[i]? = some q) (h : t ≤ q) : badAt l es L (i + 1) = 14 := by
  unfold badAt
  rw [ht]
  simp [hq, h]
theorem bad_15 {l : List RuleV} {es : List EraV} {L : List Int} {i : Nat} {t q : Int} (ht : L[i + 1]? = some t) (hq : L[i]? = some q) (h : ¬ t ≤ q) (h2 : t - q < 345600) : badAt l es L (i + 1) = 15 := by
  unfold badAt
  rw [ht]
  simp [hq, h, h2]
open Classical in
theorem bad_near {l : List RuleV} {es : List EraV} {L : List Int} {i : Nat} {t : Int} {e f : EraV} (ht : L[i]? = some t) (he : es[i]? = some e) (hf : es[i + 1]? = some f) (hp : i = 0 ∨ ∃ q j, i = j + 1 ∧ L[j]? = some q ∧ ¬ t ≤ q ∧ ¬ t - q < 345600) : badAt l es L i = if nearB l e (t - 172800) t = true ∨ nearB l f t (t + 172800) = true then 15 else 0 := by
  have e1 := near_iff (l := l) (e := e) (a := t - 172800) (b := t)
  have e2 := near_iff (l := l) (e := f) (a := t) (b := t + 172800)
  have n1 : nearO l es[i]? (t - 172800) t ↔ NearP l e (t - 172800) t := by rw [he];exact Iff.rfl
  have n2 : nearO l es[i + 1]? t (t + 172800) ↔ NearP l f t (t + 172800) := by rw [hf];exact Iff.rfl
  have hq : ∃ q, ¬ t ≤ q ∧ ¬ t - q < 345600 ∧ (if 0 < i then (L[i - 1]?).getD 0 else t - 345600) = q := by
    rcases hp with rfl|⟨q, j, rfl, hq, h1, h2⟩
    · exact ⟨t - 345600, by omega, by omega, rfl⟩
    · exact ⟨q, h1, h2, by rw [if_pos (Nat.succ_pos j), Nat.add_sub_cancel, hq];rfl⟩
  obtain ⟨q, h1, h2, h3⟩ := hq
  have hb : badAt l es L i = if t ≤ q then 14 else if t - q < 345600 ∨ nearO l es[i]? (t - 172800) t ∨ nearO l es[i + 1]? t (t + 172800) then 15 else 0 := by
    unfold badAt
    rw [ht, ← h3]
  rw [hb, if_neg h1]
  by_cases hA : nearB l e (t - 172800) t = true ∨ nearB l f t (t + 172800) = true
  · rw [if_pos hA, if_pos (.inr (hA.imp (fun h => n1.2 (e1.1 h)) (fun h => n2.2 (e2.1 h))))]
  · rw [if_neg hA, if_neg]
    rintro (h|h)
    · exact h2 h
    · exact hA (h.imp (fun h => e1.2 (n1.1 h)) (fun h => e2.2 (n2.1 h)))
end Unt
end Go.Proofs.YtecmipgpldcfcaaGreatDoor
namespace Go.Proofs.YtecmipgpldcfcaaGreatDoor
open Go.RowKit NB Nxt
namespace RUnt
open Unt
theorem near_list {l : List RuleV} {e : EraV} {a b : Int} (hl : l.length < 10000) (hab : b - a ≤ 200000) (hm : Chn.may e.off = true) (h : ∀ x ∈ Occ.inL l e.rules (b + 64801) ⟨-1, 0, a - 64800⟩ 10000, ¬ (a < Chn.inst l e.rules e.off x ∧ Chn.inst l e.rules e.off x < b)) : ¬ NearP l e a b := by
  rintro ⟨_, x, hx, h1, h2⟩
  have ib := Chn.inst_bd (l := l) (name := e.rules) hm x
  have hr := (Occ.all_bd hx).2.2.1
  rcases Occ.inL_mem hx (T := b + 64801) (by omega) 10000 ⟨-1, 0, a - 64800⟩ (by rw [Occ.less_iff];simp only;omega) with h3|h3
  · exact h x h3 ⟨h1, h2⟩
  · have := inL_few (l := l) (name := e.rules) (a := a - 64800) (T := b + 64801) (by omega) (n := 10000)
    omega
set_option maxRecDepth 100000 in
set_option maxHeartbeats 6400000 in
theorem near {w : World} {v : Value} {l : List RuleV} (h : Holds w v l) (e : EraV) (hR : Er.rightB e = true) (a b : Int) (ha0 : -4000000000000 ≤ a) (hab0 : a ≤ b) (hab : b - a ≤ 200000) (hb1 : b ≤ 4000000000000) (hl : l.length ≤ 12) :
    Calls Tryz.prog 199 #[v, .agg e.cells.toArray, .int .i64 a, .int .i64 b] w fun x w' => x = .returned (.bool (nearB l e a b)) ∧ Below w.heap.size w w' := by
  by_cases hk : e.kind = 2
  case neg =>
    rw [near_false (fun h => hk h.1)]
    obtain ⟨q, cap, rfl⟩ := h.form
    unfold EraV.cells
    generalize l.length = n at *
    go_enter Tryz.func199, Tryz.ntmps199
    go_wp2
    go_ret
    exact ⟨rfl, bcq⟩
  have hm : Chn.may e.off = true := Chn.may_iff.2 (right_spec hR).1
  have cn := fun W (h : Holds W v l) => RIn.In h e.rules (a - 64800) (b + 64801) 10000 (by unfold I64;omega) (by decide)
  rw [show All.inO l e.rules (a - 64800) (b + 64801) 10000 = Occ.inL l e.rules (b + 64801) ⟨-1, 0, a - 64800⟩ 10000 by unfold All.inO;rw [if_pos (by omega)];rfl] at cn
  have ci := fun W (h : Holds W v l) (o : OccV) => RCh.Instant h e.rules e.off o
  have hnl := fun hh => near_false (near_list (l := l) (e := e) (a := a) (b := b) (by omega) hab hm hh)
  have hlen := Occ.inL_len l e.rules (b + 64801) 10000 ⟨-1, 0, a - 64800⟩
  have hall := fun x (hx : x ∈ Occ.inL l e.rules (b + 64801) ⟨-1, 0, a - 64800⟩ 10000) => (Occ.inL_all hx).1
  generalize Occ.inL l e.rules (b + 64801) ⟨-1, 0, a - 64800⟩ 10000 = L at *
  have hie := fun (o : OccV) (ho : o ∈ L) => Chn.instE_all hm (hall o ho)
  have hye := fun (o : OccV) (ho : o ∈ L) h1 h2 => near_true (l := l) (e := e) (a := a) (b := b) ⟨hk, o, hall o ho, h1, h2⟩
  generalize nearB l e a b = nb at *
  obtain ⟨off, kind, save, rules, format, u⟩ := e
  simp only at *
  subst hk
  obtain ⟨q, cap, rfl⟩ := h.form
  unfold OccV.cells at *
  unfold EraV.cells
  simp only at *
  have HH := Lib.hid h
  have Cn := Lib.hid cn
  have Ci := Lib.hid ci
  have Hnl := Lib.hid hnl
  have Hie := Lib.hid hie
  have Hye := Lib.hid hye
  clear h cn ci hnl hall hie hye hR hm
  generalize l.length = n at *
  go_enter Tryz.func199, Tryz.ntmps199
  go_upto_region 4 with (first
    | (go_at_call 230;(with_reducible refine (Cn.out _ ?_).mono ?_);(· exact HH.out.later bcq);rintro e W0 ⟨rv, rfl, hrow, hb3⟩;obtain ⟨rq, rc, hrv⟩ := Grp.own_form hrow;subst hrv))
  have kR : Box W0 w.heap.size #[.int .i64 off, .int .i64 2, .int .i64 save, .string rules, .string format, .bool u.has, .int .i64 u.year, .int .i64 u.month, .int .i64 u.kind, .int .i64 u.week, .int .i64 u.day, .int .i64 u.sec, .int .i64 u.base] 51 := (Box.new w _ _).later hb3
  have hW0 : Below w.heap.size w W0 := bcq
  obtain ⟨m, hmL⟩ : ∃ m, m = L.length := ⟨_, rfl⟩
  rw [← hmL] at hrow hlen ⊢
  have hcell : 0 < m → ∃ g, rq = some ⟨g, 0, none⟩ ∧ g < W0.heap.size ∧ ∀ (j : Nat) (x : OccV), L[j]? = some x → ∀ u, Below W0.heap.size W0 u → u.cell? ⟨g, j * 3, none⟩ = some (.int .i64 x.rule) ∧ u.cell? ⟨g, j * 3 + 1, none⟩ = some (.int .i64 x.year) ∧ u.cell? ⟨g, j * 3 + 2, none⟩ = some (.int .i64 x.nom) := by
    intro h0
    obtain ⟨g, ⟨c1, hq⟩, _, l1, r1⟩ := Grp.own_cell (j := 0) hrow h0
    simp only [Value.slice.injEq] at hq
    refine ⟨g, hq.1, l1, fun j x hx u hu => ⟨?_, ?_, ?_⟩⟩
    · exact (hu.cell (p := ⟨g, j * 3, none⟩) l1).trans (r1 _ _ (Grp.flat_at (f := OccV.cells) (sz := 3) (fun _ => rfl) L j 0 x _ hx rfl))
    · exact (hu.cell (p := ⟨g, j * 3 + 1, none⟩) l1).trans (r1 _ _ (Grp.flat_at (f := OccV.cells) (sz := 3) (fun _ => rfl) L j 1 x _ hx rfl))
    · exact (hu.cell (p := ⟨g, j * 3 + 2, none⟩) l1).trans (r1 _ _ (Grp.flat_at (f := OccV.cells) (sz := 3) (fun _ => rfl) L j 2 x _ hx rfl))
  have HB0 := Lib.hid hW0
  have HG := Lib.hid hcell
  have HM := Lib.hid hmL
  have HK := Lib.hid kR
  clear hW0 hcell hrow hmL hb3 kR
  go_loopw [26] (fun i wr => ∃ k : Nat, i = .int .i64 k ∧ k ≤ m ∧ (∀ (j : Nat) (x : OccV), j < k → L[j]? = some x → ¬ (a < Chn.inst l rules off x ∧ Chn.inst l rules off x < b)) ∧ Below W0.heap.size W0 wr) (fun i _ => m - (intOf i).toNat)
  case atStart => exact ⟨0, rfl, Nat.zero_le _, fun j x hj => absurd hj (Nat.not_lt_zero _), Below.refl _ _⟩
  case round =>
    obtain ⟨k, rfl, hkm, hsp, hbel⟩ := hrel
    have Hsp := Lib.hid hsp
    have hbx := HK.out.later hbel
    have r0 := hbx.cell
    have u0 := hbx.lt
    have HbW := Lib.hid (HB0.out.trans (hbel.mono HB0.out.size))
    have Hbel := Lib.hid hbel
    clear hsp hbx
    by_cases hlt : k < m
    · obtain ⟨g, rfl, hgl, hgc⟩ := HG.out (by omega)
      obtain ⟨o, ho⟩ : ∃ o, L[k]? = some o := ⟨L[k]'(by rw [← HM.out];exact hlt), by simp⟩
      have hom := List.mem_of_getElem? ho
      obtain ⟨x0, x1, x2⟩ := hgc k o ho wr hbel
      have ci1 := fun W h => Ci.out W h o
      rw [Hie.out o hom] at ci1
      have hye := Hye.out o hom
      have Ho := Lib.hid ho
      obtain ⟨x, hx⟩ : ∃ x, x = Chn.inst l rules off o := ⟨_, rfl⟩
      rw [← hx] at ci1 hye
      simp only at ci1
      have Ci1 := Lib.hid ci1
      have Hx := Lib.hid hx
      clear ci1 hgc hbel hx ho hom
      by_cases hin : a < x ∧ x < b
      · have hr := Lib.hid (hye hin.1 hin.2)
        obtain ⟨h1, h2⟩ := hin
        clear hye
        go_wp2_with (first
          | (go_at_call 231;(with_reducible refine (Ci1.out _ ?_).mono ?_);(· exact HH.out.later (bt HbW.out bcq));rintro e w2 ⟨rfl, hb2⟩;obtain ⟨hc2, hf2⟩ := bcell hb2))
        have hbel := HbW.out
        go_ret
        exact ⟨congrArg (fun v => Ending.returned (Value.bool v)) hr.out.symm, bcq⟩
      · clear hye
        rcases (by omega : x ≤ a ∨ (a < x ∧ b ≤ x)) with hx|⟨hx1, hx2⟩
        all_goals
          have Hin := Lib.hid hin
          clear hin
          go_wp2_with (first
            | (go_at_call 231;(with_reducible refine (Ci1.out _ ?_).mono ?_);(· exact HH.out.later (bt HbW.out bcq));rintro e w2 ⟨rfl, hb2⟩;obtain ⟨hc2, hf2⟩ := bcell hb2))
          have hbel := Hbel.out
          go_roundw
          case rel =>
            refine ⟨k + 1, by go_num, hlt, fun j y hj hy => ?_, bcq⟩
            rcases (by omega : j < k ∨ j = k) with h1|rfl
            · exact Hsp.out j y h1 hy
            · rw [Ho.out] at hy
              cases hy
              rw [← Hx.out]
              exact Hin.out
          case measure => simp [intOf];omega
    · have hkm' : k = m := by omega
      have hr := Lib.hid (Hnl.out (fun x hx => by
        obtain ⟨j, hj⟩ := List.mem_iff_getElem?.1 hx
        refine Hsp.out j x ?_ hj
        have := (List.getElem?_eq_some_iff.1 hj).1
        have := HM.out
        omega))
      clear hbel
      go_wp2
      go_ret
      exact ⟨congrArg (fun v => Ending.returned (Value.bool v)) hr.out.symm, HbW.out⟩
end RUnt
end Go.Proofs.YtecmipgpldcfcaaGreatDoor
