import Derived.Test.YtecmipgpldcfcaaGreatDoorG31
import Derived.Test.YtecmipgpldcfcaaGreatDoorG32
import Derived.Test.YtecmipgpldcfcaaGreatDoorG28
namespace Go.Proofs.YtecmipgpldcfcaaGreatDoor
open Go.RowKit NB
namespace Pt
set_option maxRecDepth 100000 in
set_option maxHeartbeats 6400000 in
theorem RValueC {w : World} {t : TabV} (ht : HoldsT w t) (hf : Ok t) (zone s : Int) (hs : I64 s) :
    Calls Tryz.prog 12 #[.agg #[t.rv, t.zv, t.lv], .int .i64 zone, .int .i64 s] w fun e w' => e = .returned (.tuple #[.agg (valV t zone s).1.cells.toArray, .int .i64 (valV t zone s).2]) ∧ Below w.heap.size w w' := by
  have ce := fun (W : World) (h : HoldsT W t) => REra h hf zone s hs
  have HTT := Lib.hid ht
  obtain ⟨p, cap, e1⟩ := ht.r.form
  obtain ⟨pz, capz, e3, hpz⟩ := ht.z.pk
  obtain ⟨pl, capl, e7⟩ := ht.l.form
  have hfz := ht.zf
  by_cases hbad : ∃ c : Int, c ≠ 0 ∧ valV t zone s = (zeroV, c) ∧ eraV t zone s = (0, c)
  · obtain ⟨c, hc0, hv, he⟩ := hbad
    rw [hv]
    rw [he] at ce
    obtain ⟨rv, zv, lv, rs, zs, ls⟩ := t
    dsimp only at e1 e3 e7 ce HTT ⊢
    subst e1 e3 e7
    generalize rs.length = n at *
    generalize zs.length = nz at *
    generalize ls.length = nl at *
    have CE := Lib.hid ce
    clear ce hpz hfz ht hf hv he
    have q0 : (c != 0) = true := by simpa using hc0
    go_enter Tryz.func12, Tryz.ntmps12
    go_wp2_with (go_at_call 10;(with_reducible refine (CE.out _ ?_).mono ?_);(· exact HTT.out.later bcq);rintro e w1 ⟨rfl, hb1⟩;obtain ⟨hc1_0, hf1_0, _⟩ := bcs hb1 (w.heap.size);obtain ⟨hc1_1, hf1_1, hz1_1⟩ := bcs hb1 (w.heap.size + 1);have hz1_0 : w.heap.size < w1.heap.size := (by first|exact sz1 hb1|exact sz2 hb1|exact sz3 hb1|(have := hb1.size;(try simp only [World.size_alloc] at this);omega)))
    refine bodyPost_ret (v := .tuple #[.agg #[.int .i64 0, .int .i64 0, .string ⟨#[]⟩], .int .i64 c]) ?_ rfl ⟨rfl, bcq⟩
    simp only [results, Tryz.results12]
    go_simp
  by_cases hin : 0 ≤ zone ∧ zone < t.zs.length
  case neg =>
    have := val_none s (zone_none (t := t) (zone := zone) (by omega))
    exact absurd ⟨12, by decide, this.1, this.2⟩ hbad
  obtain ⟨k, rfl⟩ : ∃ k : Nat, zone = (k : Int) := ⟨zone.toNat, by omega⟩
  obtain ⟨z, hzz, hz⟩ := zone_some (t := t) (zone := (k : Int)) (by omega) (by omega)
  rw [Int.toNat_natCast] at hz
  by_cases ho : s < lo ∨ hi < s
  · have := val_out hzz ho
    exact absurd ⟨1, by decide, this.1, this.2⟩ hbad
  have hzm := (zone_mem hzz).2.2.2
  have hg := hf.good z hzm
  have hen := hf.en z hzm
  have hii := era_in hg s
  obtain ⟨x, hx⟩ : ∃ x, z.es[idx (Zn.endsL t.rs z.es) s]? = some x := ⟨_, List.getElem?_eq_getElem hii⟩
  have hvi := val_in hzz (by omega) (by omega) hx
  rw [hvi.2] at ce
  rw [hvi.1]
  have hxf : x.Fit := (hfz z hzm).e.fit x (List.mem_of_getElem? hx)
  have ca := fun (W : World) (h : Holds W t.rv t.rs) => RFrc.At h x hxf s hf.lets (by have := hf.rn;omega)
  generalize Frc.atV t.rs x s = A at *
  obtain ⟨⟨ao, av, aa⟩, aw⟩ := A
  unfold ValV.cells EraV.cells at ca
  dsimp only [ValV.cells] at ca ⊢
  obtain ⟨I, hI⟩ : ∃ I, I = idx (Zn.endsL t.rs z.es) s := ⟨_, rfl⟩
  rw [← hI] at ce hii hx
  clear hI hbad hvi
  obtain ⟨g1, o1, e4, hg1, d1⟩ := hpz k z hz
  have x0 := d1 0 _ rfl
  have x1 := d1 1 _ rfl
  rw [Nat.add_zero] at x0
  obtain ⟨g2, o2, cc, e5, hg2, d2⟩ := (hfz z hzm).e.at hx
  have y0 := d2 0 _ rfl
  have y1 := d2 1 _ rfl
  have y2 := d2 2 _ rfl
  have y3 := d2 3 _ rfl
  have y4 := d2 4 _ rfl
  have y5 := d2 5 _ rfl
  have y6 := d2 6 _ rfl
  have y7 := d2 7 _ rfl
  have y8 := d2 8 _ rfl
  have y9 := d2 9 _ rfl
  have y10 := d2 10 _ rfl
  have y11 := d2 11 _ rfl
  have y12 := d2 12 _ rfl
  rw [Nat.add_zero] at y0
  obtain ⟨rv, zv, lv, rs, zs, ls⟩ := t
  obtain ⟨nm, xv, es⟩ := z
  dsimp only at e1 e3 e4 e5 e7 hin ce ca x0 x1 hii HTT ⊢
  subst e1 e3 e4 e5 e7
  generalize es.length = m at *
  generalize rs.length = n at *
  generalize zs.length = nz at *
  generalize ls.length = nl at *
  have CE := Lib.hid ce;have CA := Lib.hid ca;have hhr := Lib.hid ht.r
  clear ce ca hpz hfz ht hf hz hzz hzm d1 d2 hg hen hx ho
  have q3 : k < nz := by omega
  clear hin
  go_enter Tryz.func12, Tryz.ntmps12
  go_upto_region 1 with fail
  obtain ⟨w1, hw1⟩ : ∃ V, V = w.alloc (.cells #[.slice p n cap, .slice (some ⟨g1, o1, none⟩) nz capz, .slice pl nl capl] 26) := ⟨_, rfl⟩
  have b1 : Box w1 w.heap.size #[.slice p n cap, .slice (some ⟨g1, o1, none⟩) nz capz, .slice pl nl capl] 26 := by rw [hw1];exact Box.new _ _ _
  have hB1 : Below w.heap.size w w1 := by rw [hw1];exact bcq
  have hR : w1.heap.size = w.heap.size + 1 := by rw [hw1];simp
  rw [← hw1]
  clear hw1
  have HS := Lib.hid (fun (V : World) (h : Below w1.heap.size w1 V) => (⟨(b1.later h).cell, ((hB1.trans (h.mono hB1.size)).cell (p := ⟨g1, o1 + k * 2, none⟩) hg1).trans x0, ((hB1.trans (h.mono hB1.size)).cell (p := ⟨g1, o1 + k * 2 + 1, none⟩) hg1).trans x1, ((hB1.trans (h.mono hB1.size)).cell (p := ⟨g2, o2 + I * 13, none⟩) hg2).trans y0, ((hB1.trans (h.mono hB1.size)).cell (p := ⟨g2, o2 + I * 13 + 1, none⟩) hg2).trans y1, ((hB1.trans (h.mono hB1.size)).cell (p := ⟨g2, o2 + I * 13 + 2, none⟩) hg2).trans y2, ((hB1.trans (h.mono hB1.size)).cell (p := ⟨g2, o2 + I * 13 + 3, none⟩) hg2).trans y3, ((hB1.trans (h.mono hB1.size)).cell (p := ⟨g2, o2 + I * 13 + 4, none⟩) hg2).trans y4, ((hB1.trans (h.mono hB1.size)).cell (p := ⟨g2, o2 + I * 13 + 5, none⟩) hg2).trans y5, ((hB1.trans (h.mono hB1.size)).cell (p := ⟨g2, o2 + I * 13 + 6, none⟩) hg2).trans y6, ((hB1.trans (h.mono hB1.size)).cell (p := ⟨g2, o2 + I * 13 + 7, none⟩) hg2).trans y7, ((hB1.trans (h.mono hB1.size)).cell (p := ⟨g2, o2 + I * 13 + 8, none⟩) hg2).trans y8, ((hB1.trans (h.mono hB1.size)).cell (p := ⟨g2, o2 + I * 13 + 9, none⟩) hg2).trans y9, ((hB1.trans (h.mono hB1.size)).cell (p := ⟨g2, o2 + I * 13 + 10, none⟩) hg2).trans y10, ((hB1.trans (h.mono hB1.size)).cell (p := ⟨g2, o2 + I * 13 + 11, none⟩) hg2).trans y11, ((hB1.trans (h.mono hB1.size)).cell (p := ⟨g2, o2 + I * 13 + 12, none⟩) hg2).trans y12⟩ : (∀ j, V.cell? ⟨w.heap.size, j, none⟩ = (#[.slice p n cap, .slice (some ⟨g1, o1, none⟩) nz capz, .slice pl nl capl] : Array Value)[j]?) ∧ V.cell? ⟨g1, o1 + k * 2, none⟩ = some (.string nm) ∧ V.cell? ⟨g1, o1 + k * 2 + 1, none⟩ = some (.slice (some ⟨g2, o2, none⟩) m cc) ∧ V.cell? ⟨g2, o2 + I * 13, none⟩ = some (.int .i64 x.off) ∧ V.cell? ⟨g2, o2 + I * 13 + 1, none⟩ = some (.int .i64 x.kind) ∧ V.cell? ⟨g2, o2 + I * 13 + 2, none⟩ = some (.int .i64 x.save) ∧ V.cell? ⟨g2, o2 + I * 13 + 3, none⟩ = some (.string x.rules) ∧ V.cell? ⟨g2, o2 + I * 13 + 4, none⟩ = some (.string x.format) ∧ V.cell? ⟨g2, o2 + I * 13 + 5, none⟩ = some (.bool x.u.has) ∧ V.cell? ⟨g2, o2 + I * 13 + 6, none⟩ = some (.int .i64 x.u.year) ∧ V.cell? ⟨g2, o2 + I * 13 + 7, none⟩ = some (.int .i64 x.u.month) ∧ V.cell? ⟨g2, o2 + I * 13 + 8, none⟩ = some (.int .i64 x.u.kind) ∧ V.cell? ⟨g2, o2 + I * 13 + 9, none⟩ = some (.int .i64 x.u.week) ∧ V.cell? ⟨g2, o2 + I * 13 + 10, none⟩ = some (.int .i64 x.u.day) ∧ V.cell? ⟨g2, o2 + I * 13 + 11, none⟩ = some (.int .i64 x.u.sec) ∧ V.cell? ⟨g2, o2 + I * 13 + 12, none⟩ = some (.int .i64 x.u.base)))
  have HB1 := Lib.hid hB1
  clear x0 x1 hB1 y0 y1 y2 y3 y4 y5 y6 y7 y8 y9 y10 y11 y12
  obtain ⟨w2, hw2⟩ : ∃ V, V = w1.alloc (.cells #[.int .i64 0, .int .i64 0, .string ⟨#[]⟩] 33) := ⟨_, rfl⟩
  have b2 : Box w2 (w.heap.size + 1) #[.int .i64 0, .int .i64 0, .string ⟨#[]⟩] 33 := by rw [hw2, ← hR];exact Box.new _ _ _
  have hB2 : Below w1.heap.size w1 w2 := by rw [hw2];exact bcq
  rw [← hw2]
  clear hw2 b1
  have b2c := b2.cell
  obtain ⟨c1, _⟩ := HS.out w2 hB2
  go_upto_region 2 with (go_at_call 10;(with_reducible refine (CE.out _ ?_).mono ?_);(· exact HTT.out.later (HB1.out.trans (hB2.mono HB1.out.size)));rintro e w3 ⟨rfl, hb3⟩)
  have hB3 : Below w1.heap.size w1 w3 := bcq
  have b3 := b2.later hb3
  have hbn : w1.heap.size < w3.heap.size := by have := b3.lt;omega
  clear b2 c1 b2c hB2 hb3
  have SS := HS.out w3 hB3
  obtain ⟨c1, z0, z1, y0, y1, y2, y3, y4, y5, y6, y7, y8, y9, y10, y11, y12⟩ := SS
  go_upto_region 6 with fail
  have HB3 := Lib.hid b3
  clear b3
  go_region_held3 (fun w' => (∀ j, w'.cell? ⟨w.heap.size, j, none⟩ = (#[.slice p n cap, .slice (some ⟨g1, o1, none⟩) nz capz, .slice pl nl capl] : Array Value)[j]?) ∧ w'.cell? ⟨g1, o1 + k * 2, none⟩ = some (.string nm) ∧ w'.cell? ⟨g1, o1 + k * 2 + 1, none⟩ = some (.slice (some ⟨g2, o2, none⟩) m cc) ∧ w'.cell? ⟨g2, o2 + I * 13, none⟩ = some (.int .i64 x.off) ∧ w'.cell? ⟨g2, o2 + I * 13 + 1, none⟩ = some (.int .i64 x.kind) ∧ w'.cell? ⟨g2, o2 + I * 13 + 2, none⟩ = some (.int .i64 x.save) ∧ w'.cell? ⟨g2, o2 + I * 13 + 3, none⟩ = some (.string x.rules) ∧ w'.cell? ⟨g2, o2 + I * 13 + 4, none⟩ = some (.string x.format) ∧ w'.cell? ⟨g2, o2 + I * 13 + 5, none⟩ = some (.bool x.u.has) ∧ w'.cell? ⟨g2, o2 + I * 13 + 6, none⟩ = some (.int .i64 x.u.year) ∧ w'.cell? ⟨g2, o2 + I * 13 + 7, none⟩ = some (.int .i64 x.u.month) ∧ w'.cell? ⟨g2, o2 + I * 13 + 8, none⟩ = some (.int .i64 x.u.kind) ∧ w'.cell? ⟨g2, o2 + I * 13 + 9, none⟩ = some (.int .i64 x.u.week) ∧ w'.cell? ⟨g2, o2 + I * 13 + 10, none⟩ = some (.int .i64 x.u.day) ∧ w'.cell? ⟨g2, o2 + I * 13 + 11, none⟩ = some (.int .i64 x.u.sec) ∧ w'.cell? ⟨g2, o2 + I * 13 + 12, none⟩ = some (.int .i64 x.u.base)) ((refine HS.out _ ?_;exact bcq)) (first
    | (go_at_call 25;(with_reducible refine (CA.out _ ?_).mono ?_);(· exact hhr.out.later (HB1.out.trans (Below.mono bcq HB1.out.size)));rintro e w4 ⟨rfl, hb4⟩;have b4 := HB3.out.later (show Below w3.heap.size w3 w4 from bcq);have b4c := b4.cell;have b4f := b4.free;have b4l := b4.lt))
  have hB4 : Below w1.heap.size w1 w4 := bcq
  have hE := HB1.out.trans ((bset (bset (bset hB4 (n := w.heap.size + 1) (o := 0) (v := .int .i64 ao) (by omega)) (n := w.heap.size + 1) (o := 1) (v := .int .i64 av) (by omega)) (n := w.heap.size + 1) (o := 2) (v := .string aa) (by omega)).mono HB1.out.size)
  have HE := Lib.hid hE
  clear hE hB4 hB3 hb4
  go_wp2
  refine bodyPost_ret (v := .tuple #[.agg #[.int .i64 ao, .int .i64 av, .string aa], .int .i64 aw]) ?_ rfl ⟨rfl, HE.out⟩
  simp only [results, Tryz.results12]
  go_simp
end Pt
end Go.Proofs.YtecmipgpldcfcaaGreatDoor
namespace Go.Proofs.YtecmipgpldcfcaaGreatDoor
open Go.RowKit NB
namespace RdR
open Rd RWr
def Got (t : TabV) (W : World) (B p : Nat) (rv lv zv ev kv nv : Value) : Prop := ∃ (F : Nat) (zs1 : List ZoneV) (es : List RowN),
  P3 W B F p t.rs zs1 es t.ls (Ck.up (t.rs.length + Ck.sumE zs1) t.ls.length) rv lv zv ev kv nv ∧ Sm zs1 t.zs ∧ es.map RowN.ns = Ck.upE t.rs.length zs1
theorem zones_nil {t : TabV} (hf : Fine1 t) {zs : List ZoneV} (hz : ∀ z ∈ zs, z ∈ t.zs) (h : zs.flatMap zoneL = []) : zs = [] := by
  cases zs with
  | nil => rfl
  | cons z r =>
    obtain ⟨_, h0, _⟩ := zone_rights (hf.parts.2.1 z (hz z (by simp)))
    have := congrArg List.length h
    rw [List.flatMap_cons, List.length_append, zoneL_len, List.length_nil] at this
    omega
theorem St.fin {t : TabV} (hf : Fine1 t) {W : World} {B p k : Nat} {L : List Ln} (h : St t B p W k L) (hL : L = []) (hBW : B ≤ W.heap.size) : ∃ rv lv zv ev kv nv, Got t W B p rv lv zv ev kv nv := by
  cases h with
  | @a rs1 rs2 hP hr =>
    obtain ⟨h1, h2⟩ := List.append_eq_nil_iff.1 hL
    obtain ⟨h2, h3⟩ := List.append_eq_nil_iff.1 h2
    have h1 := List.map_eq_nil_iff.1 h1
    have h3 := List.map_eq_nil_iff.1 h3
    have hz := zones_nil hf (fun z h => h) h2
    subst h1
    rw [List.append_nil] at hr
    subst hr
    obtain ⟨rv, lv, hP2⟩ := hP.to2 hBW
    refine ⟨rv, lv, nilV, nilV, nilV, nilV, W.heap.size, [], [], ?_, ?_, rfl⟩
    · have := hP2.to3
      rw [h3]
      exact this
    · rw [hz];rfl
  | @b F zs0 zs1 zs2 z v ed more es y o rv lv zv ev hP hz hs he h0 ho ho2 hw hl =>
    obtain ⟨h1, h2⟩ := List.append_eq_nil_iff.1 hL
    obtain ⟨h2, h3⟩ := List.append_eq_nil_iff.1 h2
    have h1 := List.map_eq_nil_iff.1 h1
    have h3 := List.map_eq_nil_iff.1 h3
    have hz2 := zones_nil hf (fun x h => by rw [hz];simp [h]) h2
    have ho3 := ho2 h1
    subst h1
    subst hz2
    subst ho3
    rw [List.append_nil] at he
    refine ⟨rv, lv, zv, ev, nilV, nilV, W.heap.size, zs1 ++ [⟨z.name, v, ed⟩], es ++ [y], ?_, ?_, hw⟩
    · have := hP.to3
      rw [h3]
      exact this
    · rw [hz]
      exact hs.snoc rfl he.symm
  | @c F zs1 es ls1 ls2 ns rv lv zv ev kv nv hP hs hk hw hn =>
    have h1 := List.map_eq_nil_iff.1 hL
    subst h1
    rw [List.append_nil] at hk
    subst hk
    subst hn
    exact ⟨_, _, _, _, _, _, F, zs1, es, hP, hs, hw⟩
theorem P3.set {W : World} {B F p b j : Nat} {u : Value} {rs : List RuleV} {zs : List ZoneV} {es : List RowN} {ls : List LinkV} {ns : List Int} {rv lv zv ev kv nv : Value} (h : P3 W B F p rs zs es ls ns rv lv zv ev kv nv) (hb : b < B) (hp : p ≠ b) : P3 (W.setCell ⟨b, j, none⟩ u) B F p rs zs es ls ns rv lv zv ev kv nv :=
  have s : ∀ {B' : Nat} {e' : TypeId} {sz' : Nat} {v' : Value} {n' : Nat} {xs' : List Value}, W.ownsRow B' e' sz' v' n' xs' → B ≤ B' → (W.setCell ⟨b, j, none⟩ u).ownsRow B' e' sz' v' n' xs' := fun h hB => ownsRow_setCell_below (a := ⟨b, j, none⟩) h (by show b < _;omega) _
  ⟨h.box.other hp, s h.r (Nat.le_refl _), s h.l (Nat.le_refl _), h.lF, s h.z (Nat.le_refl _), s h.e (Nat.le_refl _), fun x hx => s (h.zf x hx) (Nat.le_refl _), fun x hx => ⟨s (h.ef x hx).1 (Nat.le_refl _), (h.ef x hx).2⟩, s h.k (Nat.le_refl _), s h.n h.bF, h.bF, by have := h.fW;simpa [World.setCell] using this⟩
theorem Got.set {t : TabV} {W : World} {B p b j : Nat} {u : Value} {rv lv zv ev kv nv : Value} (h : Got t W B p rv lv zv ev kv nv) (hb : b < B) (hp : p ≠ b) : Got t (W.setCell ⟨b, j, none⟩ u) B p rv lv zv ev kv nv := by
  obtain ⟨F, zs1, es, h1, h2, h3⟩ := h
  exact ⟨F, zs1, es, h1.set hb hp, h2, h3⟩
theorem Got.later {t : TabV} {W U : World} {B p : Nat} {rv lv zv ev kv nv : Value} (h : Got t W B p rv lv zv ev kv nv) (hb : Below W.heap.size W U) : Got t U B p rv lv zv ev kv nv := by
  obtain ⟨F, zs1, es, h1, h2, h3⟩ := h
  exact ⟨F, zs1, es, h1.later hb, h2, h3⟩
theorem Fr.belowB {B p : Nat} {V W U : World} (h : Fr B p W U) {n : Nat} (hb : Below n V W) (hn : n ≤ p) (hB : n ≤ B) : Below n V U :=
  ⟨h.os.trans hb.os, h.tape.trans hb.tape, h.output.trans hb.output, Nat.le_trans hb.size h.size, fun k hk => (h.block k (by omega) (by omega)).trans (hb.block k hk)⟩
theorem Fr.box {B p b : Nat} {W U : World} {cs : Array Value} {t : TypeId} (h : Fr B p W U) (hb : Box W b cs t) (hB : b < B) (hp : b ≠ p) : Box U b cs t := (h.block b hB hp).trans hb
theorem lines_right {t : TabV} (hf : Fine1 t) : ∀ x ∈ tabL t, x.right = true := fun x hx => by
  obtain ⟨h1, h2, h3⟩ := hf.parts
  rcases List.mem_append.1 hx with hx|hx
  · obtain ⟨r, hr, rfl⟩ := List.mem_map.1 hx
    exact h1 r hr
  · rcases List.mem_append.1 hx with hx|hx
    · obtain ⟨z, hz, hx⟩ := List.mem_flatMap.1 hx
      obtain ⟨g1, g2, g3⟩ := zone_rights (h2 z hz)
      unfold zoneL at hx
      cases he : z.es with
      | nil => rw [he] at hx;cases hx
      | cons e r =>
        rw [he] at hx g3
        rcases List.mem_cons.1 hx with rfl|hx
        · show (decide (Nam.nameE z.name = 0) && Er.rightB e) = true
          rw [g1, g3 e (by simp)];rfl
        · obtain ⟨e', he', rfl⟩ := List.mem_map.1 hx
          exact g3 e' (by simp [he'])
    · obtain ⟨l, hl, rfl⟩ := List.mem_map.1 hx
      exact h3 l hl
theorem zones_len {zs : List ZoneV} (h : ∀ z ∈ zs, z.es.length ≤ 12) : (zs.flatMap zoneL).length ≤ 12 * zs.length := by
  induction zs with
  | nil => simp
  | cons z r ih =>
    have h1 := h z (by simp)
    have h2 := ih (fun x hx => h x (by simp [hx]))
    rw [List.flatMap_cons, List.length_append, zoneL_len, List.length_cons]
    omega
theorem lines_few {t : TabV} (hf : Fine1 t) : (tabL t).length ≤ 148 := by
  have := zones_len hf.l4
  have h1 := hf.l1;have h2 := hf.l2;have h3 := hf.l3
  unfold tabL
  rw [List.length_append, List.length_append, List.length_map, List.length_map]
  omega
set_option maxRecDepth 100000 in
set_option maxHeartbeats 6400000 in
theorem Table {t : TabV} (hf : Fine1 t) (W : World) : Calls Tryz.prog 70 #[.string (ofL (srcB (tabL t)))] W fun e w' => ∃ (B p : Nat) (rv lv zv ev kv nv : Value),
    e = .returned (.tuple #[.agg #[rv, zv, kv], .agg #[lv, ev, nv], .agg #[.int .i64 0, .int .i64 0]]) ∧ Got t w' B p rv lv zv ev kv nv ∧ Below W.heap.size W w' := by
  have hlr := lines_right hf
  have hlf := lines_few hf
  have hls := lines_src hlr
  have hsz : (ofL (srcB (tabL t))).size ≤ 100000 := by
    rw [ofL_size]
    have := src_len hlr
    omega
  have cO := fun X => RLi.Of (ofL (srcB (tabL t))) (by omega) X
  rw [hls] at cO
  generalize ofL (srcB (tabL t)) = S at *
  obtain ⟨L, hL⟩ : ∃ L, L = tabL t := ⟨_, rfl⟩
  rw [← hL] at cO hlf
  have CO := Lib.hid cO;have HL := Lib.hid hL
  clear cO hls hlr hL
  go_enter Tryz.func70, Tryz.ntmps70
  go_upto_region 4 with fail
  obtain ⟨w1, hw1⟩ : ∃ V, V = (((W.alloc (.cells #[nilV, nilV, nilV] 26)).alloc (.cells #[nilV, nilV, nilV] 126)).alloc (.cells #[.int .i64 0, .int .i64 0] 92)).alloc (.cells #[nilV, nilV, nilV, nilV, nilV, nilV, .int .i64 0] 161) := ⟨_, rfl⟩
  have a0 : Box w1 W.heap.size #[nilV, nilV, nilV] 26 := by rw [hw1];exact (((Box.new W _ _).old).old).old
  have a1 : Box w1 (W.heap.size + 1) #[nilV, nilV, nilV] 126 := by
    have := (Box.new (W.alloc (.cells #[nilV, nilV, nilV] 26)) #[nilV, nilV, nilV] 126)
    rw [World.size_alloc] at this
    rw [hw1];exact (this.old).old
  have a2 : Box w1 (W.heap.size + 1 + 1) #[.int .i64 0, .int .i64 0] 92 := by
    have := (Box.new ((W.alloc (.cells #[nilV, nilV, nilV] 26)).alloc (.cells #[nilV, nilV, nilV] 126)) #[.int .i64 0, .int .i64 0] 92)
    rw [World.size_alloc, World.size_alloc] at this
    rw [hw1];exact this.old
  have a3 : Box w1 (W.heap.size + 1 + 1 + 1) #[nilV, nilV, nilV, nilV, nilV, nilV, .int .i64 0] 161 := by
    have := (Box.new (((W.alloc (.cells #[nilV, nilV, nilV] 26)).alloc (.cells #[nilV, nilV, nilV] 126)).alloc (.cells #[.int .i64 0, .int .i64 0] 92)) #[nilV, nilV, nilV, nilV, nilV, nilV, .int .i64 0] 161)
    rw [World.size_alloc, World.size_alloc, World.size_alloc] at this
    rw [hw1];exact this
  have hbw1 : Below W.heap.size W w1 := by rw [hw1];exact bcq
  rw [← hw1]
  clear hw1
  go_wp2_with (go_at_call 116;refine (CO.out _).mono ?_;rintro e w2 ⟨v2, rfl, hown2, hb2⟩;obtain ⟨q, c, hv2, hpk⟩ := (HoldsS.of_own hown2).pk1;subst hv2;have HPK := Lib.hid hpk;clear hpk)
  obtain ⟨p, hp⟩ : ∃ p, p = W.heap.size + 1 + 1 + 1 := ⟨_, rfl⟩
  rw [← hp]
  rw [← hp] at a3
  obtain ⟨n, hn⟩ : ∃ n, n = L.length := ⟨_, rfl⟩
  have hlt2 := fun g (hg : (Value.slice q (L.map fun x => ofL x.bytes).length c).ownBlock = some g) => hown2.lt g hg
  rw [List.length_map, ← hn] at hlt2
  rw [← hn] at hlf ⊢
  have HN := Lib.hid hn;have HLT := Lib.hid hlt2
  have hP0 : P1 w2 w2.heap.size p [] := ⟨nilV, nilV, a3.later hb2, World.ownsRow_nil _ _ _ _, World.ownsRow_nil _ _ _ _⟩
  have hSt0 : St t w2.heap.size p w2 0 L := by
    have := St.a (t := t) (rs1 := []) (rs2 := t.rs) hP0 rfl
    rw [HL.out]
    exact this
  have hs2 := hb2.size
  have lp1 := a3.lt
  have hpB : p < w2.heap.size := by omega
  have d0 := a0.later hb2
  have d1 := a1.later hb2
  have d2 := a2.later hb2
  have hbw2 : Below W.heap.size W w2 := hbw1.trans (hb2.mono hbw1.size)
  have HP := Lib.hid hp
  clear hn hp hlt2 hown2 hP0 a0 a1 a2 a3 hb2
  go_loopw [18] (fun i wr => ∃ k : Nat, i = .int .i64 k ∧ k ≤ n ∧ Fr w2.heap.size p w2 wr ∧ Hid (St t w2.heap.size p wr k (L.drop k))) (fun i _ => n - (intOf i).toNat)
  case atStart => exact ⟨0, rfl, Nat.zero_le _, Fr.refl _ _ _, hSt0⟩
  case round =>
    obtain ⟨k, rfl, hk, hfr, HS⟩ := hrel
    by_cases hlt : k < n
    · obtain ⟨x, hx⟩ : ∃ x, L[k]? = some x := ⟨_, List.getElem?_eq_getElem (by rw [← HN.out];exact hlt)⟩
      obtain ⟨g, o, rfl, hg, d⟩ := HPK.out k (ofL x.bytes) (by rw [List.getElem?_map, hx];rfl)
      have hg1 := (HLT.out g rfl).1
      have d := (World.cell?_of_block (a := ⟨g, o + k, none⟩) (hfr.block g hg (by omega))).trans d
      have hdk : L.drop k = x :: L.drop (k + 1) := by
        have hl2 : k < L.length := by rw [← HN.out];exact hlt
        rw [List.drop_eq_getElem_cons hl2]
        congr 1
        rw [List.getElem?_eq_getElem hl2] at hx
        exact Option.some.inj hx
      have hst := HS.out
      rw [hdk] at hst
      have cs := step hf hpB hfr.size (by omega) hst
      have CS := Lib.hid cs
      have q1 : (k : Int) < (n : Int) := by omega
      clear hx hdk hst cs
      go_wp2_with (go_at_call 117;refine CS.out.mono ?_;rintro e w4 ⟨rfl, hst, hfr4⟩;have HST := Lib.hid hst;clear hst)
      go_roundw
      case rel => exact ⟨k + 1, by go_num, by omega, hfr.trans hfr4, HST.out⟩
      case measure => simp [intOf];omega
    · obtain rfl : k = n := by omega
      obtain ⟨rv, lv, zv, ev, kv, nv, hG⟩ := St.fin hf HS.out (List.drop_eq_nil_of_le (by rw [← HN.out];exact Nat.le_refl _)) hfr.size
      obtain ⟨F, zs1, es1, h3, _⟩ := id hG
      obtain ⟨qr, cr, rfl⟩ := own_f h3.r
      obtain ⟨ql, cl, rfl⟩ := own_f h3.l
      obtain ⟨qz, cz, rfl⟩ := own_f h3.z
      obtain ⟨qe, ce, rfl⟩ := own_f h3.e
      obtain ⟨qk, ck, rfl⟩ := own_f h3.k
      obtain ⟨qn, cn, rfl⟩ := own_f h3.n
      have HG := Lib.hid hG
      have bp := h3.box
      have hp := HP.out
      have e0 := hfr.box d0 (by omega) (by omega)
      have e1 := hfr.box d1 (by omega) (by omega)
      have e2 := hfr.box d2 (by omega) (by omega)
      have hbe := hfr.belowB hbw2 (by omega) (by omega)
      have cp := bp.cell;have lp := bp.lt
      have c0 := e0.cell;have c1 := e1.cell;have c2 := e2.cell
      have f0 := e0.free;have f1 := e1.free;have f2 := e2.free
      have l0 := e0.lt;have l1 := e1.lt;have l2 := e2.lt
      have n0 : p ≠ W.heap.size := by omega
      have n1 : p ≠ W.heap.size + 1 := by omega
      have n2 : p ≠ W.heap.size + 1 + 1 := by omega
      clear hG h3 HS hp hSt0 hfr d0 d1 d2
      go_upto_region 13 with fail
      go_region
      have hp := HP.out
      have hG1 := ((((((((HG.out.set (j := 0) (u := .slice qr t.rs.length cr) (by omega) n0).set (j := 1) (u := .slice qz zs1.length cz) (by omega) n0).set (j := 2) (u := .slice qk t.ls.length ck) (by omega) n0).set (j := 0) (u := .slice ql t.rs.length cl) (by omega) n1).set (j := 1) (u := .slice qe es1.length ce) (by omega) n1).set (j := 2) (u := .slice qn t.ls.length cn) (by omega) n1).set (j := 0) (u := .int .i64 0) (by omega) n2).set (j := 1) (u := .int .i64 0) (by omega) n2).later (bd (Below.refl _ _))
      have hb1 := bd (bset (bset (bset (bset (bset (bset (bset (bset hbe (n := W.heap.size) (o := 0) (v := .slice qr t.rs.length cr) (by omega)) (n := W.heap.size) (o := 1) (v := .slice qz zs1.length cz) (by omega)) (n := W.heap.size) (o := 2) (v := .slice qk t.ls.length ck) (by omega)) (n := W.heap.size + 1) (o := 0) (v := .slice ql t.rs.length cl) (by omega)) (n := W.heap.size + 1) (o := 1) (v := .slice qe es1.length ce) (by omega)) (n := W.heap.size + 1) (o := 2) (v := .slice qn t.ls.length cn) (by omega)) (n := W.heap.size + 1 + 1) (o := 0) (v := .int .i64 0) (by omega)) (n := W.heap.size + 1 + 1) (o := 1) (v := .int .i64 0) (by omega))
      have HF := Lib.hid (And.intro hG1 hb1)
      clear hG1 hb1 hp bp e0 e1 e2 cp hbe
      go_wp2
      refine bodyPost_ret (v := .tuple #[.agg #[.slice qr t.rs.length cr, .slice qz zs1.length cz, .slice qk t.ls.length ck], .agg #[.slice ql t.rs.length cl, .slice qe es1.length ce, .slice qn t.ls.length cn], .agg #[.int .i64 0, .int .i64 0]]) ?_ rfl ⟨w2.heap.size, p, .slice qr t.rs.length cr, .slice ql t.rs.length cl, .slice qz zs1.length cz, .slice qe es1.length ce, .slice qk t.ls.length ck, .slice qn t.ls.length cn, rfl, HF.out.1, HF.out.2⟩
      · simp only [results, Tryz.results70]
        go_simp
end RdR
end Go.Proofs.YtecmipgpldcfcaaGreatDoor
