import Derived.Test.YtecmipgpldcfcaaGreatDoorG26
import Derived.Test.YtecmipgpldcfcaaGreatDoorG27
import Derived.Test.YtecmipgpldcfcaaGreatDoorG14
import Derived.Test.YtecmipgpldcfcaaGreatDoorG15
import Derived.Test.YtecmipgpldcfcaaGreatDoorG13
import Derived.Test.YtecmipgpldcfcaaGreatDoorG4
import Derived.Test.YtecmipgpldcfcaaGreatDoorG3
import Derived.Test.YtecmipgpldcfcaaGreatDoorG23
import Derived.Test.YtecmipgpldcfcaaGreatDoorG5
namespace Go.Proofs.YtecmipgpldcfcaaGreatDoor
open Go.RowKit NB
namespace RdR
open Rd RWr
def Sm (a b : List ZoneV) : Prop := a.map (fun z => (z.name, z.es)) = b.map (fun z => (z.name, z.es))
theorem Sm.snoc {a b : List ZoneV} {x y : ZoneV} (h : Sm a b) (h1 : x.name = y.name) (h2 : x.es = y.es) : Sm (a ++ [x]) (b ++ [y]) := by
  unfold Sm at *
  rw [List.map_append, List.map_append, h]
  simp [h1, h2]
theorem Sm.len {a b : List ZoneV} (h : Sm a b) : a.length = b.length := by
  have := congrArg List.length h
  simpa using this
inductive St (t : TabV) (B p : Nat) : World → Nat → List Ln → Prop where
  | a {W : World} {rs1 rs2 : List RuleV} (hP : P1 W B p rs1) (hr : t.rs = rs1 ++ rs2) : St t B p W rs1.length (rs2.map .rule ++ (t.zs.flatMap zoneL ++ t.ls.map .link))
  | b {W : World} {F : Nat} {zs0 zs1 zs2 : List ZoneV} {z : ZoneV} {v : Value} {ed more : List EraV} {es : List RowN} {y : RowN} {o : Int} {rv lv zv ev : Value} (hP : P2 W B F p t.rs (zs1 ++ [⟨z.name, v, ed⟩]) (es ++ [y]) o rv lv zv ev)
      (hz : t.zs = zs0 ++ z :: zs2) (hs : Sm zs1 zs0) (he : z.es = ed ++ more) (h0 : ed ≠ []) (ho : more ≠ [] → 0 < o) (ho2 : more = [] → o = 0) (hw : (es ++ [y]).map RowN.ns = Ck.upE t.rs.length (zs1 ++ [⟨z.name, v, ed⟩])) (hl : es.length = zs1.length) :
      St t B p W (t.rs.length + Ck.sumE (zs1 ++ [⟨z.name, v, ed⟩])) (more.map .more ++ (zs2.flatMap zoneL ++ t.ls.map .link))
  | c {W : World} {F : Nat} {zs1 : List ZoneV} {es : List RowN} {ls1 ls2 : List LinkV} {ns : List Int} {rv lv zv ev kv nv : Value} (hP : P3 W B F p t.rs zs1 es ls1 ns rv lv zv ev kv nv) (hs : Sm zs1 t.zs) (hk : t.ls = ls1 ++ ls2)
      (hw : es.map RowN.ns = Ck.upE t.rs.length zs1) (hn : ns = Ck.up (t.rs.length + Ck.sumE zs1) ls1.length) : St t B p W (t.rs.length + Ck.sumE zs1 + ls1.length) (ls2.map .link)
structure Fine1 (t : TabV) : Prop where
  r : rightT t = true
  rf : ∀ r ∈ t.rs, r.Fit
  lf : ∀ l ∈ t.ls, l.Fit
  l1 : t.rs.length ≤ 12
  l2 : t.zs.length ≤ 10
  l3 : t.ls.length ≤ 16
  l4 : ∀ z ∈ t.zs, z.es.length ≤ 12
theorem Fine1.parts {t : TabV} (h : Fine1 t) : (∀ r ∈ t.rs, Rul.right r = true) ∧ (∀ z ∈ t.zs, zoneOk z = true) ∧ (∀ l ∈ t.ls, rightK l = true) := by
  have := h.r
  unfold rightT at this
  rw [Bool.and_eq_true, Bool.and_eq_true, List.all_eq_true, List.all_eq_true, List.all_eq_true] at this
  exact this
abbrev Post (t : TabV) (B p : Nat) (W : World) (k : Nat) (rest : List Ln) (e : Ending) (w' : World) : Prop := e = .returned (.int .i64 0) ∧ St t B p w' (k + 1) rest ∧ Fr B p W w'
theorem has_of {z : ZoneV} (h : zoneOk z = true) {ed more : List EraV} {e : EraV} (he : z.es = ed ++ e :: more) : e.u.has = decide (more ≠ []) := by
  unfold zoneOk at h
  rw [Bool.and_eq_true] at h
  obtain ⟨_, h1⟩ := Zn.zone_iff.1 h.2
  have hat : z.es[ed.length]? = some e := by rw [he];simp
  have := h1 ed.length e (List.getElem?_eq_some_iff.1 hat).1 hat
  unfold Zn.okAt at this
  have := (Bool.and_eq_true_iff.1 this).2
  rw [beq_iff_eq] at this
  dsimp only at this
  rw [this]
  have hlen : z.es.length = ed.length + (more.length + 1) := by rw [he];simp
  rw [hlen]
  cases more with
  | nil => simp
  | cons a b => simp
theorem stepZone {t : TabV} (hf : Fine1 t) {W : World} {B F p : Nat} {zs0 zs1 zs2 : List ZoneV} {z : ZoneV} {es : List RowN} {rv lv zv ev : Value} (hP : P2 W B F p t.rs zs1 es 0 rv lv zv ev) (hpB : p < B) (hz : t.zs = zs0 ++ z :: zs2) (hs : Sm zs1 zs0)
    (hw : es.map RowN.ns = Ck.upE t.rs.length zs1) (hl : es.length = zs1.length) {k : Nat} (hk : k = t.rs.length + Ck.sumE zs1) (hk2 : k ≤ 100000) {e : EraV} {more : List EraV} (he : z.es = e :: more) :
    Calls Tryz.prog 117 #[.pointer (some ⟨p, 0, none⟩), .string (ofL (Ln.zone z.name e).bytes), .int .i64 ((k : Int) + 1)] W (Post t B p W k (more.map .more ++ (zs2.flatMap zoneL ++ t.ls.map .link))) := by
  obtain ⟨_, hzo, _⟩ := hf.parts
  have hzm : z ∈ t.zs := by rw [hz];simp
  obtain ⟨rn, _, re⟩ := zone_rights (hzo z hzm)
  have hz0 : zs1.length ≤ 100 := by
    have h1 := hf.l2
    rw [hz, List.length_append] at h1
    have := hs.len
    omega
  refine (lineZone hP hpB hl hz0 z.name rn e (re e (by rw [he];simp)) ((k : Int) + 1) (by omega) (by omega) _ rfl).mono ?_
  rintro y w' ⟨rfl, ⟨F', v', u', zv', ev', h9⟩, hfr⟩
  refine ⟨rfl, ?_, hfr⟩
  have hh := has_of (hzo z hzm) (ed := []) (e := e) (more := more) he
  have := St.b (t := t) (more := more) (ed := [e]) h9 hz hs (by rw [he];rfl) (by simp) (fun h => by rw [hh, decide_eq_true h, if_pos rfl];omega) (fun h => by rw [hh, h];rfl) (by
    rw [List.map_append, hw, Ck.upE_snoc]
    congr 1
    show [[(k : Int) + 1]] = [Ck.up (t.rs.length + Ck.sumE zs1) 1]
    rw [← hk, Ck.up_succ, Ck.up_zero]
    rfl) hl
  have hs2 := Ck.sumE_snoc zs1 (⟨z.name, v', [e]⟩ : ZoneV)
  have e1 : k + 1 = t.rs.length + Ck.sumE (zs1 ++ [(⟨z.name, v', [e]⟩ : ZoneV)]) := by rw [hs2, hk];rfl
  rw [e1]
  exact this
theorem stepLink {t : TabV} (hf : Fine1 t) {W : World} {B F p : Nat} {zs1 : List ZoneV} {es : List RowN} {ls1 ls2 : List LinkV} {ns : List Int} {rv lv zv ev kv nv : Value} {x : LinkV} (hP : P3 W B F p t.rs zs1 es ls1 ns rv lv zv ev kv nv) (hpB : p < B) (hs : Sm zs1 t.zs) (hx : t.ls = ls1 ++ x :: ls2)
    (hw : es.map RowN.ns = Ck.upE t.rs.length zs1) (hn : ns = Ck.up (t.rs.length + Ck.sumE zs1) ls1.length) {k : Nat} (hk : k = t.rs.length + Ck.sumE zs1 + ls1.length) :
    Calls Tryz.prog 117 #[.pointer (some ⟨p, 0, none⟩), .string (ofL (Ln.link x).bytes), .int .i64 ((k : Int) + 1)] W (Post t B p W k (ls2.map .link)) := by
  obtain ⟨_, _, hlo⟩ := hf.parts
  have hxm : x ∈ t.ls := by rw [hx];simp
  have hl1 : ls1.length ≤ 1000 := by
    have h1 := hf.l3
    rw [hx, List.length_append] at h1
    omega
  refine (lineLink hP hpB hl1 x (hf.lf x hxm) (hlo x hxm) ((k : Int) + 1)).mono ?_
  rintro y w' ⟨rfl, ⟨kv', nv', h9⟩, hfr⟩
  refine ⟨rfl, ?_, hfr⟩
  have := St.c (t := t) (ls2 := ls2) h9 hs (by rw [hx];simp) hw (by
    rw [hn, List.length_append, List.length_singleton, Ck.up_succ, hk]
    rfl)
  have e1 : k + 1 = t.rs.length + Ck.sumE zs1 + (ls1 ++ [x]).length := by rw [hk, List.length_append];rfl
  rw [e1]
  exact this
theorem step {t : TabV} (hf : Fine1 t) {W : World} {B p k : Nat} {x : Ln} {rest : List Ln} (hpB : p < B) (hBW : B ≤ W.heap.size) (hk : k ≤ 100000) (h : St t B p W k (x :: rest)) :
    Calls Tryz.prog 117 #[.pointer (some ⟨p, 0, none⟩), .string (ofL x.bytes), .int .i64 ((k : Int) + 1)] W (Post t B p W k rest) := by
  obtain ⟨hro, hzo, hlo⟩ := hf.parts
  have zone_next : ∀ {F : Nat} {zs0 zs1 : List ZoneV} {es : List RowN} {rv lv zv ev : Value} {zs2 : List ZoneV}, P2 W B F p t.rs zs1 es 0 rv lv zv ev → t.zs = zs0 ++ zs2 → Sm zs1 zs0 → es.map RowN.ns = Ck.upE t.rs.length zs1 → es.length = zs1.length → k = t.rs.length + Ck.sumE zs1 → x :: rest = zs2.flatMap zoneL ++ t.ls.map .link →
      Calls Tryz.prog 117 #[.pointer (some ⟨p, 0, none⟩), .string (ofL x.bytes), .int .i64 ((k : Int) + 1)] W (Post t B p W k rest) := by
    intro F zs0 zs1 es rv lv zv ev zs2 hP hz hs hw hl hk2 hL
    cases zs2 with
    | nil =>
      rw [List.flatMap_nil, List.nil_append] at hL
      rw [List.append_nil] at hz
      cases hls : t.ls with
      | nil => rw [hls] at hL;cases hL
      | cons l ls2 =>
        rw [hls, List.map_cons] at hL
        cases hL
        have hs' : Sm zs1 t.zs := by rw [hz];exact hs
        exact stepLink hf (hP.to3) hpB hs' (ls1 := []) (ls2 := ls2) (by rw [hls];rfl) hw rfl hk2
    | cons z zs2 =>
      have hzm : z ∈ t.zs := by rw [hz];simp
      obtain ⟨_, h0, _⟩ := zone_rights (hzo z hzm)
      cases he : z.es with
      | nil => rw [he] at h0;cases h0
      | cons e more =>
        have hzl : zoneL z = .zone z.name e :: more.map .more := by unfold zoneL;rw [he]
        rw [List.flatMap_cons, hzl, List.cons_append, List.cons_append, List.append_assoc] at hL
        cases hL
        exact stepZone hf hP hpB hz hs hw hl hk2 hk he
  generalize hL : x :: rest = L at h
  cases h with
  | @a rs1 rs2 hP hr =>
    cases rs2 with
    | nil =>
      rw [List.append_nil] at hr
      subst hr
      obtain ⟨rv, lv, h2⟩ := hP.to2 hBW
      exact zone_next (zs0 := []) h2 rfl rfl rfl rfl rfl hL
    | cons r rs2 =>
      rw [List.map_cons, List.cons_append] at hL
      cases hL
      have hrm : r ∈ t.rs := by rw [hr];simp
      have hl1 : rs1.length ≤ 1000 := by
        have h1 := hf.l1
        rw [hr, List.length_append] at h1
        omega
      refine (lineRule hP hpB hBW hl1 r (hf.rf r hrm) (hro r hrm)).mono ?_
      rintro y w' ⟨rfl, h9, hfr⟩
      refine ⟨rfl, ?_, hfr⟩
      have := St.a (t := t) (rs2 := rs2) h9 (by rw [hr];simp)
      rw [List.length_append, List.length_singleton] at this
      exact this
  | @b F zs0 zs1 zs2 z v ed more es y o rv lv zv ev hP hz hs he h0 ho ho2 hw hl =>
    cases more with
    | nil =>
      rw [List.map_nil, List.nil_append] at hL
      have ho3 := ho2 rfl
      subst ho3
      rw [List.append_nil] at he
      refine zone_next (zs0 := zs0 ++ [z]) (zs2 := zs2) hP (by rw [hz];simp) (hs.snoc rfl he.symm) hw (by rw [List.length_append, List.length_append, hl];rfl) rfl hL
    | cons e more =>
      rw [List.map_cons, List.cons_append] at hL
      cases hL
      have hzm : z ∈ t.zs := by rw [hz];simp
      obtain ⟨_, _, re⟩ := zone_rights (hzo z hzm)
      have hl4 := hf.l4 z hzm
      have hed : ed.length + (more.length + 1) = z.es.length := by rw [he];simp
      have hz0 : zs1.length ≤ 1000 := by
        have h1 := hf.l2
        rw [hz, List.length_append] at h1
        have := hs.len
        omega
      have hy : y.ns = Ck.up (t.rs.length + Ck.sumE zs1) ed.length := by
        rw [List.map_append, Ck.upE_snoc] at hw
        have := List.append_inj_right' hw (by simp)
        simpa using this
      refine (lineMore hP hpB (ho (by simp)) hz0 (by omega) (by show ed.length ≤ 100;omega) (by rw [hy, Ck.up_len];omega) e (re e (by rw [he];simp)) (((t.rs.length + Ck.sumE (zs1 ++ [(⟨z.name, v, ed⟩ : ZoneV)]) : Nat) : Int) + 1) (by omega) (by omega) _ rfl).mono ?_
      rintro y' w' ⟨rfl, ⟨v', u', h9⟩, hfr⟩
      refine ⟨rfl, ?_, hfr⟩
      have hh := has_of (hzo z hzm) he
      have hsum := Ck.sumE_snoc zs1 (⟨z.name, v, ed⟩ : ZoneV)
      have hsum2 := Ck.sumE_snoc zs1 (⟨z.name, v', ed ++ [e]⟩ : ZoneV)
      have hlen2 : (⟨z.name, v', ed ++ [e]⟩ : ZoneV).es.length = ed.length + 1 := by simp
      have hlen1 : (⟨z.name, v, ed⟩ : ZoneV).es.length = ed.length := rfl
      have := St.b (t := t) (z := z) (more := more) (ed := ed ++ [e]) h9 hz hs (by rw [he];simp) (by simp) (fun h => by rw [hh, decide_eq_true h, if_pos rfl];omega) (fun h => by rw [hh, h];rfl) (by
        rw [List.map_append, Ck.upE_snoc, hlen2, Ck.up_succ]
        rw [List.map_append, Ck.upE_snoc] at hw
        have h1 := List.append_inj_left' hw (by simp)
        rw [h1]
        congr 1
        show [y.ns ++ [_]] = _
        rw [hy, hsum, hlen1]
        congr 3
        omega) hl
      have e1 : t.rs.length + Ck.sumE (zs1 ++ [(⟨z.name, v, ed⟩ : ZoneV)]) + 1 = t.rs.length + Ck.sumE (zs1 ++ [(⟨z.name, v', ed ++ [e]⟩ : ZoneV)]) := by rw [hsum, hsum2, hlen1, hlen2];omega
      rw [e1]
      exact this
  | @c F zs1 es ls1 ls2 ns rv lv zv ev kv nv hP hs hk2 hw hn =>
    cases ls2 with
    | nil => cases hL
    | cons l ls2 =>
      rw [List.map_cons] at hL
      cases hL
      exact stepLink hf hP hpB hs hk2 hw hn rfl
end RdR
end Go.Proofs.YtecmipgpldcfcaaGreatDoor
namespace Go.Proofs.YtecmipgpldcfcaaGreatDoor
open Go.RowKit NB
namespace Ck
def bare (z : ZoneV) : ZoneV := ⟨z.name, .slice none 0 0, z.es⟩
theorem sm_bare {a b : List ZoneV} (h : RdR.Sm a b) : a.map bare = b.map bare := by
  have e : ∀ l : List ZoneV, l.map bare = (l.map (fun z => (z.name, z.es))).map (fun p => (⟨p.1, .slice none 0 0, p.2⟩ : ZoneV)) := fun l => by rw [List.map_map];rfl
  rw [e, e, h]
theorem whereB_bare (n : Nat) (zs : List ZoneV) (k : Nat) (rs : List Int) (es : List (List Int)) (ls : List Int) : whereB n (zs.map bare) k rs es ls = whereB n zs k rs es ls := by
  unfold whereB
  rw [List.length_map, List.zip_map_left, List.all_map]
  rfl
theorem zoneFs_bare (l : List RuleV) (zs : List ZoneV) (ns : List (List Int)) : zoneFs l (zs.map bare) ns = zoneFs l zs ns := by
  unfold zoneFs
  rw [List.zipIdx_map, List.flatMap_map]
  congr 1
  funext p
  obtain ⟨z, i⟩ := p
  show eraFs l (((zs.map bare).take i).map ZoneV.name) _ _ _ = _
  rw [← List.map_take, List.map_map]
  rfl
theorem chk_bare (l : List RuleV) (zs : List ZoneV) (ls : List LinkV) (rs : List Int) (es : List (List Int)) (ns : List Int) : chk l (zs.map bare) ls rs es ns = chk l zs ls rs es ns := by
  unfold chk all
  rw [whereB_bare, zoneFs_bare, List.map_map]
  rfl
theorem chk_sm {a b : List ZoneV} (h : RdR.Sm a b) (l : List RuleV) (ls : List LinkV) (rs : List Int) (es : List (List Int)) (ns : List Int) : chk l a ls rs es ns = chk l b ls rs es ns := by
  rw [← chk_bare l a, sm_bare h, chk_bare]
theorem sumE_bare : ∀ zs : List ZoneV, sumE (zs.map bare) = sumE zs
  | [] => rfl
  | z :: r => by
    show z.es.length + sumE (r.map bare) = z.es.length + sumE r
    rw [sumE_bare r]
theorem upE_bare : ∀ (m : Nat) (zs : List ZoneV), upE m (zs.map bare) = upE m zs
  | _, [] => rfl
  | m, z :: r => by
    show up m z.es.length :: upE (m + z.es.length) (r.map bare) = up m z.es.length :: upE (m + z.es.length) r
    rw [upE_bare]
noncomputable def wrong (t : TabV) : Fault := chk t.rs t.zs t.ls (up 0 t.rs.length) (upE t.rs.length t.zs) (up (t.rs.length + sumE t.zs) t.ls.length)
theorem wrong_sm {t : TabV} {a : List ZoneV} (h : RdR.Sm a t.zs) : chk t.rs a t.ls (up 0 t.rs.length) (upE t.rs.length a) (up (t.rs.length + sumE a) t.ls.length) = wrong t := by
  unfold wrong
  rw [chk_sm h, ← upE_bare _ a, ← sumE_bare a, sm_bare h, upE_bare, sumE_bare]
noncomputable def fitsT (t : TabV) : Bool := Eqs.lightT t && (RWr.rightT t && decide ((wrong t).2 = 0))
theorem light_parts {t : TabV} (h : Eqs.lightT t = true) : Lgt.light t.rs = true ∧ t.zs.length ≤ 10 ∧ t.ls.length ≤ 16 ∧ (∀ z ∈ t.zs, Zn.lightZ z.name z.es = true) ∧ ∀ l ∈ t.ls, Eqs.lightK l = true := by
  unfold Eqs.lightT at h
  simp only [Bool.and_eq_true, decide_eq_true_eq, List.all_eq_true] at h
  obtain ⟨h1, h2, h3, h4, h5⟩ := h
  exact ⟨h1, h2, h3, h4, h5⟩
theorem fits_parts {t : TabV} (h : fitsT t = true) : Eqs.lightT t = true ∧ RWr.rightT t = true ∧ (wrong t).2 = 0 := by
  unfold fitsT at h
  simp only [Bool.and_eq_true, decide_eq_true_eq] at h
  exact h
theorem fits_fine {t : TabV} (h : fitsT t = true) : Fine t.rs t.zs t.ls := fine (fits_parts h).2.2
end Ck
end Go.Proofs.YtecmipgpldcfcaaGreatDoor
namespace Go.Proofs.YtecmipgpldcfcaaGreatDoor
open Go.RowKit NB
namespace Pt
def lo : Int := -1096193779200
def hi : Int := 971890963199
def idx (L : List Int) (t : Int) : Nat := L.findIdx fun e => decide (t < e)
theorem idx_cons (a : Int) (r : List Int) (t : Int) : idx (a :: r) t = if t < a then 0 else idx r t + 1 := by
  unfold idx
  rw [List.findIdx_cons]
  by_cases h : t < a <;> simp [h]
theorem idx_le (L : List Int) (t : Int) : idx L t ≤ L.length := List.findIdx_le_length
theorem idx_of : ∀ {L : List Int} {t : Int} {i : Nat}, i ≤ L.length → (∀ s, L[i]? = some s → t < s) → (∀ j s, j < i → L[j]? = some s → s ≤ t) → idx L t = i
  | [], t, i, h, _, _ => by simp only [List.length_nil, Nat.le_zero] at h;subst h;rfl
  | a :: r, t, 0, _, h1, _ => by rw [idx_cons, if_pos (h1 a (by simp))]
  | a :: r, t, i + 1, h, h1, h2 => by
    have := h2 0 a (by omega) (by simp)
    rw [idx_cons, if_neg (by omega), idx_of (L := r) (i := i) (by simpa using h) (fun s hs => h1 s (by simpa using hs)) (fun j s hj hs => h2 (j + 1) s (by omega) (by simpa using hs))]
structure GoodE (l : List RuleV) (es : List EraV) : Prop where
  zone : Zn.zoneB es = true
  sort : (Zn.endsL l es).Pairwise (· < ·)
theorem pair_of {L : List Int} (h : ∀ i s q, L[i + 1]? = some s → L[i]? = some q → q < s) : L.Pairwise (· < ·) := by
  induction L with
  | nil => exact List.Pairwise.nil
  | cons a r ih =>
    have hr := ih (fun i s q h1 h2 => h (i + 1) s q (by simpa using h1) (by simpa using h2))
    refine List.pairwise_cons.2 ⟨fun s hs => ?_, hr⟩
    cases r with
    | nil => cases hs
    | cons b r =>
      have hab := h 0 b a (by simp) (by simp)
      rcases List.mem_cons.1 hs with rfl|hs
      · exact hab
      · have := (List.pairwise_cons.1 hr).1 s hs
        omega
theorem good_of {l : List RuleV} {es : List EraV} (h : Unt.checkU l es = (-1, 0)) : GoodE l es := by
  cases hz : Zn.zoneB es
  · rw [(Unt.check_form hz).1] at h
    exact absurd h (by decide)
  · obtain ⟨_, _, hc⟩ := Unt.check_zone (l := l) hz
    rcases hc with ⟨_, hb⟩|⟨j, s, e, hs, _⟩
    · refine ⟨hz, pair_of fun i s q h1 h2 => ?_⟩
      have hi := (List.getElem?_eq_some_iff.1 h1).1
      have := hb (i + 1) hi
      unfold Unt.badAt at this
      rw [h1] at this
      simp only [Nat.zero_lt_succ, if_true, Nat.add_sub_cancel, h2, Option.getD_some] at this
      by_cases hle : s ≤ q
      · rw [if_pos hle] at this;exact absurd this (by decide)
      · omega
    · rw [e] at h
      have := (Prod.mk.inj h).1
      omega
def zoneAt (t : TabV) (zone : Int) : Option ZoneV := if 0 ≤ zone then t.zs[zone.toNat]? else none
def eraV (t : TabV) (zone at' : Int) : Int × Int := match zoneAt t zone with
  | none => (0, 12)
  | some z => if at' < lo ∨ hi < at' then (0, 1) else (idx (Zn.endsL t.rs z.es) at', 0)
noncomputable def valV (t : TabV) (zone at' : Int) : ValV × Int := match zoneAt t zone with
  | none => (⟨0, 0, ⟨#[]⟩⟩, 12)
  | some z => if at' < lo ∨ hi < at' then (⟨0, 0, ⟨#[]⟩⟩, 1) else match z.es[idx (Zn.endsL t.rs z.es) at']? with
    | none => (⟨0, 0, ⟨#[]⟩⟩, 4)
    | some e => Frc.atV t.rs e at'
theorem zone_mem {t : TabV} {zone : Int} {z : ZoneV} (h : zoneAt t zone = some z) : 0 ≤ zone ∧ zone < t.zs.length ∧ t.zs[zone.toNat]? = some z ∧ z ∈ t.zs := by
  unfold zoneAt at h
  by_cases h0 : 0 ≤ zone
  · rw [if_pos h0] at h
    have := (List.getElem?_eq_some_iff.1 h).1
    exact ⟨h0, by omega, h, List.mem_of_getElem? h⟩
  · rw [if_neg h0] at h;cases h
theorem zone_none {t : TabV} {zone : Int} (h : zone < 0 ∨ (t.zs.length : Int) ≤ zone) : zoneAt t zone = none := by
  unfold zoneAt
  by_cases h0 : 0 ≤ zone
  · rw [if_pos h0]
    exact List.getElem?_eq_none (by omega)
  · rw [if_neg h0]
theorem zone_some {t : TabV} {zone : Int} (h0 : 0 ≤ zone) (h1 : zone < t.zs.length) : ∃ z, zoneAt t zone = some z ∧ t.zs[zone.toNat]? = some z := by
  refine ⟨t.zs[zone.toNat]'(by omega), ?_, by simp⟩
  unfold zoneAt
  rw [if_pos h0]
  simp
def GoodT (t : TabV) : Prop := ∀ z ∈ t.zs, GoodE t.rs z.es
theorem fits_good {t : TabV} (h : Ck.fitsT t = true) : GoodT t := fun z hz => good_of ((Ck.fits_fine h).eras z hz)
theorem era_in {l : List RuleV} {es : List EraV} (h : GoodE l es) (s : Int) : idx (Zn.endsL l es) s < es.length := by
  have := Unt.ends_len (l := l) h.zone
  have := idx_le (Zn.endsL l es) s
  omega
def zeroV : ValV := ⟨0, 0, ⟨#[]⟩⟩
theorem val_none {t : TabV} {zone : Int} (s : Int) (h : zoneAt t zone = none) : valV t zone s = (zeroV, 12) ∧ eraV t zone s = (0, 12) := by
  unfold valV eraV
  rw [h]
  exact ⟨rfl, rfl⟩
theorem val_out {t : TabV} {zone s : Int} {z : ZoneV} (h : zoneAt t zone = some z) (ho : s < lo ∨ hi < s) : valV t zone s = (zeroV, 1) ∧ eraV t zone s = (0, 1) := by
  unfold valV eraV
  rw [h]
  simp only
  rw [if_pos ho, if_pos ho]
  exact ⟨rfl, rfl⟩
theorem val_in {t : TabV} {zone s : Int} {z : ZoneV} (h : zoneAt t zone = some z) (h0 : lo ≤ s) (h1 : s ≤ hi) {e : EraV} (he : z.es[idx (Zn.endsL t.rs z.es) s]? = some e) : valV t zone s = Frc.atV t.rs e s ∧ eraV t zone s = (((idx (Zn.endsL t.rs z.es) s : Nat) : Int), 0) := by
  unfold valV eraV
  rw [h]
  simp only
  rw [if_neg (by omega), if_neg (by omega), he]
  exact ⟨rfl, rfl⟩
end Pt
end Go.Proofs.YtecmipgpldcfcaaGreatDoor
namespace Go.Proofs.YtecmipgpldcfcaaGreatDoor
open Go.RowKit NB
namespace Us
def us0 : RuleV := ⟨⟨#[85, 83]⟩, 2007, 32767, 3, 2, 0, 8, 7200, 0, 3600, ⟨#[68]⟩⟩
def us1 : RuleV := ⟨⟨#[85, 83]⟩, 2007, 32767, 11, 2, 0, 1, 7200, 0, 0, ⟨#[83]⟩⟩
def eu : RuleV := ⟨⟨#[69, 85]⟩, 1981, 32767, 3, 1, 0, 0, 3600, 2, 3600, ⟨#[83]⟩⟩
theorem Us (w : World) : Calls Tryz.prog 41 #[] w fun e w' => e = .returned (.slice (some ⟨w.heap.size, 0, none⟩) 2 2) ∧ w' = w.alloc (.cells (us0.cells ++ us1.cells).toArray 104) := by
  unfold us0 us1 RuleV.cells
  go_enter Tryz.func41, Tryz.ntmps41
  go_wp2
  go_ret
  exact ⟨rfl, rfl⟩
def zero : RuleV := ⟨⟨#[]⟩, 0, 0, 0, 0, 0, 0, 0, 0, 0, ⟨#[]⟩⟩
def enn : RuleV := ⟨⟨#[69, 85]⟩, 1981, 32767, 4, 0, 0, 1, 3600, 2, 3600, ⟨#[83]⟩⟩
def emm : RuleV := ⟨⟨#[69, 85]⟩, 1992, 32767, 4, 0, 0, 1, 3600, 2, 3600, ⟨#[83]⟩⟩
def eoo : RuleV := ⟨⟨#[69, 85]⟩, 1981, 1990, 3, 1, 0, 0, 3600, 2, 3600, ⟨#[83]⟩⟩
theorem fit_us0 : us0.Fit := ⟨by decide, by decide, by unfold I64;decide, by unfold I64;decide, by unfold I64;decide, by unfold I64;decide⟩
theorem fit_us1 : us1.Fit := ⟨by decide, by decide, by unfold I64;decide, by unfold I64;decide, by unfold I64;decide, by unfold I64;decide⟩
end Us
end Go.Proofs.YtecmipgpldcfcaaGreatDoor
namespace Go.Proofs.YtecmipgpldcfcaaGreatDoor
open Go.RowKit
namespace L33
open Frc
def eE : EraV := ⟨-18000, 2, 0, ⟨#[85, 83]⟩, ⟨#[69, 37, 115, 84]⟩, ⟨false, 0, 0, 0, 0, 0, 0, 0⟩⟩
theorem fit_eE : eE.Fit := ⟨by decide, by decide, by unfold I64;decide, by unfold I64;decide, by unfold I64;decide, by unfold I64;decide⟩
def eC : EraV := ⟨3600, 1, 3600, ⟨#[]⟩, ⟨#[37, 122]⟩, ⟨false, 0, 0, 0, 0, 0, 0, 0⟩⟩
def eZ : EraV := ⟨0, 0, 0, ⟨#[]⟩, ⟨#[]⟩, ⟨false, 0, 0, 0, 0, 0, 0, 0⟩⟩
def eX : EraV := ⟨0, 0, 0, ⟨#[]⟩, ⟨#[88]⟩, ⟨false, 0, 0, 0, 0, 0, 0, 0⟩⟩
theorem lp1 : lastP [Us.us0, Us.us1] eE 1719792000 = some ⟨0, 2024, 1710036000⟩ := by
  unfold lastP Chn.lastO
  rw [if_pos (by decide +kernel), show Occ.prevO [Us.us0, Us.us1] eE.rules ⟨-1, 0, Chn.clampE 1719792000 + 64800 + 1⟩ = some ⟨0, 2024, 1710036000⟩ by decide +kernel]
  exact Occ.pick_here (by decide +kernel)
theorem lp0 : lastP [Us.us0, Us.us1] eE 0 = none := by
  unfold lastP Chn.lastO
  rw [if_pos (by decide +kernel), show Occ.prevO [Us.us0, Us.us1] eE.rules ⟨-1, 0, Chn.clampE 0 + 64800 + 1⟩ = none by decide +kernel]
  exact Occ.pick_none
theorem s1 : stateV [Us.us0, Us.us1] eE 1719792000 = ⟨-14400, 3600, ⟨#[69, 68, 84]⟩⟩ := by
  unfold stateV
  rw [lp1]
  decide +kernel
theorem s0 : stateV [Us.us0, Us.us1] eE 0 = ⟨-18000, 0, ⟨#[69, 83, 84]⟩⟩ := by
  unfold stateV
  rw [lp0]
  decide +kernel
theorem a1 : atV [Us.us0, Us.us1] eE 1719792000 = (⟨-14400, 3600, ⟨#[69, 68, 84]⟩⟩, 0) := by
  unfold atV
  rw [if_pos (by decide +kernel), if_pos (by decide +kernel), s1]
theorem a0 : atV [Us.us0, Us.us1] eE 0 = (⟨-18000, 0, ⟨#[69, 83, 84]⟩⟩, 0) := by
  unfold atV
  rw [if_pos (by decide +kernel), if_pos (by decide +kernel), s0]
theorem n1 : nextV [Us.us0, Us.us1] eE 1719792000 = (1730613600, true) := by
  unfold nextV nextF
  rw [if_pos (by decide +kernel), s1, lp1]
  decide +kernel
theorem p1 : prevV [Us.us0, Us.us1] eE 1719792000 = (1710054000, true) := by
  unfold prevV prevF
  rw [if_pos (by decide +kernel), s1, lp1]
  decide +kernel
theorem n0 : nextV [Us.us0, Us.us1] eE 0 = (1173596400, true) := by
  unfold nextV nextF
  rw [if_pos (by decide +kernel), s0, lp0]
  decide +kernel
theorem p0 : prevV [Us.us0, Us.us1] eE 0 = (0, false) := by
  unfold prevV prevF
  rw [if_pos (by decide +kernel), lp0]
  rfl
theorem nx : nextV [Us.us0, Us.us1] eX 0 = (0, false) := by
  unfold nextV
  rw [if_neg (by decide +kernel)]
end L33
end Go.Proofs.YtecmipgpldcfcaaGreatDoor
namespace Go.Proofs.YtecmipgpldcfcaaGreatDoor
open Go.RowKit
namespace L34
open Pt
def eA : EraV := ⟨3600, 0, 0, ⟨#[]⟩, ⟨#[88]⟩, ⟨true, 1950, 1, 0, 0, 1, 0, 0⟩⟩
theorem fit_eA : eA.Fit := ⟨by decide, by decide, by unfold I64;decide, by unfold I64;decide, by unfold I64;decide, by unfold I64;decide⟩
def eB : EraV := ⟨7200, 0, 0, ⟨#[]⟩, ⟨#[89]⟩, ⟨false, 0, 0, 0, 0, 0, 0, 0⟩⟩
theorem fit_eB : eB.Fit := ⟨by decide, by decide, by unfold I64;decide, by unfold I64;decide, by unfold I64;decide, by unfold I64;decide⟩
def zA (v : Value) : ZoneV := ⟨⟨#[65]⟩, v, [eA, eB]⟩
def zE (v : Value) : ZoneV := ⟨⟨#[69]⟩, v, [L33.eE]⟩
def two (rv zv va ve : Value) : TabV := ⟨rv, zv, .slice none 0 0, [Us.us0, Us.us1], [zA va, zE ve], []⟩
theorem endsA : Zn.endsL [Us.us0, Us.us1] [eA, eB] = [-631155600] := by decide +kernel
theorem endsE : Zn.endsL [Us.us0, Us.us1] [L33.eE] = [] := by decide +kernel
theorem goodA : GoodE [Us.us0, Us.us1] [eA, eB] := ⟨by decide +kernel, by rw [endsA];exact List.pairwise_singleton _ _⟩
theorem goodE : GoodE [Us.us0, Us.us1] [L33.eE] := ⟨by decide +kernel, by rw [endsE];exact List.Pairwise.nil⟩
section
variable (rv zv va ve : Value)
theorem good : GoodT (two rv zv va ve) := by
  intro z hz
  rcases List.mem_cons.1 hz with rfl|hz
  · exact goodA
  · rcases List.mem_cons.1 hz with rfl|hz
    · exact goodE
    · cases hz
theorem aA : Frc.atV [Us.us0, Us.us1] eA (-631155601) = (⟨3600, 0, ⟨#[88]⟩⟩, 0) := by
  unfold Frc.atV
  rw [if_pos (by decide +kernel), if_neg (by decide +kernel), show Frc.valR eA eA.save ⟨#[]⟩ = ⟨3600, 0, ⟨#[88]⟩⟩ by decide +kernel]
theorem aB : Frc.atV [Us.us0, Us.us1] eB (-631155600) = (⟨7200, 0, ⟨#[89]⟩⟩, 0) := by
  unfold Frc.atV
  rw [if_pos (by decide +kernel), if_neg (by decide +kernel), show Frc.valR eB eB.save ⟨#[]⟩ = ⟨7200, 0, ⟨#[89]⟩⟩ by decide +kernel]
theorem v1 : valV (two rv zv va ve) 0 (-631155601) = (⟨3600, 0, ⟨#[88]⟩⟩, 0) := by
  rw [(val_in (t := two rv zv va ve) (zone := 0) (z := zA va) rfl (by decide) (by decide) (e := eA) (by show [eA, eB][idx (Zn.endsL [Us.us0, Us.us1] [eA, eB]) (-631155601)]? = some eA;rw [endsA];rfl)).1]
  exact aA
theorem v2 : valV (two rv zv va ve) 0 (-631155600) = (⟨7200, 0, ⟨#[89]⟩⟩, 0) := by
  rw [(val_in (t := two rv zv va ve) (zone := 0) (z := zA va) rfl (by decide) (by decide) (e := eB) (by show [eA, eB][idx (Zn.endsL [Us.us0, Us.us1] [eA, eB]) (-631155600)]? = some eB;rw [endsA];rfl)).1]
  exact aB
theorem v3 : valV (two rv zv va ve) 1 1719792000 = (⟨-14400, 3600, ⟨#[69, 68, 84]⟩⟩, 0) := by
  rw [(val_in (t := two rv zv va ve) (zone := 1) (z := zE ve) rfl (by decide) (by decide) (e := L33.eE) (by show [L33.eE][idx (Zn.endsL [Us.us0, Us.us1] [L33.eE]) 1719792000]? = some L33.eE;rw [endsE];rfl)).1]
  exact L33.a1
theorem v4 : valV (two rv zv va ve) 2 0 = (zeroV, 12) := (val_none (t := two rv zv va ve) (zone := 2) 0 rfl).1
theorem v5 : valV (two rv zv va ve) (-1) 971890963200 = (zeroV, 12) := (val_none (t := two rv zv va ve) (zone := -1) 971890963200 rfl).1
theorem v6 : valV (two rv zv va ve) 0 971890963200 = (zeroV, 1) := (val_out (t := two rv zv va ve) (zone := 0) (z := zA va) rfl (by decide)).1
theorem v7 : valV (two rv zv va ve) 0 (-1096193779201) = (zeroV, 1) := (val_out (t := two rv zv va ve) (zone := 0) (z := zA va) rfl (by decide)).1
theorem e8 : eraV (two rv zv va ve) 0 (-631155601) = (0, 0) := by
  rw [(val_in (t := two rv zv va ve) (zone := 0) (z := zA va) rfl (by decide) (by decide) (e := eA) (by show [eA, eB][idx (Zn.endsL [Us.us0, Us.us1] [eA, eB]) (-631155601)]? = some eA;rw [endsA];rfl)).2]
  show ((idx (Zn.endsL [Us.us0, Us.us1] [eA, eB]) (-631155601) : Int), (0 : Int)) = (0, 0)
  rw [endsA];rfl
theorem e9 : eraV (two rv zv va ve) 0 971890963199 = (1, 0) := by
  rw [(val_in (t := two rv zv va ve) (zone := 0) (z := zA va) rfl (by decide) (by decide) (e := eB) (by show [eA, eB][idx (Zn.endsL [Us.us0, Us.us1] [eA, eB]) 971890963199]? = some eB;rw [endsA];rfl)).2]
  show ((idx (Zn.endsL [Us.us0, Us.us1] [eA, eB]) 971890963199 : Int), (0 : Int)) = (1, 0)
  rw [endsA];rfl
end
end L34
end Go.Proofs.YtecmipgpldcfcaaGreatDoor
namespace Go.Proofs.YtecmipgpldcfcaaGreatDoor
open Go.RowKit NB
namespace Pt
theorem isNaN64 (x : Int) (w : World) : Calls Tryz.prog 44 #[.int .i64 x] w fun e w' => e = .returned (.bool false) ∧ w = w' := by
  go_enter Tryz.func44, Tryz.ntmps44
  go_wp2
  go_ret
  exact ⟨ret_bool (by simp), rfl⟩
theorem less64 (x y : Int) (w : World) : Calls Tryz.prog 43 #[.int .i64 x, .int .i64 y] w fun e w' => e = .returned (.bool (decide (x < y))) ∧ w = w' := by
  by_cases h : x < y
  · rw [decide_eq_true h]
    go_enter Tryz.func43, Tryz.ntmps43
    go_wp2_with (go_at_call 72;(with_reducible refine (Cmp.NaN64 _ _).mono ?_);rintro e w' ⟨rfl, rfl⟩)
    go_ret
    exact ⟨ret_bool (by simp), rfl⟩
  · rw [decide_eq_false h]
    go_enter Tryz.func43, Tryz.ntmps43
    go_wp2_with (go_at_call 72;(with_reducible refine (Cmp.NaN64 _ _).mono ?_);rintro e w' ⟨rfl, rfl⟩)
    go_ret
    exact ⟨ret_bool (by simp [h]), rfl⟩
set_option maxRecDepth 100000 in
set_option maxHeartbeats 3200000 in
theorem search {w : World} {v : Value} {L : List Int} (h : HoldsG 1 intC w v L) (hn : L.length ≤ 100000) (ho : L.Pairwise (· < ·)) (t : Int) :
    Calls Tryz.prog 23 #[v, .int .i64 (t + 1)] w fun e w' => (∃ u : Value, e = .returned (.tuple #[.int .i64 (idx L t), u])) ∧ w = w' := by
  obtain ⟨p, cap, rfl, hp⟩ := HoldsG.pkI h
  obtain ⟨n, hnn⟩ : ∃ n, n = L.length := ⟨_, rfl⟩
  obtain ⟨q, hq⟩ : ∃ q, q = t + 1 := ⟨_, rfl⟩
  rw [← hnn] at hn ⊢
  obtain ⟨I, hI⟩ : ∃ I, I = idx L t := ⟨_, rfl⟩
  rw [← hq, ← hI]
  have HI := Lib.hid hI
  have HP := Lib.hid hp
  have HO := Lib.hid (List.pairwise_iff_getElem.1 ho)
  have HN := Lib.hid hnn
  have HQ := Lib.hid hq
  clear h hp ho hnn hq hI
  go_enter Tryz.func23, Tryz.ntmps23
  go_wp2
  go_loop [7, 8] (fun i j => ∃ lo hi : Nat, i = .int .i64 lo ∧ j = .int .i64 hi ∧ lo ≤ hi ∧ hi ≤ n ∧ Hid (∀ m x, m < lo → L[m]? = some x → x < q) ∧ Hid (∀ m x, hi ≤ m → L[m]? = some x → q ≤ x)) (fun i j => (intOf j).toNat - (intOf i).toNat)
  case atStart => exact ⟨0, n, rfl, rfl, Nat.zero_le _, Nat.le_refl _, fun m x hm => absurd hm (Nat.not_lt_zero _), fun m x hm hx => by have := (List.getElem?_eq_some_iff.1 hx).1;rw [← HN.out] at this;omega⟩
  case round =>
    obtain ⟨lo, hi, rfl, rfl, hlh, hhn, I1, I2⟩ := hrel
    by_cases hlt : lo < hi
    · have hk : (lo + hi) / 2 < L.length := by rw [← HN.out];omega
      obtain ⟨x, hx⟩ : ∃ x, L[(lo + hi) / 2]? = some x := ⟨_, List.getElem?_eq_getElem hk⟩
      obtain ⟨b, off, rfl, hb, c0⟩ := HP.out _ x hx
      have HX := Lib.hid hx
      have hb1 : (lo : Int) < (hi : Int) := by omega
      have hb2 : (0 : Int) ≤ (lo : Int) + (hi : Int) := by omega
      have hb3 : (lo + hi) / 2 < n := by omega
      clear hx hk
      by_cases hxt : x < q
      · have cl := less64 x q
        rw [decide_eq_true hxt] at cl
        go_wp2_with (go_at_call 43;(with_reducible refine (cl _).mono ?_);rintro e w' ⟨rfl, rfl⟩)
        go_round
        case rel =>
          refine ⟨(lo + hi) / 2 + 1, hi, by go_num, rfl, by omega, hhn, fun m y hm hy => ?_, I2⟩
          by_cases hmm : m = (lo + hi) / 2
          · subst hmm
            rw [HX.out] at hy
            cases hy
            exact hxt
          · obtain ⟨h1, e1⟩ := List.getElem?_eq_some_iff.1 hy
            obtain ⟨h2, e2⟩ := List.getElem?_eq_some_iff.1 HX.out
            have := HO.out m _ h1 h2 (by omega)
            omega
        case measure => simp [intOf];omega
      · have cl := less64 x q
        rw [decide_eq_false hxt] at cl
        go_wp2_with (go_at_call 43;(with_reducible refine (cl _).mono ?_);rintro e w' ⟨rfl, rfl⟩)
        go_round
        case rel =>
          refine ⟨lo, (lo + hi) / 2, rfl, by go_num, by omega, by omega, I1, fun m y hm hy => ?_⟩
          by_cases hmm : m = (lo + hi) / 2
          · subst hmm
            rw [HX.out] at hy
            cases hy
            omega
          · obtain ⟨h1, e1⟩ := List.getElem?_eq_some_iff.1 hy
            obtain ⟨h2, e2⟩ := List.getElem?_eq_some_iff.1 HX.out
            have := HO.out _ m h2 h1 (by omega)
            omega
        case measure => simp [intOf];omega
    · obtain rfl : lo = hi := by omega
      have hp : I = lo := HI.out.trans <| idx_of (by rw [← HN.out];exact hhn) (fun x hx => by have := I2.out lo x (Nat.le_refl _) hx;rw [HQ.out] at this;omega) (fun m x hm hx => by have := I1.out m x hm hx;rw [HQ.out] at this;omega)
      subst hp
      by_cases hln : I < n
      · obtain ⟨x, hx⟩ : ∃ x, L[I]? = some x := ⟨_, List.getElem?_eq_getElem (by rw [← HN.out];exact hln)⟩
        obtain ⟨b, off, rfl, hb, c0⟩ := HP.out _ x hx
        have hb5 : (I : Int) < (n : Int) := by omega
        have cn := isNaN64 x
        clear hx
        by_cases hxq : x = q
        · subst hxq
          go_wp2_with (go_at_call 44;(with_reducible refine (cn _).mono ?_);rintro e w' ⟨rfl, rfl⟩)
          go_ret2
          exact ⟨⟨_, rfl⟩, rfl⟩
        · have hq2 : (x == q) = false := by rw [beq_eq_false_iff_ne];exact hxq
          go_wp2_with (go_at_call 44;(with_reducible refine (cn _).mono ?_);rintro e w' ⟨rfl, rfl⟩)
          go_ret2
          exact ⟨⟨_, rfl⟩, rfl⟩
      · go_wp2
        go_ret2
        exact ⟨⟨_, rfl⟩, rfl⟩
end Pt
end Go.Proofs.YtecmipgpldcfcaaGreatDoor
