/-
  noontideref24.SameZone and Same: are two zones, or tables, one?
-/
import Derived.Test.YtcfmchpoclkpgaaPk
import Derived.Test.YtcfmchpoclkpgaaEqS
namespace Go.Proofs.Ytcfmchpoclkpgaa
open Go.RowKit NB
namespace Eqs
def eqK (x y : LinkV) : Bool := decide (x = y)
theorem eqlKL (a0 b0 : ByteArray) (a1 b1 : ByteArray) (w : World) : (binOp .eql 58 (.agg #[.string a0, .string a1]) (.agg #[.string b0, .string b1])).run Try.prog w = .ok (.bool (eqK ⟨a0, a1⟩ ⟨b0, b1⟩)) w := eqlK ⟨a0, a1⟩ ⟨b0, b1⟩ w
theorem neqKL (a0 b0 : ByteArray) (a1 b1 : ByteArray) (w : World) : (binOp .neq 58 (.agg #[.string a0, .string a1]) (.agg #[.string b0, .string b1])).run Try.prog w = .ok (.bool (!eqK ⟨a0, a1⟩ ⟨b0, b1⟩)) w := neqK ⟨a0, a1⟩ ⟨b0, b1⟩ w
def eqR (x y : RuleV) : Bool := decide (x = y)
theorem eqlRL (a0 b0 : ByteArray) (a1 b1 : Int) (a2 b2 : Int) (a3 b3 : Int) (a4 b4 : Int) (a5 b5 : Int) (a6 b6 : Int) (a7 b7 : Int) (a8 b8 : Int) (a9 b9 : Int) (a10 b10 : ByteArray) (w : World) : (binOp .eql 68 (.agg #[.string a0, .int .i64 a1, .int .i64 a2, .int .i64 a3, .int .i64 a4, .int .i64 a5, .int .i64 a6, .int .i64 a7, .int .i64 a8, .int .i64 a9, .string a10]) (.agg #[.string b0, .int .i64 b1, .int .i64 b2, .int .i64 b3, .int .i64 b4, .int .i64 b5, .int .i64 b6, .int .i64 b7, .int .i64 b8, .int .i64 b9, .string b10])).run Try.prog w = .ok (.bool (eqR ⟨a0, a1, a2, a3, a4, a5, a6, a7, a8, a9, a10⟩ ⟨b0, b1, b2, b3, b4, b5, b6, b7, b8, b9, b10⟩)) w := eqlR ⟨a0, a1, a2, a3, a4, a5, a6, a7, a8, a9, a10⟩ ⟨b0, b1, b2, b3, b4, b5, b6, b7, b8, b9, b10⟩ w
theorem neqRL (a0 b0 : ByteArray) (a1 b1 : Int) (a2 b2 : Int) (a3 b3 : Int) (a4 b4 : Int) (a5 b5 : Int) (a6 b6 : Int) (a7 b7 : Int) (a8 b8 : Int) (a9 b9 : Int) (a10 b10 : ByteArray) (w : World) : (binOp .neq 68 (.agg #[.string a0, .int .i64 a1, .int .i64 a2, .int .i64 a3, .int .i64 a4, .int .i64 a5, .int .i64 a6, .int .i64 a7, .int .i64 a8, .int .i64 a9, .string a10]) (.agg #[.string b0, .int .i64 b1, .int .i64 b2, .int .i64 b3, .int .i64 b4, .int .i64 b5, .int .i64 b6, .int .i64 b7, .int .i64 b8, .int .i64 b9, .string b10])).run Try.prog w = .ok (.bool (!eqR ⟨a0, a1, a2, a3, a4, a5, a6, a7, a8, a9, a10⟩ ⟨b0, b1, b2, b3, b4, b5, b6, b7, b8, b9, b10⟩)) w := neqR ⟨a0, a1, a2, a3, a4, a5, a6, a7, a8, a9, a10⟩ ⟨b0, b1, b2, b3, b4, b5, b6, b7, b8, b9, b10⟩ w
def eqE (x y : EraV) : Bool := decide (x = y)
theorem eqlEL (a0 b0 : Int) (a1 b1 : Int) (a2 b2 : Int) (a3 b3 : ByteArray) (a4 b4 : ByteArray) (a5 b5 : Bool) (a6 b6 : Int) (a7 b7 : Int) (a8 b8 : Int) (a9 b9 : Int) (a10 b10 : Int) (a11 b11 : Int) (a12 b12 : Int) (w : World) : (binOp .eql 92 (.agg #[.int .i64 a0, .int .i64 a1, .int .i64 a2, .string a3, .string a4, .bool a5, .int .i64 a6, .int .i64 a7, .int .i64 a8, .int .i64 a9, .int .i64 a10, .int .i64 a11, .int .i64 a12]) (.agg #[.int .i64 b0, .int .i64 b1, .int .i64 b2, .string b3, .string b4, .bool b5, .int .i64 b6, .int .i64 b7, .int .i64 b8, .int .i64 b9, .int .i64 b10, .int .i64 b11, .int .i64 b12])).run Try.prog w = .ok (.bool (eqE ⟨a0, a1, a2, a3, a4, ⟨a5, a6, a7, a8, a9, a10, a11, a12⟩⟩ ⟨b0, b1, b2, b3, b4, ⟨b5, b6, b7, b8, b9, b10, b11, b12⟩⟩)) w := eqlE ⟨a0, a1, a2, a3, a4, ⟨a5, a6, a7, a8, a9, a10, a11, a12⟩⟩ ⟨b0, b1, b2, b3, b4, ⟨b5, b6, b7, b8, b9, b10, b11, b12⟩⟩ w
theorem neqEL (a0 b0 : Int) (a1 b1 : Int) (a2 b2 : Int) (a3 b3 : ByteArray) (a4 b4 : ByteArray) (a5 b5 : Bool) (a6 b6 : Int) (a7 b7 : Int) (a8 b8 : Int) (a9 b9 : Int) (a10 b10 : Int) (a11 b11 : Int) (a12 b12 : Int) (w : World) : (binOp .neq 92 (.agg #[.int .i64 a0, .int .i64 a1, .int .i64 a2, .string a3, .string a4, .bool a5, .int .i64 a6, .int .i64 a7, .int .i64 a8, .int .i64 a9, .int .i64 a10, .int .i64 a11, .int .i64 a12]) (.agg #[.int .i64 b0, .int .i64 b1, .int .i64 b2, .string b3, .string b4, .bool b5, .int .i64 b6, .int .i64 b7, .int .i64 b8, .int .i64 b9, .int .i64 b10, .int .i64 b11, .int .i64 b12])).run Try.prog w = .ok (.bool (!eqE ⟨a0, a1, a2, a3, a4, ⟨a5, a6, a7, a8, a9, a10, a11, a12⟩⟩ ⟨b0, b1, b2, b3, b4, ⟨b5, b6, b7, b8, b9, b10, b11, b12⟩⟩)) w := neqE ⟨a0, a1, a2, a3, a4, ⟨a5, a6, a7, a8, a9, a10, a11, a12⟩⟩ ⟨b0, b1, b2, b3, b4, ⟨b5, b6, b7, b8, b9, b10, b11, b12⟩⟩ w
attribute [local go_sem ↓] eqlKL neqKL eqlRL neqRL eqlEL neqEL
/-- what a zone says -/
def zd (z : ZoneV) : ByteArray × List EraV := (z.name, z.es)
set_option maxRecDepth 100000 in
set_option maxHeartbeats 3200000 in
theorem SameZone {w : World} {x y : ZoneV} (hx : x.Fit w) (hy : y.Fit w) :
    Calls Try.prog 41 #[.agg #[.string x.name, x.v], .agg #[.string y.name, y.v]] w fun e w' => e = .returned (.bool (decide (zd x = zd y))) ∧ Below w.heap.size w w' := by
  obtain ⟨a, va, es⟩ := x
  obtain ⟨b, vb, fs⟩ := y
  dsimp only at hx hy ⊢
  obtain ⟨p, cap, e1, hp⟩ := hx.e.g.pk
  obtain ⟨q, cap', e2, hq⟩ := hy.e.g.pk
  dsimp only at e1 e2 hp hq
  subst e1 e2
  have l1 := hx.e.len
  have l2 := hy.e.len
  dsimp only at l1 l2
  clear hx hy
  by_cases hab : a = b
  · have hs := str_eq hab
    by_cases hlen : es.length = fs.length
    · obtain ⟨n, hn⟩ : ∃ n, n = es.length := ⟨_, rfl⟩
      rw [← hlen] at l2 ⊢
      rw [← hn] at l1 l2 ⊢
      have HN := Lib.hid hn; have HL := Lib.hid hlen; have HP := Lib.hid hp; have HQ := Lib.hid hq; have HAB := Lib.hid hab
      clear hn hlen hp hq hab
      go_enter Try.func41, Try.ntmps41
      go_wp2
      have b2 := Box.old (o := .cells #[.string b, .slice q n cap'] 56) (Box.new w #[.string a, .slice p n cap] 56)
      have b3 := boxU0 w (.cells #[.string a, .slice p n cap] 56) #[.string b, .slice q n cap'] 56
      obtain ⟨w1, hw1⟩ : ∃ w1, w1 = (w.alloc (.cells #[.string a, .slice p n cap] 56)).alloc (.cells #[.string b, .slice q n cap'] 56) := ⟨_, rfl⟩
      rw [← hw1] at b2 b3 ⊢
      have hb1 : Below w.heap.size w w1 := by rw [hw1]; repeat (first | (with_reducible exact Below.refl _ _) | (with_reducible assumption) | (with_reducible refine ba ?_) | (with_reducible refine bd ?_) | (with_reducible refine bdn ?_ _) | (with_reducible refine bset ?_ (by first | exact Nat.le_refl _ | omega | (simp; done) | (simp; omega))) | (with_reducible refine bt ?_ (by with_reducible assumption)))
      clear hw1
      go_loopw [23, 5] (fun i j wr => ∃ k : Nat, i = .int .i64 k ∧ k ≤ n ∧ Below w1.heap.size w1 wr ∧ Hid (∀ j x y, j < k → es[j]? = some x → fs[j]? = some y → x = y)) (fun i _ _ => n - (intOf i).toNat)
      case atStart => exact ⟨0, rfl, Nat.zero_le _, Below.refl _ _, fun j _ _ hj => absurd hj (Nat.not_lt_zero _)⟩
      case round =>
        obtain ⟨k, rfl, hk, hbr, HS⟩ := hrel
        have hbw : Below w.heap.size w wr := hb1.trans (hbr.mono hb1.size)
        have c2 := (b2.later hbr).cell; have c3 := (b3.later hbr).cell; have m2 := (b2.later hbr).lt; have m3 := (b3.later hbr).lt
        by_cases hlt : k < n
        · obtain ⟨x, hx⟩ : ∃ x, es[k]? = some x := ⟨_, List.getElem?_eq_getElem (by rw [← HN.out]; exact hlt)⟩
          obtain ⟨y, hy⟩ : ∃ y, fs[k]? = some y := ⟨_, List.getElem?_eq_getElem (by rw [← HL.out, ← HN.out]; exact hlt)⟩
          obtain ⟨g1, o1, rfl, hg1, d1⟩ := HP.out k x hx
          obtain ⟨g2, o2, rfl, hg2, d2⟩ := HQ.out k y hy
          replace d1 := fun j u hu => (hbw.cell (p := ⟨g1, o1 + k * 13 + j, none⟩) hg1).trans (d1 j u hu)
          replace d2 := fun j u hu => (hbw.cell (p := ⟨g2, o2 + k * 13 + j, none⟩) hg2).trans (d2 j u hu)
          have x0 := d1 0 _ rfl
          have x1 := d1 1 _ rfl
          have x2 := d1 2 _ rfl
          have x3 := d1 3 _ rfl
          have x4 := d1 4 _ rfl
          have x5 := d1 5 _ rfl
          have x6 := d1 6 _ rfl
          have x7 := d1 7 _ rfl
          have x8 := d1 8 _ rfl
          have x9 := d1 9 _ rfl
          have x10 := d1 10 _ rfl
          have x11 := d1 11 _ rfl
          have x12 := d1 12 _ rfl
          rw [Nat.add_zero] at x0
          have y0 := d2 0 _ rfl
          have y1 := d2 1 _ rfl
          have y2 := d2 2 _ rfl
          have y3 := d2 3 _ rfl
          have y4 := d2 4 _ rfl
          have y5 := d2 5 _ rfl
          have y6 := d2 6 _ rfl
          have y7 := d2 7 _ rfl
          have y8 := d2 8 _ rfl
          have y9 := d2 9 _ rfl
          have y10 := d2 10 _ rfl
          have y11 := d2 11 _ rfl
          have y12 := d2 12 _ rfl
          rw [Nat.add_zero] at y0
          have q1 : (k : Int) < (n : Int) := by omega
          clear d1 d2
          by_cases he : x = y
          · have e0 : eqE ⟨x.off, x.kind, x.save, x.rules, x.format, ⟨x.u.has, x.u.year, x.u.month, x.u.kind, x.u.week, x.u.day, x.u.sec, x.u.base⟩⟩ ⟨y.off, y.kind, y.save, y.rules, y.format, ⟨y.u.has, y.u.year, y.u.month, y.u.kind, y.u.week, y.u.day, y.u.sec, y.u.base⟩⟩ = true := decide_eq_true he
            have HX := Lib.hid hx; have HY := Lib.hid hy; have HQ2 := Lib.hid he
            clear hx hy he
            go_wp2
            go_quiet (fail)
            go_wp2
            go_roundw
            case rel =>
              refine ⟨k + 1, by go_num, by omega, by repeat (first | (with_reducible exact Below.refl _ _) | (with_reducible assumption) | (with_reducible refine ba ?_) | (with_reducible refine bd ?_) | (with_reducible refine bdn ?_ _) | (with_reducible refine bset ?_ (by first | exact Nat.le_refl _ | omega | (simp; done) | (simp; omega))) | (with_reducible refine bt ?_ (by with_reducible assumption))), fun j p q hj hp hq => ?_⟩
              by_cases hjk : j = k
              · subst hjk
                rw [HX.out] at hp
                rw [HY.out] at hq
                cases hp; cases hq
                exact HQ2.out
              · exact HS.out j p q (by omega) hp hq
            case measure => simp [intOf]; omega
          · have e0 : eqE ⟨x.off, x.kind, x.save, x.rules, x.format, ⟨x.u.has, x.u.year, x.u.month, x.u.kind, x.u.week, x.u.day, x.u.sec, x.u.base⟩⟩ ⟨y.off, y.kind, y.save, y.rules, y.format, ⟨y.u.has, y.u.year, y.u.month, y.u.kind, y.u.week, y.u.day, y.u.sec, y.u.base⟩⟩ = false := decide_eq_false he
            have hno : decide (zd ⟨a, .slice (some ⟨g1, o1, none⟩) n cap, es⟩ = zd ⟨b, .slice (some ⟨g2, o2, none⟩) n cap', fs⟩) = false := decide_eq_false (fun e => list_no hx hy he (Prod.mk.inj e).2)
            have HO := Lib.hid hno
            clear hx hy he hno
            go_wp2
            go_quiet (fail)
            go_wp2
            go_ret
            exact ⟨by rw [HO.out]; rfl, by repeat (first | (with_reducible exact Below.refl _ _) | (with_reducible assumption) | (with_reducible refine ba ?_) | (with_reducible refine bd ?_) | (with_reducible refine bdn ?_ _) | (with_reducible refine bset ?_ (by first | exact Nat.le_refl _ | omega | (simp; done) | (simp; omega))) | (with_reducible refine bt ?_ (by with_reducible assumption)))⟩
        · obtain rfl : k = n := by omega
          have hyes : decide (zd ⟨a, .slice p k cap, es⟩ = zd ⟨b, .slice q k cap', fs⟩) = true := decide_eq_true (by unfold zd; rw [HAB.out, list_all HL.out (by rw [← HN.out]; exact HS.out)])
          have HY := Lib.hid hyes
          clear hyes
          go_wp2
          go_ret
          exact ⟨by rw [HY.out]; rfl, by repeat (first | (with_reducible exact Below.refl _ _) | (with_reducible assumption) | (with_reducible refine ba ?_) | (with_reducible refine bd ?_) | (with_reducible refine bdn ?_ _) | (with_reducible refine bset ?_ (by first | exact Nat.le_refl _ | omega | (simp; done) | (simp; omega))) | (with_reducible refine bt ?_ (by with_reducible assumption)))⟩
    · have hno : decide (zd ⟨a, .slice p es.length cap, es⟩ = zd ⟨b, .slice q fs.length cap', fs⟩) = false := decide_eq_false (fun e => hlen (congrArg List.length (Prod.mk.inj e).2))
      have e1 : (!(es.length == fs.length)) = true := by simpa using hlen
      have e2 : (!((es.length : Int) == (fs.length : Int))) = true := by simpa using (fun e : (es.length : Int) = fs.length => hlen (by omega))
      have e3 : ¬ (es.length : Int) = (fs.length : Int) := by omega
      rw [hno]
      clear hno hp hq
      generalize es.length = n at *
      generalize fs.length = n' at *
      go_enter Try.func41, Try.ntmps41
      go_wp2
      go_ret
      exact ⟨rfl, by repeat (first | (with_reducible exact Below.refl _ _) | (with_reducible assumption) | (with_reducible refine ba ?_) | (with_reducible refine bd ?_) | (with_reducible refine bdn ?_ _) | (with_reducible refine bset ?_ (by first | exact Nat.le_refl _ | omega | (simp; done) | (simp; omega))) | (with_reducible refine bt ?_ (by with_reducible assumption)))⟩
  · have hs := str_ne hab
    have hno : decide (zd ⟨a, .slice p es.length cap, es⟩ = zd ⟨b, .slice q fs.length cap', fs⟩) = false := decide_eq_false (fun e => hab (Prod.mk.inj e).1)
    rw [hno]
    clear hno hp hq
    generalize es.length = n at *
    generalize fs.length = n' at *
    go_enter Try.func41, Try.ntmps41
    go_wp2
    go_ret
    exact ⟨rfl, by repeat (first | (with_reducible exact Below.refl _ _) | (with_reducible assumption) | (with_reducible refine ba ?_) | (with_reducible refine bd ?_) | (with_reducible refine bdn ?_ _) | (with_reducible refine bset ?_ (by first | exact Nat.le_refl _ | omega | (simp; done) | (simp; omega))) | (with_reducible refine bt ?_ (by with_reducible assumption)))⟩
/-- what a table says -/
def td (t : TabV) : List RuleV × List LinkV × List (ByteArray × List EraV) := (t.rs, t.ls, t.zs.map zd)
set_option maxRecDepth 100000 in
set_option maxHeartbeats 6400000 in
theorem Same {w : World} {t u : TabV} (ht : HoldsT w t) (hu : HoldsT w u) :
    Calls Try.prog 15 #[.agg #[t.rv, t.zv, t.lv], .agg #[u.rv, u.zv, u.lv]] w fun e w' => e = .returned (.bool (decide (td t = td u))) ∧ Below w.heap.size w w' := by
  obtain ⟨rv, zv, lv, rs, zs, ls⟩ := t
  obtain ⟨rv', zv', lv', rs', zs', ls'⟩ := u
  obtain ⟨p, cap, e1, hp⟩ := ht.r.g.pk
  obtain ⟨q, cap', e2, hq⟩ := hu.r.g.pk
  obtain ⟨pz, capz, e3, hpz⟩ := ht.z.pk
  obtain ⟨qz, capz', e4, hqz⟩ := hu.z.pk
  obtain ⟨pl, capl, e5, hpl⟩ := ht.l.pk
  obtain ⟨ql, capl', e6, hql⟩ := hu.l.pk
  have l1 := ht.r.len; have l2 := hu.r.len; have l3 := ht.z.len; have l4 := hu.z.len; have l5 := ht.l.len; have l6 := hu.l.len
  have zf := ht.zf; have zf' := hu.zf
  dsimp only at e1 e2 e3 e4 e5 e6 hp hq hpz hqz hpl hql l1 l2 l3 l4 l5 l6 zf zf' ⊢
  subst e1 e2 e3 e4 e5 e6
  clear ht hu
  have HP := Lib.hid hp; have HQ := Lib.hid hq; have HPZ := Lib.hid hpz; have HQZ := Lib.hid hqz; have HPL := Lib.hid hpl; have HQL := Lib.hid hql; have ZF := Lib.hid zf; have ZF' := Lib.hid zf'
  clear hp hq hpz hqz hpl hql zf zf'
  have hD : ∀ (a a' b b' c c' : Value), td ⟨a, b, c, rs, zs, ls⟩ = td ⟨a', b', c', rs', zs', ls'⟩ ↔ rs = rs' ∧ ls = ls' ∧ zs.map zd = zs'.map zd := fun _ _ _ _ _ _ => by simp [td]
  simp only [hD]
  clear hD
  by_cases hr : rs.length = rs'.length
  case neg =>
    have hno : decide (rs = rs' ∧ ls = ls' ∧ zs.map zd = zs'.map zd) = false := decide_eq_false (fun e => hr (congrArg List.length e.1))
    have e1 : (!(rs.length == rs'.length)) = true := by simpa using hr
    have e2 : (!((rs.length : Int) == (rs'.length : Int))) = true := by simpa using (fun e : (rs.length : Int) = rs'.length => hr (by omega))
    have e3 : ¬ (rs.length : Int) = (rs'.length : Int) := by omega
    rw [hno]
    clear hno HP HQ HPZ HQZ HPL HQL ZF ZF'
    generalize rs.length = n at *
    generalize rs'.length = n' at *
    generalize zs.length = a1 at *
    generalize zs'.length = a2 at *
    generalize ls.length = a3 at *
    generalize ls'.length = a4 at *
    go_enter Try.func15, Try.ntmps15
    go_wp2
    go_ret
    exact ⟨rfl, by repeat (first | (with_reducible exact Below.refl _ _) | (with_reducible assumption) | (with_reducible refine ba ?_) | (with_reducible refine bd ?_) | (with_reducible refine bdn ?_ _) | (with_reducible refine bset ?_ (by first | exact Nat.le_refl _ | omega | (simp; done) | (simp; omega))) | (with_reducible refine bt ?_ (by with_reducible assumption)))⟩
  by_cases hz : zs.length = zs'.length
  case neg =>
    have hno : decide (rs = rs' ∧ ls = ls' ∧ zs.map zd = zs'.map zd) = false := decide_eq_false (fun e => hz (by have := congrArg List.length e.2.2; simpa using this))
    have e1 : (!(zs.length == zs'.length)) = true := by simpa using hz
    have e2 : (!((zs.length : Int) == (zs'.length : Int))) = true := by simpa using (fun e : (zs.length : Int) = zs'.length => hz (by omega))
    have e3 : ¬ (zs.length : Int) = (zs'.length : Int) := by omega
    rw [hno, ← hr]
    rw [← hr] at l2
    clear hno HP HQ HPZ HQZ HPL HQL ZF ZF' hr
    generalize rs.length = n at *
    generalize zs.length = a1 at *
    generalize zs'.length = a2 at *
    generalize ls.length = a3 at *
    generalize ls'.length = a4 at *
    go_enter Try.func15, Try.ntmps15
    go_wp2
    go_ret
    exact ⟨rfl, by repeat (first | (with_reducible exact Below.refl _ _) | (with_reducible assumption) | (with_reducible refine ba ?_) | (with_reducible refine bd ?_) | (with_reducible refine bdn ?_ _) | (with_reducible refine bset ?_ (by first | exact Nat.le_refl _ | omega | (simp; done) | (simp; omega))) | (with_reducible refine bt ?_ (by with_reducible assumption)))⟩
  by_cases hl : ls.length = ls'.length
  case neg =>
    have hno : decide (rs = rs' ∧ ls = ls' ∧ zs.map zd = zs'.map zd) = false := decide_eq_false (fun e => hl (congrArg List.length e.2.1))
    have e1 : (!(ls.length == ls'.length)) = true := by simpa using hl
    have e2 : (!((ls.length : Int) == (ls'.length : Int))) = true := by simpa using (fun e : (ls.length : Int) = ls'.length => hl (by omega))
    have e3 : ¬ (ls.length : Int) = (ls'.length : Int) := by omega
    rw [hno, ← hr, ← hz]
    rw [← hr] at l2
    rw [← hz] at l4
    clear hno HP HQ HPZ HQZ HPL HQL ZF ZF' hr hz
    generalize rs.length = n at *
    generalize zs.length = a1 at *
    generalize ls.length = a3 at *
    generalize ls'.length = a4 at *
    go_enter Try.func15, Try.ntmps15
    go_wp2
    go_ret
    exact ⟨rfl, by repeat (first | (with_reducible exact Below.refl _ _) | (with_reducible assumption) | (with_reducible refine ba ?_) | (with_reducible refine bd ?_) | (with_reducible refine bdn ?_ _) | (with_reducible refine bset ?_ (by first | exact Nat.le_refl _ | omega | (simp; done) | (simp; omega))) | (with_reducible refine bt ?_ (by with_reducible assumption)))⟩
  obtain ⟨n, hn⟩ : ∃ n, n = rs.length := ⟨_, rfl⟩
  obtain ⟨nz, hnz⟩ : ∃ nz, nz = zs.length := ⟨_, rfl⟩
  obtain ⟨nl, hnl⟩ : ∃ nl, nl = ls.length := ⟨_, rfl⟩
  rw [← hr, ← hz, ← hl, ← hn, ← hnz, ← hnl]
  rw [← hn] at l1
  rw [← hnz] at l3
  rw [← hnl] at l5
  have HN := Lib.hid hn; have HNZ := Lib.hid hnz; have HNL := Lib.hid hnl; have HR := Lib.hid hr; have HZ := Lib.hid hz; have HL := Lib.hid hl
  clear hr hz hl hn hnz hnl l2 l4 l6
  go_enter Try.func15, Try.ntmps15
  go_wp2
  have b2 := Box.old (o := .cells #[.slice q n cap', .slice qz nz capz', .slice ql nl capl'] 26) (Box.new w #[.slice p n cap, .slice pz nz capz, .slice pl nl capl] 26)
  have b3 := boxU0 w (.cells #[.slice p n cap, .slice pz nz capz, .slice pl nl capl] 26) #[.slice q n cap', .slice qz nz capz', .slice ql nl capl'] 26
  obtain ⟨w1, hw1⟩ : ∃ w1, w1 = (w.alloc (.cells #[.slice p n cap, .slice pz nz capz, .slice pl nl capl] 26)).alloc (.cells #[.slice q n cap', .slice qz nz capz', .slice ql nl capl'] 26) := ⟨_, rfl⟩
  rw [← hw1] at b2 b3 ⊢
  have hb1 : Below w.heap.size w w1 := by rw [hw1]; repeat (first | (with_reducible exact Below.refl _ _) | (with_reducible assumption) | (with_reducible refine ba ?_) | (with_reducible refine bd ?_) | (with_reducible refine bdn ?_ _) | (with_reducible refine bset ?_ (by first | exact Nat.le_refl _ | omega | (simp; done) | (simp; omega))) | (with_reducible refine bt ?_ (by with_reducible assumption)))
  clear hw1
  go_loopw [36, 5] (fun i j wr => ∃ k : Nat, i = .int .i64 k ∧ k ≤ n ∧ Below w1.heap.size w1 wr ∧ Hid (∀ j x y, j < k → rs[j]? = some x → rs'[j]? = some y → x = y)) (fun i _ _ => n - (intOf i).toNat)
  case atStart => exact ⟨0, rfl, Nat.zero_le _, Below.refl _ _, fun j _ _ hj => absurd hj (Nat.not_lt_zero _)⟩
  case round =>
    obtain ⟨k, rfl, hk, hbr, HS⟩ := hrel
    obtain ⟨v0, rfl⟩ : ∃ v0 : World, v0 = wr := ⟨_, rfl⟩
    have hbw : Below w.heap.size w v0 := hb1.trans (hbr.mono hb1.size)
    have f2 := b2.later hbr; have f3 := b3.later hbr
    have c2 := f2.cell; have c3 := f3.cell; have m2 := f2.lt; have m3 := f3.lt
    by_cases hlt : k < n
    · obtain ⟨x, hx⟩ : ∃ x, rs[k]? = some x := ⟨_, List.getElem?_eq_getElem (by rw [← HN.out]; exact hlt)⟩
      obtain ⟨y, hy⟩ : ∃ y, rs'[k]? = some y := ⟨_, List.getElem?_eq_getElem (by rw [← HR.out, ← HN.out]; exact hlt)⟩
      obtain ⟨g1, o1, rfl, hg1, d1⟩ := HP.out k x hx
      obtain ⟨g2, o2, rfl, hg2, d2⟩ := HQ.out k y hy
      replace d1 := fun j u hu => (hbw.cell (p := ⟨g1, o1 + k * 11 + j, none⟩) hg1).trans (d1 j u hu)
      replace d2 := fun j u hu => (hbw.cell (p := ⟨g2, o2 + k * 11 + j, none⟩) hg2).trans (d2 j u hu)
      have x0 := d1 0 _ rfl
      have x1 := d1 1 _ rfl
      have x2 := d1 2 _ rfl
      have x3 := d1 3 _ rfl
      have x4 := d1 4 _ rfl
      have x5 := d1 5 _ rfl
      have x6 := d1 6 _ rfl
      have x7 := d1 7 _ rfl
      have x8 := d1 8 _ rfl
      have x9 := d1 9 _ rfl
      have x10 := d1 10 _ rfl
      rw [Nat.add_zero] at x0
      have y0 := d2 0 _ rfl
      have y1 := d2 1 _ rfl
      have y2 := d2 2 _ rfl
      have y3 := d2 3 _ rfl
      have y4 := d2 4 _ rfl
      have y5 := d2 5 _ rfl
      have y6 := d2 6 _ rfl
      have y7 := d2 7 _ rfl
      have y8 := d2 8 _ rfl
      have y9 := d2 9 _ rfl
      have y10 := d2 10 _ rfl
      rw [Nat.add_zero] at y0
      have q1 : (k : Int) < (n : Int) := by omega
      clear d1 d2
      by_cases he : x = y
      · have e0 : eqR ⟨x.name, x.fr, x.to, x.month, x.kind, x.week, x.day, x.sec, x.base, x.save, x.letter⟩ ⟨y.name, y.fr, y.to, y.month, y.kind, y.week, y.day, y.sec, y.base, y.save, y.letter⟩ = true := decide_eq_true he
        have HX := Lib.hid hx; have HY := Lib.hid hy; have HQ2 := Lib.hid he
        clear hx hy he
        go_wp2
        go_quiet (fail)
        go_wp2
        go_roundw
        case rel =>
          refine ⟨k + 1, by go_num, by omega, by repeat (first | (with_reducible exact Below.refl _ _) | (with_reducible assumption) | (with_reducible refine ba ?_) | (with_reducible refine bd ?_) | (with_reducible refine bdn ?_ _) | (with_reducible refine bset ?_ (by first | exact Nat.le_refl _ | omega | (simp; done) | (simp; omega))) | (with_reducible refine bt ?_ (by with_reducible assumption))), fun j p q hj hp hq => ?_⟩
          by_cases hjk : j = k
          · subst hjk
            rw [HX.out] at hp
            rw [HY.out] at hq
            cases hp; cases hq
            exact HQ2.out
          · exact HS.out j p q (by omega) hp hq
        case measure => simp [intOf]; omega
      · have e0 : eqR ⟨x.name, x.fr, x.to, x.month, x.kind, x.week, x.day, x.sec, x.base, x.save, x.letter⟩ ⟨y.name, y.fr, y.to, y.month, y.kind, y.week, y.day, y.sec, y.base, y.save, y.letter⟩ = false := decide_eq_false he
        have hno : decide (rs = rs' ∧ ls = ls' ∧ zs.map zd = zs'.map zd) = false := decide_eq_false (fun e => list_no hx hy he e.1)
        have HO := Lib.hid hno
        clear hx hy he hno
        go_wp2
        go_quiet (fail)
        go_wp2
        go_ret
        exact ⟨by rw [HO.out]; rfl, by repeat (first | (with_reducible exact Below.refl _ _) | (with_reducible assumption) | (with_reducible refine ba ?_) | (with_reducible refine bd ?_) | (with_reducible refine bdn ?_ _) | (with_reducible refine bset ?_ (by first | exact Nat.le_refl _ | omega | (simp; done) | (simp; omega))) | (with_reducible refine bt ?_ (by with_reducible assumption)))⟩
    · obtain rfl : k = n := by omega
      have HR2 := Lib.hid (list_all HR.out (by rw [← HN.out]; exact HS.out))
      have hb2 := hbw
      clear b2 b3 c2 c3 m2 m3
      have b2 := f2; have b3 := f3
      have c2 := b2.cell; have c3 := b3.cell; have m2 := b2.lt; have m3 := b3.lt
      go_wp2
      obtain ⟨w2, rfl⟩ : ∃ w2 : World, w2 = v0 := ⟨_, rfl⟩
      clear c2 c3 m2 m3 f2 f3
      go_loopw [54, 6] (fun i j wr => ∃ k : Nat, i = .int .i64 k ∧ k ≤ nl ∧ Below w2.heap.size w2 wr ∧ Hid (∀ j x y, j < k → ls[j]? = some x → ls'[j]? = some y → x = y)) (fun i _ _ => nl - (intOf i).toNat)
      case atStart => exact ⟨0, rfl, Nat.zero_le _, Below.refl _ _, fun j _ _ hj => absurd hj (Nat.not_lt_zero _)⟩
      case round =>
        obtain ⟨k, rfl, hk, hbr, HS⟩ := hrel
        obtain ⟨v1, rfl⟩ : ∃ v1 : World, v1 = wr := ⟨_, rfl⟩
        have hbw : Below w.heap.size w v1 := hb2.trans (hbr.mono hb2.size)
        have f2 := b2.later hbr; have f3 := b3.later hbr
        have c2 := f2.cell; have c3 := f3.cell; have m2 := f2.lt; have m3 := f3.lt
        by_cases hlt : k < nl
        · obtain ⟨x, hx⟩ : ∃ x, ls[k]? = some x := ⟨_, List.getElem?_eq_getElem (by rw [← HNL.out]; exact hlt)⟩
          obtain ⟨y, hy⟩ : ∃ y, ls'[k]? = some y := ⟨_, List.getElem?_eq_getElem (by rw [← HL.out, ← HNL.out]; exact hlt)⟩
          obtain ⟨g1, o1, rfl, hg1, d1⟩ := HPL.out k x hx
          obtain ⟨g2, o2, rfl, hg2, d2⟩ := HQL.out k y hy
          replace d1 := fun j u hu => (hbw.cell (p := ⟨g1, o1 + k * 2 + j, none⟩) hg1).trans (d1 j u hu)
          replace d2 := fun j u hu => (hbw.cell (p := ⟨g2, o2 + k * 2 + j, none⟩) hg2).trans (d2 j u hu)
          have x0 := d1 0 _ rfl
          have x1 := d1 1 _ rfl
          rw [Nat.add_zero] at x0
          have y0 := d2 0 _ rfl
          have y1 := d2 1 _ rfl
          rw [Nat.add_zero] at y0
          have q1 : (k : Int) < (nl : Int) := by omega
          clear d1 d2
          by_cases he : x = y
          · have e0 : eqK ⟨x.target, x.name⟩ ⟨y.target, y.name⟩ = true := decide_eq_true he
            have HX := Lib.hid hx; have HY := Lib.hid hy; have HQ2 := Lib.hid he
            clear hx hy he
            go_wp2
            go_quiet (fail)
            go_wp2
            go_roundw
            case rel =>
              refine ⟨k + 1, by go_num, by omega, by repeat (first | (with_reducible exact Below.refl _ _) | (with_reducible assumption) | (with_reducible refine ba ?_) | (with_reducible refine bd ?_) | (with_reducible refine bdn ?_ _) | (with_reducible refine bset ?_ (by first | exact Nat.le_refl _ | omega | (simp; done) | (simp; omega))) | (with_reducible refine bt ?_ (by with_reducible assumption))), fun j p q hj hp hq => ?_⟩
              by_cases hjk : j = k
              · subst hjk
                rw [HX.out] at hp
                rw [HY.out] at hq
                cases hp; cases hq
                exact HQ2.out
              · exact HS.out j p q (by omega) hp hq
            case measure => simp [intOf]; omega
          · have e0 : eqK ⟨x.target, x.name⟩ ⟨y.target, y.name⟩ = false := decide_eq_false he
            have hno : decide (rs = rs' ∧ ls = ls' ∧ zs.map zd = zs'.map zd) = false := decide_eq_false (fun e => list_no hx hy he e.2.1)
            have HO := Lib.hid hno
            clear hx hy he hno
            go_wp2
            go_quiet (fail)
            go_wp2
            go_ret
            exact ⟨by rw [HO.out]; rfl, by repeat (first | (with_reducible exact Below.refl _ _) | (with_reducible assumption) | (with_reducible refine ba ?_) | (with_reducible refine bd ?_) | (with_reducible refine bdn ?_ _) | (with_reducible refine bset ?_ (by first | exact Nat.le_refl _ | omega | (simp; done) | (simp; omega))) | (with_reducible refine bt ?_ (by with_reducible assumption)))⟩
        · obtain rfl : k = nl := by omega
          have HL2 := Lib.hid (list_all HL.out (by rw [← HNL.out]; exact HS.out))
          have hb3 := hbw
          clear b2 b3 c2 c3 m2 m3
          have b2 := f2; have b3 := f3
          have c2 := b2.cell; have c3 := b3.cell; have m2 := b2.lt; have m3 := b3.lt
          go_wp2
          obtain ⟨w3, rfl⟩ : ∃ w3 : World, w3 = v1 := ⟨_, rfl⟩
          clear c2 c3 m2 m3 f2 f3
          go_loopw [72, 7] (fun i j wr => ∃ k : Nat, i = .int .i64 k ∧ k ≤ nz ∧ Below w3.heap.size w3 wr ∧ Hid (∀ j x y, j < k → zs[j]? = some x → zs'[j]? = some y → zd x = zd y)) (fun i _ _ => nz - (intOf i).toNat)
          case atStart => exact ⟨0, rfl, Nat.zero_le _, Below.refl _ _, fun j _ _ hj => absurd hj (Nat.not_lt_zero _)⟩
          case round =>
            obtain ⟨k, rfl, hk, hbr, HS⟩ := hrel
            obtain ⟨v2, rfl⟩ : ∃ v2 : World, v2 = wr := ⟨_, rfl⟩
            have hbw : Below w.heap.size w v2 := hb3.trans (hbr.mono hb3.size)
            have f2 := b2.later hbr; have f3 := b3.later hbr
            have c2 := f2.cell; have c3 := f3.cell; have m2 := f2.lt; have m3 := f3.lt
            by_cases hlt : k < nz
            · obtain ⟨x, hx⟩ : ∃ x, zs[k]? = some x := ⟨_, List.getElem?_eq_getElem (by rw [← HNZ.out]; exact hlt)⟩
              obtain ⟨y, hy⟩ : ∃ y, zs'[k]? = some y := ⟨_, List.getElem?_eq_getElem (by rw [← HZ.out, ← HNZ.out]; exact hlt)⟩
              obtain ⟨g1, o1, rfl, hg1, d1⟩ := HPZ.out k x hx
              obtain ⟨g2, o2, rfl, hg2, d2⟩ := HQZ.out k y hy
              replace d1 := fun j u hu => (hbw.cell (p := ⟨g1, o1 + k * 2 + j, none⟩) hg1).trans (d1 j u hu)
              replace d2 := fun j u hu => (hbw.cell (p := ⟨g2, o2 + k * 2 + j, none⟩) hg2).trans (d2 j u hu)
              have x0 := d1 0 _ rfl
              have x1 := d1 1 _ rfl
              rw [Nat.add_zero] at x0
              have y0 := d2 0 _ rfl
              have y1 := d2 1 _ rfl
              rw [Nat.add_zero] at y0
              have q1 : (k : Int) < (nz : Int) := by omega
              have cz := Lib.hid (fun (X : Later v2.heap.size v2) => SameZone ((ZF.out x (List.mem_of_getElem? hx)).later (hbw.trans (X.h.mono hbw.size))) ((ZF'.out y (List.mem_of_getElem? hy)).later (hbw.trans (X.h.mono hbw.size))))
              clear d1 d2
              have hg1v : g1 < v2.heap.size := Nat.lt_of_lt_of_le hg1 hbw.size; have hg2v : g2 < v2.heap.size := Nat.lt_of_lt_of_le hg2 hbw.size
              by_cases he : zd x = zd y
              · have hE : decide (zd x = zd y) = true := decide_eq_true he
                rw [hE] at cz
                have HX := Lib.hid hx; have HY := Lib.hid hy; have HQ2 := Lib.hid he
                clear hx hy he hE
                go_wp2
                (refine region_later (by kernel_rfl) (by kernel_rfl) ?_; (repeat (go_big_quiet_step (first | (go_at_call 41; rename_i xL; apply calls_later xL (Nat.le_refl _); exact (cz.out xL))))); refine wpQuiet_nil ?_; rintro _ ⟨⟨u9, hu9⟩, rfl⟩)
                go_wp2
                go_roundw
                case rel =>
                  refine ⟨k + 1, by go_num, by omega, by repeat (first | (with_reducible exact Below.refl _ _) | (with_reducible assumption) | (with_reducible refine ba ?_) | (with_reducible refine bd ?_) | (with_reducible refine bdn ?_ _) | (with_reducible refine bset ?_ (by first | exact Nat.le_refl _ | omega | (simp; done) | (simp; omega))) | (with_reducible refine bt ?_ (by with_reducible assumption))), fun j p q hj hp hq => ?_⟩
                  by_cases hjk : j = k
                  · subst hjk
                    rw [HX.out] at hp
                    rw [HY.out] at hq
                    cases hp; cases hq
                    exact HQ2.out
                  · exact HS.out j p q (by omega) hp hq
                case measure => simp [intOf]; omega
              · have hE : decide (zd x = zd y) = false := decide_eq_false he
                rw [hE] at cz
                have hno : decide (rs = rs' ∧ ls = ls' ∧ zs.map zd = zs'.map zd) = false := decide_eq_false (fun e => list_no (l := zs.map zd) (m := zs'.map zd) (k := k) (by rw [List.getElem?_map, hx]; rfl) (by rw [List.getElem?_map, hy]; rfl) he e.2.2)
                have HO := Lib.hid hno
                clear hx hy he hno hE
                go_wp2
                (refine region_later (by kernel_rfl) (by kernel_rfl) ?_; (repeat (go_big_quiet_step (first | (go_at_call 41; rename_i xL; apply calls_later xL (Nat.le_refl _); exact (cz.out xL))))); refine wpQuiet_nil ?_; rintro _ ⟨⟨u9, hu9⟩, rfl⟩)
                go_wp2
                go_ret
                exact ⟨by rw [HO.out]; rfl, by repeat (first | (with_reducible exact Below.refl _ _) | (with_reducible assumption) | (with_reducible refine ba ?_) | (with_reducible refine bd ?_) | (with_reducible refine bdn ?_ _) | (with_reducible refine bset ?_ (by first | exact Nat.le_refl _ | omega | (simp; done) | (simp; omega))) | (with_reducible refine bt ?_ (by with_reducible assumption)))⟩
            · obtain rfl : k = nz := by omega
              have HZ2 := Lib.hid (list_all (l := zs.map zd) (m := zs'.map zd) (by rw [List.length_map, List.length_map]; exact HZ.out) (fun j a b hj ha hb => by rw [List.getElem?_map] at ha hb; cases hx : zs[j]? with | none => rw [hx] at ha; cases ha | some x => (cases hy : zs'[j]? with | none => rw [hy] at hb; cases hb | some y => (rw [hx] at ha; rw [hy] at hb; cases ha; cases hb; exact HS.out j x y (by rw [List.length_map, ← HNZ.out] at hj; exact hj) hx hy))))
              have hb4 := hbw
              clear b2 b3 c2 c3 m2 m3
              have b2 := f2; have b3 := f3
              have hyes : decide (rs = rs' ∧ ls = ls' ∧ zs.map zd = zs'.map zd) = true := decide_eq_true ⟨HR2.out, HL2.out, HZ2.out⟩
              have HY := Lib.hid hyes
              clear hyes
              go_wp2
              go_ret
              exact ⟨by rw [HY.out]; rfl, by repeat (first | (with_reducible exact Below.refl _ _) | (with_reducible assumption) | (with_reducible refine ba ?_) | (with_reducible refine bd ?_) | (with_reducible refine bdn ?_ _) | (with_reducible refine bset ?_ (by first | exact Nat.le_refl _ | omega | (simp; done) | (simp; omega))) | (with_reducible refine bt ?_ (by with_reducible assumption)))⟩
end Eqs
end Go.Proofs.Ytcfmchpoclkpgaa
