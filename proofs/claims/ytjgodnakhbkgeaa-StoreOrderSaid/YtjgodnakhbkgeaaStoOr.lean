/-
  noontidelaw38.StoreOrder returns true.
-/
import Derived.Test.YtjgodnakhbkgeaaStoTl
import Derived.Test.YtjgodnakhbkgeaaStoreO
namespace Go.Proofs.Ytjgodnakhbkgeaa
open Go.RowKit NB OW
namespace StT
open Sto
attribute [local go_sem ↓] Sto.eqlL Sto.neqL
theorem St.put' {w : World} {B b : Nat} {room : Int} {l l' : List InfoV} {K : Nat → Prop} (h : St w B b room l K) (hB : B ≤ w.heap.size) (hK : ∀ j, K j → j < w.heap.size) {r : Int} (i : InfoV) (hp : putP room l i = (r, l')) :
    Calls Try.prog 22 #[.pointer (some ⟨b, 0, none⟩), .agg #[.int .i64 i.fr, .int .i64 i.th, .int .i64 i.off, .int .i64 i.save, .string i.abbr]] w fun e w' => e = .returned (.int .i64 r) ∧ St w' B b room l' K ∧ Keep B K w w' := by
  have := h.put hB hK i
  rwa [hp] at this
theorem St.find' {w : World} {B b : Nat} {room : Int} {l : List InfoV} {K : Nat → Prop} (h : St w B b room l K) {t : Int} {x : InfoV} {q : Bool} (hp : findP l t = (x, q)) :
    Calls Try.prog 26 #[.pointer (some ⟨b, 0, none⟩), .int .i64 t] w fun e w' => e = .returned (.tuple #[.agg #[.int .i64 x.fr, .int .i64 x.th, .int .i64 x.off, .int .i64 x.save, .string x.abbr], .bool q]) ∧ Below w.heap.size w w' := by
  have := h.find t
  rwa [hp] at this
theorem St.near' {w : World} {B b : Nat} {room : Int} {l : List InfoV} {K : Nat → Prop} (h : St w B b room l K) {t : Int} {x y : InfoV} {q r : Bool} (hp : nearP l t = (x, y, q, r)) :
    Calls Try.prog 28 #[.pointer (some ⟨b, 0, none⟩), .int .i64 t] w fun e w' => e = .returned (.tuple #[.agg #[.int .i64 x.fr, .int .i64 x.th, .int .i64 x.off, .int .i64 x.save, .string x.abbr], .agg #[.int .i64 y.fr, .int .i64 y.th, .int .i64 y.off, .int .i64 y.save, .string y.abbr], .bool q, .bool r]) ∧ Below w.heap.size w w' := by
  have := h.near t
  rwa [hp] at this
theorem St.list' {w : World} {B b : Nat} {room : Int} {l : List InfoV} {K : Nat → Prop} (h : St w B b room l K) : Calls Try.prog 32 #[.pointer (some ⟨b, 0, none⟩)] w fun e w' => ∃ p c, e = .returned (.slice p l.length c) ∧ HoldsG 5 InfoV.cells w' (.slice p l.length c) l ∧ (∀ g, (Value.slice p l.length c).ownBlock = some g → w.heap.size ≤ g ∧ g < w'.heap.size) ∧ Below w.heap.size w w' :=
  h.list.mono (fun _ _ ⟨p, c, h1, h2, h3⟩ => ⟨p, c, h1, HoldsG.of_own (k := 5) (f := InfoV.cells) (fun _ => rfl) h2, (fun g hg => h2.lt g hg), h3⟩)
/-- the five cells of an info of a slice -/
theorem cells5 {w : World} {g off k : Nat} {x : InfoV} (h : ∀ j u, x.cells[j]? = some u → w.cell? ⟨g, off + k * 5 + j, none⟩ = some u) :
    w.cell? ⟨g, off + k * 5, none⟩ = some (.int .i64 x.fr) ∧ w.cell? ⟨g, off + k * 5 + 1, none⟩ = some (.int .i64 x.th) ∧ w.cell? ⟨g, off + k * 5 + 2, none⟩ = some (.int .i64 x.off) ∧ w.cell? ⟨g, off + k * 5 + 3, none⟩ = some (.int .i64 x.save) ∧ w.cell? ⟨g, off + k * 5 + 4, none⟩ = some (.string x.abbr) :=
  ⟨h 0 _ rfl, h 1 _ rfl, h 2 _ rfl, h 3 _ rfl, h 4 _ rfl⟩
theorem cells5_later {w w' : World} {g off k : Nat} {x : InfoV} (hg : g < w.heap.size) (hb : Below w.heap.size w w') (h : ∀ j u, x.cells[j]? = some u → w.cell? ⟨g, off + k * 5 + j, none⟩ = some u) : ∀ j u, x.cells[j]? = some u → w'.cell? ⟨g, off + k * 5 + j, none⟩ = some u :=
  fun j u hu => (hb.cell (p := ⟨g, off + k * 5 + j, none⟩) hg).trans (h j u hu)
set_option maxRecDepth 100000 in
set_option maxHeartbeats 6400000 in
theorem orderLoop {W : World} {v : Value} {l : List InfoV} (room t : Int) (h : HoldsG 5 InfoV.cells W v l) (fit : ∀ a ∈ l, a.Fit) (h0 : 1 ≤ room) (h1 : room ≤ 65536) (hl : l.length ≤ 60) :
    Calls Try.prog 5 #[.int .i64 room, v, .int .i64 t] W fun e w' => e = .returned (.bool true) ∧ Below W.heap.size W w' := by
  obtain ⟨p, cap, rfl, hpick⟩ := h.pick
  obtain ⟨n, hn⟩ : ∃ n, n = l.length := ⟨_, rfl⟩
  rw [← hn] at hl ⊢
  have HN := Lib.hid hn
  have HP := Lib.hid hpick
  have HFIT := Lib.hid fit
  clear h hn hpick fit
  go_enter Try.func5, Try.ntmps5
  go_wp2_with (first
    | (go_at_call 19; (with_reducible refine (lives _).mono ?_); rintro e w1 ⟨rfl, hb1⟩; obtain ⟨hc1, hf1⟩ := bcell hb1)
    | (go_at_call 20; (with_reducible refine (St.new room h0 h1 _ (B := W.heap.size) ?_).mono ?_); (· exact le_of_below (by repeat (first | (with_reducible exact Below.refl _ _) | (with_reducible assumption) | (with_reducible refine ba ?_) | (with_reducible refine bd ?_) | (with_reducible refine bdn ?_ _) | (with_reducible refine bset ?_ (by first | exact Nat.le_refl _ | omega | (simp; done) | (simp; omega))) | (with_reducible refine bt ?_ (by with_reducible assumption))))); rintro e w2 ⟨b, rfl, hs2, hlt2, hb2⟩; have HS2 := Lib.hid hs2; clear hs2))
  have hB2 : Below W.heap.size W w2 := by repeat (first | (with_reducible exact Below.refl _ _) | (with_reducible assumption) | (with_reducible refine ba ?_) | (with_reducible refine bd ?_) | (with_reducible refine bdn ?_ _) | (with_reducible refine bset ?_ (by first | exact Nat.le_refl _ | omega | (simp; done) | (simp; omega))) | (with_reducible refine bt ?_ (by with_reducible assumption)))
  go_loopw [64, 9] (fun j nn wr => ∃ (k : Nat) (L : List InfoV), j = .int .i64 k ∧ nn = .int .i64 L.length ∧ k ≤ n ∧ Below W.heap.size W wr ∧ Hid (St wr W.heap.size b room L (fun _ => False)) ∧ Hid (∀ x ∈ L, x ∈ l)) (fun j _ _ => n - (intOf j).toNat)
  case atStart => exact ⟨0, [], rfl, rfl, Nat.zero_le _, hB2, HS2, fun x hx => by cases hx⟩
  case round =>
    obtain ⟨k, L, rfl, rfl, hk, hbr, HS, HM⟩ := hrel
    obtain ⟨w3, rfl⟩ : ∃ w3 : World, w3 = wr := ⟨_, rfl⟩
    by_cases hlt : k < n
    · obtain ⟨i, hi⟩ : ∃ i, l[k]? = some i := ⟨_, List.getElem?_eq_getElem (by rw [← HN.out]; exact hlt)⟩
      have hil : i ∈ l := List.mem_of_getElem? hi
      have hfi := HFIT.out i hil
      obtain ⟨g, off, rfl, hg, hcs⟩ := HP.out k _ hi
      obtain ⟨c0, c1, c2, c3, c4⟩ := cells5 (cells5_later hg (hbr.mono (Nat.le_refl _)) hcs)
      obtain ⟨er, L2, hPP⟩ : ∃ er L2, putP room L i = (er, L2) := ⟨_, _, rfl⟩
      have pf := put_facts room L i HS.out.ord
      rw [hPP] at pf
      dsimp only at pf
      have ho2 : Ord L2 := by have := put_ord room L i HS.out.ord; rwa [hPP] at this
      obtain ⟨x, xb, hfx⟩ : ∃ x xb, findP L2 i.fr = (x, xb) := ⟨_, _, rfl⟩
      obtain ⟨y, yb, hfy⟩ : ∃ y yb, findP L2 (wrap64 (i.th - 1)) = (y, yb) := ⟨_, _, rfl⟩
      have hq : xb = true → eqI x i = true → yb = true ∧ eqI y i = true := by
        intro h1 h2
        obtain rfl : x = i := of_decide_eq_true h2
        rw [h1] at hfx
        obtain ⟨m1, m2, m3⟩ := find_mem ho2 hfx
        have hw : wrap64 (x.th - 1) = x.th - 1 := by have h3 := hfi.t; have h4 := hfi.f; unfold I64 at h3 h4; unfold wrap64; omega
        rw [hw, find_in ho2 m1 (by omega) (by omega)] at hfy
        cases hfy
        exact ⟨rfl, decide_eq_true rfl⟩
      have hin : ∀ q z, L[q]? = some z → findP L2 z.fr = (z, true) := fun q z hz => by
        have hm := List.mem_of_getElem? hz
        exact find_in ho2 (pf.2.2 z hm) (Int.le_refl _) (Ord.right HS.out.ord z hm)
      have hm2 : ∀ z ∈ L2, z ∈ l := fun z hz => by
        rcases pf.2.1 z hz with h | rfl
        · exact HM.out z h
        · exact hil
      have hpf := pf.1
      have hn1 := HS.out.n
      obtain ⟨a, ha⟩ : ∃ a, a = L.length := ⟨_, rfl⟩
      obtain ⟨a2, ha2⟩ : ∃ a2, a2 = L2.length := ⟨_, rfl⟩
      have hcl : ∀ V, Below w3.heap.size w3 V → Calls Try.prog 32 #[.pointer (some ⟨b, 0, none⟩)] V fun e w' => ∃ p c, e = .returned (.slice p a c) ∧ HoldsG 5 InfoV.cells w' (.slice p a c) L ∧ (∀ g, (Value.slice p a c).ownBlock = some g → V.heap.size ≤ g ∧ g < w'.heap.size) ∧ Below V.heap.size V w' := fun V hV => by rw [ha]; exact (HS.out.later hV).list'
      have hle : a ≤ a2 := by rcases hpf with h | h; omega; (rw [h.2] at ha2; omega)
      have hcount : er = 0 ∧ a2 = a + 1 ∨ ¬ er = 0 ∧ a2 = a := by rcases hpf with h | h; exact .inl ⟨h.1, by omega⟩; exact .inr ⟨h.1, by rw [ha2, h.2, ha]⟩
      rw [← ha] at hn1
      have ha60 : a ≤ 65536 := by omega
      have PPH := Lib.hid hPP
      have O2H := Lib.hid ho2
      have FXH := Lib.hid hfx
      have FYH := Lib.hid hfy
      have INH := Lib.hid hin
      have M2H := Lib.hid hm2
      have CLH := Lib.hid hcl
      have AH := Lib.hid ha
      have A2H := Lib.hid ha2
      have IH := Lib.hid hi
      have COUNTH := Lib.hid hcount
      have QH := Lib.hid hq
      rw [← ha]
      clear hPP pf ho2 hfx hfy hin hm2 hpf hn1 hcl ha ha2 hi hcount hq hcs hil hfi HM
      go_upto_if 73 with (first
        | (go_at_call 32; (with_reducible refine (CLH.out _ ?_).mono ?_); (· repeat (first | (with_reducible exact Below.refl _ _) | (with_reducible assumption) | (with_reducible refine ba ?_) | (with_reducible refine bd ?_) | (with_reducible refine bdn ?_ _) | (with_reducible refine bset ?_ (by first | exact Nat.le_refl _ | omega | (simp; done) | (simp; omega))) | (with_reducible refine bt ?_ (by with_reducible assumption)))); rintro e w4 ⟨pw, cw, rfl, hl4, ho4, hb4⟩; obtain ⟨hc4, hf4⟩ := bcell hb4; have hc4_0 := fun o => hc4 (w3.heap.size) o (by first | assumption | omega | (simp; done) | (simp; omega)); have hf4_0 := fun o => hf4 (w3.heap.size) o (by first | assumption | omega | (simp; done) | (simp; omega)); clear hc4 hf4; have hz4_0 : w3.heap.size < w4.heap.size := (by first | exact sz1 hb4 | exact sz2 hb4 | exact sz3 hb4 | (have := hb4.size; (try simp only [World.size_alloc, World.size_drew] at this); omega)); have HL4 := Lib.hid hl4; have HO4 := Lib.hid (fun g hg => ⟨Nat.le_trans (le_of_below (w := w3) (by repeat (first | (with_reducible exact Below.refl _ _) | (with_reducible assumption) | (with_reducible refine ba ?_) | (with_reducible refine bd ?_) | (with_reducible refine bdn ?_ _) | (with_reducible refine bset ?_ (by first | exact Nat.le_refl _ | omega | (simp; done) | (simp; omega))) | (with_reducible refine bt ?_ (by with_reducible assumption))))) (ho4 g hg).1, (ho4 g hg).2⟩ : ∀ g, (Value.slice pw a cw).ownBlock = some g → w3.heap.size ≤ g ∧ g < w4.heap.size); have bx4 := (Box.new w3 #[.int .i64 i.fr, .int .i64 i.th, .int .i64 i.off, .int .i64 i.save, .string i.abbr] 50).later hb4; clear hl4 ho4)
        | (go_at_call 22; (with_reducible refine (St.put' (B := W.heap.size) (b := b) (room := room) (l := L) (l' := L2) (r := er) (K := fun j => w3.heap.size ≤ j ∧ j < w4.heap.size) ?_ ?_ ?_ i PPH.out).mono ?_); (· exact St.later (St.fresh HS.out (fun j h => h.1)) (by repeat (first | (with_reducible exact Below.refl _ _) | (with_reducible assumption) | (with_reducible refine ba ?_) | (with_reducible refine bd ?_) | (with_reducible refine bdn ?_ _) | (with_reducible refine bset ?_ (by first | exact Nat.le_refl _ | omega | (simp; done) | (simp; omega))) | (with_reducible refine bt ?_ (by with_reducible assumption))))); (· exact le_of_below (by repeat (first | (with_reducible exact Below.refl _ _) | (with_reducible assumption) | (with_reducible refine ba ?_) | (with_reducible refine bd ?_) | (with_reducible refine bdn ?_ _) | (with_reducible refine bset ?_ (by first | exact Nat.le_refl _ | omega | (simp; done) | (simp; omega))) | (with_reducible refine bt ?_ (by with_reducible assumption))))); (· intro j hj; exact hj.2); rintro e w5 ⟨rfl, hs5, hk5⟩; have HS5 := Lib.hid hs5; have bx5 := hk5.box bx4 ⟨Nat.le_refl _, hz4_0⟩; have hx5 := bx5.cell; have hz5 := bx5.lt; have hl5 := HoldsG.keep HL4.out hk5.size (fun g hg hlt => hk5.block g hlt (fun e => e.2 (HO4.out g hg))); have HL5 := Lib.hid hl5; have hB5 : Below W.heap.size W w5 := keep_below (by repeat (first | (with_reducible exact Below.refl _ _) | (with_reducible assumption) | (with_reducible refine ba ?_) | (with_reducible refine bd ?_) | (with_reducible refine bdn ?_ _) | (with_reducible refine bset ?_ (by first | exact Nat.le_refl _ | omega | (simp; done) | (simp; omega))) | (with_reducible refine bt ?_ (by with_reducible assumption)))) hk5; clear hk5 hs5 hl5))
      go_cut [64, 9] from 64 to 141 (fun j nn wx => j = .int .i64 k ∧ nn = .int .i64 a2 ∧ wx = w5)
      case first =>
        rcases COUNTH.out with ⟨her, hae⟩ | ⟨her, hae⟩
        · have hw1 : IntKind.i64.wrap ((a : Int) + 1) = (a : Int) + 1 := by rw [IntKind.wrap_i64]; omega
          subst her
          go_wp2
          go_meet
          exact ⟨rfl, by rw [hae]; simp, rfl⟩
        · go_wp2
          go_meet
          exact ⟨rfl, by rw [hae], rfl⟩
      case rest =>
        obtain ⟨rfl, rfl, rfl⟩ := hcut
        obtain ⟨w5, rfl⟩ : ∃ w5 : World, w5 = wc := ⟨_, rfl⟩
        have hle2 : ¬ ((a2 : Nat) : Int) < (a : Int) := by omega
        have hcn : ∀ V, Below w5.heap.size w5 V → Calls Try.prog 30 #[.pointer (some ⟨b, 0, none⟩)] V fun e w' => e = .returned (.int .i64 a2) ∧ Below V.heap.size V w' := fun V hV => by rw [A2H.out]; exact (HS5.out.later hV).len
        have CNH := Lib.hid hcn
        clear hcn
        have FA := Lib.hid (fun (V : World) (hV : Below w5.heap.size w5 V) => St.find' (t := i.fr) (x := x) (q := xb) (St.later HS5.out hV) FXH.out)
        have FB := Lib.hid (fun (V : World) (hV : Below w5.heap.size w5 V) => St.find' (t := wrap64 (i.th - 1)) (x := y) (q := yb) (St.later HS5.out hV) FYH.out)
        go_upto_region 17 with (first
          | (go_at_call 30; (with_reducible refine (CNH.out _ ?_).mono ?_); (· repeat (first | (with_reducible exact Below.refl _ _) | (with_reducible assumption) | (with_reducible refine ba ?_) | (with_reducible refine bd ?_) | (with_reducible refine bdn ?_ _) | (with_reducible refine bset ?_ (by first | exact Nat.le_refl _ | omega | (simp; done) | (simp; omega))) | (with_reducible refine bt ?_ (by with_reducible assumption)))); rintro e w6 ⟨rfl, hb6⟩; obtain ⟨hc6, hf6⟩ := bcell hb6; have hc6_0 := fun o => hc6 (w3.heap.size) o (by first | assumption | omega | (simp; done) | (simp; omega)); have hf6_0 := fun o => hf6 (w3.heap.size) o (by first | assumption | omega | (simp; done) | (simp; omega)); clear hc6 hf6; have hz6_0 : w3.heap.size < w6.heap.size := (by first | exact sz1 hb6 | exact sz2 hb6 | exact sz3 hb6 | (have := hb6.size; (try simp only [World.size_alloc, World.size_drew] at this); omega)))
          | (go_at_call 26; (with_reducible refine (FA.out _ ?_).mono ?_); (· repeat (first | (with_reducible exact Below.refl _ _) | (with_reducible assumption) | (with_reducible refine ba ?_) | (with_reducible refine bd ?_) | (with_reducible refine bdn ?_ _) | (with_reducible refine bset ?_ (by first | exact Nat.le_refl _ | omega | (simp; done) | (simp; omega))) | (with_reducible refine bt ?_ (by with_reducible assumption)))); rintro e w8 ⟨rfl, hb8⟩; obtain ⟨hc8, hf8⟩ := bcell hb8; have hc8_0 := fun o => hc8 (w3.heap.size) o (by first | assumption | omega | (simp; done) | (simp; omega)); have hf8_0 := fun o => hf8 (w3.heap.size) o (by first | assumption | omega | (simp; done) | (simp; omega)); clear hc8 hf8; have hz8_0 : w3.heap.size < w8.heap.size := (by first | exact sz1 hb8 | exact sz2 hb8 | exact sz3 hb8 | (have := hb8.size; (try simp only [World.size_alloc, World.size_drew] at this); omega)))
          | (go_at_call 26; (with_reducible refine (FB.out _ ?_).mono ?_); (· repeat (first | (with_reducible exact Below.refl _ _) | (with_reducible assumption) | (with_reducible refine ba ?_) | (with_reducible refine bd ?_) | (with_reducible refine bdn ?_ _) | (with_reducible refine bset ?_ (by first | exact Nat.le_refl _ | omega | (simp; done) | (simp; omega))) | (with_reducible refine bt ?_ (by with_reducible assumption)))); rintro e w9 ⟨rfl, hb9⟩; obtain ⟨hc9, hf9⟩ := bcell hb9; have hc9_0 := fun o => hc9 (w3.heap.size) o (by first | assumption | omega | (simp; done) | (simp; omega)); have hf9_0 := fun o => hf9 (w3.heap.size) o (by first | assumption | omega | (simp; done) | (simp; omega)); have hc9_1 := fun o => hc9 (w8.heap.size) o (by first | assumption | omega | (simp; done) | (simp; omega)); have hf9_1 := fun o => hf9 (w8.heap.size) o (by first | assumption | omega | (simp; done) | (simp; omega)); clear hc9 hf9; have hz9_0 : w3.heap.size < w9.heap.size := (by first | exact sz1 hb9 | exact sz2 hb9 | exact sz3 hb9 | (have := hb9.size; (try simp only [World.size_alloc, World.size_drew] at this); omega)); have hz9_1 : w8.heap.size < w9.heap.size := (by first | exact sz1 hb9 | exact sz2 hb9 | exact sz3 hb9 | (have := hb9.size; (try simp only [World.size_alloc, World.size_drew] at this); omega))))
        obtain ⟨wd, hwd⟩ : ∃ wd, wd = w9.alloc (.cells #[.int .i64 y.fr, .int .i64 y.th, .int .i64 y.off, .int .i64 y.save, .string y.abbr] 50) := ⟨_, rfl⟩
        rw [← hwd]
        have D8 : Box wd w8.heap.size #[.int .i64 x.fr, .int .i64 x.th, .int .i64 x.off, .int .i64 x.save, .string x.abbr] 50 := by rw [hwd]; exact ((Box.new w8 _ _).later hb9).old
        have D9 : Box wd w9.heap.size #[.int .i64 y.fr, .int .i64 y.th, .int .i64 y.off, .int .i64 y.save, .string y.abbr] 50 := by rw [hwd]; exact Box.new w9 _ _
        have hcw : Below w5.heap.size w5 wd := by rw [hwd]; repeat (first | (with_reducible exact Below.refl _ _) | (with_reducible assumption) | (with_reducible refine ba ?_) | (with_reducible refine bd ?_) | (with_reducible refine bdn ?_ _) | (with_reducible refine bset ?_ (by first | exact Nat.le_refl _ | omega | (simp; done) | (simp; omega))) | (with_reducible refine bt ?_ (by with_reducible assumption)))
        have bxd := bx5.later hcw
        have BXD := Lib.hid bxd
        have k8 := D8.cell; have k9 := D9.cell; have ki := bxd.cell; have m8 := D8.lt; have m9 := D9.lt; have mi := bxd.lt
        clear hwd hb6 hb8 hb9 hc6_0 hf6_0 hz6_0 hc8_0 hf8_0 hz8_0 hc9_0 hf9_0 hz9_0 hc9_1 hf9_1 hz9_1 hx5 hz5 hc4_0 hf4_0 hz4_0 hb4 c0 c1 c2 c3 c4
        go_cut [64, 118] from 64 to 141 (fun j sv wx => j = .int .i64 k ∧ sv = .bool false ∧ wx = wd)
        case first =>
          cases xb
          · go_wp2
            go_meet
            exact ⟨rfl, rfl, rfl⟩
          · by_cases hxi : eqI x i = true
            · obtain ⟨hyb, hyi⟩ := QH.out rfl hxi
              subst hyb
              have q1 : eqI ⟨x.fr, x.th, x.off, x.save, x.abbr⟩ ⟨i.fr, i.th, i.off, i.save, i.abbr⟩ = true := hxi
              have q2 : eqI ⟨y.fr, y.th, y.off, y.save, y.abbr⟩ ⟨i.fr, i.th, i.off, i.save, i.abbr⟩ = true := hyi
              go_wp2
              go_meet
              exact ⟨rfl, rfl, rfl⟩
            · have q1 : eqI ⟨x.fr, x.th, x.off, x.save, x.abbr⟩ ⟨i.fr, i.th, i.off, i.save, i.abbr⟩ = false := by simpa using hxi
              go_wp2
              go_meet
              exact ⟨rfl, rfl, rfl⟩
        case rest =>
          obtain ⟨rfl, rfl, rfl⟩ := hcut
          obtain ⟨wd, rfl⟩ : ∃ wd : World, wd = wc := ⟨_, rfl⟩
          obtain ⟨pp, cc, heq, hpk⟩ := HL5.out.pick
          obtain ⟨rfl, -, rfl⟩ : pw = pp ∧ a = L.length ∧ cw = cc := by simpa using heq
          have HPK := Lib.hid hpk
          clear hpk heq k8 k9 m8 m9 D8 D9
          go_wp2
          go_loopw [121] (fun j wx => ∃ q : Nat, j = .int .i64 q ∧ q ≤ a ∧ Below wd.heap.size wd wx) (fun j _ => a - (intOf j).toNat)
          case atStart => exact ⟨0, rfl, Nat.zero_le _, Below.refl _ _⟩
          case round =>
            obtain ⟨q, rfl, hqa, hbx⟩ := hrel
            by_cases hqlt : q < a
            · obtain ⟨z, hz⟩ : ∃ z, L[q]? = some z := ⟨_, List.getElem?_eq_getElem (by rw [← AH.out]; exact hqlt)⟩
              obtain ⟨g2, off2, rfl, hg2, hcs2⟩ := HPK.out q z hz
              obtain ⟨c0, c1, c2, c3, c4⟩ := cells5 (cells5_later hg2 (hcw.trans (hbx.mono hcw.size)) hcs2)
              have FZ := Lib.hid (fun (V : World) (hV : Below w5.heap.size w5 V) => St.find' (t := z.fr) (x := z) (q := true) (St.later HS5.out hV) (INH.out q z hz))
              have q0 : eqI ⟨z.fr, z.th, z.off, z.save, z.abbr⟩ ⟨z.fr, z.th, z.off, z.save, z.abbr⟩ = true := decide_eq_true rfl
              clear hz hcs2
              go_wp2_with (go_at_call 26; (with_reducible refine (FZ.out _ ?_).mono ?_); (· repeat (first | (with_reducible exact Below.refl _ _) | (with_reducible assumption) | (with_reducible refine ba ?_) | (with_reducible refine bd ?_) | (with_reducible refine bdn ?_ _) | (with_reducible refine bset ?_ (by first | exact Nat.le_refl _ | omega | (simp; done) | (simp; omega))) | (with_reducible refine bt ?_ (by with_reducible assumption)))); rintro e w10 ⟨rfl, hb10⟩; obtain ⟨hc10, hf10⟩ := bcell hb10; have hc10_0 := fun o => hc10 (wr.heap.size) o (by first | assumption | omega | (simp; done) | (simp; omega)); have hf10_0 := fun o => hf10 (wr.heap.size) o (by first | assumption | omega | (simp; done) | (simp; omega)); clear hc10 hf10; have hz10_0 : wr.heap.size < w10.heap.size := (by first | exact sz1 hb10 | exact sz2 hb10 | exact sz3 hb10 | (have := hb10.size; (try simp only [World.size_alloc, World.size_drew] at this); omega)))
              go_roundw
              case rel => exact ⟨q + 1, by go_num, by omega, by repeat (first | (with_reducible exact Below.refl _ _) | (with_reducible assumption) | (with_reducible refine ba ?_) | (with_reducible refine bd ?_) | (with_reducible refine bdn ?_ _) | (with_reducible refine bset ?_ (by first | exact Nat.le_refl _ | omega | (simp; done) | (simp; omega))) | (with_reducible refine bt ?_ (by with_reducible assumption)))⟩
              case measure => simp [intOf]; omega
            · obtain rfl : q = a := by omega
              go_wp2
              go_roundw
              case rel => exact ⟨k + 1, L2, by go_num, by rw [A2H.out], by omega, by repeat (first | (with_reducible exact Below.refl _ _) | (with_reducible assumption) | (with_reducible refine ba ?_) | (with_reducible refine bd ?_) | (with_reducible refine bdn ?_ _) | (with_reducible refine bset ?_ (by first | exact Nat.le_refl _ | omega | (simp; done) | (simp; omega))) | (with_reducible refine bt ?_ (by with_reducible assumption))), (St.later HS5.out (by repeat (first | (with_reducible exact Below.refl _ _) | (with_reducible assumption) | (with_reducible refine ba ?_) | (with_reducible refine bd ?_) | (with_reducible refine bdn ?_ _) | (with_reducible refine bset ?_ (by first | exact Nat.le_refl _ | omega | (simp; done) | (simp; omega))) | (with_reducible refine bt ?_ (by with_reducible assumption))))).bare, M2H.out⟩
              case measure => simp [intOf]; omega
    · obtain rfl : k = n := by omega
      have ho := HS.out.ord
      obtain ⟨a, ha⟩ : ∃ a, a = L.length := ⟨_, rfl⟩
      have hn1 := HS.out.n
      rw [← ha] at hn1
      have ha60 : a ≤ 65536 := by omega
      have hcl : ∀ V, Below w3.heap.size w3 V → Calls Try.prog 32 #[.pointer (some ⟨b, 0, none⟩)] V fun e w' => ∃ p c, e = .returned (.slice p a c) ∧ HoldsG 5 InfoV.cells w' (.slice p a c) L ∧ (∀ g, (Value.slice p a c).ownBlock = some g → V.heap.size ≤ g ∧ g < w'.heap.size) ∧ Below V.heap.size V w' := fun V hV => by rw [ha]; exact (HS.out.later hV).list'
      have CLH := Lib.hid hcl
      have AH := Lib.hid ha
      have HO := Lib.hid ho
      clear hcl ha hn1 ho
      go_wp2_with (go_at_call 32; (with_reducible refine (CLH.out _ ?_).mono ?_); (· repeat (first | (with_reducible exact Below.refl _ _) | (with_reducible assumption) | (with_reducible refine ba ?_) | (with_reducible refine bd ?_) | (with_reducible refine bdn ?_ _) | (with_reducible refine bset ?_ (by first | exact Nat.le_refl _ | omega | (simp; done) | (simp; omega))) | (with_reducible refine bt ?_ (by with_reducible assumption)))); rintro e w4 ⟨pw, cw, rfl, hl4, ho4, hb4⟩; have HL4 := Lib.hid hl4; clear hl4 ho4)
      obtain ⟨pp, cc, heq, hpk⟩ := HL4.out.pick
      obtain ⟨rfl, -, rfl⟩ : pw = pp ∧ a = L.length ∧ cw = cc := by simpa using heq
      have HPK := Lib.hid hpk
      clear hpk heq
      have hB4 : Below W.heap.size W w4 := by repeat (first | (with_reducible exact Below.refl _ _) | (with_reducible assumption) | (with_reducible refine ba ?_) | (with_reducible refine bd ?_) | (with_reducible refine bdn ?_ _) | (with_reducible refine bset ?_ (by first | exact Nat.le_refl _ | omega | (simp; done) | (simp; omega))) | (with_reducible refine bt ?_ (by with_reducible assumption)))
      have hS4 : Below w3.heap.size w3 w4 := by repeat (first | (with_reducible exact Below.refl _ _) | (with_reducible assumption) | (with_reducible refine ba ?_) | (with_reducible refine bd ?_) | (with_reducible refine bdn ?_ _) | (with_reducible refine bset ?_ (by first | exact Nat.le_refl _ | omega | (simp; done) | (simp; omega))) | (with_reducible refine bt ?_ (by with_reducible assumption)))
      go_loopw [146] (fun j wx => ∃ q : Nat, j = .int .i64 q ∧ q ≤ a ∧ Below w4.heap.size w4 wx) (fun j _ => a - (intOf j).toNat)
      case atStart => exact ⟨0, rfl, Nat.zero_le _, by repeat (first | (with_reducible exact Below.refl _ _) | (with_reducible assumption) | (with_reducible refine ba ?_) | (with_reducible refine bd ?_) | (with_reducible refine bdn ?_ _) | (with_reducible refine bset ?_ (by first | exact Nat.le_refl _ | omega | (simp; done) | (simp; omega))) | (with_reducible refine bt ?_ (by with_reducible assumption)))⟩
      case round =>
        obtain ⟨q, rfl, hqa, hbx⟩ := hrel
        obtain ⟨w5, rfl⟩ : ∃ w5 : World, w5 = wr := ⟨_, rfl⟩
        by_cases hqlt : q < a
        · obtain ⟨z, hz⟩ : ∃ z, L[q]? = some z := ⟨_, List.getElem?_eq_getElem (by rw [← AH.out]; exact hqlt)⟩
          obtain ⟨g2, off2, rfl, hg2, hcs2⟩ := HPK.out q z hz
          obtain ⟨c0, c1, c2, c3, c4⟩ := cells5 (cells5_later hg2 hbx hcs2)
          have hzl : z ∈ l := HM.out z (List.mem_of_getElem? hz)
          have HZ := Lib.hid hz
          have HZL := Lib.hid hzl
          clear hz hcs2 hzl
          go_upto_region 31 with fail
          have bz := Box.new w5 #[.int .i64 z.fr, .int .i64 z.th, .int .i64 z.off, .int .i64 z.save, .string z.abbr] 50
          obtain ⟨wz, hwz⟩ : ∃ wz, wz = w5.alloc (.cells #[.int .i64 z.fr, .int .i64 z.th, .int .i64 z.off, .int .i64 z.save, .string z.abbr] 50) := ⟨_, rfl⟩
          rw [← hwz] at bz ⊢
          have hzb : Below w4.heap.size w4 wz := by rw [hwz]; repeat (first | (with_reducible exact Below.refl _ _) | (with_reducible assumption) | (with_reducible refine ba ?_) | (with_reducible refine bd ?_) | (with_reducible refine bdn ?_ _) | (with_reducible refine bset ?_ (by first | exact Nat.le_refl _ | omega | (simp; done) | (simp; omega))) | (with_reducible refine bt ?_ (by with_reducible assumption)))
          have kz := bz.cell; have mz := bz.lt
          clear hwz c0 c1 c2 c3 c4 hbx
          go_cut [146, 165] from 146 to 181 (fun j sv wx => j = .int .i64 q ∧ sv = .bool false ∧ Below wz.heap.size wz wx)
          case first =>
            by_cases hq0 : q = 0
            · subst hq0
              go_quiet (fail)
              go_wp2
              go_meet
              exact ⟨rfl, rfl, by repeat (first | (with_reducible exact Below.refl _ _) | (with_reducible assumption) | (with_reducible refine ba ?_) | (with_reducible refine bd ?_) | (with_reducible refine bdn ?_ _) | (with_reducible refine bset ?_ (by first | exact Nat.le_refl _ | omega | (simp; done) | (simp; omega))) | (with_reducible refine bt ?_ (by with_reducible assumption)))⟩
            · obtain ⟨z0, hz0⟩ : ∃ z0, L[q - 1]? = some z0 := ⟨_, List.getElem?_eq_getElem (by rw [← AH.out]; omega)⟩
              have hord := Ord.step HO.out (q - 1) q z0 z (by omega) hz0 HZ.out
              obtain ⟨g3, off3, he3, hg3, hcs3⟩ := HPK.out (q - 1) z0 hz0
              cases he3
              obtain ⟨c0, c1, c2, c3, c4⟩ := cells5 (cells5_later hg2 hzb hcs3)
              have r1 : decide (z.fr < z0.th) = false := decide_eq_false (by omega)
              have q6 : 0 < q := by omega
              have q1 : (0 : Int) < (q : Int) := by omega
              have q2 : (0 : Int) ≤ (q : Int) - 1 := by omega
              have q3 : (1 : Int) ≤ (q : Int) := by omega
              have q4 : ((q : Int) - 1).toNat = q - 1 := by omega
              have q5 : (q : Int) - 1 < (a : Int) := by omega
              clear hcs3 hz0 hord c0 c2 c3 c4
              go_quiet (fail)
              go_wp2
              go_meet
              exact ⟨rfl, rfl, by repeat (first | (with_reducible exact Below.refl _ _) | (with_reducible assumption) | (with_reducible refine ba ?_) | (with_reducible refine bd ?_) | (with_reducible refine bdn ?_ _) | (with_reducible refine bset ?_ (by first | exact Nat.le_refl _ | omega | (simp; done) | (simp; omega))) | (with_reducible refine bt ?_ (by with_reducible assumption)))⟩
          case rest =>
            obtain ⟨rfl, rfl, hbc⟩ := hcut
            obtain ⟨w6, rfl⟩ : ∃ w6 : World, w6 = wc := ⟨_, rfl⟩
            have bz6 := bz.later hbc
            have hW6 : Below W.heap.size W w6 := hB4.trans ((hzb.trans (hbc.mono hzb.size)).mono hB4.size)
            have h46 : Below w4.heap.size w4 w6 := hzb.trans (hbc.mono hzb.size)
            clear kz mz bz
            go_wp2
            go_loopw [168, 24] (fun j sv wy => ∃ u : Nat, j = .int .i64 u ∧ u ≤ k ∧ Below w6.heap.size w6 wy ∧ ∃ A : Bool, sv = .bool A ∧ Hid (A = (l.take u).any (fun x => decide (x = z)))) (fun j _ _ => k - (intOf j).toNat)
            case atStart => exact ⟨0, rfl, Nat.zero_le _, by repeat (first | (with_reducible exact Below.refl _ _) | (with_reducible assumption) | (with_reducible refine ba ?_) | (with_reducible refine bd ?_) | (with_reducible refine bdn ?_ _) | (with_reducible refine bset ?_ (by first | exact Nat.le_refl _ | omega | (simp; done) | (simp; omega))) | (with_reducible refine bt ?_ (by with_reducible assumption))), false, rfl, rfl⟩
            case round =>
              obtain ⟨u, rfl, huk, hby, A, rfl, HA⟩ := hrel
              by_cases hulk : u < k
              · obtain ⟨y, hy⟩ : ∃ y, l[u]? = some y := ⟨_, List.getElem?_eq_getElem (by rw [← HN.out]; exact hulk)⟩
                obtain ⟨g4, off4, rfl, hg4, hcs4⟩ := HP.out u y hy
                obtain ⟨c0, c1, c2, c3, c4⟩ := cells5 (cells5_later hg4 (hW6.trans (hby.mono hW6.size)) hcs4)
                have hany := any_take hy (fun x => decide (x = z))
                have bzy := bz6.later hby
                have kz := bzy.cell; have mz := bzy.lt
                clear hy hcs4 bzy
                cases A
                · by_cases hyz : y = z
                  · have q1 : eqI ⟨y.fr, y.th, y.off, y.save, y.abbr⟩ ⟨z.fr, z.th, z.off, z.save, z.abbr⟩ = true := decide_eq_true hyz
                    have hnew : true = (l.take (u + 1)).any (fun x => decide (x = z)) := by rw [hany, decide_eq_true hyz, Bool.or_true]
                    have HNEW := Lib.hid hnew
                    clear hany hnew hyz
                    go_wp2
                    go_roundw
                    case rel => exact ⟨u + 1, by go_num, by omega, by repeat (first | (with_reducible exact Below.refl _ _) | (with_reducible assumption) | (with_reducible refine ba ?_) | (with_reducible refine bd ?_) | (with_reducible refine bdn ?_ _) | (with_reducible refine bset ?_ (by first | exact Nat.le_refl _ | omega | (simp; done) | (simp; omega))) | (with_reducible refine bt ?_ (by with_reducible assumption))), true, rfl, HNEW.out⟩
                    case measure => simp [intOf]; omega
                  · have q1 : eqI ⟨y.fr, y.th, y.off, y.save, y.abbr⟩ ⟨z.fr, z.th, z.off, z.save, z.abbr⟩ = false := decide_eq_false hyz
                    have hnew : false = (l.take (u + 1)).any (fun x => decide (x = z)) := by rw [hany, decide_eq_false hyz, Bool.or_false]; exact HA.out
                    have HNEW := Lib.hid hnew
                    clear hany hnew hyz
                    go_wp2
                    go_roundw
                    case rel => exact ⟨u + 1, by go_num, by omega, by repeat (first | (with_reducible exact Below.refl _ _) | (with_reducible assumption) | (with_reducible refine ba ?_) | (with_reducible refine bd ?_) | (with_reducible refine bdn ?_ _) | (with_reducible refine bset ?_ (by first | exact Nat.le_refl _ | omega | (simp; done) | (simp; omega))) | (with_reducible refine bt ?_ (by with_reducible assumption))), false, rfl, HNEW.out⟩
                    case measure => simp [intOf]; omega
                · have hnew : true = (l.take (u + 1)).any (fun x => decide (x = z)) := by rw [hany, ← HA.out, Bool.true_or]
                  have HNEW := Lib.hid hnew
                  clear hany hnew
                  go_wp2
                  go_roundw
                  case rel => exact ⟨u + 1, by go_num, by omega, by repeat (first | (with_reducible exact Below.refl _ _) | (with_reducible assumption) | (with_reducible refine ba ?_) | (with_reducible refine bd ?_) | (with_reducible refine bdn ?_ _) | (with_reducible refine bset ?_ (by first | exact Nat.le_refl _ | omega | (simp; done) | (simp; omega))) | (with_reducible refine bt ?_ (by with_reducible assumption))), true, rfl, HNEW.out⟩
                  case measure => simp [intOf]; omega
              · obtain rfl : u = k := by omega
                obtain rfl : A = true := by rw [HA.out, List.take_of_length_le (by rw [← HN.out]; exact Nat.le_refl _), List.any_eq_true]; exact ⟨z, HZL.out, by simp⟩
                go_wp2
                go_roundw
                case rel => exact ⟨q + 1, by go_num, by omega, by repeat (first | (with_reducible exact Below.refl _ _) | (with_reducible assumption) | (with_reducible refine ba ?_) | (with_reducible refine bd ?_) | (with_reducible refine bdn ?_ _) | (with_reducible refine bset ?_ (by first | exact Nat.le_refl _ | omega | (simp; done) | (simp; omega))) | (with_reducible refine bt ?_ (by with_reducible assumption)))⟩
                case measure => simp [intOf]; omega
        · obtain rfl : q = a := by omega
          obtain ⟨x, xb, hfx⟩ : ∃ x xb, findP L t = (x, xb) := ⟨_, _, rfl⟩
          obtain ⟨na, nb, ka, kb, hnP⟩ : ∃ na nb ka kb, nearP L t = (na, nb, ka, kb) := ⟨_, _, _, _, rfl⟩
          obtain ⟨f1, f2⟩ := near_facts HO.out hnP
          have f3 : xb = true → x.fr ≤ t ∧ t < x.th := fun h => by rw [h] at hfx; exact (find_mem HO.out hfx).2
          have FA := Lib.hid (fun (V : World) (hV : Below w3.heap.size w3 V) => St.find' (St.later HS.out hV) hfx)
          have FN := Lib.hid (fun (V : World) (hV : Below w3.heap.size w3 V) => St.near' (St.later HS.out hV) hnP)
          have F1 := Lib.hid f1; have F2 := Lib.hid f2; have F3 := Lib.hid f3
          clear hfx hnP f1 f2 f3
          cases ka <;> cases kb <;> cases xb
          all_goals
            (try have r1 := F1.out rfl)
            (try have r2 := F2.out rfl)
            (try obtain ⟨r3, r4⟩ := F3.out rfl)
            (try have r5 : na.th ≤ nb.fr := Int.le_of_lt (Int.lt_of_le_of_lt r1 r2))
            go_wp2_with (first
            | (go_at_call 28; (with_reducible refine (FN.out _ ?_).mono ?_); (· repeat (first | (with_reducible exact Below.refl _ _) | (with_reducible assumption) | (with_reducible refine ba ?_) | (with_reducible refine bd ?_) | (with_reducible refine bdn ?_ _) | (with_reducible refine bset ?_ (by first | exact Nat.le_refl _ | omega | (simp; done) | (simp; omega))) | (with_reducible refine bt ?_ (by with_reducible assumption)))); rintro e w7 ⟨rfl, hb7⟩)
            | (go_at_call 26; (with_reducible refine (FA.out _ ?_).mono ?_); (· repeat (first | (with_reducible exact Below.refl _ _) | (with_reducible assumption) | (with_reducible refine ba ?_) | (with_reducible refine bd ?_) | (with_reducible refine bdn ?_ _) | (with_reducible refine bset ?_ (by first | exact Nat.le_refl _ | omega | (simp; done) | (simp; omega))) | (with_reducible refine bt ?_ (by with_reducible assumption)))); rintro e w8 ⟨rfl, hb8⟩; obtain ⟨hc8, hf8⟩ := bcell hb8; have hc8_0 := fun o => hc8 (w7.heap.size) o (by first | assumption | omega | (simp; done) | (simp; omega)); have hf8_0 := fun o => hf8 (w7.heap.size) o (by first | assumption | omega | (simp; done) | (simp; omega)); have hc8_1 := fun o => hc8 (w7.heap.size + 1) o (by first | assumption | omega | (simp; done) | (simp; omega)); have hf8_1 := fun o => hf8 (w7.heap.size + 1) o (by first | assumption | omega | (simp; done) | (simp; omega)); clear hc8 hf8; have hz8_0 : w7.heap.size < w8.heap.size := (by first | exact sz1 hb8 | exact sz2 hb8 | exact sz3 hb8 | (have := hb8.size; (try simp only [World.size_alloc, World.size_drew] at this); omega)); have hz8_1 : w7.heap.size + 1 < w8.heap.size := (by first | exact sz1 hb8 | exact sz2 hb8 | exact sz3 hb8 | (have := hb8.size; (try simp only [World.size_alloc, World.size_drew] at this); omega))))
            go_ret
            exact ⟨rfl, by repeat (first | (with_reducible exact Below.refl _ _) | (with_reducible assumption) | (with_reducible refine ba ?_) | (with_reducible refine bd ?_) | (with_reducible refine bdn ?_ _) | (with_reducible refine bset ?_ (by first | exact Nat.le_refl _ | omega | (simp; done) | (simp; omega))) | (with_reducible refine bt ?_ (by with_reducible assumption)))⟩
end StT
end Go.Proofs.Ytjgodnakhbkgeaa
