import Derived.Test.YtecmipgpldcfcaaGreatDoorG30
import Derived.Test.YtecmipgpldcfcaaGreatDoorG12
namespace Go.Proofs.YtecmipgpldcfcaaGreatDoor
open Go.RowKit NB
namespace L34
open Pt
theorem val_c {w : World} {a b c d : Nat} (hx : HoldsT w (two (.slice (some ⟨a, 0, none⟩) 2 2) (.slice (some ⟨b, 0, none⟩) 2 2) (.slice (some ⟨c, 0, none⟩) 2 2) (.slice (some ⟨d, 0, none⟩) 1 1))) (tb : Tab w) {zone s : Int} {o v : Int} {x : ByteArray} {k : Int} (hs : I64 s) (h : ∀ rv zv va ve, valV (two rv zv va ve) zone s = (⟨o, v, x⟩, k)) :
    Calls Tryz.prog 11 #[.agg #[.slice (some ⟨a, 0, none⟩) 2 2, .slice (some ⟨b, 0, none⟩) 2 2, .slice none 0 0], .int .i64 zone, .int .i64 s] w fun e w' => e = .returned (.tuple #[.agg #[.int .i64 o, .int .i64 v, .string x], .int .i64 k]) ∧ Below w.heap.size w w' := by
  have := ValueC hx (ok_two _ _ _ _) tb zone s hs
  rw [h] at this
  exact this
theorem era_c {w : World} {a b c d : Nat} (hx : HoldsT w (two (.slice (some ⟨a, 0, none⟩) 2 2) (.slice (some ⟨b, 0, none⟩) 2 2) (.slice (some ⟨c, 0, none⟩) 2 2) (.slice (some ⟨d, 0, none⟩) 1 1))) (tb : Tab w) {zone s : Int} {i k : Int} (hs : I64 s) (h : ∀ rv zv va ve, eraV (two rv zv va ve) zone s = (i, k)) :
    Calls Tryz.prog 9 #[.agg #[.slice (some ⟨a, 0, none⟩) 2 2, .slice (some ⟨b, 0, none⟩) 2 2, .slice none 0 0], .int .i64 zone, .int .i64 s] w fun e w' => e = .returned (.tuple #[.int .i64 i, .int .i64 k]) ∧ Below w.heap.size w w' := by
  have := Era hx (ok_two _ _ _ _) tb zone s hs
  rw [h] at this
  exact this
set_option maxRecDepth 100000 in
set_option maxHeartbeats 6400000 in
theorem lives (w : World) (tb : Tab w) : Calls Tryz.prog 8 #[] w fun e w' => e = .returned (.bool true) ∧ Below w.heap.size w w' := by
  have cT := Two
  have HTB := Lib.hid tb
  have v1 := fun (a b c d : Nat) (W : World) (h : HoldsT W (two (.slice (some ⟨a, 0, none⟩) 2 2) (.slice (some ⟨b, 0, none⟩) 2 2) (.slice (some ⟨c, 0, none⟩) 2 2) (.slice (some ⟨d, 0, none⟩) 1 1))) (tb : Tab W) => val_c h tb (zone := 0) (s := -631155601) (by unfold I64;decide) v1
  have v2 := fun (a b c d : Nat) (W : World) (h : HoldsT W (two (.slice (some ⟨a, 0, none⟩) 2 2) (.slice (some ⟨b, 0, none⟩) 2 2) (.slice (some ⟨c, 0, none⟩) 2 2) (.slice (some ⟨d, 0, none⟩) 1 1))) (tb : Tab W) => val_c h tb (zone := 0) (s := -631155600) (by unfold I64;decide) v2
  have v3 := fun (a b c d : Nat) (W : World) (h : HoldsT W (two (.slice (some ⟨a, 0, none⟩) 2 2) (.slice (some ⟨b, 0, none⟩) 2 2) (.slice (some ⟨c, 0, none⟩) 2 2) (.slice (some ⟨d, 0, none⟩) 1 1))) (tb : Tab W) => val_c h tb (zone := 1) (s := 1719792000) (by unfold I64;decide) v3
  have v4 := fun (a b c d : Nat) (W : World) (h : HoldsT W (two (.slice (some ⟨a, 0, none⟩) 2 2) (.slice (some ⟨b, 0, none⟩) 2 2) (.slice (some ⟨c, 0, none⟩) 2 2) (.slice (some ⟨d, 0, none⟩) 1 1))) (tb : Tab W) => val_c h tb (zone := 2) (s := 0) (by unfold I64;decide) v4
  have v5 := fun (a b c d : Nat) (W : World) (h : HoldsT W (two (.slice (some ⟨a, 0, none⟩) 2 2) (.slice (some ⟨b, 0, none⟩) 2 2) (.slice (some ⟨c, 0, none⟩) 2 2) (.slice (some ⟨d, 0, none⟩) 1 1))) (tb : Tab W) => val_c h tb (zone := -1) (s := 971890963200) (by unfold I64;decide) v5
  have v6 := fun (a b c d : Nat) (W : World) (h : HoldsT W (two (.slice (some ⟨a, 0, none⟩) 2 2) (.slice (some ⟨b, 0, none⟩) 2 2) (.slice (some ⟨c, 0, none⟩) 2 2) (.slice (some ⟨d, 0, none⟩) 1 1))) (tb : Tab W) => val_c h tb (zone := 0) (s := 971890963200) (by unfold I64;decide) v6
  have v7 := fun (a b c d : Nat) (W : World) (h : HoldsT W (two (.slice (some ⟨a, 0, none⟩) 2 2) (.slice (some ⟨b, 0, none⟩) 2 2) (.slice (some ⟨c, 0, none⟩) 2 2) (.slice (some ⟨d, 0, none⟩) 1 1))) (tb : Tab W) => val_c h tb (zone := 0) (s := -1096193779201) (by unfold I64;decide) v7
  have e8 := fun (a b c d : Nat) (W : World) (h : HoldsT W (two (.slice (some ⟨a, 0, none⟩) 2 2) (.slice (some ⟨b, 0, none⟩) 2 2) (.slice (some ⟨c, 0, none⟩) 2 2) (.slice (some ⟨d, 0, none⟩) 1 1))) (tb : Tab W) => era_c h tb (zone := 0) (s := -631155601) (by unfold I64;decide) e8
  have e9 := fun (a b c d : Nat) (W : World) (h : HoldsT W (two (.slice (some ⟨a, 0, none⟩) 2 2) (.slice (some ⟨b, 0, none⟩) 2 2) (.slice (some ⟨c, 0, none⟩) 2 2) (.slice (some ⟨d, 0, none⟩) 1 1))) (tb : Tab W) => era_c h tb (zone := 0) (s := 971890963199) (by unfold I64;decide) e9
  have V1 := Lib.hid v1;have V2 := Lib.hid v2;have V3 := Lib.hid v3;have V4 := Lib.hid v4;have V5 := Lib.hid v5;have V6 := Lib.hid v6;have V7 := Lib.hid v7;have E8 := Lib.hid e8;have E9 := Lib.hid e9;have CT := Lib.hid cT
  clear v1 v2 v3 v4 v5 v6 v7 e8 e9 cT tb
  go_enter Tryz.func8, Tryz.ntmps8
  go_upto_region 2 with (go_at_call 22;(with_reducible refine (CT.out _).mono ?_);rintro e w1 ⟨a, b, c, d, rfl, hx, hb1⟩;have HX := Lib.hid hx;clear hx)
  have hs1 : w1.heap.size < w1.heap.size + 1 := by omega
  go_upto_region 11 with (first
    | (go_at_call 11;(with_reducible refine (V1.out a b c d _ ?_ ?_).mono ?_);(· exact HX.out.later bcq);(· exact HTB.out.later bcq);rintro e w3 ⟨rfl, hb3⟩;obtain ⟨hc3_0, hf3_0, hz3_0⟩ := bcs hb3 (w1.heap.size))
    | (go_at_call 11;(with_reducible refine (V2.out a b c d _ ?_ ?_).mono ?_);(· exact HX.out.later bcq);(· exact HTB.out.later bcq);rintro e w4 ⟨rfl, hb4⟩;obtain ⟨hc4_0, hf4_0, _⟩ := bcs hb4 (w1.heap.size);obtain ⟨hc4_1, hf4_1, hz4_1⟩ := bcs hb4 (w3.heap.size);have hz4_0 : w1.heap.size < w4.heap.size := (by first|exact sz1 hb4|exact sz2 hb4|exact sz3 hb4|(have := hb4.size;(try simp only [World.size_alloc] at this);omega)))
    | (go_at_call 11;(with_reducible refine (V3.out a b c d _ ?_ ?_).mono ?_);(· exact HX.out.later bcq);(· exact HTB.out.later bcq);rintro e w5 ⟨rfl, hb5⟩;obtain ⟨hc5_0, hf5_0, _⟩ := bcs hb5 (w1.heap.size);obtain ⟨hc5_1, hf5_1, _⟩ := bcs hb5 (w3.heap.size);obtain ⟨hc5_2, hf5_2, hz5_2⟩ := bcs hb5 (w4.heap.size);have hz5_0 : w1.heap.size < w5.heap.size := (by first|exact sz1 hb5|exact sz2 hb5|exact sz3 hb5|(have := hb5.size;(try simp only [World.size_alloc] at this);omega));have hz5_1 : w3.heap.size < w5.heap.size := (by first|exact sz1 hb5|exact sz2 hb5|exact sz3 hb5|(have := hb5.size;(try simp only [World.size_alloc] at this);omega)))
    | (go_at_call 11;(with_reducible refine (V4.out a b c d _ ?_ ?_).mono ?_);(· exact HX.out.later bcq);(· exact HTB.out.later bcq);rintro e w6 ⟨rfl, hb6⟩;obtain ⟨hc6_0, hf6_0, _⟩ := bcs hb6 (w1.heap.size);obtain ⟨hc6_1, hf6_1, _⟩ := bcs hb6 (w3.heap.size);obtain ⟨hc6_2, hf6_2, _⟩ := bcs hb6 (w4.heap.size);obtain ⟨hc6_3, hf6_3, hz6_3⟩ := bcs hb6 (w5.heap.size);have hz6_0 : w1.heap.size < w6.heap.size := (by first|exact sz1 hb6|exact sz2 hb6|exact sz3 hb6|(have := hb6.size;(try simp only [World.size_alloc] at this);omega));have hz6_1 : w3.heap.size < w6.heap.size := (by first|exact sz1 hb6|exact sz2 hb6|exact sz3 hb6|(have := hb6.size;(try simp only [World.size_alloc] at this);omega));have hz6_2 : w4.heap.size < w6.heap.size := (by first|exact sz1 hb6|exact sz2 hb6|exact sz3 hb6|(have := hb6.size;(try simp only [World.size_alloc] at this);omega)))
    | (go_at_call 11;(with_reducible refine (V5.out a b c d _ ?_ ?_).mono ?_);(· exact HX.out.later bcq);(· exact HTB.out.later bcq);rintro e w7 ⟨rfl, hb7⟩;obtain ⟨hc7_0, hf7_0, _⟩ := bcs hb7 (w1.heap.size);obtain ⟨hc7_1, hf7_1, _⟩ := bcs hb7 (w3.heap.size);obtain ⟨hc7_2, hf7_2, _⟩ := bcs hb7 (w4.heap.size);obtain ⟨hc7_3, hf7_3, _⟩ := bcs hb7 (w5.heap.size);have hz7_0 : w1.heap.size < w7.heap.size := (by first|exact sz1 hb7|exact sz2 hb7|exact sz3 hb7|(have := hb7.size;(try simp only [World.size_alloc] at this);omega));have hz7_1 : w3.heap.size < w7.heap.size := (by first|exact sz1 hb7|exact sz2 hb7|exact sz3 hb7|(have := hb7.size;(try simp only [World.size_alloc] at this);omega));have hz7_2 : w4.heap.size < w7.heap.size := (by first|exact sz1 hb7|exact sz2 hb7|exact sz3 hb7|(have := hb7.size;(try simp only [World.size_alloc] at this);omega));have hz7_3 : w5.heap.size < w7.heap.size := (by first|exact sz1 hb7|exact sz2 hb7|exact sz3 hb7|(have := hb7.size;(try simp only [World.size_alloc] at this);omega)))
    | (go_at_call 11;(with_reducible refine (V6.out a b c d _ ?_ ?_).mono ?_);(· exact HX.out.later bcq);(· exact HTB.out.later bcq);rintro e w8 ⟨rfl, hb8⟩;obtain ⟨hc8_0, hf8_0, _⟩ := bcs hb8 (w1.heap.size);obtain ⟨hc8_1, hf8_1, _⟩ := bcs hb8 (w3.heap.size);obtain ⟨hc8_2, hf8_2, _⟩ := bcs hb8 (w4.heap.size);obtain ⟨hc8_3, hf8_3, _⟩ := bcs hb8 (w5.heap.size);have hz8_0 : w1.heap.size < w8.heap.size := (by first|exact sz1 hb8|exact sz2 hb8|exact sz3 hb8|(have := hb8.size;(try simp only [World.size_alloc] at this);omega));have hz8_1 : w3.heap.size < w8.heap.size := (by first|exact sz1 hb8|exact sz2 hb8|exact sz3 hb8|(have := hb8.size;(try simp only [World.size_alloc] at this);omega));have hz8_2 : w4.heap.size < w8.heap.size := (by first|exact sz1 hb8|exact sz2 hb8|exact sz3 hb8|(have := hb8.size;(try simp only [World.size_alloc] at this);omega));have hz8_3 : w5.heap.size < w8.heap.size := (by first|exact sz1 hb8|exact sz2 hb8|exact sz3 hb8|(have := hb8.size;(try simp only [World.size_alloc] at this);omega)))
    | (go_at_call 11;(with_reducible refine (V7.out a b c d _ ?_ ?_).mono ?_);(· exact HX.out.later bcq);(· exact HTB.out.later bcq);rintro e w9 ⟨rfl, hb9⟩;obtain ⟨hc9_0, hf9_0, _⟩ := bcs hb9 (w1.heap.size);obtain ⟨hc9_1, hf9_1, _⟩ := bcs hb9 (w3.heap.size);obtain ⟨hc9_2, hf9_2, _⟩ := bcs hb9 (w4.heap.size);obtain ⟨hc9_3, hf9_3, _⟩ := bcs hb9 (w5.heap.size);have hz9_0 : w1.heap.size < w9.heap.size := (by first|exact sz1 hb9|exact sz2 hb9|exact sz3 hb9|(have := hb9.size;(try simp only [World.size_alloc] at this);omega));have hz9_1 : w3.heap.size < w9.heap.size := (by first|exact sz1 hb9|exact sz2 hb9|exact sz3 hb9|(have := hb9.size;(try simp only [World.size_alloc] at this);omega));have hz9_2 : w4.heap.size < w9.heap.size := (by first|exact sz1 hb9|exact sz2 hb9|exact sz3 hb9|(have := hb9.size;(try simp only [World.size_alloc] at this);omega));have hz9_3 : w5.heap.size < w9.heap.size := (by first|exact sz1 hb9|exact sz2 hb9|exact sz3 hb9|(have := hb9.size;(try simp only [World.size_alloc] at this);omega)))
    | (go_at_call 9;(with_reducible refine (E8.out a b c d _ ?_ ?_).mono ?_);(· exact HX.out.later bcq);(· exact HTB.out.later bcq);rintro e w10 ⟨rfl, hb10⟩;obtain ⟨hc10_0, hf10_0, _⟩ := bcs hb10 (w1.heap.size);obtain ⟨hc10_1, hf10_1, _⟩ := bcs hb10 (w3.heap.size);obtain ⟨hc10_2, hf10_2, _⟩ := bcs hb10 (w4.heap.size);obtain ⟨hc10_3, hf10_3, _⟩ := bcs hb10 (w5.heap.size);have hz10_0 : w1.heap.size < w10.heap.size := (by first|exact sz1 hb10|exact sz2 hb10|exact sz3 hb10|(have := hb10.size;(try simp only [World.size_alloc] at this);omega));have hz10_1 : w3.heap.size < w10.heap.size := (by first|exact sz1 hb10|exact sz2 hb10|exact sz3 hb10|(have := hb10.size;(try simp only [World.size_alloc] at this);omega));have hz10_2 : w4.heap.size < w10.heap.size := (by first|exact sz1 hb10|exact sz2 hb10|exact sz3 hb10|(have := hb10.size;(try simp only [World.size_alloc] at this);omega));have hz10_3 : w5.heap.size < w10.heap.size := (by first|exact sz1 hb10|exact sz2 hb10|exact sz3 hb10|(have := hb10.size;(try simp only [World.size_alloc] at this);omega)))
    | (go_at_call 9;(with_reducible refine (E9.out a b c d _ ?_ ?_).mono ?_);(· exact HX.out.later bcq);(· exact HTB.out.later bcq);rintro e w11 ⟨rfl, hb11⟩;obtain ⟨hc11_0, hf11_0, hz11_0⟩ := bcs hb11 (w3.heap.size);obtain ⟨hc11_1, hf11_1, hz11_1⟩ := bcs hb11 (w4.heap.size);obtain ⟨hc11_2, hf11_2, hz11_2⟩ := bcs hb11 (w5.heap.size)))
  go_wp2
  go_ret
  exact ⟨rfl, bcq⟩
end L34
end Go.Proofs.YtecmipgpldcfcaaGreatDoor
namespace Go.Proofs.YtecmipgpldcfcaaGreatDoor
open Go.RowKit NB Nxt
namespace Zn
set_option maxRecDepth 100000 in
set_option maxHeartbeats 6400000 in
theorem REnds {w : World} {v r : Value} {l : List RuleV} {es : List EraV} (hr : Holds w r l) (h : HoldsE w v es) (name : ByteArray) (hn : es.length ≤ 100000) : Calls Tryz.prog 24 #[r, .agg #[.string name, v]] w (EndsPost w l es) := by
  have hat := fun (k : Nat) (e : EraV) (he : es[k]? = some e) => h.at he
  have hfit := h.fit
  have cz := fun W (h : HoldsE W v es) => Zone h name
  obtain ⟨p, cap, rfl⟩ := h.form
  obtain ⟨j0, hj0, hz0, hz1, hz2⟩ := info_parts info_i64
  have ci := fun (e : EraV) (he : e.Fit) W (h : Holds W r l) => RUnt.Instant h e he
  have hll : ∀ k : Nat, k < es.length → ∃ e, es[k]? = some e := fun k hk => ⟨es[k], by simp⟩
  have hok : zoneB es = true → OkTo es es.length := fun hz => (zone_iff.1 hz).2
  have hfin : ∀ k, k = es.length → endsL l (es.take k) = endsL l es := fun k hk => by rw [hk, List.take_length]
  obtain ⟨rp, rc, rfl⟩ := hr.form
  unfold EndsPost endsR endsE
  have HE := Lib.hid h
  have HH := Lib.hid hr
  clear h hr
  cases hzb : zoneB es
  · rw [hzb] at cz
    have Cz := Lib.hid cz
    clear cz hok hzb hat hfit ci hll hfin
    generalize es.length = n at *
    generalize l.length = ln at *
    go_enter Tryz.func24, Tryz.ntmps24
    go_wp2_with (go_at_call 45;(with_reducible refine (Cz.out _ ?_).mono ?_);(· exact HE.out.later bcq);rintro e w1 ⟨rfl, hb1⟩;obtain ⟨hc1_0, hf1_0, hz1_0⟩ := bcs hb1 (w.heap.size))
    go_ret2
    exact ⟨_, rfl, World.ownsRow_nil _ _ _ _, bcq⟩
  · rw [hzb] at cz
    have hto := hok hzb
    unfold OkTo okAt at hto
    have hright : ∀ k e, k < es.length → es[k]? = some e → Er.rightB e = true := fun k e hk he => by
      have := hto k e hk he
      rw [Bool.and_eq_true] at this
      exact this.1
    have Cz := Lib.hid cz
    have Hat := Lib.hid hat
    have Hft := Lib.hid hfit
    have HLL := Lib.hid hll
    have Hfin := Lib.hid hfin
    have Ci := Lib.hid ci
    clear cz hok hzb hto hat hfit ci hll hfin
    generalize es.length = n at *
    generalize l.length = ln at *
    have HRt := Lib.hid hright
    clear hright
    go_enter Tryz.func24, Tryz.ntmps24
    go_wp2_with (go_at_call 45;(with_reducible refine (Cz.out _ ?_).mono ?_);(· exact HE.out.later bcq);rintro e w1 ⟨rfl, hb1⟩;obtain ⟨hc1_0, hf1_0, hz1_0⟩ := bcs hb1 (w.heap.size))
    have hBV : Below w.heap.size w w1 := bcq
    clear hb1 hc1_0 hf1_0
    go_loopw [17, 6] (fun z out wr => ∃ (k : Nat) (q : Option Addr) (c : Nat), z = .int .i64 k ∧ k ≤ n ∧ out = .slice q (endsL l (es.take k)).length c ∧ wr.ownsRow w.heap.size 2 1 (.slice q (endsL l (es.take k)).length c) (endsL l (es.take k)).length (ints (endsL l (es.take k))) ∧ Below w.heap.size w wr) (fun z _ _ => n - (intOf z).toNat)
    case atStart => exact ⟨0, none, 0, rfl, Nat.zero_le _, rfl, World.ownsRow_nil _ _ _ _, hBV⟩
    case round =>
      clear hBV
      obtain ⟨k, q, c, rfl, hk, rfl, hown, hbel⟩ := hrel
      have hLk := endsL_len l es k
      have Hbel := Lib.hid hbel
      have hbs := hbel.size
      by_cases hlt : k < n
      · obtain ⟨e, he⟩ := HLL.out k hlt
        have hes := endsL_succ (l := l) he
        generalize endsL l (es.take k) = L at *
        have Hown := Lib.hid hown
        have HES := Lib.hid hes
        clear hbel hown hes
        obtain ⟨b, off, cap', hq, hb, hcl⟩ := Hat.out k e he
        simp only [Value.slice.injEq] at hq
        obtain ⟨rfl, -, -⟩ := hq
        have ci := fun W h => Ci.out e (Hft.out e (List.mem_of_getElem? he)) W h
        have hg := HRt.out k e hlt he
        have hi : (Unt.instU l e).2 = if e.u.has then 0 else 12 := by
          unfold Unt.instU
          rw [if_pos hg]
          split <;> rfl
        generalize (Unt.instU l e).1 = t at *
        generalize (Unt.instU l e).2 = tw at *
        have hd : ∀ (j : Nat) (u : Value), e.cells[j]? = some u → wr.cell? ⟨b, off + k * 13 + j, none⟩ = some u := fun j u hu => (Hbel.out.cell (p := ⟨b, off + k * 13 + j, none⟩) hb).trans (hcl j u hu)
        unfold EraV.cells at hd ci
        have d0 := hd 0 _ rfl
        have d1 := hd 1 _ rfl
        have d2 := hd 2 _ rfl
        have d3 := hd 3 _ rfl
        have d4 := hd 4 _ rfl
        have d5 := hd 5 _ rfl
        have d6 := hd 6 _ rfl
        have d7 := hd 7 _ rfl
        have d8 := hd 8 _ rfl
        have d9 := hd 9 _ rfl
        have d10 := hd 10 _ rfl
        have d11 := hd 11 _ rfl
        have d12 := hd 12 _ rfl
        simp only [Nat.add_zero] at d0
        clear hd hcl he hb hg
        generalize e.u.has = has at *
        have CI := Lib.hid ci
        clear ci
        cases has
        all_goals
          have hes := HES.out
          simp only [if_true, if_false, Bool.false_eq_true, List.append_nil] at hes hi
          have HEQ := Lib.hid hes
          clear HES hes
          go_wp2_with (first
            | (go_at_call 46;(with_reducible refine (CI.out _ ?_).mono ?_);(· exact HH.out.later (bt Hbel.out bcq));rintro x w2 ⟨rfl, hb2⟩;have hs2 := hb2.size)
            | (at_builtin;refine wpList_append_own _ (by rfl) _ _ 40 (by rfl) w.heap.size 2 j0 _ 1 8 Tryz.underlying40 hj0 hz0 hz1 hz2 (by rfl) (by decide) _ L.length _ (by rfl) ((own_later Hown.out (show Below wr.heap.size wr w2 from bcq)).alloc _) ⟨w2.heap.size, 0, none⟩ 1 1 [.int .i64 t] (by rfl) (by rfl) (All.news_box (cs := #[.int .i64 t]) (t := 2) (Box.new _ _ _)) ?_ ?_ ?_ ?_ ?_;(· intro u hu;simp only [List.mem_cons, List.not_mem_nil, or_false] at hu;rcases hu with rfl;rfl);(· unfold maxLen;omega);(· first|omega|(simp;done)|(simp at *;omega));(· first|omega|(simp;done)|(simp at *;omega));intro v' w4 hown' hgrow _;obtain ⟨g4, cap4, rfl⟩ := ownsRow_succ hown'))
          have hbel := Hbel.out
          first
            | (have hB4 : Below w.heap.size w w4 := (ba (show Below w.heap.size w w2 from bcq)).grown hgrow (by simp at *;omega) (fun j e => ROcc.own_row Hown.out j e)
               have e1 : (L ++ [t]).length = L.length + 1 := by simp
               have e2 : ints (L ++ [t]) = ints L ++ [.int .i64 t] := by simp [ints]
               go_roundw
               case rel => exact ⟨k + 1, some ⟨g4, 0, none⟩, cap4, by go_num, hlt, by rw [HEQ.out, e1], by rw [HEQ.out, e1, e2];exact hown', hB4⟩
               case measure => simp [intOf];omega)
            | (go_roundw
               case rel => exact ⟨k + 1, q, c, by go_num, hlt, by rw [HEQ.out], by rw [HEQ.out];exact own_later Hown.out bcq, bcq⟩
               case measure => simp [intOf];omega)
      · have hkn : k = n := by omega
        have hL := Hfin.out k hkn
        rw [hL] at hown ⊢
        have Hown := Lib.hid hown
        clear hown hbel
        go_wp2
        go_ret2
        exact ⟨_, rfl, by simpa using Hown.out, Hbel.out⟩
end Zn
end Go.Proofs.YtecmipgpldcfcaaGreatDoor
namespace Go.Proofs.YtecmipgpldcfcaaGreatDoor
open Go.RowKit NB
namespace Pt
theorem rends_c {w : World} {t : TabV} (ht : HoldsT w t) (hf : Ok t) {z : ZoneV} (hz : z ∈ t.zs) : Calls Tryz.prog 24 #[t.rv, .agg #[.string z.name, z.v]] w fun e w' => ∃ v, e = .returned (.tuple #[v, .int .i64 0]) ∧ HoldsG 1 intC w' v (Zn.endsL t.rs z.es) ∧ Below w.heap.size w w' :=
  (Zn.REnds ht.r (ht.zf z hz).e z.name (by have := hf.en z hz;omega)).mono fun _ _ h => ends_h (hf.good z hz) h
set_option maxRecDepth 100000 in
set_option maxHeartbeats 3200000 in
theorem REra {w : World} {t : TabV} (ht : HoldsT w t) (hf : Ok t) (zone s : Int) (_hs : I64 s) :
    Calls Tryz.prog 10 #[.agg #[t.rv, t.zv, t.lv], .int .i64 zone, .int .i64 s] w fun e w' => e = .returned (.tuple #[.int .i64 (eraV t zone s).1, .int .i64 (eraV t zone s).2]) ∧ Below w.heap.size w w' := by
  have ce := fun (W : World) (h : HoldsT W t) (z : ZoneV) hz => rends_c h hf (z := z) hz
  have HTT := Lib.hid ht
  obtain ⟨p, cap, e1⟩ := ht.r.form
  obtain ⟨pz, capz, e3, hpz⟩ := ht.z.pk
  have hfz := ht.zf
  by_cases h0 : zone < 0
  · rw [(val_none s (zone_none (t := t) (.inl h0))).2]
    obtain ⟨rv, zv, lv, rs, zs, ls⟩ := t
    dsimp only at e1 e3 ⊢
    subst e1 e3
    clear ce HTT hpz hfz ht hf
    go_enter Tryz.func10, Tryz.ntmps10
    go_wp2
    go_ret2
    exact ⟨rfl, bcq⟩
  by_cases h1 : (t.zs.length : Int) ≤ zone
  · rw [(val_none s (zone_none (t := t) (.inr h1))).2]
    obtain ⟨rv, zv, lv, rs, zs, ls⟩ := t
    dsimp only at e1 e3 h1 ⊢
    subst e1 e3
    clear ce HTT hpz hfz ht hf
    go_enter Tryz.func10, Tryz.ntmps10
    go_wp2
    go_ret2
    exact ⟨rfl, bcq⟩
  obtain ⟨k, rfl⟩ : ∃ k : Nat, zone = (k : Int) := ⟨zone.toNat, by omega⟩
  obtain ⟨z, hzz, hz⟩ := zone_some (t := t) (zone := (k : Int)) (by omega) (by omega)
  rw [Int.toNat_natCast] at hz
  by_cases ho : s < lo ∨ hi < s
  · rw [(val_out hzz ho).2]
    obtain ⟨rv, zv, lv, rs, zs, ls⟩ := t
    dsimp only at e1 e3 h1 ⊢
    subst e1 e3
    clear ce HTT hpz hfz ht hf hz hzz
    unfold lo hi at ho
    by_cases h2 : s < -1096193779200
    · go_enter Tryz.func10, Tryz.ntmps10
      go_wp2
      go_ret2
      exact ⟨rfl, bcq⟩
    · have h3 : 971890963199 < s := by omega
      go_enter Tryz.func10, Tryz.ntmps10
      go_wp2
      go_ret2
      exact ⟨rfl, bcq⟩
  have hzm := (zone_mem hzz).2.2.2
  have hg := hf.good z hzm
  have hen := hf.en z hzm
  have hev : eraV t (k : Int) s = (((idx (Zn.endsL t.rs z.es) s : Nat) : Int), 0) := by
    unfold eraV
    rw [hzz]
    simp only
    rw [if_neg ho]
  have ce2 := fun (W : World) (h : HoldsT W t) => ce W h z hzm
  clear ce
  rw [hev]
  unfold lo hi at ho
  obtain ⟨I, hI⟩ : ∃ I, I = idx (Zn.endsL t.rs z.es) s := ⟨_, rfl⟩
  rw [← hI]
  obtain ⟨L, hL⟩ : ∃ L, L = Zn.endsL t.rs z.es := ⟨_, rfl⟩
  rw [← hL] at ce2 hI
  clear hL hg hen hev
  obtain ⟨g1, o1, e4, hg1, d1⟩ := hpz k z hz
  have x0 := d1 0 _ rfl
  have x1 := d1 1 _ rfl
  rw [Nat.add_zero] at x0
  obtain ⟨pp, cc, e5⟩ := (hfz z hzm).e.form
  obtain ⟨rv, zv, lv, rs, zs, ls⟩ := t
  obtain ⟨nm, xv, es⟩ := z
  dsimp only at e1 e3 e4 e5 h1 ce2 x0 x1 HTT ⊢
  subst e1 e3 e4 e5
  generalize es.length = m at *
  generalize rs.length = n at *
  generalize zs.length = nz at *
  have CE := Lib.hid ce2;have HI := Lib.hid hI
  clear ce2 hI hpz hfz ht hf hz hzz hzm d1
  have q1 : ¬ s < -1096193779200 := by omega
  have q2 : ¬ 971890963199 < s := by omega
  have q3 : k < nz := by omega
  clear ho
  go_enter Tryz.func10, Tryz.ntmps10
  go_upto_region 1 with fail
  obtain ⟨w1, hw1⟩ : ∃ V, V = w.alloc (.cells #[.slice p n cap, .slice (some ⟨g1, o1, none⟩) nz capz, lv] 26) := ⟨_, rfl⟩
  have b1 : Box w1 w.heap.size #[.slice p n cap, .slice (some ⟨g1, o1, none⟩) nz capz, lv] 26 := by rw [hw1];exact Box.new _ _ _
  have hB1 : Below w.heap.size w w1 := by rw [hw1];exact bcq
  rw [← hw1]
  clear hw1
  have HS := Lib.hid (fun (V : World) (h : Below w1.heap.size w1 V) => (⟨(b1.later h).cell, ((hB1.trans (h.mono hB1.size)).cell (p := ⟨g1, o1 + k * 2, none⟩) hg1).trans x0, ((hB1.trans (h.mono hB1.size)).cell (p := ⟨g1, o1 + k * 2 + 1, none⟩) hg1).trans x1⟩ : (∀ j, V.cell? ⟨w.heap.size, j, none⟩ = (#[.slice p n cap, .slice (some ⟨g1, o1, none⟩) nz capz, lv] : Array Value)[j]?) ∧ V.cell? ⟨g1, o1 + k * 2, none⟩ = some (.string nm) ∧ V.cell? ⟨g1, o1 + k * 2 + 1, none⟩ = some (.slice pp m cc)))
  obtain ⟨c1, y0, y1⟩ := HS.out w1 (Below.refl _ _)
  have HB1 := Lib.hid hB1
  clear x0 x1 hB1
  go_upto_region 5 with fail
  go_region_held3 (fun w' => (∀ j, w'.cell? ⟨w.heap.size, j, none⟩ = (#[.slice p n cap, .slice (some ⟨g1, o1, none⟩) nz capz, lv] : Array Value)[j]?) ∧ w'.cell? ⟨g1, o1 + k * 2, none⟩ = some (.string nm) ∧ w'.cell? ⟨g1, o1 + k * 2 + 1, none⟩ = some (.slice pp m cc)) ((refine HS.out _ ?_;exact bcq)) (first
    | (go_at_call 24;(with_reducible refine (CE.out _ ?_).mono ?_);(· exact HTT.out.later (HB1.out.trans (Below.mono bcq HB1.out.size)));rintro e w2 ⟨v2, rfl, hl2, hb2⟩;have HB2 := Lib.hid (HB1.out.trans (Below.mono (show Below w1.heap.size w1 w2 from bcq) HB1.out.size));have HL2 := Lib.hid hl2;clear hl2))
  obtain ⟨pl, capl, rfl, hpl⟩ := HL2.out.pkI
  have hlen := HL2.out.len
  obtain ⟨N, hN⟩ : ∃ N, N = L.length := ⟨_, rfl⟩
  rw [← hN] at hlen ⊢
  have HPL := Lib.hid hpl;have HN := Lib.hid hN
  clear hpl hN
  go_upto_region 7 with fail
  go_loop [40] (fun i => ∃ j : Nat, i = .int .i64 j ∧ j ≤ N ∧ Hid (∀ m x, m < j → L[m]? = some x → x ≤ s)) (fun i => N - (intOf i).toNat)
  case atStart => exact ⟨0, rfl, Nat.zero_le _, fun m x hm => absurd hm (Nat.not_lt_zero _)⟩
  case round =>
    obtain ⟨j, rfl, hj, I1⟩ := hrel
    by_cases hlt : j < N
    · obtain ⟨x, hx⟩ : ∃ x, L[j]? = some x := ⟨_, List.getElem?_eq_getElem (by rw [← HN.out];exact hlt)⟩
      obtain ⟨b, off, rfl, hb, c0⟩ := HPL.out j x hx
      have HX := Lib.hid hx
      clear hx
      have q5 : (j : Int) < (N : Int) := by omega
      by_cases hxs : s < x
      · have hp : I = j := HI.out.trans <| idx_of (by rw [← HN.out];exact hj) (fun y hy => by rw [HX.out] at hy;cases hy;exact hxs) (fun m y hm hy => I1.out m y hm hy)
        subst hp
        go_wp2
        go_ret2
        exact ⟨rfl, HB2.out⟩
      · go_wp2
        go_round
        case rel =>
          refine ⟨j + 1, by go_num, by omega, fun m y hm hy => ?_⟩
          by_cases hmm : m = j
          · subst hmm
            rw [HX.out] at hy
            cases hy
            omega
          · exact I1.out m y (by omega) hy
        case measure => simp [intOf];omega
    · have hp : I = j := HI.out.trans <| idx_of (by rw [← HN.out];exact hj) (fun y hy => by have := (List.getElem?_eq_some_iff.1 hy).1;rw [← HN.out] at this;omega) (fun m y hm hy => I1.out m y hm hy)
      subst hp
      obtain rfl : I = N := by omega
      go_wp2
      go_ret2
      exact ⟨rfl, HB2.out⟩
end Pt
end Go.Proofs.YtecmipgpldcfcaaGreatDoor
