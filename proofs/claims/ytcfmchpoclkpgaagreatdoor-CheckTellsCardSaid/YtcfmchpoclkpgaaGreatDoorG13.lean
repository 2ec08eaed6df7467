import Derived.Test.YtcfmchpoclkpgaaGreatDoorG4
import Derived.Test.YtcfmchpoclkpgaaGreatDoorRNext
import Derived.Test.YtcfmchpoclkpgaaGreatDoorG8
import Derived.Test.YtcfmchpoclkpgaaGreatDoorG9
import Derived.Test.YtcfmchpoclkpgaaGreatDoorG10
namespace Go.Proofs.YtcfmchpoclkpgaaGreatDoor
open Go.RowKit NB Nxt
namespace RNxH
theorem NextE (p : Option Addr) (cap : Nat) (name : ByteArray) (fr : OccV) (w : World) : Calls Tryz.prog 245 #[.slice p 0 cap, .string name, .agg fr.cells.toArray] w fun e w' => e = .returned (.tuple #[.agg #[.int .i64 0, .int .i64 0, .int .i64 0], .bool false]) ∧ Below w.heap.size w w' := by
  unfold OccV.cells
  go_enter Tryz.func245, Tryz.ntmps245
  go_wp2
  go_loopw [17, 9] (fun i is wr => i = .int .i64 0 ∧ is = .bool false ∧ Below w.heap.size w wr ∧ Box wr (w.heap.size + 1) #[.int .i64 0, .int .i64 0, .int .i64 0] 149 ∧ Box wr (w.heap.size + 2) #[.int .i64 0, .int .i64 0, .int .i64 0] 149) (fun i _ _ => 0)
  case atStart => exact ⟨rfl, rfl, by repeat (first|(with_reducible exact Below.refl _ _)|(with_reducible assumption)|(with_reducible refine ba ?_)|(with_reducible refine bd ?_)|(with_reducible refine bdn ?_ _)|(with_reducible refine bset ?_ (by first|exact Nat.le_refl _|omega|(simp;done)|(simp;omega)))|(with_reducible refine bt ?_ (by with_reducible assumption))), Box.old (ROcc.Box.new' (by simp)), ROcc.Box.new' (by simp)⟩
  case round =>
    obtain ⟨rfl, rfl, hbel, h1, h2⟩ := hrel
    have u1 := h1.lt
    have u2 := h2.lt
    have f1 := h1.cell
    have f1f := h1.free
    have f2 := h2.cell
    go_wp2
    refine bodyPost_ret (v := .tuple #[.agg #[.int .i64 0, .int .i64 0, .int .i64 0], .bool false]) ?_ rfl ⟨rfl, ?_⟩
    · simp only [results, Tryz.results245]
      go_simp
    · repeat (first|(with_reducible exact Below.refl _ _)|(with_reducible assumption)|(with_reducible refine ba ?_)|(with_reducible refine bd ?_)|(with_reducible refine bdn ?_ _)|(with_reducible refine bset ?_ (by first|exact Nat.le_refl _|omega|(simp;done)|(simp;omega)))|(with_reducible refine bt ?_ (by with_reducible assumption)))
theorem Next {w : World} {v : Value} {l : List RuleV} (h : Holds w v l) (name : ByteArray) (fr : OccV) (hf : I64 fr.nom) : Calls Tryz.prog 245 #[v, .string name, .agg fr.cells.toArray] w fun e w' => e = .returned (optV (Occ.nextO l name fr)) ∧ Below w.heap.size w w' := by
  rcases h.lies with ⟨p, cap, rfl, rfl⟩|⟨b, off, cap, rfl, h2, h3⟩
  · exact NextE p cap name fr w
  · exact ROcc.Next b off cap l name fr w hf h3 h2 h.len h.fit
theorem PrevE (p : Option Addr) (cap : Nat) (name : ByteArray) (fr : OccV) (w : World) : Calls Tryz.prog 182 #[.slice p 0 cap, .string name, .agg fr.cells.toArray] w fun e w' => e = .returned (.tuple #[.agg #[.int .i64 0, .int .i64 0, .int .i64 0], .bool false]) ∧ Below w.heap.size w w' := by
  unfold OccV.cells
  go_enter Tryz.func182, Tryz.ntmps182
  go_wp2
  go_loopw [17, 9] (fun i is wr => i = .int .i64 0 ∧ is = .bool false ∧ Below w.heap.size w wr ∧ Box wr (w.heap.size + 1) #[.int .i64 0, .int .i64 0, .int .i64 0] 149 ∧ Box wr (w.heap.size + 2) #[.int .i64 0, .int .i64 0, .int .i64 0] 149) (fun i _ _ => 0)
  case atStart => exact ⟨rfl, rfl, by repeat (first|(with_reducible exact Below.refl _ _)|(with_reducible assumption)|(with_reducible refine ba ?_)|(with_reducible refine bd ?_)|(with_reducible refine bdn ?_ _)|(with_reducible refine bset ?_ (by first|exact Nat.le_refl _|omega|(simp;done)|(simp;omega)))|(with_reducible refine bt ?_ (by with_reducible assumption))), Box.old (ROcc.Box.new' (by simp)), ROcc.Box.new' (by simp)⟩
  case round =>
    obtain ⟨rfl, rfl, hbel, h1, h2⟩ := hrel
    have u1 := h1.lt
    have u2 := h2.lt
    have f1 := h1.cell
    have f1f := h1.free
    have f2 := h2.cell
    go_wp2
    refine bodyPost_ret (v := .tuple #[.agg #[.int .i64 0, .int .i64 0, .int .i64 0], .bool false]) ?_ rfl ⟨rfl, ?_⟩
    · simp only [results, Tryz.results182]
      go_simp
    · repeat (first|(with_reducible exact Below.refl _ _)|(with_reducible assumption)|(with_reducible refine ba ?_)|(with_reducible refine bd ?_)|(with_reducible refine bdn ?_ _)|(with_reducible refine bset ?_ (by first|exact Nat.le_refl _|omega|(simp;done)|(simp;omega)))|(with_reducible refine bt ?_ (by with_reducible assumption)))
theorem Prev {w : World} {v : Value} {l : List RuleV} (h : Holds w v l) (name : ByteArray) (fr : OccV) (hf : I64 fr.nom) : Calls Tryz.prog 182 #[v, .string name, .agg fr.cells.toArray] w fun e w' => e = .returned (optV (Occ.prevO l name fr)) ∧ Below w.heap.size w w' := by
  rcases h.lies with ⟨p, cap, rfl, rfl⟩|⟨b, off, cap, rfl, h2, h3⟩
  · exact PrevE p cap name fr w
  · exact ROcc.Prev b off cap l name fr w hf h3 h2 h.len h.fit
end RNxH
end Go.Proofs.YtcfmchpoclkpgaaGreatDoor
namespace Go.Proofs.YtcfmchpoclkpgaaGreatDoor
open Go.RowKit NB Nxt
namespace RCh
theorem may (off : Int) (w : World) : Calls Tryz.prog 246 #[.int .i64 off] w fun e w' => e = .returned (.bool (Chn.may off)) ∧ w = w' := by
  unfold Chn.may
  by_cases h1 : -54000 ≤ off
  · by_cases h2 : off ≤ 54000
    · go_enter Tryz.func246, Tryz.ntmps246
      go_wp2
      go_ret
      exact ⟨by simp;omega, rfl⟩
    · go_enter Tryz.func246, Tryz.ntmps246
      go_wp2
      go_ret
      exact ⟨by simp;omega, rfl⟩
  · go_enter Tryz.func246, Tryz.ntmps246
    go_wp2
    go_ret
    exact ⟨by simp;omega, rfl⟩
theorem rule_of {l : List RuleV} {name : ByteArray} {p : OccV} (h : Occ.All l name l.length p) : ∃ (i : Nat) (r : RuleV), p.rule = i ∧ i < l.length ∧ l[i]? = some r ∧ r.name = name ∧ Rul.right r = true ∧ r.fr ≤ p.year ∧ p.year ≤ r.to ∧ p.nom = Occ.nomR r p.year := by
  obtain ⟨i, r, hi, hr, hn, hR, h1, h2, e⟩ := h
  exact ⟨i, r, by rw [e];rfl, hi, hr, hn, hR, h1, h2, by rw [e];rfl⟩
set_option maxHeartbeats 1600000 in
theorem Saved {w : World} {v : Value} {l : List RuleV} (h : Holds w v l) (name : ByteArray) (o : OccV) (hf : I64 o.nom) : Calls Tryz.prog 122 #[v, .string name, .agg o.cells.toArray] w fun e w' => e = .returned (.int .i64 (Chn.saved l name o)) ∧ Below w.heap.size w w' := by
  have cp := fun W (h : Holds W v l) => RNxH.Prev h name o hf
  unfold Chn.saved
  cases hp : Occ.prevO l name o with
  | none =>
    rw [hp] at cp
    unfold optV at cp
    simp only at cp ⊢
    unfold OccV.cells at *
    have HH := Lib.hid h
    have Cp := Lib.hid cp
    clear h cp hp
    go_enter Tryz.func122, Tryz.ntmps122
    go_wp2_with (go_at_call 182;(with_reducible refine (Cp.out _ ?_).mono ?_);(· exact HH.out.later (by repeat (first|(with_reducible exact Below.refl _ _)|(with_reducible assumption)|(with_reducible refine ba ?_)|(with_reducible refine bd ?_)|(with_reducible refine bdn ?_ _)|(with_reducible refine bset ?_ (by first|exact Nat.le_refl _|omega|(simp;done)|(simp;omega)))|(with_reducible refine bt ?_ (by with_reducible assumption)))));rintro e w1 ⟨rfl, hb1⟩;obtain ⟨hc1, hf1⟩ := bcell hb1;have hc1_0 := fun o => hc1 (w.heap.size) o (by first|assumption|omega|(simp;done)|(simp;omega));have hf1_0 := fun o => hf1 (w.heap.size) o (by first|assumption|omega|(simp;done)|(simp;omega));clear hc1 hf1;have hz1_0 : w.heap.size < w1.heap.size := (by first|exact sz1 hb1|exact sz2 hb1|exact sz3 hb1|(have := hb1.size;(try simp only [World.size_alloc, World.size_drew] at this);omega)))
    go_ret
    exact ⟨rfl, by repeat (first|(with_reducible exact Below.refl _ _)|(with_reducible assumption)|(with_reducible refine ba ?_)|(with_reducible refine bd ?_)|(with_reducible refine bdn ?_ _)|(with_reducible refine bset ?_ (by first|exact Nat.le_refl _|omega|(simp;done)|(simp;omega)))|(with_reducible refine bt ?_ (by with_reducible assumption)))⟩
  | some p =>
    rw [hp] at cp
    obtain ⟨i, r, e1, hi, hr, hn, hR, y1, y2, y3⟩ := rule_of (Occ.prev_all hp).1
    rcases h.lies with ⟨q, cap, rfl, rfl⟩|⟨b, off, cap, rfl, h2, h3⟩
    · exact absurd hi (Nat.not_lt_zero _)
    have hlm := h.len
    have c9 : w.cell? ⟨b, off + i * 11 + 9, none⟩ = some (.int .i64 r.save) := h3 i 9 _ _ (by rw [List.getElem?_map, hr];rfl) rfl
    have es : Chn.saveAt l p.rule = r.save := by unfold Chn.saveAt;rw [e1, Chn.rule_at hr]
    simp only
    rw [es]
    clear es h3
    obtain ⟨pr, py, pn⟩ := p
    simp only at e1
    subst e1
    unfold optV at cp
    simp only at cp
    unfold OccV.cells at *
    simp only at cp
    generalize l.length = n at *
    have HH := Lib.hid h
    have Cp := Lib.hid cp
    clear h cp hp hr hn hR y1 y2 y3
    go_enter Tryz.func122, Tryz.ntmps122
    go_wp2_with (go_at_call 182;(with_reducible refine (Cp.out _ ?_).mono ?_);(· exact HH.out.later (by repeat (first|(with_reducible exact Below.refl _ _)|(with_reducible assumption)|(with_reducible refine ba ?_)|(with_reducible refine bd ?_)|(with_reducible refine bdn ?_ _)|(with_reducible refine bset ?_ (by first|exact Nat.le_refl _|omega|(simp;done)|(simp;omega)))|(with_reducible refine bt ?_ (by with_reducible assumption)))));rintro e w1 ⟨rfl, hb1⟩;obtain ⟨hc1, hf1⟩ := bcell hb1;have hc1_0 := fun o => hc1 (b) o (by first|assumption|omega|(simp;done)|(simp;omega));have hf1_0 := fun o => hf1 (b) o (by first|assumption|omega|(simp;done)|(simp;omega));have hc1_1 := fun o => hc1 (w.heap.size) o (by first|assumption|omega|(simp;done)|(simp;omega));have hf1_1 := fun o => hf1 (w.heap.size) o (by first|assumption|omega|(simp;done)|(simp;omega));clear hc1 hf1;have hz1_0 : b < w1.heap.size := (by first|exact sz1 hb1|exact sz2 hb1|exact sz3 hb1|(have := hb1.size;(try simp only [World.size_alloc] at this);omega));have hz1_1 : w.heap.size < w1.heap.size := (by first|exact sz1 hb1|exact sz2 hb1|exact sz3 hb1|(have := hb1.size;(try simp only [World.size_alloc, World.size_drew] at this);omega)))
    go_ret
    exact ⟨rfl, by repeat (first|(with_reducible exact Below.refl _ _)|(with_reducible assumption)|(with_reducible refine ba ?_)|(with_reducible refine bd ?_)|(with_reducible refine bdn ?_ _)|(with_reducible refine bset ?_ (by first|exact Nat.le_refl _|omega|(simp;done)|(simp;omega)))|(with_reducible refine bt ?_ (by with_reducible assumption)))⟩
theorem shift (off s base : Int) (hm : Chn.may off = true) (h1 : -10800 ≤ s) (h2 : s ≤ 10800) (w : World) : Calls Tryz.prog 285 #[.int .i64 off, .int .i64 s, .int .i64 base] w fun e w' => e = .returned (.int .i64 (Chn.shift off base s)) ∧ Below w.heap.size w w' := by
  rw [Chn.may_iff] at hm
  unfold Chn.shift
  by_cases e0 : base = 0
  · subst e0
    rw [if_pos rfl]
    go_enter Tryz.func285, Tryz.ntmps285
    go_wp2
    go_ret
    exact ⟨rfl, by repeat (first|(with_reducible exact Below.refl _ _)|(with_reducible assumption)|(with_reducible refine ba ?_)|(with_reducible refine bd ?_)|(with_reducible refine bdn ?_ _)|(with_reducible refine bset ?_ (by first|exact Nat.le_refl _|omega|(simp;done)|(simp;omega)))|(with_reducible refine bt ?_ (by with_reducible assumption)))⟩
  · rw [if_neg e0]
    by_cases e1 : base = 1
    · subst e1
      rw [if_pos rfl]
      go_enter Tryz.func285, Tryz.ntmps285
      go_wp2
      go_ret
      exact ⟨rfl, by repeat (first|(with_reducible exact Below.refl _ _)|(with_reducible assumption)|(with_reducible refine ba ?_)|(with_reducible refine bd ?_)|(with_reducible refine bdn ?_ _)|(with_reducible refine bset ?_ (by first|exact Nat.le_refl _|omega|(simp;done)|(simp;omega)))|(with_reducible refine bt ?_ (by with_reducible assumption)))⟩
    · rw [if_neg e1]
      go_enter Tryz.func285, Tryz.ntmps285
      go_wp2
      go_ret
      exact ⟨rfl, by repeat (first|(with_reducible exact Below.refl _ _)|(with_reducible assumption)|(with_reducible refine ba ?_)|(with_reducible refine bd ?_)|(with_reducible refine bdn ?_ _)|(with_reducible refine bset ?_ (by first|exact Nat.le_refl _|omega|(simp;done)|(simp;omega)))|(with_reducible refine bt ?_ (by with_reducible assumption)))⟩
theorem all_i64 {l : List RuleV} {name : ByteArray} {o : OccV} (h : Occ.All l name l.length o) : I64 o.nom := by
  have := Chn.all_range h
  unfold I64
  omega
set_option maxHeartbeats 1600000 in
theorem instant {w : World} {v : Value} {l : List RuleV} (h : Holds w v l) (name : ByteArray) (off : Int) (hm : Chn.may off = true) (o : OccV) (ho : Occ.All l name l.length o) :
    Calls Tryz.prog 248 #[v, .string name, .int .i64 off, .agg o.cells.toArray] w fun e w' => e = .returned (.int .i64 (Chn.inst l name off o)) ∧ Below w.heap.size w w' := by
  obtain ⟨i, r, e1, hi, hr, hn, hR, y1, y2, y3⟩ := rule_of ho
  rcases h.lies with ⟨q, cap, rfl, rfl⟩|⟨b, bo, cap, rfl, h2, h3⟩
  · exact absurd hi (Nat.not_lt_zero _)
  have hlm := h.len
  have hon := Chn.all_range ho
  have sb := Chn.saved_bd l name o
  have c8 : w.cell? ⟨b, bo + i * 11 + 8, none⟩ = some (.int .i64 r.base) := h3 i 8 _ _ (by rw [List.getElem?_map, hr];rfl) rfl
  have eb : Chn.baseAt l o.rule = r.base := by unfold Chn.baseAt;rw [e1, Chn.rule_at hr]
  have cs := fun W (h : Holds W (.slice (some ⟨b, bo, none⟩) l.length cap) l) => Saved h name o (all_i64 ho)
  have sh := Chn.shift_bd (base := r.base) hm sb.1 sb.2
  unfold Chn.inst
  rw [eb]
  have ch := fun W => shift off (Chn.saved l name o) r.base hm sb.1 sb.2 W
  generalize Chn.shift off r.base (Chn.saved l name o) = s at *
  generalize Chn.saved l name o = sv at *
  unfold OccV.cells at *
  rw [e1] at cs ⊢
  have HH := Lib.hid h
  have Cs := Lib.hid cs
  have Ch := Lib.hid ch
  clear h cs ho e1 hr hn hR eb sb y1 y2 y3 h3 ch
  generalize l.length = n at *
  have hw : IntKind.i64.wrap (o.nom - s) = o.nom - s := by rw [IntKind.wrap_i64];omega
  go_enter Tryz.func248, Tryz.ntmps248
  go_upto_region 1 with (fail)
  obtain ⟨V, hV⟩ : ∃ V, V = w.alloc (.cells #[.int .i64 i, .int .i64 o.year, .int .i64 o.nom] 149) := ⟨_, rfl⟩
  rw [← hV]
  have hBV : Below w.heap.size w V := by rw [hV];exact ba (Below.refl _ _)
  have k0 : ∀ j, V.cell? ⟨w.heap.size, j, none⟩ = (#[.int .i64 i, .int .i64 o.year, .int .i64 o.nom] : Array Value)[j]? := by
    rw [hV]
    exact fun j => new_cell _ _ _ _
  have hVs : V.heap.size = w.heap.size + 1 := by rw [hV];simp
  have k8 : V.cell? ⟨b, bo + i * 11 + 8, none⟩ = some (.int .i64 r.base) := (hBV.cell (p := ⟨b, bo + i * 11 + 8, none⟩) h2).trans c8
  have HV := Lib.hid (HH.out.later hBV)
  have hl1 : w.heap.size < V.heap.size := by omega
  have hl2 : b < V.heap.size := by omega
  clear hV c8
  (refine region_later (by kernel_rfl) (by kernel_rfl) ?_;(repeat (go_big_quiet_step (first|(go_at_call 122;rename_i xL;apply calls_later xL (Nat.le_refl _);exact (Cs.out _ (HV.out.later xL.h)))|(go_at_call 285;rename_i xL;apply calls_later xL (Nat.le_refl _);exact (Ch.out _)))));refine wpQuiet_nil ?_;rintro _ ⟨⟨u1, hu1⟩, rfl⟩)
  go_wp2
  go_ret
  refine ⟨rfl, bt hBV ?_⟩
  repeat (first|(with_reducible exact Below.refl _ _)|(with_reducible assumption)|(with_reducible refine ba ?_)|(with_reducible refine bd ?_)|(with_reducible refine bdn ?_ _)|(with_reducible refine bset ?_ (by first|exact Nat.le_refl _|omega|(simp;done)|(simp;omega)))|(with_reducible refine bt ?_ (by with_reducible assumption)))
set_option maxHeartbeats 1600000 in
theorem isT {w : World} {v : Value} {l : List RuleV} (h : Holds w v l) (name : ByteArray) (o : OccV) :
    Calls Tryz.prog 247 #[v, .string name, .agg o.cells.toArray] w fun e w' => e = .returned (.bool (Chn.isO l name o)) ∧ Below w.heap.size w w' := by
  obtain ⟨or, oy, on⟩ := o
  have hlm := h.len
  unfold OccV.cells
  unfold Chn.isO Chn.ruleAt
  simp only
  by_cases h0 : or < 0
  · rw [if_neg (by omega)]
    obtain ⟨q, cap, rfl⟩ := h.form
    clear h
    go_enter Tryz.func247, Tryz.ntmps247
    go_wp2
    go_ret
    exact ⟨rfl, by repeat (first|(with_reducible exact Below.refl _ _)|(with_reducible assumption)|(with_reducible refine ba ?_)|(with_reducible refine bd ?_)|(with_reducible refine bdn ?_ _)|(with_reducible refine bset ?_ (by first|exact Nat.le_refl _|omega|(simp;done)|(simp;omega)))|(with_reducible refine bt ?_ (by with_reducible assumption)))⟩
  · rw [if_pos (by omega)]
    obtain ⟨i, rfl⟩ : ∃ i : Nat, or = i := ⟨or.toNat, by omega⟩
    rw [show (i : Int).toNat = i by omega]
    by_cases hi : l.length ≤ i
    · rw [List.getElem?_eq_none hi]
      obtain ⟨q, cap, rfl⟩ := h.form
      clear h
      generalize l.length = n at *
      go_enter Tryz.func247, Tryz.ntmps247
      go_wp2
      go_ret
      exact ⟨rfl, by repeat (first|(with_reducible exact Below.refl _ _)|(with_reducible assumption)|(with_reducible refine ba ?_)|(with_reducible refine bd ?_)|(with_reducible refine bdn ?_ _)|(with_reducible refine bset ?_ (by first|exact Nat.le_refl _|omega|(simp;done)|(simp;omega)))|(with_reducible refine bt ?_ (by with_reducible assumption)))⟩
    · have hi2 : i < l.length := by omega
      rcases h.lies with ⟨q, cap, rfl, rfl⟩|⟨b, bo, cap, rfl, h2, h3⟩
      · exact absurd hi2 (Nat.not_lt_zero _)
      obtain ⟨r, hr⟩ : ∃ r, l[i]? = some r := ⟨l[i], List.getElem?_eq_getElem hi2⟩
      have hcl : ∀ (j : Nat) (u : Value), r.cells[j]? = some u → w.cell? ⟨b, bo + i * 11 + j, none⟩ = some u := fun j u hu => h3 i j _ u (by rw [List.getElem?_map, hr];rfl) hu
      have cn := fun W => ROcc.Nom r (h.fit r (List.mem_of_getElem? hr)) oy W
      have c0 := hcl 0 _ rfl
      have c1 := hcl 1 _ rfl
      have c2 := hcl 2 _ rfl
      have c3 := hcl 3 _ rfl
      have c4 := hcl 4 _ rfl
      have c5 := hcl 5 _ rfl
      have c6 := hcl 6 _ rfl
      have c7 := hcl 7 _ rfl
      have c8 := hcl 8 _ rfl
      have c9 := hcl 9 _ rfl
      have c10 := hcl 10 _ rfl
      simp only [Nat.add_zero] at c0
      rw [hr]
      simp only
      clear hcl h h3 hr
      generalize l.length = n at *
      by_cases hn : r.name = name
      · have hq := str_eq hn
        rw [show decide (r.name = name) = true by simp [hn]]
        generalize Nom.nomE r oy = E at *
        obtain ⟨x, y⟩ := E
        unfold RuleV.cells at *
        simp only at cn
        have Cn := Lib.hid cn
        clear cn hn
        by_cases hx : y = 0
        · subst hx
          by_cases hy : x = on
          · subst hy
            go_enter Tryz.func247, Tryz.ntmps247
            go_upto_region 3 with (fail)
            (refine region_later (by kernel_rfl) (by kernel_rfl) ?_;(repeat (go_big_quiet_step (first|(go_at_call 284;rename_i xL;apply calls_later xL (Nat.le_refl _);exact (Cn.out _)))));refine wpQuiet_nil ?_;rintro _ ⟨⟨u1, hu1⟩, rfl⟩)
            clear c0 c1 c2 c3 c4 c5 c6 c7 c8 c9 c10
            have v0 := fun o => (hu1.cell (p := ⟨w.heap.size, o, none⟩) (by simp)).trans (new_cell _ _ _ _)
            go_wp2
            go_ret
            exact ⟨by simp, by repeat (first|(with_reducible exact Below.refl _ _)|(with_reducible assumption)|(with_reducible refine ba ?_)|(with_reducible refine bd ?_)|(with_reducible refine bdn ?_ _)|(with_reducible refine bset ?_ (by first|exact Nat.le_refl _|omega|(simp;done)|(simp;omega)))|(with_reducible refine bt ?_ (by with_reducible assumption)))⟩
          · go_enter Tryz.func247, Tryz.ntmps247
            go_upto_region 3 with (fail)
            (refine region_later (by kernel_rfl) (by kernel_rfl) ?_;(repeat (go_big_quiet_step (first|(go_at_call 284;rename_i xL;apply calls_later xL (Nat.le_refl _);exact (Cn.out _)))));refine wpQuiet_nil ?_;rintro _ ⟨⟨u1, hu1⟩, rfl⟩)
            clear c0 c1 c2 c3 c4 c5 c6 c7 c8 c9 c10
            have v0 := fun o => (hu1.cell (p := ⟨w.heap.size, o, none⟩) (by simp)).trans (new_cell _ _ _ _)
            go_wp2
            go_ret
            exact ⟨by simp [hy], by repeat (first|(with_reducible exact Below.refl _ _)|(with_reducible assumption)|(with_reducible refine ba ?_)|(with_reducible refine bd ?_)|(with_reducible refine bdn ?_ _)|(with_reducible refine bset ?_ (by first|exact Nat.le_refl _|omega|(simp;done)|(simp;omega)))|(with_reducible refine bt ?_ (by with_reducible assumption)))⟩
        · go_enter Tryz.func247, Tryz.ntmps247
          go_upto_region 3 with (fail)
          (refine region_later (by kernel_rfl) (by kernel_rfl) ?_;(repeat (go_big_quiet_step (first|(go_at_call 284;rename_i xL;apply calls_later xL (Nat.le_refl _);exact (Cn.out _)))));refine wpQuiet_nil ?_;rintro _ ⟨⟨u1, hu1⟩, rfl⟩)
          clear c0 c1 c2 c3 c4 c5 c6 c7 c8 c9 c10
          have v0 := fun o => (hu1.cell (p := ⟨w.heap.size, o, none⟩) (by simp)).trans (new_cell _ _ _ _)
          go_wp2
          go_ret
          exact ⟨by simp, by repeat (first|(with_reducible exact Below.refl _ _)|(with_reducible assumption)|(with_reducible refine ba ?_)|(with_reducible refine bd ?_)|(with_reducible refine bdn ?_ _)|(with_reducible refine bset ?_ (by first|exact Nat.le_refl _|omega|(simp;done)|(simp;omega)))|(with_reducible refine bt ?_ (by with_reducible assumption)))⟩
      · have hq := str_ne hn
        rw [show decide (r.name = name) = false by simp [hn]]
        clear cn
        go_enter Tryz.func247, Tryz.ntmps247
        go_wp2
        go_ret
        exact ⟨rfl, by repeat (first|(with_reducible exact Below.refl _ _)|(with_reducible assumption)|(with_reducible refine ba ?_)|(with_reducible refine bd ?_)|(with_reducible refine bdn ?_ _)|(with_reducible refine bset ?_ (by first|exact Nat.le_refl _|omega|(simp;done)|(simp;omega)))|(with_reducible refine bt ?_ (by with_reducible assumption)))⟩
set_option maxHeartbeats 1600000 in
theorem Instant {w : World} {v : Value} {l : List RuleV} (h : Holds w v l) (name : ByteArray) (off : Int) (o : OccV) :
    Calls Tryz.prog 184 #[v, .string name, .int .i64 off, .agg o.cells.toArray] w fun e w' => e = .returned (.tuple #[.int .i64 (Chn.instE l name off o).1, .int .i64 (Chn.instE l name off o).2]) ∧ Below w.heap.size w w' := by
  have cm := fun W => may off W
  have ci := fun W (h : Holds W v l) => isT h name o
  have cs := fun W (h : Holds W v l) (hm : Chn.may off = true) (ho : Occ.All l name l.length o) => instant h name off hm o ho
  obtain ⟨q, cap, rfl⟩ := h.form
  unfold Chn.instE
  unfold OccV.cells at *
  have HH := Lib.hid h
  clear h
  cases hm : Chn.may off
  · rw [hm] at cm
    rw [if_neg (by decide)]
    have Cm := Lib.hid cm
    clear cm ci cs hm
    go_enter Tryz.func184, Tryz.ntmps184
    go_wp2_with (go_at_call 246;(with_reducible refine (Cm.out _).mono ?_);rintro e w' ⟨rfl, rfl⟩)
    go_ret2
    exact ⟨rfl, by repeat (first|(with_reducible exact Below.refl _ _)|(with_reducible assumption)|(with_reducible refine ba ?_)|(with_reducible refine bd ?_)|(with_reducible refine bdn ?_ _)|(with_reducible refine bset ?_ (by first|exact Nat.le_refl _|omega|(simp;done)|(simp;omega)))|(with_reducible refine bt ?_ (by with_reducible assumption)))⟩
  · rw [hm] at cm
    rw [if_pos rfl]
    have Cm := Lib.hid cm
    clear cm
    cases hi : Chn.isO l name o
    · rw [hi] at ci
      rw [if_neg (by decide)]
      have Ci := Lib.hid ci
      clear ci cs hm hi
      generalize l.length = n at *
      go_enter Tryz.func184, Tryz.ntmps184
      go_wp2_with (first|(go_at_call 246;(with_reducible refine (Cm.out _).mono ?_);rintro e w' ⟨rfl, rfl⟩)|(go_at_call 247;(with_reducible refine (Ci.out _ ?_).mono ?_);(· exact HH.out.later (by repeat (first|(with_reducible exact Below.refl _ _)|(with_reducible assumption)|(with_reducible refine ba ?_)|(with_reducible refine bd ?_)|(with_reducible refine bdn ?_ _)|(with_reducible refine bset ?_ (by first|exact Nat.le_refl _|omega|(simp;done)|(simp;omega)))|(with_reducible refine bt ?_ (by with_reducible assumption)))));rintro e w1 ⟨rfl, hb1⟩;obtain ⟨hc1, hf1⟩ := bcell hb1;have hc1_0 := fun o => hc1 (w.heap.size) o (by first|assumption|omega|(simp;done)|(simp;omega));have hf1_0 := fun o => hf1 (w.heap.size) o (by first|assumption|omega|(simp;done)|(simp;omega));clear hc1 hf1;have hz1_0 : w.heap.size < w1.heap.size := (by first|exact sz1 hb1|exact sz2 hb1|exact sz3 hb1|(have := hb1.size;(try simp only [World.size_alloc, World.size_drew] at this);omega))))
      go_ret2
      exact ⟨rfl, by repeat (first|(with_reducible exact Below.refl _ _)|(with_reducible assumption)|(with_reducible refine ba ?_)|(with_reducible refine bd ?_)|(with_reducible refine bdn ?_ _)|(with_reducible refine bset ?_ (by first|exact Nat.le_refl _|omega|(simp;done)|(simp;omega)))|(with_reducible refine bt ?_ (by with_reducible assumption)))⟩
    · rw [hi] at ci
      rw [if_pos rfl]
      have cs1 := fun W h => cs W h hm (Chn.is_all.1 hi)
      have Ci := Lib.hid ci
      have Cs := Lib.hid cs1
      clear ci cs cs1 hm hi
      simp only
      generalize Chn.inst l name off o = x at *
      generalize l.length = n at *
      go_enter Tryz.func184, Tryz.ntmps184
      go_wp2_with (first|(go_at_call 246;(with_reducible refine (Cm.out _).mono ?_);rintro e w' ⟨rfl, rfl⟩)|(go_at_call 247;(with_reducible refine (Ci.out _ ?_).mono ?_);(· exact HH.out.later (by repeat (first|(with_reducible exact Below.refl _ _)|(with_reducible assumption)|(with_reducible refine ba ?_)|(with_reducible refine bd ?_)|(with_reducible refine bdn ?_ _)|(with_reducible refine bset ?_ (by first|exact Nat.le_refl _|omega|(simp;done)|(simp;omega)))|(with_reducible refine bt ?_ (by with_reducible assumption)))));rintro e w1 ⟨rfl, hb1⟩;obtain ⟨hc1, hf1⟩ := bcell hb1;have hc1_0 := fun o => hc1 (w.heap.size) o (by first|assumption|omega|(simp;done)|(simp;omega));have hf1_0 := fun o => hf1 (w.heap.size) o (by first|assumption|omega|(simp;done)|(simp;omega));clear hc1 hf1;have hz1_0 : w.heap.size < w1.heap.size := (by first|exact sz1 hb1|exact sz2 hb1|exact sz3 hb1|(have := hb1.size;(try simp only [World.size_alloc, World.size_drew] at this);omega)))|(go_at_call 248;(with_reducible refine (Cs.out _ ?_).mono ?_);(· exact HH.out.later (by repeat (first|(with_reducible exact Below.refl _ _)|(with_reducible assumption)|(with_reducible refine ba ?_)|(with_reducible refine bd ?_)|(with_reducible refine bdn ?_ _)|(with_reducible refine bset ?_ (by first|exact Nat.le_refl _|omega|(simp;done)|(simp;omega)))|(with_reducible refine bt ?_ (by with_reducible assumption)))));rintro e w2 ⟨rfl, hb2⟩;obtain ⟨hc2, hf2⟩ := bcell hb2))
      go_ret2
      exact ⟨rfl, by repeat (first|(with_reducible exact Below.refl _ _)|(with_reducible assumption)|(with_reducible refine ba ?_)|(with_reducible refine bd ?_)|(with_reducible refine bdn ?_ _)|(with_reducible refine bset ?_ (by first|exact Nat.le_refl _|omega|(simp;done)|(simp;omega)))|(with_reducible refine bt ?_ (by with_reducible assumption)))⟩
end RCh
end Go.Proofs.YtcfmchpoclkpgaaGreatDoor
