/-
  noontidelaw25.OccurTells: for every input the law returns true, and each argument reads behind the call as it read before.
-/
import Derived.Test.YtopdjebnfhfpcaaGreatDoorTellsOc
import Derived.Test.YtopdjebnfhfpcaaGreatDoorCardB
import Derived.Test.YtopdjebnfhfpcaaGreatDoorCards
import Derived.Test.YtopdjebnfhfpcaaGreatDoorTie
namespace Go.Proofs.YtopdjebnfhfpcaaGreatDoor.occurTells
open Go.ChangeShapes Go.WideShapes Go.ChangeAt Go.RowKit Card
theorem readable_int : Tryz.prog.readableRec 3 = true := by kernel_rfl
theorem ws_int : Tryz.prog.wantsStandIn 3 = false := by kernel_rfl
theorem inRow_int : 3 < Tryz.prog.types.size := of_decide_eq_true (by kernel_rfl)
theorem readable_occ : Tryz.prog.readableRec 24 = true := by kernel_rfl
theorem ws_occ : Tryz.prog.wantsStandIn 24 = false := by kernel_rfl
theorem inRow_occ : 24 < Tryz.prog.types.size := of_decide_eq_true (by kernel_rfl)
theorem readable_rules : Tryz.prog.readableRec 22 = true := by kernel_rfl
theorem ws_rules : Tryz.prog.wantsStandIn 22 = false := by kernel_rfl
theorem inRow_rules : 22 < Tryz.prog.types.size := of_decide_eq_true (by kernel_rfl)
theorem readable_span : Tryz.prog.readableRec 26 = true := by kernel_rfl
theorem ws_span : Tryz.prog.wantsStandIn 26 = false := by kernel_rfl
theorem inRow_span : 26 < Tryz.prog.types.size := of_decide_eq_true (by kernel_rfl)
theorem readable_string : Tryz.prog.readableRec 9 = true := by kernel_rfl
theorem ws_string : Tryz.prog.wantsStandIn 9 = false := by kernel_rfl
theorem inRow_string : 9 < Tryz.prog.types.size := of_decide_eq_true (by kernel_rfl)
set_option maxRecDepth 100000 in
theorem contract (H : Type) (enc : TypeId × Value → H) (W : World) (args : Array Value) (ds gs : List (DataW H)) (before : List MemPlace)
    (hval : ∀ (j : Nat) t v, Tryz.f3.params[j]? = some t → args[j]? = some v → Value.okWide Tryz.prog W .any 0 t v)
    (hreach : (DataW.weightsEach Tryz.prog (Tryz.f3.params.toList ++ (OpenSpec.ofChange Rows.occurTellsSpec).bare.plain.varTypes Tryz.prog) (ds ++ gs)).all (· ≤ reachBytes) = true)
    (hW : DataW.Whole enc Tryz.prog Tryz.f3.params.toList Rows.occurTellsSpec.vars false W args.toList ds gs before) :
    Calls Tryz.prog 3 args W fun e W' => ∃ v, e = .returned v ∧ Rows.occurTellsSpec.post enc Tryz.prog Tryz.f3 false true false false W args v W' := by
  have hW' := hW
  obtain ⟨p, q, hA0, hV, rfl, hfz, hnd⟩ := hW
  have hA : DataW.TrodAll enc Tryz.prog W 0 (fun _ => true) true Tryz.f3.params.toList args.toList ds p := hA0
  rw [Tryz.params3] at hA hval
  obtain ⟨v0, vs0, d0, ds0, p0, q0, hargs, rfl, rfl, h0, r0⟩ := trodAll_cons hA
  obtain ⟨v1, vs1, d1, ds1, p1, q1, rfl, rfl, rfl, h1, r1⟩ := trodAll_cons r0
  obtain ⟨v2, vs2, d2, ds2, p2, q2, rfl, rfl, rfl, h2, r2⟩ := trodAll_cons r1
  obtain ⟨v3, vs3, d3, ds3, p3, q3, rfl, rfl, rfl, h3, r3⟩ := trodAll_cons r2
  obtain ⟨v4, vs4, d4, ds4, p4, q4, rfl, rfl, rfl, h4, r4⟩ := trodAll_cons r3
  obtain ⟨v5, vs5, d5, ds5, p5, q5, rfl, rfl, rfl, h5, r5⟩ := trodAll_cons r4
  obtain ⟨v6, vs6, d6, ds6, p6, q6, rfl, rfl, rfl, h6, r6⟩ := trodAll_cons r5
  obtain ⟨rfl, rfl, rfl⟩ := trodAll_nil r6
  obtain rfl : args = #[v0, v1, v2, v3, v4, v5, v6] := Array.ext' hargs
  obtain ⟨rfl, rfl⟩ := trodVars_none hV
  have h0' := h0
  obtain ⟨fu0, h0f⟩ := h0'
  obtain ⟨pa0, ln0, cp0, hv0⟩ := okWide_slice Tryz.underlying22 (hval 0 22 v0 rfl rfl)
  have hc0 : v0.cells.toList = [v0] := by rw [hv0]; rfl
  rw [hc0] at h0f
  obtain ⟨vv0, a0, hl0, hf0, hz0⟩ := rules_open h0f
  obtain rfl : v0 = vv0 := by simpa using hl0
  have h1' := h1
  obtain ⟨fu1, h1f⟩ := h1'
  obtain ⟨a1, rfl⟩ := okWide_string Tryz.underlying9 (hval 1 9 v1 rfl rfl)
  have hf1 : a1.size ≤ 9223372036854775807 := str_size Tryz.underlying9 h1f
  have h2' := h2
  obtain ⟨fu2, h2f⟩ := h2'
  obtain ⟨cs2, rfl, _⟩ := okWide_struct Tryz.underlying24 (hval 2 24 v2 rfl rfl)
  obtain ⟨a2, ha2, hf2⟩ := occ_cells h2f
  obtain rfl : cs2 = a2.cells.toArray := by rw [← ha2]; simp [Value.cells]
  have h3' := h3
  obtain ⟨fu3, h3f⟩ := h3'
  obtain ⟨cs3, rfl, _⟩ := okWide_struct Tryz.underlying24 (hval 3 24 v3 rfl rfl)
  obtain ⟨a3, ha3, hf3⟩ := occ_cells h3f
  obtain rfl : cs3 = a3.cells.toArray := by rw [← ha3]; simp [Value.cells]
  have h4' := h4
  obtain ⟨fu4, h4f⟩ := h4'
  obtain ⟨cs4, rfl, _⟩ := okWide_struct Tryz.underlying26 (hval 4 26 v4 rfl rfl)
  obtain ⟨a4, ha4, hf4⟩ := span_cells h4f
  obtain rfl : cs4 = a4.cells.toArray := by rw [← ha4]; simp [Value.cells]
  have h5' := h5
  obtain ⟨fu5, h5f⟩ := h5'
  obtain ⟨a5, rfl⟩ := okWide_int Tryz.underlying3 (hval 5 3 v5 rfl rfl)
  have hf5 : I64 a5 := int_wf Tryz.underlying3 h5f
  have h6' := h6
  obtain ⟨fu6, h6f⟩ := h6'
  obtain ⟨a6, rfl⟩ := okWide_int Tryz.underlying3 (hval 6 3 v6 rfl rfl)
  have hf6 : I64 a6 := int_wf Tryz.underlying3 h6f
  refine (L25.tellsW v0 a0 a1 a2 a3 a4 a5 a6 W hf0 hf1 hf2 hf3 hf4 hf5 hf6).mono fun e W' he => ?_
  obtain ⟨rfl, hbel⟩ := he
  have hlt := fun x hx => hW'.lt x hx
  exact ⟨_, rfl, post_of_below (pa := p0 ++ (p1 ++ (p2 ++ (p3 ++ (p4 ++ (p5 ++ (p6 ++ []))))))) (pv := []) hW' (fun _ _ _ => trodAll_cons_mk (shut_bool Tryz.underlying4 _) trodAll_mk0)
    (fun sp hsp => by
      rw [Tryz.params3]
      exact (trodAll_cons_mk (WideElems.Trod_stays laidOut readable_rules inRow_rules h0 (fun x hx => hbel.same (hlt x (by simp [hx]))) (fun x hx => hsp x (by simp [hx]))) (trodAll_cons_mk (WideElems.Trod_stays laidOut readable_string inRow_string h1 (fun x hx => hbel.same (hlt x (by simp [hx]))) (fun x hx => hsp x (by simp [hx]))) (trodAll_cons_mk (WideElems.Trod_stays laidOut readable_occ inRow_occ h2 (fun x hx => hbel.same (hlt x (by simp [hx]))) (fun x hx => hsp x (by simp [hx]))) (trodAll_cons_mk (WideElems.Trod_stays laidOut readable_occ inRow_occ h3 (fun x hx => hbel.same (hlt x (by simp [hx]))) (fun x hx => hsp x (by simp [hx]))) (trodAll_cons_mk (WideElems.Trod_stays laidOut readable_span inRow_span h4 (fun x hx => hbel.same (hlt x (by simp [hx]))) (fun x hx => hsp x (by simp [hx]))) (trodAll_cons_mk (WideElems.Trod_stays laidOut readable_int inRow_int h5 (fun x hx => hbel.same (hlt x (by simp [hx]))) (fun x hx => hsp x (by simp [hx]))) (trodAll_cons_mk (WideElems.Trod_stays laidOut readable_int inRow_int h6 (fun x hx => hbel.same (hlt x (by simp [hx]))) (fun x hx => hsp x (by simp [hx]))) trodAll_mk0))))))))
    (fun _ _ => rfl) (by simp) hbel (ok_one (by kernel_rfl) rfl (okWide_bool_mk Tryz.underlying4 _))⟩
theorem laid_met (os : Os) : laidMet Tryz.prog Rows.occurTellsRow.laid ((laidWorld os).forCall (fun _ _ => 0) ⟨#[], #[.slice none 0 0, .string ⟨#[]⟩, .agg #[.int .i64 0, .int .i64 0, .int .i64 0], .agg #[.int .i64 0, .int .i64 0, .int .i64 0], .agg #[.int .i64 0, .int .i64 0], .int .i64 0, .int .i64 0], []⟩).memory :=
  laidMet_of_run3 8 (by kernel_rfl) (by kernel_rfl) (by kernel_rfl)
theorem reads (os : Os) {H : Type} (enc : TypeId × Value → H) : ∃ places, DataW.whole enc Tryz.prog ((laidWorld os).forCall (fun _ _ => 0) ⟨#[], #[.slice none 0 0, .string ⟨#[]⟩, .agg #[.int .i64 0, .int .i64 0, .int .i64 0], .agg #[.int .i64 0, .int .i64 0, .int .i64 0], .agg #[.int .i64 0, .int .i64 0], .int .i64 0, .int .i64 0], []⟩).memory Tryz.f3.params.toList Rows.occurTellsSpec.vars false (#[.slice none 0 0, .string ⟨#[]⟩, .agg #[.int .i64 0, .int .i64 0, .int .i64 0], .agg #[.int .i64 0, .int .i64 0, .int .i64 0], .agg #[.int .i64 0, .int .i64 0], .int .i64 0, .int .i64 0] : Array Value).toList 8 = some ([.nil, .lit (.string []), .agg [.lit (.int .i64 0), .lit (.int .i64 0), .lit (.int .i64 0)], .agg [.lit (.int .i64 0), .lit (.int .i64 0), .lit (.int .i64 0)], .agg [.lit (.int .i64 0), .lit (.int .i64 0)], .lit (.int .i64 0), .lit (.int .i64 0)], [], places) :=
  ⟨[], by kernel_rfl⟩
set_option maxRecDepth 100000 in
set_option maxHeartbeats 2000000 in
theorem lifted (os : Os) (started : os.Started) (H : Type) (enc : TypeId × Value → H) (F : Stop.Interp) :
    ReturnsInHanded {} Tryz.checked os 3 .any ((OpenSpec.ofChange Rows.occurTellsSpec).preRow enc Tryz.prog Tryz.f3 Rows.occurTellsRow.domain false Rows.occurTellsRow.laid) (((OpenSpec.ofChange Rows.occurTellsSpec).at F).post enc Tryz.prog Tryz.f3 false true false false) := by
  obtain ⟨places, hx⟩ := reads os enc
  refine returnsInHanded_of_row (C := Tryz.checked) (s := OpenSpec.ofChange Rows.occurTellsSpec) own started (by kernel_rfl) Tryz.func3
    (witness_row_at (enc := enc) (C := Tryz.checked) false (laidWorld os) #[.slice none 0 0, .string ⟨#[]⟩, .agg #[.int .i64 0, .int .i64 0, .int .i64 0], .agg #[.int .i64 0, .int .i64 0, .int .i64 0], .agg #[.int .i64 0, .int .i64 0], .int .i64 0, .int .i64 0] rfl (by kernel_rfl) (by kernel_rfl) (by kernel_rfl)
      (OpenSpec.preRow_of_cond 8 hx (by kernel_rfl) (fun k hk => by cases hk) (by kernel_rfl) (laid_met os))) ?_
  intro W base args ds gs before hval hW hz1 hz2 hz3 hL hz4 hz5
  exact contract H enc W args ds gs before hval (by assumption) hW
theorem said : Rows.OccurTellsSaid :=
  OpenClaim.holds_of_cond 3 Tryz.f3 rfl rfl rfl rfl rfl rfl rfl ⟨rfl, rfl, rfl, rfl, rfl⟩ rfl rfl rfl rfl rfl (by kernel_rfl) Tryz.func3 (by kernel_rfl)
    (of_decide_eq_true (by kernel_rfl)) (by unfold Func.isWrapper; first | (rw [if_pos (by decide +kernel)]; kernel_rfl) | (rw [if_neg (by decide +kernel)]; exact ⟨rfl, rfl⟩))
    (fun os started H enc _ F => by rw [OpenClaim.pre_eq_preRow]; exact lifted os started H enc F)
theorem plain (f : FuncId) (fn : Func) (hf : Tryz.pinned.checked.prog.funcNamed "noontide/noontidelaw25.OccurTells" = some f) (hfn : Tryz.pinned.checked.prog.funcs[f]? = some fn) :
    false = Tryz.pinned.checked.prog.looks [] ∧ ∀ (j : Nat) t, fn.params[j]? = some t → Tryz.pinned.checked.prog.wantsStandIn t = false := by
  obtain rfl : f = 3 := Option.some.inj ((show Tryz.prog.funcNamed "noontide/noontidelaw25.OccurTells" = some 3 by kernel_rfl).symm.trans hf) |>.symm
  obtain rfl : fn = Tryz.f3 := (Option.some.inj (Tryz.func3.symm.trans hfn)).symm
  refine ⟨by kernel_rfl, fun j t ht => ?_⟩
  rw [Tryz.params3] at ht
  have hm := Array.mem_of_getElem? ht
  simp only [List.mem_toArray, List.mem_cons, List.not_mem_nil, or_false] at hm
  rcases hm with rfl | rfl | rfl | rfl | rfl | rfl | rfl
  · exact (show Tryz.prog.wantsStandIn 22 = false from ws_rules)
  · exact (show Tryz.prog.wantsStandIn 9 = false from ws_string)
  · exact (show Tryz.prog.wantsStandIn 24 = false from ws_occ)
  · exact (show Tryz.prog.wantsStandIn 24 = false from ws_occ)
  · exact (show Tryz.prog.wantsStandIn 26 = false from ws_span)
  · exact (show Tryz.prog.wantsStandIn 3 = false from ws_int)
  · exact (show Tryz.prog.wantsStandIn 3 = false from ws_int)
theorem card : Rows.OccurTellsCardSaid :=
  Claim7.holds_tied_plain_at .later [] _ _ _ _ said (fun _ h => by cases h) (by kernel_rfl) (fun _ h => by cases h) occurTells_row_tie rfl ⟨rfl, rfl⟩ (by kernel_rfl) rfl plain (by kernel_rfl)
#print axioms card
end Go.Proofs.YtopdjebnfhfpcaaGreatDoor.occurTells
