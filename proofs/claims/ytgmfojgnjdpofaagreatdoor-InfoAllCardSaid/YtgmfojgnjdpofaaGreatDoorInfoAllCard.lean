/-
  noontidelaw36.InfoAll: for every input the law returns true, and each argument reads behind the call as it read before.
-/
import Derived.Test.YtgmfojgnjdpofaaGreatDoorH1
import Derived.Test.YtgmfojgnjdpofaaGreatDoorH2
import Derived.Test.YtgmfojgnjdpofaaGreatDoorH3
import Derived.Test.YtgmfojgnjdpofaaGreatDoorH4
import Derived.Test.YtgmfojgnjdpofaaGreatDoorH5
import Derived.Test.YtgmfojgnjdpofaaGreatDoorH6
import Derived.Test.YtgmfojgnjdpofaaGreatDoorH7
import Derived.Test.YtgmfojgnjdpofaaGreatDoorH8
import Derived.Test.YtgmfojgnjdpofaaGreatDoorH9
import Derived.Test.YtgmfojgnjdpofaaGreatDoorH10
import Derived.Test.YtgmfojgnjdpofaaGreatDoorH11
import Derived.Test.YtgmfojgnjdpofaaGreatDoorH12
import Derived.Test.YtgmfojgnjdpofaaGreatDoorH13
import Derived.Test.YtgmfojgnjdpofaaGreatDoorH14
import Derived.Test.YtgmfojgnjdpofaaGreatDoorH15
import Derived.Test.YtgmfojgnjdpofaaGreatDoorH16
import Derived.Test.YtgmfojgnjdpofaaGreatDoorH17
import Derived.Test.YtgmfojgnjdpofaaGreatDoorH18
import Derived.Test.YtgmfojgnjdpofaaGreatDoorH19
import Derived.Test.YtgmfojgnjdpofaaGreatDoorH20
import Derived.Test.YtgmfojgnjdpofaaGreatDoorH21
import Derived.Test.YtgmfojgnjdpofaaGreatDoorH22
import Derived.Test.YtgmfojgnjdpofaaGreatDoorH23
import Derived.Test.YtgmfojgnjdpofaaGreatDoorH24
import Derived.Test.YtgmfojgnjdpofaaGreatDoorH25
import Derived.Test.YtgmfojgnjdpofaaGreatDoorH26
import Derived.Test.YtgmfojgnjdpofaaGreatDoorH27
import Derived.Test.YtgmfojgnjdpofaaGreatDoorH28
import Derived.Test.YtgmfojgnjdpofaaGreatDoorH29
import Derived.Test.YtgmfojgnjdpofaaGreatDoorH30
import Derived.Test.YtgmfojgnjdpofaaGreatDoorH31
import Derived.Test.YtgmfojgnjdpofaaGreatDoorH32
import Derived.Test.YtgmfojgnjdpofaaGreatDoorH33
import Derived.Test.YtgmfojgnjdpofaaGreatDoorH34
import Derived.Test.YtgmfojgnjdpofaaGreatDoorH35
import Derived.Test.YtgmfojgnjdpofaaGreatDoorH36
import Derived.Test.YtgmfojgnjdpofaaGreatDoorH37
import Derived.Test.YtgmfojgnjdpofaaGreatDoorH38
import Derived.Test.YtgmfojgnjdpofaaGreatDoorH39
import Derived.Test.YtgmfojgnjdpofaaGreatDoorH40
import Derived.Test.YtgmfojgnjdpofaaGreatDoorH41
import Derived.Test.YtgmfojgnjdpofaaGreatDoorH42
import Derived.Test.YtgmfojgnjdpofaaGreatDoorH43
import Derived.Test.YtgmfojgnjdpofaaGreatDoorH45
import Derived.Test.YtgmfojgnjdpofaaGreatDoorJ1
import Derived.Test.YtgmfojgnjdpofaaGreatDoorJ2
import Derived.Test.YtgmfojgnjdpofaaGreatDoorJ3
import Derived.Test.YtgmfojgnjdpofaaGreatDoorD1
import Derived.Test.YtgmfojgnjdpofaaGreatDoorC1
import Derived.Test.YtgmfojgnjdpofaaGreatDoorY3
import Derived.Test.YtgmfojgnjdpofaaGreatDoorCards
import Derived.Test.YtgmfojgnjdpofaaGreatDoorTie
namespace Go.Proofs.YtgmfojgnjdpofaaGreatDoor.infoAll
open Go.ChangeShapes Go.WideShapes Go.ChangeAt Go.RowKit Card
theorem readable_int : Tryz.prog.readableRec 3 = true := by kernel_rfl
theorem ws_int : Tryz.prog.wantsStandIn 3 = false := by kernel_rfl
theorem inRow_int : 3 < Tryz.prog.types.size := of_decide_eq_true (by kernel_rfl)
theorem readable_int64 : Tryz.prog.readableRec 2 = true := by kernel_rfl
theorem ws_int64 : Tryz.prog.wantsStandIn 2 = false := by kernel_rfl
theorem inRow_int64 : 2 < Tryz.prog.types.size := of_decide_eq_true (by kernel_rfl)
theorem readable_table : Tryz.prog.readableRec 26 = true := by kernel_rfl
theorem ws_table : Tryz.prog.wantsStandIn 26 = false := by kernel_rfl
theorem inRow_table : 26 < Tryz.prog.types.size := of_decide_eq_true (by kernel_rfl)
set_option maxRecDepth 100000 in
theorem contract (H : Type) (enc : TypeId × Value → H) (W : World) (args : Array Value) (ds gs : List (DataW H)) (before : List MemPlace) (ht : Tab W) (hst : Sta W)
    (hval : ∀ (j : Nat) t v, Tryz.f9.params[j]? = some t → args[j]? = some v → Value.okWide Tryz.prog W .any 0 t v)
    (hreach : (DataW.weightsEach Tryz.prog (Tryz.f9.params.toList ++ (OpenSpec.ofChange Rows.infoAllSpec).bare.plain.varTypes Tryz.prog) (ds ++ gs)).all (· ≤ reachBytes) = true)
    (hW : DataW.Whole enc Tryz.prog Tryz.f9.params.toList Rows.infoAllSpec.vars false W args.toList ds gs before) :
    Calls Tryz.prog 9 args W fun e W' => ∃ v, e = .returned v ∧ Rows.infoAllSpec.post enc Tryz.prog Tryz.f9 false true false false W args v W' := by
  have hW' := hW
  obtain ⟨p, q, hA0, hV, rfl, hfz, hnd⟩ := hW
  have hA : DataW.TrodAll enc Tryz.prog W 0 (fun _ => true) true Tryz.f9.params.toList args.toList ds p := hA0
  rw [Tryz.params9] at hA hval
  obtain ⟨v0, vs0, d0, ds0, p0, q0, hargs, rfl, rfl, h0, r0⟩ := trodAll_cons hA
  obtain ⟨v1, vs1, d1, ds1, p1, q1, rfl, rfl, rfl, h1, r1⟩ := trodAll_cons r0
  obtain ⟨v2, vs2, d2, ds2, p2, q2, rfl, rfl, rfl, h2, r2⟩ := trodAll_cons r1
  obtain ⟨rfl, rfl, rfl⟩ := trodAll_nil r2
  obtain rfl : args = #[v0, v1, v2] := Array.ext' hargs
  obtain ⟨rfl, rfl⟩ := trodVars_none hV
  have h0' := h0
  obtain ⟨fu0, h0f⟩ := h0'
  obtain ⟨cs0, rfl, _⟩ := okWide_struct Tryz.underlying26 (hval 0 26 v0 rfl rfl)
  obtain ⟨a0, ha0, hf0⟩ := table_cells h0f
  obtain rfl : cs0 = a0.cells.toArray := by rw [← ha0]; simp [Value.cells]
  have h1' := h1
  obtain ⟨fu1, h1f⟩ := h1'
  obtain ⟨a1, rfl⟩ := okWide_int Tryz.underlying3 (hval 1 3 v1 rfl rfl)
  have hf1 : I64 a1 := int_wf Tryz.underlying3 h1f
  have h2' := h2
  obtain ⟨fu2, h2f⟩ := h2'
  obtain ⟨a2, rfl⟩ := okWide_int Tryz.underlying2 (hval 2 2 v2 rfl rfl)
  have hf2 : I64 a2 := int_wf Tryz.underlying2 h2f
  refine (L36.allW a0 a1 a2 W hf0 hf1 hf2 ht hst).mono fun e W' he => ?_
  obtain ⟨rfl, hbel⟩ := he
  have hlt := fun x hx => hW'.lt x hx
  exact ⟨_, rfl, post_of_below (pa := p0 ++ (p1 ++ (p2 ++ []))) (pv := []) hW' (fun _ _ _ => trodAll_cons_mk (shut_bool Tryz.underlying4 _) trodAll_mk0)
    (fun sp hsp => by
      rw [Tryz.params9]
      exact (trodAll_cons_mk (WideElems.Trod_stays laidOut readable_table inRow_table h0 (fun x hx => hbel.same (hlt x (by simp [hx]))) (fun x hx => hsp x (by simp [hx]))) (trodAll_cons_mk (WideElems.Trod_stays laidOut readable_int inRow_int h1 (fun x hx => hbel.same (hlt x (by simp [hx]))) (fun x hx => hsp x (by simp [hx]))) (trodAll_cons_mk (WideElems.Trod_stays laidOut readable_int64 inRow_int64 h2 (fun x hx => hbel.same (hlt x (by simp [hx]))) (fun x hx => hsp x (by simp [hx]))) trodAll_mk0))))
    (fun _ _ => rfl) (by simp) hbel (ok_one (by kernel_rfl) rfl (okWide_bool_mk Tryz.underlying4 _))⟩
theorem laid_met (os : Os) : laidMet Tryz.prog Rows.infoAllRow.laid ((laidWorldS os).forCall (fun _ _ => 0) ⟨#[], #[.agg #[.slice none 0 0, .slice none 0 0, .slice none 0 0], .int .i64 0, .int .i64 0], []⟩).memory :=
  laidMet_of_run3 8 (by kernel_rfl) (by kernel_rfl) (by kernel_rfl)
theorem reads (os : Os) {H : Type} (enc : TypeId × Value → H) : ∃ places, DataW.whole enc Tryz.prog ((laidWorldS os).forCall (fun _ _ => 0) ⟨#[], #[.agg #[.slice none 0 0, .slice none 0 0, .slice none 0 0], .int .i64 0, .int .i64 0], []⟩).memory Tryz.f9.params.toList Rows.infoAllSpec.vars false (#[.agg #[.slice none 0 0, .slice none 0 0, .slice none 0 0], .int .i64 0, .int .i64 0] : Array Value).toList 8 = some ([.agg [.nil, .nil, .nil], .lit (.int .i64 0), .lit (.int .i64 0)], [], places) :=
  ⟨[], by kernel_rfl⟩
set_option maxRecDepth 100000 in
set_option maxHeartbeats 2000000 in
theorem lifted (os : Os) (started : os.Started) (H : Type) (enc : TypeId × Value → H) (F : Stop.Interp) :
    ReturnsInHanded {} Tryz.checked os 9 .any ((OpenSpec.ofChange Rows.infoAllSpec).preRow enc Tryz.prog Tryz.f9 Rows.infoAllRow.domain false Rows.infoAllRow.laid) (((OpenSpec.ofChange Rows.infoAllSpec).at F).post enc Tryz.prog Tryz.f9 false true false false) := by
  obtain ⟨places, hx⟩ := reads os enc
  refine returnsInHanded_of_row (C := Tryz.checked) (s := OpenSpec.ofChange Rows.infoAllSpec) own started (by kernel_rfl) Tryz.func9
    (witness_row_at (enc := enc) (C := Tryz.checked) false (laidWorldS os) #[.agg #[.slice none 0 0, .slice none 0 0, .slice none 0 0], .int .i64 0, .int .i64 0] rfl (by kernel_rfl) (by kernel_rfl) (by kernel_rfl)
      (OpenSpec.preRow_of_cond 8 hx (by kernel_rfl) (fun k hk => by cases hk) (by kernel_rfl) (laid_met os))) ?_
  intro W base args ds gs before hval hW hz1 hz2 hz3 hL hz4 hz5
  exact contract H enc W args ds gs before (tab_at hz4) (sta_at hz4 hL) hval (by assumption) hW
theorem said : Rows.InfoAllSaid :=
  OpenClaim.holds_of_cond 9 Tryz.f9 rfl rfl rfl rfl rfl rfl rfl ⟨rfl, rfl, rfl, rfl, rfl⟩ rfl rfl rfl rfl rfl (by kernel_rfl) Tryz.func9 closed
    (of_decide_eq_true (by kernel_rfl)) (by unfold Func.isWrapper; first | (rw [if_pos (by decide +kernel)]; kernel_rfl) | (rw [if_neg (by decide +kernel)]; exact ⟨rfl, rfl⟩))
    (fun os started H enc _ F => by rw [OpenClaim.pre_eq_preRow]; exact lifted os started H enc F)
theorem plain (f : FuncId) (fn : Func) (hf : Tryz.pinned.checked.prog.funcNamed "noontide/noontidelaw36.InfoAll" = some f) (hfn : Tryz.pinned.checked.prog.funcs[f]? = some fn) :
    false = Tryz.pinned.checked.prog.looks [] ∧ ∀ (j : Nat) t, fn.params[j]? = some t → Tryz.pinned.checked.prog.wantsStandIn t = false := by
  obtain rfl : f = 9 := Option.some.inj ((show Tryz.prog.funcNamed "noontide/noontidelaw36.InfoAll" = some 9 by kernel_rfl).symm.trans hf) |>.symm
  obtain rfl : fn = Tryz.f9 := (Option.some.inj (Tryz.func9.symm.trans hfn)).symm
  refine ⟨by kernel_rfl, fun j t ht => ?_⟩
  rw [Tryz.params9] at ht
  have hm := Array.mem_of_getElem? ht
  simp only [List.mem_toArray, List.mem_cons, List.not_mem_nil, or_false] at hm
  rcases hm with rfl | rfl | rfl
  · exact (show Tryz.prog.wantsStandIn 26 = false from ws_table)
  · exact (show Tryz.prog.wantsStandIn 3 = false from ws_int)
  · exact (show Tryz.prog.wantsStandIn 2 = false from ws_int64)
theorem card : Rows.InfoAllCardSaid :=
  Claim7.holds_tied_plain_at .later [] _ _ _ _ said (fun _ h => by cases h) (by kernel_rfl) (fun _ h => by cases h) infoAll_row_tie rfl ⟨rfl, rfl⟩ (by kernel_rfl) rfl plain goes
#print axioms card
end Go.Proofs.YtgmfojgnjdpofaaGreatDoor.infoAll
