/-
  noontidelaw38.StoreOrder: for every input the law returns true, and each argument reads behind the call as it read before.
-/
import Derived.Test.YtjgodnakhbkgeaaStoOq
import Derived.Test.YtjgodnakhbkgeaaOpenI
import Derived.Test.YtjgodnakhbkgeaaPlB
import Derived.Test.YtjgodnakhbkgeaaRows
namespace Go.Proofs.Ytjgodnakhbkgeaa.storeOrder
open Go.ChangeShapes Go.WideShapes Go.ChangeAt Go.RowKit PlB
theorem readable_infos : Try.prog.readableRec 60 = true := by kernel_rfl
theorem inRow_infos : 60 < Try.prog.types.size := of_decide_eq_true (by kernel_rfl)
theorem readable_int : Try.prog.readableRec 3 = true := by kernel_rfl
theorem inRow_int : 3 < Try.prog.types.size := of_decide_eq_true (by kernel_rfl)
theorem readable_int64 : Try.prog.readableRec 2 = true := by kernel_rfl
theorem inRow_int64 : 2 < Try.prog.types.size := of_decide_eq_true (by kernel_rfl)
set_option maxRecDepth 100000 in
theorem contract (H : Type) (enc : TypeId × Value → H) (W : World) (base : Nat) (args : Array Value) (ds gs : List (DataW H)) (before : List MemPlace)
    (hval : ∀ (j : Nat) t v, Try.f5.params[j]? = some t → args[j]? = some v → Value.okWide Try.prog W .any base t v)
    (hW : DataW.Whole enc Try.prog Try.f5.params.toList Rows.storeOrderSpec.vars false W args.toList ds gs before) :
    Calls Try.prog 5 args W fun e W' => ∃ v, e = .returned v ∧ Rows.storeOrderSpec.post enc Try.prog Try.f5 false true false false W args v W' := by
  have hW' := hW
  obtain ⟨p, q, hA0, hV, rfl, hfz, hnd⟩ := hW
  have hA : DataW.TrodAll enc Try.prog W 0 (fun _ => true) true Try.f5.params.toList args.toList ds p := hA0
  rw [Try.params5] at hA hval
  obtain ⟨v0, vs0, d0, ds0, p0, q0, hargs, rfl, rfl, h0, r0⟩ := trodAll_cons hA
  obtain ⟨v1, vs1, d1, ds1, p1, q1, rfl, rfl, rfl, h1, r1⟩ := trodAll_cons r0
  obtain ⟨v2, vs2, d2, ds2, p2, q2, rfl, rfl, rfl, h2, r2⟩ := trodAll_cons r1
  obtain ⟨rfl, rfl, rfl⟩ := trodAll_nil r2
  obtain rfl : args = #[v0, v1, v2] := Array.ext' hargs
  obtain ⟨rfl, rfl⟩ := trodVars_none hV
  have h0' := h0
  obtain ⟨fu0, h0f⟩ := h0'
  obtain ⟨a0, rfl⟩ := okWide_int Try.underlying3 (hval 0 3 v0 rfl rfl)
  have hf0 : I64 a0 := int_wf Try.underlying3 h0f
  have h1' := h1
  obtain ⟨fu1, h1f⟩ := h1'
  obtain ⟨pa1, ln1, cp1, hv1⟩ := okWide_slice Try.underlying60 (hval 1 60 v1 rfl rfl)
  have hc1 : v1.cells.toList = [v1] := by rw [hv1]; rfl
  rw [hc1] at h1f
  obtain ⟨vv1, a1, hl1, hf1, hz1⟩ := infos_open h1f
  obtain rfl : v1 = vv1 := by simpa using hl1
  have h2' := h2
  obtain ⟨fu2, h2f⟩ := h2'
  obtain ⟨a2, rfl⟩ := okWide_int Try.underlying2 (hval 2 2 v2 rfl rfl)
  have hf2 : I64 a2 := int_wf Try.underlying2 h2f
  refine (StT.order a0 v1 a1 a2 W hf0 hf1 hf2).mono fun e W' he => ?_
  obtain ⟨rfl, hbel⟩ := he
  have hlt := fun x hx => hW'.lt x hx
  exact ⟨_, rfl, post_of_below (pa := p0 ++ (p1 ++ (p2 ++ []))) (pv := []) hW' (fun _ _ _ => trodAll_cons_mk (shut_bool Try.underlying4 _) trodAll_mk0)
    (fun sp hsp => by
      rw [Try.params5]
      exact (trodAll_cons_mk (WideElems.Trod_stays laidOut readable_int inRow_int h0 (fun x hx => hbel.same (hlt x (by simp [hx]))) (fun x hx => hsp x (by simp [hx]))) (trodAll_cons_mk (WideElems.Trod_stays laidOut readable_infos inRow_infos h1 (fun x hx => hbel.same (hlt x (by simp [hx]))) (fun x hx => hsp x (by simp [hx]))) (trodAll_cons_mk (WideElems.Trod_stays laidOut readable_int64 inRow_int64 h2 (fun x hx => hbel.same (hlt x (by simp [hx]))) (fun x hx => hsp x (by simp [hx]))) trodAll_mk0))))
    (fun _ _ => rfl) (by simp) hbel (ok_one (by kernel_rfl) rfl (okWide_bool_mk Try.underlying4 _))⟩
set_option maxRecDepth 100000 in
theorem lifted (os : Os) (started : os.Started) (H : Type) (enc : TypeId × Value → H) :
    ReturnsInHanded {} Try.checked os 5 .any (Rows.storeOrderSpec.pre6 enc Try.prog Try.f5 Rows.storeOrderRow.domain false) (Rows.storeOrderSpec.post enc Try.prog Try.f5 false true false false) := by
  refine returnsInHanded_of_change (C := Try.checked) own started (by kernel_rfl) Try.func5
    (ChangeSpec.witness6 (enc := enc) (C := Try.checked) false ⟨#[], #[.int .i64 0, .slice none 0 0, .int .i64 0], []⟩ 8 (by kernel_rfl) (by kernel_rfl) (by kernel_rfl) (by kernel_rfl)) ?_
  intro W base args ds gs before hval0 hW hcnd _
  exact contract H enc W base args ds gs before hval0 hW
theorem said : Rows.StoreOrderSaid :=
  OpenClaim.holds_of_wide 5 Try.f5 rfl rfl rfl rfl rfl rfl rfl ⟨rfl, rfl, rfl, rfl, rfl⟩ rfl rfl rfl rfl rfl (by kernel_rfl) Try.func5 (by kernel_rfl)
    (of_decide_eq_true (by kernel_rfl)) (by unfold Func.isWrapper; first | (rw [if_pos (by decide +kernel)]; kernel_rfl) | (rw [if_neg (by decide +kernel)]; exact ⟨rfl, rfl⟩))
    (fun os started H enc _ => lifted os started H enc)
#print axioms said
end Go.Proofs.Ytjgodnakhbkgeaa.storeOrder
