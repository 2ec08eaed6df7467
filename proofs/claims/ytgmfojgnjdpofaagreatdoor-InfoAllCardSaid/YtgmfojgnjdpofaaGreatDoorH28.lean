import Derived.Test.YtgmfojgnjdpofaaGreatDoorH27
import Derived.Deep.Onto
import Derived.Test.YtgmfojgnjdpofaaGreatDoorH22
import Derived.Test.YtgmfojgnjdpofaaGreatDoorH15
namespace Go.Proofs.YtgmfojgnjdpofaaGreatDoor
open Go.Proofs.Tryz
section
open Go.RowKit NB
namespace RdR
open Rd
theorem P1.to2 {W:World} {B p:Nat} {rs:List RuleV} (h:P1 W B p rs) (hB:B≤W.heap.size):∃ rv lv,P2 W B W.heap.size p rs [] [] 0 rv lv nilV nilV:=by
 obtain ⟨rv,lv,hb,hr,hl⟩:=h;exact ⟨rv,lv,hb,hr,hl,fun g hg=>(hl.lt g hg).2,World.ownsRow_nil _ _ _ _,World.ownsRow_nil _ _ _ _,(fun x hx=>by cases hx),(fun x hx=>by cases hx),(fun x hx=>by cases hx),(fun x hx=>by cases hx),hB,Nat.le_refl _⟩
theorem infoZn:(prog.info? 66).map (fun i=>(i.zero,i.size,i.bytes))=some (some (.agg #[.string .empty,.slice none 0 0]),2,40):=by kernel_rfl
theorem infoLI:(prog.info? 199).map (fun i=>(i.zero,i.size,i.bytes))=some (some (.slice none 0 0),1,24):=by kernel_rfl
theorem P2.zall {W:World} {B F p:Nat} {rs:List RuleV} {zs:List ZoneV} {es:List RowN} {o:Int} {rv lv zv ev:Value} (h:P2 W B F p rs zs es o rv lv zv ev):∀ x∈zs,W.ownsRow B 53 13 x.v x.es.length (x.es.flatMap EraV.cells):=fun x hx=>by
 by_cases h0:zs=[]
 ·rw [h0] at hx;cases hx
 ·rw [← List.dropLast_concat_getLast h0] at hx;rcases List.mem_append.1 hx with hx|hx
  ·exact (h.zf x hx).1
  ·rw [List.mem_singleton] at hx;subst hx;exact World.ownsRow.mono (h.za _ (List.getLast?_eq_some_getLast h0)) h.bF
theorem P2.eall {W:World} {B F p:Nat} {rs:List RuleV} {zs:List ZoneV} {es:List RowN} {o:Int} {rv lv zv ev:Value} (h:P2 W B F p rs zs es o rv lv zv ev):∀ x∈es,W.ownsRow B 3 1 x.v x.ns.length (x.ns.flatMap intC):=fun x hx=>by
 by_cases h0:es=[]
 ·rw [h0] at hx;cases hx
 ·rw [← List.dropLast_concat_getLast h0] at hx;rcases List.mem_append.1 hx with hx|hx
  ·exact (h.ef x hx).1
  ·rw [List.mem_singleton] at hx;subst hx;exact World.ownsRow.mono (h.ea _ (List.getLast?_eq_some_getLast h0)) h.bF
set_option maxRecDepth 100000 in
set_option maxHeartbeats 6400000 in
theorem zone {W:World} {B F p:Nat} {rs:List RuleV} {zs:List ZoneV} {es:List RowN} {o:Int} {rv lv zv ev:Value} (hP:P2 W B F p rs zs es o rv lv zv ev) (hpB:p<B) (hl:es.length=zs.length)
 (hn:zs.length≤100) (nm:ByteArray) (hnm:Nam.nameE nm=0) (e:EraV) (he:Er.rightB e=true) {v:Value} (hv:HoldsS W v (nm :: fieldsE e)) (hcp:∀ p n cap,v=.slice p n cap→n≤cap) (hbt:∀ a n cap,v=.slice (some a) n cap→∃ cur,Box W a.block cur 9) (ln:Int) (h0:0<ln) (h1:ln≤1000000):
 Calls prog 259 #[.pointer (some ⟨p,0,none⟩),v,.int .i64 ln] W fun x w'=>x=.returned (.int .i64 0)∧(∃ F' v' u' zv' ev',P2 w' B F' p rs (zs++[⟨nm,v',[e]⟩]) (es++[⟨u',[ln]⟩]) (if e.u.has=true then ln else 0) rv lv zv' ev')∧Fr B p W w':=by
 obtain ⟨i1,hi1,hz0,hz1,hz2⟩:=info_parts infoZn;obtain ⟨i2,hi2,hy0,hy1,hy2⟩:=info_parts infoLI;have cN:=fun X=>RRule.Name nm (by have:=(clean_name hnm).2;omega) X;rw [hnm] at cN;obtain ⟨pv,cap,hv1,hp⟩:=hv.pk1;have hfl:=fieldsE_len e;have hcap:=hcp _ _ _ hv1;rw [List.length_cons] at hcap;obtain ⟨b,ob,rfl,hbW,d0⟩:=hp 0 nm rfl;rw [Nat.add_zero] at d0;have hsub:=fun (X:World) (c':Nat) (hX:Below W.heap.size W X)=>(show HoldsS X (.slice (some ⟨b,ob+1,none⟩) ((fieldsE e).length+1-1) c') (fieldsE e) from by
  have h2:=HoldsG.later hv hX;rw [hv1,List.length_cons] at h2;have:=HoldsS.sub (c':=c') (k:=1) h2 (by rw [List.length_cons];omega);exact this)
 rw [Nat.add_sub_cancel] at hsub;have hsub2:∀ (X:World) (c':Nat),X.cell? ⟨b,ob,none⟩=X.cell? ⟨b,ob,none⟩→True:=fun _ _ _=>trivial;obtain ⟨nf,hnf⟩:∃ nf,nf=(fieldsE e).length:=⟨_,rfl⟩;rw [List.length_cons, ←hnf] at hv1;rw [← hnf] at hsub hcap hfl;obtain ⟨cur,bb⟩:=hbt _ _ _ hv1;have bb:Box W b cur 9:=bb;subst hv1;obtain ⟨qz,cz,rfl⟩:=own_f hP.z;obtain ⟨qe,ce,rfl⟩:=own_f hP.e;have hc1:¬cap=1:=by omega
 have hc2:(1:Int)≤(nf:Int)+1:=by omega
 have hb:=hP.box;have cb:=hb.cell;have lb:=hb.lt;have HP:=kj hP;have HS:=kj hsub;have CN:=kj cN;have HV:=kj hv;have HE:=kj he;have hFW:=hP.fW;have hBF:=hP.bF;rw [hl] at cb hb;obtain ⟨n,hnn⟩:∃ n,n=zs.length:=⟨_,rfl⟩;rw [← hnn] at cb hb hn;have HN:=kj hnn;have HL:=kj hl;clear hP hsub cN hp hv he hcp hsub2 hnf hbt;have EQ1:(Value.slice qe es.length ce)=.slice qe n ce:=by rw [hl,hnn]
 have EQ2:(Value.slice qz zs.length cz)=.slice qz n cz:=by rw [hnn]
 rw [EQ1,EQ2] at HP;clear EQ1 EQ2 hnn hl;have cR:=fun (X:World) (v:Value) (h:HoldsS X v (fieldsE e)) (hc:∀ p n cap,v=.slice p n cap→n≤cap)=>RRe.Read e HE.out h hc;obtain ⟨off,kind,save,rules,format,⟨has,year,month,kk,wk,dd,sec,base⟩⟩:=e;unfold EraV.cells at cR;dsimp only at cR ⊢;obtain ⟨O,hO⟩:∃ O,O=(if has=true then ln else (0:Int)):=⟨_,rfl⟩;rw [← hO];have HOO:=kj hO;clear hO;have CR:=kj cR;clear cR;go_enter func259,ntmps259
 go_upto_region 11 with (first
  |(go_at_call 175;(with_reducible refine (CN.out _).mono ?_);rintro e w' ⟨rfl,rfl⟩)
  |(go_at_call 290;refine (CR.out _ _ (HS.out _ _ (Below.refl _ _)) (fun _ _ _ h=>by cases h;omega)).mono ?_;rintro x w1 ⟨rfl,hb1⟩;have bp1:=hb.later hb1;have cp1:=bp1.cell;have lp1:=bp1.lt))
 obtain ⟨w2,hw2⟩:∃ V,V=w1.alloc (.cells #[.int .i64 off,.int .i64 kind,.int .i64 save,.string rules,.string format,.bool has,.int .i64 year,.int .i64 month,.int .i64 kk,.int .i64 wk,.int .i64 dd,.int .i64 sec,.int .i64 base] 53):=⟨_,rfl⟩;have bp2:Box w2 p #[rv,.slice qz n cz,nilV,lv,.slice qe n ce,nilV,.int .i64 o] 244:=by rw [hw2];exact bp1.old
 have hbw2:Below W.heap.size W w2:=by rw [hw2];exact bcq
 rw [← hw2];have hs2:=hbw2.size;clear hw2 hb1 bp1 cp1 lp1;have hS:∀ U,Below w2.heap.size w2 U→U.cell? ⟨p,1,none⟩=some (.slice qz n cz)∧U.cell? ⟨b,ob,none⟩=some (.string nm):=fun U hU=>And.intro ((bp2.later hU).cell 1) ((hU.cell (p:=⟨b,ob,none⟩) (by show b<_;omega)).trans ((hbw2.cell (p:=⟨b,ob,none⟩) hbW).trans d0));refine wp_region_noPanic ?_;refine wp_region_heldM (fun U=>U.cell? ⟨p,1,none⟩=some (.slice qz n cz)∧U.cell? ⟨b,ob,none⟩=some (.string nm)) 15 (by kernel_rfl) (hS _ (Below.refl _ _).drew) ?_;intro U hU hSU;have hUb:Below w2.heap.size w2 U:=by rw [hU];exact (Below.refl _ _).drew
 clear hU
 (refine wpAnyM_take (i:=0) (v:= ?vk0) rfl (by kernel_rfl) (by kernel_rfl) (by kernel_rfl) [] (by kernel_rfl) (by kernel_rfl) (fun _ _ _ h=>h) (Or.inl ⟨by rfl,?yk0⟩) hSU ?rk0;(case yk0=>(intro w hSw;(try dsimp only at hSw);go_simp;(try with_reducible rfl)));(try simp only [Act.put,List.setIfInBounds_toArray]))
 (refine wpAnyM_take (i:=1) (v:= ?vk1) rfl (by kernel_rfl) (by kernel_rfl) (by kernel_rfl) [] (by kernel_rfl) (by kernel_rfl) (fun _ _ _ h=>h) (Or.inl ⟨by rfl,?yk1⟩) hSU ?rk1;(case yk1=>(intro w hSw;(try dsimp only at hSw);go_simp;(try with_reducible rfl)));(try simp only [Act.put]))
 (refine wpAnyM_take (i:=2) (v:= ?vk2) rfl (by kernel_rfl) (by kernel_rfl) (by kernel_rfl) [] (by kernel_rfl) (by kernel_rfl) (fun _ _ _ h=>h) (Or.inl ⟨by rfl,?yk2⟩) hSU ?rk2;(case yk2=>(intro w hSw;(try dsimp only at hSw);go_simp;(try with_reducible rfl)));(try simp only [Act.put]))
 (refine wpAnyM_take (i:=3) (v:= ?vk3) rfl (by kernel_rfl) (by kernel_rfl) (by kernel_rfl) [] (by kernel_rfl) (by kernel_rfl) (fun _ _ _ h=>h) (Or.inl ⟨by rfl,?yk3⟩) hSU ?rk3;(case yk3=>(intro w hSw;(try dsimp only at hSw);go_simp;(try with_reducible rfl)));(try simp only [Act.put]))
 (refine wpAnyM_take (i:=4) (v:= ?vk4) rfl (by kernel_rfl) (by kernel_rfl) (by kernel_rfl) [] (by kernel_rfl) (by kernel_rfl) (fun _ _ _ h=>h) (Or.inl ⟨by rfl,?yk4⟩) hSU ?rk4;(case yk4=>(intro w hSw;(try dsimp only at hSw);go_simp;(try with_reducible rfl)));(try simp only [Act.put]))
 (refine wpAnyM_take (i:=5) (v:= ?vk5) rfl (by kernel_rfl) (by kernel_rfl) (by kernel_rfl) [] (by kernel_rfl) (by kernel_rfl) (fun _ _ _ h=>h) (Or.inl ⟨by rfl,?yk5⟩) hSU ?rk5;(case yk5=>(intro w hSw;(try dsimp only at hSw);go_simp;(try with_reducible rfl)));(try simp only [Act.put]))
 (refine wpAnyM_take (i:=6) (v:= ?vk6) rfl (by kernel_rfl) (by kernel_rfl) (by kernel_rfl) [] (by kernel_rfl) (by kernel_rfl) (fun _ _ _ h=>h) (Or.inl ⟨by rfl,?yk6⟩) hSU ?rk6;(case yk6=>(intro w hSw;(try dsimp only at hSw);go_simp;(try with_reducible rfl)));(try simp only [Act.put]))
 (refine wpAnyM_take (i:=7) (v:= ?vk7) rfl (by kernel_rfl) (by kernel_rfl) (by kernel_rfl) [] (by kernel_rfl) (by kernel_rfl) (fun _ _ _ h=>h) (Or.inl ⟨by rfl,?yk7⟩) hSU ?rk7;(case yk7=>(intro w hSw;(try dsimp only at hSw);go_simp;(try with_reducible rfl)));(try simp only [Act.put]))
 (refine wpAnyM_take (i:=8) (v:= ?vk8) rfl (by kernel_rfl) (by kernel_rfl) (by kernel_rfl) [] (by kernel_rfl) (by kernel_rfl) (fun _ _ _ h=>h) (Or.inl ⟨by rfl,?yk8⟩) hSU ?rk8;(case yk8=>(intro w hSw;(try dsimp only at hSw);go_simp;(try with_reducible rfl)));(try simp only [Act.put]))
 (refine wpAnyM_take (i:=9) (v:= ?vk9) rfl (by kernel_rfl) (by kernel_rfl) (by kernel_rfl) [] (by kernel_rfl) (by kernel_rfl) (fun _ _ _ h=>h) (Or.inl ⟨by rfl,?yk9⟩) hSU ?rk9;(case yk9=>(intro w hSw;(try dsimp only at hSw);go_simp;(try with_reducible rfl)));(try simp only [Act.put]))
 (refine wpAnyM_all (rs:=[10]) (by kernel_rfl) (by simp) (List.forall_mem_cons.2 ⟨?_,(fun _ h=>by cases h)⟩);refine wpOp_step rfl (fun K hK=> ?_))
 go_simp;obtain ⟨U1,hU1e⟩:∃ V,V=U.alloc (.cells #[.string nm,nilV] 66):=⟨_,rfl⟩;have hU1:Below w2.heap.size w2 U1:=by rw [hU1e];exact hUb.alloc hUb.size _
 have bsrc:Box U1 U.heap.size #[.string nm,nilV] 66:=by rw [hU1e];exact Box.new _ _ _
 have hWU:Below W.heap.size W U1:=hbw2.trans (hU1.mono hbw2.size);have hO1:U1.ownsRow B 66 2 (.slice qz n cz) n (zs.flatMap ZoneV.cells):=own_later (by have:=HP.out.z;rw [← HN.out] at this;exact this) hWU;rw [← hU1e];refine hK _ _ ⟨.inr (hS _ hU1),?_⟩;clear hK K hU1e
 (try simp only [Act.put,List.setIfInBounds_toArray,List.set_cons_zero,List.set_cons_succ])
 (refine wpAnyM_all (rs:=[11]) (by kernel_rfl) (by simp) (List.forall_mem_cons.2 ⟨?_,(fun _ h=>by cases h)⟩);refine wpOp_step rfl (fun K hK=> ?_))
 refine OW.step_append_at rfl (.tmp 41) (.tmp 46) 23 (by rfl) B 66 i1 _ 2 40 underlying23 hi1 hz0 hz1 hz2 rfl (by decide) (.slice qz n cz) n (zs.flatMap ZoneV.cells) (by rfl) hO1 ⟨U.heap.size,0,none⟩ 1 1 #[.string nm,nilV].toList (by rfl) rfl (news bsrc) (by intro u hu;simp only [List.mem_cons,List.not_mem_nil,or_false] at hu;rcases hu with rfl|rfl<;>rfl) (by unfold maxLen;omega) (by omega) (by have:=hU1.size;omega) ?_;intro q3 c3 U3 ho3 hg3 _;have hrowB:∀ r,(Value.slice qz n cz).ownBlock=some r→B≤r∧r<U1.heap.size:=fun r hr=>hO1.lt r hr;have bp3:Box U3 p #[rv,.slice qz n cz,nilV,lv,.slice qe n ce,nilV,.int .i64 o] 244:=(hg3.block p (bp2.later hU1).lt (fun e=>by have:=(hrowB p e.symm).1;omega)).trans (bp2.later hU1);have hfr3:Fr B p W U3:=(Fr.below hWU (by omega)).trans (Fr.grown hg3 (by have:=hWU.size;omega) (fun r hr=>(hrowB r hr).1));have bbU:=bb.later hWU;have bb3:Box U3 b cur 9:=(hg3.block b bbU.lt (fun e=>block_ne hO1 bbU (by decide) e.symm)).trans bbU;have hSU3:=And.intro (bp3.cell 1) ((bb3.cell ob).trans ((bb.cell ob).symm.trans d0));refine hK _ _ ⟨.inr hSU3,?_⟩;clear hK K
 (try simp only [Act.put,List.setIfInBounds_toArray])
 (refine wpAnyM_take (i:=12) (v:= ?vk12) rfl (by kernel_rfl) (by kernel_rfl) (by kernel_rfl) [14,13] (by kernel_rfl) (by kernel_rfl) (fun _ _ _ h=>h) (Or.inl ⟨by rfl,?yk12⟩) hSU3 ?rk12;(case yk12=>(intro w hSw;(try dsimp only at hSw);go_simp;(try with_reducible rfl)));(try simp only [Act.put]))
 (refine wpAnyM_take (i:=13) (v:= ?vk13) rfl (by kernel_rfl) (by kernel_rfl) (by kernel_rfl) [14] (by kernel_rfl) (by kernel_rfl) (fun _ _ _ h=>h) (Or.inl ⟨by rfl,?yk13⟩) hSU3 ?rk13;(case yk13=>(intro w hSw;(try dsimp only at hSw);go_simp;(try with_reducible rfl)));(try simp only [Act.put]))
 (refine wpAnyM_take (i:=14) (v:= ?vk14) rfl (by kernel_rfl) (by kernel_rfl) (by kernel_rfl) [] (by kernel_rfl) (by kernel_rfl) (fun _ _ _ h=>h) (Or.inl ⟨by rfl,?yk14⟩) hSU3 ?rk14;(case yk14=>(intro w hSw;(try dsimp only at hSw);go_simp;(try with_reducible rfl)));(try simp only [Act.put]))
 have cX:=bp3.cell;have fX:=bp3.free;have lX:=bp3.lt
 (refine wpAnyM_all (rs:=[15]) (by kernel_rfl) (by simp) (List.forall_mem_cons.2 ⟨?_,(fun _ h=>by cases h)⟩);refine wpOp_step rfl (fun K hK=> ?_))
 go_simp;refine hK _ _ ⟨.inl rfl,?_⟩;clear hK K;refine wpAnyM_done (by kernel_rfl) (NoPanic.normal ?_) _;obtain ⟨W4,hW4⟩:∃ V,V=U3.setCell ⟨p,1,none⟩ (.slice q3 (n+1) c3):=⟨_,rfl⟩;have bp4:Box W4 p #[rv,.slice q3 (n+1) c3,nilV,lv,.slice qe n ce,nilV,.int .i64 o] 244:=by rw [hW4];exact bp3.set
 have hpb:b≠p:=fun e=>by
  have h1:Box W b cur 9:=bb;rw [e] at h1;have h2:W.heap[p]? =some (.cells cur 9):=h1;have h3:W.heap[p]? =some (.cells _ 244):=hb;rw [h2] at h3;cases h3
 have bb4:Box W4 b cur 9:=by rw [hW4];exact bb3.other hpb
 have kp:∀ {B':Nat} {e':TypeId} {sz':Nat} {v':Value} {n':Nat} {xs':List Value},W.ownsRow B' e' sz' v' n' xs'→p<B'→66≠e'→W4.ownsRow B' e' sz' v' n' xs':=fun h hp' hne=>by
  rw [hW4];exact ownsRow_setCell_below (a:=⟨p,1,none⟩) ((own_later h hWU).kept hg3 (own_ne (own_later h hWU) hO1 (fun e=>hne e.symm))) hp' _
 have Z4:W4.ownsRow B 66 2 (.slice q3 (n+1) c3) (n+1) (zs.flatMap ZoneV.cells++[.string nm,nilV]):=by rw [hW4];exact ownsRow_setCell_below (a:=⟨p,1,none⟩) ho3 hpB _
 have E4:W4.ownsRow B 199 1 (.slice qe n ce) n (es.flatMap RowN.cells):=kp (by have:=HP.out.e;rw [HL.out, ←HN.out] at this;exact this) hpB (by decide);have R4:=kp HP.out.r hpB (by decide);have L4:=kp HP.out.l hpB (by decide);have ZA4:∀ x∈zs,W4.ownsRow B 53 13 x.v x.es.length (x.es.flatMap EraV.cells):=fun x hx=>kp (HP.out.zall x hx) hpB (by decide);have EA4:∀ x∈es,W4.ownsRow B 3 1 x.v x.ns.length (x.ns.flatMap intC):=fun x hx=>kp (HP.out.eall x hx) hpB (by decide);have hfr4:Fr B p W W4:=by rw [hW4];exact hfr3.trans Fr.set
 have hsz4:=hfr4.size;have hlF:=HP.out.lF;rw [← hW4];clear hW4 kp hfr3 hSU3 bp3 bb3 bbU cX fX lX ho3 hg3 hrowB hO1 hWU bsrc hU1 hUb hSU hS bp2 hbw2 hb cb;have H4:=kj (And.intro R4 (And.intro L4 (And.intro ZA4 (And.intro EA4 Z4))));have HLF:=kj hlF;have HI1:=kj hi2;have HI2:=kj hy0;have HI3:=kj hy1;have HI4:=kj hy2;clear R4 L4 ZA4 EA4 Z4 hlF hi2 hy0 hy1 hy2 hi1 hz0 hz1 hz2;have c4:=bp4.cell;have l4:=bp4.lt;have f4:=bp4.free
 go_upto_region 13 with (at_builtin;refine wpList_append_own _ rfl _ _ 200 rfl B 199 i2 _ 1 24 underlying200 HI1.out HI2.out HI3.out HI4.out rfl (by decide) _ _ _ rfl (World.ownsRow.alloc E4 _) ⟨_,0,none⟩ 1 1 [nilV] rfl rfl (cell_one_at (by simp)) (by simp [Value.oneCell',nilV]) (by unfold maxLen;omega) (by omega) (by simp;omega) ?_;intro v6 w6 hown6 hgrow6 _;obtain ⟨p6,c6,rfl⟩:=own_f hown6;have hEA:=World.ownsRow.alloc E4 (.cells #[nilV] 199);have bp6:Box w6 p #[rv,.slice q3 (n+1) c3,nilV,lv,.slice qe n ce,nilV,.int .i64 o] 244:=(hgrow6.block p bp4.old.lt (fun e=>by have:=(hEA.lt p e.symm).1;omega)).trans bp4.old;have bb6:Box w6 b cur 9:=(hgrow6.block b bb4.old.lt (fun e=>block_ne hEA bb4.old (by decide) e.symm)).trans bb4.old;have cp6:=bp6.cell;have fp6:=bp6.free;have lp6:=bp6.lt)
 obtain ⟨W7,hW7⟩:∃ V,V=w6.setCell ⟨p,4,none⟩ (.slice p6 (n+1) c6):=⟨_,rfl⟩;have hpB2:p<B:=hpB;have bp7:Box W7 p #[rv,.slice q3 (n+1) c3,nilV,lv,.slice p6 (n+1) c6,nilV,.int .i64 o] 244:=by rw [hW7];exact bp6.set
 have bb7:Box W7 b cur 9:=by rw [hW7];exact bb6.other hpb
 have kp:∀ {B':Nat} {e':TypeId} {sz':Nat} {v':Value} {n':Nat} {xs':List Value},W4.ownsRow B' e' sz' v' n' xs'→p<B'→199≠e'→W7.ownsRow B' e' sz' v' n' xs':=fun h hp' hne=>by
  rw [hW7];have hA:=World.ownsRow.alloc h (.cells #[nilV] 199);exact ownsRow_setCell_below (a:=⟨p,4,none⟩) (hA.kept hgrow6 (own_ne hA hEA (fun e=>hne e.symm))) hp' _
 have E7:W7.ownsRow B 199 1 (.slice p6 (n+1) c6) (n+1) (es.flatMap RowN.cells++[nilV]):=by rw [hW7];exact ownsRow_setCell_below (a:=⟨p,4,none⟩) hown6 hpB _
 have hfr7:Fr B p W W7:=by
  rw [hW7];exact (hfr4.trans (Fr.below (ba (Below.refl _ _)) (by omega))).trans ((Fr.grown hgrow6 (by simp;omega) (fun r hr=>(hEA.lt r hr).1)).trans Fr.set)
 have hsz7:=hfr7.size;obtain ⟨R4,L4,ZA4,EA4,Z4⟩:=H4.out;have hEn:es.length=n:=by rw [HL.out, ←HN.out]
 have hP7:P2 W7 B W7.heap.size p rs (zs++[⟨nm,nilV,[]⟩]) (es++[⟨nilV,[]⟩]) o rv lv (.slice q3 (n+1) c3) (.slice p6 (n+1) c6):=by
  refine ⟨bp7,kp R4 hpB (by decide),kp L4 hpB (by decide),fun r hr=>by have:=HLF.out r hr;omega,?_,?_,?_,?_,?_,?_,by omega,Nat.le_refl _⟩
  ·rw [List.length_append, ←HN.out,List.flatMap_append];exact kp Z4 hpB (by decide)
  ·rw [List.length_append,hEn,List.flatMap_append];exact E7
  ·intro x hx;rw [List.dropLast_concat] at hx;have:=kp (ZA4 x hx) hpB (by decide);exact ⟨this,fun r hr=>(this.lt r hr).2⟩
  ·intro x hx;rw [List.dropLast_concat] at hx;have:=kp (EA4 x hx) hpB (by decide);exact ⟨this,fun r hr=>(this.lt r hr).2⟩
  ·intro x hx;rw [List.getLast?_concat] at hx;cases hx;exact World.ownsRow_nil _ _ _ _
  ·intro x hx;rw [List.getLast?_concat] at hx;cases hx;exact World.ownsRow_nil _ _ _ _
 have hV7:HoldsS W7 (.slice (some ⟨b,ob,none⟩) (nf+1) cap) (nm :: fieldsE ⟨off,kind,save,rules,format,⟨has,year,month,kk,wk,dd,sec,base⟩⟩):=HoldsG.keep HV.out hsz7 (fun b' hb' _=>by cases hb';exact (show W7.heap[b]? =_ from bb7).trans (show W.heap[b]? =_ from bb).symm);have hS7:=fun c'=>HoldsS.sub (c':=c') (k:=1) hV7 (by rw [List.length_cons];have:=fieldsE_len ⟨off,kind,save,rules,format,⟨has,year,month,kk,wk,dd,sec,base⟩⟩;omega);have HP7:=kj hP7;have HS7:=kj hS7;have HF7:=kj hfr7;have hn2:zs.length≤1000:=by have:=HN.out;omega
 have hn3:es.length≤1000:=by omega
 rw [← hW7];clear hW7 hP7 hV7 hS7 hfr7 kp E7 R4 L4 ZA4 EA4 Z4 bp7 bb7 bp6 bb6 hgrow6 hown6 hEA cp6 fp6 lp6 bp4 bb4 E4 hfr4 c4 l4 f4 H4
 go_wp2_with (go_at_call 256;refine (era HP7.out hpB hn2 hn3 (Nat.zero_le _) (Nat.zero_le _) ⟨off,kind,save,rules,format,⟨has,year,month,kk,wk,dd,sec,base⟩⟩ HE.out (HS7.out _) (fun _ _ _ h=>by cases h;omega) ln h0 h1).mono ?_;rintro x w8 ⟨rfl,⟨v8,u8,hP8⟩,hfr8⟩)
 go_ret;refine ⟨rfl,⟨W7.heap.size,v8,u8,.slice q3 (n+1) c3,.slice p6 (n+1) c6,?_⟩,HF7.out.trans hfr8⟩;rw [HOO.out];exact hP8
end RdR
end
section
open Go.RowKit NB
namespace RRk
open Rd RWd
theorem right_parts {x:LinkV} (h:rightK x=true):Nam.nameE x.target=0∧Nam.nameE x.name=0∧x.target≠x.name:=by
 unfold rightK at h
 simpa using h
theorem Right (x:LinkV) (hx:x.Fit) (w:World):Calls prog 195 #[.agg x.cells.toArray] w fun e w'=>e=.returned (.bool (rightK x))∧Below w.heap.size w w':=by
 have c1:=fun W=>RRule.Name x.target hx.t W;have c2:=fun W=>RRule.Name x.name hx.n W;unfold rightK;obtain ⟨a,b⟩:=x;unfold LinkV.cells;dsimp only at *
 by_cases h1:Nam.nameE a=0
 ·by_cases h2:Nam.nameE b=0
  ·rw [h1] at c1;rw [h2] at c2;rw [h1,h2];have C1:=kj c1;have C2:=kj c2;clear c1 c2 h1 h2
   by_cases he:a=b
   ·have e0:=str_eq he;subst he;go_enter func195,ntmps195
    go_wp2_with (first
     |(go_at_call 175;(with_reducible refine (C1.out _).mono ?_);rintro e w' ⟨rfl,rfl⟩)
     |(go_at_call 175;(with_reducible refine (C2.out _).mono ?_);rintro e w' ⟨rfl,rfl⟩))
    go_ret;exact ⟨ret_bool (by simp),bcq⟩
   ·have e0:=str_ne he;have HE:=kj he;clear he;go_enter func195,ntmps195
    go_wp2_with (first
     |(with_reducible (go_at_call 175;(with_reducible refine (C1.out _).mono ?_);rintro e w' ⟨rfl,rfl⟩))
     |(with_reducible (go_at_call 175;(with_reducible refine (C2.out _).mono ?_);rintro e w' ⟨rfl,rfl⟩)))
    go_ret;exact ⟨ret_bool (by simp [HE.out]),bcq⟩
  ·rw [h1] at c1;rw [h1,decide_eq_false h2];have e2:(Nam.nameE b==0)=false:=by simpa using h2
   generalize Nam.nameE b=n2 at *;have C1:=kj c1;have C2:=kj c2;clear c1 c2 h1 h2;go_enter func195,ntmps195
   go_wp2_with (first
    |(with_reducible (go_at_call 175;(with_reducible refine (C1.out _).mono ?_);rintro e w' ⟨rfl,rfl⟩))
    |(with_reducible (go_at_call 175;(with_reducible refine (C2.out _).mono ?_);rintro e w' ⟨rfl,rfl⟩)))
   go_ret;exact ⟨ret_bool (by simp),bcq⟩
 ·rw [decide_eq_false h1];have e2:(Nam.nameE a==0)=false:=by simpa using h1
  generalize Nam.nameE a=n2 at *;have C1:=kj c1;clear c1 c2 h1;go_enter func195,ntmps195
  go_wp2_with (first
   |(with_reducible (go_at_call 175;(with_reducible refine (C1.out _).mono ?_);rintro e w' ⟨rfl,rfl⟩)))
  go_ret;exact ⟨ret_bool (by simp),bcq⟩
theorem Fields (x:LinkV) (hfit:x.Fit) (h:rightK x=true) (w:World):
 Calls prog 148 #[.agg x.cells.toArray] w fun e w'=>∃ v,e=.returned (.tuple #[v,.int .i64 0])∧HoldsS w' v (fieldsK x)∧Below w.heap.size w w':=by
 have c1:=fun W=>Right x hfit W;rw [h] at c1;unfold fieldsK;obtain ⟨a,b⟩:=x;unfold LinkV.cells at *;dsimp only at *;have C1:=kj c1;clear c1 h hfit;have hb0:=Box.new w #[.string a,.string b] 146;go_enter func148,ntmps148
 go_wp2_with (go_at_call 195;(with_reducible refine (C1.out _).mono ?_);rintro e w1 ⟨rfl,hb1⟩;obtain ⟨_,_,_⟩:=bcs hb1 (w.heap.size))
 go_ret2;exact ⟨_,rfl,HoldsS.of_box (l:=[a,b]) (Box.new _ _ _) rfl (by simp),bcq⟩
set_option maxHeartbeats 3200000 in
theorem Read (x:LinkV) (hfit:x.Fit) (h:rightK x=true) {w:World} {v:Value} (hv:HoldsS w v (fieldsK x)):
 Calls prog 294 #[v] w fun e w'=>e=.returned (.tuple #[.agg x.cells.toArray,.int .i64 0])∧Below w.heap.size w w':=by
 obtain ⟨h1,h2,h3⟩:=right_parts h;have c1:=fun W=>RRule.Name x.target hfit.t W;have c2:=fun W=>RRule.Name x.name hfit.n W;rw [h1] at c1;rw [h2] at c2;have e0:=str_ne h3;obtain ⟨p,cap,hv1,hp⟩:=hv.pk1;unfold fieldsK at hp hv1;obtain ⟨a,b⟩:=x;unfold LinkV.cells;dsimp only at *;have hv1:v=.slice p 2 cap:=hv1;subst hv1;obtain ⟨g,o,rfl,hg,d0⟩:=hp 0 _ rfl;have d1:w.cell? ⟨g,o+1,none⟩=some (.string b):=by obtain ⟨_,_,e,_,d⟩:=hp 1 _ rfl;cases e;exact d
 rw [Nat.add_zero] at d0;have C1:=kj c1;have C2:=kj c2;clear c1 c2 h1 h2 h3 h hv hp hfit;go_enter func294,ntmps294
 go_upto_region 5 with fail
 obtain ⟨W0,hW0⟩:∃ V,V=w.alloc (.cells #[.string ⟨#[]⟩,.string ⟨#[]⟩] 146):=⟨_,rfl⟩;have BR:Box W0 w.heap.size #[.string ⟨#[]⟩,.string ⟨#[]⟩] 146:=by rw [hW0];exact Box.new _ _ _
 have hb0:Below w.heap.size w W0:=by rw [hW0];exact bcq
 have f0:=(hb0.cell (p:=⟨g,o,none⟩) hg).trans d0;have f1:=(hb0.cell (p:=⟨g,o+1,none⟩) hg).trans d1;rw [← hW0];clear hW0 d0 d1;go_wp2
 go_loop [17] (fun i=>∃ k:Nat,k≤2∧i=.int .i64 k) (fun i=>2-(intOf i).toNat)
 case atStart=>exact ⟨0,Nat.zero_le _,rfl⟩
 case round=>
  obtain ⟨k,hk,rfl⟩:=hrel;rcases (by omega:k=0∨k=1∨k=2) with rfl|rfl|rfl
  ·go_wp2_with (go_at_call 175;(with_reducible refine (C1.out _).mono ?_);rintro e w' ⟨rfl,rfl⟩)
   go_round
   case rel=>exact ⟨1,by omega,by go_num⟩
   case measure=>simp [intOf]
  ·go_wp2_with (go_at_call 175;(with_reducible refine (C2.out _).mono ?_);rintro e w' ⟨rfl,rfl⟩)
   go_round
   case rel=>exact ⟨2,by omega,by go_num⟩
   case measure=>simp [intOf]
  ·have cR:=BR.cell;have fR:=BR.free;have n3:g≠w.heap.size:=by omega
   have lR:=BR.lt
   go_upto_region 12 with fail
   go_quiet (fail)
   go_upto_region 14 with fail
   go_region
   go_wp2;refine bodyPost_ret (v:=.tuple #[.agg #[.string a,.string b],.int .i64 0]) ?_ rfl ⟨rfl,?_⟩
   ·simp only [results,results294];go_simp
   ·exact bcq
end RRk
end
section
open Go.RowKit NB
namespace RdR
open Rd
structure P3 (W:World) (B F p:Nat) (rs:List RuleV) (zs:List ZoneV) (es:List RowN) (ls:List LinkV) (ns:List Int) (rv lv zv ev kv nv:Value):Prop where
 box:Box W p #[rv,zv,kv,lv,ev,nv,.int .i64 0] 244
 r:W.ownsRow B 57 11 rv rs.length (rs.flatMap RuleV.cells)
 l:W.ownsRow B 3 1 lv rs.length ((Ck.up 0 rs.length).flatMap intC)
 lF:∀ g,lv.ownBlock=some g→g<F
 z:W.ownsRow B 66 2 zv zs.length (zs.flatMap ZoneV.cells)
 e:W.ownsRow B 199 1 ev es.length (es.flatMap RowN.cells)
 zf:∀ x∈zs,W.ownsRow B 53 13 x.v x.es.length (x.es.flatMap EraV.cells)
 ef:∀ x∈es,W.ownsRow B 3 1 x.v x.ns.length (x.ns.flatMap intC)∧∀ g,x.v.ownBlock=some g→g<F
 k:W.ownsRow B 146 2 kv ls.length (ls.flatMap LinkV.cells)
 n:W.ownsRow F 3 1 nv ls.length (ns.flatMap intC)
 bF:B≤F
 fW:F≤W.heap.size
theorem P2.to3 {W:World} {B F p:Nat} {rs:List RuleV} {zs:List ZoneV} {es:List RowN} {rv lv zv ev:Value} (h:P2 W B F p rs zs es 0 rv lv zv ev):P3 W B W.heap.size p rs zs es [] [] rv lv zv ev nilV nilV:=
 ⟨h.box,h.r,h.l,fun g hg=>(h.l.lt g hg).2,h.z,h.e,h.zall,fun x hx=>⟨h.eall x hx,fun g hg=>((h.eall x hx).lt g hg).2⟩,World.ownsRow_nil _ _ _ _,World.ownsRow_nil _ _ _ _,Nat.le_trans h.bF h.fW,Nat.le_refl _⟩
theorem infoLk:(prog.info? 146).map (fun i=>(i.zero,i.size,i.bytes))=some (some (.agg #[.string .empty,.string .empty]),2,32):=by kernel_rfl
set_option maxRecDepth 100000 in
set_option maxHeartbeats 6400000 in
theorem link {W:World} {B F p:Nat} {rs:List RuleV} {zs:List ZoneV} {es:List RowN} {ls:List LinkV} {ns:List Int} {rv lv zv ev kv nv:Value} (hP:P3 W B F p rs zs es ls ns rv lv zv ev kv nv) (hpB:p<B) (hn:ls.length≤1000)
 (x:LinkV) (hfit:x.Fit) (hr:rightK x=true) {v:Value} (hv:HoldsS W v (fieldsK x)) (ln:Int):
 Calls prog 260 #[.pointer (some ⟨p,0,none⟩),v,.int .i64 ln] W fun e w'=>e=.returned (.int .i64 0)∧(∃ kv' nv',P3 w' B F p rs zs es (ls++[x]) (ns++[ln]) rv lv zv ev kv' nv')∧Fr B p W w':=by
 have c1:=RRk.Read x hfit hr hv;obtain ⟨i1,hi1,hz0,hz1,hz2⟩:=info_parts infoLk;obtain ⟨i2,hi2,hy0,hy1,hy2⟩:=info_parts infoI;obtain ⟨q,c,rfl⟩:=own_f hP.k;obtain ⟨qn,cn,rfl⟩:=own_f hP.n;have hb:=hP.box;have hO:=hP.k;have hL:=hP.n;obtain ⟨n,hnn⟩:∃ n,n=ls.length:=⟨_,rfl⟩;have HP:=kj hP;rw [← hnn] at hn hO hL hb HP;have HN:=kj hnn;have hFW:=hP.fW;have hBF:=hP.bF;obtain ⟨a,b⟩:=x;unfold LinkV.cells at c1;obtain ⟨pv,cv,hv1,_⟩:=hv.pk1;rw [show (fieldsK ⟨a,b⟩).length=2 from rfl] at hv1;subst hv1;have C1:=kj c1;have HO:=kj hO;have HL:=kj hL;have cb:=hb.cell;have lb:=hb.lt;clear c1 hv hnn hfit hr hP;go_enter func260,ntmps260
 go_upto_region 6 with (go_at_call 294;refine C1.out.mono ?_;rintro e w1 ⟨rfl,hb1⟩;have bp1:=hb.later hb1;have cp1:=bp1.cell;have lp1:=bp1.lt)
 obtain ⟨w2,hw2⟩:∃ V,V=w1.alloc (.cells #[.string a,.string b] 146):=⟨_,rfl⟩;obtain ⟨y,hy⟩:∃ y,y=w1.heap.size:=⟨_,rfl⟩;have bx2:Box w2 y #[.string a,.string b] 146:=by rw [hw2,hy];exact Box.new _ _ _
 have bp2:Box w2 p #[rv,zv,.slice q n c,lv,ev,.slice qn n cn,.int .i64 0] 244:=by rw [hw2];exact bp1.old
 have hbw2:Below W.heap.size W w2:=by rw [hw2];exact bcq
 have hxW:W.heap.size≤y:=by rw [hy];exact hb1.size
 rw [← hw2, ←hy];have hs2:=hbw2.size;clear hw2 hy hb1 bp1 cp1 lp1;have hS:∀ U,Below w2.heap.size w2 U→U.cell? ⟨p,2,none⟩=some (.slice q n c)∧U.cell? ⟨y,0,none⟩=some (.string a)∧U.cell? ⟨y,1,none⟩=some (.string b):=fun U hU=>⟨(bp2.later hU).cell 2,(bx2.later hU).cell 0,(bx2.later hU).cell 1⟩;refine wp_region_noPanic ?_;refine wp_region_heldM (fun U=>U.cell? ⟨p,2,none⟩=some (.slice q n c)∧U.cell? ⟨y,0,none⟩=some (.string a)∧U.cell? ⟨y,1,none⟩=some (.string b)) 12 (by kernel_rfl) (hS _ (Below.refl _ _).drew) ?_;intro U hU hSU;have hUb:Below w2.heap.size w2 U:=by rw [hU];exact (Below.refl _ _).drew
 clear hU
 (refine wpAnyM_take (i:=0) (v:= ?vk0) rfl (by kernel_rfl) (by kernel_rfl) (by kernel_rfl) [] (by kernel_rfl) (by kernel_rfl) (fun _ _ _ h=>h) (Or.inl ⟨by rfl,?yk0⟩) hSU ?rk0;(case yk0=>(intro w hSw;(try dsimp only at hSw);go_simp;(try with_reducible rfl)));(try simp only [Act.put,List.setIfInBounds_toArray]))
 (refine wpAnyM_take (i:=1) (v:= ?vk1) rfl (by kernel_rfl) (by kernel_rfl) (by kernel_rfl) [] (by kernel_rfl) (by kernel_rfl) (fun _ _ _ h=>h) (Or.inl ⟨by rfl,?yk1⟩) hSU ?rk1;(case yk1=>(intro w hSw;(try dsimp only at hSw);go_simp;(try with_reducible rfl)));(try simp only [Act.put]))
 (refine wpAnyM_take (i:=2) (v:= ?vk2) rfl (by kernel_rfl) (by kernel_rfl) (by kernel_rfl) [] (by kernel_rfl) (by kernel_rfl) (fun _ _ _ h=>h) (Or.inl ⟨by rfl,?yk2⟩) hSU ?rk2;(case yk2=>(intro w hSw;(try dsimp only at hSw);go_simp;(try with_reducible rfl)));(try simp only [Act.put]))
 (refine wpAnyM_take (i:=3) (v:= ?vk3) rfl (by kernel_rfl) (by kernel_rfl) (by kernel_rfl) [] (by kernel_rfl) (by kernel_rfl) (fun _ _ _ h=>h) (Or.inl ⟨by rfl,?yk3⟩) hSU ?rk3;(case yk3=>(intro w hSw;(try dsimp only at hSw);go_simp;(try with_reducible rfl)));(try simp only [Act.put]))
 (refine wpAnyM_take (i:=4) (v:= ?vk4) rfl (by kernel_rfl) (by kernel_rfl) (by kernel_rfl) [] (by kernel_rfl) (by kernel_rfl) (fun _ _ _ h=>h) (Or.inl ⟨by rfl,?yk4⟩) hSU ?rk4;(case yk4=>(intro w hSw;(try dsimp only at hSw);go_simp;(try with_reducible rfl)));(try simp only [Act.put]))
 (refine wpAnyM_take (i:=5) (v:= ?vk5) rfl (by kernel_rfl) (by kernel_rfl) (by kernel_rfl) [] (by kernel_rfl) (by kernel_rfl) (fun _ _ _ h=>h) (Or.inl ⟨by rfl,?yk5⟩) hSU ?rk5;(case yk5=>(intro w hSw;(try dsimp only at hSw);go_simp;(try with_reducible rfl)));(try simp only [Act.put]))
 (refine wpAnyM_take (i:=6) (v:= ?vk6) rfl (by kernel_rfl) (by kernel_rfl) (by kernel_rfl) [] (by kernel_rfl) (by kernel_rfl) (fun _ _ _ h=>h) (Or.inl ⟨by rfl,?yk6⟩) hSU ?rk6;(case yk6=>(intro w hSw;(try dsimp only at hSw);go_simp;(try with_reducible rfl)));(try simp only [Act.put]))
 (refine wpAnyM_all (rs:=[7]) (by kernel_rfl) (by simp) (List.forall_mem_cons.2 ⟨?_,(fun _ h=>by cases h)⟩);refine wpOp_step rfl (fun K hK=> ?_))
 go_simp;obtain ⟨U1,hU1e⟩:∃ V,V=U.alloc (.cells #[.string a,.string b] 146):=⟨_,rfl⟩;have hU1:Below w2.heap.size w2 U1:=by rw [hU1e];exact hUb.alloc hUb.size _
 have bsrc:Box U1 U.heap.size #[.string a,.string b] 146:=by rw [hU1e];exact Box.new _ _ _
 have hWU:Below W.heap.size W U1:=hbw2.trans (hU1.mono hbw2.size);have hO1:U1.ownsRow B 146 2 (.slice q n c) n (ls.flatMap LinkV.cells):=own_later HO.out hWU;rw [← hU1e];refine hK _ _ ⟨.inr (hS _ hU1),?_⟩;clear hK K hU1e
 (try simp only [Act.put,List.setIfInBounds_toArray,List.set_cons_zero,List.set_cons_succ])
 (refine wpAnyM_all (rs:=[8]) (by kernel_rfl) (by simp) (List.forall_mem_cons.2 ⟨?_,(fun _ h=>by cases h)⟩);refine wpOp_step rfl (fun K hK=> ?_))
 refine OW.step_append_at rfl (.tmp 33) (.tmp 35) 24 (by rfl) B 146 i1 _ 2 32 underlying24 hi1 hz0 hz1 hz2 rfl (by decide) (.slice q n c) n (ls.flatMap LinkV.cells) (by rfl) hO1 ⟨U.heap.size,0,none⟩ 1 1 #[.string a,.string b].toList (by rfl) rfl (news bsrc) (by intro u hu;simp only [List.mem_cons,List.not_mem_nil,or_false] at hu;rcases hu with rfl|rfl<;>rfl) (by unfold maxLen;omega) (by omega) (by have:=hU1.size;omega) ?_;intro q3 c3 U3 ho3 hg3 _;have hrow:∀ g,(Value.slice q n c).ownBlock=some g→B≤g∧g<W.heap.size:=fun g hg=>HO.out.lt g hg;have bp3:Box U3 p #[rv,zv,.slice q n c,lv,ev,.slice qn n cn,.int .i64 0] 244:=(hg3.block p (bp2.later hU1).lt (fun e=>by have:=(hrow p e.symm).1;omega)).trans (bp2.later hU1);have bx3:Box U3 y #[.string a,.string b] 146:=(hg3.block y (bx2.later hU1).lt (fun e=>by have:=(hrow y e.symm).2;omega)).trans (bx2.later hU1);have hfr3:Fr B p W U3:=(Fr.below hWU (by omega)).trans (Fr.grown hg3 (by have:=hWU.size;omega) (fun g hg=>(hrow g hg).1));have hSU3:=And.intro (bp3.cell 2) (And.intro (bx3.cell 0) (bx3.cell 1));refine hK _ _ ⟨.inr hSU3,?_⟩;clear hK K
 (try simp only [Act.put,List.setIfInBounds_toArray])
 (refine wpAnyM_take (i:=9) (v:= ?vk9) rfl (by kernel_rfl) (by kernel_rfl) (by kernel_rfl) [11,10] (by kernel_rfl) (by kernel_rfl) (fun _ _ _ h=>h) (Or.inl ⟨by rfl,?yk9⟩) hSU3 ?rk9;(case yk9=>(intro w hSw;(try dsimp only at hSw);go_simp;(try with_reducible rfl)));(try simp only [Act.put]))
 (refine wpAnyM_take (i:=10) (v:= ?vk10) rfl (by kernel_rfl) (by kernel_rfl) (by kernel_rfl) [11] (by kernel_rfl) (by kernel_rfl) (fun _ _ _ h=>h) (Or.inl ⟨by rfl,?yk10⟩) hSU3 ?rk10;(case yk10=>(intro w hSw;(try dsimp only at hSw);go_simp;(try with_reducible rfl)));(try simp only [Act.put]))
 (refine wpAnyM_take (i:=11) (v:= ?vk11) rfl (by kernel_rfl) (by kernel_rfl) (by kernel_rfl) [] (by kernel_rfl) (by kernel_rfl) (fun _ _ _ h=>h) (Or.inl ⟨by rfl,?yk11⟩) hSU3 ?rk11;(case yk11=>(intro w hSw;(try dsimp only at hSw);go_simp;(try with_reducible rfl)));(try simp only [Act.put]))
 have cX:=bp3.cell;have fX:=bp3.free;have lX:=bp3.lt
 (refine wpAnyM_all (rs:=[12]) (by kernel_rfl) (by simp) (List.forall_mem_cons.2 ⟨?_,(fun _ h=>by cases h)⟩);refine wpOp_step rfl (fun K hK=> ?_))
 go_simp;refine hK _ _ ⟨.inl rfl,?_⟩;clear hK K;refine wpAnyM_done (by kernel_rfl) (NoPanic.normal ?_) _;obtain ⟨W4,hW4⟩:∃ V,V=U3.setCell ⟨p,2,none⟩ (.slice q3 (n+1) c3):=⟨_,rfl⟩;have bp4:Box W4 p #[rv,zv,.slice q3 (n+1) c3,lv,ev,.slice qn n cn,.int .i64 0] 244:=by rw [hW4];exact bp3.set
 have K4:W4.ownsRow B 146 2 (.slice q3 (n+1) c3) (n+1) (ls.flatMap LinkV.cells++#[.string a,.string b].toList):=by rw [hW4];exact ownsRow_setCell_below (a:=⟨p,2,none⟩) ho3 hpB _
 have kp:∀ {B':Nat} {e':TypeId} {sz':Nat} {v':Value} {n':Nat} {xs':List Value},W.ownsRow B' e' sz' v' n' xs'→p<B'→146≠e'→W4.ownsRow B' e' sz' v' n' xs':=fun h hp' hne=>by
  rw [hW4];exact ownsRow_setCell_below (a:=⟨p,2,none⟩) ((own_later h hWU).kept hg3 (own_ne (own_later h hWU) hO1 (fun e=>hne e.symm))) hp' _
 have N4:W4.ownsRow F 3 1 (.slice qn n cn) n (ns.flatMap intC):=kp HL.out (by omega) (by decide);have R4:=kp HP.out.r hpB (by decide);have L4:=kp HP.out.l hpB (by decide);have Z4:=kp HP.out.z hpB (by decide);have E4:=kp HP.out.e hpB (by decide);have ZF4:∀ x∈zs,W4.ownsRow B 53 13 x.v x.es.length (x.es.flatMap EraV.cells):=fun x hx=>kp (HP.out.zf x hx) hpB (by decide);have EF4:∀ x∈es,W4.ownsRow B 3 1 x.v x.ns.length (x.ns.flatMap intC):=fun x hx=>kp (HP.out.ef x hx).1 hpB (by decide);have hfr4:Fr B p W W4:=by rw [hW4];exact hfr3.trans Fr.set
 have hsz4:=hfr4.size;rw [← hW4];clear hW4 kp bp3 bx3 hfr3 hSU3 cX fX lX ho3 hg3 hO1 bsrc hU1 hUb hSU hS bx2 bp2 hbw2 hWU hb cb;have c4:=bp4.cell;have l4:=bp4.lt;have f4:=bp4.free;have H4:=kj (And.intro R4 (And.intro L4 (And.intro Z4 (And.intro E4 (And.intro ZF4 (And.intro EF4 K4))))));have HN4:=kj N4;have HY:=kj hi2;have HY0:=kj hy0;have HY1:=kj hy1;have HY2:=kj hy2;clear R4 L4 Z4 E4 ZF4 EF4 K4 N4 hi2 hy0 hy1 hy2 hi1 hz0 hz1 hz2 hL hO
 go_wp2_with (at_builtin;refine wpList_append_own _ rfl _ _ 199 rfl F 3 i2 _ 1 8 underlying199 HY.out HY0.out HY1.out HY2.out rfl (by decide) _ _ _ rfl (World.ownsRow.alloc HN4.out _) ⟨_,0,none⟩ 1 1 [.int .i64 ln] rfl rfl (cell_one_at (by simp)) (by simp [Value.oneCell']) (by unfold maxLen;omega) (by omega) (by simp;omega) ?_;intro v5 w5 hown5 hgrow5 _;obtain ⟨p5,cc5,rfl⟩:=own_f hown5;have hLA:=World.ownsRow.alloc HN4.out (.cells #[.int .i64 ln] 3);have bp5:Box w5 p #[rv,zv,.slice q3 (n+1) c3,lv,ev,.slice qn n cn,.int .i64 0] 244:=(hgrow5.block p bp4.old.lt (fun e=>by have:=(hLA.lt p e.symm).1;omega)).trans bp4.old;have cp5:=bp5.cell;have fp5:=bp5.free;have lp5:=bp5.lt)
 go_ret;obtain ⟨R4,L4,Z4,E4,ZF4,EF4,K4⟩:=H4.out;have hrowN:∀ g,(Value.slice qn n cn).ownBlock=some g→F≤g:=fun g hg=>(HN4.out.lt g hg).1;have kq:∀ {B':Nat} {e':TypeId} {sz':Nat} {v':Value} {n':Nat} {xs':List Value},W4.ownsRow B' e' sz' v' n' xs'→p<B'→(v'.ownBlock=none∨v'.ownBlock≠(Value.slice qn n cn).ownBlock)→(w5.setCell ⟨p,5,none⟩ (.slice p5 (n+1) cc5)).ownsRow B' e' sz' v' n' xs':=fun h hp' hne=>
  ownsRow_setCell_below (a:=⟨p,5,none⟩) ((World.ownsRow.alloc h _).kept hgrow5 hne) hp' _
 have ty:∀ {B':Nat} {e':TypeId} {sz':Nat} {v':Value} {n':Nat} {xs':List Value},W4.ownsRow B' e' sz' v' n' xs'→e'≠3→(v'.ownBlock=none∨v'.ownBlock≠(Value.slice qn n cn).ownBlock):=fun h hne=>own_ne h HN4.out hne;have ti:∀ {v':Value},(∀ g,v'.ownBlock=some g→g<F)→(v'.ownBlock=none∨v'.ownBlock≠(Value.slice qn n cn).ownBlock):=fun {v'} h=>by
  cases hob:v'.ownBlock with
  |none=>exact .inl rfl
  |some r=>exact .inr (fun e=>by have:=h r hob;have:=hrowN r e.symm;omega)
 have hpF:p<F:=by omega
 refine ⟨rfl,⟨.slice q3 (n+1) c3,.slice p5 (n+1) cc5,bp5.set,kq R4 hpB (ty R4 (by decide)),kq L4 hpB (ti HP.out.lF),HP.out.lF,kq Z4 hpB (ty Z4 (by decide)),kq E4 hpB (ty E4 (by decide)),fun x hx=>kq (ZF4 x hx) hpB (ty (ZF4 x hx) (by decide)),fun x hx=>⟨kq (EF4 x hx) hpB (ti (HP.out.ef x hx).2),(HP.out.ef x hx).2⟩,?_,?_,hBF,?_⟩,?_⟩
 ·rw [List.length_append, ←HN.out,List.flatMap_append];exact kq K4 hpB (ty K4 (by decide))
 ·rw [List.length_append, ←HN.out,ints_snoc];exact ownsRow_setCell_below (a:=⟨p,5,none⟩) hown5 hpF _
 ·have:=hgrow5.size;simp only [World.size_setCell,World.size_alloc] at this ⊢;omega
 ·exact (hfr4.trans (Fr.below (ba (Below.refl _ _)) (by omega))).trans ((Fr.grown hgrow5 (by simp;omega) (fun g hg=>by have:=hrowN g hg;omega)).trans Fr.set)
end RdR
end
end Go.Proofs.YtgmfojgnjdpofaaGreatDoor
