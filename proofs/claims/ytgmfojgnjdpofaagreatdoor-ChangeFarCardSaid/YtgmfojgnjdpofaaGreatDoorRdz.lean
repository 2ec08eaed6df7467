import Derived.Test.YtgmfojgnjdpofaaGreatDoorG22
import Derived.Test.YtgmfojgnjdpofaaGreatDoorG23
namespace Go.Proofs.YtgmfojgnjdpofaaGreatDoor
open Go.RowKit NB
namespace RdR
open Rd
structure P2 (W:World) (B F p:Nat) (rs:List RuleV) (zs:List ZoneV) (es:List RowN) (o:Int) (rv lv zv ev:Value):Prop where
 box:Box W p #[rv,zv,nilV,lv,ev,nilV,.int .i64 o] 244
 r:W.ownsRow B 57 11 rv rs.length (rs.flatMap RuleV.cells)
 l:W.ownsRow B 3 1 lv rs.length ((Ck.up 0 rs.length).flatMap intC)
 lF:∀ g,lv.ownBlock=some g→g<F
 z:W.ownsRow B 66 2 zv zs.length (zs.flatMap ZoneV.cells)
 e:W.ownsRow B 199 1 ev es.length (es.flatMap RowN.cells)
 zf:∀ x∈zs.dropLast,W.ownsRow B 53 13 x.v x.es.length (x.es.flatMap EraV.cells)∧∀ g,x.v.ownBlock=some g→g<F
 ef:∀ x∈es.dropLast,W.ownsRow B 3 1 x.v x.ns.length (x.ns.flatMap intC)∧∀ g,x.v.ownBlock=some g→g<F
 za:∀ x,zs.getLast? =some x→W.ownsRow F 53 13 x.v x.es.length (x.es.flatMap EraV.cells)
 ea:∀ x,es.getLast? =some x→W.ownsRow F 3 1 x.v x.ns.length (x.ns.flatMap intC)
 bF:B≤F
 fW:F≤W.heap.size
theorem own_some {w:World} {base:Nat} {e:TypeId} {sz:Nat} {v:Value} {n:Nat} {xs:List Value} (h:w.ownsRow base e sz v (n+1) xs):∃ g c,v= .slice (some ⟨g,0,none⟩) (n+1) c∧base≤g∧g<w.heap.size:=by
 rcases h.2 with ⟨_,h0⟩|⟨g,c,cur,rfl,hg,hc,_⟩
 ·omega
 ·exact ⟨g,c,rfl,hg,(Array.getElem?_eq_some_iff.1 hc).1⟩
theorem infoEr:(Tryz.prog.info? 53).map (fun i=>(i.zero,i.size,i.bytes))=some (some (.agg #[.int .i64 0,.int .i64 0,.int .i64 0,.string .empty,.string .empty,.bool false,.int .i64 0,.int .i64 0,.int .i64 0,.int .i64 0,.int .i64 0,.int .i64 0,.int .i64 0]),13,120):=by kernel_rfl
theorem flat_last {α:Type} {f:α→List Value} {k:Nat} (hf:∀ x,(f x).length=k) (l:List α) (x:α) (j:Nat) (_hj:j<k):((l++[x]).flatMap f)[l.length*k+j]? =(f x)[j]? :=by
 rw [List.flatMap_append]
 have hl:(l.flatMap f).length=l.length*k:=flatG_len hf l
 rw [List.getElem?_append_right (by omega),hl]
 simp
theorem keep2 {W U V:World} {r1 r2:Option Nat} {base:Nat} {e:TypeId} {sz:Nat} {v:Value} {n:Nat} {xs:List Value} (h:W.ownsRow base e sz v n xs) (g1:W.grownBy U r1) (g2:U.grownBy V r2) (n1:v.ownBlock=none∨v.ownBlock≠r1) (n2:v.ownBlock=none∨v.ownBlock≠r2):V.ownsRow base e sz v n xs:=
 (h.kept g1 n1).kept g2 n2
theorem block_ne {W:World} {base b n sz:Nat} {e t:TypeId} {v:Value} {xs:List Value} {cs:Array Value} (h:W.ownsRow base e sz v n xs) (hb:Box W b cs t) (he:e≠t):v.ownBlock≠some b:=by
 rcases h.2 with ⟨rfl,_⟩|⟨g,cap,cur,rfl,_,hg,_⟩
 ·intro h;cases h
 ·intro h
  cases h
  have hb:W.heap[g]? =some (.cells cs t):=hb
  rw [hb] at hg
  cases hg
  exact he rfl
theorem zones_set (zs:List ZoneV) (nm:ByteArray) (v u:Value) (l m:List EraV):((zs++[(⟨nm,v,l⟩:ZoneV)]).flatMap ZoneV.cells).set (zs.length*2+1) u=(zs++[(⟨nm,u,m⟩:ZoneV)]).flatMap ZoneV.cells:=by
 have hl:(zs.flatMap ZoneV.cells).length=zs.length*2:=flatG_len (f:=ZoneV.cells) (fun _=>rfl) zs
 rw [List.flatMap_append,List.flatMap_append, ←hl,List.set_append_right _ _ (by omega)]
 simp [ZoneV.cells]
theorem rows_set (es:List RowN) (v u:Value) (l m:List Int):((es++[(⟨v,l⟩:RowN)]).flatMap RowN.cells).set es.length u=(es++[(⟨u,m⟩:RowN)]).flatMap RowN.cells:=by
 have hl:(es.flatMap RowN.cells).length=es.length*1:=flatG_len (f:=RowN.cells) (fun _=>rfl) es
 rw [Nat.mul_one] at hl
 rw [List.flatMap_append,List.flatMap_append, ←hl,List.set_append_right _ _ (by omega)]
 simp [RowN.cells]
set_option maxRecDepth 100000 in
set_option maxHeartbeats 6400000 in
theorem era {W:World} {B F p:Nat} {rs:List RuleV} {zs:List ZoneV} {z:ZoneV} {es:List RowN} {y:RowN} {o:Int} {rv lv zv ev:Value} (hP:P2 W B F p rs (zs++[z]) (es++[y]) o rv lv zv ev) (hpB:p<B)
 (hn:zs.length≤1000) (hn2:es.length≤1000) (hze:z.es.length≤100) (hyn:y.ns.length≤100) (e:EraV) (he:Er.rightB e=true) {v:Value} (hv:HoldsS W v (fieldsE e)) (hcp:∀ p n cap,v= .slice p n cap→n≤cap) (ln:Int) (_h0:0<ln) (_h1:ln≤1000000):
 Calls Tryz.prog 256 #[.pointer (some ⟨p,0,none⟩),v,.int .i64 ln] W fun x w'=>x= .returned (.int .i64 0)∧(∃ v' u',P2 w' B F p rs (zs++[⟨z.name,v',z.es++[e]⟩]) (es++[⟨u',y.ns++[ln]⟩]) (if e.u.has=true then ln else 0) rv lv zv ev)∧Fr B p W w':=by
 have c1:=fun (X:World) (hX:Below W.heap.size W X)=>RRe.Read e he (HoldsG.later hv hX) hcp
 obtain ⟨pv,cv,hv1,_⟩:=hv.pk1
 obtain ⟨i1,hi1,hz0,hz1,hz2⟩:=info_parts infoEr
 obtain ⟨i2,hi2,hy0,hy1,hy2⟩:=info_parts infoI
 have hz:=hP.z;have hE:=hP.e
 rw [List.length_append,List.length_singleton] at hz hE
 obtain ⟨g,c,rfl,hgB,hgW⟩:=own_some hz
 obtain ⟨g',c',rfl,hgB',hgW'⟩:=own_some hE
 have k0:=(hz.cellAt (zs.length*2+0) (by omega)).trans (flat_last (k:=2) (fun _=>rfl) zs z 0 (by omega))
 have k1:=(hz.cellAt (zs.length*2+1) (by omega)).trans (flat_last (k:=2) (fun _=>rfl) zs z 1 (by omega))
 have k2:=(hE.cellAt (es.length*1+0) (by omega)).trans (flat_last (k:=1) (fun _=>rfl) es y 0 (by omega))
 rw [Nat.add_zero] at k0
 rw [Nat.add_zero,Nat.mul_one] at k2
 have k1:W.cell? ⟨g,zs.length*2+1,none⟩=some z.v:=k1
 have k2:W.cell? ⟨g',es.length,none⟩=some y.v:=k2
 have hb:=hP.box
 have cb:=hb.cell;have lb:=hb.lt
 have hl:(fieldsE e).length=(fieldsE e).length:=rfl
 obtain ⟨nf,hnf⟩:∃ nf,nf=(fieldsE e).length:=⟨_,rfl⟩
 rw [← hnf] at hv1
 subst hv1
 obtain ⟨zn,zvv,zes⟩:=z
 obtain ⟨yv,yns⟩:=y
 have hza:=hP.za _ (List.getLast?_concat ..)
 have hya:=hP.ea _ (List.getLast?_concat ..)
 dsimp only at hze hyn k1 k2 hza hya ⊢
 obtain ⟨qv,cz,rfl⟩:=own_f hza
 obtain ⟨qy,cy,rfl⟩:=own_f hya
 obtain ⟨k,hk⟩:∃ k,k=zes.length:=⟨_,rfl⟩
 obtain ⟨l,hl2⟩:∃ l,l=yns.length:=⟨_,rfl⟩
 rw [← hk] at hze k1 hza hP hz
 rw [← hl2] at hyn k2 hya hP hE
 have HK:=Lib.hid hk;have HL:=Lib.hid hl2;have HPP:=Lib.hid hP;have HZ:=Lib.hid hz;have HE:=Lib.hid hE;have HZA:=Lib.hid hza;have HYA:=Lib.hid hya;have C1:=Lib.hid c1
 have hFW:=hP.fW;have hBF:=hP.bF
 have HI1:=Lib.hid hi2;have HI2:=Lib.hid hy0;have HI3:=Lib.hid hy1;have HI4:=Lib.hid hy2
 obtain ⟨off,kind,save,rules,format,u⟩:=e
 obtain ⟨has,year,month,kk,wk,dd,sec,base⟩:=u
 unfold EraV.cells at C1
 dsimp only at C1 ⊢
 clear hk hl2 hP hz hE hza hya c1 hv hcp hnf hl k0 he hi2 hy0 hy1 hy2
 go_enter Tryz.func256,Tryz.ntmps256
 go_upto_region 1 with fail
 go_quiet (fail)
 go_upto_region 7 with (go_at_call 290;refine (C1.out _ (below_drewN (Below.refl _ _) _)).mono ?_;rintro e w1 ⟨rfl,hb1'⟩;have hb1:Below W.heap.size W w1:=(below_drewN (Below.refl _ _) _).trans hb1';clear hb1';have bp1:=hb.later hb1;have cp1:=bp1.cell;have lp1:=bp1.lt;have k11:=(hb1.cell (p:=⟨g,zs.length*2+1,none⟩) hgW).trans k1;have gw1:g<w1.heap.size:=(by have:=hb1.size;omega))
 obtain ⟨w2,hw2⟩:∃ V,V=w1.alloc (.cells #[.int .i64 off,.int .i64 kind,.int .i64 save,.string rules,.string format,.bool has,.int .i64 year,.int .i64 month,.int .i64 kk,.int .i64 wk,.int .i64 dd,.int .i64 sec,.int .i64 base] 53):=⟨_,rfl⟩
 obtain ⟨x,hx⟩:∃ x,x=w1.heap.size:=⟨_,rfl⟩
 have bx2:Box w2 x #[.int .i64 off,.int .i64 kind,.int .i64 save,.string rules,.string format,.bool has,.int .i64 year,.int .i64 month,.int .i64 kk,.int .i64 wk,.int .i64 dd,.int .i64 sec,.int .i64 base] 53:=by rw [hw2,hx];exact Box.new _ _ _
 have bp2:Box w2 p #[rv,.slice (some ⟨g,0,none⟩) (zs.length+1) c,nilV,lv,.slice (some ⟨g',0,none⟩) (es.length+1) c',nilV,.int .i64 o] 244:=by rw [hw2];exact bp1.old
 have hbw2:Below W.heap.size W w2:=by rw [hw2];exact bcq
 have hxW:W.heap.size≤x:=by rw [hx];exact hb1.size
 rw [← hw2, ←hx]
 have hs2:=hbw2.size
 clear hw2 hx hb1 bp1 cp1 lp1 k11
 have hgw2:g<w2.heap.size:=by omega
 have k12:=(hbw2.cell (p:=⟨g,zs.length*2+1,none⟩) hgW).trans k1
 have hS:∀ U,Below w2.heap.size w2 U→U.cell? ⟨g,zs.length*2+1,none⟩=some (.slice qv k cz)∧U.cell? ⟨x,0,none⟩=some (.int .i64 off)∧U.cell? ⟨x,1,none⟩=some (.int .i64 kind)∧U.cell? ⟨x,2,none⟩=some (.int .i64 save)∧U.cell? ⟨x,3,none⟩=some (.string rules)∧U.cell? ⟨x,4,none⟩=some (.string format)∧U.cell? ⟨x,5,none⟩=some (.bool has)∧U.cell? ⟨x,6,none⟩=some (.int .i64 year)∧U.cell? ⟨x,7,none⟩=some (.int .i64 month)∧U.cell? ⟨x,8,none⟩=some (.int .i64 kk)∧U.cell? ⟨x,9,none⟩=some (.int .i64 wk)∧U.cell? ⟨x,10,none⟩=some (.int .i64 dd)∧U.cell? ⟨x,11,none⟩=some (.int .i64 sec)∧U.cell? ⟨x,12,none⟩=some (.int .i64 base):=fun U hU=>And.intro ((hU.cell (p:=⟨g,zs.length*2+1,none⟩) hgw2).trans k12) (And.intro ((bx2.later hU).cell 0) (And.intro ((bx2.later hU).cell 1) (And.intro ((bx2.later hU).cell 2) (And.intro ((bx2.later hU).cell 3) (And.intro ((bx2.later hU).cell 4) (And.intro ((bx2.later hU).cell 5) (And.intro ((bx2.later hU).cell 6) (And.intro ((bx2.later hU).cell 7) (And.intro ((bx2.later hU).cell 8) (And.intro ((bx2.later hU).cell 9) (And.intro ((bx2.later hU).cell 10) (And.intro ((bx2.later hU).cell 11) ((bx2.later hU).cell 12)))))))))))))
 refine wp_region_noPanic ?_
 refine wp_region_heldM (fun U=>U.cell? ⟨g,zs.length*2+1,none⟩=some (.slice qv k cz)∧U.cell? ⟨x,0,none⟩=some (.int .i64 off)∧U.cell? ⟨x,1,none⟩=some (.int .i64 kind)∧U.cell? ⟨x,2,none⟩=some (.int .i64 save)∧U.cell? ⟨x,3,none⟩=some (.string rules)∧U.cell? ⟨x,4,none⟩=some (.string format)∧U.cell? ⟨x,5,none⟩=some (.bool has)∧U.cell? ⟨x,6,none⟩=some (.int .i64 year)∧U.cell? ⟨x,7,none⟩=some (.int .i64 month)∧U.cell? ⟨x,8,none⟩=some (.int .i64 kk)∧U.cell? ⟨x,9,none⟩=some (.int .i64 wk)∧U.cell? ⟨x,10,none⟩=some (.int .i64 dd)∧U.cell? ⟨x,11,none⟩=some (.int .i64 sec)∧U.cell? ⟨x,12,none⟩=some (.int .i64 base)) 10 (by kernel_rfl) (hS _ (Below.refl _ _).drew) ?_
 intro U hU hSU
 have hUb:Below w2.heap.size w2 U:=by rw [hU];exact (Below.refl _ _).drew
 clear hU
 (refine wpAnyM_take (i:=0) (v:= ?vk0) rfl (by kernel_rfl) (by kernel_rfl) (by kernel_rfl) [] (by kernel_rfl) (by kernel_rfl) (fun _ _ _ h=>h) (Or.inl ⟨by rfl,?yk0⟩) hSU ?rk0;(case yk0=>(intro w hSw;(try dsimp only at hSw);go_simp;(try with_reducible rfl)));(try simp only [Act.put,List.setIfInBounds_toArray]))
 (refine wpAnyM_take (i:=1) (v:= ?vk1) rfl (by kernel_rfl) (by kernel_rfl) (by kernel_rfl) [] (by kernel_rfl) (by kernel_rfl) (fun _ _ _ h=>h) (Or.inl ⟨by rfl,?yk1⟩) hSU ?rk1;(case yk1=>(intro w hSw;(try dsimp only at hSw);go_simp;(try with_reducible rfl)));(try simp only [Act.put]))
 (refine wpAnyM_take (i:=2) (v:= ?vk2) rfl (by kernel_rfl) (by kernel_rfl) (by kernel_rfl) [] (by kernel_rfl) (by kernel_rfl) (fun _ _ _ h=>h) (Or.inl ⟨by rfl,?yk2⟩) hSU ?rk2;(case yk2=>(intro w hSw;(try dsimp only at hSw);go_simp;(try with_reducible rfl)));(try simp only [Act.put]))
 (refine wpAnyM_take (i:=3) (v:= ?vk3) rfl (by kernel_rfl) (by kernel_rfl) (by kernel_rfl) [] (by kernel_rfl) (by kernel_rfl) (fun _ _ _ h=>h) (Or.inl ⟨by rfl,?yk3⟩) hSU ?rk3;(case yk3=>(intro w hSw;(try dsimp only at hSw);go_simp;(try with_reducible rfl)));(try simp only [Act.put]))
 (refine wpAnyM_take (i:=4) (v:= ?vk4) rfl (by kernel_rfl) (by kernel_rfl) (by kernel_rfl) [] (by kernel_rfl) (by kernel_rfl) (fun _ _ _ h=>h) (Or.inl ⟨by rfl,?yk4⟩) hSU ?rk4;(case yk4=>(intro w hSw;(try dsimp only at hSw);go_simp;(try with_reducible rfl)));(try simp only [Act.put]))
 (refine wpAnyM_take (i:=5) (v:= ?vk5) rfl (by kernel_rfl) (by kernel_rfl) (by kernel_rfl) [] (by kernel_rfl) (by kernel_rfl) (fun _ _ _ h=>h) (Or.inl ⟨by rfl,?yk5⟩) hSU ?rk5;(case yk5=>(intro w hSw;(try dsimp only at hSw);go_simp;(try with_reducible rfl)));(try simp only [Act.put]))
 (refine wpAnyM_all (rs:=[6]) (by kernel_rfl) (by simp) (List.forall_mem_cons.2 ⟨?_,(fun _ h=>by cases h)⟩);refine wpOp_step rfl (fun K hK=> ?_))
 go_simp
 obtain ⟨U1,hU1e⟩:∃ V,V=U.alloc (.cells #[.int .i64 off,.int .i64 kind,.int .i64 save,.string rules,.string format,.bool has,.int .i64 year,.int .i64 month,.int .i64 kk,.int .i64 wk,.int .i64 dd,.int .i64 sec,.int .i64 base] 53):=⟨_,rfl⟩
 have hU1:Below w2.heap.size w2 U1:=by rw [hU1e];exact hUb.alloc hUb.size _
 have bsrc:Box U1 U.heap.size #[.int .i64 off,.int .i64 kind,.int .i64 save,.string rules,.string format,.bool has,.int .i64 year,.int .i64 month,.int .i64 kk,.int .i64 wk,.int .i64 dd,.int .i64 sec,.int .i64 base] 53:=by rw [hU1e];exact Box.new _ _ _
 have hWU:Below W.heap.size W U1:=hbw2.trans (hU1.mono hbw2.size)
 have hO1:U1.ownsRow F 53 13 (.slice qv k cz) k (zes.flatMap EraV.cells):=own_later HZA.out hWU
 rw [← hU1e]
 refine hK _ _ ⟨.inr (hS _ hU1),?_⟩
 clear hK K hU1e
 (try simp only [Act.put,List.setIfInBounds_toArray,List.set_cons_zero,List.set_cons_succ])
 (refine wpAnyM_all (rs:=[7]) (by kernel_rfl) (by simp) (List.forall_mem_cons.2 ⟨?_,(fun _ h=>by cases h)⟩);refine wpOp_step rfl (fun K hK=> ?_))
 refine OW.step_append_at rfl (.tmp 46) (.tmp 48) 64 (by rfl) F 53 i1 _ 13 120 Tryz.underlying64 hi1 hz0 hz1 hz2 rfl (by decide) (.slice qv k cz) k (zes.flatMap EraV.cells) (by rfl) hO1 ⟨U.heap.size,0,none⟩ 1 1 #[.int .i64 off,.int .i64 kind,.int .i64 save,.string rules,.string format,.bool has,.int .i64 year,.int .i64 month,.int .i64 kk,.int .i64 wk,.int .i64 dd,.int .i64 sec,.int .i64 base].toList (by rfl) rfl (news bsrc) (by intro u hu;simp only [List.mem_cons,List.not_mem_nil,or_false] at hu;rcases hu with rfl|rfl|rfl|rfl|rfl|rfl|rfl|rfl|rfl|rfl|rfl|rfl|rfl<;>rfl) (by unfold maxLen;omega) (by omega) (by have:=hU1.size;omega) ?_
 intro q3 c3 U3 ho3 hg3 _
 have hZU:=own_later HZ.out hWU
 have hrowF:∀ r,(Value.slice qv k cz).ownBlock=some r→F≤r∧r<W.heap.size:=fun r hr=>HZA.out.lt r hr
 have hgn:some g≠(Value.slice qv k cz).ownBlock:=by
  rcases own_ne hZU hO1 (by decide) with h|h
  ·cases h
  ·exact h
 have hgU:g<U1.heap.size:=by have:=hU1.size;omega
 have hgb:=hg3.block g hgU hgn
 have hZ3:=hZU.kept hg3 (own_ne hZU hO1 (by decide))
 have k13:=(World.cell?_of_block (a:=⟨g,zs.length*2+1,none⟩) hgb).trans ((hU1.cell (p:=⟨g,zs.length*2+1,none⟩) hgw2).trans k12)
 have bp3:Box U3 p #[rv,.slice (some ⟨g,0,none⟩) (zs.length+1) c,nilV,lv,.slice (some ⟨g',0,none⟩) (es.length+1) c',nilV,.int .i64 o] 244:=(hg3.block p (bp2.later hU1).lt (fun e=>by have:=(hrowF p e.symm).1;omega)).trans (bp2.later hU1)
 have bx3:Box U3 x #[.int .i64 off,.int .i64 kind,.int .i64 save,.string rules,.string format,.bool has,.int .i64 year,.int .i64 month,.int .i64 kk,.int .i64 wk,.int .i64 dd,.int .i64 sec,.int .i64 base] 53:=(hg3.block x (bx2.later hU1).lt (fun e=>by have:=(hrowF x e.symm).2;omega)).trans (bx2.later hU1)
 have hfr3:Fr B p W U3:=(Fr.below hWU (by omega)).trans (Fr.grown hg3 (by have:=hWU.size;omega) (fun r hr=>by have:=(hrowF r hr).1;omega))
 have hSU3:=And.intro (k13) (And.intro (bx3.cell 0) (And.intro (bx3.cell 1) (And.intro (bx3.cell 2) (And.intro (bx3.cell 3) (And.intro (bx3.cell 4) (And.intro (bx3.cell 5) (And.intro (bx3.cell 6) (And.intro (bx3.cell 7) (And.intro (bx3.cell 8) (And.intro (bx3.cell 9) (And.intro (bx3.cell 10) (And.intro (bx3.cell 11) (bx3.cell 12)))))))))))))
 refine hK _ _ ⟨.inr hSU3,?_⟩
 clear hK K
 (try simp only [Act.put,List.setIfInBounds_toArray])
 (refine wpAnyM_take (i:=8) (v:= ?vk8) rfl (by kernel_rfl) (by kernel_rfl) (by kernel_rfl) [9] (by kernel_rfl) (by kernel_rfl) (fun _ _ _ h=>h) (Or.inl ⟨by rfl,?yk8⟩) hSU3 ?rk8;(case yk8=>(intro w hSw;(try dsimp only at hSw);go_simp;(try with_reducible rfl)));(try simp only [Act.put]))
 (refine wpAnyM_take (i:=9) (v:= ?vk9) rfl (by kernel_rfl) (by kernel_rfl) (by kernel_rfl) [] (by kernel_rfl) (by kernel_rfl) (fun _ _ _ h=>h) (Or.inl ⟨by rfl,?yk9⟩) hSU3 ?rk9;(case yk9=>(intro w hSw;(try dsimp only at hSw);go_simp;(try with_reducible rfl)));(try simp only [Act.put]))
 have fZ:=hZ3.frozenAt (zs.length*2+1)
 have lgU:g<U3.heap.size:=by have:=hg3.size;omega
 (refine wpAnyM_all (rs:=[10]) (by kernel_rfl) (by simp) (List.forall_mem_cons.2 ⟨?_,(fun _ h=>by cases h)⟩);refine wpOp_step rfl (fun K hK=> ?_))
 go_simp
 refine hK _ _ ⟨.inl rfl,?_⟩
 clear hK K
 refine wpAnyM_done (by kernel_rfl) (NoPanic.normal ?_) _
 obtain ⟨hZ4,hst⟩:=hZ3.stored (zs.length*2+1) (.slice q3 (k+1) c3)
 obtain ⟨W4,hW4⟩:∃ V,V=U3.setCell ⟨g,zs.length*2+1,none⟩ (.slice q3 (k+1) c3):=⟨_,rfl⟩
 have hpg:p≠g:=by omega
 have hxg:x≠g:=by omega
 have bp4:Box W4 p #[rv,.slice (some ⟨g,0,none⟩) (zs.length+1) c,nilV,lv,.slice (some ⟨g',0,none⟩) (es.length+1) c',nilV,.int .i64 o] 244:=by rw [hW4];exact bp3.other hpg
 have bx4:Box W4 x #[.int .i64 off,.int .i64 kind,.int .i64 save,.string rules,.string format,.bool has,.int .i64 year,.int .i64 month,.int .i64 kk,.int .i64 wk,.int .i64 dd,.int .i64 sec,.int .i64 base] 53:=by rw [hW4];exact bx3.other hxg
 rw [← hW4] at hZ4 hst
 rw [zones_set zs zn (.slice qv k cz) (.slice q3 (k+1) c3) zes (zes++[⟨off,kind,save,rules,format,⟨has,year,month,kk,wk,dd,sec,base⟩⟩])] at hZ4
 have kp:∀ {B':Nat} {e':TypeId} {sz':Nat} {v':Value} {n':Nat} {xs':List Value},W.ownsRow B' e' sz' v' n' xs'→(v'.ownBlock=none∨v'.ownBlock≠(Value.slice qv k cz).ownBlock)→(v'.ownBlock=none∨v'.ownBlock≠some g)→W4.ownsRow B' e' sz' v' n' xs':=
  fun h n1 n2=>keep2 (own_later h hWU) hg3 hst n1 n2
 have hP0:=HPP.out
 have R4:=kp hP0.r (own_ne (own_later hP0.r hWU) hO1 (by decide)) (own_ne (own_later hP0.r hWU) hZU (by decide))
 have L4:=kp hP0.l (own_ne (own_later hP0.l hWU) hO1 (by decide)) (own_ne (own_later hP0.l hWU) hZU (by decide))
 have E4:=kp HE.out (own_ne (own_later HE.out hWU) hO1 (by decide)) (own_ne (own_later HE.out hWU) hZU (by decide))
 have Y4:=kp HYA.out (own_ne (own_later HYA.out hWU) hO1 (by decide)) (own_ne (own_later HYA.out hWU) hZU (by decide))
 have A4:W4.ownsRow F 53 13 (.slice q3 (k+1) c3) (k+1) (zes.flatMap EraV.cells++ #[.int .i64 off,.int .i64 kind,.int .i64 save,.string rules,.string format,.bool has,.int .i64 year,.int .i64 month,.int .i64 kk,.int .i64 wk,.int .i64 dd,.int .i64 sec,.int .i64 base].toList):=ho3.kept hst (own_ne ho3 hZ3 (by decide))
 have Zf4:∀ x'∈zs,W4.ownsRow B 53 13 x'.v x'.es.length (x'.es.flatMap EraV.cells)∧∀ r,x'.v.ownBlock=some r→r<F:=fun x' hx'=>by
  obtain ⟨h,hF⟩:=hP0.zf x' (by rw [List.dropLast_concat];exact hx')
  refine ⟨kp h ?_ (own_ne (own_later h hWU) hZU (by decide)),hF⟩
  cases hob:x'.v.ownBlock with
  |none=>exact .inl rfl
  |some r=>exact .inr (fun e=>by have:=hF r hob;have:=(hrowF r e.symm).1;omega)
 have Ef4:∀ x'∈es,W4.ownsRow B 3 1 x'.v x'.ns.length (x'.ns.flatMap intC)∧∀ r,x'.v.ownBlock=some r→r<F:=fun x' hx'=>by
  obtain ⟨h,hF⟩:=hP0.ef x' (by rw [List.dropLast_concat];exact hx')
  exact ⟨kp h (own_ne (own_later h hWU) hO1 (by decide)) (own_ne (own_later h hWU) hZU (by decide)),hF⟩
 have hfr4:Fr B p W W4:=hfr3.trans (Fr.grown hst (by have:=hfr3.size;omega) (fun r hr=>by cases hr;exact hgB))
 have hsz4:=hfr4.size
 have hlF:=hP0.lF
 rw [← hW4]
 clear hW4 kp hP0 hfr3 hSU3 bp3 bx3 fZ k13 hZ3 hgb hgU hgn hZU hO1 ho3 hg3 hst lgU hWU bsrc hU1 hUb hSU hS k12 hgw2 bx2 bp2 hbw2 HZ HE HZA HYA hb cb k1
 have KK2:W4.cell? ⟨g',es.length,none⟩=some (.slice qy l cy):=by
  have:=(E4.cellAt (es.length*1+0) (by omega)).trans (flat_last (k:=1) (fun _=>rfl) es (⟨.slice qy l cy,yns⟩:RowN) 0 (by omega))
  rw [Nat.add_zero,Nat.mul_one] at this
  exact this
 have H4:=Lib.hid (And.intro R4 (And.intro L4 (And.intro Zf4 (And.intro Ef4 (And.intro A4 hZ4)))))
 have HY4:=Lib.hid Y4;have HE4:=Lib.hid E4;have HLF:=Lib.hid hlF
 have lg4:g'<W4.heap.size:=by omega
 clear R4 L4 Zf4 Ef4 A4 hZ4 Y4 E4 hlF
 have c4:=bp4.cell
 have l4:=bp4.lt
 have f4:=bp4.free
 have lx4:=bx4.lt
 go_upto_region 8 with fail
 go_quiet (fail)
 rename_i nq
 obtain ⟨W5,hW5⟩:∃ V,V=W4.drewN nq:=⟨_,rfl⟩
 have hb45:Below W4.heap.size W4 W5:=by rw [hW5];exact below_drewN (Below.refl _ _) _
 rw [← hW5]
 have bp5:=bp4.later hb45
 have bx5:=bx4.later hb45
 have E5:=own_later HE4.out hb45
 have Y5:=own_later HY4.out hb45
 have k5:=(hb45.cell (p:=⟨g',es.length,none⟩) lg4).trans KK2
 have hs5:=hb45.size
 have lg5:g'<W5.heap.size:=by omega
 have hpg2:p≠g':=by omega
 have hxg2:x≠g':=by omega
 have hxp:x≠p:=by omega
 clear hW5 bp4 bx4 c4 l4 f4 lx4 KK2 k2
 have c5:=bp5.cell
 have cases_has:has=has:=rfl
 cases has
 ·go_wp2_with (at_builtin;refine wpList_append_own _ rfl _ _ 199 rfl F 3 i2 _ 1 8 Tryz.underlying199 HI1.out HI2.out HI3.out HI4.out rfl (by decide) _ _ _ rfl (World.ownsRow.alloc Y5 _) ⟨_,0,none⟩ 1 1 [.int .i64 ln] rfl rfl (cell_one_at (by simp)) (by simp [Value.oneCell']) (by unfold maxLen;omega) (by omega) (by simp;omega) ?_;intro v6 w6 hown6 hgrow6 _;obtain ⟨p6,c6,rfl⟩:=own_f hown6;have hYA:=World.ownsRow.alloc Y5 (.cells #[.int .i64 ln] 3);have bp6:Box w6 p #[rv,.slice (some ⟨g,0,none⟩) (zs.length+1) c,nilV,lv,.slice (some ⟨g',0,none⟩) (es.length+1) c',nilV,.int .i64 o] 244:=(hgrow6.block p bp5.old.lt (fun e=>by have:=(hYA.lt p e.symm).1;omega)).trans bp5.old;have bx6:Box w6 x #[.int .i64 off,.int .i64 kind,.int .i64 save,.string rules,.string format,.bool false,.int .i64 year,.int .i64 month,.int .i64 kk,.int .i64 wk,.int .i64 dd,.int .i64 sec,.int .i64 base] 53:=(hgrow6.block x bx5.old.lt (fun e=>block_ne hYA bx5.old (by decide) e.symm)).trans bx5.old;have EA:=World.ownsRow.alloc E5 (.cells #[.int .i64 ln] 3);have E6:=EA.kept hgrow6 (own_ne EA hYA (by decide));have fE6:=E6.frozenAt es.length;have cE6:=(E6.cellAt (es.length*1+0) (by omega)).trans (flat_last (k:=1) (fun _=>rfl) es (⟨.slice qy l cy,yns⟩:RowN) 0 (by omega));have cE6:w6.cell? ⟨g',es.length,none⟩=some (.slice qy l cy):=(by rw [Nat.add_zero,Nat.mul_one] at cE6;exact cE6);have lg6:g'<w6.heap.size:=(E6.lt g' rfl).2;have cp6:=bp6.cell;have fp6:=bp6.free;have lp6:=bp6.lt;have cx6:=bx6.cell;have lx6:=bx6.lt)
  go_ret
  obtain ⟨hE7,hst7⟩:=E6.stored es.length (.slice p6 (l+1) c6)
  rw [rows_set es (.slice qy l cy) (.slice p6 (l+1) c6) yns (yns++[ln])] at hE7
  obtain ⟨R4,L4,Zf4,Ef4,A4,Z4⟩:=H4.out
  have hbA:Below W4.heap.size W4 (W5.alloc (.cells #[.int .i64 ln] 3)):=hb45.alloc hb45.size _
  have YA:=own_later HY4.out hbA
  have EE:=own_later HE4.out hbA
  have hrowY:∀ r,(Value.slice qy l cy).ownBlock=some r→F≤r:=fun r hr=>(HY4.out.lt r hr).1
  have kq:∀ {B':Nat} {e':TypeId} {sz':Nat} {v':Value} {n':Nat} {xs':List Value},W4.ownsRow B' e' sz' v' n' xs'→p<B'→(v'.ownBlock=none∨v'.ownBlock≠(Value.slice qy l cy).ownBlock)→(v'.ownBlock=none∨v'.ownBlock≠some g')→World.ownsRow ((w6.setCell ⟨g',es.length,none⟩ (.slice p6 (l+1) c6)).setCell ⟨p,6,none⟩ (.int .i64 0)) B' e' sz' v' n' xs':=
   fun h hB2 n1 n2=>ownsRow_setCell_below (a:=⟨p,6,none⟩) (keep2 (own_later h hbA) hgrow6 hst7 n1 n2) hB2 _
  have hB2:p<B:=hpB
  have hpF:p<F:=by omega
  refine ⟨rfl,⟨.slice q3 (k+1) c3,.slice p6 (l+1) c6,?_⟩,?_⟩
  ·refine ⟨(bp6.other hpg2).set (j:=6),kq R4 hpB (own_ne (own_later R4 hbA) YA (by decide)) (own_ne (own_later R4 hbA) EE (by decide)),kq L4 hpB ?_ (own_ne (own_later L4 hbA) EE (by decide)),HLF.out,?_,?_,?_,?_,?_,?_,hBF,?_⟩
   ·cases hob:lv.ownBlock with
    |none=>exact .inl rfl
    |some r=>exact .inr (fun e=>by have:=HLF.out r hob;have:=hrowY r e.symm;omega)
   ·rw [List.length_append,List.length_singleton]
    exact kq Z4 hpB (own_ne (own_later Z4 hbA) YA (by decide)) (own_ne (own_later Z4 hbA) EE (by decide))
   ·rw [List.length_append,List.length_singleton]
    exact ownsRow_setCell_below (a:=⟨p,6,none⟩) (hE7) hB2 _
   ·intro x' hx'
    rw [List.dropLast_concat] at hx'
    obtain ⟨h,hF⟩:=Zf4 x' hx'
    exact ⟨kq h hpB (own_ne (own_later h hbA) YA (by decide)) (own_ne (own_later h hbA) EE (by decide)),hF⟩
   ·intro x' hx'
    rw [List.dropLast_concat] at hx'
    obtain ⟨h,hF⟩:=Ef4 x' hx'
    refine ⟨kq h hpB ?_ (own_ne (own_later h hbA) EE (by decide)),hF⟩
    cases hob:x'.v.ownBlock with
    |none=>exact .inl rfl
    |some r=>exact .inr (fun e=>by have:=hF r hob;have:=hrowY r e.symm;omega)
   ·intro x' hx'
    rw [List.getLast?_concat] at hx'
    cases hx'
    dsimp only
    rw [List.length_append, ←HK.out,List.flatMap_append]
    exact kq A4 hpF (own_ne (own_later A4 hbA) YA (by decide)) (own_ne (own_later A4 hbA) EE (by decide))
   ·intro x' hx'
    rw [List.getLast?_concat] at hx'
    cases hx'
    dsimp only
    rw [List.length_append, ←HL.out,ints_snoc]
    have hB2:p<F:=hpF
    exact ownsRow_setCell_below (a:=⟨p,6,none⟩) (hown6.kept hst7 (own_ne hown6 E6 (by decide))) hB2 _
   ·have:=hgrow6.size
    simp only [World.size_setCell,World.size_alloc] at this ⊢
    omega
  ·refine (hfr4.trans (Fr.below hbA (by omega))).trans ((Fr.grown hgrow6 (by simp;omega) (fun r hr=>by have:=hrowY r hr;omega)).trans ((Fr.grown hst7 (by have:=hgrow6.size;simp at this;omega) (fun r hr=>by cases hr;exact hgB')).trans Fr.set))
 ·go_wp2_with (at_builtin;refine wpList_append_own _ rfl _ _ 199 rfl F 3 i2 _ 1 8 Tryz.underlying199 HI1.out HI2.out HI3.out HI4.out rfl (by decide) _ _ _ rfl (World.ownsRow.alloc Y5 _) ⟨_,0,none⟩ 1 1 [.int .i64 ln] rfl rfl (cell_one_at (by simp)) (by simp [Value.oneCell']) (by unfold maxLen;omega) (by omega) (by simp;omega) ?_;intro v6 w6 hown6 hgrow6 _;obtain ⟨p6,c6,rfl⟩:=own_f hown6;have hYA:=World.ownsRow.alloc Y5 (.cells #[.int .i64 ln] 3);have bp6:Box w6 p #[rv,.slice (some ⟨g,0,none⟩) (zs.length+1) c,nilV,lv,.slice (some ⟨g',0,none⟩) (es.length+1) c',nilV,.int .i64 o] 244:=(hgrow6.block p bp5.old.lt (fun e=>by have:=(hYA.lt p e.symm).1;omega)).trans bp5.old;have bx6:Box w6 x #[.int .i64 off,.int .i64 kind,.int .i64 save,.string rules,.string format,.bool true,.int .i64 year,.int .i64 month,.int .i64 kk,.int .i64 wk,.int .i64 dd,.int .i64 sec,.int .i64 base] 53:=(hgrow6.block x bx5.old.lt (fun e=>block_ne hYA bx5.old (by decide) e.symm)).trans bx5.old;have EA:=World.ownsRow.alloc E5 (.cells #[.int .i64 ln] 3);have E6:=EA.kept hgrow6 (own_ne EA hYA (by decide));have fE6:=E6.frozenAt es.length;have cE6:=(E6.cellAt (es.length*1+0) (by omega)).trans (flat_last (k:=1) (fun _=>rfl) es (⟨.slice qy l cy,yns⟩:RowN) 0 (by omega));have cE6:w6.cell? ⟨g',es.length,none⟩=some (.slice qy l cy):=(by rw [Nat.add_zero,Nat.mul_one] at cE6;exact cE6);have lg6:g'<w6.heap.size:=(E6.lt g' rfl).2;have cp6:=bp6.cell;have fp6:=bp6.free;have lp6:=bp6.lt;have cx6:=bx6.cell;have lx6:=bx6.lt)
  go_ret
  obtain ⟨hE7,hst7⟩:=E6.stored es.length (.slice p6 (l+1) c6)
  rw [rows_set es (.slice qy l cy) (.slice p6 (l+1) c6) yns (yns++[ln])] at hE7
  obtain ⟨R4,L4,Zf4,Ef4,A4,Z4⟩:=H4.out
  have hbA:Below W4.heap.size W4 (W5.alloc (.cells #[.int .i64 ln] 3)):=hb45.alloc hb45.size _
  have YA:=own_later HY4.out hbA
  have EE:=own_later HE4.out hbA
  have hrowY:∀ r,(Value.slice qy l cy).ownBlock=some r→F≤r:=fun r hr=>(HY4.out.lt r hr).1
  have kq:∀ {B':Nat} {e':TypeId} {sz':Nat} {v':Value} {n':Nat} {xs':List Value},W4.ownsRow B' e' sz' v' n' xs'→p<B'→(v'.ownBlock=none∨v'.ownBlock≠(Value.slice qy l cy).ownBlock)→(v'.ownBlock=none∨v'.ownBlock≠some g')→World.ownsRow (((w6.setCell ⟨g',es.length,none⟩ (.slice p6 (l+1) c6)).setCell ⟨p,6,none⟩ (.int .i64 0)).setCell ⟨p,6,none⟩ (.int .i64 ln)) B' e' sz' v' n' xs':=
   fun h hB2 n1 n2=>ownsRow_setCell_below (a:=⟨p,6,none⟩) (ownsRow_setCell_below (a:=⟨p,6,none⟩) (keep2 (own_later h hbA) hgrow6 hst7 n1 n2) hB2 _) hB2 _
  have hB2:p<B:=hpB
  have hpF:p<F:=by omega
  refine ⟨rfl,⟨.slice q3 (k+1) c3,.slice p6 (l+1) c6,?_⟩,?_⟩
  ·refine ⟨((bp6.other hpg2).set (j:=6)).set (j:=6),kq R4 hpB (own_ne (own_later R4 hbA) YA (by decide)) (own_ne (own_later R4 hbA) EE (by decide)),kq L4 hpB ?_ (own_ne (own_later L4 hbA) EE (by decide)),HLF.out,?_,?_,?_,?_,?_,?_,hBF,?_⟩
   ·cases hob:lv.ownBlock with
    |none=>exact .inl rfl
    |some r=>exact .inr (fun e=>by have:=HLF.out r hob;have:=hrowY r e.symm;omega)
   ·rw [List.length_append,List.length_singleton]
    exact kq Z4 hpB (own_ne (own_later Z4 hbA) YA (by decide)) (own_ne (own_later Z4 hbA) EE (by decide))
   ·rw [List.length_append,List.length_singleton]
    exact ownsRow_setCell_below (a:=⟨p,6,none⟩) (ownsRow_setCell_below (a:=⟨p,6,none⟩) (hE7) hB2 _) hB2 _
   ·intro x' hx'
    rw [List.dropLast_concat] at hx'
    obtain ⟨h,hF⟩:=Zf4 x' hx'
    exact ⟨kq h hpB (own_ne (own_later h hbA) YA (by decide)) (own_ne (own_later h hbA) EE (by decide)),hF⟩
   ·intro x' hx'
    rw [List.dropLast_concat] at hx'
    obtain ⟨h,hF⟩:=Ef4 x' hx'
    refine ⟨kq h hpB ?_ (own_ne (own_later h hbA) EE (by decide)),hF⟩
    cases hob:x'.v.ownBlock with
    |none=>exact .inl rfl
    |some r=>exact .inr (fun e=>by have:=hF r hob;have:=hrowY r e.symm;omega)
   ·intro x' hx'
    rw [List.getLast?_concat] at hx'
    cases hx'
    dsimp only
    rw [List.length_append, ←HK.out,List.flatMap_append]
    exact kq A4 hpF (own_ne (own_later A4 hbA) YA (by decide)) (own_ne (own_later A4 hbA) EE (by decide))
   ·intro x' hx'
    rw [List.getLast?_concat] at hx'
    cases hx'
    dsimp only
    rw [List.length_append, ←HL.out,ints_snoc]
    have hB2:p<F:=hpF
    exact ownsRow_setCell_below (a:=⟨p,6,none⟩) (ownsRow_setCell_below (a:=⟨p,6,none⟩) (hown6.kept hst7 (own_ne hown6 E6 (by decide))) hB2 _) hB2 _
   ·have:=hgrow6.size
    simp only [World.size_setCell,World.size_alloc] at this ⊢
    omega
  ·refine (hfr4.trans (Fr.below hbA (by omega))).trans ((Fr.grown hgrow6 (by simp;omega) (fun r hr=>by have:=hrowY r hr;omega)).trans ((Fr.grown hst7 (by have:=hgrow6.size;simp at this;omega) (fun r hr=>by cases hr;exact hgB')).trans (Fr.set.trans (Fr.set (v:= .int .i64 ln)))))
end RdR
end Go.Proofs.YtgmfojgnjdpofaaGreatDoor
