import Derived.Test.YtgmfojgnjdpofaaGreatDoorG24
import Derived.Test.YtgmfojgnjdpofaaGreatDoorG18
import Derived.Test.YtgmfojgnjdpofaaGreatDoorG15
import Derived.Test.YtgmfojgnjdpofaaGreatDoorG11
namespace Go.Proofs.YtgmfojgnjdpofaaGreatDoor
section
open Go.RowKit NB
namespace RdR
open Rd RWd
theorem P1.later {W U:World} {B p:Nat} {rs:List RuleV} (h:P1 W B p rs) (hb:Below W.heap.size W U):P1 U B p rs:=by
 obtain ⟨rv,lv,h1,h2,h3⟩:=h
 exact ⟨rv,lv,h1.later hb,own_later h2 hb,own_later h3 hb⟩
theorem P2.later {W U:World} {B F p:Nat} {rs:List RuleV} {zs:List ZoneV} {es:List RowN} {o:Int} {rv lv zv ev:Value} (h:P2 W B F p rs zs es o rv lv zv ev) (hb:Below W.heap.size W U):P2 U B F p rs zs es o rv lv zv ev:=
 ⟨h.box.later hb,own_later h.r hb,own_later h.l hb,h.lF,own_later h.z hb,own_later h.e hb,fun x hx=>⟨own_later (h.zf x hx).1 hb,(h.zf x hx).2⟩,fun x hx=>⟨own_later (h.ef x hx).1 hb,(h.ef x hx).2⟩,fun x hx=>own_later (h.za x hx) hb,fun x hx=>own_later (h.ea x hx) hb,h.bF,Nat.le_trans h.fW hb.size⟩
theorem P3.later {W U:World} {B F p:Nat} {rs:List RuleV} {zs:List ZoneV} {es:List RowN} {ls:List LinkV} {ns:List Int} {rv lv zv ev kv nv:Value} (h:P3 W B F p rs zs es ls ns rv lv zv ev kv nv) (hb:Below W.heap.size W U):P3 U B F p rs zs es ls ns rv lv zv ev kv nv:=
 ⟨h.box.later hb,own_later h.r hb,own_later h.l hb,h.lF,own_later h.z hb,own_later h.e hb,fun x hx=>own_later (h.zf x hx) hb,fun x hx=>⟨own_later (h.ef x hx).1 hb,(h.ef x hx).2⟩,own_later h.k hb,own_later h.n hb,h.bF,Nat.le_trans h.fW hb.size⟩
theorem join_q:∀ l:List Bs,(∀ a∈l,Rd.Clean a)→∀ c∈joinF l,c≠34∧c≠35:=by
 intro l
 induction l with
 |nil=>intro _ c hc;cases hc
 |cons a r ih=>
  intro h c hc
  have ha:∀ c∈a,c≠34∧c≠35:=fun c hc=>by
   have:=Rd.clean_c ((h a (by simp)).2 c hc)
   exact ⟨this.2.2.1,this.1⟩
  cases r with
  |nil=>exact ha c hc
  |cons b r=>
   rw [join_cons] at hc
   rcases List.mem_append.1 hc with hc|hc
   ·exact ha c hc
   ·rcases List.mem_cons.1 hc with rfl|hc
    ·decide
    ·exact ih (fun x hx=>h x (by simp [hx])) c hc
theorem line_q {x:Ln} (h:x.right=true):∀ c∈x.bytes,c≠34∧c≠35:=by
 have hm:=join_q (lists x.fields) (lists_clean (Ln.clean h))
 intro c hc
 cases x with
 |more e=>
  rcases List.mem_cons.1 hc with rfl|hc
  ·decide
  ·exact hm c hc
 |rule r=>exact hm c hc
 |zone n e=>exact hm c hc
 |link y=>exact hm c hc
theorem OfLine {x:Ln} (h:x.right=true) (w:World):Calls Tryz.prog 255 #[.string (ofL x.bytes)] w fun e w'=>∃ v',e= .returned (.tuple #[v',.int .i64 0])∧OwnS w' w.heap.size v' x.fields∧Below w.heap.size w w':=by
 have hr:=Ln.read h
 have hs:=Ln.short h
 have:=RLi.Fields (ofL x.bytes) (by rw [ofL_size];omega) (fun c hc=>line_q h c (by rw [ofL_list] at hc;exact hc)) (by rw [hr]) w
 rw [hr] at this
 exact this
theorem own_box1 {w:World} {base n:Nat} {e:TypeId} {v:Value} {xs:List Value} (h:w.ownsRow base e 1 v (n+1) xs):∃ g c cur,v= .slice (some ⟨g,0,none⟩) (n+1) c∧n+1≤c∧Box w g cur e:=by
 rcases h.2 with ⟨_,h0⟩|⟨g,c,cur,rfl,_,hc,hnc,_⟩
 ·omega
 ·exact ⟨g,c,cur,rfl,hnc,hc⟩
theorem words_small:∀ x∈[ruleW,zoneW,linkW],x.size≤1000000:=by decide
set_option maxRecDepth 100000 in
set_option maxHeartbeats 6400000 in
theorem lineRule {W:World} {B p:Nat} {rs:List RuleV} (hP:P1 W B p rs) (hpB:p<B) (hBW:B≤W.heap.size) (hn:rs.length≤1000) (r:RuleV) (hfit:r.Fit) (hr:Rul.right r=true):
 Calls Tryz.prog 206 #[.pointer (some ⟨p,0,none⟩),.string (ofL (Ln.rule r).bytes),.int .i64 ((rs.length:Int)+1)] W fun y w'=>y= .returned (.int .i64 0)∧P1 w' B p (rs++[r])∧Fr B p W w':=by
 have hx:(Ln.rule r).right=true:=hr
 obtain ⟨rv,lv,hbox,_⟩:=id hP
 have HP:=Lib.hid hP
 have cO:=fun X=>OfLine hx X
 have cC:=fun X=>RLi.Check (ofL (Ln.rule r).bytes) (Ln.line hx) X
 obtain ⟨fs,hfs⟩:∃ fs,fs=fieldsR r:=⟨_,rfl⟩
 have hfe:(Ln.rule r).fields=ruleW :: fs:=by rw [hfs];rfl
 rw [hfe] at cO
 have hfs2:2≤fs.length:=by rw [hfs];simp [fieldsR]
 have CO:=Lib.hid cO;have CC:=Lib.hid cC;have HFS:=Lib.hid hfs
 generalize ofL (Ln.rule r).bytes=S at *
 have cb:=hbox.cell;have lb:=hbox.lt
 clear cO cC hfe hfs
 have cM:=fun (X:World) (v:Value) (h:HoldsS X v [ruleW,zoneW,linkW])=>Match h words_small (by decide) ruleW (by decide)
 rw [show matchW [ruleW,zoneW,linkW] ruleW=(0,0) by decide +kernel] at cM
 have CM:=Lib.hid cM
 clear cM
 unfold ruleW at CM CO
 go_enter Tryz.func206,Tryz.ntmps206
 go_wp2_with (first
  |(go_at_call 254;(with_reducible refine (CC.out _).mono ?_);rintro e w' ⟨rfl,rfl⟩)
  |(go_at_call 255;refine (CO.out _).mono ?_;rintro y w1 ⟨v1,rfl,hown1,hb1⟩;have hown2:w1.ownsRow W.heap.size 9 1 v1 (fs.length+1) _:=hown1;obtain ⟨g,c,cur,rfl,hnc,bb⟩:=own_box1 hown2;have hH:=HoldsS.of_own hown1;have bp1:=hbox.later hb1;have cp1:=bp1.cell;have lp1:=bp1.lt;have d0:w1.cell? ⟨g,0,none⟩=some (.string ⟨#[82,117,108,101]⟩):=hown2.cellAt 0 (by omega);have gl1:=bb.lt;have hc1:¬c=1:=(by omega);have hc2:(1:Int)≤(fs.length:Int)+1:=(by omega))
  |(go_at_call 257;refine (CM.out _ _ (HoldsS.of_box (l:=[ruleW,zoneW,linkW]) (Box.new _ _ _) rfl (by decide))).mono ?_;rintro y w3 ⟨rfl,hb3⟩;have hb13:Below w1.heap.size w1 w3:=(ba (Below.refl _ _)).trans (hb3.mono (by simp));have hbw:Below W.heap.size W w3:=hb1.trans (hb13.mono hb1.size);have hH3:=fun c'=>HoldsS.sub (c':=c') (k:=1) (HoldsG.later hH hb13) (by rw [List.length_cons];omega))
  |(go_at_call 258;refine (rule (HP.out.later hbw) hpB (Nat.le_trans hBW hbw.size) hn r hfit hr (by rw [← HFS.out];exact hH3 _)).mono ?_;rintro y w9 ⟨rfl,h9,hfr9⟩))
 go_ret
 exact ⟨rfl,h9,(Fr.below hbw hBW).trans hfr9⟩
set_option maxRecDepth 100000 in
set_option maxHeartbeats 6400000 in
theorem lineZone {W:World} {B F p:Nat} {rs:List RuleV} {zs:List ZoneV} {es:List RowN} {rv lv zv ev:Value} (hP:P2 W B F p rs zs es 0 rv lv zv ev) (hpB:p<B) (hl:es.length=zs.length) (hn:zs.length≤100) (nm:ByteArray) (hnm:Nam.nameE nm=0) (e:EraV) (he:Er.rightB e=true) (ln:Int) (h0:0<ln) (h1:ln≤1000000) (O:Int) (hO:O=if e.u.has=true then ln else 0):
 Calls Tryz.prog 206 #[.pointer (some ⟨p,0,none⟩),.string (ofL (Ln.zone nm e).bytes),.int .i64 ln] W fun y w'=>y= .returned (.int .i64 0)∧(∃ F' v' u' zv' ev',P2 w' B F' p rs (zs++[⟨nm,v',[e]⟩]) (es++[⟨u',[ln]⟩]) O rv lv zv' ev')∧Fr B p W w':=by
 have hx:(Ln.zone nm e).right=true:=by show (decide (Nam.nameE nm=0)&&Er.rightB e)=true;rw [hnm,he];rfl
 have hbox:=hP.box
 have hBW:B≤W.heap.size:=Nat.le_trans hP.bF hP.fW
 have HP:=Lib.hid hP
 have HOO:=Lib.hid hO
 clear hO
 have cO:=fun X=>OfLine hx X
 have cC:=fun X=>RLi.Check (ofL (Ln.zone nm e).bytes) (Ln.line hx) X
 obtain ⟨fs,hfs⟩:∃ fs,fs=nm :: fieldsE e:=⟨_,rfl⟩
 have hfe:(Ln.zone nm e).fields=zoneW :: fs:=by rw [hfs];rfl
 rw [hfe] at cO
 have hfs2:2≤fs.length:=by rw [hfs];have:=fieldsE_len e;simp;omega
 have CO:=Lib.hid cO;have CC:=Lib.hid cC;have HFS:=Lib.hid hfs
 generalize ofL (Ln.zone nm e).bytes=S at *
 have cb:=hbox.cell;have lb:=hbox.lt
 clear cO cC hfe hfs
 have cM:=fun (X:World) (v:Value) (h:HoldsS X v [ruleW,zoneW,linkW])=>Match h words_small (by decide) zoneW (by decide)
 rw [show matchW [ruleW,zoneW,linkW] zoneW=(1,0) by decide +kernel] at cM
 have CM:=Lib.hid cM
 clear cM
 unfold zoneW at CM CO
 go_enter Tryz.func206,Tryz.ntmps206
 go_wp2_with (first
  |(go_at_call 254;(with_reducible refine (CC.out _).mono ?_);rintro e w' ⟨rfl,rfl⟩)
  |(go_at_call 255;refine (CO.out _).mono ?_;rintro y w1 ⟨v1,rfl,hown1,hb1⟩;have hown2:w1.ownsRow W.heap.size 9 1 v1 (fs.length+1) _:=hown1;obtain ⟨g,c,cur,rfl,hnc,bb⟩:=own_box1 hown2;have hH:=HoldsS.of_own hown1;have bp1:=hbox.later hb1;have cp1:=bp1.cell;have lp1:=bp1.lt;have d0:w1.cell? ⟨g,0,none⟩=some (.string ⟨#[90,111,110,101]⟩):=hown2.cellAt 0 (by omega);have gl1:=bb.lt;have hc1:¬c=1:=(by omega);have hc2:(1:Int)≤(fs.length:Int)+1:=(by omega))
  |(go_at_call 257;refine (CM.out _ _ (HoldsS.of_box (l:=[ruleW,zoneW,linkW]) (Box.new _ _ _) rfl (by decide))).mono ?_;rintro y w3 ⟨rfl,hb3⟩;have hb13:Below w1.heap.size w1 w3:=(ba (Below.refl _ _)).trans (hb3.mono (by simp));have hbw:Below W.heap.size W w3:=hb1.trans (hb13.mono hb1.size);have hH3:=fun c'=>HoldsS.sub (c':=c') (k:=1) (HoldsG.later hH hb13) (by rw [List.length_cons];omega))
  |(go_at_call 259;refine (zone (HP.out.later hbw) hpB hl hn nm hnm e he (by rw [← HFS.out];exact hH3 _) (fun _ _ _ h=>by cases h;omega) (fun _ _ _ h=>by cases h;exact ⟨cur,bb.later hb13⟩) ln h0 h1).mono ?_;rintro y w9 ⟨rfl,h9,hfr9⟩))
 go_ret
 refine ⟨rfl,?_,(Fr.below hbw hBW).trans hfr9⟩
 rw [HOO.out]
 exact h9
set_option maxRecDepth 100000 in
set_option maxHeartbeats 6400000 in
theorem lineLink {W:World} {B F p:Nat} {rs:List RuleV} {zs:List ZoneV} {es:List RowN} {ls:List LinkV} {ns:List Int} {rv lv zv ev kv nv:Value} (hP:P3 W B F p rs zs es ls ns rv lv zv ev kv nv) (hpB:p<B) (hn:ls.length≤1000) (x:LinkV) (hfit:x.Fit) (hr:rightK x=true) (ln:Int):
 Calls Tryz.prog 206 #[.pointer (some ⟨p,0,none⟩),.string (ofL (Ln.link x).bytes),.int .i64 ln] W fun y w'=>y= .returned (.int .i64 0)∧(∃ kv' nv',P3 w' B F p rs zs es (ls++[x]) (ns++[ln]) rv lv zv ev kv' nv')∧Fr B p W w':=by
 have hx:(Ln.link x).right=true:=hr
 have hbox:=hP.box
 have hBW:B≤W.heap.size:=Nat.le_trans hP.bF hP.fW
 have HP:=Lib.hid hP
 have cO:=fun X=>OfLine hx X
 have cC:=fun X=>RLi.Check (ofL (Ln.link x).bytes) (Ln.line hx) X
 obtain ⟨fs,hfs⟩:∃ fs,fs=fieldsK x:=⟨_,rfl⟩
 have hfe:(Ln.link x).fields=linkW :: fs:=by rw [hfs];rfl
 rw [hfe] at cO
 have hfs2:2≤fs.length:=by rw [hfs];simp [fieldsK]
 have CO:=Lib.hid cO;have CC:=Lib.hid cC;have HFS:=Lib.hid hfs
 generalize ofL (Ln.link x).bytes=S at *
 have cb:=hbox.cell;have lb:=hbox.lt
 clear cO cC hfe hfs
 have cM:=fun (X:World) (v:Value) (h:HoldsS X v [ruleW,zoneW,linkW])=>Match h words_small (by decide) linkW (by decide)
 rw [show matchW [ruleW,zoneW,linkW] linkW=(2,0) by decide +kernel] at cM
 have CM:=Lib.hid cM
 clear cM
 unfold linkW at CM CO
 go_enter Tryz.func206,Tryz.ntmps206
 go_wp2_with (first
  |(go_at_call 254;(with_reducible refine (CC.out _).mono ?_);rintro e w' ⟨rfl,rfl⟩)
  |(go_at_call 255;refine (CO.out _).mono ?_;rintro y w1 ⟨v1,rfl,hown1,hb1⟩;have hown2:w1.ownsRow W.heap.size 9 1 v1 (fs.length+1) _:=hown1;obtain ⟨g,c,cur,rfl,hnc,bb⟩:=own_box1 hown2;have hH:=HoldsS.of_own hown1;have bp1:=hbox.later hb1;have cp1:=bp1.cell;have lp1:=bp1.lt;have d0:w1.cell? ⟨g,0,none⟩=some (.string ⟨#[76,105,110,107]⟩):=hown2.cellAt 0 (by omega);have gl1:=bb.lt;have hc1:¬c=1:=(by omega);have hc2:(1:Int)≤(fs.length:Int)+1:=(by omega))
  |(go_at_call 257;refine (CM.out _ _ (HoldsS.of_box (l:=[ruleW,zoneW,linkW]) (Box.new _ _ _) rfl (by decide))).mono ?_;rintro y w3 ⟨rfl,hb3⟩;have hb13:Below w1.heap.size w1 w3:=(ba (Below.refl _ _)).trans (hb3.mono (by simp));have hbw:Below W.heap.size W w3:=hb1.trans (hb13.mono hb1.size);have hH3:=fun c'=>HoldsS.sub (c':=c') (k:=1) (HoldsG.later hH hb13) (by rw [List.length_cons];omega))
  |(go_at_call 260;refine (link (HP.out.later hbw) hpB hn x hfit hr (by rw [← HFS.out];exact hH3 _) ln).mono ?_;rintro y w9 ⟨rfl,h9,hfr9⟩))
 go_ret
 exact ⟨rfl,h9,(Fr.below hbw hBW).trans hfr9⟩
set_option maxRecDepth 100000 in
set_option maxHeartbeats 6400000 in
theorem lineMore {W:World} {B F p:Nat} {rs:List RuleV} {zs:List ZoneV} {z:ZoneV} {es:List RowN} {y:RowN} {o:Int} {rv lv zv ev:Value} (hP:P2 W B F p rs (zs++[z]) (es++[y]) o rv lv zv ev) (hpB:p<B) (ho:0<o)
 (hn:zs.length≤1000) (hn2:es.length≤1000) (hze:z.es.length≤100) (hyn:y.ns.length≤100) (e:EraV) (he:Er.rightB e=true) (ln:Int) (h0:0<ln) (h1:ln≤1000000) (O:Int) (hO:O=if e.u.has=true then ln else 0):
 Calls Tryz.prog 206 #[.pointer (some ⟨p,0,none⟩),.string (ofL (Ln.more e).bytes),.int .i64 ln] W fun x w'=>x= .returned (.int .i64 0)∧(∃ v' u',P2 w' B F p rs (zs++[⟨z.name,v',z.es++[e]⟩]) (es++[⟨u',y.ns++[ln]⟩]) O rv lv zv ev)∧Fr B p W w':=by
 have hx:(Ln.more e).right=true:=he
 have hbox:=hP.box
 have hBW:B≤W.heap.size:=Nat.le_trans hP.bF hP.fW
 have HP:=Lib.hid hP
 have HOO:=Lib.hid hO
 have cO:=fun X=>OfLine hx X
 have cC:=fun X=>RLi.Check (ofL (Ln.more e).bytes) (Ln.line hx) X
 obtain ⟨fs,hfs⟩:∃ fs,fs=fieldsE e:=⟨_,rfl⟩
 have hfe:(Ln.more e).fields=fs:=by rw [hfs];rfl
 rw [hfe] at cO
 obtain ⟨m,hm⟩:∃ m,fs.length=m+1:=⟨fs.length-1,by have:=fieldsE_len e;rw [hfs];omega⟩
 have CO:=Lib.hid cO;have CC:=Lib.hid cC;have HFS:=Lib.hid hfs;have HM:=Lib.hid hm
 generalize ofL (Ln.more e).bytes=S at *
 have cb:=hbox.cell;have lb:=hbox.lt
 clear cO cC hfe hfs hm hO
 go_enter Tryz.func206,Tryz.ntmps206
 go_wp2_with (first
  |(go_at_call 254;(with_reducible refine (CC.out _).mono ?_);rintro e w' ⟨rfl,rfl⟩)
  |(go_at_call 255;refine (CO.out _).mono ?_;rintro y' w1 ⟨v1,rfl,hown1,hb1⟩;have hown2:w1.ownsRow W.heap.size 9 1 v1 fs.length (fs.flatMap strc):=hown1;rw [HM.out] at hown2;obtain ⟨g,c,cur,rfl,hnc,bb⟩:=own_box1 hown2;have hH:=HoldsS.of_own hown1;have bp1:=hbox.later hb1;have cp1:=bp1.cell;have lp1:=bp1.lt)
  |(go_at_call 256;refine (era (HP.out.later hb1) hpB hn hn2 hze hyn e he (by rw [← HFS.out];exact hH) (fun _ _ _ h=>by cases h;omega) ln h0 h1).mono ?_;rintro y' w9 ⟨rfl,h9,hfr9⟩))
 go_ret
 refine ⟨rfl,?_,(Fr.below hb1 hBW).trans hfr9⟩
 rw [HOO.out]
 exact h9
end RdR
end
section
open Go.RowKit NB
namespace RWr
open Rd Eqs
def zoneOk (z:ZoneV):Bool:=decide (Nam.nameE z.name=0)&&Zn.zoneB z.es
def rightT (t:TabV):Bool:=t.rs.all Rul.right&&(t.zs.all zoneOk&&t.ls.all rightK)
set_option maxRecDepth 100000 in
set_option maxHeartbeats 6400000 in
theorem Right {w:World} {t:TabV} (ht:HoldsT w t):Calls Tryz.prog 144 #[.agg #[t.rv,t.zv,t.lv]] w fun e w'=>e= .returned (.bool (rightT t))∧Below w.heap.size w w':=by
 obtain ⟨rv,zv,lv,rs,zs,ls⟩:=t
 obtain ⟨p,cap,e1,hpr⟩:=ht.r.g.pk
 obtain ⟨pz,capz,e3,hpz⟩:=ht.z.pk
 obtain ⟨pl,capl,e5,hpl⟩:=ht.l.pk
 have l1:=ht.r.len;have l3:=ht.z.len;have l5:=ht.l.len
 have rf:=ht.r.fit;have zf:=ht.zf;have lf:=ht.lf
 dsimp only at e1 e3 e5 hpr hpz hpl l1 l3 l5 rf zf lf ⊢
 subst e1 e3 e5
 clear ht
 unfold rightT
 dsimp only
 obtain ⟨n,hn⟩:∃ n,n=rs.length:=⟨_,rfl⟩
 obtain ⟨nz,hnz⟩:∃ nz,nz=zs.length:=⟨_,rfl⟩
 obtain ⟨nl,hnl⟩:∃ nl,nl=ls.length:=⟨_,rfl⟩
 rw [← hn] at l1 ⊢
 rw [← hnz] at l3 ⊢
 rw [← hnl] at l5 ⊢
 have HPR:=Lib.hid hpr;have HPZ:=Lib.hid hpz;have HPL:=Lib.hid hpl;have RF:=Lib.hid rf;have ZF:=Lib.hid zf;have LF:=Lib.hid lf;have HN:=Lib.hid hn;have HNZ:=Lib.hid hnz;have HNL:=Lib.hid hnl
 clear hpr hpz hpl rf zf lf hn hnz hnl
 go_enter Tryz.func144,Tryz.ntmps144
 go_upto_region 1 with fail
 obtain ⟨w1,hw1⟩:∃ V,V=w.alloc (.cells #[.slice p n cap,.slice pz nz capz,.slice pl nl capl] 26):=⟨_,rfl⟩
 have b1:Box w1 w.heap.size #[.slice p n cap,.slice pz nz capz,.slice pl nl capl] 26:=by rw [hw1];exact Box.new _ _ _
 have hB1:Below w.heap.size w w1:=by rw [hw1];exact bcq
 have m1:=b1.lt
 rw [← hw1]
 clear hw1
 have c1:=b1.cell
 go_wp2
 go_loopw [12] (fun i wr=>∃ k:Nat,i= .int .i64 k∧k≤n∧Below w1.heap.size w1 wr∧Hid ((rs.take k).all Rul.right=true)) (fun i _=>n-(intOf i).toNat)
 case atStart=>exact ⟨0,rfl,Nat.zero_le _,Below.refl _ _,rfl⟩
 case round=>
  obtain ⟨k,rfl,hk,hbr,HS⟩:=hrel
  obtain ⟨w2,rfl⟩:∃ w2:World,w2=wr:=⟨_,rfl⟩
  have hbw:Below w.heap.size w w2:=hB1.trans (hbr.mono hB1.size)
  have b2:=b1.later hbr
  have c2:=b2.cell;have m2:=b2.lt
  by_cases hlt:k<n
  ·obtain ⟨x,hx⟩:∃ x,rs[k]? =some x:=⟨_,List.getElem?_eq_getElem (by rw [← HN.out];exact hlt)⟩
   obtain ⟨g1,o1,rfl,hg1,d1⟩:=HPR.out k x hx
   have x0:=(hbw.cell (p:=⟨g1,o1+k*11+0,none⟩) hg1).trans (d1 0 _ rfl)
   have x1:=(hbw.cell (p:=⟨g1,o1+k*11+1,none⟩) hg1).trans (d1 1 _ rfl)
   have x2:=(hbw.cell (p:=⟨g1,o1+k*11+2,none⟩) hg1).trans (d1 2 _ rfl)
   have x3:=(hbw.cell (p:=⟨g1,o1+k*11+3,none⟩) hg1).trans (d1 3 _ rfl)
   have x4:=(hbw.cell (p:=⟨g1,o1+k*11+4,none⟩) hg1).trans (d1 4 _ rfl)
   have x5:=(hbw.cell (p:=⟨g1,o1+k*11+5,none⟩) hg1).trans (d1 5 _ rfl)
   have x6:=(hbw.cell (p:=⟨g1,o1+k*11+6,none⟩) hg1).trans (d1 6 _ rfl)
   have x7:=(hbw.cell (p:=⟨g1,o1+k*11+7,none⟩) hg1).trans (d1 7 _ rfl)
   have x8:=(hbw.cell (p:=⟨g1,o1+k*11+8,none⟩) hg1).trans (d1 8 _ rfl)
   have x9:=(hbw.cell (p:=⟨g1,o1+k*11+9,none⟩) hg1).trans (d1 9 _ rfl)
   have x10:=(hbw.cell (p:=⟨g1,o1+k*11+10,none⟩) hg1).trans (d1 10 _ rfl)
   rw [Nat.add_zero] at x0
   have fx:=RF.out x (List.mem_of_getElem? hx)
   have cR:=fun X=>RRule.Right x fx X
   have HX:=Lib.hid hx
   obtain ⟨q,hq⟩:∃ q,q=Rul.right x:=⟨_,rfl⟩
   rw [← hq] at cR
   have HQ:=Lib.hid hq
   unfold RuleV.cells at cR
   have CR:=Lib.hid cR
   clear d1 hx fx hq cR
   have q1:(k:Int)<(n:Int):=by omega
   cases q
   ·go_wp2_with (go_at_call 194;(with_reducible refine (CR.out _).mono ?_);rintro e w3 ⟨rfl,hb3⟩;obtain ⟨hc3_0,hf3_0,hz3_0⟩:=bcs hb3 (w.heap.size))
    go_ret
    exact ⟨by rw [not_all HX.out HQ.out.symm];rfl,bcq⟩
   ·go_wp2_with (go_at_call 194;(with_reducible refine (CR.out _).mono ?_);rintro e w3 ⟨rfl,hb3⟩;obtain ⟨hc3_0,hf3_0,hz3_0⟩:=bcs hb3 (w.heap.size))
    go_roundw
    case rel=>exact ⟨k+1,by go_num,by omega,bcq,take_all HX.out HS.out HQ.out.symm⟩
    case measure=>simp [intOf];omega
  ·obtain rfl:k=n:=by omega
   have hZ:rs.all Rul.right=true:=by have:=HS.out;rwa [List.take_of_length_le (by rw [← HN.out];exact Nat.le_refl _)] at this
   have HR:=Lib.hid hZ
   clear hZ HS
   go_wp2
   go_loopw [23] (fun i wr=>∃ k:Nat,i= .int .i64 k∧k≤nz∧Below w2.heap.size w2 wr∧Hid ((zs.take k).all zoneOk=true)) (fun i _=>nz-(intOf i).toNat)
   case atStart=>exact ⟨0,rfl,Nat.zero_le _,Below.refl _ _,rfl⟩
   case round=>
    obtain ⟨j,rfl,hj,hbr2,HS⟩:=hrel
    obtain ⟨w4,rfl⟩:∃ w4:World,w4=wr:=⟨_,rfl⟩
    have hbw4:Below w.heap.size w w4:=hbw.trans (hbr2.mono hbw.size)
    have b4:=b2.later hbr2
    have c4:=b4.cell;have m4:=b4.lt
    by_cases hlt4:j<nz
    ·obtain ⟨x,hx⟩:∃ x,zs[j]? =some x:=⟨_,List.getElem?_eq_getElem (by rw [← HNZ.out];exact hlt4)⟩
     obtain ⟨g1,o1,rfl,hg1,d1⟩:=HPZ.out j x hx
     have x0:=(hbw4.cell (p:=⟨g1,o1+j*2+0,none⟩) hg1).trans (d1 0 _ rfl)
     have x1:=(hbw4.cell (p:=⟨g1,o1+j*2+1,none⟩) hg1).trans (d1 1 _ rfl)
     rw [Nat.add_zero] at x0
     have zfx:=ZF.out x (List.mem_of_getElem? hx)
     have hok:zoneOk x=(decide (Nam.nameE x.name=0)&&Zn.zoneB x.es):=rfl
     have HX:=Lib.hid hx
     obtain ⟨nm,xv,es⟩:=x
     obtain ⟨pp,cc,hv⟩:=zfx.e.form
     dsimp only at hv x0 x1 hok
     subst hv
     have CN:=Lib.hid (fun (X:World)=>RRule.Name nm zfx.n X)
     have CZ:=Lib.hid (fun (X:World) (hX:Below w.heap.size w X)=>Zn.Zone (zfx.later hX).e nm)
     have q1:(j:Int)<(nz:Int):=by omega
     by_cases h0:Nam.nameE nm=0
     ·rw [h0] at CN
      rw [decide_eq_true h0,Bool.true_and] at hok
      obtain ⟨q,hq⟩:∃ q,q=Zn.zoneB es:=⟨_,rfl⟩
      rw [← hq] at CZ hok
      have HQ:=Lib.hid hok
      clear d1 hx zfx hq h0 hok
      cases q
      ·go_wp2_with (first
        |(go_at_call 175;(with_reducible refine (CN.out _).mono ?_);rintro e w' ⟨rfl,rfl⟩)
        |(go_at_call 125;(with_reducible refine (CZ.out _ ?_).mono ?_);(· exact bcq);rintro e w5 ⟨rfl,hb5⟩;obtain ⟨hc5_0,hf5_0,hz5_0⟩:=bcs hb5 (w.heap.size)))
       go_ret
       exact ⟨by rw [HR.out,not_all HX.out HQ.out];rfl,bcq⟩
      ·go_wp2_with (first
        |(go_at_call 175;(with_reducible refine (CN.out _).mono ?_);rintro e w' ⟨rfl,rfl⟩)
        |(go_at_call 125;(with_reducible refine (CZ.out _ ?_).mono ?_);(· exact bcq);rintro e w5 ⟨rfl,hb5⟩;obtain ⟨hc5_0,hf5_0,hz5_0⟩:=bcs hb5 (w.heap.size)))
       go_roundw
       case rel=>exact ⟨j+1,by go_num,by omega,bcq,take_all HX.out HS.out HQ.out⟩
       case measure=>simp [intOf];omega
     ·rw [decide_eq_false h0,Bool.false_and] at hok
      have e2:(Nam.nameE nm==0)=false:=by simpa using h0
      have e3:(Nam.nameE nm != 0)=true:=by simpa using h0
      generalize Nam.nameE nm=nn at *
      have HQ:=Lib.hid hok
      clear d1 hx zfx hok h0
      go_wp2_with (first
       |(go_at_call 175;(with_reducible refine (CN.out _).mono ?_);rintro e w' ⟨rfl,rfl⟩))
      go_ret
      exact ⟨by rw [HR.out,not_all HX.out HQ.out];rfl,bcq⟩
    ·obtain rfl:j=nz:=by omega
     have hZ:zs.all zoneOk=true:=by have:=HS.out;rwa [List.take_of_length_le (by rw [← HNZ.out];exact Nat.le_refl _)] at this
     have HZ:=Lib.hid hZ
     clear hZ HS
     go_wp2
     go_loopw [40] (fun i wr=>∃ k:Nat,i= .int .i64 k∧k≤nl∧Below w4.heap.size w4 wr∧Hid ((ls.take k).all rightK=true)) (fun i _=>nl-(intOf i).toNat)
     case atStart=>exact ⟨0,rfl,Nat.zero_le _,Below.refl _ _,rfl⟩
     case round=>
      obtain ⟨i,rfl,hi,hbr3,HS⟩:=hrel
      have hbw5:Below w.heap.size w wr:=hbw4.trans (hbr3.mono hbw4.size)
      have b5:=b4.later hbr3
      have m5:=b5.lt
      by_cases hlt5:i<nl
      ·obtain ⟨x,hx⟩:∃ x,ls[i]? =some x:=⟨_,List.getElem?_eq_getElem (by rw [← HNL.out];exact hlt5)⟩
       obtain ⟨g1,o1,rfl,hg1,d1⟩:=HPL.out i x hx
       have x0:=(hbw5.cell (p:=⟨g1,o1+i*2+0,none⟩) hg1).trans (d1 0 _ rfl)
       have x1:=(hbw5.cell (p:=⟨g1,o1+i*2+1,none⟩) hg1).trans (d1 1 _ rfl)
       rw [Nat.add_zero] at x0
       have fx:=LF.out x (List.mem_of_getElem? hx)
       have cK:=fun X=>RRk.Right x fx X
       have HX:=Lib.hid hx
       obtain ⟨q,hq⟩:∃ q,q=rightK x:=⟨_,rfl⟩
       rw [← hq] at cK
       have HQ:=Lib.hid hq
       unfold LinkV.cells at cK
       have CK:=Lib.hid cK
       have q1:(i:Int)<(nl:Int):=by omega
       clear d1 hx fx hq cK
       cases q
       ·go_wp2_with (go_at_call 195;(with_reducible refine (CK.out _).mono ?_);rintro e w6 ⟨rfl,hb6⟩;obtain ⟨hc6_0,hf6_0,hz6_0⟩:=bcs hb6 (w.heap.size))
        go_ret
        exact ⟨by rw [HR.out,HZ.out,not_all HX.out HQ.out.symm];rfl,bcq⟩
       ·go_wp2_with (go_at_call 195;(with_reducible refine (CK.out _).mono ?_);rintro e w6 ⟨rfl,hb6⟩;obtain ⟨hc6_0,hf6_0,hz6_0⟩:=bcs hb6 (w.heap.size))
        go_roundw
        case rel=>exact ⟨i+1,by go_num,by omega,bcq,take_all HX.out HS.out HQ.out.symm⟩
        case measure=>simp [intOf];omega
      ·obtain rfl:i=nl:=by omega
       have hL:ls.all rightK=true:=by have:=HS.out;rwa [List.take_of_length_le (by rw [← HNL.out];exact Nat.le_refl _)] at this
       have HL:=Lib.hid hL
       clear hL HS
       go_wp2
       go_ret
       exact ⟨by rw [HR.out,HZ.out,HL.out];rfl,bcq⟩
end RWr
end
end Go.Proofs.YtgmfojgnjdpofaaGreatDoor
