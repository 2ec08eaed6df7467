import Derived.Test.YtgmfojgnjdpofaaGreatDoorH28
import Derived.Test.YtgmfojgnjdpofaaGreatDoorH22
import Derived.Test.YtgmfojgnjdpofaaGreatDoorH19
import Derived.Test.YtgmfojgnjdpofaaGreatDoorH13
import Derived.Test.YtgmfojgnjdpofaaGreatDoorH26
import Derived.Test.YtgmfojgnjdpofaaGreatDoorH24
namespace Go.Proofs.YtgmfojgnjdpofaaGreatDoor
open Go.Proofs.Tryz
section
open Go.RowKit NB
namespace RdR
open Rd RWd
theorem P1.later {W U:World} {B p:Nat} {rs:List RuleV} (h:P1 W B p rs) (hb:Below W.heap.size W U):P1 U B p rs:=by
 obtain ⟨rv,lv,h1,h2,h3⟩:=h;exact ⟨rv,lv,h1.later hb,own_later h2 hb,own_later h3 hb⟩
theorem P2.later {W U:World} {B F p:Nat} {rs:List RuleV} {zs:List ZoneV} {es:List RowN} {o:Int} {rv lv zv ev:Value} (h:P2 W B F p rs zs es o rv lv zv ev) (hb:Below W.heap.size W U):P2 U B F p rs zs es o rv lv zv ev:=
 ⟨h.box.later hb,own_later h.r hb,own_later h.l hb,h.lF,own_later h.z hb,own_later h.e hb,fun x hx=>⟨own_later (h.zf x hx).1 hb,(h.zf x hx).2⟩,fun x hx=>⟨own_later (h.ef x hx).1 hb,(h.ef x hx).2⟩,fun x hx=>own_later (h.za x hx) hb,fun x hx=>own_later (h.ea x hx) hb,h.bF,Nat.le_trans h.fW hb.size⟩
theorem P3.later {W U:World} {B F p:Nat} {rs:List RuleV} {zs:List ZoneV} {es:List RowN} {ls:List LinkV} {ns:List Int} {rv lv zv ev kv nv:Value} (h:P3 W B F p rs zs es ls ns rv lv zv ev kv nv) (hb:Below W.heap.size W U):P3 U B F p rs zs es ls ns rv lv zv ev kv nv:=
 ⟨h.box.later hb,own_later h.r hb,own_later h.l hb,h.lF,own_later h.z hb,own_later h.e hb,fun x hx=>own_later (h.zf x hx) hb,fun x hx=>⟨own_later (h.ef x hx).1 hb,(h.ef x hx).2⟩,own_later h.k hb,own_later h.n hb,h.bF,Nat.le_trans h.fW hb.size⟩
theorem join_q:∀ l:List Bs,(∀ a∈l,Rd.Clean a)→∀ c∈joinF l,c≠34∧c≠35:=by
 intro l
 induction l with
 |nil=>intro _ c hc;cases hc
 |cons a r ih=>
  intro h c hc;have ha:∀ c∈a,c≠34∧c≠35:=fun c hc=>by
   have:=Rd.clean_c ((h a (by simp)).2 c hc);exact ⟨this.2.2.1,this.1⟩
  cases r with
  |nil=>exact ha c hc
  |cons b r=>
   rw [join_cons] at hc;rcases List.mem_append.1 hc with hc|hc
   ·exact ha c hc
   ·rcases List.mem_cons.1 hc with rfl|hc
    ·decide
    ·exact ih (fun x hx=>h x (by simp [hx])) c hc
theorem line_q {x:Ln} (h:x.right=true):∀ c∈x.bytes,c≠34∧c≠35:=by
 have hm:=join_q (lists x.fields) (lists_clean (Ln.clean h));intro c hc;cases x with
 |more e=>
  rcases List.mem_cons.1 hc with rfl|hc
  ·decide
  ·exact hm c hc
 |rule r=>exact hm c hc
 |zone n e=>exact hm c hc
 |link y=>exact hm c hc
theorem OfLine {x:Ln} (h:x.right=true) (w:World):Calls prog 255 #[.string (ofL x.bytes)] w fun e w'=>∃ v',e=.returned (.tuple #[v',.int .i64 0])∧OwnS w' w.heap.size v' x.fields∧Below w.heap.size w w':=by
 have hr:=Ln.read h;have hs:=Ln.short h;have:=RLi.Fields (ofL x.bytes) (by rw [ofL_size];omega) (fun c hc=>line_q h c (by rw [ofL_list] at hc;exact hc)) (by rw [hr]) w;rw [hr] at this;exact this
theorem own_box1 {w:World} {base n:Nat} {e:TypeId} {v:Value} {xs:List Value} (h:w.ownsRow base e 1 v (n+1) xs):∃ g c cur,v=.slice (some ⟨g,0,none⟩) (n+1) c∧n+1≤c∧Box w g cur e:=by
 rcases h.2 with ⟨_,h0⟩|⟨g,c,cur,rfl,_,hc,hnc,_⟩
 ·omega
 ·exact ⟨g,c,cur,rfl,hnc,hc⟩
theorem words_small:∀ x∈[ruleW,zoneW,linkW],x.size≤1000000:=by decide
set_option maxRecDepth 100000 in
set_option maxHeartbeats 6400000 in
theorem lineRule {W:World} {B p:Nat} {rs:List RuleV} (hP:P1 W B p rs) (hpB:p<B) (hBW:B≤W.heap.size) (hn:rs.length≤1000) (r:RuleV) (hfit:r.Fit) (hr:Rul.right r=true):
 Calls prog 206 #[.pointer (some ⟨p,0,none⟩),.string (ofL (Ln.rule r).bytes),.int .i64 ((rs.length:Int)+1)] W fun y w'=>y=.returned (.int .i64 0)∧P1 w' B p (rs++[r])∧Fr B p W w':=by
 have hx:(Ln.rule r).right=true:=hr;obtain ⟨rv,lv,hbox,_⟩:=id hP;have HP:=kj hP;have cO:=fun X=>OfLine hx X;have cC:=fun X=>RLi.Check (ofL (Ln.rule r).bytes) (Ln.line hx) X;obtain ⟨fs,hfs⟩:∃ fs,fs=fieldsR r:=⟨_,rfl⟩;have hfe:(Ln.rule r).fields=ruleW :: fs:=by rw [hfs];rfl
 rw [hfe] at cO;have hfs2:2≤fs.length:=by rw [hfs];simp [fieldsR]
 have CO:=kj cO;have CC:=kj cC;have HFS:=kj hfs;generalize ofL (Ln.rule r).bytes=S at *;have cb:=hbox.cell;have lb:=hbox.lt;clear cO cC hfe hfs;have cM:=fun (X:World) (v:Value) (h:HoldsS X v [ruleW,zoneW,linkW])=>Match h words_small (by decide) ruleW (by decide);rw [show matchW [ruleW,zoneW,linkW] ruleW=(0,0) by decide +kernel] at cM;have CM:=kj cM;clear cM;unfold ruleW at CM CO;go_enter func206,ntmps206
 go_wp2_with (first
  |(go_at_call 254;(with_reducible refine (CC.out _).mono ?_);rintro e w' ⟨rfl,rfl⟩)
  |(go_at_call 255;refine (CO.out _).mono ?_;rintro y w1 ⟨v1,rfl,hown1,hb1⟩;have hown2:w1.ownsRow W.heap.size 9 1 v1 (fs.length+1) _:=hown1;obtain ⟨g,c,cur,rfl,hnc,bb⟩:=own_box1 hown2;have hH:=HoldsS.of_own hown1;have bp1:=hbox.later hb1;have cp1:=bp1.cell;have lp1:=bp1.lt;have d0:w1.cell? ⟨g,0,none⟩=some (.string ⟨#[82,117,108,101]⟩):=hown2.cellAt 0 (by omega);have gl1:=bb.lt;have hc1:¬c=1:=(by omega);have hc2:(1:Int)≤(fs.length:Int)+1:=(by omega))
  |(go_at_call 257;refine (CM.out _ _ (HoldsS.of_box (l:=[ruleW,zoneW,linkW]) (Box.new _ _ _) rfl (by decide))).mono ?_;rintro y w3 ⟨rfl,hb3⟩;have hb13:Below w1.heap.size w1 w3:=(ba (Below.refl _ _)).trans (hb3.mono (by simp));have hbw:Below W.heap.size W w3:=hb1.trans (hb13.mono hb1.size);have hH3:=fun c'=>HoldsS.sub (c':=c') (k:=1) (HoldsG.later hH hb13) (by rw [List.length_cons];omega))
  |(go_at_call 258;refine (rule (HP.out.later hbw) hpB (Nat.le_trans hBW hbw.size) hn r hfit hr (by rw [← HFS.out];exact hH3 _)).mono ?_;rintro y w9 ⟨rfl,h9,hfr9⟩))
 go_ret;exact ⟨rfl,h9,(Fr.below hbw hBW).trans hfr9⟩
set_option maxRecDepth 100000 in
set_option maxHeartbeats 6400000 in
theorem lineZone {W:World} {B F p:Nat} {rs:List RuleV} {zs:List ZoneV} {es:List RowN} {rv lv zv ev:Value} (hP:P2 W B F p rs zs es 0 rv lv zv ev) (hpB:p<B) (hl:es.length=zs.length) (hn:zs.length≤100) (nm:ByteArray) (hnm:Nam.nameE nm=0) (e:EraV) (he:Er.rightB e=true) (ln:Int) (h0:0<ln) (h1:ln≤1000000) (O:Int) (hO:O=if e.u.has=true then ln else 0):
 Calls prog 206 #[.pointer (some ⟨p,0,none⟩),.string (ofL (Ln.zone nm e).bytes),.int .i64 ln] W fun y w'=>y=.returned (.int .i64 0)∧(∃ F' v' u' zv' ev',P2 w' B F' p rs (zs++[⟨nm,v',[e]⟩]) (es++[⟨u',[ln]⟩]) O rv lv zv' ev')∧Fr B p W w':=by
 have hx:(Ln.zone nm e).right=true:=by show (decide (Nam.nameE nm=0)&&Er.rightB e)=true;rw [hnm,he];rfl
 have hbox:=hP.box;have hBW:B≤W.heap.size:=Nat.le_trans hP.bF hP.fW;have HP:=kj hP;have HOO:=kj hO;clear hO;have cO:=fun X=>OfLine hx X;have cC:=fun X=>RLi.Check (ofL (Ln.zone nm e).bytes) (Ln.line hx) X;obtain ⟨fs,hfs⟩:∃ fs,fs=nm :: fieldsE e:=⟨_,rfl⟩;have hfe:(Ln.zone nm e).fields=zoneW :: fs:=by rw [hfs];rfl
 rw [hfe] at cO;have hfs2:2≤fs.length:=by rw [hfs];have:=fieldsE_len e;simp;omega
 have CO:=kj cO;have CC:=kj cC;have HFS:=kj hfs;generalize ofL (Ln.zone nm e).bytes=S at *;have cb:=hbox.cell;have lb:=hbox.lt;clear cO cC hfe hfs;have cM:=fun (X:World) (v:Value) (h:HoldsS X v [ruleW,zoneW,linkW])=>Match h words_small (by decide) zoneW (by decide);rw [show matchW [ruleW,zoneW,linkW] zoneW=(1,0) by decide +kernel] at cM;have CM:=kj cM;clear cM;unfold zoneW at CM CO;go_enter func206,ntmps206
 go_wp2_with (first
  |(go_at_call 254;(with_reducible refine (CC.out _).mono ?_);rintro e w' ⟨rfl,rfl⟩)
  |(go_at_call 255;refine (CO.out _).mono ?_;rintro y w1 ⟨v1,rfl,hown1,hb1⟩;have hown2:w1.ownsRow W.heap.size 9 1 v1 (fs.length+1) _:=hown1;obtain ⟨g,c,cur,rfl,hnc,bb⟩:=own_box1 hown2;have hH:=HoldsS.of_own hown1;have bp1:=hbox.later hb1;have cp1:=bp1.cell;have lp1:=bp1.lt;have d0:w1.cell? ⟨g,0,none⟩=some (.string ⟨#[90,111,110,101]⟩):=hown2.cellAt 0 (by omega);have gl1:=bb.lt;have hc1:¬c=1:=(by omega);have hc2:(1:Int)≤(fs.length:Int)+1:=(by omega))
  |(go_at_call 257;refine (CM.out _ _ (HoldsS.of_box (l:=[ruleW,zoneW,linkW]) (Box.new _ _ _) rfl (by decide))).mono ?_;rintro y w3 ⟨rfl,hb3⟩;have hb13:Below w1.heap.size w1 w3:=(ba (Below.refl _ _)).trans (hb3.mono (by simp));have hbw:Below W.heap.size W w3:=hb1.trans (hb13.mono hb1.size);have hH3:=fun c'=>HoldsS.sub (c':=c') (k:=1) (HoldsG.later hH hb13) (by rw [List.length_cons];omega))
  |(go_at_call 259;refine (zone (HP.out.later hbw) hpB hl hn nm hnm e he (by rw [← HFS.out];exact hH3 _) (fun _ _ _ h=>by cases h;omega) (fun _ _ _ h=>by cases h;exact ⟨cur,bb.later hb13⟩) ln h0 h1).mono ?_;rintro y w9 ⟨rfl,h9,hfr9⟩))
 go_ret;refine ⟨rfl,?_,(Fr.below hbw hBW).trans hfr9⟩;rw [HOO.out];exact h9
set_option maxRecDepth 100000 in
set_option maxHeartbeats 6400000 in
theorem lineLink {W:World} {B F p:Nat} {rs:List RuleV} {zs:List ZoneV} {es:List RowN} {ls:List LinkV} {ns:List Int} {rv lv zv ev kv nv:Value} (hP:P3 W B F p rs zs es ls ns rv lv zv ev kv nv) (hpB:p<B) (hn:ls.length≤1000) (x:LinkV) (hfit:x.Fit) (hr:rightK x=true) (ln:Int):
 Calls prog 206 #[.pointer (some ⟨p,0,none⟩),.string (ofL (Ln.link x).bytes),.int .i64 ln] W fun y w'=>y=.returned (.int .i64 0)∧(∃ kv' nv',P3 w' B F p rs zs es (ls++[x]) (ns++[ln]) rv lv zv ev kv' nv')∧Fr B p W w':=by
 have hx:(Ln.link x).right=true:=hr;have hbox:=hP.box;have hBW:B≤W.heap.size:=Nat.le_trans hP.bF hP.fW;have HP:=kj hP;have cO:=fun X=>OfLine hx X;have cC:=fun X=>RLi.Check (ofL (Ln.link x).bytes) (Ln.line hx) X;obtain ⟨fs,hfs⟩:∃ fs,fs=fieldsK x:=⟨_,rfl⟩;have hfe:(Ln.link x).fields=linkW :: fs:=by rw [hfs];rfl
 rw [hfe] at cO;have hfs2:2≤fs.length:=by rw [hfs];simp [fieldsK]
 have CO:=kj cO;have CC:=kj cC;have HFS:=kj hfs;generalize ofL (Ln.link x).bytes=S at *;have cb:=hbox.cell;have lb:=hbox.lt;clear cO cC hfe hfs;have cM:=fun (X:World) (v:Value) (h:HoldsS X v [ruleW,zoneW,linkW])=>Match h words_small (by decide) linkW (by decide);rw [show matchW [ruleW,zoneW,linkW] linkW=(2,0) by decide +kernel] at cM;have CM:=kj cM;clear cM;unfold linkW at CM CO;go_enter func206,ntmps206
 go_wp2_with (first
  |(go_at_call 254;(with_reducible refine (CC.out _).mono ?_);rintro e w' ⟨rfl,rfl⟩)
  |(go_at_call 255;refine (CO.out _).mono ?_;rintro y w1 ⟨v1,rfl,hown1,hb1⟩;have hown2:w1.ownsRow W.heap.size 9 1 v1 (fs.length+1) _:=hown1;obtain ⟨g,c,cur,rfl,hnc,bb⟩:=own_box1 hown2;have hH:=HoldsS.of_own hown1;have bp1:=hbox.later hb1;have cp1:=bp1.cell;have lp1:=bp1.lt;have d0:w1.cell? ⟨g,0,none⟩=some (.string ⟨#[76,105,110,107]⟩):=hown2.cellAt 0 (by omega);have gl1:=bb.lt;have hc1:¬c=1:=(by omega);have hc2:(1:Int)≤(fs.length:Int)+1:=(by omega))
  |(go_at_call 257;refine (CM.out _ _ (HoldsS.of_box (l:=[ruleW,zoneW,linkW]) (Box.new _ _ _) rfl (by decide))).mono ?_;rintro y w3 ⟨rfl,hb3⟩;have hb13:Below w1.heap.size w1 w3:=(ba (Below.refl _ _)).trans (hb3.mono (by simp));have hbw:Below W.heap.size W w3:=hb1.trans (hb13.mono hb1.size);have hH3:=fun c'=>HoldsS.sub (c':=c') (k:=1) (HoldsG.later hH hb13) (by rw [List.length_cons];omega))
  |(go_at_call 260;refine (link (HP.out.later hbw) hpB hn x hfit hr (by rw [← HFS.out];exact hH3 _) ln).mono ?_;rintro y w9 ⟨rfl,h9,hfr9⟩))
 go_ret;exact ⟨rfl,h9,(Fr.below hbw hBW).trans hfr9⟩
set_option maxRecDepth 100000 in
set_option maxHeartbeats 6400000 in
theorem lineMore {W:World} {B F p:Nat} {rs:List RuleV} {zs:List ZoneV} {z:ZoneV} {es:List RowN} {y:RowN} {o:Int} {rv lv zv ev:Value} (hP:P2 W B F p rs (zs++[z]) (es++[y]) o rv lv zv ev) (hpB:p<B) (ho:0<o)
 (hn:zs.length≤1000) (hn2:es.length≤1000) (hze:z.es.length≤100) (hyn:y.ns.length≤100) (e:EraV) (he:Er.rightB e=true) (ln:Int) (h0:0<ln) (h1:ln≤1000000) (O:Int) (hO:O=if e.u.has=true then ln else 0):
 Calls prog 206 #[.pointer (some ⟨p,0,none⟩),.string (ofL (Ln.more e).bytes),.int .i64 ln] W fun x w'=>x=.returned (.int .i64 0)∧(∃ v' u',P2 w' B F p rs (zs++[⟨z.name,v',z.es++[e]⟩]) (es++[⟨u',y.ns++[ln]⟩]) O rv lv zv ev)∧Fr B p W w':=by
 have hx:(Ln.more e).right=true:=he;have hbox:=hP.box;have hBW:B≤W.heap.size:=Nat.le_trans hP.bF hP.fW;have HP:=kj hP;have HOO:=kj hO;have cO:=fun X=>OfLine hx X;have cC:=fun X=>RLi.Check (ofL (Ln.more e).bytes) (Ln.line hx) X;obtain ⟨fs,hfs⟩:∃ fs,fs=fieldsE e:=⟨_,rfl⟩;have hfe:(Ln.more e).fields=fs:=by rw [hfs];rfl
 rw [hfe] at cO;obtain ⟨m,hm⟩:∃ m,fs.length=m+1:=⟨fs.length-1,by have:=fieldsE_len e;rw [hfs];omega⟩;have CO:=kj cO;have CC:=kj cC;have HFS:=kj hfs;have HM:=kj hm;generalize ofL (Ln.more e).bytes=S at *;have cb:=hbox.cell;have lb:=hbox.lt;clear cO cC hfe hfs hm hO;go_enter func206,ntmps206
 go_wp2_with (first
  |(go_at_call 254;(with_reducible refine (CC.out _).mono ?_);rintro e w' ⟨rfl,rfl⟩)
  |(go_at_call 255;refine (CO.out _).mono ?_;rintro y' w1 ⟨v1,rfl,hown1,hb1⟩;have hown2:w1.ownsRow W.heap.size 9 1 v1 fs.length (fs.flatMap strc):=hown1;rw [HM.out] at hown2;obtain ⟨g,c,cur,rfl,hnc,bb⟩:=own_box1 hown2;have hH:=HoldsS.of_own hown1;have bp1:=hbox.later hb1;have cp1:=bp1.cell;have lp1:=bp1.lt)
  |(go_at_call 256;refine (era (HP.out.later hb1) hpB hn hn2 hze hyn e he (by rw [← HFS.out];exact hH) (fun _ _ _ h=>by cases h;omega) ln h0 h1).mono ?_;rintro y' w9 ⟨rfl,h9,hfr9⟩))
 go_ret;refine ⟨rfl,?_,(Fr.below hb1 hBW).trans hfr9⟩;rw [HOO.out];exact h9
end RdR
end
section
open Go.RowKit NB
namespace RWr
open Rd Eqs
def zoneOk (z:ZoneV):Bool:=decide (Nam.nameE z.name=0)&&Zn.zoneB z.es
def rightT (t:TabV):Bool:=t.rs.all Rul.right&&(t.zs.all zoneOk&&t.ls.all rightK)
set_option maxRecDepth 100000 in
set_option maxHeartbeats 6400000 in
theorem Right {w:World} {t:TabV} (ht:HoldsT w t):Calls prog 144 #[.agg #[t.rv,t.zv,t.lv]] w fun e w'=>e=.returned (.bool (rightT t))∧Below w.heap.size w w':=by
 obtain ⟨rv,zv,lv,rs,zs,ls⟩:=t;obtain ⟨p,cap,e1,hpr⟩:=ht.r.g.pk;obtain ⟨pz,capz,e3,hpz⟩:=ht.z.pk;obtain ⟨pl,capl,e5,hpl⟩:=ht.l.pk;have l1:=ht.r.len;have l3:=ht.z.len;have l5:=ht.l.len;have rf:=ht.r.fit;have zf:=ht.zf;have lf:=ht.lf;dsimp only at e1 e3 e5 hpr hpz hpl l1 l3 l5 rf zf lf ⊢;subst e1 e3 e5;clear ht;unfold rightT;dsimp only;obtain ⟨n,hn⟩:∃ n,n=rs.length:=⟨_,rfl⟩;obtain ⟨nz,hnz⟩:∃ nz,nz=zs.length:=⟨_,rfl⟩;obtain ⟨nl,hnl⟩:∃ nl,nl=ls.length:=⟨_,rfl⟩;rw [← hn] at l1 ⊢;rw [← hnz] at l3 ⊢;rw [← hnl] at l5 ⊢;have HPR:=kj hpr;have HPZ:=kj hpz;have HPL:=kj hpl;have RF:=kj rf;have ZF:=kj zf;have LF:=kj lf;have HN:=kj hn;have HNZ:=kj hnz;have HNL:=kj hnl;clear hpr hpz hpl rf zf lf hn hnz hnl;go_enter func144,ntmps144
 go_upto_region 1 with fail
 obtain ⟨w1,hw1⟩:∃ V,V=w.alloc (.cells #[.slice p n cap,.slice pz nz capz,.slice pl nl capl] 26):=⟨_,rfl⟩;have b1:Box w1 w.heap.size #[.slice p n cap,.slice pz nz capz,.slice pl nl capl] 26:=by rw [hw1];exact Box.new _ _ _
 have hB1:Below w.heap.size w w1:=by rw [hw1];exact bcq
 have m1:=b1.lt;rw [← hw1];clear hw1;have c1:=b1.cell;go_wp2
 go_loopw [12] (fun i wr=>∃ k:Nat,i=.int .i64 k∧k≤n∧Below w1.heap.size w1 wr∧Hid ((rs.take k).all Rul.right=true)) (fun i _=>n-(intOf i).toNat)
 case atStart=>exact ⟨0,rfl,Nat.zero_le _,Below.refl _ _,rfl⟩
 case round=>
  obtain ⟨k,rfl,hk,hbr,HS⟩:=hrel;obtain ⟨w2,rfl⟩:∃ w2:World,w2=wr:=⟨_,rfl⟩;have hbw:Below w.heap.size w w2:=hB1.trans (hbr.mono hB1.size);have b2:=b1.later hbr;have c2:=b2.cell;have m2:=b2.lt
  by_cases hlt:k<n
  ·obtain ⟨x,hx⟩:∃ x,rs[k]? =some x:=⟨_,List.getElem?_eq_getElem (by rw [← HN.out];exact hlt)⟩;obtain ⟨g1,o1,rfl,hg1,d1⟩:=HPR.out k x hx;have x0:=(hbw.cell (p:=⟨g1,o1+k*11+0,none⟩) hg1).trans (d1 0 _ rfl);have x1:=(hbw.cell (p:=⟨g1,o1+k*11+1,none⟩) hg1).trans (d1 1 _ rfl);have x2:=(hbw.cell (p:=⟨g1,o1+k*11+2,none⟩) hg1).trans (d1 2 _ rfl);have x3:=(hbw.cell (p:=⟨g1,o1+k*11+3,none⟩) hg1).trans (d1 3 _ rfl);have x4:=(hbw.cell (p:=⟨g1,o1+k*11+4,none⟩) hg1).trans (d1 4 _ rfl);have x5:=(hbw.cell (p:=⟨g1,o1+k*11+5,none⟩) hg1).trans (d1 5 _ rfl);have x6:=(hbw.cell (p:=⟨g1,o1+k*11+6,none⟩) hg1).trans (d1 6 _ rfl);have x7:=(hbw.cell (p:=⟨g1,o1+k*11+7,none⟩) hg1).trans (d1 7 _ rfl);have x8:=(hbw.cell (p:=⟨g1,o1+k*11+8,none⟩) hg1).trans (d1 8 _ rfl);have x9:=(hbw.cell (p:=⟨g1,o1+k*11+9,none⟩) hg1).trans (d1 9 _ rfl);have x10:=(hbw.cell (p:=⟨g1,o1+k*11+10,none⟩) hg1).trans (d1 10 _ rfl);rw [Nat.add_zero] at x0;have fx:=RF.out x (List.mem_of_getElem? hx);have cR:=fun X=>RRule.Right x fx X;have HX:=kj hx;obtain ⟨q,hq⟩:∃ q,q=Rul.right x:=⟨_,rfl⟩;rw [← hq] at cR;have HQ:=kj hq;unfold RuleV.cells at cR;have CR:=kj cR;clear d1 hx fx hq cR;have q1:(k:Int)<(n:Int):=by omega
   cases q
   ·go_wp2_with (go_at_call 194;(with_reducible refine (CR.out _).mono ?_);rintro e w3 ⟨rfl,hb3⟩;obtain ⟨hc3_0,hf3_0,hz3_0⟩:=bcs hb3 (w.heap.size))
    go_ret;exact ⟨by rw [not_all HX.out HQ.out.symm];rfl,bcq⟩
   ·go_wp2_with (go_at_call 194;(with_reducible refine (CR.out _).mono ?_);rintro e w3 ⟨rfl,hb3⟩;obtain ⟨hc3_0,hf3_0,hz3_0⟩:=bcs hb3 (w.heap.size))
    go_roundw
    case rel=>exact ⟨k+1,by go_num,by omega,bcq,take_all HX.out HS.out HQ.out.symm⟩
    case measure=>simp [intOf];omega
  ·obtain rfl:k=n:=by omega
   have hZ:rs.all Rul.right=true:=by have:=HS.out;rwa [List.take_of_length_le (by rw [← HN.out];exact Nat.le_refl _)] at this
   have HR:=kj hZ;clear hZ HS;go_wp2
   go_loopw [23] (fun i wr=>∃ k:Nat,i=.int .i64 k∧k≤nz∧Below w2.heap.size w2 wr∧Hid ((zs.take k).all zoneOk=true)) (fun i _=>nz-(intOf i).toNat)
   case atStart=>exact ⟨0,rfl,Nat.zero_le _,Below.refl _ _,rfl⟩
   case round=>
    obtain ⟨j,rfl,hj,hbr2,HS⟩:=hrel;obtain ⟨w4,rfl⟩:∃ w4:World,w4=wr:=⟨_,rfl⟩;have hbw4:Below w.heap.size w w4:=hbw.trans (hbr2.mono hbw.size);have b4:=b2.later hbr2;have c4:=b4.cell;have m4:=b4.lt
    by_cases hlt4:j<nz
    ·obtain ⟨x,hx⟩:∃ x,zs[j]? =some x:=⟨_,List.getElem?_eq_getElem (by rw [← HNZ.out];exact hlt4)⟩;obtain ⟨g1,o1,rfl,hg1,d1⟩:=HPZ.out j x hx;have x0:=(hbw4.cell (p:=⟨g1,o1+j*2+0,none⟩) hg1).trans (d1 0 _ rfl);have x1:=(hbw4.cell (p:=⟨g1,o1+j*2+1,none⟩) hg1).trans (d1 1 _ rfl);rw [Nat.add_zero] at x0;have zfx:=ZF.out x (List.mem_of_getElem? hx);have hok:zoneOk x=(decide (Nam.nameE x.name=0)&&Zn.zoneB x.es):=rfl;have HX:=kj hx;obtain ⟨nm,xv,es⟩:=x;obtain ⟨pp,cc,hv⟩:=zfx.e.form;dsimp only at hv x0 x1 hok;subst hv;have CN:=kj (fun (X:World)=>RRule.Name nm zfx.n X);have CZ:=kj (fun (X:World) (hX:Below w.heap.size w X)=>Zn.Zone (zfx.later hX).e nm);have q1:(j:Int)<(nz:Int):=by omega
     by_cases h0:Nam.nameE nm=0
     ·rw [h0] at CN;rw [decide_eq_true h0,Bool.true_and] at hok;obtain ⟨q,hq⟩:∃ q,q=Zn.zoneB es:=⟨_,rfl⟩;rw [← hq] at CZ hok;have HQ:=kj hok;clear d1 hx zfx hq h0 hok;cases q
      ·go_wp2_with (first
        |(go_at_call 175;(with_reducible refine (CN.out _).mono ?_);rintro e w' ⟨rfl,rfl⟩)
        |(go_at_call 125;(with_reducible refine (CZ.out _ ?_).mono ?_);(· exact bcq);rintro e w5 ⟨rfl,hb5⟩;obtain ⟨hc5_0,hf5_0,hz5_0⟩:=bcs hb5 (w.heap.size)))
       go_ret;exact ⟨by rw [HR.out,not_all HX.out HQ.out];rfl,bcq⟩
      ·go_wp2_with (first
        |(go_at_call 175;(with_reducible refine (CN.out _).mono ?_);rintro e w' ⟨rfl,rfl⟩)
        |(go_at_call 125;(with_reducible refine (CZ.out _ ?_).mono ?_);(· exact bcq);rintro e w5 ⟨rfl,hb5⟩;obtain ⟨hc5_0,hf5_0,hz5_0⟩:=bcs hb5 (w.heap.size)))
       go_roundw
       case rel=>exact ⟨j+1,by go_num,by omega,bcq,take_all HX.out HS.out HQ.out⟩
       case measure=>simp [intOf];omega
     ·rw [decide_eq_false h0,Bool.false_and] at hok;have e2:(Nam.nameE nm==0)=false:=by simpa using h0
      have e3:(Nam.nameE nm != 0)=true:=by simpa using h0
      generalize Nam.nameE nm=nn at *;have HQ:=kj hok;clear d1 hx zfx hok h0
      go_wp2_with (first
       |(go_at_call 175;(with_reducible refine (CN.out _).mono ?_);rintro e w' ⟨rfl,rfl⟩))
      go_ret;exact ⟨by rw [HR.out,not_all HX.out HQ.out];rfl,bcq⟩
    ·obtain rfl:j=nz:=by omega
     have hZ:zs.all zoneOk=true:=by have:=HS.out;rwa [List.take_of_length_le (by rw [← HNZ.out];exact Nat.le_refl _)] at this
     have HZ:=kj hZ;clear hZ HS;go_wp2
     go_loopw [40] (fun i wr=>∃ k:Nat,i=.int .i64 k∧k≤nl∧Below w4.heap.size w4 wr∧Hid ((ls.take k).all rightK=true)) (fun i _=>nl-(intOf i).toNat)
     case atStart=>exact ⟨0,rfl,Nat.zero_le _,Below.refl _ _,rfl⟩
     case round=>
      obtain ⟨i,rfl,hi,hbr3,HS⟩:=hrel;have hbw5:Below w.heap.size w wr:=hbw4.trans (hbr3.mono hbw4.size);have b5:=b4.later hbr3;have m5:=b5.lt
      by_cases hlt5:i<nl
      ·obtain ⟨x,hx⟩:∃ x,ls[i]? =some x:=⟨_,List.getElem?_eq_getElem (by rw [← HNL.out];exact hlt5)⟩;obtain ⟨g1,o1,rfl,hg1,d1⟩:=HPL.out i x hx;have x0:=(hbw5.cell (p:=⟨g1,o1+i*2+0,none⟩) hg1).trans (d1 0 _ rfl);have x1:=(hbw5.cell (p:=⟨g1,o1+i*2+1,none⟩) hg1).trans (d1 1 _ rfl);rw [Nat.add_zero] at x0;have fx:=LF.out x (List.mem_of_getElem? hx);have cK:=fun X=>RRk.Right x fx X;have HX:=kj hx;obtain ⟨q,hq⟩:∃ q,q=rightK x:=⟨_,rfl⟩;rw [← hq] at cK;have HQ:=kj hq;unfold LinkV.cells at cK;have CK:=kj cK;have q1:(i:Int)<(nl:Int):=by omega
       clear d1 hx fx hq cK;cases q
       ·go_wp2_with (go_at_call 195;(with_reducible refine (CK.out _).mono ?_);rintro e w6 ⟨rfl,hb6⟩;obtain ⟨hc6_0,hf6_0,hz6_0⟩:=bcs hb6 (w.heap.size))
        go_ret;exact ⟨by rw [HR.out,HZ.out,not_all HX.out HQ.out.symm];rfl,bcq⟩
       ·go_wp2_with (go_at_call 195;(with_reducible refine (CK.out _).mono ?_);rintro e w6 ⟨rfl,hb6⟩;obtain ⟨hc6_0,hf6_0,hz6_0⟩:=bcs hb6 (w.heap.size))
        go_roundw
        case rel=>exact ⟨i+1,by go_num,by omega,bcq,take_all HX.out HS.out HQ.out.symm⟩
        case measure=>simp [intOf];omega
      ·obtain rfl:i=nl:=by omega
       have hL:ls.all rightK=true:=by have:=HS.out;rwa [List.take_of_length_le (by rw [← HNL.out];exact Nat.le_refl _)] at this
       have HL:=kj hL;clear hL HS;go_wp2;go_ret;exact ⟨by rw [HR.out,HZ.out,HL.out];rfl,bcq⟩
end RWr
end
section
open Go.RowKit NB
namespace RRe
open Rd RWd RNu RAm RDs RAt RYe RRu
theorem own_box {W:World} {base b n sz:Nat} {e t:TypeId} {v:Value} {xs:List Value} {cs:Array Value} (h:W.ownsRow base e sz v n xs) (hb:Box W b cs t) (he:e≠t):v.ownBlock≠some b:=by
 rcases h.2 with ⟨rfl,_⟩|⟨g,cap,cur,rfl,_,hg,_⟩
 ·intro h;cases h
 ·intro h;cases h;have hb:W.heap[g]? =some (.cells cs t):=hb;rw [hb] at hg;cases hg;exact he rfl
theorem box_grown {W U:World} {base b n sz:Nat} {e t:TypeId} {v:Value} {xs:List Value} {cs:Array Value} (hb:Box W b cs t) (h:W.ownsRow base e sz v n xs) (hg:W.grownBy U v.ownBlock) (he:e≠t):Box U b cs t:=
 (hg.block b hb.lt (fun e'=>own_box h hb he e'.symm)).trans hb
theorem kind_at {e:EraV} (h:Er.rightB e=true):0≤e.kind∧e.kind<3∧([⟨#[45]⟩,ofL (textA e.save),e.rules]:List ByteArray)[e.kind.toNat]? =some (kindE e):=by
 obtain ⟨_,_,_,h⟩:=era_of h;unfold kindE;rcases h with ⟨k,_⟩|⟨k,_⟩|⟨k,_⟩
 ·rw [k];exact ⟨by decide,by decide,rfl⟩
 ·rw [k];exact ⟨by decide,by decide,rfl⟩
 ·rw [k];exact ⟨by decide,by decide,rfl⟩
theorem save_small {e:EraV} (h:Er.rightB e=true): -10800≤e.save∧e.save≤10800:=by
 obtain ⟨_,_,_,h⟩:=era_of h;omega
set_option maxRecDepth 100000 in
set_option maxHeartbeats 6400000 in
theorem Fields (e:EraV) (hfit:e.Fit) (he:Er.rightB e=true) (w:World):
 Calls prog 147 #[.agg e.cells.toArray] w fun x w'=>∃ v,x=.returned (.tuple #[v,.int .i64 0])∧HoldsS w' v (fieldsE e)∧Below w.heap.size w w':=by
 obtain ⟨⟨h1,h2⟩,h3,h4,_⟩:=era_of he;obtain ⟨k1,k2,k3⟩:=kind_at he;obtain ⟨s1,s2⟩:=save_small he;have c0:=fun W=>REr.Right e hfit W;rw [he] at c0;have c1:=fun W=>AText e.off (by omega) (by omega) W;have c2:=fun W=>AText e.save (by omega) (by omega) W;obtain ⟨i0,hi,hz0,hz1,hz2⟩:=info_parts infoS;have HI:=kj hi;have HZ0:=kj hz0;have HZ1:=kj hz1;have HZ2:=kj hz2;unfold fieldsE;generalize kindE e=X1 at *;obtain ⟨off,kind,save,rules,format,u⟩:=e;unfold EraV.cells at *;dsimp only at *;obtain ⟨k,rfl⟩:∃ n:Nat,(n:Int)=kind:=⟨kind.toNat,by omega⟩;have k3:([⟨#[45]⟩,ofL (textA save),rules]:List ByteArray)[k]? =some X1:=k3;generalize ofL (textA off)=X0 at *;generalize ofL (textA save)=XS at *;have C0:=kj c0;have C1:=kj c1;have C2:=kj c2;have HE:=kj h4;clear c0 c1 c2 hi hz0 hz1 hz2 he hfit h1 h2 h3 s1 s2 h4;obtain ⟨has,year,month,kk,wk,dd,sec,base⟩:=u;dsimp only at *;have hb0:=Box.new w #[.int .i64 off,.int .i64 (k:Int),.int .i64 save,.string rules,.string format,.bool has,.int .i64 year,.int .i64 month,.int .i64 kk,.int .i64 wk,.int .i64 dd,.int .i64 sec,.int .i64 base] 53;go_enter func147,ntmps147
 go_upto_region 6 with (first
  |(go_at_call 114;(with_reducible refine (C0.out _).mono ?_);rintro e w1 ⟨rfl,hb1⟩;obtain ⟨hc1_0,hf1_0,hz1_0⟩:=bcs hb1 (w.heap.size))
  |(with_reducible (go_at_call 200;(with_reducible refine (C1.out _).mono ?_);rintro e w2 ⟨rfl,hb2⟩;obtain ⟨hc2_0,hf2_0,hz2_0⟩:=bcs hb2 (w.heap.size)))
  |(with_reducible (go_at_call 200;(with_reducible refine (C2.out _).mono ?_);rintro e w3 ⟨rfl,hb3⟩;obtain ⟨hc3_0,hf3_0,hz3_0⟩:=bcs hb3 (w.heap.size))))
 obtain ⟨W4,hW4⟩:∃ V,V=w3.alloc (.cells #[.string ⟨#[45]⟩,.string XS,.string rules] 9):=⟨_,rfl⟩;have BK:Box W4 w3.heap.size #[.string ⟨#[45]⟩,.string XS,.string rules] 9:=by rw [hW4];exact Box.new _ _ _
 have B0:=(((hb0.later hb1).later hb2).later hb3).old (o:=.cells #[.string ⟨#[45]⟩,.string XS,.string rules] 9);rw [← hW4] at B0;have hbw:Below w.heap.size w W4:=by rw [hW4];exact bcq
 have n0:w.heap.size<w3.heap.size:=((((hb0.later hb1).later hb2).later hb3)).lt;have hk:W4.cell? ⟨w3.heap.size,k,none⟩=some (.string X1):=by
  rw [BK.cell];rcases (by omega:k=0∨k=1∨k=2) with rfl|rfl|rfl
  ·cases k3;rfl
  ·cases k3;rfl
  ·cases k3;rfl
 rw [← hW4];clear hb0 hb1 hb2 hb3 hc1_0 hf1_0 hz1_0 hc2_0 hf2_0 hz2_0 hc3_0 hf3_0 hz3_0 hW4 k3;have hkB:=BK.lt;have c0:=B0.cell;have q0:(k:Int)<3:=by omega
 clear BK;generalize w3.heap.size=qK at *;have l0:=B0.lt
 go_region
 obtain ⟨W5,hW5⟩:∃ V,V=(W4.alloc (.cells #[.string X0,.string X1,.string format] 9)).drew:=⟨_,rfl⟩;have B5:Box W5 w.heap.size #[.int .i64 off,.int .i64 (k:Int),.int .i64 save,.string rules,.string format,.bool has,.int .i64 year,.int .i64 month,.int .i64 kk,.int .i64 wk,.int .i64 dd,.int .i64 sec,.int .i64 base] 53:=by rw [hW5];exact B0.old.drew
 have HO5:Hid (OwnR W5 w.heap.size (.slice (some ⟨W4.heap.size,0,none⟩) 3 3) 3 [X0,X1,format]):=by
  rw [hW5];exact World.ownsRow_lit W4 #[.string X0,.string X1,.string format] 3 (by omega) (by unfold maxLen;omega) rfl
 have hb5:Below w.heap.size w W5:=by rw [hW5];exact bd (ba hbw)
 rw [← hW5];clear hW5 B0 c0 hk;generalize W4.heap.size=qO at *;have c5:=B5.cell;have l5:=B5.lt;cases has with
 |false=>
  go_wp2;go_ret2;refine ⟨_,rfl,?_,ba hb5⟩;rw [show untilF ⟨false,year,month,kk,wk,dd,sec,base⟩=[] from rfl];show HoldsS _ _ [X0,X1,format];have hO:OwnR (W5.alloc (.cells #[.bool false,.int .i64 year,.int .i64 month,.int .i64 kk,.int .i64 wk,.int .i64 dd,.int .i64 sec,.int .i64 base] 51)) w.heap.size (.slice (some ⟨qO,0,none⟩) 3 3) 3 [X0,X1,format]:=World.ownsRow.alloc HO5.out _;exact HoldsS.of_own (OwnR.s hO)
 |true=>
  obtain ⟨h1,h2,hf,h3,h4,h5,h6⟩:(-32767<year∧year<32767∧Day.fits kk wk dd month=true∧0≤base∧base≤2∧0≤sec∧sec≤172800):=by
   rcases end_of HE.out with ⟨_,h1,h2,h3⟩|⟨h,_⟩
   ·exact ⟨h1.1,h1.2,h2,h3⟩
   ·cases h
  obtain ⟨g1,g2,g3⟩:=fits_of hf;have cY:=fun W=>Text year (by omega) (by omega) W;have cM:=fun W=>MonthText month g2 g3 W;have cD:=fun W=>OText ⟨kk,wk,dd⟩ g1 W;have cT:=fun W=>AtText ⟨sec,base⟩ h5 h6 h3 h4 W;unfold onV at cD;unfold atV at cT;dsimp only at cD cT;have CY:=kj cY;have CM:=kj cM;have CD:=kj cD;have CT:=kj cT;clear cY cM cD cT HE hf g1 g2 g3 h1 h2 h3 h4 h5 h6
  go_upto_region 10 with fail
  obtain ⟨W6,hW6⟩:∃ V,V=W5.alloc (.cells #[.bool true,.int .i64 year,.int .i64 month,.int .i64 kk,.int .i64 wk,.int .i64 dd,.int .i64 sec,.int .i64 base] 51):=⟨_,rfl⟩;have B6:Box W6 W5.heap.size #[.bool true,.int .i64 year,.int .i64 month,.int .i64 kk,.int .i64 wk,.int .i64 dd,.int .i64 sec,.int .i64 base] 51:=by rw [hW6];exact Box.new _ _ _
  have HO6:Hid (OwnR W6 w.heap.size (.slice (some ⟨qO,0,none⟩) 3 3) 3 [X0,X1,format]):=by rw [hW6];exact World.ownsRow.alloc HO5.out _
  have hb6:Below w.heap.size w W6:=by rw [hW6];exact ba hb5
  have hqU:qO<W5.heap.size:=((HO5.out.lt qO rfl).2);rw [← hW6];clear hW6 B5 c5 l5 HO5;obtain ⟨v6,hv6⟩:∃ V,V=Value.slice (some ⟨qO,0,none⟩) 3 3:=⟨_,rfl⟩;rw [← hv6] at HO6 ⊢;clear hv6;have hwU:w.heap.size≤W5.heap.size:=hb5.size;clear hb5;generalize W5.heap.size=qU at *;have c6:=B6.cell;have l6:=B6.lt
  go_upto_region 11 with (first
   |(go_at_call 204;refine (CY.out _).mono ?_;rintro e w7 ⟨rfl,hb7⟩;have HO7:=kj (RBk.own_lat HO6.out hb7);have B7:=B6.later hb7;have hs7:=hb7.size)
   |(at_builtin;refine wpList_append_own _ rfl _ _ 193 rfl (w.heap.size) 9 i0 _ 1 16 underlying193 HI.out HZ0.out HZ1.out HZ2.out rfl (by decide) _ _ _ rfl (World.ownsRow.alloc HO7.out _) ⟨_,0,none⟩ 1 1 [.string (ofL (textN year))] rfl rfl (cell_one_at (by simp)) (by simp [Value.oneCell']) (by unfold maxLen;omega) (by omega) (by simp;omega) ?_;intro v8 w8 hown8 hgrow8 _))
  have hOA:=World.ownsRow.alloc HO7.out (.cells #[.string (ofL (textN year))] 9);have B8:=box_grown B7.old hOA hgrow8 (by decide);have HO8:Hid (OwnR w8 w.heap.size v8 4 [X0,X1,format,ofL (textN year)]):=hown8;have hb8:Below w.heap.size w w8:=Below.grown (ba (hb6.trans (hb7.mono (by omega)))) hgrow8 (by simp;omega) (fun j hj=>(hOA.lt j hj).1);have l8:=B8.lt;clear hOA hown8 hgrow8 B7 hb7 B6 hb6 c6 HO6 HO7;have c8:=B8.cell;obtain ⟨mB,hmB⟩:∃ x,x=decide (month≠1):=⟨_,rfl⟩;obtain ⟨dB,hdB⟩:∃ x,x=hasDay ⟨true,year,month,kk,wk,dd,sec,base⟩:=⟨_,rfl⟩;obtain ⟨tB,htB⟩:∃ x,x=hasTime ⟨true,year,month,kk,wk,dd,sec,base⟩:=⟨_,rfl⟩;have HM:=kj hmB;have HD:=kj hdB;have HT:=kj htB;clear hmB hdB htB
  go_cut [11,12,13] from 58 to 68 (fun a b c wx=>a=.bool mB∧b=.bool dB∧c=.bool tB∧Below w8.heap.size w8 wx)
  case first=>
   have hm:mB= !(month==1):=by rw [HM.out];by_cases h:month=1<;>simp [h]
   have hd:dB= !((kk==0)&&((wk==0)&&(dd==1))):=by
    rw [HD.out];unfold hasDay
    by_cases h:kk=0<;>by_cases h2:wk=0<;>by_cases h3:dd=1<;>simp [h,h2,h3]
   have ht:tB= !((sec==0)&&(base==0)):=by
    rw [HT.out];unfold hasTime
    by_cases h:sec=0<;>by_cases h2:base=0<;>simp [h,h2]
   have e1:month=1∨(month==1)=false:=by
    by_cases h:month=1
    ·exact .inl h
    ·exact .inr (by simpa using h)
   have e2:(kk=0∧wk=0∧dd=1)∨(kk==0)=false∨(kk=0∧(wk==0)=false)∨(kk=0∧wk=0∧(dd==1)=false):=by
    by_cases h:kk=0
    ·by_cases h2:wk=0
     ·by_cases h3:dd=1
      ·exact .inl ⟨h,h2,h3⟩
      ·exact .inr (.inr (.inr ⟨h,h2,by simpa using h3⟩))
     ·exact .inr (.inr (.inl ⟨h,by simpa using h2⟩))
    ·exact .inr (.inl (by simpa using h))
   have e3:(sec=0∧base=0)∨(sec==0)=false∨(sec=0∧(base==0)=false):=by
    by_cases h:sec=0
    ·by_cases h2:base=0
     ·exact .inl ⟨h,h2⟩
     ·exact .inr (.inr ⟨h,by simpa using h2⟩)
    ·exact .inr (.inl (by simpa using h))
   have H1:=kj hm;have H2:=kj hd;have H3:=kj ht;clear hm hd ht;rcases e1 with rfl|e1
   all_goals rcases e2 with ⟨rfl,rfl,rfl⟩|e2|⟨rfl,e2⟩|⟨rfl,rfl,e2⟩
   all_goals rcases e3 with ⟨rfl,rfl⟩|e3|⟨rfl,e3⟩
   all_goals
    go_quiet (fail)
    go_wp2;go_meet;refine ⟨?_,?_,?_,bcq⟩
    ·rw [H1.out];first|rfl|(rw [e1];rfl)
    ·rw [H2.out];first|rfl|(rw [e2];rfl)
    ·rw [H3.out];first|rfl|(rw [e3];rfl)
  case rest=>
   obtain ⟨rfl,rfl,rfl,hcb⟩:=hcut;have hbc:=hb8.trans (hcb.mono hb8.size);have HOc:=kj (RBk.own_lat HO8.out hcb);have Bc:=B8.later hcb;have hsc:=hbc.size;have lBc:=Bc.lt;have cBc:=Bc.cell;clear HO8 B8 c8;cases tB with
   |true=>
    cases mB
    all_goals cases dB
    all_goals
     have hU:[X0,X1,format]++untilF ⟨true,year,month,kk,wk,dd,sec,base⟩=[X0,X1,format,ofL (textN year),textM month,textOn ⟨kk,wk,dd⟩,textAt ⟨sec,base⟩]:=by
      unfold untilF;rw [← HD.out, ←HT.out, ←HM.out];rfl
     go_wp2_with (first
      |(go_at_call 202;refine (CM.out _).mono ?_;rintro e w9 ⟨rfl,hb9⟩;have HO9:=kj (RBk.own_lat HOc.out hb9);have B9:=Bc.later hb9;have hs9:=hb9.size;have lB9:=B9.lt;have cB9:=B9.cell)
      |((at_builtin;refine wpList_append_own _ rfl _ _ 193 rfl (w.heap.size) 9 i0 _ 1 16 underlying193 HI.out HZ0.out HZ1.out HZ2.out rfl (by decide) _ _ _ rfl (World.ownsRow.alloc HO9.out _) ⟨_,0,none⟩ 1 1 [.string (textM month)] rfl rfl (cell_one_at (by simp)) (by simp [Value.oneCell']) (by unfold maxLen;omega) (by omega) (by simp;omega) ?_;intro v10 w10 hown10 hgrow10 _);have hOA10:=World.ownsRow.alloc HO9.out (.cells #[.string (textM month)] 9);have B10:=box_grown B9.old hOA10 hgrow10 (by decide);have HO10:Hid (OwnR w10 w.heap.size v10 5 [X0,X1,format,ofL (textN year),textM month]):=hown10;have hb10:Below w.heap.size w w10:=Below.grown (ba (hbc.trans (hb9.mono (by omega)))) hgrow10 (by simp;omega) (fun j hj=>(hOA10.lt j hj).1);have hs10:=hb10.size;have lB10:=B10.lt;have cB10:=B10.cell;clear hOA10 hown10 hgrow10)
      |(go_at_call 198;refine (CD.out _).mono ?_;rintro e w11 ⟨rfl,hb11⟩;have HO11:=kj (RBk.own_lat HO10.out hb11);have B11:=B10.later hb11;have hs11:=hb11.size;have lB11:=B11.lt;have cB11:=B11.cell)
      |((at_builtin;refine wpList_append_own _ rfl _ _ 193 rfl (w.heap.size) 9 i0 _ 1 16 underlying193 HI.out HZ0.out HZ1.out HZ2.out rfl (by decide) _ _ _ rfl (World.ownsRow.alloc HO11.out _) ⟨_,0,none⟩ 1 1 [.string (textOn ⟨kk,wk,dd⟩)] rfl rfl (cell_one_at (by simp)) (by simp [Value.oneCell']) (by unfold maxLen;omega) (by omega) (by simp;omega) ?_;intro v12 w12 hown12 hgrow12 _);have hOA12:=World.ownsRow.alloc HO11.out (.cells #[.string (textOn ⟨kk,wk,dd⟩)] 9);have B12:=box_grown B11.old hOA12 hgrow12 (by decide);have HO12:Hid (OwnR w12 w.heap.size v12 6 [X0,X1,format,ofL (textN year),textM month,textOn ⟨kk,wk,dd⟩]):=hown12;have hb12:Below w.heap.size w w12:=Below.grown (ba (hb10.trans (hb11.mono (by omega)))) hgrow12 (by simp;omega) (fun j hj=>(hOA12.lt j hj).1);have hs12:=hb12.size;have lB12:=B12.lt;have cB12:=B12.cell;clear hOA12 hown12 hgrow12)
      |(go_at_call 199;refine (CT.out _).mono ?_;rintro e w13 ⟨rfl,hb13⟩;have HO13:=kj (RBk.own_lat HO12.out hb13);have B13:=B12.later hb13;have hs13:=hb13.size;have lB13:=B13.lt;have cB13:=B13.cell)
      |((at_builtin;refine wpList_append_own _ rfl _ _ 193 rfl (w.heap.size) 9 i0 _ 1 16 underlying193 HI.out HZ0.out HZ1.out HZ2.out rfl (by decide) _ _ _ rfl (World.ownsRow.alloc HO13.out _) ⟨_,0,none⟩ 1 1 [.string (textAt ⟨sec,base⟩)] rfl rfl (cell_one_at (by simp)) (by simp [Value.oneCell']) (by unfold maxLen;omega) (by omega) (by simp;omega) ?_;intro v14 w14 hown14 hgrow14 _);have hOA14:=World.ownsRow.alloc HO13.out (.cells #[.string (textAt ⟨sec,base⟩)] 9);have B14:=box_grown B13.old hOA14 hgrow14 (by decide);have HO14:Hid (OwnR w14 w.heap.size v14 7 [X0,X1,format,ofL (textN year),textM month,textOn ⟨kk,wk,dd⟩,textAt ⟨sec,base⟩]):=hown14;have hb14:Below w.heap.size w w14:=Below.grown (ba (hb12.trans (hb13.mono (by omega)))) hgrow14 (by simp;omega) (fun j hj=>(hOA14.lt j hj).1);have hs14:=hb14.size;have lB14:=B14.lt;have cB14:=B14.cell;clear hOA14 hown14 hgrow14))
     go_ret2;refine ⟨_,rfl,?_,hb14⟩;show HoldsS _ _ ([X0,X1,format]++untilF ⟨true,year,month,kk,wk,dd,sec,base⟩);rw [hU];exact HoldsS.of_own (OwnR.s HO14.out)
   |false=>
    cases dB with
    |true=>
     cases mB
     all_goals
      have hU:[X0,X1,format]++untilF ⟨true,year,month,kk,wk,dd,sec,base⟩=[X0,X1,format,ofL (textN year),textM month,textOn ⟨kk,wk,dd⟩]:=by
       unfold untilF;rw [← HD.out, ←HT.out, ←HM.out];rfl
      go_wp2_with (first
       |(go_at_call 202;refine (CM.out _).mono ?_;rintro e w9 ⟨rfl,hb9⟩;have HO9:=kj (RBk.own_lat HOc.out hb9);have B9:=Bc.later hb9;have hs9:=hb9.size;have lB9:=B9.lt;have cB9:=B9.cell)
       |((at_builtin;refine wpList_append_own _ rfl _ _ 193 rfl (w.heap.size) 9 i0 _ 1 16 underlying193 HI.out HZ0.out HZ1.out HZ2.out rfl (by decide) _ _ _ rfl (World.ownsRow.alloc HO9.out _) ⟨_,0,none⟩ 1 1 [.string (textM month)] rfl rfl (cell_one_at (by simp)) (by simp [Value.oneCell']) (by unfold maxLen;omega) (by omega) (by simp;omega) ?_;intro v10 w10 hown10 hgrow10 _);have hOA10:=World.ownsRow.alloc HO9.out (.cells #[.string (textM month)] 9);have B10:=box_grown B9.old hOA10 hgrow10 (by decide);have HO10:Hid (OwnR w10 w.heap.size v10 5 [X0,X1,format,ofL (textN year),textM month]):=hown10;have hb10:Below w.heap.size w w10:=Below.grown (ba (hbc.trans (hb9.mono (by omega)))) hgrow10 (by simp;omega) (fun j hj=>(hOA10.lt j hj).1);have hs10:=hb10.size;have lB10:=B10.lt;have cB10:=B10.cell;clear hOA10 hown10 hgrow10)
       |(go_at_call 198;refine (CD.out _).mono ?_;rintro e w11 ⟨rfl,hb11⟩;have HO11:=kj (RBk.own_lat HO10.out hb11);have B11:=B10.later hb11;have hs11:=hb11.size;have lB11:=B11.lt;have cB11:=B11.cell)
       |((at_builtin;refine wpList_append_own _ rfl _ _ 193 rfl (w.heap.size) 9 i0 _ 1 16 underlying193 HI.out HZ0.out HZ1.out HZ2.out rfl (by decide) _ _ _ rfl (World.ownsRow.alloc HO11.out _) ⟨_,0,none⟩ 1 1 [.string (textOn ⟨kk,wk,dd⟩)] rfl rfl (cell_one_at (by simp)) (by simp [Value.oneCell']) (by unfold maxLen;omega) (by omega) (by simp;omega) ?_;intro v12 w12 hown12 hgrow12 _);have hOA12:=World.ownsRow.alloc HO11.out (.cells #[.string (textOn ⟨kk,wk,dd⟩)] 9);have B12:=box_grown B11.old hOA12 hgrow12 (by decide);have HO12:Hid (OwnR w12 w.heap.size v12 6 [X0,X1,format,ofL (textN year),textM month,textOn ⟨kk,wk,dd⟩]):=hown12;have hb12:Below w.heap.size w w12:=Below.grown (ba (hb10.trans (hb11.mono (by omega)))) hgrow12 (by simp;omega) (fun j hj=>(hOA12.lt j hj).1);have hs12:=hb12.size;have lB12:=B12.lt;have cB12:=B12.cell;clear hOA12 hown12 hgrow12))
      go_ret2;refine ⟨_,rfl,?_,hb12⟩;show HoldsS _ _ ([X0,X1,format]++untilF ⟨true,year,month,kk,wk,dd,sec,base⟩);rw [hU];exact HoldsS.of_own (OwnR.s HO12.out)
    |false=>
     cases mB with
     |true=>
      have hU:[X0,X1,format]++untilF ⟨true,year,month,kk,wk,dd,sec,base⟩=[X0,X1,format,ofL (textN year),textM month]:=by
       unfold untilF;rw [← HD.out, ←HT.out, ←HM.out];rfl
      go_wp2_with (first
       |(go_at_call 202;refine (CM.out _).mono ?_;rintro e w9 ⟨rfl,hb9⟩;have HO9:=kj (RBk.own_lat HOc.out hb9);have B9:=Bc.later hb9;have hs9:=hb9.size;have lB9:=B9.lt;have cB9:=B9.cell)
       |((at_builtin;refine wpList_append_own _ rfl _ _ 193 rfl (w.heap.size) 9 i0 _ 1 16 underlying193 HI.out HZ0.out HZ1.out HZ2.out rfl (by decide) _ _ _ rfl (World.ownsRow.alloc HO9.out _) ⟨_,0,none⟩ 1 1 [.string (textM month)] rfl rfl (cell_one_at (by simp)) (by simp [Value.oneCell']) (by unfold maxLen;omega) (by omega) (by simp;omega) ?_;intro v10 w10 hown10 hgrow10 _);have hOA10:=World.ownsRow.alloc HO9.out (.cells #[.string (textM month)] 9);have B10:=box_grown B9.old hOA10 hgrow10 (by decide);have HO10:Hid (OwnR w10 w.heap.size v10 5 [X0,X1,format,ofL (textN year),textM month]):=hown10;have hb10:Below w.heap.size w w10:=Below.grown (ba (hbc.trans (hb9.mono (by omega)))) hgrow10 (by simp;omega) (fun j hj=>(hOA10.lt j hj).1);have hs10:=hb10.size;have lB10:=B10.lt;have cB10:=B10.cell;clear hOA10 hown10 hgrow10))
      go_ret2;refine ⟨_,rfl,?_,hb10⟩;show HoldsS _ _ ([X0,X1,format]++untilF ⟨true,year,month,kk,wk,dd,sec,base⟩);rw [hU];exact HoldsS.of_own (OwnR.s HO10.out)
     |false=>
      have hU:[X0,X1,format]++untilF ⟨true,year,month,kk,wk,dd,sec,base⟩=[X0,X1,format,ofL (textN year)]:=by
       unfold untilF;rw [← HD.out, ←HT.out, ←HM.out];rfl
      go_wp2;go_ret2;refine ⟨_,rfl,?_,hbc⟩;show HoldsS _ _ ([X0,X1,format]++untilF ⟨true,year,month,kk,wk,dd,sec,base⟩);rw [hU];exact HoldsS.of_own (OwnR.s HOc.out)
end RRe
end
section
open Go.RowKit NB
namespace RWr
open Rd Eqs
def lineB (a:ByteArray) (l:List ByteArray):Bs:=a.data.toList++32 :: (joinB l++[10])
theorem line {w:World} {v:Value} {l:List ByteArray} (h:HoldsS w v l) (h0:l≠[]) (hl:l.length≤16) (hc:∀ s∈l,CleanB 64 s) (a:ByteArray) (ha:a.size≤1000):
 Calls prog 146 #[.string a,v] w fun e w'=>e=.returned (.string (ofL (lineB a l)))∧w=w':=by
 have cj:=RLi.Join h h0 hl (fun x hx=>⟨(hc x hx).1,Nat.le_trans (hc x hx).2 (by decide)⟩);have hlen:=join_len (lists l) 64 (fun b hb=>by
  obtain ⟨s,hs,rfl⟩:=List.mem_map.1 hb;have:=(hc s hs).2;rw [len_list];exact this)
 have hll:(lists l).length=l.length:=by unfold lists;rw [List.length_map]
 rw [hll] at hlen;have hJ:(ofL (joinF (l.map fun s=>s.data.toList))).size≤2000:=by
  rw [ofL_size];have:(joinF (lists l)).length≤16*65:=Nat.le_trans hlen (Nat.mul_le_mul_right _ hl);exact Nat.le_trans this (by decide)
 have hR:ofL (lineB a l)=a++⟨#[32]⟩++ofL (joinF (l.map fun s=>s.data.toList))++⟨#[10]⟩:=by
  rw [← ofL_self a,show (⟨#[32]⟩:ByteArray)=ofL [32] from rfl,show (⟨#[10]⟩:ByteArray)=ofL [10] from rfl,ofL_app,ofL_app,ofL_app];unfold lineB joinB lists;rw [ofL_self];simp
 rw [hR];generalize ofL (joinF (l.map fun s=>s.data.toList))=J at *;have z1:(a++⟨#[32]⟩).size=a.size+1:=ByteArray.size_append;have z2:(a++⟨#[32]⟩++J).size=(a++⟨#[32]⟩).size+J.size:=ByteArray.size_append;have cat1:=fun W=>run_string_add_sum (P:=prog) W a ⟨#[32]⟩ (by show _+1≤_;omega);have cat2:=fun W=>run_string_add_sum (P:=prog) W (a++⟨#[32]⟩) J (by omega);have cat3:=fun W=>run_string_add_sum (P:=prog) W (a++⟨#[32]⟩++J) ⟨#[10]⟩ (by show _+1≤_;omega);have t1:¬(9223372036854775807<a.size+(⟨#[32]⟩:ByteArray).size):=by show ¬(_ < _+1);omega
 have t2:¬(9223372036854775807<(a++⟨#[32]⟩).size+J.size):=by omega
 have t3:¬(9223372036854775807<(a++⟨#[32]⟩++J).size+(⟨#[10]⟩:ByteArray).size):=by show ¬(_ < _+1);omega
 obtain ⟨p,cap,e1,_⟩:=h.pk1;have CJ:=kj cj;clear cj hlen hll hc hR z1 z2 h0 h;subst e1;go_enter func146,ntmps146
 go_wp2_with (go_at_call 203;(with_reducible refine (CJ.out).mono ?_);rintro e w' ⟨rfl,rfl⟩)
 go_ret;exact ⟨rfl,rfl⟩
def zoneL (z:ZoneV):List Ln:=match z.es with
 | []=>[]
 |e :: r=>.zone z.name e :: r.map .more
def tabL (t:TabV):List Ln:=t.rs.map .rule++(t.zs.flatMap zoneL++t.ls.map .link)
theorem join_first (a:Bs) {l:List Bs} (h:l≠[]):joinF (a :: l)=a++32 :: joinF l:=by
 cases l with
 |nil=>exact absurd rfl h
 |cons b r=>rfl
theorem line_rule (r:RuleV):lineB ruleW (fieldsR r)=(Ln.rule r).bytes++[10]:=by
 show _=joinF (ruleW.data.toList :: lists (fieldsR r))++[10];rw [join_first _ (by simp [lists,fieldsR])];unfold lineB joinB;simp
theorem line_link (x:LinkV):lineB linkW (fieldsK x)=(Ln.link x).bytes++[10]:=by
 show _=joinF (linkW.data.toList :: lists (fieldsK x))++[10];rw [join_first _ (by simp [lists,fieldsK])];unfold lineB joinB;simp
theorem fieldsE_ne (e:EraV):lists (fieldsE e)≠[]:=by simp [lists,fieldsE]
theorem line_more (e:EraV):lineB ⟨#[]⟩ (fieldsE e)=(Ln.more e).bytes++[10]:=by
 unfold lineB;show []++_=(32 :: joinB (fieldsE e))++[10];simp
theorem line_zone (n:ByteArray) (e:EraV):lineB (⟨#[90,111,110,101,32]⟩++n) (fieldsE e)=(Ln.zone n e).bytes++[10]:=by
 show _=joinF (zoneW.data.toList :: n.data.toList :: lists (fieldsE e))++[10];rw [join_first _ (by simp),join_first _ (fieldsE_ne e)];have:(⟨#[90,111,110,101,32]⟩++n:ByteArray).data.toList=[90,111,110,101,32]++n.data.toList:=by simp
 unfold lineB joinB;rw [this];simp [zoneW]
theorem src_snoc (P:List Ln) (x:Ln):ofL (srcB P)++ofL (x.bytes++[10])=ofL (srcB (P++[x])):=by
 rw [ofL_app];unfold srcB;rw [List.flatMap_append];simp
theorem bytes_size {x:Ln} (h:x.right=true):(ofL (x.bytes++[10])).size≤512:=by
 rw [ofL_size,List.length_append];have:=Ln.short h;simp;omega
end RWr
end
end Go.Proofs.YtgmfojgnjdpofaaGreatDoor
