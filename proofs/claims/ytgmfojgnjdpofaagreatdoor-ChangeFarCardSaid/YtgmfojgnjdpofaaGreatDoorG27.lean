import Derived.Test.YtgmfojgnjdpofaaGreatDoorG25
import Derived.Test.YtgmfojgnjdpofaaGreatDoorG26
import Derived.Test.YtgmfojgnjdpofaaGreatDoorG14
import Derived.Test.YtgmfojgnjdpofaaGreatDoorG15
import Derived.Test.YtgmfojgnjdpofaaGreatDoorG12
import Derived.Test.YtgmfojgnjdpofaaGreatDoorG13
import Derived.Test.YtgmfojgnjdpofaaGreatDoorG4
import Derived.Test.YtgmfojgnjdpofaaGreatDoorG22
import Derived.Test.YtgmfojgnjdpofaaGreatDoorG5
namespace Go.Proofs.YtgmfojgnjdpofaaGreatDoor
section
open Go.RowKit NB
namespace RdR
open Rd RWr
def Sm (a b:List ZoneV):Prop:=a.map (fun z=>(z.name,z.es))=b.map (fun z=>(z.name,z.es))
theorem Sm.snoc {a b:List ZoneV} {x y:ZoneV} (h:Sm a b) (h1:x.name=y.name) (h2:x.es=y.es):Sm (a++[x]) (b++[y]):=by
 unfold Sm at *
 rw [List.map_append,List.map_append,h]
 simp [h1,h2]
theorem Sm.len {a b:List ZoneV} (h:Sm a b):a.length=b.length:=by
 have:=congrArg List.length h
 simpa using this
inductive St (t:TabV) (B p:Nat):World→Nat→List Ln→Prop where
 |a {W:World} {rs1 rs2:List RuleV} (hP:P1 W B p rs1) (hr:t.rs=rs1++rs2):St t B p W rs1.length (rs2.map .rule++(t.zs.flatMap zoneL++t.ls.map .link))
 |b {W:World} {F:Nat} {zs0 zs1 zs2:List ZoneV} {z:ZoneV} {v:Value} {ed more:List EraV} {es:List RowN} {y:RowN} {o:Int} {rv lv zv ev:Value} (hP:P2 W B F p t.rs (zs1++[⟨z.name,v,ed⟩]) (es++[y]) o rv lv zv ev)
    (hz:t.zs=zs0++z :: zs2) (hs:Sm zs1 zs0) (he:z.es=ed++more) (h0:ed≠[]) (ho:more≠[]→0<o) (ho2:more=[]→o=0) (hw:(es++[y]).map RowN.ns=Ck.upE t.rs.length (zs1++[⟨z.name,v,ed⟩])) (hl:es.length=zs1.length):
    St t B p W (t.rs.length+Ck.sumE (zs1++[⟨z.name,v,ed⟩])) (more.map .more++(zs2.flatMap zoneL++t.ls.map .link))
 |c {W:World} {F:Nat} {zs1:List ZoneV} {es:List RowN} {ls1 ls2:List LinkV} {ns:List Int} {rv lv zv ev kv nv:Value} (hP:P3 W B F p t.rs zs1 es ls1 ns rv lv zv ev kv nv) (hs:Sm zs1 t.zs) (hk:t.ls=ls1++ls2)
    (hw:es.map RowN.ns=Ck.upE t.rs.length zs1) (hn:ns=Ck.up (t.rs.length+Ck.sumE zs1) ls1.length):St t B p W (t.rs.length+Ck.sumE zs1+ls1.length) (ls2.map .link)
structure Fine1 (t:TabV):Prop where
 r:rightT t=true
 rf:∀ r∈t.rs,r.Fit
 lf:∀ l∈t.ls,l.Fit
 l1:t.rs.length≤12
 l2:t.zs.length≤10
 l3:t.ls.length≤16
 l4:∀ z∈t.zs,z.es.length≤12
theorem Fine1.parts {t:TabV} (h:Fine1 t):(∀ r∈t.rs,Rul.right r=true)∧(∀ z∈t.zs,zoneOk z=true)∧(∀ l∈t.ls,rightK l=true):=by
 have:=h.r
 unfold rightT at this
 rw [Bool.and_eq_true,Bool.and_eq_true,List.all_eq_true,List.all_eq_true,List.all_eq_true] at this
 exact this
abbrev Post (t:TabV) (B p:Nat) (W:World) (k:Nat) (rest:List Ln) (e:Ending) (w':World):Prop:=e= .returned (.int .i64 0)∧St t B p w' (k+1) rest∧Fr B p W w'
theorem has_of {z:ZoneV} (h:zoneOk z=true) {ed more:List EraV} {e:EraV} (he:z.es=ed++e :: more):e.u.has=decide (more≠[]):=by
 unfold zoneOk at h
 rw [Bool.and_eq_true] at h
 obtain ⟨_,h1⟩:=Zn.zone_iff.1 h.2
 have hat:z.es[ed.length]? =some e:=by rw [he];simp
 have:=h1 ed.length e (List.getElem?_eq_some_iff.1 hat).1 hat
 unfold Zn.okAt at this
 have:=(Bool.and_eq_true_iff.1 this).2
 rw [beq_iff_eq] at this
 dsimp only at this
 rw [this]
 have hlen:z.es.length=ed.length+(more.length+1):=by rw [he];simp
 rw [hlen]
 cases more with
 |nil=>simp
 |cons a b=>simp
theorem stepZone {t:TabV} (hf:Fine1 t) {W:World} {B F p:Nat} {zs0 zs1 zs2:List ZoneV} {z:ZoneV} {es:List RowN} {rv lv zv ev:Value} (hP:P2 W B F p t.rs zs1 es 0 rv lv zv ev) (hpB:p<B) (hz:t.zs=zs0++z :: zs2) (hs:Sm zs1 zs0)
 (hw:es.map RowN.ns=Ck.upE t.rs.length zs1) (hl:es.length=zs1.length) {k:Nat} (hk:k=t.rs.length+Ck.sumE zs1) (hk2:k≤100000) {e:EraV} {more:List EraV} (he:z.es=e :: more):
 Calls Tryz.prog 206 #[.pointer (some ⟨p,0,none⟩),.string (ofL (Ln.zone z.name e).bytes),.int .i64 ((k:Int)+1)] W (Post t B p W k (more.map .more++(zs2.flatMap zoneL++t.ls.map .link))):=by
 obtain ⟨_,hzo,_⟩:=hf.parts
 have hzm:z∈t.zs:=by rw [hz];simp
 obtain ⟨rn,_,re⟩:=zone_rights (hzo z hzm)
 have hz0:zs1.length≤100:=by
  have h1:=hf.l2
  rw [hz,List.length_append] at h1
  have:=hs.len
  omega
 refine (lineZone hP hpB hl hz0 z.name rn e (re e (by rw [he];simp)) ((k:Int)+1) (by omega) (by omega) _ rfl).mono ?_
 rintro y w' ⟨rfl,⟨F',v',u',zv',ev',h9⟩,hfr⟩
 refine ⟨rfl,?_,hfr⟩
 have hh:=has_of (hzo z hzm) (ed:=[]) (e:=e) (more:=more) he
 have:=St.b (t:=t) (more:=more) (ed:=[e]) h9 hz hs (by rw [he];rfl) (by simp) (fun h=>by rw [hh,decide_eq_true h,if_pos rfl];omega) (fun h=>by rw [hh,h];rfl) (by
  rw [List.map_append,hw,Ck.upE_snoc]
  congr 1
  show [[(k:Int)+1]]=[Ck.up (t.rs.length+Ck.sumE zs1) 1]
  rw [← hk,Ck.up_succ,Ck.up_zero]
  rfl) hl
 have hs2:=Ck.sumE_snoc zs1 (⟨z.name,v',[e]⟩:ZoneV)
 have e1:k+1=t.rs.length+Ck.sumE (zs1++[(⟨z.name,v',[e]⟩:ZoneV)]):=by rw [hs2,hk];rfl
 rw [e1]
 exact this
theorem stepLink {t:TabV} (hf:Fine1 t) {W:World} {B F p:Nat} {zs1:List ZoneV} {es:List RowN} {ls1 ls2:List LinkV} {ns:List Int} {rv lv zv ev kv nv:Value} {x:LinkV} (hP:P3 W B F p t.rs zs1 es ls1 ns rv lv zv ev kv nv) (hpB:p<B) (hs:Sm zs1 t.zs) (hx:t.ls=ls1++x :: ls2)
 (hw:es.map RowN.ns=Ck.upE t.rs.length zs1) (hn:ns=Ck.up (t.rs.length+Ck.sumE zs1) ls1.length) {k:Nat} (hk:k=t.rs.length+Ck.sumE zs1+ls1.length):
 Calls Tryz.prog 206 #[.pointer (some ⟨p,0,none⟩),.string (ofL (Ln.link x).bytes),.int .i64 ((k:Int)+1)] W (Post t B p W k (ls2.map .link)):=by
 obtain ⟨_,_,hlo⟩:=hf.parts
 have hxm:x∈t.ls:=by rw [hx];simp
 have hl1:ls1.length≤1000:=by
  have h1:=hf.l3
  rw [hx,List.length_append] at h1
  omega
 refine (lineLink hP hpB hl1 x (hf.lf x hxm) (hlo x hxm) ((k:Int)+1)).mono ?_
 rintro y w' ⟨rfl,⟨kv',nv',h9⟩,hfr⟩
 refine ⟨rfl,?_,hfr⟩
 have:=St.c (t:=t) (ls2:=ls2) h9 hs (by rw [hx];simp) hw (by
  rw [hn,List.length_append,List.length_singleton,Ck.up_succ,hk]
  rfl)
 have e1:k+1=t.rs.length+Ck.sumE zs1+(ls1++[x]).length:=by rw [hk,List.length_append];rfl
 rw [e1]
 exact this
theorem step {t:TabV} (hf:Fine1 t) {W:World} {B p k:Nat} {x:Ln} {rest:List Ln} (hpB:p<B) (hBW:B≤W.heap.size) (hk:k≤100000) (h:St t B p W k (x :: rest)):
 Calls Tryz.prog 206 #[.pointer (some ⟨p,0,none⟩),.string (ofL x.bytes),.int .i64 ((k:Int)+1)] W (Post t B p W k rest):=by
 obtain ⟨hro,hzo,hlo⟩:=hf.parts
 have zone_next:∀ {F:Nat} {zs0 zs1:List ZoneV} {es:List RowN} {rv lv zv ev:Value} {zs2:List ZoneV},P2 W B F p t.rs zs1 es 0 rv lv zv ev→t.zs=zs0++zs2→Sm zs1 zs0→es.map RowN.ns=Ck.upE t.rs.length zs1→es.length=zs1.length→k=t.rs.length+Ck.sumE zs1→x :: rest=zs2.flatMap zoneL++t.ls.map .link→
  Calls Tryz.prog 206 #[.pointer (some ⟨p,0,none⟩),.string (ofL x.bytes),.int .i64 ((k:Int)+1)] W (Post t B p W k rest):=by
  intro F zs0 zs1 es rv lv zv ev zs2 hP hz hs hw hl hk2 hL
  cases zs2 with
  |nil=>
   rw [List.flatMap_nil,List.nil_append] at hL
   rw [List.append_nil] at hz
   cases hls:t.ls with
   |nil=>rw [hls] at hL;cases hL
   |cons l ls2=>
    rw [hls,List.map_cons] at hL
    cases hL
    have hs':Sm zs1 t.zs:=by rw [hz];exact hs
    exact stepLink hf (hP.to3) hpB hs' (ls1:=[]) (ls2:=ls2) (by rw [hls];rfl) hw rfl hk2
  |cons z zs2=>
   have hzm:z∈t.zs:=by rw [hz];simp
   obtain ⟨_,h0,_⟩:=zone_rights (hzo z hzm)
   cases he:z.es with
   |nil=>rw [he] at h0;cases h0
   |cons e more=>
    have hzl:zoneL z= .zone z.name e :: more.map .more:=by unfold zoneL;rw [he]
    rw [List.flatMap_cons,hzl,List.cons_append,List.cons_append,List.append_assoc] at hL
    cases hL
    exact stepZone hf hP hpB hz hs hw hl hk2 hk he
 generalize hL:x :: rest=L at h
 cases h with
 | @a rs1 rs2 hP hr=>
   cases rs2 with
   |nil=>
    rw [List.append_nil] at hr
    subst hr
    obtain ⟨rv,lv,h2⟩:=hP.to2 hBW
    exact zone_next (zs0:=[]) h2 rfl rfl rfl rfl rfl hL
   |cons r rs2=>
    rw [List.map_cons,List.cons_append] at hL
    cases hL
    have hrm:r∈t.rs:=by rw [hr];simp
    have hl1:rs1.length≤1000:=by
     have h1:=hf.l1
     rw [hr,List.length_append] at h1
     omega
    refine (lineRule hP hpB hBW hl1 r (hf.rf r hrm) (hro r hrm)).mono ?_
    rintro y w' ⟨rfl,h9,hfr⟩
    refine ⟨rfl,?_,hfr⟩
    have:=St.a (t:=t) (rs2:=rs2) h9 (by rw [hr];simp)
    rw [List.length_append,List.length_singleton] at this
    exact this
 | @b F zs0 zs1 zs2 z v ed more es y o rv lv zv ev hP hz hs he h0 ho ho2 hw hl=>
   cases more with
   |nil=>
    rw [List.map_nil,List.nil_append] at hL
    have ho3:=ho2 rfl
    subst ho3
    rw [List.append_nil] at he
    refine zone_next (zs0:=zs0++[z]) (zs2:=zs2) hP (by rw [hz];simp) (hs.snoc rfl he.symm) hw (by rw [List.length_append,List.length_append,hl];rfl) rfl hL
   |cons e more=>
    rw [List.map_cons,List.cons_append] at hL
    cases hL
    have hzm:z∈t.zs:=by rw [hz];simp
    obtain ⟨_,_,re⟩:=zone_rights (hzo z hzm)
    have hl4:=hf.l4 z hzm
    have hed:ed.length+(more.length+1)=z.es.length:=by rw [he];simp
    have hz0:zs1.length≤1000:=by
     have h1:=hf.l2
     rw [hz,List.length_append] at h1
     have:=hs.len
     omega
    have hy:y.ns=Ck.up (t.rs.length+Ck.sumE zs1) ed.length:=by
     rw [List.map_append,Ck.upE_snoc] at hw
     have:=List.append_inj_right' hw (by simp)
     simpa using this
    refine (lineMore hP hpB (ho (by simp)) hz0 (by omega) (by show ed.length≤100;omega) (by rw [hy,Ck.up_len];omega) e (re e (by rw [he];simp)) (((t.rs.length+Ck.sumE (zs1++[(⟨z.name,v,ed⟩:ZoneV)]):Nat):Int)+1) (by omega) (by omega) _ rfl).mono ?_
    rintro y' w' ⟨rfl,⟨v',u',h9⟩,hfr⟩
    refine ⟨rfl,?_,hfr⟩
    have hh:=has_of (hzo z hzm) he
    have hsum:=Ck.sumE_snoc zs1 (⟨z.name,v,ed⟩:ZoneV)
    have hsum2:=Ck.sumE_snoc zs1 (⟨z.name,v',ed++[e]⟩:ZoneV)
    have hlen2:(⟨z.name,v',ed++[e]⟩:ZoneV).es.length=ed.length+1:=by simp
    have hlen1:(⟨z.name,v,ed⟩:ZoneV).es.length=ed.length:=rfl
    have:=St.b (t:=t) (z:=z) (more:=more) (ed:=ed++[e]) h9 hz hs (by rw [he];simp) (by simp) (fun h=>by rw [hh,decide_eq_true h,if_pos rfl];omega) (fun h=>by rw [hh,h];rfl) (by
     rw [List.map_append,Ck.upE_snoc,hlen2,Ck.up_succ]
     rw [List.map_append,Ck.upE_snoc] at hw
     have h1:=List.append_inj_left' hw (by simp)
     rw [h1]
     congr 1
     show [y.ns++[_]]=_
     rw [hy,hsum,hlen1]
     congr 3
     omega) hl
    have e1:t.rs.length+Ck.sumE (zs1++[(⟨z.name,v,ed⟩:ZoneV)])+1=t.rs.length+Ck.sumE (zs1++[(⟨z.name,v',ed++[e]⟩:ZoneV)]):=by rw [hsum,hsum2,hlen1,hlen2];omega
    rw [e1]
    exact this
 | @c F zs1 es ls1 ls2 ns rv lv zv ev kv nv hP hs hk2 hw hn=>
   cases ls2 with
   |nil=>cases hL
   |cons l ls2=>
    rw [List.map_cons] at hL
    cases hL
    exact stepLink hf hP hpB hs hk2 hw hn rfl
end RdR
end
section
open Go.RowKit NB
namespace Ck
def bare (z:ZoneV):ZoneV:=⟨z.name,.slice none 0 0,z.es⟩
theorem sm_bare {a b:List ZoneV} (h:RdR.Sm a b):a.map bare=b.map bare:=by
 have e:∀ l:List ZoneV,l.map bare=(l.map (fun z=>(z.name,z.es))).map (fun p=>(⟨p.1,.slice none 0 0,p.2⟩:ZoneV)):=fun l=>by rw [List.map_map];rfl
 rw [e,e,h]
theorem whereB_bare (n:Nat) (zs:List ZoneV) (k:Nat) (rs:List Int) (es:List (List Int)) (ls:List Int):whereB n (zs.map bare) k rs es ls=whereB n zs k rs es ls:=by
 unfold whereB
 rw [List.length_map,List.zip_map_left,List.all_map]
 rfl
theorem zoneFs_bare (l:List RuleV) (zs:List ZoneV) (ns:List (List Int)):zoneFs l (zs.map bare) ns=zoneFs l zs ns:=by
 unfold zoneFs
 rw [List.zipIdx_map,List.flatMap_map]
 congr 1
 funext p
 obtain ⟨z,i⟩:=p
 show eraFs l (((zs.map bare).take i).map ZoneV.name) _ _ _=_
 rw [← List.map_take,List.map_map]
 rfl
theorem chk_bare (l:List RuleV) (zs:List ZoneV) (ls:List LinkV) (rs:List Int) (es:List (List Int)) (ns:List Int):chk l (zs.map bare) ls rs es ns=chk l zs ls rs es ns:=by
 unfold chk all
 rw [whereB_bare,zoneFs_bare,List.map_map]
 rfl
theorem chk_sm {a b:List ZoneV} (h:RdR.Sm a b) (l:List RuleV) (ls:List LinkV) (rs:List Int) (es:List (List Int)) (ns:List Int):chk l a ls rs es ns=chk l b ls rs es ns:=by
 rw [← chk_bare l a,sm_bare h,chk_bare]
theorem sumE_bare:∀ zs:List ZoneV,sumE (zs.map bare)=sumE zs
 | []=>rfl
 |z :: r=>by
  show z.es.length+sumE (r.map bare)=z.es.length+sumE r
  rw [sumE_bare r]
theorem upE_bare:∀ (m:Nat) (zs:List ZoneV),upE m (zs.map bare)=upE m zs
 |_,[]=>rfl
 |m,z :: r=>by
  show up m z.es.length :: upE (m+z.es.length) (r.map bare)=up m z.es.length :: upE (m+z.es.length) r
  rw [upE_bare]
noncomputable def wrong (t:TabV):Fault:=chk t.rs t.zs t.ls (up 0 t.rs.length) (upE t.rs.length t.zs) (up (t.rs.length+sumE t.zs) t.ls.length)
theorem wrong_sm {t:TabV} {a:List ZoneV} (h:RdR.Sm a t.zs):chk t.rs a t.ls (up 0 t.rs.length) (upE t.rs.length a) (up (t.rs.length+sumE a) t.ls.length)=wrong t:=by
 unfold wrong
 rw [chk_sm h, ←upE_bare _ a, ←sumE_bare a,sm_bare h,upE_bare,sumE_bare]
noncomputable def fitsT (t:TabV):Bool:=Eqs.lightT t&&(RWr.rightT t&&decide ((wrong t).2=0))
theorem light_parts {t:TabV} (h:Eqs.lightT t=true):Lgt.light t.rs=true∧t.zs.length≤10∧t.ls.length≤16∧(∀ z∈t.zs,Zn.lightZ z.name z.es=true)∧∀ l∈t.ls,Eqs.lightK l=true:=by
 unfold Eqs.lightT at h
 simp only [Bool.and_eq_true,decide_eq_true_eq,List.all_eq_true] at h
 obtain ⟨h1,h2,h3,h4,h5⟩:=h
 exact ⟨h1,h2,h3,h4,h5⟩
theorem fits_parts {t:TabV} (h:fitsT t=true):Eqs.lightT t=true∧RWr.rightT t=true∧(wrong t).2=0:=by
 unfold fitsT at h
 simp only [Bool.and_eq_true,decide_eq_true_eq] at h
 exact h
theorem fits_fine {t:TabV} (h:fitsT t=true):Fine t.rs t.zs t.ls:=fine (fits_parts h).2.2
end Ck
end
section
open Go.RowKit NB
namespace Pt
def lo:Int:= -1096193779200
def hi:Int:=971890963199
def idx (L:List Int) (t:Int):Nat:=L.findIdx fun e=>decide (t<e)
theorem idx_cons (a:Int) (r:List Int) (t:Int):idx (a :: r) t=if t<a then 0 else idx r t+1:=by
 unfold idx
 rw [List.findIdx_cons]
 by_cases h:t<a<;>simp [h]
theorem idx_le (L:List Int) (t:Int):idx L t≤L.length:=List.findIdx_le_length
theorem idx_ahead:∀ {L:List Int} {t:Int} {i:Nat} {s:Int},i<idx L t→L[i]? =some s→s≤t
 | [],_,_,_,h,_=>absurd h (by simp [idx])
 |a :: r,t,i,s,h,hs=>by
  rw [idx_cons] at h
  by_cases ha:t<a
  ·rw [if_pos ha] at h;omega
  ·rw [if_neg ha] at h
   cases i with
   |zero=>simp only [List.getElem?_cons_zero,Option.some.injEq] at hs;omega
   |succ i=>exact idx_ahead (L:=r) (i:=i) (by omega) (by simpa using hs)
theorem idx_here:∀ {L:List Int} {t s:Int},L[idx L t]? =some s→t<s
 | [],_,_,h=>by simp at h
 |a :: r,t,s,h=>by
  rw [idx_cons] at h
  by_cases ha:t<a
  ·rw [if_pos ha] at h;simp only [List.getElem?_cons_zero,Option.some.injEq] at h;omega
  ·rw [if_neg ha] at h;exact idx_here (L:=r) (by simpa using h)
theorem idx_of:∀ {L:List Int} {t:Int} {i:Nat},i≤L.length→(∀ s,L[i]? =some s→t<s)→(∀ j s,j<i→L[j]? =some s→s≤t)→idx L t=i
 | [],t,i,h,_,_=>by simp only [List.length_nil,Nat.le_zero] at h;subst h;rfl
 |a :: r,t,0,_,h1,_=>by rw [idx_cons,if_pos (h1 a (by simp))]
 |a :: r,t,i+1,h,h1,h2=>by
  have:=h2 0 a (by omega) (by simp)
  rw [idx_cons,if_neg (by omega),idx_of (L:=r) (i:=i) (by simpa using h) (fun s hs=>h1 s (by simpa using hs)) (fun j s hj hs=>h2 (j+1) s (by omega) (by simpa using hs))]
structure GoodE (l:List RuleV) (es:List EraV):Prop where
 zone:Zn.zoneB es=true
 sort:(Zn.endsL l es).Pairwise (· < ·)
theorem pair_of {L:List Int} (h:∀ i s q,L[i+1]? =some s→L[i]? =some q→q<s):L.Pairwise (· < ·):=by
 induction L with
 |nil=>exact List.Pairwise.nil
 |cons a r ih=>
  have hr:=ih (fun i s q h1 h2=>h (i+1) s q (by simpa using h1) (by simpa using h2))
  refine List.pairwise_cons.2 ⟨fun s hs=> ?_,hr⟩
  cases r with
  |nil=>cases hs
  |cons b r=>
   have hab:=h 0 b a (by simp) (by simp)
   rcases List.mem_cons.1 hs with rfl|hs
   ·exact hab
   ·have:=(List.pairwise_cons.1 hr).1 s hs
    omega
theorem good_of {l:List RuleV} {es:List EraV} (h:Unt.checkU l es=(-1,0)):GoodE l es:=by
 cases hz:Zn.zoneB es
 ·rw [(Unt.check_form hz).1] at h
  exact absurd h (by decide)
 ·obtain ⟨_,_,hc⟩:=Unt.check_zone (l:=l) hz
  rcases hc with ⟨_,hb⟩|⟨j,s,e,hs,_⟩
  ·refine ⟨hz,pair_of fun i s q h1 h2=> ?_⟩
   have hi:=(List.getElem?_eq_some_iff.1 h1).1
   have:=hb (i+1) hi
   unfold Unt.badAt at this
   rw [h1] at this
   simp only [Nat.zero_lt_succ,if_true,Nat.add_sub_cancel,h2,Option.getD_some] at this
   by_cases hle:s≤q
   ·rw [if_pos hle] at this;exact absurd this (by decide)
   ·omega
  ·rw [e] at h
   have:=(Prod.mk.inj h).1
   omega
theorem end_range {l:List RuleV} {es:List EraV} (hz:Zn.zoneB es=true) {i:Nat} {t:Int} (ht:(Zn.endsL l es)[i]? =some t):lo<t∧t≤hi:=by
 obtain ⟨e,f,_,_,hR,_,rfl,_,_⟩:=Unt.end_at hz ht
 unfold Unt.instU lo hi
 rw [if_pos hR]
 cases hh:e.u.has
 ·simp
 ·have hs:=Unt.right_spec hR
  obtain ⟨⟨y1,y2⟩,hf,⟨s1,s2⟩,_,_,_⟩:=Unt.end_spec hh hs.2.1
  have hd:=Occ.day_near hf (y:=e.u.year)
  have hm:=Day.fits_spec hf
  have hc:=Cal.cum_bd e.u.year e.u.month hm.1 hm.2.1
  have hl:=Cal.len_le e.u.year e.u.month
  have hp:=Cal.lp_01 e.u.year
  have a1:=Cal.ahead_mono (a:= -32766) (b:=e.u.year) (by omega)
  have a2:=Cal.ahead_mono (a:=e.u.year) (b:=32766) (by omega)
  rw [show Cal.ahead (-32766)= -12687063 by decide] at a1
  rw [show Cal.ahead 32766=11248008 by decide] at a2
  have hsv:=Unt.saved_bd (l:=l) hR (Unt.nomV e.u)
  have hsh: -64800≤Chn.shift e.off e.u.base (Unt.savedE l e (Unt.nomV e.u))∧Chn.shift e.off e.u.base (Unt.savedE l e (Unt.nomV e.u))≤64800:=by
   unfold Chn.shift
   split
   ·omega
   ·split<;>omega
  simp only [if_true]
  generalize Chn.shift e.off e.u.base (Unt.savedE l e (Unt.nomV e.u))=S at *
  unfold Unt.nomV
  generalize Day.dayI e.u.kind e.u.week e.u.day e.u.year e.u.month=D at *
  unfold Cal.days at hd
  omega
def zoneAt (t:TabV) (zone:Int):Option ZoneV:=if 0≤zone then t.zs[zone.toNat]? else none
def eraV (t:TabV) (zone at':Int):Int×Int:=match zoneAt t zone with
 |none=>(0,12)
 |some z=>if at'<lo∨hi<at' then (0,1) else (idx (Zn.endsL t.rs z.es) at',0)
noncomputable def valV (t:TabV) (zone at':Int):ValV×Int:=match zoneAt t zone with
 |none=>(⟨0,0,⟨#[]⟩⟩,12)
 |some z=>if at'<lo∨hi<at' then (⟨0,0,⟨#[]⟩⟩,1) else match z.es[idx (Zn.endsL t.rs z.es) at']? with
  |none=>(⟨0,0,⟨#[]⟩⟩,4)
  |some e=>Frc.atV t.rs e at'
theorem zone_mem {t:TabV} {zone:Int} {z:ZoneV} (h:zoneAt t zone=some z):0≤zone∧zone<t.zs.length∧t.zs[zone.toNat]? =some z∧z∈t.zs:=by
 unfold zoneAt at h
 by_cases h0:0≤zone
 ·rw [if_pos h0] at h
  have:=(List.getElem?_eq_some_iff.1 h).1
  exact ⟨h0,by omega,h,List.mem_of_getElem? h⟩
 ·rw [if_neg h0] at h;cases h
theorem zone_none {t:TabV} {zone:Int} (h:zone<0∨(t.zs.length:Int)≤zone):zoneAt t zone=none:=by
 unfold zoneAt
 by_cases h0:0≤zone
 ·rw [if_pos h0]
  exact List.getElem?_eq_none (by omega)
 ·rw [if_neg h0]
theorem zone_some {t:TabV} {zone:Int} (h0:0≤zone) (h1:zone<t.zs.length):∃ z,zoneAt t zone=some z∧t.zs[zone.toNat]? =some z:=by
 refine ⟨t.zs[zone.toNat]'(by omega),?_,by simp⟩
 unfold zoneAt
 rw [if_pos h0]
 simp
def GoodT (t:TabV):Prop:=∀ z∈t.zs,GoodE t.rs z.es
theorem fits_good {t:TabV} (h:Ck.fitsT t=true):GoodT t:=fun z hz=>good_of ((Ck.fits_fine h).eras z hz)
theorem era_in {l:List RuleV} {es:List EraV} (h:GoodE l es) (s:Int):idx (Zn.endsL l es) s<es.length:=by
 have:=Unt.ends_len (l:=l) h.zone
 have:=idx_le (Zn.endsL l es) s
 omega
theorem good_right {l:List RuleV} {es:List EraV} (h:GoodE l es) {i:Nat} {e:EraV} (he:es[i]? =some e):Er.rightB e=true:=by
 have hi:=(List.getElem?_eq_some_iff.1 he).1
 have:=(Zn.zone_iff.1 h.zone).2 i e hi he
 unfold Zn.okAt at this
 simp only [Bool.and_eq_true] at this
 exact this.1
theorem off_r {e:EraV} (h:Er.rightB e=true) {s:Int} (h0: -10800≤s) (h1:s≤10800) (x:ByteArray): -64800≤(Frc.valR e s x).off∧(Frc.valR e s x).off≤64800:=by
 have:=(Unt.right_spec h).1
 show -64800≤wrap64 (e.off+s)∧wrap64 (e.off+s)≤64800
 rw [show wrap64 (e.off+s)=e.off+s from by unfold wrap64;omega]
 omega
theorem off_bd {l:List RuleV} {e:EraV} (h:Er.rightB e=true) {s:Int} (h0:lo≤s) (h1:s≤hi): -64800≤(L33.AV l e s).off∧(L33.AV l e s).off≤64800:=by
 unfold lo at h0
 unfold hi at h1
 by_cases hk:e.kind=2
 ·rw [L33.av_two h hk]
  have hm:Chn.may e.off=true:=Chn.may_iff.2 (Unt.right_spec h).1
  have hl:=Frc.last_is (l:=l) hm (t:=s) (by omega) (by omega)
  unfold Frc.stateV
  cases hp:Frc.lastP l e s with
  |none=>
   show -64800≤(Frc.firstV l e).off∧(Frc.firstV l e).off≤64800
   unfold Frc.firstV
   split<;>exact off_r h (by decide) (by decide) _
  |some o=>
   rw [hp] at hl
   obtain ⟨i,r,e1,_,hr,_,hR⟩:=Frc.rule_of hl.1
   show -64800≤(Frc.valAt l e o.rule).off∧(Frc.valAt l e o.rule).off≤64800
   rw [e1,Frc.val_rule hr]
   have:=(Rul.right_spec hR).2.2.2
   exact off_r h this.1 this.2 _
 ·unfold L33.AV Frc.atV
  rw [if_pos h,if_neg hk]
  exact off_r h (Unt.right_spec h).2.2.1.1 (Unt.right_spec h).2.2.1.2 _
theorem idx_mono {L:List Int} {s t:Int} (h:s≤t):idx L s≤idx L t:=by
 refine Nat.le_of_not_lt fun hn=> ?_
 obtain ⟨x,hx⟩:∃ x,L[idx L t]? =some x:=⟨_,List.getElem?_eq_getElem (Nat.lt_of_lt_of_le hn (idx_le L s))⟩
 have:=idx_here hx
 have:=idx_ahead hn hx
 omega
def zeroV:ValV:=⟨0,0,⟨#[]⟩⟩
theorem val_none {t:TabV} {zone:Int} (s:Int) (h:zoneAt t zone=none):valV t zone s=(zeroV,12)∧eraV t zone s=(0,12):=by
 unfold valV eraV
 rw [h]
 exact ⟨rfl,rfl⟩
theorem val_out {t:TabV} {zone s:Int} {z:ZoneV} (h:zoneAt t zone=some z) (ho:s<lo∨hi<s):valV t zone s=(zeroV,1)∧eraV t zone s=(0,1):=by
 unfold valV eraV
 rw [h]
 simp only
 rw [if_pos ho,if_pos ho]
 exact ⟨rfl,rfl⟩
theorem val_in {t:TabV} {zone s:Int} {z:ZoneV} (h:zoneAt t zone=some z) (h0:lo≤s) (h1:s≤hi) {e:EraV} (he:z.es[idx (Zn.endsL t.rs z.es) s]? =some e):valV t zone s=Frc.atV t.rs e s∧eraV t zone s=(((idx (Zn.endsL t.rs z.es) s:Nat):Int),0):=by
 unfold valV eraV
 rw [h]
 simp only
 rw [if_neg (by omega),if_neg (by omega),he]
 exact ⟨rfl,rfl⟩
end Pt
end
section
open Go.RowKit NB
namespace Chg
open Pt Frc L33
noncomputable def VV (l:List RuleV) (es:List EraV) (s:Int):ValV:=match es[idx (Zn.endsL l es) s]? with|some e=>AV l e s|none=>zeroV
noncomputable def candN (l:List RuleV) (es:List EraV) (s:Int):Int×Bool:=match es[idx (Zn.endsL l es) s]? with
 |none=>(0,false)
 |some e=>match (Zn.endsL l es)[idx (Zn.endsL l es) s]? with
  |none=>nextV l e s
  |some t=>if (nextV l e s).2=false∨t<(nextV l e s).1 then (t,true) else nextV l e s
noncomputable def stepN (l:List RuleV) (es:List EraV) (s:Int):Option Int:=if (candN l es s).2=false∨hi<(candN l es s).1∨(candN l es s).1≤s then none else some (candN l es s).1
inductive NextR (l:List RuleV) (es:List EraV) (v:ValV):Int→Int×Bool→Prop
 |stop {s:Int}:stepN l es s=none→NextR l es v s (0,false)
 |hit {s c:Int}:stepN l es s=some c→VV l es c≠v→NextR l es v s (c,true)
 |go {s c:Int} {r:Int×Bool}:stepN l es s=some c→VV l es c=v→NextR l es v c r→NextR l es v s r
def startP (l:List RuleV) (es:List EraV) (s:Int):Int:=if 0<idx (Zn.endsL l es) s then ((Zn.endsL l es)[idx (Zn.endsL l es) s-1]?).getD lo else lo
noncomputable def here (l:List RuleV) (es:List EraV) (s:Int):Int×Bool:=match es[idx (Zn.endsL l es) s]? with
 |none=>(0,false)
 |some e=>prevV l e s
inductive PrevR (l:List RuleV) (es:List EraV) (v:ValV):Int→Int×Bool→Prop
 |here {s:Int}:(here l es s).2=true→startP l es s<(here l es s).1→PrevR l es v s ((here l es s).1,true)
 |stop {s:Int}:((here l es s).2=true→(here l es s).1≤startP l es s)→idx (Zn.endsL l es) s=0→PrevR l es v s (0,false)
 |hit {s:Int}:((here l es s).2=true→(here l es s).1≤startP l es s)→0<idx (Zn.endsL l es) s→VV l es (startP l es s-1)≠v→PrevR l es v s (startP l es s,true)
 |go {s:Int} {r:Int×Bool}:((here l es s).2=true→(here l es s).1≤startP l es s)→0<idx (Zn.endsL l es) s→VV l es (startP l es s-1)=v→PrevR l es v (startP l es s-1) r→PrevR l es v s r
section
variable {l:List RuleV} {es:List EraV} (hg:GoodE l es) (hc:(Chk.check l).2=0)
include hg
theorem era_at (s:Int):∃ e,es[idx (Zn.endsL l es) s]? =some e∧Er.rightB e=true∧VV l es s=AV l e s:=by
 obtain ⟨e,he⟩:∃ e,es[idx (Zn.endsL l es) s]? =some e:=⟨_,List.getElem?_eq_getElem (era_in hg s)⟩
 refine ⟨e,he,good_right hg he,?_⟩
 unfold VV
 rw [he]
theorem same_era {s u:Int} {e:EraV} (he:es[idx (Zn.endsL l es) s]? =some e) (h1:∀ t,(Zn.endsL l es)[idx (Zn.endsL l es) s]? =some t→u<t) (h2:0<idx (Zn.endsL l es) s→∀ t,(Zn.endsL l es)[idx (Zn.endsL l es) s-1]? =some t→t≤u):idx (Zn.endsL l es) u=idx (Zn.endsL l es) s∧VV l es u=AV l e u:=by
 have hi:idx (Zn.endsL l es) u=idx (Zn.endsL l es) s:=by
  refine idx_of (idx_le _ _) h1 (fun j x hj hx=> ?_)
  obtain ⟨y,hy⟩:∃ y,(Zn.endsL l es)[idx (Zn.endsL l es) s-1]? =some y:=⟨_,List.getElem?_eq_getElem (by have:=idx_le (Zn.endsL l es) s;omega)⟩
  have hyu:=h2 (by omega) y hy
  by_cases hji:j=idx (Zn.endsL l es) s-1
  ·subst hji;rw [hx] at hy;cases hy;exact hyu
  ·obtain ⟨ha,ea⟩:=List.getElem?_eq_some_iff.1 hx
   obtain ⟨hb,eb⟩:=List.getElem?_eq_some_iff.1 hy
   have:=List.pairwise_iff_getElem.1 hg.sort j _ ha hb (by omega)
   omega
 refine ⟨hi,?_⟩
 unfold VV
 rw [hi,he]
include hc
theorem same_next {s u:Int} {e:EraV} (hs0:lo≤s) (hs1:s≤hi) (hu:s≤u) (hu1:u≤hi) (he:es[idx (Zn.endsL l es) s]? =some e) (h1:∀ t,(Zn.endsL l es)[idx (Zn.endsL l es) s]? =some t→u<t) (h2:∀ n,nextV l e s=(n,true)→u<n):VV l es u=VV l es s:=by
 obtain ⟨_,hR,hv⟩:=show ∃ e',Er.rightB e=true∧VV l es s=AV l e s from by
  obtain ⟨e',he',hR,hv⟩:=era_at hg s
  rw [he] at he';cases he'
  exact ⟨e,hR,hv⟩
 unfold lo at hs0
 unfold hi at hs1 hu1
 rw [(same_era hg he h1 (fun h0 t ht=>by have:=idx_ahead (show idx (Zn.endsL l es) s-1<idx (Zn.endsL l es) s by omega) ht;omega)).2,hv]
 exact elseB hc hR (t:=s) (by omega) (by omega) (by omega) (by omega) h2 (fun p hp=>by have:=(prevB hc hR (t:=s) (by omega) (by omega) hp).2.1;omega)
theorem stepN_spec {s:Int} (h0:lo≤s) (h1:s≤hi):(stepN l es s=none→∀ u,s≤u→u≤hi→VV l es u=VV l es s)∧∀ c,stepN l es s=some c→s<c∧c≤hi∧∀ u,s≤u→u<c→VV l es u=VV l es s:=by
 obtain ⟨e,he,hR,_⟩:=era_at hg s
 have hn:∀ n,nextV l e s=(n,true)→s<n:=fun n hn=>by
  have a:=h0;have b:=h1
  unfold lo at a;unfold hi at b
  exact (nextB hc hR (t:=s) (by omega) (by omega) hn).2.1
 have key:=fun (u:Int) hu hu1 h2 h3=>same_next hg hc (u:=u) h0 h1 hu hu1 he h2 h3
 unfold stepN candN
 rw [he]
 simp only
 obtain ⟨N,hN⟩:∃ N,nextV l e s=N:=⟨_,rfl⟩
 obtain ⟨n,b⟩:=N
 rw [hN] at hn key ⊢
 cases hL:(Zn.endsL l es)[idx (Zn.endsL l es) s]? with
 |none=>
  rw [hL] at key
  simp only
  cases b
  ·simp only [true_or,if_true]
   exact ⟨fun _ u hu hu1=>key u hu hu1 (fun t ht=>by cases ht) (fun n' h=>by cases h),fun c h=>by cases h⟩
  ·have hs:=hn n rfl
   by_cases hh:hi<n
   ·rw [if_pos (.inr (.inl hh))]
    exact ⟨fun _ u hu hu1=>key u hu hu1 (fun t ht=>by cases ht) (fun n' h=>by cases h;omega),fun c h=>by cases h⟩
   ·rw [if_neg (by rintro (h|h|h);cases h;exact hh h;omega)]
    exact ⟨fun h=>(by cases h),fun c h=>(by cases h;exact ⟨hs,by omega,fun u hu hun=>key u hu (by omega) (fun t ht=>by cases ht) (fun n' h=>by cases h;omega)⟩)⟩
 |some t=>
  have ht:=idx_here hL
  rw [hL] at key
  simp only
  by_cases hA:b=false∨t<n
  ·rw [if_pos hA]
   simp only
   have hB:∀ n',(n,b)=(n',true)→t<n':=fun n' h=>by
    cases h
    rcases hA with h|h
    ·cases h
    ·exact h
   by_cases hh:hi<t
   ·rw [if_pos (.inr (.inl hh))]
    exact ⟨fun _ u hu hu1=>key u hu hu1 (fun t' ht=>by cases ht;omega) (fun n' h=>by have:=hB n' h;omega),fun c h=>by cases h⟩
   ·rw [if_neg (by rintro (h|h|h);cases h;exact hh h;omega)]
    exact ⟨fun h=>(by cases h),fun c h=>(by cases h;exact ⟨ht,by omega,fun u hu hun=>key u hu (by omega) (fun t' ht=>by cases ht;exact hun) (fun n' h=>by have:=hB n' h;omega)⟩)⟩
  ·rw [if_neg hA]
   simp only
   have hb:b=true:=by cases b;exact absurd (.inl rfl) hA;rfl
   subst hb
   have hs:=hn n rfl
   have hnt:n≤t:=by
    refine Int.not_lt.1 fun h=>hA (.inr h)
   by_cases hh:hi<n
   ·rw [if_pos (.inr (.inl hh))]
    exact ⟨fun _ u hu hu1=>key u hu hu1 (fun t' ht=>by cases ht;omega) (fun n' h=>by cases h;omega),fun c h=>by cases h⟩
   ·rw [if_neg (by rintro (h|h|h);cases h;exact hh h;omega)]
    exact ⟨fun h=>(by cases h),fun c h=>(by cases h;exact ⟨hs,by omega,fun u hu hun=>key u hu (by omega) (fun t' ht=>by cases ht;omega) (fun n' h=>by cases h;exact hun)⟩)⟩
theorem next_spec {v:ValV} {s:Int} {r:Int×Bool} (h:NextR l es v s r):lo≤s→s≤hi→VV l es s=v→(r.2=true→s<r.1∧r.1≤hi∧VV l es r.1≠v∧∀ u,s≤u→u<r.1→VV l es u=v)∧(r.2=false→r.1=0∧∀ u,s≤u→u≤hi→VV l es u=v):=by
 induction h with
 |stop h=>
  intro h0 h1 hv
  refine ⟨fun h=>(by cases h),fun _=>⟨rfl,fun u hu hu1=> ?_⟩⟩
  rw [(stepN_spec hg hc h0 h1).1 h u hu hu1,hv]
 |hit h hne=>
  intro h0 h1 hv
  obtain ⟨a,b,d⟩:=(stepN_spec hg hc h0 h1).2 _ h
  exact ⟨fun _=>⟨a,b,hne,fun u hu hu1=>by rw [d u hu hu1,hv]⟩,fun h=>(by cases h)⟩
 |go h heq _ ih=>
  intro h0 h1 hv
  obtain ⟨a,b,d⟩:=(stepN_spec hg hc h0 h1).2 _ h
  obtain ⟨i1,i2⟩:=ih (by omega) b heq
  refine ⟨fun hr=> ?_,fun hr=>⟨(i2 hr).1,fun u hu hu1=> ?_⟩⟩
  ·obtain ⟨x1,x2,x3,x4⟩:=i1 hr
   refine ⟨by omega,x2,x3,fun u hu hu1=> ?_⟩
   rename_i c _ _
   by_cases hc':u<c
   ·rw [d u hu hc',hv]
   ·exact x4 u (by omega) hu1
  ·rename_i c _ _
   by_cases hc':u<c
   ·rw [d u hu hc',hv]
   ·exact (i2 hr).2 u (by omega) hu1
theorem next_total (v:ValV):∀ (n:Nat) (s:Int),lo≤s→s≤hi→(hi-s).toNat≤n→∃ r,NextR l es v s r
 |n,s,h0,h1,hn=>by
  cases hs:stepN l es s with
  |none=>exact ⟨_,.stop hs⟩
  |some c=>
   obtain ⟨a,b,_⟩:=(stepN_spec hg hc h0 h1).2 c hs
   by_cases hv:VV l es c=v
   ·match n with
    |0=>omega
    |n+1=>
     obtain ⟨r,hr⟩:=next_total v n c (by omega) b (by omega)
     exact ⟨r,.go hs hv hr⟩
   ·exact ⟨_,.hit hs hv⟩
omit hc in
theorem start_spec (s:Int):lo≤startP l es s∧(lo≤s→startP l es s≤s)∧(0<idx (Zn.endsL l es) s→lo<startP l es s∧startP l es s≤hi∧(Zn.endsL l es)[idx (Zn.endsL l es) s-1]? =some (startP l es s)):=by
 unfold startP
 by_cases h:0<idx (Zn.endsL l es) s
 ·rw [if_pos h]
  obtain ⟨t,ht⟩:∃ t,(Zn.endsL l es)[idx (Zn.endsL l es) s-1]? =some t:=⟨_,List.getElem?_eq_getElem (by have:=idx_le (Zn.endsL l es) s;omega)⟩
  rw [ht,Option.getD_some]
  obtain ⟨r1,r2⟩:=end_range hg.zone ht
  have:=idx_ahead (show idx (Zn.endsL l es) s-1<idx (Zn.endsL l es) s by omega) ht
  exact ⟨by omega,fun _=>this,fun _=>⟨r1,r2,rfl⟩⟩
 ·rw [if_neg h]
  exact ⟨Int.le_refl _,fun h=>h,fun h'=>absurd h' h⟩
theorem same_prev {s u:Int} (hs1:s≤hi) (hu0:startP l es s≤u) (hu1:u≤s) (h2:(here l es s).2=true→(here l es s).1≤u):VV l es u=VV l es s:=by
 obtain ⟨e,he,hR,hv⟩:=era_at hg s
 have hl:=(start_spec hg (l:=l) s).1
 have hse:=same_era hg he (u:=u) (fun t ht=>by have:=idx_here ht;omega) (fun h0 t ht=>by have:=((start_spec hg (l:=l) s).2.2 h0).2.2;rw [ht] at this;cases this;exact hu0)
 unfold lo at hl
 unfold hi at hs1
 rw [hse.2,hv]
 refine elseB hc hR (t:=s) (by omega) (by omega) (by omega) (by omega) (fun n hn=>by have:=(nextB hc hR (t:=s) (by omega) (by omega) hn).2.1;omega) (fun p hp=> ?_)
 unfold here at h2
 rw [he] at h2
 simp only at h2
 rw [hp] at h2
 exact h2 rfl
theorem here_spec {s:Int} (hs0:lo≤s) (hs1:s≤hi) (h:(here l es s).2=true) (hp:startP l es s<(here l es s).1):lo<(here l es s).1∧(here l es s).1≤s∧VV l es ((here l es s).1-1)≠VV l es s∧∀ u,(here l es s).1≤u→u≤s→VV l es u=VV l es s:=by
 obtain ⟨e,he,hR,hv⟩:=era_at hg s
 have hl:=(start_spec hg (l:=l) s).1
 obtain ⟨P,hP⟩:∃ P,prevV l e s=P:=⟨_,rfl⟩
 obtain ⟨p,b⟩:=P
 have hh:here l es s=(p,b):=by unfold here;rw [he];exact hP
 rw [hh] at h hp ⊢
 dsimp only at h hp ⊢
 subst h
 have hB:=prevB hc hR (t:=s) (by unfold lo at hs0;omega) (by unfold hi at hs1;omega) hP
 refine ⟨by omega,hB.2.1,?_,fun u hu hu1=>same_prev hg hc hs1 (by omega) hu1 (fun _=>by rw [hh];exact hu)⟩
 have hse:=same_era hg he (u:=p-1) (fun t ht=>by have:=idx_here ht;omega) (fun h0 t ht=>by have:=((start_spec hg (l:=l) s).2.2 h0).2.2;rw [ht] at this;cases this;omega)
 rw [hse.2,hv]
 exact hB.2.2.1
theorem prev_spec {v:ValV} {s:Int} {r:Int×Bool} (h:PrevR l es v s r):lo≤s→s≤hi→VV l es s=v→(r.2=true→lo<r.1∧r.1≤s∧VV l es (r.1-1)≠v∧∀ u,r.1≤u→u≤s→VV l es u=v)∧(r.2=false→r.1=0∧∀ u,lo≤u→u≤s→VV l es u=v):=by
 induction h with
 |here h hp=>
  intro h0 h1 hv
  obtain ⟨a,b,c,d⟩:=here_spec hg hc h0 h1 h hp
  exact ⟨fun _=>⟨a,b,fun e=>c (by rw [e,hv]),fun u hu hu1=>by rw [d u hu hu1,hv]⟩,fun h=>by cases h⟩
 |stop h h0'=>
  intro h0 h1 hv
  rename_i s
  refine ⟨fun h=>(by cases h),fun _=>⟨rfl,fun u hu hu1=> ?_⟩⟩
  have hst:startP l es s=lo:=by unfold startP;rw [if_neg (by omega)]
  rw [same_prev hg hc h1 (by rw [hst];exact hu) hu1 (fun hh=>by have:=h hh;omega),hv]
 |hit h hi0 hne=>
  intro h0 h1 hv
  rename_i s
  obtain ⟨a,b,c⟩:=start_spec hg (l:=l) s
  exact ⟨fun _=>⟨(c hi0).1,b h0,hne,fun u hu hu1=>by rw [same_prev hg hc h1 hu hu1 (fun hh=>by have:=h hh;omega),hv]⟩,fun h=>by cases h⟩
 |go h hi0 heq _ ih=>
  intro h0 h1 hv
  rename_i s _ _
  obtain ⟨a,b,c⟩:=start_spec hg (l:=l) s
  have hb:=b h0
  obtain ⟨c1,c2,_⟩:=c hi0
  obtain ⟨i1,i2⟩:=ih (by omega) (by omega) heq
  have hsame:∀ u,startP l es s≤u→u≤s→VV l es u=v:=fun u hu hu1=>by rw [same_prev hg hc h1 hu hu1 (fun hh=>by have:=h hh;omega),hv]
  refine ⟨fun hr=> ?_,fun hr=>⟨(i2 hr).1,fun u hu hu1=> ?_⟩⟩
  ·obtain ⟨x1,x2,x3,x4⟩:=i1 hr
   refine ⟨x1,by omega,x3,fun u hu hu1=> ?_⟩
   by_cases hu2:startP l es s≤u
   ·exact hsame u hu2 hu1
   ·exact x4 u hu (by omega)
  ·by_cases hu2:startP l es s≤u
   ·exact hsame u hu2 hu1
   ·exact (i2 hr).2 u hu (by omega)
end
section
variable {l:List RuleV} {es:List EraV} {v:ValV} {s c:Int} {r:Int×Bool}
theorem next_stop (h:NextR l es v s r) (hs:stepN l es s=none):r=(0,false):=by
 cases h with
 |stop _=>rfl
 |hit h _=>rw [hs] at h;cases h
 |go h _ _=>rw [hs] at h;cases h
theorem next_hit (h:NextR l es v s r) (hs:stepN l es s=some c) (hv:VV l es c≠v):r=(c,true):=by
 cases h with
 |stop h=>rw [hs] at h;cases h
 |hit h _=>rw [hs] at h;cases h;rfl
 |go h h' _=>rw [hs] at h;cases h;exact absurd h' hv
theorem next_go (h:NextR l es v s r) (hs:stepN l es s=some c) (hv:VV l es c=v):NextR l es v c r:=by
 cases h with
 |stop h=>rw [hs] at h;cases h
 |hit h h'=>rw [hs] at h;cases h;exact absurd hv h'
 |go h _ h'=>rw [hs] at h;cases h;exact h'
theorem cand_none {e:EraV} (he:es[idx (Zn.endsL l es) s]? =some e) (hL:(Zn.endsL l es)[idx (Zn.endsL l es) s]? =none):candN l es s=nextV l e s:=by
 unfold candN
 rw [he,hL]
theorem cand_end {e:EraV} {t:Int} (he:es[idx (Zn.endsL l es) s]? =some e) (hL:(Zn.endsL l es)[idx (Zn.endsL l es) s]? =some t) (h:(nextV l e s).2=false∨t<(nextV l e s).1):candN l es s=(t,true):=by
 unfold candN
 rw [he,hL]
 simp only
 rw [if_pos h]
theorem cand_in {e:EraV} {t:Int} (he:es[idx (Zn.endsL l es) s]? =some e) (hL:(Zn.endsL l es)[idx (Zn.endsL l es) s]? =some t) (h:¬((nextV l e s).2=false∨t<(nextV l e s).1)):candN l es s=nextV l e s:=by
 unfold candN
 rw [he,hL]
 simp only
 rw [if_neg h]
theorem prev_here (h:PrevR l es v s r) (h1:(here l es s).2=true) (h2:startP l es s<(here l es s).1):r=((here l es s).1,true):=by
 cases h with
 |here _ _=>rfl
 |stop h _=>have:=h h1;omega
 |hit h _ _=>have:=h h1;omega
 |go h _ _ _=>have:=h h1;omega
theorem prev_stop (h:PrevR l es v s r) (h1:(here l es s).2=true→(here l es s).1≤startP l es s) (h2:idx (Zn.endsL l es) s=0):r=(0,false):=by
 cases h with
 |here a b=>have:=h1 a;omega
 |stop _ _=>rfl
 |hit _ a _=>omega
 |go _ a _ _=>omega
theorem prev_hit (h:PrevR l es v s r) (h1:(here l es s).2=true→(here l es s).1≤startP l es s) (h2:0<idx (Zn.endsL l es) s) (hv:VV l es (startP l es s-1)≠v):r=(startP l es s,true):=by
 cases h with
 |here a b=>have:=h1 a;omega
 |stop _ a=>omega
 |hit _ _ _=>rfl
 |go _ _ a _=>exact absurd a hv
theorem prev_go (h:PrevR l es v s r) (h1:(here l es s).2=true→(here l es s).1≤startP l es s) (h2:0<idx (Zn.endsL l es) s) (hv:VV l es (startP l es s-1)=v):PrevR l es v (startP l es s-1) r:=by
 cases h with
 |here a b=>have:=h1 a;omega
 |stop _ a=>omega
 |hit _ _ a=>exact absurd hv a
 |go _ _ _ a=>exact a
end
end Chg
end
section
open Go.RowKit NB
namespace Pt
theorem isNaN64 (x:Int) (w:World):Calls Tryz.prog 153 #[.int .i64 x] w fun e w'=>e= .returned (.bool false)∧w=w':=by
 go_enter Tryz.func153,Tryz.ntmps153
 go_wp2
 go_ret
 exact ⟨ret_bool (by simp),rfl⟩
theorem less64 (x y:Int) (w:World):Calls Tryz.prog 152 #[.int .i64 x,.int .i64 y] w fun e w'=>e= .returned (.bool (decide (x<y)))∧w=w':=by
 by_cases h:x<y
 ·rw [decide_eq_true h]
  go_enter Tryz.func152,Tryz.ntmps152
  go_wp2_with (go_at_call 214;(with_reducible refine (Cmp.NaN64 _ _).mono ?_);rintro e w' ⟨rfl,rfl⟩)
  go_ret
  exact ⟨ret_bool (by simp),rfl⟩
 ·rw [decide_eq_false h]
  go_enter Tryz.func152,Tryz.ntmps152
  go_wp2_with (go_at_call 214;(with_reducible refine (Cmp.NaN64 _ _).mono ?_);rintro e w' ⟨rfl,rfl⟩)
  go_ret
  exact ⟨ret_bool (by simp [h]),rfl⟩
set_option maxRecDepth 100000 in
set_option maxHeartbeats 3200000 in
theorem search {w:World} {v:Value} {L:List Int} (h:HoldsG 1 intC w v L) (hn:L.length≤100000) (ho:L.Pairwise (· < ·)) (t:Int):
 Calls Tryz.prog 95 #[v,.int .i64 (t+1)] w fun e w'=>(∃ u:Value,e= .returned (.tuple #[.int .i64 (idx L t),u]))∧w=w':=by
 obtain ⟨p,cap,rfl,hp⟩:=HoldsG.pkI h
 obtain ⟨n,hnn⟩:∃ n,n=L.length:=⟨_,rfl⟩
 obtain ⟨q,hq⟩:∃ q,q=t+1:=⟨_,rfl⟩
 rw [← hnn] at hn ⊢
 obtain ⟨I,hI⟩:∃ I,I=idx L t:=⟨_,rfl⟩
 rw [← hq, ←hI]
 have HI:=Lib.hid hI
 have HP:=Lib.hid hp
 have HO:=Lib.hid (List.pairwise_iff_getElem.1 ho)
 have HN:=Lib.hid hnn
 have HQ:=Lib.hid hq
 clear h hp ho hnn hq hI
 go_enter Tryz.func95,Tryz.ntmps95
 go_wp2
 go_loop [7,8] (fun i j=>∃ lo hi:Nat,i= .int .i64 lo∧j= .int .i64 hi∧lo≤hi∧hi≤n∧Hid (∀ m x,m<lo→L[m]? =some x→x<q)∧Hid (∀ m x,hi≤m→L[m]? =some x→q≤x)) (fun i j=>(intOf j).toNat-(intOf i).toNat)
 case atStart=>exact ⟨0,n,rfl,rfl,Nat.zero_le _,Nat.le_refl _,fun m x hm=>absurd hm (Nat.not_lt_zero _),fun m x hm hx=>by have:=(List.getElem?_eq_some_iff.1 hx).1;rw [← HN.out] at this;omega⟩
 case round=>
  obtain ⟨lo,hi,rfl,rfl,hlh,hhn,I1,I2⟩:=hrel
  by_cases hlt:lo<hi
  ·have hk:(lo+hi)/2<L.length:=by rw [← HN.out];omega
   obtain ⟨x,hx⟩:∃ x,L[(lo+hi)/2]? =some x:=⟨_,List.getElem?_eq_getElem hk⟩
   obtain ⟨b,off,rfl,hb,c0⟩:=HP.out _ x hx
   have HX:=Lib.hid hx
   have hb1:(lo:Int)<(hi:Int):=by omega
   have hb2:(0:Int)≤(lo:Int)+(hi:Int):=by omega
   have hb3:(lo+hi)/2<n:=by omega
   clear hx hk
   by_cases hxt:x<q
   ·have cl:=less64 x q
    rw [decide_eq_true hxt] at cl
    go_wp2_with (go_at_call 152;(with_reducible refine (cl _).mono ?_);rintro e w' ⟨rfl,rfl⟩)
    go_round
    case rel=>
     refine ⟨(lo+hi)/2+1,hi,by go_num,rfl,by omega,hhn,fun m y hm hy=> ?_,I2⟩
     by_cases hmm:m=(lo+hi)/2
     ·subst hmm
      rw [HX.out] at hy
      cases hy
      exact hxt
     ·obtain ⟨h1,e1⟩:=List.getElem?_eq_some_iff.1 hy
      obtain ⟨h2,e2⟩:=List.getElem?_eq_some_iff.1 HX.out
      have:=HO.out m _ h1 h2 (by omega)
      omega
    case measure=>simp [intOf];omega
   ·have cl:=less64 x q
    rw [decide_eq_false hxt] at cl
    go_wp2_with (go_at_call 152;(with_reducible refine (cl _).mono ?_);rintro e w' ⟨rfl,rfl⟩)
    go_round
    case rel=>
     refine ⟨lo,(lo+hi)/2,rfl,by go_num,by omega,by omega,I1,fun m y hm hy=> ?_⟩
     by_cases hmm:m=(lo+hi)/2
     ·subst hmm
      rw [HX.out] at hy
      cases hy
      omega
     ·obtain ⟨h1,e1⟩:=List.getElem?_eq_some_iff.1 hy
      obtain ⟨h2,e2⟩:=List.getElem?_eq_some_iff.1 HX.out
      have:=HO.out _ m h2 h1 (by omega)
      omega
    case measure=>simp [intOf];omega
  ·obtain rfl:lo=hi:=by omega
   have hp:I=lo:=HI.out.trans <| idx_of (by rw [← HN.out];exact hhn) (fun x hx=>by have:=I2.out lo x (Nat.le_refl _) hx;rw [HQ.out] at this;omega) (fun m x hm hx=>by have:=I1.out m x hm hx;rw [HQ.out] at this;omega)
   subst hp
   by_cases hln:I<n
   ·obtain ⟨x,hx⟩:∃ x,L[I]? =some x:=⟨_,List.getElem?_eq_getElem (by rw [← HN.out];exact hln)⟩
    obtain ⟨b,off,rfl,hb,c0⟩:=HP.out _ x hx
    have hb5:(I:Int)<(n:Int):=by omega
    have cn:=isNaN64 x
    clear hx
    by_cases hxq:x=q
    ·subst hxq
     go_wp2_with (go_at_call 153;(with_reducible refine (cn _).mono ?_);rintro e w' ⟨rfl,rfl⟩)
     go_ret2
     exact ⟨⟨_,rfl⟩,rfl⟩
    ·have hq2:(x==q)=false:=by rw [beq_eq_false_iff_ne];exact hxq
     go_wp2_with (go_at_call 153;(with_reducible refine (cn _).mono ?_);rintro e w' ⟨rfl,rfl⟩)
     go_ret2
     exact ⟨⟨_,rfl⟩,rfl⟩
   ·go_wp2
    go_ret2
    exact ⟨⟨_,rfl⟩,rfl⟩
end Pt
end
end Go.Proofs.YtgmfojgnjdpofaaGreatDoor
