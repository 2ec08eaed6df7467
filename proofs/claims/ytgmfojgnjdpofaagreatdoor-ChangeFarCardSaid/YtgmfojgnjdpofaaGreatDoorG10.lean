import Derived.Test.YtgmfojgnjdpofaaGreatDoorRRule
import Derived.Test.YtgmfojgnjdpofaaGreatDoorG9
import Derived.Test.YtgmfojgnjdpofaaGreatDoorG5
import Derived.Deep.AppendLies
import Derived.Test.YtgmfojgnjdpofaaGreatDoorG1
import Derived.Maps.Own
import Derived.Maps.AppendAt
import Derived.Laws.AppendOwn
namespace Go.Proofs.YtgmfojgnjdpofaaGreatDoor
section
open Go.RowKit NB
namespace ROcc
theorem floorLeast (w:World):Calls Tryz.prog 189 #[.int .i64 (-9223372036854775808),.int .i64 86400] w fun e w'=>e= .returned (.tuple #[.int .i64 (-106751991167301),.int .i64 30592,.int .i64 0])∧w=w':=by
 go_enter Tryz.func189,Tryz.ntmps189
 go_wp2
 go_ret3
 exact ⟨rfl,rfl⟩
theorem Floor (t:Int) (ht:I64 t) (w:World):Calls Tryz.prog 128 #[.int .i64 t,.int .i64 86400] w fun e w'=>e= .returned (.int .i64 (t/86400))∧w=w':=by
 by_cases h: -9223372036854775808<t
 ·exact RNum.Floor t 86400 h ht.2 (by omega) (by omega) w
 ·have h0:=ht.1
  obtain rfl:t= -9223372036854775808:=by omega
  rw [show (-9223372036854775808:Int)/86400= -106751991167301 by decide]
  have cd:=floorLeast
  have Cd:=Lib.hid cd
  clear cd h h0 ht
  go_enter Tryz.func128,Tryz.ntmps128
  go_wp2_with (go_at_call 189;(with_reducible refine (Cd.out _).mono ?_);rintro e w' ⟨rfl,rfl⟩)
  go_ret
  exact ⟨rfl,rfl⟩
set_option maxHeartbeats 1600000 in
theorem near (t:Int) (ht:I64 t) (w:World):Calls Tryz.prog 284 #[.int .i64 t] w fun e w'=>e= .returned (.int .i64 (Occ.nearA t))∧Below w.heap.size w w':=by
 obtain ⟨t0,t1⟩:=ht
 have cf:=Floor t ⟨t0,t1⟩
 have cd:=RCiv.Date (t/86400) (by omega) (by omega)
 obtain ⟨Y,hY⟩:∃ Y,Y=Occ.nearA t:=⟨_,rfl⟩
 rw [← hY]
 unfold Occ.nearA at hY
 cases hk:RCiv.okN (t/86400)
 ·have hn:¬(Cal.ahead (-40000)≤t/86400∧t/86400<Cal.ahead 40001):=by
   intro h
   unfold RCiv.okN at hk
   rw [decide_eq_true h.1,decide_eq_true h.2] at hk
   cases hk
  rw [if_neg hn] at hY
  rw [hk,if_neg (by decide)] at cd
  have Cf:=Lib.hid cf
  have Cd:=Lib.hid cd
  clear cf cd hk hn
  by_cases h0:t<0
  ·rw [if_pos h0] at hY
   subst hY
   go_enter Tryz.func284,Tryz.ntmps284
   go_wp2_with (first|(go_at_call 128;(with_reducible refine (Cf.out _).mono ?_);rintro e w' ⟨rfl,rfl⟩)|(go_at_call 127;(with_reducible refine (Cd.out _).mono ?_);rintro e w1 ⟨rfl,hb1⟩;obtain ⟨hc1,hf1⟩:=bcell hb1))
   go_ret
   exact ⟨rfl,bcq⟩
  ·rw [if_neg h0] at hY
   subst hY
   go_enter Tryz.func284,Tryz.ntmps284
   go_wp2_with (first|(go_at_call 128;(with_reducible refine (Cf.out _).mono ?_);rintro e w' ⟨rfl,rfl⟩)|(go_at_call 127;(with_reducible refine (Cd.out _).mono ?_);rintro e w1 ⟨rfl,hb1⟩;obtain ⟨hc1,hf1⟩:=bcell hb1))
   go_ret
   exact ⟨rfl,bcq⟩
 ·have hn:Cal.ahead (-40000)≤t/86400∧t/86400<Cal.ahead 40001:=by
   unfold RCiv.okN at hk
   simpa using hk
  rw [if_pos hn] at hY
  rw [hk,if_pos rfl, ←hY] at cd
  have Cf:=Lib.hid cf
  have Cd:=Lib.hid cd
  clear cf cd hk hn hY
  go_enter Tryz.func284,Tryz.ntmps284
  go_wp2_with (first|(go_at_call 128;(with_reducible refine (Cf.out _).mono ?_);rintro e w' ⟨rfl,rfl⟩)|(go_at_call 127;(with_reducible refine (Cd.out _).mono ?_);rintro e w1 ⟨rfl,hb1⟩;obtain ⟨hc1,hf1⟩:=bcell hb1))
  go_ret
  exact ⟨rfl,bcq⟩
set_option maxHeartbeats 1600000 in
theorem Nom (r:RuleV) (hr:r.Fit) (y:Int) (w:World):
 Calls Tryz.prog 285 #[.agg r.cells.toArray,.int .i64 y] w fun e w'=>e= .returned (.tuple #[.int .i64 (Nom.nomE r y).1,.int .i64 (Nom.nomE r y).2])∧Below w.heap.size w w':=by
 have cr:=RRule.Right r hr
 unfold Nom.nomE
 cases hR:Rul.right r
 ·rw [hR] at cr
  simp only [Bool.false_eq_true,if_false]
  unfold RuleV.cells at *
  have Cr:=Lib.hid cr
  clear cr hR
  go_enter Tryz.func285,Tryz.ntmps285
  go_wp2_with (go_at_call 194;(with_reducible refine (Cr.out _).mono ?_);rintro e w1 ⟨rfl,hb1⟩;obtain ⟨hc1_0,hf1_0,hz1_0⟩:=bcs hb1 (w.heap.size))
  go_ret2
  exact ⟨rfl,bcq⟩
 ·rw [hR] at cr
  simp only [if_true]
  have hy:=(Rul.right_spec hR).1
  by_cases hc1:y<r.fr
  ·rw [if_pos (.inl hc1)]
   unfold RuleV.cells at *
   have Cr:=Lib.hid cr
   clear cr hR
   go_enter Tryz.func285,Tryz.ntmps285
   go_wp2_with (go_at_call 194;(with_reducible refine (Cr.out _).mono ?_);rintro e w1 ⟨rfl,hb1⟩;obtain ⟨hc1_0,hf1_0,hz1_0⟩:=bcs hb1 (w.heap.size))
   go_ret2
   exact ⟨rfl,bcq⟩
  ·by_cases hc2:r.to<y
   ·rw [if_pos (.inr hc2)]
    unfold RuleV.cells at *
    have Cr:=Lib.hid cr
    clear cr hR
    go_enter Tryz.func285,Tryz.ntmps285
    go_wp2_with (go_at_call 194;(with_reducible refine (Cr.out _).mono ?_);rintro e w1 ⟨rfl,hb1⟩;obtain ⟨hc1_0,hf1_0,hz1_0⟩:=bcs hb1 (w.heap.size))
    go_ret2
    exact ⟨rfl,bcq⟩
   ·rw [if_neg (by omega)]
    have hf:=(Rul.right_spec hR).2.1
    obtain ⟨s0,s1⟩:=(Rul.right_spec hR).2.2.1.2.2
    obtain ⟨d0,d1⟩:=Nom.day_bd hf (y:=y) (by omega) (by omega)
    have cd:=fun W=>RDay.Days r.kind r.week r.day y r.month W
    rw [hf,if_pos rfl,if_pos ⟨by omega,by omega⟩] at cd
    unfold Occ.nomR
    generalize Day.dayI r.kind r.week r.day y r.month=d at *
    unfold RuleV.cells at *
    have Cr:=Lib.hid cr
    have Cd:=Lib.hid cd
    clear cr cd hR hf
    go_enter Tryz.func285,Tryz.ntmps285
    go_wp2_with (first|(go_at_call 194;(with_reducible refine (Cr.out _).mono ?_);rintro e w1 ⟨rfl,hb1⟩;obtain ⟨hc1_0,hf1_0,hz1_0⟩:=bcs hb1 (w.heap.size))|(go_at_call 243;(with_reducible refine (Cd.out _).mono ?_);rintro e w2 ⟨rfl,hb2⟩;obtain ⟨hc2_0,hf2_0,hz2_0⟩:=bcs hb2 (w.heap.size)))
    go_ret2
    exact ⟨rfl,bcq⟩
set_option maxHeartbeats 800000 in
theorem Less (a b:OccV) (w:World):Calls Tryz.prog 239 #[.agg a.cells.toArray,.agg b.cells.toArray] w fun e w'=>e= .returned (.bool (Occ.less a b))∧Below w.heap.size w w':=by
 obtain ⟨x,hx⟩:∃ x,x=Occ.less a b:=⟨_,rfl⟩
 rw [← hx]
 unfold Occ.less at hx
 unfold OccV.cells
 rcases Int.lt_trichotomy a.nom b.nom with h|h|h
 ·have e1:decide (a.nom<b.nom)=true:=by simpa using h
  rw [e1,Bool.true_or] at hx
  subst hx
  go_enter Tryz.func239,Tryz.ntmps239
  go_wp2
  try (go_quiet (fail);go_wp2)
  go_ret
  exact ⟨rfl,bcq⟩
 ·have e1:decide (a.nom<b.nom)=false:=by simp;omega
  have e2:(a.nom==b.nom)=true:=by simpa using h
  have e3:decide (a.nom=b.nom)=true:=by simpa using h
  rw [e1,e3,Bool.false_or,Bool.true_and] at hx
  subst hx
  have H:=Lib.hid h
  clear h
  go_enter Tryz.func239,Tryz.ntmps239
  go_wp2
  try (go_quiet (fail);go_wp2)
  go_ret
  exact ⟨rfl,bcq⟩
 ·have e1:decide (a.nom<b.nom)=false:=by simp;omega
  have e2:(a.nom==b.nom)=false:=by simp;omega
  have e3:decide (a.nom=b.nom)=false:=by simp;omega
  rw [e1,e3,Bool.false_or,Bool.false_and] at hx
  subst hx
  go_enter Tryz.func239,Tryz.ntmps239
  go_wp2
  try (go_quiet (fail);go_wp2)
  go_ret
  exact ⟨rfl,bcq⟩
end ROcc
end
section
namespace Grp
open Go.RowKit Go.ChangeMaps Go.MapKept Go.ChangeShapes
open Go.WideElems (Fit rd rg pl rd_val rd_mk other_key)
open Go.Maps (Keyed)
def R0 (_:Value):Option (DataW Unit×List MemPlace):=some (.nil,[])
def Rows (w:World) (P:Program) (k:TypeId) (base:Nat) (e:TypeId) (sz b n:Nat) (F:Value→List Value):Prop:=
 ∃ es clock,w.heap[b]? =some (.map es clock)∧Fit P k R0 es clock∧es.size≤n∧b<base∧
   (∀ x∈es.toList,∃ m,m≤n∧w.ownsRow base e sz x.val m (F x.key))∧(∀ key,(∀ x∈es.toList,x.key≠key)→F key=[])∧
   (∀ x∈es.toList,∀ y∈es.toList,x.key≠y.key→x.val.ownBlock=none∨x.val.ownBlock≠y.val.ownBlock)
open Classical in
noncomputable def upd (F:Value→List Value) (key:Value) (xs:List Value):Value→List Value:=fun y=>if y=key then xs else F y
variable {w:World} {P:Program} {k e:TypeId} {base sz b n:Nat} {F:Value→List Value}
def Back (w:World) (P:Program) (t k:TypeId) (base:Nat) (e:TypeId) (sz b n:Nat) (F:Value→List Value) (key v:Value):Prop:=
 ∀ (w1:World) (v':Value) (xs':List Value) (m':Nat),w.grownBy w1 v.ownBlock→w1.ownsRow base e sz v' m' xs'→m'≤n+1→(v'.ownBlock=v.ownBlock∨∃ g,v'.ownBlock=some g∧w.heap.size≤g)→
   ∃ w2,(Instr.mapUpdate t (.map (some b)) key v').run P w1= .ok () w2∧Rows w2 P k base e sz b (n+1) (upd F key xs')∧w1.grownBy w2 (some b)
theorem own_cell {w:World} {base:Nat} {e:TypeId} {sz m j:Nat} {v:Value} {xs:List Value} (h:w.ownsRow base e sz v m xs) (hj:j<m):
 ∃ g,(∃ cap,v= .slice (some ⟨g,0,none⟩) m cap)∧base≤g∧g<w.heap.size∧∀ c u,xs[c]? =some u→w.cell? ⟨g,c,none⟩=some u:=by
 rcases h.2 with ⟨rfl,h0⟩|⟨g,cap,cur,rfl,hg,hh,hn,hcap,hsz,ht⟩
 ·omega
 ·refine ⟨g,⟨cap,rfl⟩,hg,(Array.getElem?_eq_some_iff.1 hh).1,fun c u hu=> ?_⟩
  rw [cell_of_row w g c cur e (0,0) hh]
  rw [← ht] at hu
  rw [List.getElem?_take] at hu
  split at hu
  ·simpa using hu
  ·cases hu
theorem own_form {w:World} {base:Nat} {e:TypeId} {sz m:Nat} {v:Value} {xs:List Value} (h:w.ownsRow base e sz v m xs):∃ q cap,v= .slice q m cap:=by
 rcases h.2 with ⟨rfl,h0⟩|⟨g,cap,cur,rfl,_⟩
 ·exact ⟨none,0,by rw [h0]⟩
 ·exact ⟨_,_,rfl⟩
theorem flat_at {α:Type} {f:α→List Value} {sz:Nat} (hf:∀ x,(f x).length=sz):∀ (l:List α) (j c:Nat) (x:α) (u:Value),l[j]? =some x→(f x)[c]? =some u→(l.flatMap f)[j*sz+c]? =some u
 | [],j,c,x,u,h,_=>by simp at h
 |y :: r,0,c,x,u,h,hc=>by
  simp at h
  subst h
  rw [List.flatMap_cons,Nat.zero_mul,Nat.zero_add,List.getElem?_append_left (List.getElem?_eq_some_iff.1 hc).1]
  exact hc
 |y :: r,j+1,c,x,u,h,hc=>by
  rw [List.flatMap_cons,List.getElem?_append_right (by rw [hf,Nat.succ_mul];omega),hf]
  have:=flat_at hf r j c x u (by simpa using h) hc
  rw [show (j+1)*sz+c-sz=j*sz+c by rw [Nat.succ_mul];omega]
  exact this
end Grp
end
section
open Go.RowKit NB
namespace ROcc
def occs (r:RuleV) (i y:Int) (n:Nat):List OccV:=(List.range n).map fun j=>Occ.occ r i (y+(j:Nat))
theorem occs_succ (r:RuleV) (i y:Int) (n:Nat):(occs r i y (n+1)).flatMap OccV.cells=(occs r i y n).flatMap OccV.cells++[.int .i64 i,.int .i64 (y+n),.int .i64 (Occ.nomR r (y+n))]:=by
 unfold occs
 rw [List.range_succ,List.map_append,List.flatMap_append]
 rfl
theorem occs_len (r:RuleV) (i y:Int) (n:Nat):(occs r i y n).length=n:=by unfold occs;simp
theorem occs_at {r:RuleV} {i y:Int} {n j:Nat} (h:j<n):(occs r i y n)[j]? =some (Occ.occ r i (y+j)):=by
 unfold occs
 rw [List.getElem?_map,List.getElem?_range h]
 rfl
def aroundL (r:RuleV) (i Y:Int):List OccV:=if Rul.right r then occs r i (Occ.lowA r Y) (Occ.highA r Y-Occ.lowA r Y+1).toNat else []
def AroundPost (B:Nat) (w:World) (l:List OccV) (e:Ending) (w':World):Prop:=∃ v,e= .returned v∧w'.ownsRow B 156 3 v l.length (l.flatMap OccV.cells)∧Below w.heap.size w w'
theorem info_occ:(Tryz.prog.info? 156).map (fun i=>(i.zero,i.size,i.bytes))=some (some (.agg #[.int .i64 0,.int .i64 0,.int .i64 0]),3,24):=by kernel_rfl
theorem news3 {w:World} {b:Nat} {cs:Array Value} {t:TypeId} (h:Box w b cs t):∀ j u,cs.toList[j]? =some u→w.cell? ((⟨b,0,none⟩:Addr).add j)=some u:=by
 intro j u hu
 have hadd:(⟨b,0,none⟩:Addr).add j=⟨b,j,none⟩:=by unfold Addr.add;split<;>simp_all
 rw [hadd,h.cell]
 simpa using hu
theorem own_later {w w':World} {B:Nat} {e:TypeId} {sz n:Nat} {v:Value} {xs:List Value} (h:w.ownsRow B e sz v n xs) (hb:Below w.heap.size w w'):w'.ownsRow B e sz v n xs:=by
 refine ⟨h.1,h.2.imp id ?_⟩
 rintro ⟨g,cap,cur,h1,h2,h3,h4⟩
 exact ⟨g,cap,cur,h1,h2,(hb.block g (Array.getElem?_eq_some_iff.1 h3).1).trans h3,h4⟩
theorem own_mono {w:World} {B B':Nat} {e:TypeId} {sz n:Nat} {v:Value} {xs:List Value} (h:w.ownsRow B e sz v n xs) (hB:B'≤B):w.ownsRow B' e sz v n xs:=by
 refine ⟨h.1,h.2.imp id ?_⟩
 rintro ⟨g,cap,cur,h1,h2,h3⟩
 exact ⟨g,cap,cur,h1,by omega,h3⟩
theorem own_row {w:World} {B:Nat} {e:TypeId} {sz n:Nat} {v:Value} {xs:List Value} (h:w.ownsRow B e sz v n xs):∀ k,v.ownBlock=some k→B≤k:=by
 intro k hk
 rcases h.2 with ⟨h1,_⟩|⟨g,cap,cur,h1,h2,_⟩
 ·rw [h1] at hk;cases hk
 ·rw [h1] at hk;cases hk;exact h2
theorem Box.new' {X:World} {n:Nat} {cs:Array Value} {t:TypeId} (h:n=X.heap.size):Box (X.alloc (.cells cs t)) n cs t:=h ▸ Box.new X cs t
theorem Box.grown {X Y:World} {b B:Nat} {cs:Array Value} {t:TypeId} {row:Option Nat} (h:Box X b cs t) (hg:X.grownBy Y row) (hr:∀ k,row=some k→B≤k) (hb:b<B):Box Y b cs t:=
 (hg.block b h.lt (fun e=>by have:=hr b e.symm;omega)).trans h
theorem nearA_bd (t:Int): -50000≤Occ.nearA t∧Occ.nearA t≤50000:=by
 unfold Occ.nearA
 split
 ·rename_i h
  rw [RCiv.ahead_lo,RCiv.ahead_hi] at h
  have:=RCiv.dY_bd _ h.1 h.2
  omega
 ·split<;>omega
set_option maxRecDepth 100000 in
set_option maxHeartbeats 6400000 in
theorem around (r:RuleV) (hr:r.Fit) (i t:Int) (ht:I64 t) (w:World):Calls Tryz.prog 238 #[.agg r.cells.toArray,.int .i64 i,.int .i64 t] w (AroundPost w.heap.size w (aroundL r i (Occ.nearA t))):=by
 have cr:=RRule.Right r hr
 have cn:=near t ht
 have hYb:=nearA_bd t
 generalize Occ.nearA t=Y at *
 unfold aroundL
 cases hR:Rul.right r
 ·rw [hR] at cr
  rw [if_neg (by decide)]
  unfold RuleV.cells at *
  have Cr:=Lib.hid cr
  clear cr hR cn
  go_enter Tryz.func238,Tryz.ntmps238
  go_wp2_with (go_at_call 194;(with_reducible refine (Cr.out _).mono ?_);rintro e w1 ⟨rfl,hb1⟩;obtain ⟨hc1_0,hf1_0,hz1_0⟩:=bcs hb1 (w.heap.size))
  go_ret
  exact ⟨_,rfl,⟨rfl,.inl ⟨rfl,rfl⟩⟩,bcq⟩
 ·rw [hR] at cr
  rw [if_pos rfl]
  have hy:=(Rul.right_spec hR).1
  obtain ⟨a1,a2,a3⟩:=Occ.low_high hR Y
  have hlo:Occ.lowA r Y=(if r.to<max r.fr (Y-2) then r.to else if min r.to (Y+2)<r.fr then r.fr else max r.fr (Y-2)):=rfl
  have hhi:Occ.highA r Y=(if r.to<max r.fr (Y-2) then r.to else if min r.to (Y+2)<r.fr then r.fr else min r.to (Y+2)):=rfl
  generalize Occ.lowA r Y=lo at *
  generalize Occ.highA r Y=hi at *
  have hn5:(hi-lo+1).toNat≤70000:=by omega
  obtain ⟨n,hn⟩:∃ n,n=(hi-lo+1).toNat:=⟨_,rfl⟩
  rw [← hn] at hn5 ⊢
  have hnom:∀ y:Int,lo≤y→y≤hi→Nom.nomE r y=(Occ.nomR r y,0):=by
   intro y h1 h2
   unfold Nom.nomE
   rw [hR,if_pos rfl,if_neg (by omega)]
  have cm:∀ (y:Int),lo≤y→y≤hi→∀ W,Calls Tryz.prog 285 #[.agg r.cells.toArray,.int .i64 y] W fun e w'=>e= .returned (.tuple #[.int .i64 (Occ.nomR r y),.int .i64 0])∧Below W.heap.size W w':=by
   intro y h1 h2 W
   have:=Nom r hr y W
   rw [hnom y h1 h2] at this
   exact this
  have HR:=Lib.hid hR
  have Hn:=Lib.hid hn
  unfold RuleV.cells at *
  have Cr:=Lib.hid cr
  have Cn:=Lib.hid cn
  have Cm:=Lib.hid cm
  clear cr cn cm hnom hR hn
  obtain ⟨i0,hi0,hz0,hz1,hz2⟩:=info_parts info_occ
  by_cases hA:r.to<max r.fr (Y-2)
  case' pos=>
   rw [if_pos hA] at hlo hhi
   have hsel:(lo≤r.to∧r.to≤lo)∧(hi≤r.to∧r.to≤hi):=by omega
  case' neg=>
   rw [if_neg hA] at hlo hhi
   by_cases hB:min r.to (Y+2)<r.fr
   case' pos=>
    rw [if_pos hB] at hlo hhi
    have hsel:(lo≤r.fr∧r.fr≤lo)∧(hi≤r.fr∧r.fr≤hi):=by omega
   case' neg=>
    rw [if_neg hB] at hlo hhi
    have hsel:(lo≤max r.fr (Y-2)∧max r.fr (Y-2)≤lo)∧(hi≤min r.to (Y+2)∧min r.to (Y+2)≤hi):=by omega
  all_goals
   clear hlo hhi
   go_enter Tryz.func238,Tryz.ntmps238
   go_wp2_with (first|(go_at_call 194;(with_reducible refine (Cr.out _).mono ?_);rintro e w1 ⟨rfl,hb1⟩;obtain ⟨hc1_0,hf1_0,hz1_0⟩:=bcs hb1 (w.heap.size))|(go_at_call 284;(with_reducible refine (Cn.out _).mono ?_);rintro e w2 ⟨rfl,hb2⟩;obtain ⟨hc2_0,hf2_0,hz2_0⟩:=bcs hb2 (w.heap.size)))
   obtain ⟨N,hN0,hN1⟩:∃ N,N≤w2.heap.size∧w2.heap.size≤N:=⟨_,Nat.le_refl _,Nat.le_refl _⟩
   have hbx:Box w2 w.heap.size #[.string r.name,.int .i64 r.fr,.int .i64 r.to,.int .i64 r.month,.int .i64 r.kind,.int .i64 r.week,.int .i64 r.day,.int .i64 r.sec,.int .i64 r.base,.int .i64 r.save,.string r.letter] 57:=bxq
   have hB:Below w.heap.size w w2:=bcq
   go_region
   go_wp2
   try (go_quiet (fail);go_wp2)
   clear hb1 hc1_0 hf1_0 hb2 hc2_0 hf2_0
   have hBs:=hB.size
   have hxl:=hbx.lt
   go_loopw [7,11] (fun o y wr=>∃ (k:Nat) (v:Value),o=v∧y= .int .i64 (lo+k)∧k≤n∧wr.ownsRow N 156 3 v k ((occs r i lo k).flatMap OccV.cells)∧Below w.heap.size w wr∧N≤wr.heap.size∧Box wr w.heap.size #[.string r.name,.int .i64 r.fr,.int .i64 r.to,.int .i64 r.month,.int .i64 r.kind,.int .i64 r.week,.int .i64 r.day,.int .i64 r.sec,.int .i64 r.base,.int .i64 r.save,.string r.letter] 57) (fun _ y _=>match y with|.int _ q=>(hi-q+1).toNat|_=>0)
   case atStart=>exact ⟨0,_,rfl,by congr 1;omega,Nat.zero_le _,⟨rfl,.inl ⟨rfl,rfl⟩⟩,bcq,hN0,bxq⟩
   case round=>
    obtain ⟨k,v,rfl,rfl,hk,hown,hbel,hsz,hbox⟩:=hrel
    clear hB hbx
    have u0:=hbox.lt
    have f0:=hbox.cell
    have hnn:=Hn.out
    by_cases hlt:k<n
    ·have q0:lo+k≤hi:=by omega
     have Hnn:=Lib.hid hnn
     have Hown:=Lib.hid hown
     clear hnn hown
     go_wp2_with (first
      |(go_at_call 285;(with_reducible refine (Cm.out _ (by omega) q0 _).mono ?_);rintro e w3 ⟨rfl,hb3⟩;obtain ⟨hc3_0,hf3_0,hz3_0⟩:=bcs hb3 (w.heap.size))
      |(at_builtin;refine wpList_append_own _ (by rfl) _ _ 268 (by rfl) N 156 i0 _ 3 24 Tryz.underlying268 hi0 hz0 hz1 hz2 (by rfl) (by decide) _ k _ (by rfl) ((own_later Hown.out hb3).alloc _) ⟨w3.heap.size,0,none⟩ 1 1 [.int .i64 i,.int .i64 (lo+k),.int .i64 (Occ.nomR r (lo+k))] (by rfl) (by rfl) (news3 (cs:= #[.int .i64 i,.int .i64 (lo+k),.int .i64 (Occ.nomR r (lo+k))]) (t:=156) (Box.new _ _ _)) ?_ ?_ ?_ ?_ ?_;(· intro u hu;simp only [List.mem_cons,List.not_mem_nil,or_false] at hu;rcases hu with rfl|rfl|rfl<;>rfl);(· unfold maxLen;omega);(· omega);(· have:=hb3.size;simp;omega);intro v' w4 hown' hgrow _))
     have hbb:Below w.heap.size w (w3.alloc (.cells #[.int .i64 i,.int .i64 (lo+k),.int .i64 (Occ.nomR r (lo+k))] 156)):=bcq
     have hb4:Below w.heap.size w w4:=hbb.grown hgrow hbb.size (fun j e=>by have:=own_row Hown.out j e;omega)
     have hx4:Box w4 w.heap.size #[.string r.name,.int .i64 r.fr,.int .i64 r.to,.int .i64 r.month,.int .i64 r.kind,.int .i64 r.week,.int .i64 r.day,.int .i64 r.sec,.int .i64 r.base,.int .i64 r.save,.string r.letter] 57:=Box.grown (Box.old (Box.later hbox hb3)) hgrow (own_row Hown.out) (by omega)
     have hs4:N≤w4.heap.size:=by
      have h1:=hgrow.size
      have h2:=hb3.size
      simp only [World.size_alloc] at h1
      omega
     go_roundw
     case rel=>exact ⟨k+1,v',rfl,by go_num,by omega,by rw [occs_succ];exact hown',hb4,hs4,hx4⟩
     case measure=>simp;omega
    ·go_wp2
     go_ret
     obtain rfl:k=n:=by omega
     exact ⟨_,rfl,by rw [occs_len];exact own_mono hown (by omega),hbel⟩
end ROcc
end
end Go.Proofs.YtgmfojgnjdpofaaGreatDoor
