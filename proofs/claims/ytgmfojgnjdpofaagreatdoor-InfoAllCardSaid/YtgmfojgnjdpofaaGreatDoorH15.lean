import Derived.Test.YtgmfojgnjdpofaaGreatDoorH2
import Derived.Deep.DeepCutAuto
import Derived.Deep.RegionHeld3
import Derived.Test.YtgmfojgnjdpofaaGreatDoorH3
import Derived.Test.YtgmfojgnjdpofaaGreatDoorH11
import Derived.Deep.AppendLies
import Derived.Test.YtgmfojgnjdpofaaGreatDoorH4
import Derived.Test.YtgmfojgnjdpofaaGreatDoorH14
import Derived.Test.YtgmfojgnjdpofaaGreatDoorH8
import Derived.Test.YtgmfojgnjdpofaaGreatDoorH1
import Derived.Deep.Slices
import Derived.SizedLaws
import Derived.Laws.AppendOwn
import Derived.Test.YtgmfojgnjdpofaaGreatDoorProg
import Derived.WalkKit
import Derived.Deep.QuietTactic
import Derived.BigQuiet
import Derived.Maps.AppendAt
import Derived.Maps.OwnIn
import Derived.Maps.OwnSet
import Derived.Sort.KeysCollected
import Derived.WideKeyEntry
namespace Go.Proofs.YtgmfojgnjdpofaaGreatDoor
open Go.Proofs.Tryz
section
open Go.RowKit NB
namespace Apt
def wLow (r:RuleV):Int:=(Cal.cum 2001 r.month+1+Day.winLow r.kind r.day r.month-2)*86400+r.sec
def wHigh (r:RuleV):Int:=(Cal.cum 2001 r.month+1+Day.winHigh r.kind r.day r.month-2)*86400+r.sec
theorem win_bd {k wk d m:Int} (h:Day.fits k wk d m=true): -10≤Day.winLow k d m∧Day.winLow k d m≤40∧ -10≤Day.winHigh k d m∧Day.winHigh k d m≤40:=by
 obtain ⟨_,_,_,_⟩:=Day.days31 h;have h1:=Cal.len_le 1 m;have h4:=Cal.len_le 4 m;obtain ⟨h1m,h2m,_,_⟩:=Day.fits_spec h;have h5:=Cal.len_bd 1 m h1m h2m;unfold Day.winLow Day.winHigh
 repeat' split
 all_goals omega
end Apt
end
section
open Go.RowKit NB
namespace Apt
def meetB (a b:RuleV) (n:Int):Bool:=decide (a.fr+n≤b.to)&&decide (b.fr≤a.to+n)
def Yr (r:RuleV):Prop:=(-100000≤r.fr∧r.fr≤100000)∧(-100000≤r.to∧r.to≤100000)
def clearB (h l n:Int):Bool:=decide (345600≤l+n-h)
def Sm (n:Int):Prop:= -1000000000000≤n∧n≤1000000000000
structure Ok (r:RuleV):Prop where
 f:Day.fits r.kind r.week r.day r.month=true
 s0:0≤r.sec
 s1:r.sec≤172800
 y:Yr r
theorem win_sm {r:RuleV} (h:Ok r):Sm (wLow r)∧Sm (wHigh r):=by
 obtain ⟨m1,m2,_,_⟩:=Day.fits_spec h.f;obtain ⟨b1,b2,b3,b4⟩:=win_bd h.f;have hc1:=Cal.cum_bd 2001 r.month m1 m2;have hlp:=Cal.lp_01 2001;have hlen:=Cal.len_bd 2001 r.month m1 m2;have:=h.s0;have:=h.s1;unfold Sm wLow wHigh;omega
def nearB (a b:RuleV):Bool:=(meetB a b 0&& !clearB (wHigh a) (wLow b) 0&& !clearB (wHigh b) (wLow a) 0)||(meetB a b 1&& !clearB (wHigh a) (wLow b) 31536000)||(meetB b a 1&& !clearB (wHigh b) (wLow a) 31536000)
end Apt
end
section
open Go.RowKit NB
namespace Apt
theorem ok_of {r:RuleV} (h:Rul.right r=true):Ok r:=by
 obtain ⟨h1,h2,h3,_⟩:=Rul.right_spec h;refine ⟨h2,h3.2.2.1,h3.2.2.2,?_⟩;unfold Yr;omega
def pairE (a b:RuleV):Int:=if Rul.right a&&Rul.right b then (if nearB a b then 15 else 0) else 4
end Apt
end
section
open Go.RowKit NB
namespace Chk
def firstBad (r:RuleV):List RuleV→Int
 | []=>0
 |x :: xs=>if Apt.pairE x r=0 then firstBad r xs else Apt.pairE x r
def same (r:RuleV) (done:List RuleV):List RuleV:=done.filter fun x=>decide (x.name=r.name)
def scan:List RuleV→List RuleV→Int→Int×Int
 |_,[],_=>(-1,0)
 |done,r :: rs,i=>if firstBad r (same r done)=0 then scan (done++[r]) rs (i+1) else (i,firstBad r (same r done))
def check (l:List RuleV):Int×Int:=scan [] l 0
theorem check_at {l:List RuleV} {k:Nat} {r:RuleV} (hr:l[k]? =some r):scan (l.take k) (l.drop k) k=if firstBad r (same r (l.take k))=0 then scan (l.take (k+1)) (l.drop (k+1)) (k+1:Nat) else (k,firstBad r (same r (l.take k))):=by
 obtain ⟨hk,rfl⟩:=List.getElem?_eq_some_iff.1 hr;rw [List.drop_eq_getElem_cons hk,scan,List.take_add_one,hr];rfl
def F (done:List RuleV):Value→List Value
 | .string s=>(done.filter fun x=>decide (x.name=s)).flatMap RuleV.cells
 |_=>[]
theorem info_rule:(prog.info? 57).map (fun i=>(i.zero,i.size,i.bytes))=some (some (.agg #[.string .empty,.int .i64 0,.int .i64 0,.int .i64 0,.int .i64 0,.int .i64 0,.int .i64 0,.int .i64 0,.int .i64 0,.int .i64 0,.string .empty]),11,104):=by kernel_rfl
theorem cells_len (r:RuleV):r.cells.length=11:=rfl
def Post (X:Int×Int) (w:World) (e:Ending) (w':World):Prop:=e=.returned (.tuple #[.int .i64 X.1,.int .i64 X.2])∧Below w.heap.size w w'
end Chk
end
section
open Go.RowKit NB
namespace Far
theorem cum_2001 (y m:Int) (h1:1≤m) (h2:m≤12):Cal.cum y m=Cal.cum 2001 m+(if 3≤m then Cal.lp y else 0):=by
 have e:Cal.lp 2001=0:=by decide
 unfold Cal.cum;rw [e];rcases Cal.months h1 h2 with rfl|rfl|rfl|rfl|rfl|rfl|rfl|rfl|rfl|rfl|rfl|rfl<;>simp
def sh (m y:Int):Int:=if 3≤m then Cal.lp y else 0
theorem nom_win {r:RuleV} (hr:Rul.right r=true) (y:Int):Cal.ahead y*86400+Apt.wLow r+sh r.month y*86400≤Occ.nomR r y∧Occ.nomR r y≤Cal.ahead y*86400+Apt.wHigh r+sh r.month y*86400:=by
 have hf:=(Rul.right_spec hr).2.1;obtain ⟨m1,m2,hd,hk⟩:=Day.fits_spec hf;have hc:=cum_2001 y r.month m1 m2;have h1:=Day.days31 hf;have hl1:Cal.len 1 r.month≤Cal.len y r.month:=by
  have e:Cal.lp 1=0:=by decide
  have:=Cal.lp_01 y;unfold Cal.len;rw [e]
  split
  ·omega
  ·split
   ·omega
   ·split<;>omega
 have hl4:Cal.len y r.month≤Cal.len 4 r.month:=by
  have e:Cal.lp 4=1:=by decide
  have:=Cal.lp_01 y;unfold Cal.len;rw [e]
  split
  ·omega
  ·split
   ·omega
   ·split<;>omega
 unfold Occ.nomR Apt.wLow Apt.wHigh Day.dayI Day.winLow Day.winHigh sh;have hdays:Cal.days y r.month 1=Cal.ahead y+Cal.cum y r.month:=by unfold Cal.days;omega
 rw [hdays,hc];generalize (if 3≤r.month then Cal.lp y else 0)=s;have b1:=Day.backI_bd (Cal.ahead y+(Cal.cum 2001 r.month+s)+Cal.len y r.month-1) r.week;have b2:=Day.backI_bd (Cal.ahead y+(Cal.cum 2001 r.month+s)+r.day-1+6) r.week;have b3:=Day.backI_bd (Cal.ahead y+(Cal.cum 2001 r.month+s)+r.day-1) r.week;rcases hk with ⟨e,_⟩|⟨e,_⟩|⟨e|e,_⟩<;>rw [e]<;>simp only [Int.reduceEq,if_true,if_false]<;>omega
theorem win_lo {r:RuleV} (hr:Rul.right r=true):(r.month≤2→Apt.wLow r≤5270400)∧(3≤r.month→5097600≤Apt.wHigh r)∧ -950400≤Apt.wLow r∧Apt.wHigh r≤36000000:=by
 have hf:=(Rul.right_spec hr).2.1;obtain ⟨m1,m2,hd,hk⟩:=Day.fits_spec hf;have hs:=(Rul.right_spec hr).2.2.1;have hb:=Cal.cum_bd 2001 r.month m1 m2;have e:Cal.lp 2001=0:=by decide
 have e1:Cal.lp 1=0:=by decide
 have e4:Cal.lp 4=1:=by decide
 have hc:(r.month≤2→Cal.cum 2001 r.month≤31)∧(3≤r.month→59≤Cal.cum 2001 r.month):=by
  unfold Cal.cum;rw [e];rcases Cal.months m1 m2 with h|h|h|h|h|h|h|h|h|h|h|h<;>rw [h]<;>simp
 have hl:=Cal.len_bd 1 r.month m1 m2;have hl4:=Cal.len_bd 4 r.month m1 m2;have hl2:r.month=2→Cal.len 1 r.month=28:=by intro h;rw [h];decide
 have hc1:r.month=1→Cal.cum 2001 r.month=0:=by intro h;rw [h];decide
 have h2001:=Cal.len_le 2001 r.month;unfold Apt.wLow Apt.wHigh Day.winLow Day.winHigh;rcases hk with ⟨e',h⟩|⟨e',h⟩|⟨e'|e',h⟩<;>rw [e']<;>simp only [Int.reduceEq,if_true,if_false]<;>omega
theorem far_same {r:RuleV} (hr:Rul.right r=true) {y y':Int} (h:y<y'):Occ.nomR r y+345600≤Occ.nomR r y':=by
 have:=Occ.nom_mono hr h;omega
theorem far_two {a b:RuleV} (ha:Rul.right a=true) (hb:Rul.right b=true) (hn:Apt.nearB a b=false) {y y':Int} (h1:a.fr≤y) (h2:y≤a.to) (h3:b.fr≤y') (h4:y'≤b.to):
 Occ.nomR a y+345600≤Occ.nomR b y'∨Occ.nomR b y'+345600≤Occ.nomR a y:=by
 have wa:=nom_win ha y;have wb:=nom_win hb y';have la:=win_lo ha;have lb:=win_lo hb;have p1:=Cal.lp_01 y;have p2:=Cal.lp_01 y';have sa:0≤sh a.month y∧sh a.month y≤Cal.lp y∧(3≤a.month→sh a.month y=Cal.lp y)∧(a.month≤2→sh a.month y=0):=by
  unfold sh;split<;>omega
 have sb:0≤sh b.month y'∧sh b.month y'≤Cal.lp y'∧(3≤b.month→sh b.month y'=Cal.lp y')∧(b.month≤2→sh b.month y'=0):=by
  unfold sh;split<;>omega
 unfold Apt.nearB Apt.meetB Apt.clearB at hn;simp only [Bool.or_eq_false_iff,Bool.and_eq_false_iff,decide_eq_false_iff_not,Bool.not_eq_false',decide_eq_true_eq] at hn;obtain ⟨⟨n0,n1⟩,n2⟩:=hn;rcases (by omega:y=y'∨y'=y+1∨y=y'+1∨y+2≤y'∨y'+2≤y) with h|h|h|h|h
 ·subst h;rcases (by omega:Apt.wHigh a+345600≤Apt.wLow b∨Apt.wHigh b+345600≤Apt.wLow a) with g|g
  ·left
   rcases (by omega:a.month≤2∨3≤a.month) with e|e<;>rcases (by omega:b.month≤2∨3≤b.month) with e'|e'<;>omega
  ·right
   rcases (by omega:a.month≤2∨3≤a.month) with e|e<;>rcases (by omega:b.month≤2∨3≤b.month) with e'|e'<;>omega
 ·subst h;have:=Cal.ahead_succ y
  left;omega
 ·subst h;have:=Cal.ahead_succ y'
  right;omega
 ·have:=Cal.ahead_mono (show y≤y' by omega)
  left;omega
 ·have:=Cal.ahead_mono (show y'≤y by omega)
  right;omega
theorem bad_none {r:RuleV}:∀ {l:List RuleV},Chk.firstBad r l=0→∀ x∈l,Apt.pairE x r=0
 | [],_,x,hx=>by cases hx
 |y :: ys,h,x,hx=>by
  unfold Chk.firstBad at h
  by_cases hy:Apt.pairE y r=0
  ·rw [if_pos hy] at h;rcases List.mem_cons.1 hx with rfl|hx
   ·exact hy
   ·exact bad_none h x hx
  ·rw [if_neg hy] at h;exact absurd h hy
theorem scan_none:∀ (rs done:List RuleV) (i:Int),(Chk.scan done rs i).2=0→∀ (j:Nat) (r:RuleV),rs[j]? =some r→∀ x,x∈done++rs.take j→x.name=r.name→Apt.pairE x r=0
 | [],_,_,_,j,r,h,_,_,_=>by simp at h
 |s :: rs,done,i,h,j,r,hj,x,hx,hn=>by
  unfold Chk.scan at h
  by_cases hb:Chk.firstBad s (Chk.same s done)=0
  ·rw [if_pos hb] at h;cases j with
   |zero=>
    simp at hj;subst hj;simp at hx;refine bad_none hb x ?_;unfold Chk.same;rw [List.mem_filter];exact ⟨hx,by simpa using hn⟩
   |succ j=>
    refine scan_none rs (done++[s]) (i+1) h j r (by simpa using hj) x ?_ hn
    simpa using hx
  ·rw [if_neg hb] at h;exact absurd h hb
theorem check_none {l:List RuleV} (h:(Chk.check l).2=0) {i j:Nat} {a b:RuleV} (hi:l[i]? =some a) (hj:l[j]? =some b) (hij:i<j) (hn:a.name=b.name):Apt.pairE a b=0:=by
 refine scan_none l [] 0 h j b hj a ?_ hn;rw [List.nil_append,List.mem_iff_getElem?];exact ⟨i,by rw [List.getElem?_take,if_pos hij];exact hi⟩
theorem pair_near {a b:RuleV} (ha:Rul.right a=true) (hb:Rul.right b=true) (h:Apt.pairE a b=0):Apt.nearB a b=false:=by
 unfold Apt.pairE at h;rw [ha,hb] at h;cases hn:Apt.nearB a b
 ·rfl
 ·rw [hn] at h;simp at h
theorem far {l:List RuleV} (h:(Chk.check l).2=0) {name:ByteArray} {o p:OccV} (ho:Occ.All l name l.length o) (hp:Occ.All l name l.length p) (hl:Occ.less o p=true):o.nom+345600≤p.nom:=by
 obtain ⟨i,a,_,hi,na,ra,a1,a2,a3⟩:=ho;obtain ⟨j,b,_,hj,nb,rb,b1,b2,b3⟩:=hp;have e1:o.nom=Occ.nomR a o.year:=by rw [a3];rfl
 have e2:p.nom=Occ.nomR b p.year:=by rw [b3];rfl
 have e3:o.rule=i:=by rw [a3];rfl
 have e4:p.rule=j:=by rw [b3];rfl
 have hl':=Occ.less_iff.1 hl;rw [e1,e2] at hl' ⊢;rcases Nat.lt_trichotomy i j with hij|hij|hij
 ·have:=far_two ra rb (pair_near ra rb (check_none h hi hj hij (na.trans nb.symm))) a1 a2 b1 b2;omega
 ·subst hij;rw [hi] at hj;cases hj;have:=Occ.nom_lt ra (y:=o.year) (y':=p.year);have hy:o.year<p.year:=by omega
  exact far_same ra hy
 ·have:=far_two rb ra (pair_near rb ra (check_none h hj hi hij (nb.trans na.symm))) b1 b2 a1 a2;omega
end Far
end
section
open Go.RowKit
structure ValV where
 off:Int
 save:Int
 abbr:ByteArray
deriving DecidableEq
def ValV.cells (v:ValV):List Value:=[.int .i64 v.off,.int .i64 v.save,.string v.abbr]
namespace Frc
def valR (e:EraV) (save:Int) (letter:ByteArray):ValV:=⟨wrap64 (e.off+save),save,(Fmt.abbrF e.format (wrap64 (e.off+save)) save letter).1⟩
def valO (e:EraV) (r:RuleV):ValV:=valR e r.save r.letter
def valAt (l:List RuleV) (e:EraV) (i:Int):ValV:=match Chn.ruleAt l i with|some r=>valO e r|none=>⟨0,0,⟨#[]⟩⟩
def firstV (l:List RuleV) (e:EraV):ValV:=match l.find? (fun r=>decide (r.name=e.rules)&&decide (r.save=0)) with|some r=>valR e 0 r.letter|none=>valR e 0 ⟨#[]⟩
noncomputable def lastP (l:List RuleV) (e:EraV) (t:Int):Option OccV:=Chn.lastO l e.rules e.off t
noncomputable def stateV (l:List RuleV) (e:EraV) (t:Int):ValV:=match lastP l e t with|some o=>valAt l e o.rule|none=>firstV l e
noncomputable def atV (l:List RuleV) (e:EraV) (t:Int):ValV×Int:=if Er.rightB e then (if e.kind=2 then (stateV l e t,0) else (valR e e.save ⟨#[]⟩,0)) else (⟨0,0,⟨#[]⟩⟩,4)
def othV (l:List RuleV) (e:EraV) (v:ValV):List RuleV:=l.map fun r=>if r.name=e.rules∧valO e r=v then { r with name:=⟨#[]⟩} else r
def startO:OccV:=⟨-1,0, -2192387558400⟩
noncomputable def nextF (l:List RuleV) (e:EraV) (t:Int):Option OccV:=Occ.nextO (othV l e (stateV l e t)) e.rules ((lastP l e t).getD startO)
noncomputable def prevF (l:List RuleV) (e:EraV) (t:Int):Option OccV:=match lastP l e t with
 |none=>none
 |some o=>match Occ.prevO (othV l e (stateV l e t)) e.rules o with
  |some x=>Occ.nextO l e.rules x
  |none=>if firstV l e=stateV l e t then none else Occ.nextO l e.rules startO
def tell (l:List RuleV) (e:EraV):Option OccV→Int×Bool|some o=>(Chn.inst l e.rules e.off o,true)|none=>(0,false)
noncomputable def nextV (l:List RuleV) (e:EraV) (t:Int):Int×Bool:=if Er.rightB e=true∧e.kind=2 then tell l e (nextF l e t) else (0,false)
noncomputable def prevV (l:List RuleV) (e:EraV) (t:Int):Int×Bool:=if Er.rightB e=true∧e.kind=2 then tell l e (prevF l e t) else (0,false)
theorem oth_len (l:List RuleV) (e:EraV) (v:ValV):(othV l e v).length=l.length:=by unfold othV;simp
theorem rule_of {l:List RuleV} {name:ByteArray} {n:Nat} {o:OccV} (h:Occ.All l name n o):∃ (i:Nat) (r:RuleV),o.rule=i∧i<n∧l[i]? =some r∧r.name=name∧Rul.right r=true:=by
 obtain ⟨i,r,hi,hr,hn,hR,_,_,e⟩:=h;exact ⟨i,r,by rw [e];rfl,hi,hr,hn,hR⟩
theorem val_rule {l:List RuleV} {e:EraV} {i:Nat} {r:RuleV} (h:l[i]? =some r):valAt l e (i:Int)=valO e r:=by
 unfold valAt;rw [Chn.rule_at h]
theorem all_oth {l:List RuleV} {e:EraV} {v:ValV} {n:Nat} {o:OccV} (hn:e.rules≠⟨#[]⟩):Occ.All (othV l e v) e.rules n o↔Occ.All l e.rules n o∧valAt l e o.rule≠v:=by
 constructor
 ·rintro ⟨i,r,hi,hr,hnm,hR,hof⟩;unfold othV at hr;rw [List.getElem?_map] at hr;cases h0:l[i]? with
  |none=>rw [h0] at hr;cases hr
  |some r0=>
   rw [h0] at hr;simp only [Option.map_some,Option.some.injEq] at hr
   by_cases hc:r0.name=e.rules∧valO e r0=v
   ·rw [if_pos hc] at hr;subst hr;exact absurd hnm.symm hn
   ·rw [if_neg hc] at hr;subst hr;refine ⟨⟨i,r0,hi,h0,hnm,hR,hof⟩,fun hv=>hc ⟨hnm,?_⟩⟩;rw [← hv,show o.rule=(i:Int) by rw [hof.2.2];rfl,val_rule h0]
 ·rintro ⟨⟨i,r,hi,hr,hnm,hR,hof⟩,hv⟩;rw [show o.rule=(i:Int) by rw [hof.2.2];rfl,val_rule hr] at hv;refine ⟨i,r,hi,?_,hnm,hR,hof⟩;unfold othV;rw [List.getElem?_map,hr];simp only [Option.map_some,Option.some.injEq];rw [if_neg (fun h=>hv h.2)]
def SA (l:List RuleV) (e:EraV):OccV→Prop:=Occ.All l e.rules l.length
def IA (l:List RuleV) (e:EraV):OccV→Int:=Chn.inst l e.rules e.off
def VA (l:List RuleV) (e:EraV):OccV→ValV:=fun o=>valAt l e o.rule
theorem line {l:List RuleV} {e:EraV} (hc:(Chk.check l).2=0) (hm:Chn.may e.off=true):Line (SA l e) (IA l e) where
 mono x y hx hy hl:=by
  have h1:=Far.far hc hx hy hl;have h2:=(Chn.inst_bd (l:=l) (name:=e.rules) hm x).2;have h3:=(Chn.inst_bd (l:=l) (name:=e.rules) hm y).1;unfold IA;omega
 tri x y hx hy:=Occ.less_tri hx hy
theorem last_is {l:List RuleV} {e:EraV} (hm:Chn.may e.off=true) {t:Int} (h0: -2000000000000≤t) (h1:t≤2000000000000):Last (SA l e) (IA l e) t (lastP l e t):=by
 have h:=Chn.last_spec (l:=l) (name:=e.rules) (off:=e.off) (t:=t) hm;have hcl:Chn.clampE t=t:=by
  unfold Chn.clampE Occ.clampI;rw [if_neg (by omega),if_neg (by omega)]
 rw [hcl] at h;unfold lastP;cases hp:Chn.lastO l e.rules e.off t with
 |none=>rw [hp] at h;exact h
 |some o=>rw [hp] at h;exact h
theorem state_is (l:List RuleV) (e:EraV) (t:Int):stateV l e t=state (VA l e) (firstV l e) (lastP l e t):=by
 unfold stateV state VA;cases lastP l e t<;>rfl
theorem start_less {l:List RuleV} {e:EraV} {x:OccV} (h:SA l e x):Occ.less startO x=true:=by
 have:=Chn.all_range h;exact Occ.less_iff.2 (.inl (by show (-2192387558400:Int)<x.nom;omega))
theorem after_is {l:List RuleV} {e:EraV} {c:Option OccV} {x:OccV} (h:SA l e x):Occ.less (c.getD startO) x=true↔After c x:=by
 cases c with
 |none=>exact ⟨fun _=>trivial,fun _=>start_less h⟩
 |some o=>exact Iff.rfl
theorem nextF_is {l:List RuleV} {e:EraV} {t:Int} (hn:e.rules≠⟨#[]⟩):Nxt (SA l e) (VA l e) (lastP l e t) (stateV l e t) (nextF l e t):=by
 unfold nextF;have hb:=Occ.best_next (othV l e (stateV l e t)) e.rules ((lastP l e t).getD startO);rw [oth_len] at hb;generalize stateV l e t=v at *;generalize lastP l e t=c at *;cases hy:Occ.nextO (othV l e v) e.rules (c.getD startO) with
 |none=>
  rw [hy] at hb;intro x hx ha
  by_cases hv:VA l e x=v
  ·exact hv
  ·have:=hb x ((all_oth hn).2 ⟨hx,hv⟩);rw [(after_is hx).2 ha] at this;cases this
 |some y=>
  rw [hy] at hb;obtain ⟨h1,h2,h3⟩:=hb;obtain ⟨g1,g2⟩:=(all_oth hn).1 h1;refine ⟨g1,(after_is g1).1 h2,g2,fun x hx ha hl=> ?_⟩
  by_cases hv:VA l e x=v
  ·exact hv
  ·have:=h3 x ((all_oth hn).2 ⟨hx,hv⟩) ((after_is hx).2 ha);rw [hl] at this;cases this
theorem suc_is (l:List RuleV) (e:EraV) (c:Option OccV):Suc (SA l e) c (Occ.nextO l e.rules (c.getD startO)):=by
 have hb:=Occ.best_next l e.rules (c.getD startO);cases hy:Occ.nextO l e.rules (c.getD startO) with
 |none=>
  rw [hy] at hb;intro x hx ha;have:=hb x hx;rw [(after_is hx).2 ha] at this;cases this
 |some y=>
  rw [hy] at hb;exact ⟨hb.1,(after_is hb.1).1 hb.2.1,fun x hx ha=>hb.2.2 x hx ((after_is hx).2 ha)⟩
theorem prevF_is {l:List RuleV} {e:EraV} {t:Int} (hn:e.rules≠⟨#[]⟩):Began (SA l e) (VA l e) (firstV l e) (lastP l e t) (prevF l e t):=by
 unfold prevF;have hs:=state_is l e t;cases hc:lastP l e t with
 |none=>rfl
 |some o=>
  rw [hc] at hs;replace hs:stateV l e t=VA l e o:=hs;rw [hs];simp only;have hb:=Occ.best_prev (othV l e (VA l e o)) e.rules o;rw [oth_len] at hb;cases hy:Occ.prevO (othV l e (VA l e o)) e.rules o with
  |none=>
   rw [hy] at hb;have hp:Prv (SA l e) (VA l e) o (VA l e o) none:=by
    intro x hx hl
    by_cases hv:VA l e x=VA l e o
    ·exact hv
    ·have:=hb x ((all_oth hn).2 ⟨hx,hv⟩);rw [show Occ.more o x=true from hl] at this;cases this
   simp only
   by_cases hf:firstV l e=VA l e o
   ·rw [if_pos hf];exact .inr (.inl ⟨hp,hf,rfl⟩)
   ·rw [if_neg hf];exact .inr (.inr ⟨hp,hf,suc_is l e none⟩)
  |some x=>
   rw [hy] at hb;obtain ⟨h1,h2,h3⟩:=hb;obtain ⟨g1,g2⟩:=(all_oth hn).1 h1;refine .inl ⟨x,⟨g1,h2,g2,fun z hz hl hl2=> ?_⟩,suc_is l e (some x)⟩
   by_cases hv:VA l e z=VA l e o
   ·exact hv
   ·have:=h3 z ((all_oth hn).2 ⟨hz,hv⟩) hl;rw [show Occ.more z x=true from hl2] at this;cases this
theorem began_none {S:OccV→Prop} {I:OccV→Int} {val:OccV→ValV} {fst:ValV} {t:Int} {c:Option OccV} (hc:Last S I t c) (h:Began S val fst c none):∀ o,c=some o→Prv S val o (val o) none∧fst=val o:=by
 rintro o rfl;rcases h with ⟨x,hp,hq⟩|⟨hp,hf,_⟩|⟨_,_,hq⟩
 ·exact absurd hp.2.1 (hq o hc.1)
 ·exact ⟨hp,hf⟩
 ·exact absurd trivial (hq o hc.1)
theorem inst_range {l:List RuleV} {e:EraV} (hm:Chn.may e.off=true) {x:OccV} (h:SA l e x): -1100000000000<IA l e x∧IA l e x<1100000000000:=by
 have h1:=Chn.all_range h;have h2:=Chn.inst_bd (l:=l) (name:=e.rules) hm x;unfold IA;omega
theorem tell_some {l:List RuleV} {e:EraV} {r:Option OccV} {n:Int} (h:tell l e r=(n,true)):∃ y,r=some y∧n=IA l e y:=by
 cases r with
 |none=>simp [tell] at h
 |some y=>simp only [tell,Prod.mk.injEq,and_true] at h;exact ⟨y,rfl,h.symm⟩
section
variable {l:List RuleV} {e:EraV} (hc:(Chk.check l).2=0) (hm:Chn.may e.off=true) (hn:e.rules≠⟨#[]⟩) {t:Int} (h0: -1999000000000≤t) (h1:t≤1999000000000)
include hc hm hn h0 h1
theorem next_law {n:Int} (h:tell l e (nextF l e t)=(n,true)):(-1100000000000<n∧n<1100000000000)∧t<n∧stateV l e n≠stateV l e t∧stateV l e (n-1)=stateV l e t∧tell l e (prevF l e n)=(n,true):=by
 obtain ⟨y,hy,rfl⟩:=tell_some h;have L:=line hc hm;have hN:=nextF_is (l:=l) (t:=t) hn;rw [hy] at hN;have hr:=inst_range hm hN.1;have hL:=last_is (l:=l) hm (t:=t) (by omega) (by omega);have hLn:=last_is (l:=l) hm (t:=IA l e y) (by omega) (by omega);have hLp:=last_is (l:=l) hm (t:=IA l e y-1) (by omega) (by omega);have hy2:lastP l e (IA l e y)=some y:=hLn.eq L (Last.at L hN.1);have hN':=hN;rw [state_is] at hN';refine ⟨hr,next_gt hL hN,?_,?_,?_⟩
 ·rw [state_is l e (IA l e y),hy2];exact hN.2.2.1
 ·rw [state_is l e (IA l e y-1),state_is l e t];exact next_ahead L hL hN' hLp
 ·have hB:=prevF_is (l:=l) (t:=IA l e y) hn;rw [hy2] at hB;rw [next_back L hL hN' hLp hB];rfl
theorem prev_law {p:Int} (h:tell l e (prevF l e t)=(p,true)):(-1100000000000<p∧p<1100000000000)∧p≤t∧stateV l e (p-1)≠stateV l e t∧stateV l e p=stateV l e t∧tell l e (nextF l e (p-1))=(p,true):=by
 obtain ⟨q,hq,rfl⟩:=tell_some h;have L:=line hc hm;have hB:=prevF_is (l:=l) (t:=t) hn;rw [hq] at hB;have hL:=last_is (l:=l) hm (t:=t) (by omega) (by omega);obtain ⟨o,ho,g1,g2,g3,g4,g5,g6⟩:=began_le L hL hB;have hr:=inst_range hm g1;have hLn:=last_is (l:=l) hm (t:=IA l e q) (by omega) (by omega);have hLp:=last_is (l:=l) hm (t:=IA l e q-1) (by omega) (by omega);have hy2:lastP l e (IA l e q)=some q:=hLn.eq L (Last.at L g1);have hst:stateV l e t=VA l e o:=by rw [state_is,ho];rfl
 refine ⟨hr,g3,?_,?_,?_⟩
 ·rw [hst,state_is];exact (g6 _ hLp).1
 ·rw [hst,state_is,hy2];exact g4
 ·have hN:=nextF_is (l:=l) (t:=IA l e q-1) hn;rw [state_is] at hN;rw [began_next L hL hB hLp hN];rfl
theorem else_law {s:Int} (s0: -1999000000000≤s) (s1:s≤1999000000000) (hk:∀ n,tell l e (nextF l e t)=(n,true)→s<n) (hp:∀ p,tell l e (prevF l e t)=(p,true)→p≤s):stateV l e s=stateV l e t:=by
 have L:=line hc hm;have hL:=last_is (l:=l) hm (t:=t) (by omega) (by omega);have hS:=last_is (l:=l) hm (t:=s) (by omega) (by omega);rw [state_is l e s,state_is l e t]
 by_cases hst:t≤s
 ·have hN:=nextF_is (l:=l) (t:=t) hn;rw [state_is] at hN;exact on L hL hS hst hN (fun y hy=>hk (IA l e y) (by rw [hy];rfl))
 ·have hB:=prevF_is (l:=l) (t:=t) hn;refine back L hL hS (by omega) hB (fun q hq=>hp (IA l e q) (by rw [hq];rfl)) (fun hr o ho=> ?_);rw [hr] at hB;exact began_none hL hB o ho
end
end Frc
end
section
open Go.RowKit
namespace L33
open Frc
noncomputable def AV (l:List RuleV) (e:EraV) (s:Int):ValV:=(atV l e s).1
theorem at_right {l:List RuleV} {e:EraV} (h:Er.rightB e=true) (t:Int):atV l e t=(AV l e t,0):=by
 unfold AV atV;rw [if_pos h]
 by_cases hk:e.kind=2
 ·rw [if_pos hk]
 ·rw [if_neg hk]
theorem av_two {l:List RuleV} {e:EraV} (h:Er.rightB e=true) (hk:e.kind=2) (t:Int):AV l e t=stateV l e t:=by
 unfold AV atV;rw [if_pos h,if_pos hk]
theorem av_one {l:List RuleV} {e:EraV} (h:Er.rightB e=true) (hk:¬e.kind=2) (s t:Int):AV l e s=AV l e t:=by
 unfold AV atV;rw [if_pos h,if_neg hk,if_pos h,if_neg hk]
theorem rules_ne' {e:EraV} (hR:Er.rightB e=true) (hk:e.kind=2):e.rules≠⟨#[]⟩:=by
 intro h;have hne:¬Nam.nameE ⟨#[]⟩=0:=by decide +kernel
 unfold Er.rightB at hR;rw [h,hk] at hR;simp [hne] at hR
section
variable {l:List RuleV} {e:EraV} (hc:(Chk.check l).2=0) (hR:Er.rightB e=true) {t:Int} (h0: -1999000000000≤t) (h1:t≤1999000000000)
include hc hR h0 h1
theorem nextB {n:Int} (h:nextV l e t=(n,true)):(-1100000000000<n∧n<1100000000000)∧t<n∧AV l e n≠AV l e t∧AV l e (n-1)=AV l e t∧prevV l e n=(n,true):=by
 unfold nextV at h
 split at h
 ·rename_i hk;have hm:Chn.may e.off=true:=Chn.may_iff.2 (Unt.right_spec hR).1;obtain ⟨g0,g1,g2,g3,g4⟩:=next_law hc hm (rules_ne' hR hk.2) h0 h1 h;rw [av_two hR hk.2,av_two hR hk.2,av_two hR hk.2];refine ⟨g0,g1,g2,g3,?_⟩;unfold prevV;rw [if_pos hk];exact g4
 ·cases h
theorem prevB {p:Int} (h:prevV l e t=(p,true)):(-1100000000000<p∧p<1100000000000)∧p≤t∧AV l e (p-1)≠AV l e t∧AV l e p=AV l e t∧nextV l e (p-1)=(p,true):=by
 unfold prevV at h
 split at h
 ·rename_i hk;have hm:Chn.may e.off=true:=Chn.may_iff.2 (Unt.right_spec hR).1;obtain ⟨g0,g1,g2,g3,g4⟩:=prev_law hc hm (rules_ne' hR hk.2) h0 h1 h;rw [av_two hR hk.2,av_two hR hk.2,av_two hR hk.2];refine ⟨g0,g1,g2,g3,?_⟩;unfold nextV;rw [if_pos hk];exact g4
 ·cases h
theorem elseB {s:Int} (s0: -1999000000000≤s) (s1:s≤1999000000000) (hk:∀ n,nextV l e t=(n,true)→s<n) (hp:∀ p,prevV l e t=(p,true)→p≤s):AV l e s=AV l e t:=by
 by_cases h2:e.kind=2
 ·have hm:Chn.may e.off=true:=Chn.may_iff.2 (Unt.right_spec hR).1;rw [av_two hR h2,av_two hR h2];unfold nextV at hk;unfold prevV at hp;rw [if_pos ⟨hR,h2⟩] at hk hp;exact else_law hc hm (rules_ne' hR h2) h0 h1 s0 s1 hk hp
 ·exact av_one hR h2 s t
end
end L33
end
section
open Go.RowKit NB
structure HoldsG {α:Type} (k:Nat) (f:α→List Value) (w:World) (v:Value) (l:List α):Prop where
 lies:(∃ p cap,v=.slice p 0 cap∧l=[])∨(∃ b off cap,v=.slice (some ⟨b,off,none⟩) l.length cap∧b<w.heap.size∧Lies w b off k (l.map f))
 len:l.length≤9223372036854775807
namespace HoldsG
variable {α:Type} {k:Nat} {f:α→List Value} {w w':World} {v:Value} {l:List α}
theorem later (h:HoldsG k f w v l) (hb:Below w.heap.size w w'):HoldsG k f w' v l:=by
 refine ⟨?_,h.len⟩;rcases h.lies with h1|⟨b,off,cap,h1,h2,h3⟩
 ·exact .inl h1
 ·refine .inr ⟨b,off,cap,h1,Nat.lt_of_lt_of_le h2 hb.size,fun i j cs v hi hj=> ?_⟩;rw [hb.cell (p:=⟨b,off+i*k+j,none⟩) h2];exact h3 i j cs v hi hj
theorem form (h:HoldsG k f w v l):∃ p cap,v=.slice p l.length cap:=by
 rcases h.lies with ⟨p,cap,h1,h2⟩|⟨b,off,cap,h1,_,_⟩
 ·exact ⟨p,cap,by rw [h1,h2];rfl⟩
 ·exact ⟨_,cap,h1⟩
theorem keep (h:HoldsG k f w v l) (hsz:w.heap.size≤w'.heap.size) (hb:∀ b,v.ownBlock=some b→b<w.heap.size→w'.heap[b]? =w.heap[b]?):HoldsG k f w' v l:=by
 refine ⟨?_,h.len⟩;rcases h.lies with h1|⟨b,off,cap,h1,h2,h3⟩
 ·exact .inl h1
 ·refine .inr ⟨b,off,cap,h1,Nat.lt_of_lt_of_le h2 hsz,fun i j cs v hi hj=> ?_⟩;rw [World.cell?_of_block (w:=w) (hb b (by rw [h1];rfl) h2)];exact h3 i j cs v hi hj
end HoldsG
theorem flatG_at {α:Type} {k:Nat} {f:α→List Value} (hf:∀ x,(f x).length=k):∀ (l:List α) (i j:Nat) (x:α) (u:Value),l[i]? =some x→(f x)[j]? =some u→(l.flatMap f)[i*k+j]? =some u
 | [],i,j,x,u,h,_=>by simp at h
 |y :: r,0,j,x,u,h,hu=>by
  simp at h;subst h;rw [List.flatMap_cons,Nat.zero_mul,Nat.zero_add,List.getElem?_append_left (List.getElem?_eq_some_iff.1 hu).1];exact hu
 |y :: r,i+1,j,x,u,h,hu=>by
  rw [List.flatMap_cons,List.getElem?_append_right (by rw [hf,Nat.add_mul];omega),hf,show (i+1)*k+j-k=i*k+j by rw [Nat.add_mul];omega];exact flatG_at hf r i j x u (by simpa using h) hu
theorem flatG_len {α:Type} {k:Nat} {f:α→List Value} (hf:∀ x,(f x).length=k):∀ (l:List α),(l.flatMap f).length=l.length*k
 | []=>by simp
 |y :: r=>by rw [List.flatMap_cons,List.length_append,hf,flatG_len hf r,List.length_cons,Nat.add_mul];omega
theorem flatG_one {α:Type} {f:α→List Value} (h1:∀ x,∀ u∈f x,u.oneCell'=true) (l:List α):∀ u∈l.flatMap f,u.oneCell'=true:=by
 intro u hu;obtain ⟨x,_,hx⟩:=List.mem_flatMap.1 hu;exact h1 x u hx
theorem HoldsG.of_own {α:Type} {k:Nat} {f:α→List Value} (hf:∀ x,(f x).length=k) {w:World} {base e:Nat} {v:Value} {l:List α} (h:w.ownsRow base e k v l.length (l.flatMap f)):HoldsG k f w v l:=by
 rcases h.2 with ⟨rfl,hn⟩|⟨g,cap,cur,rfl,hb,hg,hnc,hcm,hsz,htk⟩
 ·exact ⟨.inl ⟨_,_,by rw [List.eq_nil_of_length_eq_zero hn];exact ⟨rfl,rfl⟩⟩,by omega⟩
 ·refine ⟨.inr ⟨g,0,cap,rfl,(Array.getElem?_eq_some_iff.1 hg).1,fun i j cs u hi hj=> ?_⟩,by unfold maxLen at hcm;omega⟩;rw [List.getElem?_map] at hi;cases hx:l[i]? with
  |none=>rw [hx] at hi;cases hi
  |some x=>
   rw [hx] at hi;cases hi;rw [Nat.zero_add];exact h.cells (g:=g) rfl (i*k+j) u (flatG_at hf l i j x u hx hj) |> fun e=>by
    rw [addr_add,Nat.zero_add] at e;exact e
section
variable {H:Type} {enc:TypeId×Value→H} {w:World} {base:Nat} {spare:Nat→Bool} {held:Bool}
theorem slice_open {α:Type} [Inhabited α] {k:Nat} {f:α→List Value} {F:α→Prop} (hf:∀ x,(f x).length=k) (hk0:0<k) {T E:TypeId} (hu:prog.underlying T=some (.slice E)) (hk:prog.cellsOf E=k)
 (el:∀ {fuel:Nat} {cs:List Value} {x:DataW H×List MemPlace},DataW.trod enc prog w base spare held fuel E cs=some x→∃ a:α,cs=f a∧F a)
 {fuel:Nat} {cs:List Value} {x:DataW H×List MemPlace} (h:DataW.trod enc prog w base spare held fuel T cs=some x):
 ∃ (v:Value) (l:List α),cs=[v]∧(HoldsG k f w v l∧∀ a∈l,F a)∧(l=[]∨∃ es sp,x.1=.slice es sp∧es.length=l.length):=by
 rcases Deep.open_slice hu h with ⟨rfl,_⟩|⟨a,len,cap,m,n,D,Pl,rfl,hb,hl,hm,hmm,hxx,hx⟩
 ·exact ⟨_,[],rfl,⟨⟨.inl ⟨_,_,rfl,rfl⟩,by simp⟩,by simp⟩,.inl rfl⟩
 ·rw [hk] at hx;have hlm:len≤m:=by rw [hmm];split<;>omega
  have each:∀ i,i<m→∃ r:α,w.cells? base (a.add (i*k)) k=some (f r)∧F r:=by
   intro i hi;obtain ⟨cs',h1,h2⟩:=hx i hi;obtain ⟨r,rfl,hf⟩:=el h2;exact ⟨r,h1,hf⟩
  by_cases h0:len=0
  ·subst h0;exact ⟨_,[],rfl,⟨⟨.inl ⟨_,_,rfl,rfl⟩,by simp⟩,by simp⟩,.inl rfl⟩
  ·obtain ⟨q,hq⟩:∃ q:Nat→α,∀ i,i<m→w.cells? base (a.add (i*k)) k=some (f (q i))∧F (q i):=
    ⟨fun i=>if hi:i<m then (each i hi).choose else default,fun i hi=>by simp only [dif_pos hi];exact (each i hi).choose_spec⟩
   obtain ⟨ha,hab⟩:=info_cells (hq 0 (by omega)).1 hk0;have ha':a=⟨a.block,a.off,none⟩:=by
    have:(a.add (0*k)).spot=a.spot:=by simp [Addr.add]
    rw [this] at ha;cases a;simp only at ha;rw [ha]
   have hab':a.block<w.heap.size:=by
    have:(a.add (0*k)).block=a.block:=by simp [Addr.add]
    rwa [this] at hab
   refine ⟨_,(List.range len).map q,rfl,⟨⟨.inr ⟨a.block,a.off,cap,by rw [← ha'];simp,hab',?_⟩,by simp;unfold maxLen at hm;omega⟩,?_⟩,.inr ⟨_,_,by rw [hxx],by simp⟩⟩
   ·intro i j c v hi hj;rw [List.map_map,List.getElem?_map] at hi;cases hr:(List.range len)[i]? with
    |none=>rw [hr] at hi;cases hi
    |some y=>
     rw [hr] at hi;cases hi;obtain ⟨hy,rfl⟩:=List.getElem?_eq_some_iff.1 hr;rw [List.length_range] at hy;simp only [List.getElem_range,Function.comp] at hj ⊢;obtain ⟨_,hlen,hcell⟩:=World.cells?_some (hq i (by omega)).1;have hj11:j<k:=by
      have:=(List.getElem?_eq_some_iff.1 hj).1
      rwa [hf] at this
     have:=hcell j hj11;rw [Deep.add_add] at this;have he:a.add (i*k+j)=⟨a.block,a.off+i*k+j,none⟩:=by
      rw [Nat.add_assoc]
      conv=>lhs;rw [ha']
      exact addr_add _ _ _
     rw [he] at this;rw [this];exact hj
   ·intro r hr;rw [List.mem_map] at hr;obtain ⟨i,hi,rfl⟩:=hr;exact (hq i (by rw [List.mem_range] at hi;omega)).2
end
end
section
open Go.RowKit NB
theorem HoldsG.pk {α:Type} {k:Nat} {f:α→List Value} {w:World} {v:Value} {l:List α} (h:HoldsG k f w v l):∃ p cap,v=.slice p l.length cap∧∀ i x,l[i]? =some x→∃ b off,p=some ⟨b,off,none⟩∧b<w.heap.size∧∀ j u,(f x)[j]? =some u→w.cell? ⟨b,off+i*k+j,none⟩=some u:=by
 rcases h.lies with ⟨p,cap,rfl,rfl⟩|⟨b,off,cap,rfl,hb,hl⟩
 ·exact ⟨p,cap,rfl,fun i x hx=>by simp at hx⟩
 ·refine ⟨_,cap,rfl,fun i x hx=>⟨b,off,rfl,hb,fun j u hu=>hl i j (f x) u ?_ hu⟩⟩;rw [List.getElem?_map,hx];rfl
theorem HoldsE.g {w:World} {v:Value} {es:List EraV} (h:HoldsE w v es):HoldsG 13 EraV.cells w v es:=⟨h.lies,h.len⟩
theorem Holds.g {w:World} {v:Value} {l:List RuleV} (h:Holds w v l):HoldsG 11 RuleV.cells w v l:=⟨h.lies,h.len⟩
namespace Eqs
end Eqs
end
section
open Go.RowKit NB
def strc (s:ByteArray):List Value:=[.string s]
abbrev HoldsS (w:World) (v:Value) (l:List ByteArray):Prop:=HoldsG 1 strc w v l
abbrev OwnS (w:World) (base:Nat) (v:Value) (l:List ByteArray):Prop:=w.ownsRow base 9 1 v l.length (l.flatMap strc)
theorem HoldsG.pk1 {w:World} {v:Value} {l:List ByteArray} (h:HoldsG 1 strc w v l):∃ p cap,v=.slice p l.length cap∧∀ i s,l[i]? =some s→∃ b off,p=some ⟨b,off,none⟩∧b<w.heap.size∧w.cell? ⟨b,off+i,none⟩=some (.string s):=by
 obtain ⟨p,cap,e,hp⟩:=h.pk;refine ⟨p,cap,e,fun i s hs=> ?_⟩;obtain ⟨b,off,e1,hb,hc⟩:=hp i s hs;have:=hc 0 _ rfl;simp only [Nat.mul_one,Nat.add_zero] at this;exact ⟨b,off,e1,hb,this⟩
theorem HoldsS.of_own {w:World} {base:Nat} {v:Value} {l:List ByteArray} (h:OwnS w base v l):HoldsS w v l:=HoldsG.of_own (k:=1) (f:=strc) (fun _=>rfl) h
theorem strc_snoc (l:List ByteArray) (s:ByteArray):(l++[s]).flatMap strc=l.flatMap strc++[.string s]:=by simp [strc]
theorem infoS:(prog.info? 9).map (fun i=>(i.zero,i.size,i.bytes))=some (some (.string .empty),1,16):=by kernel_rfl
abbrev OwnR (w:World) (base:Nat) (v:Value) (m:Nat) (l:List ByteArray):Prop:=w.ownsRow base 9 1 v m (l.flatMap strc)
theorem OwnR.len {w:World} {base m:Nat} {v:Value} {l:List ByteArray} (h:OwnR w base v m l):l.length=m:=by
 have:=h.1;rw [flatG_len (k:=1) (fun _=>rfl)] at this;omega
theorem OwnR.s {w:World} {base m:Nat} {v:Value} {l:List ByteArray} (h:OwnR w base v m l):OwnS w base v l:=by
 have:=OwnR.len h;subst this;exact h
theorem OwnR.snoc {w:World} {base m:Nat} {v:Value} {l:List ByteArray} {s:ByteArray} (h:w.ownsRow base 9 1 v m (l.flatMap strc++[.string s])):OwnR w base v m (l++[s]):=by
 unfold OwnR;rw [strc_snoc];exact h
namespace RBk
theorem own_lat {w w':World} {B m:Nat} {e:TypeId} {sz:Nat} {v:Value} {xs:List Value} (h:w.ownsRow B e sz v m xs) (hb:Below w.heap.size w w'):w'.ownsRow B e sz v m xs:=
 h.kept (row:=none) ⟨hb.os,hb.tape,hb.output,hb.size,fun k hk _=>hb.block k hk⟩ (by cases v.ownBlock<;>simp)
end RBk
theorem cell_one_at {w:World} {x:Value} {t:TypeId} {N:Nat} (h:N=w.heap.size):∀ j u,[x][j]? =some u→(w.alloc (.cells #[x] t)).cell? ((⟨N,0,none⟩:Addr).add j)=some u:=by
 subst h;exact cell_one_new w x t
namespace Strs
open Eqs
end Strs
end
section
namespace Mp
open Go.RowKit Go.ChangeMaps Go.MapKept Go.ChangeShapes
open Go.WideElems (Fit rd rg pl rd_val rd_mk other_key)
open Go.Maps (Keyed)
abbrev Ent:=ByteArray×Value
def get (L:List Ent) (s:ByteArray):Option Value:=(L.find? fun p=>decide (p.1=s)).map (·.2)
def put:List Ent→ByteArray→Value→List Ent
 | [],s,v=>[(s,v)]
 |p :: r,s,v=>if p.1=s then (s,v) :: r else p :: put r s v
def Lies (w:World) (P:Program) (k:TypeId) (b:Nat) (L:List Ent):Prop:=
 ∃ es clock,w.heap[b]? =some (.map es clock)∧Fit P k Grp.R0 es clock∧es.toList.map (fun x=>(x.key,x.val))=L.map fun p=>(Value.string p.1,p.2)
variable {w:World} {P:Program} {k e t:TypeId} {b:Nat} {L:List Ent}
theorem made (w:World) (P:Program) (k:TypeId):Lies (w.alloc (.map #[] 0)) P k w.heap.size []:=⟨#[],0,(MapKept.heap_alloc w _).1,⟨by simp,stamped_empty 0,by simp⟩,rfl⟩
theorem Lies.lt (h:Lies w P k b L):b<w.heap.size:=by
 obtain ⟨es,clock,hb,_⟩:=h;exact (Array.getElem?_eq_some_iff.1 hb).1
theorem Lies.same {w':World} (h:Lies w P k b L) (he:w'.heap[b]? =w.heap[b]?):Lies w' P k b L:=by
 obtain ⟨es,clock,hb,r⟩:=h;exact ⟨es,clock,he.trans hb,r⟩
theorem Lies.kept {w':World} {row:Option Nat} (h:Lies w P k b L) (hg:w.grownBy w' row) (hne:some b≠row):Lies w' P k b L:=h.same (hg.block b h.lt hne)
theorem Lies.later {w':World} (h:Lies w P k b L) (hb:Below w.heap.size w w'):Lies w' P k b L:=h.same (hb.block b h.lt)
theorem Lies.old (h:Lies w P k b L) (o:Obj):Lies (w.alloc o) P k b L:=h.later ((Below.refl _ _).alloc (Nat.le_refl _) _)
theorem Lies.other {n j:Nat} {v:Value} (h:Lies w P k b L) (hn:b≠n):Lies (w.setCell ⟨n,j,none⟩ v) P k b L:=h.same (Below.heap_setCell w ⟨n,j,none⟩ v b hn)
end Mp
end
end Go.Proofs.YtgmfojgnjdpofaaGreatDoor
