import Derived.Test.YtgmfojgnjdpofaaGreatDoorH2
import Derived.Test.YtgmfojgnjdpofaaGreatDoorH3
import Derived.Test.YtgmfojgnjdpofaaGreatDoorH1
import Derived.Deep.RegionHeld3
namespace Go.Proofs.YtgmfojgnjdpofaaGreatDoor
open Go.Proofs.Tryz
section
open Go.RowKit NB
structure OccV where
 rule:Int
 year:Int
 nom:Int
deriving DecidableEq
def OccV.cells (o:OccV):List Value:=[.int .i64 o.rule,.int .i64 o.year,.int .i64 o.nom]
namespace Occ
def less (a b:OccV):Bool:=decide (a.nom<b.nom)||(decide (a.nom=b.nom)&&decide (a.rule<b.rule))
def more (a b:OccV):Bool:=less b a
theorem less_iff {a b:OccV}:less a b=true↔a.nom<b.nom∨(a.nom=b.nom∧a.rule<b.rule):=by
 unfold less;simp
structure Weak (lt:OccV→OccV→Bool):Prop where
 irr:∀ a,lt a a=false
 tr:∀ a b c,lt a b=true→lt b c=true→lt a c=true
 neg:∀ a b c,lt a b=false→lt b c=false→lt a c=false
 alike:∀ a b,lt a b=false→lt b a=false→a.nom=b.nom∧a.rule=b.rule
theorem weak_less:Weak less where
 irr a:=by unfold less;simp
 tr a b c h1 h2:=by rw [less_iff] at *;omega
 neg a b c h1 h2:=by
  rw [Bool.eq_false_iff,Ne,less_iff] at *;omega
 alike a b h1 h2:=by
  rw [Bool.eq_false_iff,Ne,less_iff] at *;omega
theorem weak_more:Weak more where
 irr a:=weak_less.irr a
 tr a b c h1 h2:=weak_less.tr c b a h2 h1
 neg a b c h1 h2:=weak_less.neg c b a h2 h1
 alike a b h1 h2:=weak_less.alike a b h2 h1
def Best (lt:OccV→OccV→Bool) (fr:OccV) (S:OccV→Prop) (b:Option OccV):Prop:=
 match b with
 |none=>∀ o,S o→lt fr o=false
 |some a=>S a∧lt fr a=true∧∀ o,S o→lt fr o=true→lt o a=false
def merge (lt:OccV→OccV→Bool) (b c:Option OccV):Option OccV:=
 match b,c with
 |b,none=>b
 |none,some o=>some o
 |some a,some o=>if lt o a then some o else some a
variable {lt:OccV→OccV→Bool} {fr:OccV} {S T:OccV→Prop}
theorem Best.merge (W:Weak lt) {b c:Option OccV} (h:Best lt fr S b) (h':Best lt fr T c):Best lt fr (fun o=>S o∨T o) (merge lt b c):=by
 cases b with
 |none=>
  cases c with
  |none=>exact fun o ho=>ho.elim (h o) (h' o)
  |some o=>
   obtain ⟨h1,h2,h3⟩:=h';refine ⟨.inr h1,h2,fun x hx hl=> ?_⟩;rcases hx with hx|hx
   ·rw [h x hx] at hl;cases hl
   ·exact h3 x hx hl
 |some a=>
  cases c with
  |none=>
   obtain ⟨h1,h2,h3⟩:=h;refine ⟨.inl h1,h2,fun x hx hl=> ?_⟩;rcases hx with hx|hx
   ·exact h3 x hx hl
   ·rw [h' x hx] at hl;cases hl
  |some o=>
   obtain ⟨h1,h2,h3⟩:=h;obtain ⟨g1,g2,g3⟩:=h';unfold Occ.merge;cases hc:lt o a
   ·show Best lt fr _ (if lt o a=true then some o else some a);rw [if_neg (by rw [hc];decide)];refine ⟨.inl h1,h2,fun x hx hl=> ?_⟩;rcases hx with hx|hx
    ·exact h3 x hx hl
    ·exact W.neg _ _ _ (g3 x hx hl) hc
   ·show Best lt fr _ (if lt o a=true then some o else some a);rw [if_pos hc];refine ⟨.inr g1,g2,fun x hx hl=> ?_⟩;rcases hx with hx|hx
    ·rw [Bool.eq_false_iff];intro hh;have:=h3 x hx hl;rw [W.tr _ _ _ hh hc] at this;cases this
    ·exact g3 x hx hl
theorem Best.congr {b:Option OccV} (h:Best lt fr S b) (he:∀ o,S o↔T o):Best lt fr T b:=by
 have:S=T:=funext fun o=>propext (he o)
 rwa [← this]
theorem Best.dom (W:Weak lt) {b:Option OccV} (h:Best lt fr S b) (hs:∀ o,S o→T o) (hd:∀ o,T o→lt fr o=true→∃ p,S p∧lt fr p=true∧lt o p=false):Best lt fr T b:=by
 cases b with
 |none=>
  intro o ho;rw [Bool.eq_false_iff];intro hl;obtain ⟨p,hp,hp2,_⟩:=hd o ho hl;rw [h p hp] at hp2;cases hp2
 |some a=>
  obtain ⟨h1,h2,h3⟩:=h;refine ⟨hs a h1,h2,fun o ho hl=> ?_⟩;obtain ⟨p,hp,hp2,hp3⟩:=hd o ho hl;exact W.neg _ _ _ hp3 (h3 p hp hp2)
def one (lt:OccV→OccV→Bool) (fr o:OccV):Option OccV:=if lt fr o then some o else none
theorem best_one (W:Weak lt) (o:OccV):Best lt fr (fun x=>x=o) (one lt fr o):=by
 unfold one;cases h:lt fr o
 ·rintro x rfl;exact h
 ·refine ⟨rfl,h,?_⟩;rintro x rfl _;exact W.irr x
def nomR (r:RuleV) (y:Int):Int:=Day.dayI r.kind r.week r.day y r.month*86400+r.sec
def occ (r:RuleV) (i y:Int):OccV:=⟨i,y,nomR r y⟩
def Of (r:RuleV) (i:Int) (o:OccV):Prop:=r.fr≤o.year∧o.year≤r.to∧o=occ r i o.year
theorem day_near {k wk d y m:Int} (h:Day.fits k wk d m=true):Cal.days y m 1-6≤Day.dayI k wk d y m∧Day.dayI k wk d y m≤Cal.days y m 1+36:=by
 have h1:=Day.days31 h;have h2:=Cal.len_le y m;obtain ⟨m1,m2,_,_⟩:=Day.fits_spec h;have h3:=Cal.len_bd y m m1 m2;unfold Day.dayI;have b1:=Day.backI_bd (Cal.days y m 1+Cal.len y m-1) wk;have b2:=Day.backI_bd (Cal.days y m 1+d-1+6) wk;have b3:=Day.backI_bd (Cal.days y m 1+d-1) wk;have hk:=Day.kinds h;rcases hk with rfl|rfl|rfl|rfl
 ·simp only [if_true];omega
 ·have:=(Day.fits_spec h).2.2.2;simp only [Int.reduceEq,if_false];omega
 ·have:=(Day.fits_spec h).2.2.2;simp only [Int.reduceEq,if_false,if_true];omega
 ·have:=(Day.fits_spec h).2.2.2;simp only [Int.reduceEq,if_false,if_true];omega
theorem first_ahead {y m:Int} (m1:1≤m) (m2:m≤12):Cal.ahead y≤Cal.days y m 1∧Cal.days y m 1≤Cal.ahead y+338:=by
 have h1:=Cal.cum_bd y m m1 m2;have h2:=Cal.len_bd y m m1 m2;have h3:=Cal.lp_01 y;unfold Cal.days;omega
theorem first_mono {y y' m:Int} (m1:1≤m) (m2:m≤12) (h:y≤y'):Cal.days y m 1+365*(y'-y)-1≤Cal.days y' m 1:=by
 have h1:=Cal.ahead_mono h;have h2:=Cal.lp_01 y;have h3:=Cal.lp_01 y';have h4:Cal.cum y m-1≤Cal.cum y' m:=by
  unfold Cal.cum;rcases Cal.months m1 m2 with rfl|rfl|rfl|rfl|rfl|rfl|rfl|rfl|rfl|rfl|rfl|rfl<;>simp<;>omega
 unfold Cal.days;omega
theorem nom_mono {r:RuleV} (hr:Rul.right r=true) {y y':Int} (h:y<y'):nomR r y+27820800≤nomR r y':=by
 have hf:=(Rul.right_spec hr).2.1;obtain ⟨m1,m2,_,_⟩:=Day.fits_spec hf;have h1:=day_near (y:=y) hf;have h2:=day_near (y:=y') hf;have h3:=first_mono m1 m2 (Int.le_of_lt h);unfold nomR;omega
theorem nom_lt {r:RuleV} (hr:Rul.right r=true) {y y':Int}:nomR r y<nomR r y'↔y<y':=by
 constructor
 ·intro h;rcases Int.lt_trichotomy y y' with h1|h1|h1
  ·exact h1
  ·subst h1;omega
  ·have:=nom_mono hr h1;omega
 ·intro h;have:=nom_mono hr h;omega
theorem nom_ahead {r:RuleV} (hr:Rul.right r=true) (y:Int):(Cal.ahead y-6)*86400≤nomR r y∧nomR r y≤(Cal.ahead y+376)*86400:=by
 have hf:=(Rul.right_spec hr).2.1;obtain ⟨m1,m2,_,_⟩:=Day.fits_spec hf;have h1:=day_near (y:=y) hf;have h2:=first_ahead (y:=y) m1 m2;have h3:=(Rul.right_spec hr).2.2.1;unfold nomR;omega
def Near (t Y:Int):Prop:=(∀ r,Rul.right r=true→∀ y,r.fr≤y→y≤r.to→y<Y-1→nomR r y<t)∧(∀ r,Rul.right r=true→∀ y,r.fr≤y→y≤r.to→Y+1<y→t<nomR r y)
theorem near_of {t Y:Int} (h1:Cal.ahead Y*86400≤t) (h2:t<Cal.ahead (Y+1)*86400):Near t Y:=by
 constructor
 ·intro r hr y _ _ hy;have:=(nom_ahead hr y).2;have:=Cal.ahead_mono (show y≤Y by omega);omega
 ·intro r hr y _ _ hy;have:=(nom_ahead hr y).1;have:=Cal.ahead_mono (show Y+1≤y by omega);omega
def clampI (n lo hi:Int):Int:=if n<lo then lo else if hi<n then hi else n
def nearY (t:Int):Int:=Yr.dY (clampI t (-1099511627776) 1099511627776/86400)
theorem nom_range {r:RuleV} (hr:Rul.right r=true) {y:Int} (h1:r.fr≤y) (h2:y≤r.to): -1099000000000<nomR r y∧nomR r y<1099000000000:=by
 have h3:=(Rul.right_spec hr).1;have h4:=nom_ahead hr y;have h5:=Cal.ahead_mono (show (-32767:Int)≤y by omega);have h6:=Cal.ahead_mono (show y≤(32767:Int) by omega);have e1:Cal.ahead (-32767)= -12687428:=by decide +kernel
 have e2:Cal.ahead 32767=11248373:=by decide +kernel
 omega
theorem near_nearY (t:Int):Near t (nearY t):=by
 have h:=Yr.year_of (clampI t (-1099511627776) 1099511627776/86400);have hn:Near (clampI t (-1099511627776) 1099511627776) (nearY t):=near_of (Y:=nearY t) (by unfold nearY;omega) (by unfold nearY;omega);unfold clampI at hn
 split at hn
 ·constructor
  ·intro r hr y a b c;have:=nom_range hr a b;have:=hn.1 r hr y a b c;omega
  ·intro r hr y a b c;have:=nom_range hr a b;omega
 ·split at hn
  ·constructor
   ·intro r hr y a b c;have:=nom_range hr a b;omega
   ·intro r hr y a b c;have:=nom_range hr a b;have:=hn.2 r hr y a b c;omega
  ·exact hn
end Occ
end
section
open Go.RowKit NB
namespace Cmp
def cmpI (a b:Int):Int:=if a<b then -1 else if b<a then 1 else 0
theorem NaN64 (x:Int) (w:World):Calls prog 214 #[.int .i64 x] w fun e w'=>e=.returned (.bool false)∧w=w':=by
 go_enter func214,ntmps214;go_wp2;go_ret;exact ⟨ret_bool (by simp),rfl⟩
theorem NaN (x:Int) (w:World):Calls prog 280 #[.int .i64 x] w fun e w'=>e=.returned (.bool false)∧w=w':=by
 go_enter func280,ntmps280;go_wp2;go_ret;exact ⟨ret_bool (by simp),rfl⟩
theorem Compare64 (x y:Int) (w:World):Calls prog 230 #[.int .i64 x,.int .i64 y] w fun e w'=>e=.returned (.int .i64 (cmpI x y))∧w=w':=by
 unfold cmpI;rcases Int.lt_trichotomy x y with h|h|h
 ·rw [if_pos h];go_enter func230,ntmps230
  go_wp2_with (go_at_call 214;(with_reducible refine (NaN64 _ _).mono ?_);rintro e w' ⟨rfl,rfl⟩)
  go_ret;exact ⟨rfl,rfl⟩
 ·subst h;rw [if_neg (by omega),if_neg (by omega)];go_enter func230,ntmps230
  go_wp2_with (go_at_call 214;(with_reducible refine (NaN64 _ _).mono ?_);rintro e w' ⟨rfl,rfl⟩)
  go_ret;exact ⟨rfl,rfl⟩
 ·rw [if_neg (by omega),if_pos h];go_enter func230,ntmps230
  go_wp2_with (go_at_call 214;(with_reducible refine (NaN64 _ _).mono ?_);rintro e w' ⟨rfl,rfl⟩)
  go_ret;exact ⟨rfl,rfl⟩
theorem Compare (x y:Int) (w:World):Calls prog 231 #[.int .i64 x,.int .i64 y] w fun e w'=>e=.returned (.int .i64 (cmpI x y))∧w=w':=by
 unfold cmpI;rcases Int.lt_trichotomy x y with h|h|h
 ·rw [if_pos h];go_enter func231,ntmps231
  go_wp2_with (go_at_call 280;(with_reducible refine (NaN _ _).mono ?_);rintro e w' ⟨rfl,rfl⟩)
  go_ret;exact ⟨rfl,rfl⟩
 ·subst h;rw [if_neg (by omega),if_neg (by omega)];go_enter func231,ntmps231
  go_wp2_with (go_at_call 280;(with_reducible refine (NaN _ _).mono ?_);rintro e w' ⟨rfl,rfl⟩)
  go_ret;exact ⟨rfl,rfl⟩
 ·rw [if_neg (by omega),if_pos h];go_enter func231,ntmps231
  go_wp2_with (go_at_call 280;(with_reducible refine (NaN _ _).mono ?_);rintro e w' ⟨rfl,rfl⟩)
  go_ret;exact ⟨rfl,rfl⟩
def orL:List Int→Int
 | []=>0
 |z :: zs=>if z=0 then orL zs else z
theorem orL_drop:∀ (zs:List Int) (k:Nat),(∀ j z,j<k→zs[j]? =some z→z=0)→orL zs=orL (zs.drop k)
 | [],k,_=>by simp
 |z :: zs,0,_=>rfl
 |z :: zs,k+1,h=>by
  have hz:=h 0 z (by omega) rfl;subst hz;rw [List.drop_succ_cons, ←orL_drop zs k (fun j z hj hz=>h (j+1) z (by omega) (by simpa using hz))];rfl
theorem orL_at {zs:List Int} {k:Nat} {z:Int} (h:∀ j z,j<k→zs[j]? =some z→z=0) (hz:zs[k]? =some z) (hn:z≠0):orL zs=z:=by
 rw [orL_drop zs k h];obtain ⟨hk,he⟩:=List.getElem?_eq_some_iff.1 hz;rw [List.drop_eq_getElem_cons hk,he];unfold orL;rw [if_neg hn]
theorem orL_end {zs:List Int} (h:∀ j z,j<zs.length→zs[j]? =some z→z=0):orL zs=0:=by
 rw [orL_drop zs zs.length h];simp [orL]
def Seen (zs:List Int) (k:Nat):Prop:=∀ j z,j<k→zs[j]? =some z→z=0
theorem Seen.succ {zs:List Int} {k:Nat} (h:Seen zs k) (hz:zs[k]? =some 0):Seen zs (k+1):=by
 intro j z hj hz'
 by_cases hjk:j=k
 ·subst hjk;rw [hz] at hz';cases hz';rfl
 ·exact h j z (by omega) hz'
theorem Or (b off cap:Nat) (zs:List Int) (w:World) (hc:∀ j z,zs[j]? =some z→w.cell? ⟨b,off+j,none⟩=some (.int .i64 z)) (hl:zs.length≤1000):
 Calls prog 229 #[.slice (some ⟨b,off,none⟩) zs.length cap] w fun e w'=>e=.returned (.int .i64 (orL zs))∧w=w':=by
 have Hc:=kj hc;clear hc;obtain ⟨n,hn⟩:∃ n,n=zs.length:=⟨_,rfl⟩;rw [← hn] at hl ⊢;have Hn:=kj hn;clear hn;go_enter func229,ntmps229;go_wp2
 go_loop [8] (fun i=>∃ k:Nat,k≤n∧i=.int .i64 k∧Seen zs k) (fun i=>n-(intOf i).toNat)
 case atStart=>exact ⟨0,Nat.zero_le _,rfl,fun j _ hj _=>by omega⟩
 case round=>
  obtain ⟨k,hk,rfl,hs⟩:=hrel
  by_cases hlt:k<n
  ·obtain ⟨z,hz⟩:∃ z,zs[k]? =some z:=⟨zs[k]'(by have:=Hn.out;omega),by simp⟩;have hcell:=Hc.out k z hz;have Hz:=kj hz;clear hz
   by_cases h0:z=0
   ·subst h0;go_wp2;go_round
    case rel=>exact ⟨k+1,by omega,by go_num,hs.succ Hz.out⟩
    case measure=>simp [intOf];omega
   ·have hb:(z != 0)=true:=by simpa using h0
    have H0:=kj h0;clear h0;go_wp2;go_ret;exact ⟨ret_int (orL_at hs Hz.out H0.out).symm,rfl⟩
  ·go_wp2;go_ret;exact ⟨ret_int (orL_end (fun j z hj=>hs j z (by have:=Hn.out;omega))).symm,rfl⟩
theorem orL_cmp (a b:OccV):decide (orL [cmpI a.nom b.nom,cmpI a.rule b.rule]<0)=Occ.less a b:=by
 unfold orL orL orL cmpI Occ.less;rcases Int.lt_trichotomy a.nom b.nom with h|h|h
 ·rw [if_pos h];simp [h]
 ·rcases Int.lt_trichotomy a.rule b.rule with g|g|g
  ·simp [h,g]
  ·simp [h,g]
  ·have:¬a.rule<b.rule:=by omega
   simp [h,g,this]
 ·have:¬a.nom<b.nom:=by omega
  have:¬a.nom=b.nom:=by omega
  simp [*]
set_option maxHeartbeats 1600000 in
theorem Less (a b:OccV) (w:World):Calls prog 165 #[.agg a.cells.toArray,.agg b.cells.toArray] w fun e w'=>e=.returned (.bool (Occ.less a b))∧Below w.heap.size w w':=by
 rw [← orL_cmp];unfold OccV.cells;have co:=fun (W:World) (n:Nat) (x y:Int) (h0:W.cell? ⟨n,0,none⟩=some (.int .i64 x)) (h1:W.cell? ⟨n,1,none⟩=some (.int .i64 y))=>Or n 0 2 [x,y] W (by
  intro j z hz
  match j with
  |0=>cases hz;exact h0
  |1=>cases hz;exact h1
  |j+2=>simp at hz) (by simp)
 simp only [List.length_cons,List.length_nil,Nat.zero_add,Nat.reduceAdd] at co;have Co:=kj co;clear co;go_enter func165,ntmps165;go_wp2;obtain ⟨V,hV⟩:∃ V,V=(w.alloc (.cells #[.int .i64 a.rule,.int .i64 a.year,.int .i64 a.nom] 156)).alloc (.cells #[.int .i64 b.rule,.int .i64 b.year,.int .i64 b.nom] 156):=⟨_,rfl⟩;rw [← hV];obtain ⟨⟨v0,v1⟩,hB,hF⟩:=box2 hV;clear hV;have HF:=kj hF;have h0:=HF.out V (Below.refl _ _);clear hF
 go_region_held3 (fun w'=>(∀ o,w'.cell? ⟨w.heap.size,o,none⟩=(#[.int .i64 a.rule,.int .i64 a.year,.int .i64 a.nom]:Array Value)[o]?)∧(∀ o,w'.cell? ⟨w.heap.size+1,o,none⟩=(#[.int .i64 b.rule,.int .i64 b.year,.int .i64 b.nom]:Array Value)[o]?)) ((refine (fun h=>⟨h.1,h.2.1⟩) (HF.out _ ?_);exact bcq))
  (first
    |(go_at_call 230;(with_reducible refine (Compare64 _ _ _).mono ?_);rintro e w' ⟨rfl,rfl⟩)
    |(go_at_call 231;(with_reducible refine (Compare _ _ _).mono ?_);rintro e w' ⟨rfl,rfl⟩)
    |(go_at_call 229;refine (Co.out _ _ _ _ (new_cell_drew V _ _ 0) (new_cell_drew V _ _ 1)).mono ?_;rintro e w' ⟨rfl,rfl⟩))
 all_goals go_wp2
 all_goals go_ret
 all_goals refine ⟨rfl,bt hB ?_⟩
 all_goals exact bcq
end Cmp
end
section
open Go.RowKit NB
namespace Nom
theorem ok_near (t:Int):Stp.okD (Occ.clampI t (-1099511627776) 1099511627776/86400)=true:=by
 have hc: -1099511627776≤Occ.clampI t (-1099511627776) 1099511627776∧Occ.clampI t (-1099511627776) 1099511627776≤1099511627776:=by
  unfold Occ.clampI;split
  ·omega
  ·split<;>omega
 generalize Occ.clampI t (-1099511627776) 1099511627776=c at hc;have hy:=Yr.year_of (c/86400);have hv:=Yr.valid (c/86400);have e1:Cal.ahead (-40000)= -15329228:=by decide +kernel
 have e2:Cal.ahead 40001=13890538:=by decide +kernel
 have g1: -40000≤Yr.dY (c/86400):=by
  rcases (by omega: -40000≤Yr.dY (c/86400)∨Yr.dY (c/86400)+1≤ -40000) with h|h
  ·exact h
  ·have:=Cal.ahead_mono h;omega
 have g2:Yr.dY (c/86400)≤40000:=by
  rcases (by omega:Yr.dY (c/86400)≤40000∨40001≤Yr.dY (c/86400)) with h|h
  ·exact h
  ·have:=Cal.ahead_mono h;omega
 unfold Stp.okD Civ.right;simp only [Bool.and_eq_true,decide_eq_true_eq];exact ⟨⟨by omega,by omega⟩,⟨⟨g1,g2⟩,hv.d1⟩,hv.d2⟩
set_option maxHeartbeats 1600000 in
theorem near (t:Int) (w:World):Calls prog 161 #[.int .i64 t] w fun e w'=>e=.returned (.int .i64 (Occ.nearY t))∧Below w.heap.size w w':=by
 have hok:=ok_near t;have ccl:=fun W=>Num.Clamp t (-1099511627776) 1099511627776 W;have hc: -1099511627776≤Occ.clampI t (-1099511627776) 1099511627776∧Occ.clampI t (-1099511627776) 1099511627776≤1099511627776:=by
  unfold Occ.clampI;split
  ·omega
  ·split<;>omega
 unfold Occ.nearY;rw [show (if t < -1099511627776 then -1099511627776 else if 1099511627776<t then 1099511627776 else t)=Occ.clampI t (-1099511627776) 1099511627776 from rfl] at ccl;generalize Occ.clampI t (-1099511627776) 1099511627776=c at *;have cof:=fun W=>Stp.Of c (by omega) (by omega) W;rw [hok] at cof;simp only [if_true] at cof;unfold Stp.stampOf at cof;have Ccl:=kj ccl;have Cof:=kj cof;clear ccl cof hok;go_enter func161,ntmps161
 go_wp2_with (first|(go_at_call 221;(with_reducible refine (Ccl.out _).mono ?_);rintro e w' ⟨rfl,rfl⟩)|(go_at_call 118;(with_reducible refine (Cof.out _).mono ?_);rintro e w1 ⟨rfl,hb1⟩;obtain ⟨hc1,hf1⟩:=bcell hb1))
 go_ret;exact ⟨rfl,bcq⟩
theorem day_bd {k wk d y m:Int} (h:Day.fits k wk d m=true) (h1: -40000≤y) (h2:y≤40000): -20000000≤Day.dayI k wk d y m∧Day.dayI k wk d y m≤20000000:=by
 obtain ⟨m1,m2,_,_⟩:=Day.fits_spec h;have:=Occ.day_near (y:=y) h;have:=Day.first_bd h1 h2 m1 m2;omega
theorem nom_bd {r:RuleV} (hr:Rul.right r=true) {y:Int} (h1: -40000≤y) (h2:y≤40000): -2000000000000≤Occ.nomR r y∧Occ.nomR r y≤2000000000000:=by
 have:=day_bd (Rul.right_spec hr).2.1 h1 h2;have:=(Rul.right_spec hr).2.2.1;unfold Occ.nomR;omega
set_option maxHeartbeats 1600000 in
theorem nom (r:RuleV) (hr:Rul.right r=true) (y:Int) (h1: -39999≤y) (h2:y≤39999) (w:World):
 Calls prog 228 #[.agg r.cells.toArray,.int .i64 y] w fun e w'=>e=.returned (.int .i64 (Occ.nomR r y))∧Below w.heap.size w w':=by
 have hf:=(Rul.right_spec hr).2.1;obtain ⟨s0,s1⟩:=(Rul.right_spec hr).2.2.1.2.2;obtain ⟨d0,d1⟩:=day_bd hf (y:=y) (by omega) (by omega);have cd:=fun W=>Day.Days r.kind r.week r.day y r.month W;rw [hf,if_pos rfl,if_pos ⟨h1,h2⟩] at cd;unfold Occ.nomR;generalize Day.dayI r.kind r.week r.day y r.month=d at *;unfold RuleV.cells;have Cd:=kj cd;clear cd hr hf;go_enter func228,ntmps228
 go_wp2_with (go_at_call 266;(with_reducible refine (Cd.out _).mono ?_);rintro e w1 ⟨rfl,hb1⟩;obtain ⟨_,_,_⟩:=bcs hb1 (w.heap.size))
 go_ret;exact ⟨rfl,bcq⟩
def nomE (r:RuleV) (y:Int):Int×Int:=if Rul.right r then (if y<r.fr∨r.to<y then (0,1) else (Occ.nomR r y,0)) else (0,4)
set_option maxHeartbeats 1600000 in
theorem Nom (r:RuleV) (hr:r.Fit) (y:Int) (w:World):
 Calls prog 276 #[.agg r.cells.toArray,.int .i64 y] w fun e w'=>e=.returned (.tuple #[.int .i64 (nomE r y).1,.int .i64 (nomE r y).2])∧Below w.heap.size w w':=by
 have cr:=Rul.Right r hr;unfold nomE;cases hR:Rul.right r
 ·rw [hR] at cr;simp only [Bool.false_eq_true,if_false];unfold RuleV.cells at *;have Cr:=kj cr;clear cr hR;go_enter func276,ntmps276
  go_wp2_with (go_at_call 162;(with_reducible refine (Cr.out _).mono ?_);rintro e w1 ⟨rfl,hb1⟩;obtain ⟨hc1_0,hf1_0,hz1_0⟩:=bcs hb1 (w.heap.size))
  go_ret2;exact ⟨rfl,bcq⟩
 ·rw [hR] at cr;simp only [if_true];have hy:=(Rul.right_spec hR).1
  by_cases hc1:y<r.fr
  ·rw [if_pos (.inl hc1)];unfold RuleV.cells at *;have Cr:=kj cr;clear cr hR;go_enter func276,ntmps276
   go_wp2_with (go_at_call 162;(with_reducible refine (Cr.out _).mono ?_);rintro e w1 ⟨rfl,hb1⟩;obtain ⟨hc1_0,hf1_0,hz1_0⟩:=bcs hb1 (w.heap.size))
   go_ret2;exact ⟨rfl,bcq⟩
  ·by_cases hc2:r.to<y
   ·rw [if_pos (.inr hc2)];unfold RuleV.cells at *;have Cr:=kj cr;clear cr hR;go_enter func276,ntmps276
    go_wp2_with (go_at_call 162;(with_reducible refine (Cr.out _).mono ?_);rintro e w1 ⟨rfl,hb1⟩;obtain ⟨hc1_0,hf1_0,hz1_0⟩:=bcs hb1 (w.heap.size))
    go_ret2;exact ⟨rfl,bcq⟩
   ·rw [if_neg (by omega)];have cn:=nom r hR y (by omega) (by omega);unfold RuleV.cells at *;have Cr:=kj cr;have Cn:=kj cn;clear cr cn hR;go_enter func276,ntmps276
    go_wp2_with (first|(go_at_call 162;(with_reducible refine (Cr.out _).mono ?_);rintro e w1 ⟨rfl,hb1⟩;obtain ⟨hc1_0,hf1_0,hz1_0⟩:=bcs hb1 (w.heap.size))|(go_at_call 228;(with_reducible refine (Cn.out _).mono ?_);rintro e w2 ⟨rfl,hb2⟩;obtain ⟨hc2,hf2⟩:=bcell hb2))
    go_ret2;exact ⟨rfl,bcq⟩
end Nom
end
section
open Go.RowKit NB
namespace Occ
variable {lt:OccV→OccV→Bool} {fr:OccV} {S T:OccV→Prop}
def scanY (lt:OccV→OccV→Bool) (fr:OccV) (r:RuleV) (i d:Int):Int→Nat→Option OccV
 |_,0=>none
 |y,n+1=>if lt fr (occ r i y) then some (occ r i y) else scanY lt fr r i d (y+d) n
theorem best_scanY {r:RuleV} {i d:Int} (hm:∀ (y:Int) (k:Nat),lt (occ r i (y+k*d)) (occ r i y)=false):
 ∀ (n:Nat) (y:Int),Best lt fr (fun o=>∃ k:Nat,k<n∧o=occ r i (y+k*d)) (scanY lt fr r i d y n)
 |0,y=>by
  rintro o ⟨k,hk,_⟩;omega
 |n+1,y=>by
  unfold scanY;cases h:lt fr (occ r i y)
  ·simp only [Bool.false_eq_true,if_false];have ih:=best_scanY hm n (y+d);have hs:∀ k:Nat,y+d+k*d=y+(k+1:Nat)*d:=by
    intro k;rw [Int.natCast_add,Int.add_mul];omega
   cases hc:scanY lt fr r i d (y+d) n with
   |none=>
    rw [hc] at ih;rintro o ⟨k,hk,rfl⟩;cases k with
    |zero=>simpa using h
    |succ k=>exact ih _ ⟨k,by omega,by rw [hs]⟩
   |some a=>
    rw [hc] at ih;obtain ⟨⟨k,hk,e⟩,h2,h3⟩:=ih;refine ⟨⟨k+1,by omega,by rw [e,hs]⟩,h2,?_⟩;rintro o ⟨k,hk,rfl⟩ hl;cases k with
    |zero=>rw [show y+((0:Nat):Int)*d=y by simp,h] at hl;cases hl
    |succ k=>exact h3 _ ⟨k,by omega,by rw [hs]⟩ hl
  ·simp only [if_true];refine ⟨⟨0,by omega,by simp⟩,h,?_⟩;rintro o ⟨k,_,rfl⟩ _;exact hm y k
def upY (fr:OccV) (r:RuleV) (i:Int):Option OccV:=scanY less fr r i 1 (max r.fr (nearY fr.nom-2)) (r.to-max r.fr (nearY fr.nom-2)+1).toNat
def downY (fr:OccV) (r:RuleV) (i:Int):Option OccV:=scanY more fr r i (-1) (min r.to (nearY fr.nom+2)) (min r.to (nearY fr.nom+2)-r.fr+1).toNat
theorem less_of_nom {a b:OccV} (h:a.nom<b.nom):less a b=true:=less_iff.2 (.inl h)
theorem less_same (r:RuleV) (hr:Rul.right r=true) (i y y':Int):less (occ r i y) (occ r i y')=decide (y<y'):=by
 have h:=nom_lt hr (y:=y) (y':=y');have h':=nom_lt hr (y:=y') (y':=y);rw [Bool.eq_iff_iff,less_iff,decide_eq_true_eq];show (nomR r y<nomR r y'∨nomR r y=nomR r y'∧i<i)↔_;omega
theorem best_upY {r:RuleV} (hr:Rul.right r=true) (i:Int) (fr:OccV):Best less fr (Of r i) (upY fr r i):=by
 have hn:=near_nearY fr.nom;refine Best.dom weak_less (best_scanY (fun y k=> ?_) _ _) ?_ ?_
 ·rw [less_same r hr];simp;omega
 ·rintro o ⟨k,hk,rfl⟩;exact ⟨by show r.fr≤_+_ * (1:Int);omega,by show _+_ * (1:Int)≤r.to;omega,rfl⟩
 ·rintro o ⟨h1,h2,h3⟩ hl;refine ⟨o,?_,hl,weak_less.irr o⟩;rw [h3] at hl;have hl':=less_iff.1 hl;have:max r.fr (nearY fr.nom-2)≤o.year:=by
   rcases (by omega:o.year<(nearY fr.nom-2)∨(nearY fr.nom-2)≤o.year) with hc|hc
   ·have:=hn.1 r hr o.year h1 h2 (by omega);have e:(occ r i o.year).nom=nomR r o.year:=rfl;omega
   ·omega
  exact ⟨(o.year-max r.fr (nearY fr.nom-2)).toNat,by omega,h3.trans (congrArg (occ r i) (by omega))⟩
theorem best_downY {r:RuleV} (hr:Rul.right r=true) (i:Int) (fr:OccV):Best more fr (Of r i) (downY fr r i):=by
 have hn:=near_nearY fr.nom;refine Best.dom weak_more (best_scanY (fun y k=> ?_) _ _) ?_ ?_
 ·unfold more;rw [less_same r hr];simp;omega
 ·rintro o ⟨k,hk,rfl⟩;exact ⟨by show r.fr≤_+_ * (-1:Int);omega,by show _+_ * (-1:Int)≤r.to;omega,rfl⟩
 ·rintro o ⟨h1,h2,h3⟩ hl;refine ⟨o,?_,hl,weak_more.irr o⟩;rw [h3] at hl;have hl':=less_iff.1 hl;have:o.year≤min r.to (nearY fr.nom+2):=by
   rcases (by omega:(nearY fr.nom+2)<o.year∨o.year≤(nearY fr.nom+2)) with hc|hc
   ·have:=hn.2 r hr o.year h1 h2 (by omega);have e:(occ r i o.year).nom=nomR r o.year:=rfl;omega
   ·omega
  exact ⟨(min r.to (nearY fr.nom+2)-o.year).toNat,by omega,h3.trans (congrArg (occ r i) (by omega))⟩
def lowA (r:RuleV) (Y:Int):Int:=if r.to<max r.fr (Y-2) then r.to else if min r.to (Y+2)<r.fr then r.fr else max r.fr (Y-2)
def highA (r:RuleV) (Y:Int):Int:=if r.to<max r.fr (Y-2) then r.to else if min r.to (Y+2)<r.fr then r.fr else min r.to (Y+2)
def foldA (lt:OccV→OccV→Bool) (fr:OccV) (r:RuleV) (i y:Int) (b:Option OccV):Nat→Option OccV
 |0=>b
 |k+1=>merge lt (foldA lt fr r i y b k) (one lt fr (occ r i (y+k)))
theorem best_foldA (W:Weak lt) {b:Option OccV} (h:Best lt fr S b) (r:RuleV) (i y:Int):∀ k:Nat,Best lt fr (fun o=>S o∨∃ j:Nat,j<k∧o=occ r i (y+j)) (foldA lt fr r i y b k)
 |0=>h.congr fun o=>⟨fun h=>.inl h,fun h=>h.elim id (by rintro ⟨j,hj,_⟩;omega)⟩
 |k+1=>((best_foldA W h r i y k).merge W (best_one W (occ r i (y+k)))).congr fun o=>by
   constructor
   ·rintro ((h|⟨j,hj,e⟩)|h)
    ·exact .inl h
    ·exact .inr ⟨j,by omega,e⟩
    ·exact .inr ⟨k,by omega,h⟩
   ·rintro (h|⟨j,hj,e⟩)
    ·exact .inl (.inl h)
    ·by_cases hjk:j=k
     ·subst hjk;exact .inr e
     ·exact .inl (.inr ⟨j,by omega,e⟩)
theorem low_high {r:RuleV} (hr:Rul.right r=true) (Y:Int):r.fr≤lowA r Y∧lowA r Y≤highA r Y∧highA r Y≤r.to:=by
 have:=(Rul.right_spec hr).1;unfold lowA highA
 split
 ·omega
 ·split<;>omega
theorem best_around_less {r:RuleV} (hr:Rul.right r=true) (i:Int) {fr:OccV} {Y:Int} (hn:Near fr.nom Y) {b:Option OccV} (h:Best less fr S b):
 Best less fr (fun o=>S o∨Of r i o) (foldA less fr r i (lowA r Y) b (highA r Y-lowA r Y+1).toNat):=by
 obtain ⟨a1,a2,a3⟩:=low_high hr Y;have hft:=(Rul.right_spec hr).1;refine Best.dom weak_less (best_foldA weak_less h r i _ _) ?_ ?_
 ·rintro o (h|⟨j,hj,rfl⟩)
  ·exact .inl h
  ·exact .inr ⟨by show r.fr≤_+(j:Int);omega,by show _+(j:Int)≤r.to;omega,rfl⟩
 ·rintro o (h|⟨h1,h2,h3⟩) hl
  ·exact ⟨o,.inl h,hl,weak_less.irr o⟩
  ·have hl0:=hl;rw [h3] at hl;have hl':=less_iff.1 hl;have e:(occ r i o.year).nom=nomR r o.year:=rfl;have hge:lowA r Y≤o.year:=by
    rcases (by omega:o.year<(Y-2)∨(Y-2)≤o.year) with hc|hc
    ·have:=hn.1 r hr o.year h1 h2 (by omega);omega
    ·unfold lowA;split
     ·omega
     ·split<;>omega
   rcases (by omega:(highA r Y)<o.year∨o.year≤(highA r Y)) with hc|hc
   ·refine ⟨occ r i (highA r Y),.inr ⟨(highA r Y-lowA r Y).toNat,by omega,by congr 1;omega⟩,?_,?_⟩
    ·have hY:Y+1<highA r Y:=by
      unfold highA at hc ⊢
      split
      ·rename_i hx;rw [if_pos hx] at hc;omega
      ·rename_i hx;rw [if_neg hx] at hc
       split
       ·rename_i hy;rw [if_pos hy] at hc;omega
       ·rename_i hy;rw [if_neg hy] at hc;omega
     exact less_of_nom (hn.2 r hr _ (by omega) (by omega) hY)
    ·rw [h3,less_same r hr];simp;omega
   ·exact ⟨o,.inr ⟨(o.year-lowA r Y).toNat,by omega,h3.trans (congrArg (occ r i) (by omega))⟩,hl0,weak_less.irr o⟩
theorem best_around_more {r:RuleV} (hr:Rul.right r=true) (i:Int) {fr:OccV} {Y:Int} (hn:Near fr.nom Y) {b:Option OccV} (h:Best more fr S b):
 Best more fr (fun o=>S o∨Of r i o) (foldA more fr r i (lowA r Y) b (highA r Y-lowA r Y+1).toNat):=by
 obtain ⟨a1,a2,a3⟩:=low_high hr Y;have hft:=(Rul.right_spec hr).1;refine Best.dom weak_more (best_foldA weak_more h r i _ _) ?_ ?_
 ·rintro o (h|⟨j,hj,rfl⟩)
  ·exact .inl h
  ·exact .inr ⟨by show r.fr≤_+(j:Int);omega,by show _+(j:Int)≤r.to;omega,rfl⟩
 ·rintro o (h|⟨h1,h2,h3⟩) hl
  ·exact ⟨o,.inl h,hl,weak_more.irr o⟩
  ·have hl0:=hl;rw [h3] at hl;have hl':=less_iff.1 hl;have e:(occ r i o.year).nom=nomR r o.year:=rfl;have hge:o.year≤highA r Y:=by
    rcases (by omega:(Y+2)<o.year∨o.year≤(Y+2)) with hc|hc
    ·have:=hn.2 r hr o.year h1 h2 (by omega);omega
    ·unfold highA;split
     ·omega
     ·split<;>omega
   rcases (by omega:o.year<(lowA r Y)∨(lowA r Y)≤o.year) with hc|hc
   ·refine ⟨occ r i (lowA r Y),.inr ⟨0,by omega,by congr 1;omega⟩,?_,?_⟩
    ·have hY:lowA r Y<Y-1:=by
      unfold lowA at hc ⊢
      split
      ·rename_i hx;rw [if_pos hx] at hc;omega
      ·rename_i hx;rw [if_neg hx] at hc
       split
       ·rename_i hy;rw [if_pos hy] at hc;omega
       ·rename_i hy;rw [if_neg hy] at hc;omega
     exact less_of_nom (hn.1 r hr _ (by omega) (by omega) hY)
    ·unfold more;rw [h3,less_same r hr];simp;omega
   ·exact ⟨o,.inr ⟨(o.year-lowA r Y).toNat,by omega,h3.trans (congrArg (occ r i) (by omega))⟩,hl0,weak_more.irr o⟩
def All (l:List RuleV) (name:ByteArray) (k:Nat) (o:OccV):Prop:=∃ (i:Nat) (r:RuleV),i<k∧l[i]? =some r∧r.name=name∧Rul.right r=true∧Of r i o
def scan (lt:OccV→OccV→Bool) (cand:RuleV→Int→Option OccV) (l:List RuleV) (name:ByteArray):Nat→Option OccV
 |0=>none
 |k+1=>merge lt (scan lt cand l name k) (match l[k]? with
  |some r=>if r.name=name∧Rul.right r=true then cand r k else none
  |none=>none)
def nextO (l:List RuleV) (name:ByteArray) (fr:OccV):Option OccV:=scan less (upY fr) l name l.length
def prevO (l:List RuleV) (name:ByteArray) (fr:OccV):Option OccV:=scan more (downY fr) l name l.length
theorem All_zero {l:List RuleV} {name:ByteArray} {o:OccV}:¬All l name 0 o:=by rintro ⟨i,_,h,_⟩;omega
theorem All_succ {l:List RuleV} {name:ByteArray} {k:Nat} {r:RuleV} (hr:l[k]? =some r) (o:OccV):All l name (k+1) o↔(All l name k o∨(r.name=name∧Rul.right r=true∧Of r k o)):=by
 constructor
 ·rintro ⟨i,r',h1,h2,h3⟩
  by_cases hik:i=k
  ·subst hik;rw [hr] at h2;cases h2;exact .inr h3
  ·exact .inl ⟨i,r',by omega,h2,h3⟩
 ·rintro (⟨i,r',h1,h2,h3⟩|h)
  ·exact ⟨i,r',by omega,h2,h3⟩
  ·exact ⟨k,r,by omega,hr,h⟩
theorem best_scan (W:Weak lt) {cand:RuleV→Int→Option OccV} (hc:∀ r i,Rul.right r=true→Best lt fr (Of r i) (cand r i)) (l:List RuleV) (name:ByteArray):∀ k:Nat,k≤l.length→Best lt fr (All l name k) (scan lt cand l name k)
 |0,_=>fun o ho=>(All_zero ho).elim
 |k+1,hk=>by
  obtain ⟨r,hr⟩:∃ r,l[k]? =some r:=⟨l[k],by simp⟩;have ih:=best_scan W hc l name k (by omega);unfold scan;rw [hr];simp only
  by_cases h:r.name=name∧Rul.right r=true
  ·rw [if_pos h];refine (ih.merge W (hc r k h.2)).congr fun o=> ?_;rw [All_succ hr];exact ⟨fun h'=>h'.imp id fun x=>⟨h.1,h.2,x⟩,fun h'=>h'.imp id fun x=>x.2.2⟩
  ·rw [if_neg h];have:merge lt (scan lt cand l name k) none=scan lt cand l name k:=by cases scan lt cand l name k<;>rfl
   rw [this];refine ih.congr fun o=> ?_;rw [All_succ hr];exact ⟨.inl,fun h'=>h'.elim id fun x=>(h ⟨x.1,x.2.1⟩).elim⟩
theorem best_next (l:List RuleV) (name:ByteArray) (fr:OccV):Best less fr (All l name l.length) (nextO l name fr):=
 best_scan weak_less (fun _ i h=>best_upY h i fr) l name _ (Nat.le_refl _)
theorem best_prev (l:List RuleV) (name:ByteArray) (fr:OccV):Best more fr (All l name l.length) (prevO l name fr):=
 best_scan weak_more (fun _ i h=>best_downY h i fr) l name _ (Nat.le_refl _)
theorem All_alike {l:List RuleV} {name:ByteArray} {k:Nat} {a b:OccV} (ha:All l name k a) (hb:All l name k b) (h1:a.nom=b.nom) (h2:a.rule=b.rule):a=b:=by
 obtain ⟨i,r,_,hr,_,hR,_,_,e⟩:=ha;obtain ⟨j,s,_,hs,_,_,_,_,e'⟩:=hb;have e1:a.rule=i:=by rw [e];rfl
 have e2:b.rule=j:=by rw [e'];rfl
 obtain rfl:i=j:=by omega
 rw [hr] at hs;cases hs;have f1:a.nom=nomR r a.year:=by rw [e];rfl
 have f2:b.nom=nomR r b.year:=by rw [e'];rfl
 have:a.year=b.year:=by
  have g1:=nom_lt hR (y:=a.year) (y':=b.year);have g2:=nom_lt hR (y:=b.year) (y':=a.year);omega
 cases a;cases b;simp_all
theorem Best.unique (W:Weak lt) {l:List RuleV} {name:ByteArray} {k:Nat} {a b:Option OccV} (ha:Best lt fr (All l name k) a) (hb:Best lt fr (All l name k) b):a=b:=by
 cases a with
 |none=>
  cases b with
  |none=>rfl
  |some y=>
   have:=ha y hb.1;rw [hb.2.1] at this;cases this
 |some x=>
  cases b with
  |none=>
   have:=hb x ha.1;rw [ha.2.1] at this;cases this
  |some y=>
   obtain ⟨h1,h2⟩:=W.alike x y (hb.2.2 x ha.1 ha.2.1) (ha.2.2 y hb.1 hb.2.1);rw [All_alike ha.1 hb.1 h1 h2]
def scanA (lt:OccV→OccV→Bool) (fr:OccV) (Y:Int) (l:List RuleV) (name:ByteArray):Nat→Option OccV
 |0=>none
 |k+1=>match l[k]? with
  |some r=>if r.name=name∧Rul.right r=true then foldA lt fr r k (lowA r Y) (scanA lt fr Y l name k) (highA r Y-lowA r Y+1).toNat else scanA lt fr Y l name k
  |none=>scanA lt fr Y l name k
theorem best_scanA {Y:Int} (hc:∀ (r:RuleV) (i:Int) (S:OccV→Prop) (b:Option OccV),Rul.right r=true→Best lt fr S b→Best lt fr (fun o=>S o∨Of r i o) (foldA lt fr r i (lowA r Y) b (highA r Y-lowA r Y+1).toNat)) (l:List RuleV) (name:ByteArray):∀ k:Nat,k≤l.length→Best lt fr (All l name k) (scanA lt fr Y l name k)
 |0,_=>fun o ho=>(All_zero ho).elim
 |k+1,hk=>by
  obtain ⟨r,hr⟩:∃ r,l[k]? =some r:=⟨l[k],by simp⟩;have ih:=best_scanA hc l name k (by omega);unfold scanA;rw [hr];simp only
  by_cases h:r.name=name∧Rul.right r=true
  ·rw [if_pos h];refine (hc r k _ _ h.2 ih).congr fun o=> ?_;rw [All_succ hr];exact ⟨fun h'=>h'.imp id fun x=>⟨h.1,h.2,x⟩,fun h'=>h'.imp id fun x=>x.2.2⟩
  ·rw [if_neg h];refine ih.congr fun o=> ?_;rw [All_succ hr];exact ⟨.inl,fun h'=>h'.elim id fun x=>(h ⟨x.1,x.2.1⟩).elim⟩
theorem next_eq {Y:Int} {fr:OccV} (hn:Near fr.nom Y) (l:List RuleV) (name:ByteArray):scanA less fr Y l name l.length=nextO l name fr:=
 Best.unique weak_less (best_scanA (fun _ i _ _ h hb=>best_around_less h i hn hb) l name _ (Nat.le_refl _)) (best_next l name fr)
theorem prev_eq {Y:Int} {fr:OccV} (hn:Near fr.nom Y) (l:List RuleV) (name:ByteArray):scanA more fr Y l name l.length=prevO l name fr:=
 Best.unique weak_more (best_scanA (fun _ i _ _ h hb=>best_around_more h i hn hb) l name _ (Nat.le_refl _)) (best_prev l name fr)
def nearA (t:Int):Int:=if Cal.ahead (-40000)≤t/86400∧t/86400<Cal.ahead 40001 then Yr.dY (t/86400) else if t<0 then -40000 else 40000
theorem near_nearA (t:Int):Near t (nearA t):=by
 have e1:Cal.ahead (-40000)= -15329228:=by decide +kernel
 have e2:Cal.ahead 40001=13890538:=by decide +kernel
 unfold nearA
 split
 ·have h:=Yr.year_of (t/86400);exact near_of (by omega) (by omega)
 ·rename_i h;rw [e1,e2] at h
  split
  ·constructor
   ·intro r hr y a b c;have:=(Rul.right_spec hr).1;omega
   ·intro r hr y a b c;have:=nom_range hr a b;omega
  ·constructor
   ·intro r hr y a b c;have:=nom_range hr a b;omega
   ·intro r hr y a b c;have:=(Rul.right_spec hr).1;omega
end Occ
end
end Go.Proofs.YtgmfojgnjdpofaaGreatDoor
