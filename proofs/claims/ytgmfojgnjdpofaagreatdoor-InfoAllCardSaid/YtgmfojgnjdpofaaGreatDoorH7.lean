import Derived.Test.YtgmfojgnjdpofaaGreatDoorH3
import Derived.Test.YtgmfojgnjdpofaaGreatDoorH6
import Derived.Shelf.Abstract
import Derived.Shelf.RegionOpen
import Derived.WalkKit
import Derived.OwnWalkIn
import Derived.TacticsInMore
import Derived.LoopNIn
import Derived.LoopIn
import Derived.Test.YtgmfojgnjdpofaaGreatDoorH1
import Derived.Test.YtgmfojgnjdpofaaGreatDoorH5
namespace Go.Proofs.YtgmfojgnjdpofaaGreatDoor
open Go.Proofs.Tryz
section
open Go.RowKit NB Nxt
namespace NxH
theorem NextE (p:Option Addr) (cap:Nat) (name:ByteArray) (fr:OccV) (w:World):Calls prog 100 #[.slice p 0 cap,.string name,.agg fr.cells.toArray] w fun e w'=>e=.returned (.tuple #[.agg #[.int .i64 0,.int .i64 0,.int .i64 0],.bool false])∧Below w.heap.size w w':=by
 have cn:=fun W=>Nom.near fr.nom W;generalize Occ.nearY fr.nom=Y at *;have Cn:=kj cn;clear cn;unfold OccV.cells;go_enter func100,ntmps100
 go_wp2_with (go_at_call 161;(with_reducible refine (Cn.out _).mono ?_);rintro e w1 ⟨rfl,hb1⟩;obtain ⟨_,_,_⟩:=bcs hb1 (w.heap.size);obtain ⟨_,_,_⟩:=bcs hb1 (w.heap.size+1))
 go_loopw [18,7] (fun i is wr=>i=.int .i64 0∧is=.bool false∧wr=w1) (fun i _ _=>0)
 case atStart=>exact ⟨rfl,rfl,rfl⟩
 case round=>
  obtain ⟨rfl,rfl,hwr⟩:=hrel;subst hwr;go_wp2;refine bodyPost_ret (v:=.tuple #[.agg #[.int .i64 0,.int .i64 0,.int .i64 0],.bool false]) ?_ rfl ⟨rfl,?_⟩
  ·simp only [results,results100];go_simp
  ·exact bcq
theorem Next {w:World} {v:Value} {l:List RuleV} (h:Holds w v l) (name:ByteArray) (fr:OccV):Calls prog 100 #[v,.string name,.agg fr.cells.toArray] w fun e w'=>e=.returned (optV (Occ.nextO l name fr))∧Below w.heap.size w w':=by
 rcases h.lies with ⟨p,cap,rfl,rfl⟩|⟨b,off,cap,rfl,h2,h3⟩
 ·exact NextE p cap name fr w
 ·exact Nxt.Next b off cap l name fr w h3 h2 h.len h.fit
theorem PrevE (p:Option Addr) (cap:Nat) (name:ByteArray) (fr:OccV) (w:World):Calls prog 102 #[.slice p 0 cap,.string name,.agg fr.cells.toArray] w fun e w'=>e=.returned (.tuple #[.agg #[.int .i64 0,.int .i64 0,.int .i64 0],.bool false])∧Below w.heap.size w w':=by
 have cn:=fun W=>Nom.near fr.nom W;generalize Occ.nearY fr.nom=Y at *;have Cn:=kj cn;clear cn;unfold OccV.cells;go_enter func102,ntmps102
 go_wp2_with (go_at_call 161;(with_reducible refine (Cn.out _).mono ?_);rintro e w1 ⟨rfl,hb1⟩;obtain ⟨_,_,_⟩:=bcs hb1 (w.heap.size);obtain ⟨_,_,_⟩:=bcs hb1 (w.heap.size+1))
 go_loopw [18,7] (fun i is wr=>i=.int .i64 0∧is=.bool false∧wr=w1) (fun i _ _=>0)
 case atStart=>exact ⟨rfl,rfl,rfl⟩
 case round=>
  obtain ⟨rfl,rfl,hwr⟩:=hrel;subst hwr;go_wp2;refine bodyPost_ret (v:=.tuple #[.agg #[.int .i64 0,.int .i64 0,.int .i64 0],.bool false]) ?_ rfl ⟨rfl,?_⟩
  ·simp only [results,results102];go_simp
  ·exact bcq
theorem Prev {w:World} {v:Value} {l:List RuleV} (h:Holds w v l) (name:ByteArray) (fr:OccV):Calls prog 102 #[v,.string name,.agg fr.cells.toArray] w fun e w'=>e=.returned (optV (Occ.prevO l name fr))∧Below w.heap.size w w':=by
 rcases h.lies with ⟨p,cap,rfl,rfl⟩|⟨b,off,cap,rfl,h2,h3⟩
 ·exact PrevE p cap name fr w
 ·exact Nxt.Prev b off cap l name fr w h3 h2 h.len h.fit
end NxH
end
section
open Go.RowKit Go.Shelf NB Nxt
attribute [local go_sem] Oper.semAt_some
namespace All
def Kp (n₀ B:Nat) (c:Nat) (A C:World):Prop:=Below n₀ A C∧(∀ k,B≤k→k<B+3→C.heap[k]? =A.heap[k]?)∧C.heap[c]? =A.heap[c]?
structure Env (W:World) (B:Nat) (v:Value) (name:ByteArray) (fr:OccV):Prop where
 rules:Box W B #[v] 22
 name:Box W (B+1) #[.string name] 9
 from_:Box W (B+2) #[.int .i64 fr.rule,.int .i64 fr.year,.int .i64 fr.nom] 156
theorem Env.later {W V:World} {B:Nat} {v:Value} {name:ByteArray} {fr:OccV} (h:Env W B v name fr) (hb:Below W.heap.size W V):Env V B v name fr:=
 ⟨h.rules.later hb,h.name.later hb,h.from_.later hb⟩
def optC:Option OccV→Array Value
 |none=>#[.int .i64 0,.int .i64 0,.int .i64 0]
 |some o=>#[.int .i64 o.rule,.int .i64 o.year,.int .i64 o.nom]
def rd (W:World) (b:Nat):Option OccV:=match W.cell? ⟨b,0,none⟩,W.cell? ⟨b,1,none⟩,W.cell? ⟨b,2,none⟩ with
 |some (.int _ i),some (.int _ y),some (.int _ n)=>some ⟨i,y,n⟩
 |_,_,_=>none
noncomputable def meas (nx:OccV→Option OccV) (b:Nat) (m:Value) (W:World):Nat:=match m with
 | .bool true=>Occ.leftO nx (rd W b)
 |_=>0
theorem rd_box {W:World} {b:Nat} {o:OccV} {t:TypeId} (h:Box W b #[.int .i64 o.rule,.int .i64 o.year,.int .i64 o.nom] t):rd W b=some o:=by
 unfold rd;rw [h.cell 0,h.cell 1,h.cell 2];rfl
theorem meas_eq {nx:OccV→Option OccV} {W:World} {b:Nat} {c:Option OccV} {t:TypeId} (h:Box W b (optC c) t):meas nx b (.bool c.isSome) W=Occ.leftO nx c:=by
 cases c with
 |none=>rfl
 |some o=>show Occ.leftO nx (rd W b)=_;rw [rd_box h]
theorem opt_parts (c:Option OccV):∃ i y k,optV c=.tuple #[.agg #[.int .i64 i,.int .i64 y,.int .i64 k],.bool c.isSome]∧optC c=#[.int .i64 i,.int .i64 y,.int .i64 k]:=by
 cases c with
 |none=>exact ⟨0,0,0,rfl,rfl⟩
 |some o=>exact ⟨o.rule,o.year,o.nom,rfl,rfl⟩
variable {F:Fence} {n:Nat}
end All
end
section
open Go.RowKit NB Nxt
namespace ChW
theorem may (off:Int) (w:World):Calls prog 220 #[.int .i64 off] w fun e w'=>e=.returned (.bool (Chn.may off))∧w=w':=by
 unfold Chn.may
 by_cases h1: -54000≤off
 ·by_cases h2:off≤54000
  ·go_enter func220,ntmps220;go_wp2;go_ret;exact ⟨by simp;omega,rfl⟩
  ·go_enter func220,ntmps220;go_wp2;go_ret;exact ⟨by simp;omega,rfl⟩
 ·go_enter func220,ntmps220;go_wp2;go_ret;exact ⟨by simp;omega,rfl⟩
theorem rule_of {l:List RuleV} {name:ByteArray} {p:OccV} (h:Occ.All l name l.length p):∃ (i:Nat) (r:RuleV),p.rule=i∧i<l.length∧l[i]? =some r∧r.name=name∧Rul.right r=true∧r.fr≤p.year∧p.year≤r.to∧p.nom=Occ.nomR r p.year:=by
 obtain ⟨i,r,hi,hr,hn,hR,h1,h2,e⟩:=h;exact ⟨i,r,by rw [e];rfl,hi,hr,hn,hR,h1,h2,by rw [e];rfl⟩
set_option maxHeartbeats 1600000 in
theorem Saved {w:World} {v:Value} {l:List RuleV} (h:Holds w v l) (name:ByteArray) (o:OccV):Calls prog 268 #[v,.string name,.agg o.cells.toArray] w fun e w'=>e=.returned (.int .i64 (Chn.saved l name o))∧Below w.heap.size w w':=by
 have cp:=fun W (h:Holds W v l)=>NxH.Prev h name o;unfold Chn.saved;cases hp:Occ.prevO l name o with
 |none=>
  rw [hp] at cp;unfold optV at cp;simp only at cp ⊢;unfold OccV.cells at *;have HH:=kj h;have Cp:=kj cp;clear h cp hp;go_enter func268,ntmps268
  go_wp2_with (go_at_call 102;(with_reducible refine (Cp.out _ ?_).mono ?_);(· exact HH.out.later bcq);rintro e w1 ⟨rfl,hb1⟩;obtain ⟨hc1_0,hf1_0,hz1_0⟩:=bcs hb1 (w.heap.size))
  go_ret;exact ⟨rfl,bcq⟩
 |some p=>
  rw [hp] at cp;obtain ⟨i,r,e1,hi,hr,hn,hR,y1,y2,y3⟩:=rule_of (Occ.prev_all hp).1;rcases h.lies with ⟨q,cap,rfl,rfl⟩|⟨b,off,cap,rfl,h2,h3⟩
  ·exact absurd hi (Nat.not_lt_zero _)
  have hlm:=h.len;have c9:w.cell? ⟨b,off+i*11+9,none⟩=some (.int .i64 r.save):=h3 i 9 _ _ (by rw [List.getElem?_map,hr];rfl) rfl;have es:Chn.saveAt l p.rule=r.save:=by unfold Chn.saveAt;rw [e1,Chn.rule_at hr]
  simp only;rw [es];clear es h3;obtain ⟨pr,py,pn⟩:=p;simp only at e1;subst e1;unfold optV at cp;simp only at cp;unfold OccV.cells at *;simp only at cp;generalize l.length=n at *;have HH:=kj h;have Cp:=kj cp;clear h cp hp hr hn hR y1 y2 y3;go_enter func268,ntmps268
  go_wp2_with (go_at_call 102;(with_reducible refine (Cp.out _ ?_).mono ?_);(· exact HH.out.later bcq);rintro e w1 ⟨rfl,hb1⟩;obtain ⟨hc1_0,hf1_0,hz1_0⟩:=bcs hb1 (b);obtain ⟨_,_,_⟩:=bcs hb1 (w.heap.size))
  go_ret;exact ⟨rfl,bcq⟩
theorem inst1 {w:World} {v:Value} {l:List RuleV} (h:Holds w v l) (name:ByteArray) (o:OccV) (b0 b1 b2:Nat) (h0:w.cell? ⟨b0,0,none⟩=some v) (h1:w.cell? ⟨b1,0,none⟩=some (.string name)) (h2:At3 w b2 o):
 Calls prog 275 #[.pointer (some ⟨b0,0,none⟩),.pointer (some ⟨b1,0,none⟩),.pointer (some ⟨b2,0,none⟩)] w fun e w'=>e=.returned (.int .i64 (Chn.saved l name o))∧Below w.heap.size w w':=by
 have cs:=fun W (h:Holds W v l)=>Saved h name o;obtain ⟨p,cap,rfl⟩:=h.form;unfold At3 at h2;unfold OccV.cells at *;have HH:=kj h;have Cs:=kj cs;clear h cs;go_enter func275,ntmps275
 go_wp2_with (go_at_call 268;(with_reducible refine (Cs.out _ ?_).mono ?_);(· exact HH.out.later bcq);rintro e w1 ⟨rfl,hb1⟩;obtain ⟨hc1,hf1⟩:=bcell hb1)
 go_ret;exact ⟨rfl,bcq⟩
theorem clock1 {w:World} {v:Value} {l:List RuleV} (h:Holds w v l) (name:ByteArray) (t:Int) (b0 b1 b2:Nat) (h0:w.cell? ⟨b0,0,none⟩=some v) (h1:w.cell? ⟨b1,0,none⟩=some (.string name)) (h2:w.cell? ⟨b2,0,none⟩=some (.int .i64 t)):
 Calls prog 267 #[.pointer (some ⟨b0,0,none⟩),.pointer (some ⟨b1,0,none⟩),.pointer (some ⟨b2,0,none⟩)] w fun e w'=>e=.returned (.int .i64 (Chn.saved l name ⟨-1,0,t⟩))∧Below w.heap.size w w':=by
 have cs:=fun W (h:Holds W v l)=>Saved h name ⟨-1,0,t⟩;obtain ⟨p,cap,rfl⟩:=h.form;unfold OccV.cells at *;have HH:=kj h;have Cs:=kj cs;clear h cs;go_enter func267,ntmps267
 go_wp2_with (go_at_call 268;(with_reducible refine (Cs.out _ ?_).mono ?_);(· exact HH.out.later bcq);rintro e w1 ⟨rfl,hb1⟩;obtain ⟨hc1,hf1⟩:=bcell hb1)
 go_ret;exact ⟨rfl,bcq⟩
set_option maxHeartbeats 800000 in
theorem shiftI (off base:Int) (hm:Chn.may off=true) {w:World} {v:Value} {l:List RuleV} (h:Holds w v l) (name:ByteArray) (o:OccV) (b0 b1 b2:Nat) (h0:w.cell? ⟨b0,0,none⟩=some v) (h1:w.cell? ⟨b1,0,none⟩=some (.string name)) (h2:At3 w b2 o):
 Calls prog 269 #[.int .i64 off,.int .i64 base,.func (.func 275) #[] #[.pointer (some ⟨b0,0,none⟩),.pointer (some ⟨b1,0,none⟩),.pointer (some ⟨b2,0,none⟩)]] w fun e w'=>e=.returned (.int .i64 (Chn.shift off base (Chn.saved l name o)))∧Below w.heap.size w w':=by
 have ci:=inst1 h name o b0 b1 b2 h0 h1 h2;have sb:=Chn.saved_bd l name o;rw [Chn.may_iff] at hm;unfold Chn.shift;generalize Chn.saved l name o=s at *;have Ci:=kj ci;clear ci h h0 h1 h2
 by_cases e0:base=0
 ·subst e0;rw [if_pos rfl];go_enter func269,ntmps269
  go_wp2_with (go_at_call 275;(with_reducible refine (Ci.out).mono ?_);rintro e w1 ⟨rfl,hb1⟩;obtain ⟨hc1,hf1⟩:=bcell hb1)
  go_ret;exact ⟨rfl,bcq⟩
 ·rw [if_neg e0]
  by_cases e1:base=1
  ·subst e1;rw [if_pos rfl];go_enter func269,ntmps269;go_wp2;go_ret;exact ⟨rfl,bcq⟩
  ·rw [if_neg e1];go_enter func269,ntmps269;go_wp2;go_ret;exact ⟨rfl,bcq⟩
set_option maxHeartbeats 800000 in
theorem shiftC (off base:Int) (hm:Chn.may off=true) {w:World} {v:Value} {l:List RuleV} (h:Holds w v l) (name:ByteArray) (t:Int) (b0 b1 b2:Nat) (h0:w.cell? ⟨b0,0,none⟩=some v) (h1:w.cell? ⟨b1,0,none⟩=some (.string name)) (h2:w.cell? ⟨b2,0,none⟩=some (.int .i64 t)):
 Calls prog 269 #[.int .i64 off,.int .i64 base,.func (.func 267) #[] #[.pointer (some ⟨b0,0,none⟩),.pointer (some ⟨b1,0,none⟩),.pointer (some ⟨b2,0,none⟩)]] w fun e w'=>e=.returned (.int .i64 (Chn.shift off base (Chn.saved l name ⟨-1,0,t⟩)))∧Below w.heap.size w w':=by
 have ci:=clock1 h name t b0 b1 b2 h0 h1 h2;have sb:=Chn.saved_bd l name ⟨-1,0,t⟩;rw [Chn.may_iff] at hm;unfold Chn.shift;generalize Chn.saved l name ⟨-1,0,t⟩=s at *;have Ci:=kj ci;clear ci h h0 h1 h2
 by_cases e0:base=0
 ·subst e0;rw [if_pos rfl];go_enter func269,ntmps269
  go_wp2_with (go_at_call 267;(with_reducible refine (Ci.out).mono ?_);rintro e w1 ⟨rfl,hb1⟩;obtain ⟨hc1,hf1⟩:=bcell hb1)
  go_ret;exact ⟨rfl,bcq⟩
 ·rw [if_neg e0]
  by_cases e1:base=1
  ·subst e1;rw [if_pos rfl];go_enter func269,ntmps269;go_wp2;go_ret;exact ⟨rfl,bcq⟩
  ·rw [if_neg e1];go_enter func269,ntmps269;go_wp2;go_ret;exact ⟨rfl,bcq⟩
set_option maxHeartbeats 1600000 in
theorem instant {w:World} {v:Value} {l:List RuleV} (h:Holds w v l) (name:ByteArray) (off:Int) (hm:Chn.may off=true) (o:OccV) (ho:Occ.All l name l.length o):
 Calls prog 222 #[v,.string name,.int .i64 off,.agg o.cells.toArray] w fun e w'=>e=.returned (.int .i64 (Chn.inst l name off o))∧Below w.heap.size w w':=by
 have hmf:∀ (fn:Fn) (first cap:Array Value) (w:World),(Instr.makeFunc fn first cap).run prog w=.ok (.func fn first cap) w:=fun _ _ _ _=>rfl;obtain ⟨i,r,e1,hi,hr,hn,hR,y1,y2,y3⟩:=rule_of ho;rcases h.lies with ⟨q,cap,rfl,rfl⟩|⟨b,bo,cap,rfl,h2,h3⟩
 ·exact absurd hi (Nat.not_lt_zero _)
 have hlm:=h.len;have hon:=Chn.all_range ho;have sb:=Chn.saved_bd l name o;have c8:w.cell? ⟨b,bo+i*11+8,none⟩=some (.int .i64 r.base):=h3 i 8 _ _ (by rw [List.getElem?_map,hr];rfl) rfl;have eb:Chn.baseAt l o.rule=r.base:=by unfold Chn.baseAt;rw [e1,Chn.rule_at hr]
 have cs:=fun W (h:Holds W (.slice (some ⟨b,bo,none⟩) l.length cap) l) (h0:W.cell? ⟨w.heap.size,0,none⟩=some (.slice (some ⟨b,bo,none⟩) l.length cap)) (h1:W.cell? ⟨w.heap.size+1,0,none⟩=some (.string name)) (h2:At3 W (w.heap.size+1+1) o)=>shiftI off r.base hm h name o w.heap.size (w.heap.size+1) (w.heap.size+1+1) h0 h1 h2;have sh:=Chn.shift_bd (base:=r.base) hm sb.1 sb.2;unfold Chn.inst;rw [eb];generalize Chn.shift off r.base (Chn.saved l name o)=s at *;obtain ⟨V,hV⟩:∃ V,V=((w.alloc (.cells #[.slice (some ⟨b,bo,none⟩) l.length cap] 22)).alloc (.cells #[.string name] 9)).alloc (.cells o.cells.toArray 156):=⟨_,rfl⟩;have hBV:Below w.heap.size w V:=by rw [hV];exact ba (ba (ba (Below.refl _ _)))
 have hVs:V.heap.size=w.heap.size+3:=by rw [hV];simp
 have k0:Box V w.heap.size #[.slice (some ⟨b,bo,none⟩) l.length cap] 22:=by
  rw [hV];exact ((Box.new _ _ _).old).old
 have k1:Box V (w.heap.size+1) #[.string name] 9:=by
  rw [hV];have:=Box.new (w.alloc (.cells #[.slice (some ⟨b,bo,none⟩) l.length cap] 22)) #[.string name] 9;simp only [World.size_alloc] at this;exact this.old
 have k2:Box V (w.heap.size+1+1) o.cells.toArray 156:=by
  rw [hV];have:=Box.new ((w.alloc (.cells #[.slice (some ⟨b,bo,none⟩) l.length cap] 22)).alloc (.cells #[.string name] 9)) o.cells.toArray 156
  simpa using this
 have hF:∀ u,Below V.heap.size V u→(∀ j,u.cell? ⟨w.heap.size,j,none⟩=(#[.slice (some ⟨b,bo,none⟩) l.length cap]:Array Value)[j]?)∧(∀ j,u.cell? ⟨w.heap.size+1,j,none⟩=(#[.string name]:Array Value)[j]?)∧(∀ j,u.cell? ⟨w.heap.size+1+1,j,none⟩=o.cells.toArray[j]?)∧u.cell? ⟨b,bo+i*11+8,none⟩=some (.int .i64 r.base):=
  fun u hu=>⟨(k0.later hu).cell,(k1.later hu).cell,(k2.later hu).cell,((hBV.trans (hu.mono hBV.size)).cell (p:=⟨b,bo+i*11+8,none⟩) h2).trans c8⟩
 clear k0 k1 k2 h3 c8;unfold At3 at cs;unfold OccV.cells at *;rw [e1] at cs hF hV ⊢;have HH:=kj h;have Cs:=kj cs;have HF:=kj hF;have h0:=hF V (Below.refl _ _);clear h cs hF ho e1 hr hn hR eb sb y1 y2 y3;generalize l.length=n at *;go_enter func222,ntmps222;have hw:IntKind.i64.wrap (o.nom-s)=o.nom-s:=by rw [IntKind.wrap_i64];omega
 go_upto_region 1 with (fail)
 rw [← hV];clear hV
 go_region_held3 (fun w'=>(∀ j,w'.cell? ⟨w.heap.size,j,none⟩=(#[.slice (some ⟨b,bo,none⟩) n cap]:Array Value)[j]?)∧(∀ j,w'.cell? ⟨w.heap.size+1,j,none⟩=(#[.string name]:Array Value)[j]?)∧(∀ j,w'.cell? ⟨w.heap.size+1+1,j,none⟩=(#[.int .i64 i,.int .i64 o.year,.int .i64 o.nom]:Array Value)[j]?)∧w'.cell? ⟨b,bo+i*11+8,none⟩=some (.int .i64 r.base)) ((refine (fun h=>h) (HF.out _ ?_);exact bcq))
  (first
    |(go_at_call 269;refine (Cs.out _ ?_ ?_ ?_ ?_).mono ?_;(· exact HH.out.later (bt hBV bcq));(· exact (HF.out _ bcq).1 0);(· exact (HF.out _ bcq).2.1 0);(· exact (HF.out _ bcq).2.2.1);rintro e w1 ⟨rfl,hb1⟩))
 all_goals go_wp2
 all_goals go_ret
 all_goals refine ⟨rfl,bt hBV ?_⟩
 all_goals exact bcq
set_option maxHeartbeats 1600000 in
theorem isT {w:World} {v:Value} {l:List RuleV} (h:Holds w v l) (name:ByteArray) (o:OccV):
 Calls prog 223 #[v,.string name,.agg o.cells.toArray] w fun e w'=>e=.returned (.bool (Chn.isO l name o))∧Below w.heap.size w w':=by
 obtain ⟨or,oy,on⟩:=o;have hlm:=h.len;unfold OccV.cells;unfold Chn.isO Chn.ruleAt;simp only
 by_cases h0:or<0
 ·rw [if_neg (by omega)];obtain ⟨q,cap,rfl⟩:=h.form;clear h;go_enter func223,ntmps223;go_wp2;go_ret;exact ⟨rfl,bcq⟩
 ·rw [if_pos (by omega)];obtain ⟨i,rfl⟩:∃ i:Nat,or=i:=⟨or.toNat,by omega⟩;rw [show (i:Int).toNat=i by omega]
  by_cases hi:l.length≤i
  ·rw [List.getElem?_eq_none hi];obtain ⟨q,cap,rfl⟩:=h.form;clear h;generalize l.length=n at *;go_enter func223,ntmps223;go_wp2;go_ret;exact ⟨rfl,bcq⟩
  ·have hi2:i<l.length:=by omega
   rcases h.lies with ⟨q,cap,rfl,rfl⟩|⟨b,bo,cap,rfl,h2,h3⟩
   ·exact absurd hi2 (Nat.not_lt_zero _)
   obtain ⟨r,hr⟩:∃ r,l[i]? =some r:=⟨l[i],List.getElem?_eq_getElem hi2⟩;have hcl:∀ (j:Nat) (u:Value),r.cells[j]? =some u→w.cell? ⟨b,bo+i*11+j,none⟩=some u:=fun j u hu=>h3 i j _ u (by rw [List.getElem?_map,hr];rfl) hu;have cn:=fun W=>Nom.Nom r (h.fit r (List.mem_of_getElem? hr)) oy W;have c0:=hcl 0 _ rfl;have c1:=hcl 1 _ rfl;have c2:=hcl 2 _ rfl;have c3:=hcl 3 _ rfl;have c4:=hcl 4 _ rfl;have c5:=hcl 5 _ rfl;have c6:=hcl 6 _ rfl;have c7:=hcl 7 _ rfl;have c8:=hcl 8 _ rfl;have c9:=hcl 9 _ rfl;have c10:=hcl 10 _ rfl;simp only [Nat.add_zero] at c0;rw [hr];simp only;clear hcl h h3 hr;generalize l.length=n at *
   by_cases hn:r.name=name
   ·have hq:=str_eq hn;rw [show decide (r.name=name)=true by simp [hn]];generalize Nom.nomE r oy=E at *;obtain ⟨x,y⟩:=E;unfold RuleV.cells at *;simp only at cn;have Cn:=kj cn;clear cn hn
    by_cases hx:y=0
    ·subst hx
     by_cases hy:x=on
     ·subst hy;go_enter func223,ntmps223
      go_upto_region 3 with (fail)
      (refine region_later (by kernel_rfl) (by kernel_rfl) ?_;(repeat (go_big_quiet_step (first|(go_at_call 276;rename_i xL;apply calls_later xL (Nat.le_refl _);exact (Cn.out _)))));refine wpQuiet_nil ?_;rintro _ ⟨⟨u1,hu1⟩,rfl⟩)
      clear c0 c1 c2 c3 c4 c5 c6 c7 c8 c9 c10;have v0:=fun o=>(hu1.cell (p:=⟨w.heap.size,o,none⟩) (by simp)).trans (new_cell _ _ _ _);go_wp2;go_ret;exact ⟨by simp,bcq⟩
     ·go_enter func223,ntmps223
      go_upto_region 3 with (fail)
      (refine region_later (by kernel_rfl) (by kernel_rfl) ?_;(repeat (go_big_quiet_step (first|(go_at_call 276;rename_i xL;apply calls_later xL (Nat.le_refl _);exact (Cn.out _)))));refine wpQuiet_nil ?_;rintro _ ⟨⟨u1,hu1⟩,rfl⟩)
      clear c0 c1 c2 c3 c4 c5 c6 c7 c8 c9 c10;have v0:=fun o=>(hu1.cell (p:=⟨w.heap.size,o,none⟩) (by simp)).trans (new_cell _ _ _ _);go_wp2;go_ret;exact ⟨by simp [hy],bcq⟩
    ·go_enter func223,ntmps223
     go_upto_region 3 with (fail)
     (refine region_later (by kernel_rfl) (by kernel_rfl) ?_;(repeat (go_big_quiet_step (first|(go_at_call 276;rename_i xL;apply calls_later xL (Nat.le_refl _);exact (Cn.out _)))));refine wpQuiet_nil ?_;rintro _ ⟨⟨u1,hu1⟩,rfl⟩)
     clear c0 c1 c2 c3 c4 c5 c6 c7 c8 c9 c10;have v0:=fun o=>(hu1.cell (p:=⟨w.heap.size,o,none⟩) (by simp)).trans (new_cell _ _ _ _);go_wp2;go_ret;exact ⟨by simp,bcq⟩
   ·have hq:=str_ne hn;rw [show decide (r.name=name)=false by simp [hn]];clear cn;go_enter func223,ntmps223;go_wp2;go_ret;exact ⟨rfl,bcq⟩
set_option maxHeartbeats 1600000 in
theorem Instant {w:World} {v:Value} {l:List RuleV} (h:Holds w v l) (name:ByteArray) (off:Int) (o:OccV):
 Calls prog 160 #[v,.string name,.int .i64 off,.agg o.cells.toArray] w fun e w'=>e=.returned (.tuple #[.int .i64 (Chn.instE l name off o).1,.int .i64 (Chn.instE l name off o).2])∧Below w.heap.size w w':=by
 have cm:=fun W=>may off W;have ci:=fun W (h:Holds W v l)=>isT h name o;have cs:=fun W (h:Holds W v l) (hm:Chn.may off=true) (ho:Occ.All l name l.length o)=>instant h name off hm o ho;obtain ⟨q,cap,rfl⟩:=h.form;unfold Chn.instE;unfold OccV.cells at *;have HH:=kj h;clear h;cases hm:Chn.may off
 ·rw [hm] at cm;rw [if_neg (by decide)];have Cm:=kj cm;clear cm ci cs hm;go_enter func160,ntmps160
  go_wp2_with (go_at_call 220;(with_reducible refine (Cm.out _).mono ?_);rintro e w' ⟨rfl,rfl⟩)
  go_ret2;exact ⟨rfl,bcq⟩
 ·rw [hm] at cm;rw [if_pos rfl];have Cm:=kj cm;clear cm;cases hi:Chn.isO l name o
  ·rw [hi] at ci;rw [if_neg (by decide)];have Ci:=kj ci;clear ci cs hm hi;generalize l.length=n at *;go_enter func160,ntmps160
   go_wp2_with (first|(go_at_call 220;(with_reducible refine (Cm.out _).mono ?_);rintro e w' ⟨rfl,rfl⟩)|(go_at_call 223;(with_reducible refine (Ci.out _ ?_).mono ?_);(· exact HH.out.later bcq);rintro e w1 ⟨rfl,hb1⟩;obtain ⟨hc1_0,hf1_0,hz1_0⟩:=bcs hb1 (w.heap.size)))
   go_ret2;exact ⟨rfl,bcq⟩
  ·rw [hi] at ci;rw [if_pos rfl];have cs1:=fun W h=>cs W h hm (Chn.is_all.1 hi);have Ci:=kj ci;have Cs:=kj cs1;clear ci cs cs1 hm hi;simp only;generalize Chn.inst l name off o=x at *;generalize l.length=n at *;go_enter func160,ntmps160
   go_wp2_with (first|(go_at_call 220;(with_reducible refine (Cm.out _).mono ?_);rintro e w' ⟨rfl,rfl⟩)|(go_at_call 223;(with_reducible refine (Ci.out _ ?_).mono ?_);(· exact HH.out.later bcq);rintro e w1 ⟨rfl,hb1⟩;obtain ⟨hc1_0,hf1_0,hz1_0⟩:=bcs hb1 (w.heap.size))|(go_at_call 222;(with_reducible refine (Cs.out _ ?_).mono ?_);(· exact HH.out.later bcq);rintro e w2 ⟨rfl,hb2⟩;obtain ⟨hc2,hf2⟩:=bcell hb2))
   go_ret2;exact ⟨rfl,bcq⟩
set_option maxHeartbeats 3200000 in
theorem Last {w:World} {v:Value} {l:List RuleV} (h:Holds w v l) (name:ByteArray) (off t:Int):
 Calls prog 159 #[v,.string name,.int .i64 off,.int .i64 t] w fun e w'=>e=.returned (optV (Chn.lastO l name off t))∧Below w.heap.size w w':=by
 have cm:=fun W=>may off W;unfold Chn.lastO;cases hm:Chn.may off
 ·rw [hm] at cm;rw [if_neg (by decide)];have Cm:=kj cm;clear cm hm;go_enter func159,ntmps159
  go_wp2_with (go_at_call 220;(with_reducible refine (Cm.out _).mono ?_);rintro e w' ⟨rfl,rfl⟩)
  refine bodyPost_ret (v:=.tuple #[.agg #[.int .i64 0,.int .i64 0,.int .i64 0],.bool false]) ?_ rfl ⟨rfl,?_⟩
  ·simp only [results,results159];go_simp
  ·exact bcq
 rw [hm] at cm;rw [if_pos rfl];have ccl:=fun W=>Num.Clamp t (-2000000000000) 2000000000000 W;rw [show (if t < -2000000000000 then -2000000000000 else if 2000000000000<t then 2000000000000 else t)=Chn.clampE t from rfl] at ccl;have hT: -2000000000000≤Chn.clampE t∧Chn.clampE t≤2000000000000:=by
  unfold Chn.clampE Occ.clampI;split
  ·omega
  ·split<;>omega
 generalize Chn.clampE t=T at *;have cp0:=fun W (h:Holds W v l)=>NxH.Prev h name ⟨-1,0,T+64800+1⟩;have ci:=fun W (h:Holds W v l) (o:OccV) (ho:Occ.All l name l.length o)=>instant h name off hm o ho;have cp:=fun W (h:Holds W v l) (o:OccV)=>NxH.Prev h name o;obtain ⟨R,hR⟩:∃ R,R=Occ.pick (Occ.prevO l name) (fun o=>decide (Chn.inst l name off o≤T)) (Occ.prevO l name ⟨-1,0,T+64800+1⟩):=⟨_,rfl⟩;have h0:∀ o,Occ.prevO l name ⟨-1,0,T+64800+1⟩=some o→Occ.All l name l.length o:=fun o ho=>(Occ.prev_all ho).1;have hst:∀ o c,Occ.prevO l name o=c→∀ x,c=some x→Occ.All l name l.length x:=fun o c hc x hx=>(Occ.prev_all (hc.trans hx)).1;rw [← hR];generalize Occ.prevO l name ⟨-1,0,T+64800+1⟩=c0 at *;obtain ⟨i0,y0,k0,eV,eC⟩:=All.opt_parts c0;obtain ⟨g0,hg0⟩:∃ g,g=c0.isSome:=⟨_,rfl⟩;rw [eV, ←hg0] at cp0;obtain ⟨q,cap,rfl⟩:=h.form;unfold OccV.cells at *;simp only at cp0;have HH:=kj h;have Cm:=kj cm;have Ccl:=kj ccl;have Cp0:=kj cp0;have Ci:=kj ci;have Cp:=kj cp;have HR:=kj hR;have H0:=kj h0;have Hst:=kj hst;have Ec:=kj eC;have Hg:=kj hg0;clear h cm ccl cp0 ci cp hR h0 hst eC hg0 eV hm;generalize l.length=n at *;go_enter func159,ntmps159
 go_wp2_with (first
  |(go_at_call 220;(with_reducible refine (Cm.out _).mono ?_);rintro e w' ⟨rfl,rfl⟩)
  |(go_at_call 221;(with_reducible refine (Ccl.out _).mono ?_);rintro e w' ⟨rfl,rfl⟩)
  |(go_at_call 102;(with_reducible refine (Cp0.out _ ?_).mono ?_);(· exact HH.out.later bcq);rintro e w1 ⟨rfl,hb1⟩;obtain ⟨hc1_0,hf1_0,hz1_0⟩:=bcs hb1 (w.heap.size)))
 obtain ⟨B,hB⟩:∃ B,B=w1.heap.size:=⟨_,rfl⟩;obtain ⟨V,hV⟩:∃ V,V=w1.alloc (.cells #[.int .i64 i0,.int .i64 y0,.int .i64 k0] 156):=⟨_,rfl⟩;have hBV:Below w.heap.size w V:=by rw [hV];exact bcq
 have hwB:w.heap.size<B:=by omega
 have kB:Box V B #[.int .i64 i0,.int .i64 y0,.int .i64 k0] 156:=by rw [hV,hB];exact Box.new _ _ _
 have kR:Box V w.heap.size #[.int .i64 0,.int .i64 0,.int .i64 0] 156:=by rw [hV];exact ((Box.new w _ _).later hb1).old
 rw [← hB, ←hV];clear hc1_0 hf1_0 hz1_0 hB hV hb1
 go_loopw [11] (fun m wr=>∃ c:Option OccV,m=.bool c.isSome∧Occ.pick (Occ.prevO l name) (fun o=>decide (Chn.inst l name off o≤T)) c=R∧(∀ o,c=some o→Occ.All l name n o)∧Box wr B (All.optC c) 156∧Box wr w.heap.size #[.int .i64 0,.int .i64 0,.int .i64 0] 156∧Below w.heap.size w wr) (fun m wr=>All.meas (Occ.prevO l name) B m wr)
 case atStart=>exact ⟨c0,by rw [Hg.out],HR.out.symm,H0.out,by rw [Ec.out];exact kB,kR,hBV⟩
 case round=>
  clear kB kR hBV;obtain ⟨c,rfl,hpk,hal,hbx,hbr,hbel⟩:=hrel;have r0:=hbr.cell;have rf:=hbr.free;have u0:=hbr.lt;have u1:=hbx.lt;cases c with
  |none=>
   rw [Occ.pick_none] at hpk;unfold All.optC at hbx;simp only at hbx;have b0:=hbx.cell;have Hpk:=kj hpk;clear hpk;go_wp2;rw [← Hpk.out];refine bodyPost_ret (v:=.tuple #[.agg #[.int .i64 0,.int .i64 0,.int .i64 0],.bool false]) ?_ rfl ⟨rfl,?_⟩
   ·simp only [results,results159];go_simp
   ·exact bcq
  |some o=>
   have ho:=hal o rfl;have hbx2:Box wr B #[.int .i64 o.rule,.int .i64 o.year,.int .i64 o.nom] 156:=hbx;have b0:=hbx2.cell;have bf:=hbx2.free;have ci1:=fun W h=>Ci.out W h o ho;obtain ⟨x,hx⟩:∃ x,x=Chn.inst l name off o:=⟨_,rfl⟩;rw [← hx] at ci1;have Ci1:=kj ci1;have Hbel:=kj hbel;have Hbx:=kj hbx2;have Hbr:=kj hbr;clear ci1 hal hbel hbx hbx2 hbr
   by_cases hk:x≤T
   ·have hpk2:=(Occ.pick_here (nx:=Occ.prevO l name) (ok:=fun o=>decide (Chn.inst l name off o≤T)) (o:=o) (by simp only [decide_eq_true_eq];rw [← hx];exact hk)).symm.trans hpk;have Hpk:=kj hpk2;clear hpk hpk2 ho hx
    go_wp2_with (first
     |(go_at_call 222;(with_reducible refine (Ci1.out _ ?_).mono ?_);(· exact HH.out.later (bt Hbel.out bcq));rintro e w2 ⟨rfl,hb2⟩;obtain ⟨hc2_0,hf2_0,hz2_0⟩:=bcs hb2 (w.heap.size);obtain ⟨hc2_1,hf2_1,hz2_1⟩:=bcs hb2 (B)))
    rw [← Hpk.out];refine bodyPost_ret (v:=.tuple #[.agg #[.int .i64 o.rule,.int .i64 o.year,.int .i64 o.nom],.bool true]) ?_ rfl ⟨rfl,?_⟩
    ·simp only [results,results159];go_simp
    ·have hbel:=Hbel.out;exact bcq
   ·have hpk2:=(Occ.step_prev (l:=l) (name:=name) (ok:=fun o=>decide (Chn.inst l name off o≤T)) (o:=o) (by simp only [decide_eq_false_iff_not];rw [← hx];exact hk)).symm.trans hpk;obtain ⟨i1,y1,k1,eV1,eC1⟩:=All.opt_parts (Occ.prevO l name o);obtain ⟨g1,hg1⟩:∃ g,g=(Occ.prevO l name o).isSome:=⟨_,rfl⟩;have cp1:=fun W h=>Cp.out W h o;rw [eV1, ←hg1] at cp1;have Hpk:=kj hpk2;have Cp1:=kj cp1;have Hg1:=kj hg1;have Ec1:=kj eC1;clear hpk hpk2 ho hx eV1 cp1 hg1 eC1
    go_wp2_with (first
     |(go_at_call 222;(with_reducible refine (Ci1.out _ ?_).mono ?_);(· exact HH.out.later (bt Hbel.out bcq));rintro e w2 ⟨rfl,hb2⟩;obtain ⟨hc2_0,hf2_0,hz2_0⟩:=bcs hb2 (w.heap.size);obtain ⟨hc2_1,hf2_1,hz2_1⟩:=bcs hb2 (B))
     |(go_at_call 102;(with_reducible refine (Cp1.out _ ?_).mono ?_);(· exact HH.out.later (bt Hbel.out bcq));rintro e w3 ⟨rfl,hb3⟩;obtain ⟨_,_,_⟩:=bcs hb3 (w.heap.size);obtain ⟨_,_,_⟩:=bcs hb3 (B)))
    have hb5:=(Hbx.out.later hb2).later hb3;have hb6:Box (((w3.setCell ⟨B,0,none⟩ (.int .i64 i1)).setCell ⟨B,1,none⟩ (.int .i64 y1)).setCell ⟨B,2,none⟩ (.int .i64 k1)) B (All.optC (Occ.prevO l name o)) 156:=by rw [Ec1.out];exact hb5.set3
    have hb7:Box (((w3.setCell ⟨B,0,none⟩ (.int .i64 i1)).setCell ⟨B,1,none⟩ (.int .i64 y1)).setCell ⟨B,2,none⟩ (.int .i64 k1)) w.heap.size #[.int .i64 0,.int .i64 0,.int .i64 0] 156:=((((Hbr.out.later hb2).later hb3).other (by omega)).other (by omega)).other (by omega);go_roundw
    case rel=>
     refine ⟨Occ.prevO l name o,by rw [Hg1.out],Hpk.out,Hst.out o _ rfl,hb6,hb7,?_⟩;have hbel:=Hbel.out;exact bcq
    case measure=>
     have m1:=All.meas_eq (nx:=Occ.prevO l name) hb6;have m2:=All.meas_eq (nx:=Occ.prevO l name) (c:=some o) Hbx.out;rw [Hg1.out,m1];refine Nat.lt_of_lt_of_eq (Occ.leftO_prev o) ?_;exact m2.symm
set_option maxHeartbeats 1600000 in
theorem Clock {w:World} {v:Value} {l:List RuleV} (h:Holds w v l) (name:ByteArray) (off t base:Int):
 Calls prog 213 #[v,.string name,.int .i64 off,.int .i64 t,.int .i64 base] w fun e w'=>e=.returned (.tuple #[.int .i64 (Chn.clockE l name off t base).1,.int .i64 (Chn.clockE l name off t base).2])∧Below w.heap.size w w':=by
 have cm:=fun W=>may off W;unfold Chn.clockE;cases hm:Chn.may off
 ·rw [hm] at cm;rw [if_pos (.inl rfl)];obtain ⟨q,cap,rfl⟩:=h.form;have Cm:=kj cm;clear cm hm h;generalize l.length=n at *;go_enter func213,ntmps213
  go_wp2_with (go_at_call 220;(with_reducible refine (Cm.out _).mono ?_);rintro e w' ⟨rfl,rfl⟩)
  go_ret2;exact ⟨rfl,bcq⟩
 rw [hm] at cm;have Cm:=kj cm;clear cm
 by_cases h1:t < -2000000000000
 ·rw [if_pos (.inr (.inl h1))];obtain ⟨q,cap,rfl⟩:=h.form;clear hm h;generalize l.length=n at *;go_enter func213,ntmps213
  go_wp2_with (go_at_call 220;(with_reducible refine (Cm.out _).mono ?_);rintro e w' ⟨rfl,rfl⟩)
  go_ret2;exact ⟨rfl,bcq⟩
 by_cases h2:2000000000000<t
 ·rw [if_pos (.inr (.inr h2))];obtain ⟨q,cap,rfl⟩:=h.form;clear hm h;generalize l.length=n at *;go_enter func213,ntmps213
  go_wp2_with (go_at_call 220;(with_reducible refine (Cm.out _).mono ?_);rintro e w' ⟨rfl,rfl⟩)
  go_ret2;exact ⟨rfl,bcq⟩
 rw [if_neg (by simp;omega)]
 by_cases h3:base<0
 ·rw [if_pos (.inl h3)];obtain ⟨q,cap,rfl⟩:=h.form;clear hm h;generalize l.length=n at *;go_enter func213,ntmps213
  go_wp2_with (go_at_call 220;(with_reducible refine (Cm.out _).mono ?_);rintro e w' ⟨rfl,rfl⟩)
  go_ret2;exact ⟨rfl,bcq⟩
 by_cases h4:2<base
 ·rw [if_pos (.inr h4)];obtain ⟨q,cap,rfl⟩:=h.form;clear hm h;generalize l.length=n at *;go_enter func213,ntmps213
  go_wp2_with (go_at_call 220;(with_reducible refine (Cm.out _).mono ?_);rintro e w' ⟨rfl,rfl⟩)
  go_ret2;exact ⟨rfl,bcq⟩
 rw [if_neg (by omega)];have sb:=Chn.saved_bd l name ⟨-1,0,t⟩;have sh:=Chn.shift_bd (base:=base) hm sb.1 sb.2;obtain ⟨q,cap,rfl⟩:=h.form;have hmf:∀ (fn:Fn) (first cap:Array Value) (w:World),(Instr.makeFunc fn first cap).run prog w=.ok (.func fn first cap) w:=fun _ _ _ _=>rfl;obtain ⟨V,hV⟩:∃ V,V=((w.alloc (.cells #[.slice q l.length cap] 22)).alloc (.cells #[.string name] 9)).alloc (.cells #[.int .i64 t] 2):=⟨_,rfl⟩;have hBV:Below w.heap.size w V:=by rw [hV];exact ba (ba (ba (Below.refl _ _)))
 have hVs:V.heap.size=w.heap.size+3:=by rw [hV];simp
 have k0:Box V w.heap.size #[.slice q l.length cap] 22:=by
  rw [hV];exact ((Box.new _ _ _).old).old
 have k1:Box V (w.heap.size+1) #[.string name] 9:=by
  rw [hV];have:=Box.new (w.alloc (.cells #[.slice q l.length cap] 22)) #[.string name] 9;simp only [World.size_alloc] at this;exact this.old
 have k2:Box V (w.heap.size+1+1) #[.int .i64 t] 2:=by
  rw [hV];have:=Box.new ((w.alloc (.cells #[.slice q l.length cap] 22)).alloc (.cells #[.string name] 9)) #[.int .i64 t] 2
  simpa using this
 have cs:∀ W,Below V.heap.size V W→Calls prog 269 #[.int .i64 off,.int .i64 base,.func (.func 267) #[] #[.pointer (some ⟨w.heap.size,0,none⟩),.pointer (some ⟨w.heap.size+1,0,none⟩),.pointer (some ⟨w.heap.size+1+1,0,none⟩)]] W fun e w'=>e=.returned (.int .i64 (Chn.shift off base (Chn.saved l name ⟨-1,0,t⟩)))∧Below W.heap.size W w':=
  fun W hW=>shiftC off base hm (h.later (hBV.trans (hW.mono hBV.size))) name t _ _ _ ((k0.later hW).cell 0) ((k1.later hW).cell 0) ((k2.later hW).cell 0)
 have f0:=k0.cell;have f2:=k2.cell;have lt2:=k2.lt;generalize Chn.shift off base (Chn.saved l name ⟨-1,0,t⟩)=s at *;generalize Chn.saved l name ⟨-1,0,t⟩=sv at *;have Cs:=kj cs;clear h cs hm k0 k1 k2;generalize l.length=n at *;have hw:IntKind.i64.wrap (t-s)=t-s:=by rw [IntKind.wrap_i64];omega
 go_enter func213,ntmps213
 go_upto_region 6 with (first|(go_at_call 220;(with_reducible refine (Cm.out _).mono ?_);rintro e w' ⟨rfl,rfl⟩))
 rw [← hV];clear hV
 (refine region_later (by kernel_rfl) (by kernel_rfl) ?_;(repeat (go_big_quiet_step (first|(go_at_call 269;rename_i xL;apply calls_later xL (Nat.le_refl _);exact (Cs.out _ xL.h)))));refine wpQuiet_nil ?_;rintro _ ⟨⟨u1,hu1⟩,rfl⟩)
 go_wp2;go_ret2;exact ⟨rfl,bt hBV bcq⟩
end ChW
end
end Go.Proofs.YtgmfojgnjdpofaaGreatDoor
