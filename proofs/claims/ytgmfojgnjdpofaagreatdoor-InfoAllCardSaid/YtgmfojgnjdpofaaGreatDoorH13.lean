import Derived.Test.YtgmfojgnjdpofaaGreatDoorH3
import Derived.Test.YtgmfojgnjdpofaaGreatDoorH12
import Derived.Test.YtgmfojgnjdpofaaGreatDoorH5
import Derived.Test.YtgmfojgnjdpofaaGreatDoorH7
import Derived.Test.YtgmfojgnjdpofaaGreatDoorH8
import Derived.Test.YtgmfojgnjdpofaaGreatDoorH11
import Derived.Maps.AppendAt
import Derived.RangeFuncBox
namespace Go.Proofs.YtgmfojgnjdpofaaGreatDoor
open Go.Proofs.Tryz
section
open Go.RowKit NB Nxt
namespace RNxH
theorem NextE (p:Option Addr) (cap:Nat) (name:ByteArray) (fr:OccV) (w:World):Calls prog 192 #[.slice p 0 cap,.string name,.agg fr.cells.toArray] w fun e w'=>e=.returned (.tuple #[.agg #[.int .i64 0,.int .i64 0,.int .i64 0],.bool false])∧Below w.heap.size w w':=by
 unfold OccV.cells;go_enter func192,ntmps192;go_wp2
 go_loopw [17,9] (fun i is wr=>i=.int .i64 0∧is=.bool false∧Below w.heap.size w wr∧Box wr (w.heap.size+1) #[.int .i64 0,.int .i64 0,.int .i64 0] 156∧Box wr (w.heap.size+2) #[.int .i64 0,.int .i64 0,.int .i64 0] 156) (fun i _ _=>0)
 case atStart=>exact ⟨rfl,rfl,bcq,Box.old (ROcc.Box.new' (by simp)),ROcc.Box.new' (by simp)⟩
 case round=>
  obtain ⟨rfl,rfl,hbel,h1,h2⟩:=hrel;have u1:=h1.lt;have u2:=h2.lt;have f1:=h1.cell;have f1f:=h1.free;have f2:=h2.cell;go_wp2;refine bodyPost_ret (v:=.tuple #[.agg #[.int .i64 0,.int .i64 0,.int .i64 0],.bool false]) ?_ rfl ⟨rfl,?_⟩
  ·simp only [results,results192];go_simp
  ·exact bcq
theorem Next {w:World} {v:Value} {l:List RuleV} (h:Holds w v l) (name:ByteArray) (fr:OccV) (hf:I64 fr.nom):Calls prog 192 #[v,.string name,.agg fr.cells.toArray] w fun e w'=>e=.returned (optV (Occ.nextO l name fr))∧Below w.heap.size w w':=by
 rcases h.lies with ⟨p,cap,rfl,rfl⟩|⟨b,off,cap,rfl,h2,h3⟩
 ·exact NextE p cap name fr w
 ·exact ROcc.Next b off cap l name fr w hf h3 h2 h.len h.fit
theorem PrevE (p:Option Addr) (cap:Nat) (name:ByteArray) (fr:OccV) (w:World):Calls prog 178 #[.slice p 0 cap,.string name,.agg fr.cells.toArray] w fun e w'=>e=.returned (.tuple #[.agg #[.int .i64 0,.int .i64 0,.int .i64 0],.bool false])∧Below w.heap.size w w':=by
 unfold OccV.cells;go_enter func178,ntmps178;go_wp2
 go_loopw [17,9] (fun i is wr=>i=.int .i64 0∧is=.bool false∧Below w.heap.size w wr∧Box wr (w.heap.size+1) #[.int .i64 0,.int .i64 0,.int .i64 0] 156∧Box wr (w.heap.size+2) #[.int .i64 0,.int .i64 0,.int .i64 0] 156) (fun i _ _=>0)
 case atStart=>exact ⟨rfl,rfl,bcq,Box.old (ROcc.Box.new' (by simp)),ROcc.Box.new' (by simp)⟩
 case round=>
  obtain ⟨rfl,rfl,hbel,h1,h2⟩:=hrel;have u1:=h1.lt;have u2:=h2.lt;have f1:=h1.cell;have f1f:=h1.free;have f2:=h2.cell;go_wp2;refine bodyPost_ret (v:=.tuple #[.agg #[.int .i64 0,.int .i64 0,.int .i64 0],.bool false]) ?_ rfl ⟨rfl,?_⟩
  ·simp only [results,results178];go_simp
  ·exact bcq
theorem Prev {w:World} {v:Value} {l:List RuleV} (h:Holds w v l) (name:ByteArray) (fr:OccV) (hf:I64 fr.nom):Calls prog 178 #[v,.string name,.agg fr.cells.toArray] w fun e w'=>e=.returned (optV (Occ.prevO l name fr))∧Below w.heap.size w w':=by
 rcases h.lies with ⟨p,cap,rfl,rfl⟩|⟨b,off,cap,rfl,h2,h3⟩
 ·exact PrevE p cap name fr w
 ·exact ROcc.Prev b off cap l name fr w hf h3 h2 h.len h.fit
end RNxH
end
section
open Go.RowKit NB Nxt
namespace RCh
theorem may (off:Int) (w:World):Calls prog 176 #[.int .i64 off] w fun e w'=>e=.returned (.bool (Chn.may off))∧w=w':=by
 unfold Chn.may
 by_cases h1: -54000≤off
 ·by_cases h2:off≤54000
  ·go_enter func176,ntmps176;go_wp2;go_ret;exact ⟨by simp;omega,rfl⟩
  ·go_enter func176,ntmps176;go_wp2;go_ret;exact ⟨by simp;omega,rfl⟩
 ·go_enter func176,ntmps176;go_wp2;go_ret;exact ⟨by simp;omega,rfl⟩
theorem rule_of {l:List RuleV} {name:ByteArray} {p:OccV} (h:Occ.All l name l.length p):∃ (i:Nat) (r:RuleV),p.rule=i∧i<l.length∧l[i]? =some r∧r.name=name∧Rul.right r=true∧r.fr≤p.year∧p.year≤r.to∧p.nom=Occ.nomR r p.year:=by
 obtain ⟨i,r,hi,hr,hn,hR,h1,h2,e⟩:=h;exact ⟨i,r,by rw [e];rfl,hi,hr,hn,hR,h1,h2,by rw [e];rfl⟩
set_option maxHeartbeats 1600000 in
theorem Saved {w:World} {v:Value} {l:List RuleV} (h:Holds w v l) (name:ByteArray) (o:OccV) (hf:I64 o.nom):Calls prog 187 #[v,.string name,.agg o.cells.toArray] w fun e w'=>e=.returned (.int .i64 (Chn.saved l name o))∧Below w.heap.size w w':=by
 have cp:=fun W (h:Holds W v l)=>RNxH.Prev h name o hf;unfold Chn.saved;cases hp:Occ.prevO l name o with
 |none=>
  rw [hp] at cp;unfold optV at cp;simp only at cp ⊢;unfold OccV.cells at *;have HH:=kj h;have Cp:=kj cp;clear h cp hp;go_enter func187,ntmps187
  go_wp2_with (go_at_call 178;(with_reducible refine (Cp.out _ ?_).mono ?_);(· exact HH.out.later bcq);rintro e w1 ⟨rfl,hb1⟩;obtain ⟨hc1_0,hf1_0,hz1_0⟩:=bcs hb1 (w.heap.size))
  go_ret;exact ⟨rfl,bcq⟩
 |some p=>
  rw [hp] at cp;obtain ⟨i,r,e1,hi,hr,hn,hR,y1,y2,y3⟩:=rule_of (Occ.prev_all hp).1;rcases h.lies with ⟨q,cap,rfl,rfl⟩|⟨b,off,cap,rfl,h2,h3⟩
  ·exact absurd hi (Nat.not_lt_zero _)
  have hlm:=h.len;have c9:w.cell? ⟨b,off+i*11+9,none⟩=some (.int .i64 r.save):=h3 i 9 _ _ (by rw [List.getElem?_map,hr];rfl) rfl;have es:Chn.saveAt l p.rule=r.save:=by unfold Chn.saveAt;rw [e1,Chn.rule_at hr]
  simp only;rw [es];clear es h3;obtain ⟨pr,py,pn⟩:=p;simp only at e1;subst e1;unfold optV at cp;simp only at cp;unfold OccV.cells at *;simp only at cp;generalize l.length=n at *;have HH:=kj h;have Cp:=kj cp;clear h cp hp hr hn hR y1 y2 y3;go_enter func187,ntmps187
  go_wp2_with (go_at_call 178;(with_reducible refine (Cp.out _ ?_).mono ?_);(· exact HH.out.later bcq);rintro e w1 ⟨rfl,hb1⟩;obtain ⟨hc1_0,hf1_0,hz1_0⟩:=bcs hb1 (b);obtain ⟨_,_,_⟩:=bcs hb1 (w.heap.size))
  go_ret;exact ⟨rfl,bcq⟩
theorem shift (off s base:Int) (hm:Chn.may off=true) (h1: -10800≤s) (h2:s≤10800) (w:World):Calls prog 240 #[.int .i64 off,.int .i64 s,.int .i64 base] w fun e w'=>e=.returned (.int .i64 (Chn.shift off base s))∧Below w.heap.size w w':=by
 rw [Chn.may_iff] at hm;unfold Chn.shift
 by_cases e0:base=0
 ·subst e0;rw [if_pos rfl];go_enter func240,ntmps240;go_wp2;go_ret;exact ⟨rfl,bcq⟩
 ·rw [if_neg e0]
  by_cases e1:base=1
  ·subst e1;rw [if_pos rfl];go_enter func240,ntmps240;go_wp2;go_ret;exact ⟨rfl,bcq⟩
  ·rw [if_neg e1];go_enter func240,ntmps240;go_wp2;go_ret;exact ⟨rfl,bcq⟩
theorem all_i64 {l:List RuleV} {name:ByteArray} {o:OccV} (h:Occ.All l name l.length o):I64 o.nom:=by
 have:=Chn.all_range h;unfold I64;omega
set_option maxHeartbeats 1600000 in
theorem instant {w:World} {v:Value} {l:List RuleV} (h:Holds w v l) (name:ByteArray) (off:Int) (hm:Chn.may off=true) (o:OccV) (ho:Occ.All l name l.length o):
 Calls prog 179 #[v,.string name,.int .i64 off,.agg o.cells.toArray] w fun e w'=>e=.returned (.int .i64 (Chn.inst l name off o))∧Below w.heap.size w w':=by
 obtain ⟨i,r,e1,hi,hr,hn,hR,y1,y2,y3⟩:=rule_of ho;rcases h.lies with ⟨q,cap,rfl,rfl⟩|⟨b,bo,cap,rfl,h2,h3⟩
 ·exact absurd hi (Nat.not_lt_zero _)
 have hlm:=h.len;have hon:=Chn.all_range ho;have sb:=Chn.saved_bd l name o;have c8:w.cell? ⟨b,bo+i*11+8,none⟩=some (.int .i64 r.base):=h3 i 8 _ _ (by rw [List.getElem?_map,hr];rfl) rfl;have eb:Chn.baseAt l o.rule=r.base:=by unfold Chn.baseAt;rw [e1,Chn.rule_at hr]
 have cs:=fun W (h:Holds W (.slice (some ⟨b,bo,none⟩) l.length cap) l)=>Saved h name o (all_i64 ho);have sh:=Chn.shift_bd (base:=r.base) hm sb.1 sb.2;unfold Chn.inst;rw [eb];have ch:=fun W=>shift off (Chn.saved l name o) r.base hm sb.1 sb.2 W;generalize Chn.shift off r.base (Chn.saved l name o)=s at *;generalize Chn.saved l name o=sv at *;unfold OccV.cells at *;rw [e1] at cs ⊢;have HH:=kj h;have Cs:=kj cs;have Ch:=kj ch;clear h cs ho e1 hr hn hR eb sb y1 y2 y3 h3 ch;generalize l.length=n at *;have hw:IntKind.i64.wrap (o.nom-s)=o.nom-s:=by rw [IntKind.wrap_i64];omega
 go_enter func179,ntmps179
 go_upto_region 1 with (fail)
 obtain ⟨V,hV⟩:∃ V,V=w.alloc (.cells #[.int .i64 i,.int .i64 o.year,.int .i64 o.nom] 156):=⟨_,rfl⟩;rw [← hV];have hBV:Below w.heap.size w V:=by rw [hV];exact ba (Below.refl _ _)
 have k0:∀ j,V.cell? ⟨w.heap.size,j,none⟩=(#[.int .i64 i,.int .i64 o.year,.int .i64 o.nom]:Array Value)[j]? :=by
  rw [hV];exact fun j=>new_cell _ _ _ _
 have hVs:V.heap.size=w.heap.size+1:=by rw [hV];simp
 have k8:V.cell? ⟨b,bo+i*11+8,none⟩=some (.int .i64 r.base):=(hBV.cell (p:=⟨b,bo+i*11+8,none⟩) h2).trans c8;have HV:=kj (HH.out.later hBV);have hl1:w.heap.size<V.heap.size:=by omega
 have hl2:b<V.heap.size:=by omega
 clear hV c8
 (refine region_later (by kernel_rfl) (by kernel_rfl) ?_;(repeat (go_big_quiet_step (first|(go_at_call 187;rename_i xL;apply calls_later xL (Nat.le_refl _);exact (Cs.out _ (HV.out.later xL.h)))|(go_at_call 240;rename_i xL;apply calls_later xL (Nat.le_refl _);exact (Ch.out _)))));refine wpQuiet_nil ?_;rintro _ ⟨⟨u1,hu1⟩,rfl⟩)
 go_wp2;go_ret;refine ⟨rfl,bt hBV ?_⟩;exact bcq
set_option maxHeartbeats 1600000 in
theorem isT {w:World} {v:Value} {l:List RuleV} (h:Holds w v l) (name:ByteArray) (o:OccV):
 Calls prog 245 #[v,.string name,.agg o.cells.toArray] w fun e w'=>e=.returned (.bool (Chn.isO l name o))∧Below w.heap.size w w':=by
 obtain ⟨or,oy,on⟩:=o;have hlm:=h.len;unfold OccV.cells;unfold Chn.isO Chn.ruleAt;simp only
 by_cases h0:or<0
 ·rw [if_neg (by omega)];obtain ⟨q,cap,rfl⟩:=h.form;clear h;go_enter func245,ntmps245;go_wp2;go_ret;exact ⟨rfl,bcq⟩
 ·rw [if_pos (by omega)];obtain ⟨i,rfl⟩:∃ i:Nat,or=i:=⟨or.toNat,by omega⟩;rw [show (i:Int).toNat=i by omega]
  by_cases hi:l.length≤i
  ·rw [List.getElem?_eq_none hi];obtain ⟨q,cap,rfl⟩:=h.form;clear h;generalize l.length=n at *;go_enter func245,ntmps245;go_wp2;go_ret;exact ⟨rfl,bcq⟩
  ·have hi2:i<l.length:=by omega
   rcases h.lies with ⟨q,cap,rfl,rfl⟩|⟨b,bo,cap,rfl,h2,h3⟩
   ·exact absurd hi2 (Nat.not_lt_zero _)
   obtain ⟨r,hr⟩:∃ r,l[i]? =some r:=⟨l[i],List.getElem?_eq_getElem hi2⟩;have hcl:∀ (j:Nat) (u:Value),r.cells[j]? =some u→w.cell? ⟨b,bo+i*11+j,none⟩=some u:=fun j u hu=>h3 i j _ u (by rw [List.getElem?_map,hr];rfl) hu;have cn:=fun W=>ROcc.Nom r (h.fit r (List.mem_of_getElem? hr)) oy W;have c0:=hcl 0 _ rfl;have c1:=hcl 1 _ rfl;have c2:=hcl 2 _ rfl;have c3:=hcl 3 _ rfl;have c4:=hcl 4 _ rfl;have c5:=hcl 5 _ rfl;have c6:=hcl 6 _ rfl;have c7:=hcl 7 _ rfl;have c8:=hcl 8 _ rfl;have c9:=hcl 9 _ rfl;have c10:=hcl 10 _ rfl;simp only [Nat.add_zero] at c0;rw [hr];simp only;clear hcl h h3 hr;generalize l.length=n at *
   by_cases hn:r.name=name
   ·have hq:=str_eq hn;rw [show decide (r.name=name)=true by simp [hn]];generalize Nom.nomE r oy=E at *;obtain ⟨x,y⟩:=E;unfold RuleV.cells at *;simp only at cn;have Cn:=kj cn;clear cn hn
    by_cases hx:y=0
    ·subst hx
     by_cases hy:x=on
     ·subst hy;go_enter func245,ntmps245
      go_upto_region 3 with (fail)
      (refine region_later (by kernel_rfl) (by kernel_rfl) ?_;(repeat (go_big_quiet_step (first|(go_at_call 285;rename_i xL;apply calls_later xL (Nat.le_refl _);exact (Cn.out _)))));refine wpQuiet_nil ?_;rintro _ ⟨⟨u1,hu1⟩,rfl⟩)
      clear c0 c1 c2 c3 c4 c5 c6 c7 c8 c9 c10;have v0:=fun o=>(hu1.cell (p:=⟨w.heap.size,o,none⟩) (by simp)).trans (new_cell _ _ _ _);go_wp2;go_ret;exact ⟨by simp,bcq⟩
     ·go_enter func245,ntmps245
      go_upto_region 3 with (fail)
      (refine region_later (by kernel_rfl) (by kernel_rfl) ?_;(repeat (go_big_quiet_step (first|(go_at_call 285;rename_i xL;apply calls_later xL (Nat.le_refl _);exact (Cn.out _)))));refine wpQuiet_nil ?_;rintro _ ⟨⟨u1,hu1⟩,rfl⟩)
      clear c0 c1 c2 c3 c4 c5 c6 c7 c8 c9 c10;have v0:=fun o=>(hu1.cell (p:=⟨w.heap.size,o,none⟩) (by simp)).trans (new_cell _ _ _ _);go_wp2;go_ret;exact ⟨by simp [hy],bcq⟩
    ·go_enter func245,ntmps245
     go_upto_region 3 with (fail)
     (refine region_later (by kernel_rfl) (by kernel_rfl) ?_;(repeat (go_big_quiet_step (first|(go_at_call 285;rename_i xL;apply calls_later xL (Nat.le_refl _);exact (Cn.out _)))));refine wpQuiet_nil ?_;rintro _ ⟨⟨u1,hu1⟩,rfl⟩)
     clear c0 c1 c2 c3 c4 c5 c6 c7 c8 c9 c10;have v0:=fun o=>(hu1.cell (p:=⟨w.heap.size,o,none⟩) (by simp)).trans (new_cell _ _ _ _);go_wp2;go_ret;exact ⟨by simp,bcq⟩
   ·have hq:=str_ne hn;rw [show decide (r.name=name)=false by simp [hn]];clear cn;go_enter func245,ntmps245;go_wp2;go_ret;exact ⟨rfl,bcq⟩
set_option maxHeartbeats 1600000 in
theorem Instant {w:World} {v:Value} {l:List RuleV} (h:Holds w v l) (name:ByteArray) (off:Int) (o:OccV):
 Calls prog 193 #[v,.string name,.int .i64 off,.agg o.cells.toArray] w fun e w'=>e=.returned (.tuple #[.int .i64 (Chn.instE l name off o).1,.int .i64 (Chn.instE l name off o).2])∧Below w.heap.size w w':=by
 have cm:=fun W=>may off W;have ci:=fun W (h:Holds W v l)=>isT h name o;have cs:=fun W (h:Holds W v l) (hm:Chn.may off=true) (ho:Occ.All l name l.length o)=>instant h name off hm o ho;obtain ⟨q,cap,rfl⟩:=h.form;unfold Chn.instE;unfold OccV.cells at *;have HH:=kj h;clear h;cases hm:Chn.may off
 ·rw [hm] at cm;rw [if_neg (by decide)];have Cm:=kj cm;clear cm ci cs hm;go_enter func193,ntmps193
  go_wp2_with (go_at_call 176;(with_reducible refine (Cm.out _).mono ?_);rintro e w' ⟨rfl,rfl⟩)
  go_ret2;exact ⟨rfl,bcq⟩
 ·rw [hm] at cm;rw [if_pos rfl];have Cm:=kj cm;clear cm;cases hi:Chn.isO l name o
  ·rw [hi] at ci;rw [if_neg (by decide)];have Ci:=kj ci;clear ci cs hm hi;generalize l.length=n at *;go_enter func193,ntmps193
   go_wp2_with (first|(go_at_call 176;(with_reducible refine (Cm.out _).mono ?_);rintro e w' ⟨rfl,rfl⟩)|(go_at_call 245;(with_reducible refine (Ci.out _ ?_).mono ?_);(· exact HH.out.later bcq);rintro e w1 ⟨rfl,hb1⟩;obtain ⟨hc1_0,hf1_0,hz1_0⟩:=bcs hb1 (w.heap.size)))
   go_ret2;exact ⟨rfl,bcq⟩
  ·rw [hi] at ci;rw [if_pos rfl];have cs1:=fun W h=>cs W h hm (Chn.is_all.1 hi);have Ci:=kj ci;have Cs:=kj cs1;clear ci cs cs1 hm hi;simp only;generalize Chn.inst l name off o=x at *;generalize l.length=n at *;go_enter func193,ntmps193
   go_wp2_with (first|(go_at_call 176;(with_reducible refine (Cm.out _).mono ?_);rintro e w' ⟨rfl,rfl⟩)|(go_at_call 245;(with_reducible refine (Ci.out _ ?_).mono ?_);(· exact HH.out.later bcq);rintro e w1 ⟨rfl,hb1⟩;obtain ⟨hc1_0,hf1_0,hz1_0⟩:=bcs hb1 (w.heap.size))|(go_at_call 179;(with_reducible refine (Cs.out _ ?_).mono ?_);(· exact HH.out.later bcq);rintro e w2 ⟨rfl,hb2⟩;obtain ⟨hc2,hf2⟩:=bcell hb2))
   go_ret2;exact ⟨rfl,bcq⟩
end RCh
end
section
open Go.RowKit NB Nxt
namespace RUnt
open Unt
set_option maxHeartbeats 1600000 in
theorem Nom (u:UntilV) (_hu:u.Fit) (w:World):Calls prog 186 #[.agg u.cells.toArray] w fun x w'=>x=.returned (.tuple #[.int .i64 (nomU u).1,.int .i64 (nomU u).2])∧Below w.heap.size w w':=by
 have cr:=fun W=>REr.End u W;have cd:=fun W=>RDay.Days u.kind u.week u.day u.year u.month W;unfold nomU UntilV.cells;unfold UntilV.cells at cr;cases hh:u.has
 ·rw [if_neg (by decide)];clear cr cd hh;go_enter func186,ntmps186;go_wp2;go_ret2;exact ⟨rfl,bcq⟩
 rw [hh] at cr;rw [if_pos rfl];cases he:Er.endB u
 ·rw [if_neg (by decide)];rw [he] at cr;have Cr:=kj cr;clear cr cd hh he;go_enter func186,ntmps186
  go_wp2_with (go_at_call 174;(with_reducible refine (Cr.out _).mono ?_);rintro e w1 ⟨rfl,hb1⟩;obtain ⟨hc1_0,hf1_0,hz1_0⟩:=bcs hb1 (w.heap.size))
  go_ret2;exact ⟨rfl,bcq⟩
 ·rw [if_pos rfl];obtain ⟨s1,s2,s3,s4,s5,s6⟩:=end_spec hh he;rw [he] at cr;rw [s2,if_pos rfl,if_pos (by omega)] at cd;unfold nomV at *;generalize Day.dayI u.kind u.week u.day u.year u.month=d at *;have Cr:=kj cr;have Cd:=kj cd;clear cr cd hh he s2;go_enter func186,ntmps186
  go_wp2_with (first
   |(go_at_call 174;(with_reducible refine (Cr.out _).mono ?_);rintro e w1 ⟨rfl,hb1⟩;obtain ⟨hc1_0,hf1_0,hz1_0⟩:=bcs hb1 (w.heap.size))
   |(go_at_call 243;(with_reducible refine (Cd.out _).mono ?_);rintro e w2 ⟨rfl,hb2⟩;obtain ⟨_,_,_⟩:=bcs hb2 (w.heap.size)))
  go_ret2;exact ⟨rfl,bcq⟩
set_option maxRecDepth 100000 in
set_option maxHeartbeats 3200000 in
theorem Instant {w:World} {v:Value} {l:List RuleV} (h:Holds w v l) (e:EraV) (he:e.Fit):Calls prog 126 #[v,.agg e.cells.toArray] w fun x w'=>x=.returned (.tuple #[.int .i64 (instU l e).1,.int .i64 (instU l e).2])∧Below w.heap.size w w':=by
 have cr:=fun W=>REr.Right e he W;have cn:=fun W=>Nom e.u he.u W;have ck:=fun W (h:Holds W v l)=>RCh.Saved h e.rules ⟨-1,0,nomV e.u⟩;unfold instU;cases hR:Er.rightB e
 ·rw [hR] at cr;rw [if_neg (by decide)];unfold EraV.cells at *;have Cr:=kj cr;obtain ⟨q,cap,rfl⟩:=h.form;clear cr cn ck h hR;generalize l.length=n at *;go_enter func126,ntmps126
  go_wp2_with (go_at_call 114;(with_reducible refine (Cr.out _).mono ?_);rintro e w1 ⟨rfl,hb1⟩;obtain ⟨hc1_0,hf1_0,hz1_0⟩:=bcs hb1 (w.heap.size))
  go_ret2;exact ⟨rfl,bcq⟩
 obtain ⟨r1,r2,r3,r4⟩:=right_spec hR;have sb:=saved_bd (l:=l) hR (nomV e.u);rw [hR] at cr;rw [if_pos rfl];unfold nomU at cn;obtain ⟨q,cap,rfl⟩:=h.form;obtain ⟨off,kind,save,rules,format,u⟩:=e;simp only at *;unfold EraV.cells at *;unfold UntilV.cells at *;simp only at *;cases hh:u.has
 ·rw [hh] at cr cn;rw [if_neg (by decide)] at cn ⊢;have Cr:=kj cr;have Cn:=kj cn;clear cr cn ck h hR he;generalize l.length=n at *;go_enter func126,ntmps126
  go_wp2_with (first
   |(go_at_call 114;(with_reducible refine (Cr.out _).mono ?_);rintro e w1 ⟨rfl,hb1⟩;obtain ⟨hc1_0,hf1_0,hz1_0⟩:=bcs hb1 (w.heap.size))
   |(go_at_call 186;(with_reducible refine (Cn.out _).mono ?_);rintro e w2 ⟨rfl,hb2⟩;obtain ⟨hc2_0,hf2_0,hz2_0⟩:=bcs hb2 (w.heap.size)))
  go_ret2;exact ⟨rfl,bcq⟩
 obtain ⟨s1,s2,s3,s4,s5,s6⟩:=end_spec hh r2;rw [hh] at cr cn;rw [if_pos rfl,if_pos r2] at cn;rw [if_pos rfl];unfold savedE at *;simp only at *;generalize nomV u=n at *
 by_cases hk:kind=2
 ·subst hk;rw [if_pos rfl] at sb ⊢;have ck1:=fun W h=>ck W h (by unfold I64;omega);unfold OccV.cells at ck1;generalize Chn.saved l rules ⟨-1,0,n⟩=s at *;simp only at ck1;unfold Chn.shift;have HH:=kj h;have Cr:=kj cr;have Cn:=kj cn;have Ck:=kj ck1;clear cr cn ck ck1 h hR he r2 s2 hh;generalize l.length=m at *;have hb:u.base=0∨u.base=1∨u.base=2:=by omega
  obtain ⟨has,year,month,uk,week,day,sec,base⟩:=u;simp only at *;rcases hb with rfl|rfl|rfl
  all_goals
   go_enter func126,ntmps126
   go_wp2_with (first
    |(go_at_call 114;(with_reducible refine (Cr.out _).mono ?_);rintro e w1 ⟨rfl,hb1⟩;obtain ⟨hc1_0,hf1_0,hz1_0⟩:=bcs hb1 (w.heap.size))
    |(go_at_call 186;(with_reducible refine (Cn.out _).mono ?_);rintro e w2 ⟨rfl,hb2⟩;obtain ⟨hc2_0,hf2_0,hz2_0⟩:=bcs hb2 (w.heap.size))
    |(go_at_call 187;(with_reducible refine (Ck.out _ ?_).mono ?_);(· exact HH.out.later bcq);rintro e w3 ⟨rfl,hb3⟩;obtain ⟨_,_,_⟩:=bcs hb3 (w.heap.size)))
   go_ret2;exact ⟨ret_ii (by first|rfl|omega|(simp;done)|(simp;omega)) rfl,bcq⟩
 ·rw [if_neg hk] at sb ⊢;unfold Chn.shift;have Cr:=kj cr;have Cn:=kj cn;clear cr cn ck h hR he r2 s2 hh;generalize l.length=m at *;have hb:u.base=0∨u.base=1∨u.base=2:=by omega
  obtain ⟨has,year,month,uk,week,day,sec,base⟩:=u;simp only at *;rcases hb with rfl|rfl|rfl
  all_goals
   go_enter func126,ntmps126
   go_wp2_with (first
    |(go_at_call 114;(with_reducible refine (Cr.out _).mono ?_);rintro e w1 ⟨rfl,hb1⟩;obtain ⟨hc1_0,hf1_0,hz1_0⟩:=bcs hb1 (w.heap.size))
    |(go_at_call 186;(with_reducible refine (Cn.out _).mono ?_);rintro e w2 ⟨rfl,hb2⟩;obtain ⟨hc2_0,hf2_0,hz2_0⟩:=bcs hb2 (w.heap.size)))
   go_ret2;exact ⟨ret_ii (by first|rfl|omega|(simp;done)|(simp;omega)) rfl,bcq⟩
end RUnt
end
section
open Go.RowKit NB Nxt
namespace Zn
def okAt (n:Nat) (x:EraV×Nat):Bool:=Er.rightB x.1&&(x.1.u.has==decide (x.2+1<n))
def zoneB (es:List EraV):Bool:=decide (0<es.length)&&es.zipIdx.all (okAt es.length)
def OkTo (es:List EraV) (k:Nat):Prop:=∀ (j:Nat) (e:EraV),j<k→es[j]? =some e→okAt es.length (e,j)=true
theorem zone_iff {es:List EraV}:zoneB es=true↔0<es.length∧OkTo es es.length:=by
 unfold zoneB OkTo;rw [Bool.and_eq_true,decide_eq_true_eq,List.all_eq_true]
 constructor
 ·rintro ⟨h1,h2⟩;exact ⟨h1,fun j e hj he=>h2 (e,j) (List.mem_zipIdx_iff_getElem?.2 he)⟩
 ·rintro ⟨h1,h2⟩;refine ⟨h1,fun x hx=> ?_⟩;have he:=List.mem_zipIdx_iff_getElem?.1 hx;exact h2 x.2 x.1 (List.getElem?_eq_some_iff.1 he).1 he
theorem OkTo.succ {es:List EraV} {k:Nat} (h:OkTo es k) {e:EraV} (he:es[k]? =some e) (hk:okAt es.length (e,k)=true):OkTo es (k+1):=by
 intro j x hj hx;rcases (by omega:j<k∨j=k) with h1|rfl
 ·exact h j x h1 hx
 ·rw [he] at hx;cases hx;exact hk
theorem zone_not {es:List EraV} {k:Nat} {e:EraV} (he:es[k]? =some e) (hk:okAt es.length (e,k)=false):zoneB es=false:=by
 rw [Bool.eq_false_iff];intro h;have:=(zone_iff.1 h).2 k e (List.getElem?_eq_some_iff.1 he).1 he;rw [hk] at this;cases this
set_option maxRecDepth 100000 in
set_option maxHeartbeats 3200000 in
theorem Zone {w:World} {v:Value} {es:List EraV} (h:HoldsE w v es) (name:ByteArray):Calls prog 125 #[.agg #[.string name,v]] w fun e w'=>e=.returned (.bool (zoneB es))∧Below w.heap.size w w':=by
 have hat:=fun (k:Nat) (e:EraV) (he:es[k]? =some e)=>h.at he;have hfit:=h.fit;have hln:=h.len;obtain ⟨p,cap,rfl⟩:=h.form;have cr:=fun (e:EraV) (he:e.Fit) W=>REr.Right e he W;have hll:∀ k:Nat,k<es.length→∃ e,es[k]? =some e:=fun k hk=>⟨es[k],by simp⟩;have hzn:=fun (k:Nat) (e:EraV) (he:es[k]? =some e)=>zone_not (k:=k) he;have hok:∀ k,k=es.length→OkTo es k→zoneB es=decide (0<es.length):=by
  intro k hk ho
  by_cases h0:0<es.length
  ·rw [zone_iff.2 ⟨h0,hk ▸ ho⟩];simp [h0]
  ·unfold zoneB;simp [h0]
 have hsc:=fun (k:Nat) (ho:OkTo es k) (e:EraV) (he:es[k]? =some e)=>ho.succ he;generalize zoneB es=zb at *;generalize es.length=n at *;have Hat:=kj hat;have Hft:=kj hfit;have HLL:=kj hll;have Hzn:=kj hzn;have Hok:=kj hok;have Hsc:=kj hsc;have Cr:=kj cr;clear hat hfit hll hzn hok hsc cr h;go_enter func125,ntmps125;go_wp2
 go_loopw [8] (fun z wr=>∃ k:Nat,z=.int .i64 k∧k≤n∧OkTo es k∧Below w.heap.size w wr∧Box wr w.heap.size #[.string name,.slice p n cap] 66) (fun z _=>n-(intOf z).toNat)
 case atStart=>exact ⟨0,rfl,Nat.zero_le _,fun j e hj=>absurd hj (Nat.not_lt_zero _),bcq,Box.new _ _ _⟩
 case round=>
  obtain ⟨k,rfl,hk,hto,hbel,hbx⟩:=hrel;have c0:=hbx.cell 0;have c1:=hbx.cell 1;have l0:=hbx.lt;have Hto:=kj hto;have Hbel:=kj hbel;have Hbx:=kj hbx;clear hto hbel hbx
  by_cases hlt:k<n
  ·obtain ⟨e,he⟩:=HLL.out k hlt;obtain ⟨b,off,cap',hq,hb,hcl⟩:=Hat.out k e he;simp only [Value.slice.injEq] at hq;obtain ⟨rfl, -, -⟩:=hq;have cr:=fun W=>Cr.out e (Hft.out e (List.mem_of_getElem? he)) W;have hsc:=Hsc.out k Hto.out e he;have hzn:=Hzn.out k e he;unfold okAt at hsc hzn;simp only at hsc hzn;generalize Er.rightB e=g at *;have hd:∀ (j:Nat) (u:Value),e.cells[j]? =some u→wr.cell? ⟨b,off+k*13+j,none⟩=some u:=fun j u hu=>(Hbel.out.cell (p:=⟨b,off+k*13+j,none⟩) hb).trans (hcl j u hu);unfold EraV.cells at hd cr;have d0:=hd 0 _ rfl;have d1:=hd 1 _ rfl;have d2:=hd 2 _ rfl;have d3:=hd 3 _ rfl;have d4:=hd 4 _ rfl;have d5:=hd 5 _ rfl;have d6:=hd 6 _ rfl;have d7:=hd 7 _ rfl;have d8:=hd 8 _ rfl;have d9:=hd 9 _ rfl;have d10:=hd 10 _ rfl;have d11:=hd 11 _ rfl;have d12:=hd 12 _ rfl;simp only [Nat.add_zero] at d0;clear hd hcl he hb;generalize e.u.has=has at *;have CR:=kj cr;clear cr;have hki:((k:Int)<n-1)↔(k+1<n):=by omega
   cases g<;>cases has<;>by_cases hkn:k+1<n
   all_goals
    first
     |have hki2:decide ((k:Int)<n-1)=true:=by rw [decide_eq_true_eq];exact hki.2 hkn
     |have hki2:decide ((k:Int)<n-1)=false:=by rw [decide_eq_false_iff_not];exact fun h=>hkn (hki.1 h)
    clear hki
    first
     |(have HZ:=kj (hzn (by simp [hkn]))
       clear hsc hzn
       go_wp2_with (go_at_call 114;(with_reducible refine (CR.out _).mono ?_);rintro e w1 ⟨rfl,hb1⟩;obtain ⟨hc1_0,hf1_0,hz1_0⟩:=bcs hb1 (w.heap.size);obtain ⟨hc1_1,hf1_1,hz1_1⟩:=bcs hb1 (wr.heap.size))
       go_ret;exact ⟨congrArg (fun v=>Ending.returned (Value.bool v)) HZ.out.symm,by have hbel:=Hbel.out;exact bcq⟩)
     |(have HS:=kj (hsc (by simp [hkn]))
       clear hsc hzn
       go_wp2_with (go_at_call 114;(with_reducible refine (CR.out _).mono ?_);rintro e w1 ⟨rfl,hb1⟩;obtain ⟨hc1_0,hf1_0,hz1_0⟩:=bcs hb1 (w.heap.size);obtain ⟨hc1_1,hf1_1,hz1_1⟩:=bcs hb1 (wr.heap.size))
       have hbel:=Hbel.out;have hbx:=Hbx.out;go_roundw
       case rel=>exact ⟨k+1,by go_num,hlt,HS.out,bcq,bxq⟩
       case measure=>simp [intOf];omega)
  ·have hkn:k=n:=by omega
   have HR:=kj (Hok.out k hkn Hto.out)
   by_cases hn0:0<n
   ·have hn1:(0:Int)<n:=by omega
    go_wp2;go_ret;exact ⟨congrArg (fun v=>Ending.returned (Value.bool v)) (by rw [HR.out];simp [hn0]),Hbel.out⟩
   ·have hn1:n=0:=by omega
    subst hn1;go_wp2;go_ret;exact ⟨congrArg (fun v=>Ending.returned (Value.bool v)) (by rw [HR.out];simp),Hbel.out⟩
end Zn
end
section
open Go.RowKit Go.Shelf NB Nxt
attribute [local go_sem] Oper.semAt_some
namespace Spn
end Spn
namespace All
def RowPost (w:World) (l:List OccV) (e:Ending) (w':World):Prop:=∃ v,e=.returned v∧w'.ownsRow w.heap.size 156 3 v l.length (l.flatMap OccV.cells)∧Below w.heap.size w w'
theorem info_occ:(prog.info? 156).map (fun i=>(i.zero,i.size,i.bytes))=some (some (.agg #[.int .i64 0,.int .i64 0,.int .i64 0]),3,24):=by kernel_rfl
theorem own_mono {w:World} {B B':Nat} {e:TypeId} {sz n:Nat} {v:Value} {xs:List Value} (h:w.ownsRow B e sz v n xs) (hB:B'≤B):w.ownsRow B' e sz v n xs:=by
 refine ⟨h.1,?_⟩;rcases h.2 with h2|⟨g,cap,cur,h1,h2,h3⟩
 ·exact .inl h2
 ·exact .inr ⟨g,cap,cur,h1,Nat.le_trans hB h2,h3⟩
theorem grown_set (W:World) (b o:Nat) (v:Value):W.grownBy (W.setCell ⟨b,o,none⟩ v) (some b):=
 ⟨rfl,rfl,rfl,(KeepsWalks.setCell W _ v).size,fun k _ hk=>Below.heap_setCell _ _ _ k (fun e=>hk (by rw [e]))⟩
theorem row_ge {w:World} {B:Nat} {e:TypeId} {sz n:Nat} {v:Value} {xs:List Value} (h:w.ownsRow B e sz v n xs):∀ k,v.ownBlock=some k→B≤k:=by
 intro k hk;rcases h.2 with ⟨rfl,_⟩|⟨g,cap,cur,rfl,h2,_⟩
 ·simp [Value.ownBlock] at hk
 ·obtain rfl:g=k:=by simpa [Value.ownBlock] using hk
  exact h2
theorem row_not {w:World} {B c:Nat} {e:TypeId} {sz n:Nat} {v:Value} {xs:List Value} (h:w.ownsRow B e sz v n xs) (hc:c<B):some c≠v.ownBlock:=by
 intro e';have:=row_ge h c e'.symm;omega
theorem news_box {w:World} {b:Nat} {cs:Array Value} {t:TypeId} (h:Box w b cs t):∀ j u,cs.toList[j]? =some u→w.cell? ((⟨b,0,none⟩:Addr).add j)=some u:=by
 intro j u hu;have hadd:(⟨b,0,none⟩:Addr).add j=⟨b,j,none⟩:=by unfold Addr.add;split<;>simp_all
 rw [hadd,h.cell]
 simpa using hu
def inO (l:List RuleV) (name:ByteArray) (fr tt most:Int):List OccV:=if fr<tt then Occ.inL l name tt ⟨-1,0,fr⟩ most.toNat else []
variable {F:Fence} {n:Nat}
end All
end
end Go.Proofs.YtgmfojgnjdpofaaGreatDoor
