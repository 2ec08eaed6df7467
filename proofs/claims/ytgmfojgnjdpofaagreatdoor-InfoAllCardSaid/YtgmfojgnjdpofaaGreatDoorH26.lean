import Derived.Test.YtgmfojgnjdpofaaGreatDoorH24
namespace Go.Proofs.YtgmfojgnjdpofaaGreatDoor
open Go.Proofs.Tryz
section
open Go.RowKit NB
namespace RRe
open Rd RWd RNu RAm RDs RAt RYe RRu
def digitB (s:ByteArray) (k:Nat):Bool:=match s.data.toList[k]? with|some c=>isD c|none=>false
theorem digit (s:ByteArray) (_hs:s.size≤1000000) (k:Nat) (_hk:k≤1) (w:World):Calls prog 327 #[.string s,.int .i64 (k:Int)] w fun e w'=>e=.returned (.bool (digitB s k))∧w=w':=by
 unfold digitB
 by_cases h:k<s.size
 ·rw [bAt h];have q1:(k:Int)<(s.size:Int):=by omega
  dsimp only;cases hd:isD s[k] with
  |true=>
   obtain ⟨r1,r2⟩:=isD_true hd;have r3:(s[k].toNat:Int)≤57:=by omega
   have r4:(48:Int)≤(s[k].toNat:Int):=by omega
   clear hd;go_enter func327,ntmps327;go_wp2;go_ret;exact ⟨rfl,rfl⟩
  |false=>
   have r1:=isD_false hd;clear hd;rcases r1 with r1|⟨r1,r2⟩
   all_goals
    (try have r4:¬(48:Int)≤(s[k].toNat:Int):=by omega)
    (try have r3:¬(s[k].toNat:Int)≤57:=by omega)
    go_enter func327,ntmps327;go_wp2;go_ret;exact ⟨rfl,rfl⟩
 ·rw [List.getElem?_eq_none (by rw [len_list];omega)];have q1:¬(k:Int)<(s.size:Int):=by omega
  go_enter func327,ntmps327;go_wp2;go_ret;exact ⟨rfl,rfl⟩
theorem digit0 (s:ByteArray) (hs:s.size≤1000000) (w:World):Calls prog 327 #[.string s,.int .i64 0] w fun e w'=>e=.returned (.bool (digitB s 0))∧w=w':=digit s hs 0 (by omega) w
theorem digit1 (s:ByteArray) (hs:s.size≤1000000) (w:World):Calls prog 327 #[.string s,.int .i64 1] w fun e w'=>e=.returned (.bool (digitB s 1))∧w=w':=digit s hs 1 (by omega) w
theorem hms_first (a:Nat):∃ c r,hmsL a=c :: r∧isD c=true:=by
 unfold hmsL;have:=dec_all (a/3600);cases h:dec (a/3600) with
 |nil=>exact absurd h (dec_ne _)
 |cons c r=>
  rw [h,List.all_cons,Bool.and_eq_true] at this;exact ⟨c,_,rfl,this.1⟩
theorem textA_first (n:Int):(∃ c r,textA n=c :: r∧isD c=true)∨(∃ c r,textA n=45 :: c :: r∧isD c=true):=by
 unfold textA
 split
 ·exact .inl ⟨48,[],rfl,by decide⟩
 ·split
  ·obtain ⟨c,r,e,h⟩:=hms_first (-n).toNat;exact .inr ⟨c,r,by rw [e],h⟩
  ·obtain ⟨c,r,e,h⟩:=hms_first n.toNat;exact .inl ⟨c,r,e,h⟩
theorem name_first {s:ByteArray} (h:Nam.nameE s=0):∃ c r,s.data.toList=c :: r∧isD c=false∧c≠45:=by
 have hc:=(clean_name h).1.1;unfold Nam.nameE at h
 by_cases h1:64<s.size
 ·rw [if_pos h1] at h;omega
 ·rw [if_neg h1] at h;unfold Nam.nameR at h
  by_cases h2:Nam.okAll s.data.toList=true
  ·cases hl:s.data.toList with
   |nil=>exact absurd hl hc
   |cons c r=>
    refine ⟨c,r,rfl,?_⟩;have:=List.all_eq_true.1 h2 0 (List.mem_range.2 (by rw [hl];simp));unfold Nam.okAt at this;rw [hl] at this;simp only [List.getElem?_cons_zero,Nat.lt_irrefl,decide_false,Bool.false_and,Bool.or_false] at this;have key:((List.range 256).all fun n=> !(Nam.okFirst (UInt8.ofNat n))||(!(isD (UInt8.ofNat n))&&decide (UInt8.ofNat n≠45)))=true:=by decide +kernel
    have h3:=List.all_eq_true.1 key c.toNat (List.mem_range.2 c.toNat_lt);rw [UInt8.ofNat_toNat,this] at h3
    simpa using h3
  ·rw [if_neg h2] at h;omega
theorem at_size {s:ByteArray} {c:UInt8} {r:Bs} (h:s.data.toList=c :: r):0<s.size∧∀ h:0<s.size,s[0]=c:=by
 have hsz:0<s.size:=by
  have:=congrArg List.length h;rw [len_list,List.length_cons] at this;omega
 refine ⟨hsz,fun g=> ?_⟩;have:=bAt g;rw [h] at this;exact (Option.some.inj this).symm
set_option maxHeartbeats 3200000 in
theorem rules (e:EraV) (hr:Er.rightB e=true) (w:World):Calls prog 304 #[.string (kindE e)] w fun x w'=>x=.returned (.tuple #[.int .i64 e.kind,.int .i64 e.save,.string e.rules,.int .i64 0])∧Below w.heap.size w w':=by
 obtain ⟨_,_,_,hk⟩:=era_of hr;have hsz:=(clean_kind hr).2;unfold kindE at *;obtain ⟨off,kind,save,rules,format,u⟩:=e;dsimp only at *;rcases hk with ⟨rfl,rfl,hru⟩|⟨rfl,h1,h2,hru⟩|⟨rfl,rfl,hn⟩
 ·have e0:=empty_of hru;subst e0;rw [if_pos rfl];go_enter func304,ntmps304;go_wp2;refine bodyPost_ret (v:=.tuple #[.int .i64 0,.int .i64 0,.string ⟨#[]⟩,.int .i64 0]) ?_ rfl ⟨rfl,?_⟩
  ·simp only [results,results304];go_simp
  ·exact bcq
 ·have e0:=empty_of hru;subst e0;rw [if_neg (by decide),if_pos rfl] at hsz ⊢;have cs:=fun W=>Save save h1 h2 W;have cd0:=fun W=>digit0 (ofL (textA save)) (by omega) W;have cd1:=fun W=>digit1 (ofL (textA save)) (by omega) W;have CS:=kj cs;rcases textA_first save with ⟨c,r,e,hd⟩|⟨c,r,e,hd⟩
  ·have l1:(ofL (textA save)).data.toList=c :: r:=by rw [ofL_list,e]
   have hd0:digitB (ofL (textA save)) 0=true:=by unfold digitB;rw [l1];exact hd
   have e3:((ofL (textA save)).toList==[45])=false:=by
    rw [beq_eq_false_iff_ne,ByteArray.toList_eq,l1];intro h;have:=(List.cons.inj h).1;subst this
    revert hd;decide
   rw [hd0] at cd0;generalize ofL (textA save)=T at *;have CD0:=kj cd0;clear cs cd0 cd1 l1 hd0 hd e;go_enter func304,ntmps304
   go_wp2_with (first
    |(go_at_call 327;(with_reducible refine (CD0.out _).mono ?_);rintro e w' ⟨rfl,rfl⟩)
    |(go_at_call 312;(with_reducible refine (CS.out _).mono ?_);rintro e w1 ⟨rfl,hb1⟩;obtain ⟨hc1,hf1⟩:=bcell hb1))
   refine bodyPost_ret (v:=.tuple #[.int .i64 1,.int .i64 save,.string ⟨#[]⟩,.int .i64 0]) ?_ rfl ⟨rfl,?_⟩
   ·simp only [results,results304];go_simp
   ·exact bcq
  ·have l1:(ofL (textA save)).data.toList=45 :: c :: r:=by rw [ofL_list,e]
   have hd0:digitB (ofL (textA save)) 0=false:=by unfold digitB;rw [l1];rfl
   have hd1:digitB (ofL (textA save)) 1=true:=by unfold digitB;rw [l1];exact hd
   have e3:((ofL (textA save)).toList==[45])=false:=by
    rw [beq_eq_false_iff_ne,ByteArray.toList_eq,l1];simp
   have e4:(ofL (textA save)).toList.isEmpty=false:=by rw [ByteArray.toList_eq,l1];rfl
   obtain ⟨g1,g2⟩:=at_size l1;have g3:((ofL (textA save))[0].toNat:Int)=45:=by rw [g2 g1];rfl
   rw [hd0] at cd0;rw [hd1] at cd1;generalize ofL (textA save)=T at *;have CD0:=kj cd0;have CD1:=kj cd1;clear cs cd0 cd1 l1 hd0 hd1 hd e g2;go_enter func304,ntmps304
   go_wp2_with (first
    |(with_reducible (go_at_call 327;(with_reducible refine (CD0.out _).mono ?_);rintro e w' ⟨rfl,rfl⟩))
    |(with_reducible (go_at_call 327;(with_reducible refine (CD1.out _).mono ?_);rintro e w' ⟨rfl,rfl⟩))
    |(go_at_call 312;(with_reducible refine (CS.out _).mono ?_);rintro e w1 ⟨rfl,hb1⟩;obtain ⟨hc1,hf1⟩:=bcell hb1))
   refine bodyPost_ret (v:=.tuple #[.int .i64 1,.int .i64 save,.string ⟨#[]⟩,.int .i64 0]) ?_ rfl ⟨rfl,?_⟩
   ·simp only [results,results304];go_simp
   ·exact bcq
 ·rw [if_neg (by decide),if_neg (by decide)] at hsz ⊢;obtain ⟨c,r,l1,hd,h45⟩:=name_first hn;have cn:=fun W=>RRule.Name rules (by omega) W;rw [hn] at cn;have cd0:=fun W=>digit0 rules (by omega) W;have hd0:digitB rules 0=false:=by unfold digitB;rw [l1];exact hd
  rw [hd0] at cd0;have e3:(rules.toList==[45])=false:=by
   rw [beq_eq_false_iff_ne,ByteArray.toList_eq,l1];intro h;exact h45 (List.cons.inj h).1
  have e4:rules.toList.isEmpty=false:=by rw [ByteArray.toList_eq,l1];rfl
  obtain ⟨g1,g2⟩:=at_size l1;have g3:(rules[0].toNat:Int)≠45:=by
   rw [g2 g1];intro e;exact h45 (UInt8.toNat_inj.1 (by show c.toNat=45;omega))
  have g4:((rules[0].toNat:Int)==45)=false:=by rw [beq_eq_false_iff_ne];exact g3
  have CN:=kj cn;have CD0:=kj cd0;clear cn cd0 hd0 hd h45 l1 hn g2 g3;go_enter func304,ntmps304
  go_wp2_with (first
   |(go_at_call 327;(with_reducible refine (CD0.out _).mono ?_);rintro e w' ⟨rfl,rfl⟩)
   |(go_at_call 175;(with_reducible refine (CN.out _).mono ?_);rintro e w' ⟨rfl,rfl⟩))
  refine bodyPost_ret (v:=.tuple #[.int .i64 2,.int .i64 0,.string rules,.int .i64 0]) ?_ rfl ⟨rfl,?_⟩
  ·simp only [results,results304];go_simp
  ·exact bcq
end RRe
end
section
open Go.RowKit NB
namespace RRe
open Rd RWd RNu RAm RDs RAt RYe RRu
theorem year_facts {y:Int} (h0: -32767<y) (h1:y<32767) (w:World):Calls prog 328 #[.string (ofL (textN y))] w fun e w'=>e=.returned (.tuple #[.int .i64 y,.int .i64 0])∧w=w':=by
 have hsz:(ofL (textN y)).size≤1000000:=by
  rw [ofL_size];have:=textN_len (n:=y) (by omega) (by omega);omega
 have:=RNu.Read (ofL (textN y)) (by omega) w;rw [readN_textN y (by omega) (by omega)] at this;exact this
set_option maxRecDepth 100000 in
set_option maxHeartbeats 6400000 in
theorem end4 (year month kind week day sec base:Int) (h1: -32767<year) (h2:year<32767) (hf:Day.fits kind week day month=true) (h3:0≤base) (h4:base≤2) (h5:0≤sec) (h6:sec≤172800) {w:World} {v:Value}
 (hv:HoldsS w v [ofL (textN year),textM month,textOn ⟨kind,week,day⟩,textAt ⟨sec,base⟩]):
 Calls prog 305 #[v] w fun e w'=>e=.returned (.tuple #[.agg #[.bool true,.int .i64 year,.int .i64 month,.int .i64 kind,.int .i64 week,.int .i64 day,.int .i64 sec,.int .i64 base],.int .i64 0])∧Below w.heap.size w w':=by
 obtain ⟨g1,g2,g3⟩:=fits_of hf;have c1:=fun W=>year_facts h1 h2 W;have hsm:=(clean_month g2 g3).2;have c2:=fun W=>Month (textM month) (by omega) W;rw [readM_textM month g2 g3] at c2;have c3:=fun W=>Day ⟨kind,week,day⟩ month hf W;have c4:=fun W=>AtRead ⟨sec,base⟩ h5 h6 h3 h4 W;unfold onV at c3;unfold atV at c4;obtain ⟨p,cap,hv1,hp⟩:=hv.pk1;dsimp only at *;generalize ofL (textN year)=X0 at *;generalize textM month=X1 at *;generalize textOn ⟨kind,week,day⟩=X2 at *;generalize textAt ⟨sec,base⟩=X3 at *;have hv1:v=.slice p 4 cap:=hv1;subst hv1;obtain ⟨b,o,rfl,hb,d0⟩:=hp 0 _ rfl;have d1:w.cell? ⟨b,o+1,none⟩=some (.string X1):=by obtain ⟨_,_,e,_,d⟩:=hp 1 _ rfl;cases e;exact d
 have d2:w.cell? ⟨b,o+2,none⟩=some (.string X2):=by obtain ⟨_,_,e,_,d⟩:=hp 2 _ rfl;cases e;exact d
 have d3:w.cell? ⟨b,o+3,none⟩=some (.string X3):=by obtain ⟨_,_,e,_,d⟩:=hp 3 _ rfl;cases e;exact d
 rw [Nat.add_zero] at d0;have C1:=kj c1;have C2:=kj c2;have C3:=kj c3;have C4:=kj c4;clear c1 c2 c3 c4 hf h3 h4 h5 h6 g1 g2 g3 hp hv hsm;go_enter func305,ntmps305
 go_upto_region 11 with (first
  |(go_at_call 328;(with_reducible refine (C1.out _).mono ?_);rintro e w' ⟨rfl,rfl⟩)
  |(go_at_call 309;(with_reducible refine (C2.out _).mono ?_);rintro e w2 ⟨rfl,hb2⟩;obtain ⟨hc2_0,hf2_0,hz2_0⟩:=bcs hb2 (w.heap.size);obtain ⟨hc2_1,hf2_1,hz2_1⟩:=bcs hb2 (w.heap.size+1);obtain ⟨hc2_2,hf2_2,hz2_2⟩:=bcs hb2 (b)))
 obtain ⟨WB,hWB⟩:∃ V,V=w2.setCell ⟨w.heap.size+1,2,none⟩ (.int .i64 month):=⟨_,rfl⟩;have hB1:=hb2.size;have BR:Box WB w.heap.size #[.bool false,.int .i64 0,.int .i64 0,.int .i64 0,.int .i64 0,.int .i64 0,.int .i64 0,.int .i64 0] 51:=by
  rw [hWB];exact (((Box.new w _ _).old).later hb2).other (by omega)
 have BU:Box WB (w.heap.size+1) #[.bool true,.int .i64 year,.int .i64 month,.int .i64 0,.int .i64 0,.int .i64 1,.int .i64 0,.int .i64 0] 51:=by
  rw [hWB];have:=((Box.new (w.alloc (.cells #[.bool false,.int .i64 0,.int .i64 0,.int .i64 0,.int .i64 0,.int .i64 0,.int .i64 0,.int .i64 0] 51)) #[.bool true,.int .i64 year,.int .i64 1,.int .i64 0,.int .i64 0,.int .i64 1,.int .i64 0,.int .i64 0] 51).later hb2);rw [World.size_alloc] at this;exact this.set
 have hbw:Below w.heap.size w WB:=by rw [hWB];exact bcq
 have e2:=(hbw.cell (p:=⟨b,o+2,none⟩) hb).trans d2;have e3:=(hbw.cell (p:=⟨b,o+3,none⟩) hb).trans d3;have hbB:b<WB.heap.size:=by have:=hbw.size;omega
 rw [← hWB];clear hb2 hc2_0 hf2_0 hz2_0 hc2_1 hf2_1 hz2_1 hc2_2 hf2_2 hz2_2 hWB hB1 d0 d1 d2 d3;have cU:=BU.cell;have cR:=BR.cell;have fU:=BU.free;have fR:=BR.free;have lU:=BU.lt
 go_region_with (go_at_call 310;(with_reducible refine (C3.out _).mono ?_);rintro e w3 ⟨rfl,hb3⟩;obtain ⟨_,_,_⟩:=bcs hb3 (w.heap.size);obtain ⟨_,_,_⟩:=bcs hb3 (w.heap.size+1);obtain ⟨_,_,_⟩:=bcs hb3 (b))
 all_goals
  have BR3:=BR.drew.later hb3;have BU3:=BU.drew.later hb3;have e4:=((show Below w.heap.size w w3 from bcq).cell (p:=⟨b,o+3,none⟩) hb).trans (((hbw.cell (p:=⟨b,o+3,none⟩) hb).symm).trans e3);have hn:w.heap.size≠w.heap.size+1:=by omega
  go_wp2_with (go_at_call 311;refine (C4.out _).mono ?_;rintro e w4 ⟨rfl,hb4⟩;have BU4:Box w4 (w.heap.size+1) #[.bool true,.int .i64 year,.int .i64 month,.int .i64 kind,.int .i64 week,.int .i64 day,.int .i64 0,.int .i64 0] 51:=(BU3.set.set.set).later hb4;have BR4:Box w4 w.heap.size #[.bool false,.int .i64 0,.int .i64 0,.int .i64 0,.int .i64 0,.int .i64 0,.int .i64 0,.int .i64 0] 51:=(((BR3.other hn).other hn).other hn).later hb4;have c4U:=BU4.cell;have c4R:=BR4.cell;have f4U:=BU4.free;have f4R:=BR4.free;have l4U:=BU4.lt)
  refine bodyPost_ret (v:=.tuple #[.agg #[.bool true,.int .i64 year,.int .i64 month,.int .i64 kind,.int .i64 week,.int .i64 day,.int .i64 sec,.int .i64 base],.int .i64 0]) ?_ rfl ⟨rfl,?_⟩
  ·simp only [results,results305];go_simp
  ·exact bcq
end RRe
end
section
open Go.RowKit NB
namespace RRe
open Rd RWd RNu RAm RDs RAt RYe RRu
set_option maxRecDepth 100000 in
set_option maxHeartbeats 6400000 in
theorem end3 (year month kind week day:Int) (h1: -32767<year) (h2:year<32767) (hf:Day.fits kind week day month=true) {w:World} {v:Value}
 (hv:HoldsS w v [ofL (textN year),textM month,textOn ⟨kind,week,day⟩]):
 Calls prog 305 #[v] w fun e w'=>e=.returned (.tuple #[.agg #[.bool true,.int .i64 year,.int .i64 month,.int .i64 kind,.int .i64 week,.int .i64 day,.int .i64 0,.int .i64 0],.int .i64 0])∧Below w.heap.size w w':=by
 obtain ⟨g1,g2,g3⟩:=fits_of hf;have c1:=fun W=>year_facts h1 h2 W;have hsm:=(clean_month g2 g3).2;have c2:=fun W=>Month (textM month) (by omega) W;rw [readM_textM month g2 g3] at c2;have c3:=fun W=>Day ⟨kind,week,day⟩ month hf W;unfold onV at c3;obtain ⟨p,cap,hv1,hp⟩:=hv.pk1;dsimp only at *;generalize ofL (textN year)=X0 at *;generalize textM month=X1 at *;generalize textOn ⟨kind,week,day⟩=X2 at *;have hv1:v=.slice p 3 cap:=hv1;subst hv1;obtain ⟨b,o,rfl,hb,d0⟩:=hp 0 _ rfl;have d1:w.cell? ⟨b,o+1,none⟩=some (.string X1):=by obtain ⟨_,_,e,_,d⟩:=hp 1 _ rfl;cases e;exact d
 have d2:w.cell? ⟨b,o+2,none⟩=some (.string X2):=by obtain ⟨_,_,e,_,d⟩:=hp 2 _ rfl;cases e;exact d
 rw [Nat.add_zero] at d0;have C1:=kj c1;have C2:=kj c2;have C3:=kj c3;clear c1 c2 c3 hf g1 g2 g3 hp hv hsm;go_enter func305,ntmps305
 go_upto_region 11 with (first
  |(go_at_call 328;(with_reducible refine (C1.out _).mono ?_);rintro e w' ⟨rfl,rfl⟩)
  |(go_at_call 309;(with_reducible refine (C2.out _).mono ?_);rintro e w2 ⟨rfl,hb2⟩;obtain ⟨hc2_0,hf2_0,hz2_0⟩:=bcs hb2 (w.heap.size);obtain ⟨hc2_1,hf2_1,hz2_1⟩:=bcs hb2 (w.heap.size+1);obtain ⟨hc2_2,hf2_2,hz2_2⟩:=bcs hb2 (b)))
 obtain ⟨WB,hWB⟩:∃ V,V=w2.setCell ⟨w.heap.size+1,2,none⟩ (.int .i64 month):=⟨_,rfl⟩;have hB1:=hb2.size;have BR:Box WB w.heap.size #[.bool false,.int .i64 0,.int .i64 0,.int .i64 0,.int .i64 0,.int .i64 0,.int .i64 0,.int .i64 0] 51:=by
  rw [hWB];exact (((Box.new w _ _).old).later hb2).other (by omega)
 have BU:Box WB (w.heap.size+1) #[.bool true,.int .i64 year,.int .i64 month,.int .i64 0,.int .i64 0,.int .i64 1,.int .i64 0,.int .i64 0] 51:=by
  rw [hWB];have:=((Box.new (w.alloc (.cells #[.bool false,.int .i64 0,.int .i64 0,.int .i64 0,.int .i64 0,.int .i64 0,.int .i64 0,.int .i64 0] 51)) #[.bool true,.int .i64 year,.int .i64 1,.int .i64 0,.int .i64 0,.int .i64 1,.int .i64 0,.int .i64 0] 51).later hb2);rw [World.size_alloc] at this;exact this.set
 have hbw:Below w.heap.size w WB:=by rw [hWB];exact bcq
 have e2:=(hbw.cell (p:=⟨b,o+2,none⟩) hb).trans d2;have hbB:b<WB.heap.size:=by have:=hbw.size;omega
 rw [← hWB];clear hb2 hc2_0 hf2_0 hz2_0 hc2_1 hf2_1 hz2_1 hc2_2 hf2_2 hz2_2 hWB hB1 d0 d1 d2;have cU:=BU.cell;have cR:=BR.cell;have fU:=BU.free;have fR:=BR.free;have lU:=BU.lt
 go_region_with (go_at_call 310;(with_reducible refine (C3.out _).mono ?_);rintro e w3 ⟨rfl,hb3⟩;obtain ⟨_,_,_⟩:=bcs hb3 (w.heap.size);obtain ⟨_,_,_⟩:=bcs hb3 (w.heap.size+1);obtain ⟨_,_,_⟩:=bcs hb3 (b))
 all_goals
  have BR3:=BR.drew.later hb3;have BU3:=BU.drew.later hb3;have hn:w.heap.size≠w.heap.size+1:=by omega
  have c3U:=BU3.cell;have c3R:=BR3.cell;have f3U:=BU3.free;have f3R:=BR3.free;have l3U:=BU3.lt;go_wp2;refine bodyPost_ret (v:=.tuple #[.agg #[.bool true,.int .i64 year,.int .i64 month,.int .i64 kind,.int .i64 week,.int .i64 day,.int .i64 0,.int .i64 0],.int .i64 0]) ?_ rfl ⟨rfl,?_⟩
  ·simp only [results,results305];go_simp
  ·exact bcq
set_option maxRecDepth 100000 in
set_option maxHeartbeats 3200000 in
theorem end2 (year month:Int) (h1: -32767<year) (h2:year<32767) (g2:1≤month) (g3:month≤12) {w:World} {v:Value}
 (hv:HoldsS w v [ofL (textN year),textM month]):
 Calls prog 305 #[v] w fun e w'=>e=.returned (.tuple #[.agg #[.bool true,.int .i64 year,.int .i64 month,.int .i64 0,.int .i64 0,.int .i64 1,.int .i64 0,.int .i64 0],.int .i64 0])∧Below w.heap.size w w':=by
 have c1:=fun W=>year_facts h1 h2 W;have hsm:=(clean_month g2 g3).2;have c2:=fun W=>Month (textM month) (by omega) W;rw [readM_textM month g2 g3] at c2;obtain ⟨p,cap,hv1,hp⟩:=hv.pk1;generalize ofL (textN year)=X0 at *;generalize textM month=X1 at *;have hv1:v=.slice p 2 cap:=hv1;subst hv1;obtain ⟨b,o,rfl,hb,d0⟩:=hp 0 _ rfl;have d1:w.cell? ⟨b,o+1,none⟩=some (.string X1):=by obtain ⟨_,_,e,_,d⟩:=hp 1 _ rfl;cases e;exact d
 rw [Nat.add_zero] at d0;have C1:=kj c1;have C2:=kj c2;clear c1 hp hv c2 hsm g2 g3;go_enter func305,ntmps305
 go_wp2_with (first
  |(go_at_call 328;(with_reducible refine (C1.out _).mono ?_);rintro e w' ⟨rfl,rfl⟩)
  |(go_at_call 309;(with_reducible refine (C2.out _).mono ?_);rintro e w2 ⟨rfl,hb2⟩;obtain ⟨_,_,_⟩:=bcs hb2 (w.heap.size);obtain ⟨_,_,_⟩:=bcs hb2 (w.heap.size+1);obtain ⟨_,_,_⟩:=bcs hb2 (b)))
 refine bodyPost_ret (v:=.tuple #[.agg #[.bool true,.int .i64 year,.int .i64 month,.int .i64 0,.int .i64 0,.int .i64 1,.int .i64 0,.int .i64 0],.int .i64 0]) ?_ rfl ⟨rfl,?_⟩
 ·simp only [results,results305];go_simp
 ·exact bcq
set_option maxRecDepth 100000 in
set_option maxHeartbeats 3200000 in
theorem end1 (year:Int) (h1: -32767<year) (h2:year<32767) {w:World} {v:Value}
 (hv:HoldsS w v [ofL (textN year)]):
 Calls prog 305 #[v] w fun e w'=>e=.returned (.tuple #[.agg #[.bool true,.int .i64 year,.int .i64 1,.int .i64 0,.int .i64 0,.int .i64 1,.int .i64 0,.int .i64 0],.int .i64 0])∧Below w.heap.size w w':=by
 have c1:=fun W=>year_facts h1 h2 W;obtain ⟨p,cap,hv1,hp⟩:=hv.pk1;generalize ofL (textN year)=X0 at *;have hv1:v=.slice p 1 cap:=hv1;subst hv1;obtain ⟨b,o,rfl,hb,d0⟩:=hp 0 _ rfl;rw [Nat.add_zero] at d0;have C1:=kj c1;clear c1 hp hv;go_enter func305,ntmps305
 go_wp2_with (first
  |(go_at_call 328;(with_reducible refine (C1.out _).mono ?_);rintro e w' ⟨rfl,rfl⟩))
 refine bodyPost_ret (v:=.tuple #[.agg #[.bool true,.int .i64 year,.int .i64 1,.int .i64 0,.int .i64 0,.int .i64 1,.int .i64 0,.int .i64 0],.int .i64 0]) ?_ rfl ⟨rfl,?_⟩
 ·simp only [results,results305];go_simp
 ·exact bcq
theorem end0 {w:World} {v:Value} (hv:HoldsS w v []):
 Calls prog 305 #[v] w fun e w'=>e=.returned (.tuple #[.agg #[.bool false,.int .i64 0,.int .i64 0,.int .i64 0,.int .i64 0,.int .i64 0,.int .i64 0,.int .i64 0],.int .i64 0])∧Below w.heap.size w w':=by
 obtain ⟨p,cap,hv1,_⟩:=hv.pk1;have hv1:v=.slice p 0 cap:=hv1;subst hv1;go_enter func305,ntmps305;go_wp2;refine bodyPost_ret (v:=.tuple #[.agg #[.bool false,.int .i64 0,.int .i64 0,.int .i64 0,.int .i64 0,.int .i64 0,.int .i64 0,.int .i64 0],.int .i64 0]) ?_ rfl ⟨rfl,?_⟩
 ·simp only [results,results305];go_simp
 ·exact bcq
theorem End (u:UntilV) (hu:Er.endB u=true) {w:World} {v:Value} (hv:HoldsS w v (untilF u)):
 Calls prog 305 #[v] w fun e w'=>e=.returned (.tuple #[.agg u.cells.toArray,.int .i64 0])∧Below w.heap.size w w':=by
 obtain ⟨has,year,month,kind,week,day,sec,base⟩:=u;unfold untilF at hv;rcases end_of hu with ⟨h0,⟨h1,h2⟩,hf,h3,h4,h5,h6⟩|⟨h0,h1,h2,h3,h4,h5,h6,h7⟩
 ·dsimp only at *;subst h0;obtain ⟨_,g2,g3⟩:=fits_of hf;rw [if_neg (by decide)] at hv;cases ht:hasTime ⟨true,year,month,kind,week,day,sec,base⟩ with
  |true=>
   rw [ht] at hv;simp only [Bool.or_true,if_true] at hv;exact end4 year month kind week day sec base h1 h2 hf h3 h4 h5 h6 hv
  |false=>
   have ht2:sec=0∧base=0:=by
    unfold hasTime at ht
    simpa using ht
   obtain ⟨rfl,rfl⟩:=ht2;rw [ht] at hv;cases hd:hasDay ⟨true,year,month,kind,week,day,0,0⟩ with
   |true=>
    rw [hd] at hv;simp only [Bool.or_true,Bool.or_false,if_true,Bool.false_eq_true,if_false,List.append_nil] at hv;exact end3 year month kind week day h1 h2 hf hv
   |false=>
    have hd2:kind=0∧week=0∧day=1:=by
     unfold hasDay at hd
     simpa using hd
    obtain ⟨rfl,rfl,rfl⟩:=hd2;rw [hd] at hv
    by_cases hm:month=1
    ·subst hm;simp only [ne_eq,not_true_eq_false,decide_false,Bool.or_false,Bool.false_eq_true,if_false,List.append_nil] at hv;exact end1 year h1 h2 hv
    ·simp only [ne_eq,hm,not_false_eq_true,decide_true,Bool.or_false,if_true,Bool.false_eq_true,if_false,List.append_nil] at hv;exact end2 year month h1 h2 g2 g3 hv
 ·dsimp only at *;subst h0 h1 h2 h3 h4 h5 h6 h7;rw [if_pos rfl] at hv;exact end0 hv
end RRe
end
section
open Go.RowKit NB
theorem HoldsS.sub {W:World} {b o n c c' k:Nat} {l:List ByteArray} (h:HoldsS W (.slice (some ⟨b,o,none⟩) n c) l) (hk:k<l.length):HoldsS W (.slice (some ⟨b,o+k,none⟩) (n-k) c') (l.drop k):=by
 obtain ⟨p,cap,e,hp⟩:=h.pk1;cases e;have hlen:=h.len;have hn:l.length-k=(l.drop k).length:=by rw [List.length_drop]
 obtain ⟨x,hx⟩:∃ x,l[k]? =some x:=⟨_,List.getElem?_eq_getElem hk⟩;obtain ⟨_,_,e,hb,_⟩:=hp k x hx;cases e;rw [hn];refine ⟨.inr ⟨b,o+k,c',rfl,hb,fun i j cs v hi hj=> ?_⟩,by rw [List.length_drop];omega⟩;rw [List.getElem?_map,List.getElem?_drop] at hi;cases hs:l[k+i]? with
 |none=>rw [hs] at hi;cases hi
 |some s=>
  rw [hs] at hi;cases hi
  match j,hj with
  |0,hj=>
   cases hj;obtain ⟨_,_,e,_,d⟩:=hp (k+i) s hs;cases e;have:o+k+i*1+0=o+(k+i):=by omega
   rw [this];exact d
theorem HoldsS.none_left {W:World} {p:Option Addr} {c:Nat}:HoldsS W (.slice p 0 c) []:=⟨.inl ⟨p,c,rfl,rfl⟩,by simp⟩
namespace RRe
open Rd RWd RNu RAm RDs RAt RYe RRu
set_option maxRecDepth 100000 in
set_option maxHeartbeats 6400000 in
theorem Read (e:EraV) (he:Er.rightB e=true) {w:World} {v:Value} (hv:HoldsS w v (fieldsE e)) (hcp:∀ p n cap,v=.slice p n cap→n≤cap):
 Calls prog 290 #[v] w fun x w'=>x=.returned (.tuple #[.agg e.cells.toArray,.int .i64 0])∧Below w.heap.size w w':=by
 obtain ⟨⟨h1,h2⟩,h3,h4,_⟩:=era_of he;have hro:=readA_textA e.off (by omega) (by omega);have hso:=(clean_amount (n:=e.off) (by omega) (by omega)).2;have c1:=fun W=>RAm.Read (ofL (textA e.off)) (by omega) (by rw [hro]) W;rw [hro] at c1;have c2:=fun W=>rules e he W;have c3:=fun (W:World) (v:Value) (h:HoldsS W v (untilF e.u))=>End e.u h4 h;have hsf:=(clean_format h3).2;have c4:=fun W=>RFmt.Check e.format (by omega) W;rw [h3] at c4;obtain ⟨p,cap,hv1,hp⟩:=hv.pk1;have hl:(fieldsE e).length=3+(untilF e.u).length:=by unfold fieldsE;rw [List.length_append];rfl
 have hu4:=untilF_len e.u;have hsub:=fun (W:World) (b o c c':Nat) (hc:3+(untilF e.u).length≤c) (h:HoldsS W (.slice (some ⟨b,o,none⟩) (3+(untilF e.u).length) c) (fieldsE e))=>(show HoldsS W (.slice (if c=3 then some ⟨b,o,none⟩ else some ⟨b,o+3,none⟩) (3+(untilF e.u).length-3) c') (untilF e.u) by
  by_cases h3:c=3
  ·have e0:untilF e.u=[]:=List.length_eq_zero_iff.1 (by omega);rw [e0];exact HoldsS.none_left
  rw [if_neg h3]
  by_cases h0:(untilF e.u).length=0
  ·have e0:untilF e.u=[]:=List.length_eq_zero_iff.1 h0;rw [e0];exact HoldsS.none_left
  ·exact HoldsS.sub (k:=3) h (by rw [hl];omega))
 rw [hl] at hv1;have hcn:=hcp _ _ _ hv1;unfold fieldsE at hp hv hsub;clear hl hro;generalize untilF e.u=UL at *;generalize kindE e=X1 at *;generalize ofL (textA e.off)=X0 at *;generalize UL.length=m at *;subst hv1;clear he h3 h4;obtain ⟨off,kind,save,rules,format,u⟩:=e;obtain ⟨has,year,month,kk,wk,dd,sec,base⟩:=u;unfold EraV.cells;unfold UntilV.cells at c3;dsimp only at *;obtain ⟨b,o,rfl,hb,d0⟩:=hp 0 _ rfl;have d1:w.cell? ⟨b,o+1,none⟩=some (.string X1):=by obtain ⟨_,_,e,_,d⟩:=hp 1 _ rfl;cases e;exact d
 have d2:w.cell? ⟨b,o+2,none⟩=some (.string format):=by obtain ⟨_,_,e,_,d⟩:=hp 2 _ rfl;cases e;exact d
 rw [Nat.add_zero] at d0;have HV:=kj hv;have HSUB:=kj hsub;have C1:=kj c1;have C2:=kj c2;have C3:=kj c3;have C4:=kj c4;clear c1 c2 c3 c4 hp hv hsub hso hsf hcp;have q1:¬((3+m:Nat):Int)<3:=by omega
 have q2:¬(7:Int)<((3+m:Nat):Int):=by omega
 obtain ⟨n,hn⟩:∃ n,n=3+m:=⟨_,rfl⟩;rw [← hn] at q1 q2 HV HSUB hcn ⊢;clear hn hu4;go_enter func290,ntmps290
 go_upto_region 9 with (first
  |(go_at_call 303;(with_reducible refine (C1.out _).mono ?_);rintro e w1 ⟨rfl,hb1⟩;obtain ⟨hc1_0,hf1_0,hz1_0⟩:=bcs hb1 (w.heap.size);obtain ⟨hc1_1,hf1_1,hz1_1⟩:=bcs hb1 (b))
  |(go_at_call 304;(with_reducible refine (C2.out _).mono ?_);rintro e w2 ⟨rfl,hb2⟩;obtain ⟨hc2_0,hf2_0,hz2_0⟩:=bcs hb2 (w.heap.size);obtain ⟨hc2_1,hf2_1,hz2_1⟩:=bcs hb2 (b)))
 have hv2:=HoldsG.later HV.out (show Below w.heap.size w w2 from bcq);have hs2:=fun c'=>HSUB.out w2 b o cap c' hcn hv2;have BR:Box w2 w.heap.size #[.int .i64 0,.int .i64 0,.int .i64 0,.string ⟨#[]⟩,.string ⟨#[]⟩,.bool false,.int .i64 0,.int .i64 0,.int .i64 0,.int .i64 0,.int .i64 0,.int .i64 0,.int .i64 0] 53:=((Box.new w _ _).later hb1).later hb2;have hbw:Below w.heap.size w w2:=bcq;have e2:=(hbw.cell (p:=⟨b,o+2,none⟩) hb).trans d2;have hbB:b<w2.heap.size:=by have:=hbw.size;omega
 have HS2:=kj hs2;have r1:(3:Int)≤(n:Int):=by omega
 clear hb1 hb2 hc1_0 hf1_0 hz1_0 hc1_1 hf1_1 hz1_1 hc2_0 hf2_0 hz2_0 hc2_1 hf2_1 hz2_1 d0 d1 d2 hs2 hv2 HSUB HV
 go_wp2_with (first
  |(go_at_call 305;refine (C3.out _ _ (HS2.out _)).mono ?_;rintro x w3 ⟨rfl,hb3⟩;have e3:=(hb3.cell (p:=⟨b,o+2,none⟩) hbB).trans e2;have hbC:b<w3.heap.size:=(by have:=hb3.size;omega))
  |(go_at_call 122;(with_reducible refine (C4.out _).mono ?_);rintro e w' ⟨rfl,rfl⟩))
 all_goals
  obtain ⟨W4,hW4⟩:∃ V,V=(w3.alloc (.cells #[.bool has,.int .i64 year,.int .i64 month,.int .i64 kk,.int .i64 wk,.int .i64 dd,.int .i64 sec,.int .i64 base] 51)).alloc (.cells #[.int .i64 0,.int .i64 0,.int .i64 0,.int .i64 0] 31):=⟨_,rfl⟩;have BE:Box W4 (w3.heap.size+1) #[.int .i64 0,.int .i64 0,.int .i64 0,.int .i64 0] 31:=by
   have:=Box.new (w3.alloc (.cells #[.bool has,.int .i64 year,.int .i64 month,.int .i64 kk,.int .i64 wk,.int .i64 dd,.int .i64 sec,.int .i64 base] 51)) #[.int .i64 0,.int .i64 0,.int .i64 0,.int .i64 0] 31;rw [World.size_alloc] at this;rw [hW4];exact this
  have BU:Box W4 w3.heap.size #[.bool has,.int .i64 year,.int .i64 month,.int .i64 kk,.int .i64 wk,.int .i64 dd,.int .i64 sec,.int .i64 base] 51:=by rw [hW4];exact (Box.new w3 _ _).old
  have BR4:Box W4 w.heap.size #[.int .i64 0,.int .i64 0,.int .i64 0,.string ⟨#[]⟩,.string ⟨#[]⟩,.bool false,.int .i64 0,.int .i64 0,.int .i64 0,.int .i64 0,.int .i64 0,.int .i64 0,.int .i64 0] 53:=by rw [hW4];exact ((BR.later hb3).old).old
  have hb4:Below w.heap.size w W4:=by rw [hW4];exact bcq
  have e4:=(hb4.cell (p:=⟨b,o+2,none⟩) hb).trans ((hbw.cell (p:=⟨b,o+2,none⟩) hb).symm.trans e2);have n1:w.heap.size<w3.heap.size:=(BR.later hb3).lt;rw [← hW4];clear hW4 hb3 e3 hbC e2 hbB BR;generalize w3.heap.size=qU at *
  go_loop [63] (fun i=>∃ k:Nat,k≤4∧i=.int .i64 k) (fun i=>4-(intOf i).toNat)
  case atStart=>exact ⟨0,Nat.zero_le _,rfl⟩
  case round=>
   obtain ⟨k,hk,rfl⟩:=hrel
   by_cases hlt:k<4
   ·have hk0:W4.cell? ⟨qU+1,k,none⟩=some (.int .i64 0):=by
     rw [BE.cell];rcases (by omega:k=0∨k=1∨k=2∨k=3) with rfl|rfl|rfl|rfl
     all_goals rfl
    have q5:(k:Int)<4:=by omega
    go_wp2;go_round
    case rel=>exact ⟨k+1,by omega,by go_num⟩
    case measure=>simp [intOf];omega
   ·obtain rfl:k=4:=by omega
    have cR:=BR4.cell;have cU:=BU.cell;have n2:qU≠w.heap.size:=by omega
    have n3:b≠w.heap.size:=by omega
    have fR:=BR4.free;have fU:=BU.free;have lR:=BR4.lt
    go_upto_region 16 with fail
    go_region
    go_wp2;refine bodyPost_ret (v:=.tuple #[.agg #[.int .i64 off,.int .i64 kind,.int .i64 save,.string rules,.string format,.bool has,.int .i64 year,.int .i64 month,.int .i64 kk,.int .i64 wk,.int .i64 dd,.int .i64 sec,.int .i64 base],.int .i64 0]) ?_ rfl ⟨rfl,?_⟩
    ·simp only [results,results290];go_simp
    ·exact bcq
end RRe
end
end Go.Proofs.YtgmfojgnjdpofaaGreatDoor
