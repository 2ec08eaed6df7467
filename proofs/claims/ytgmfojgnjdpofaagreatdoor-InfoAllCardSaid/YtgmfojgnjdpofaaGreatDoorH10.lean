import Derived.Test.YtgmfojgnjdpofaaGreatDoorH9
import Derived.Test.YtgmfojgnjdpofaaGreatDoorH2
namespace Go.Proofs.YtgmfojgnjdpofaaGreatDoor
open Go.Proofs.Tryz
open Go.RowKit NB
namespace RRule
open Fmt
theorem ClockRight (sec base:Int) (w:World):Calls prog 237 #[.agg #[.int .i64 sec,.int .i64 base]] w fun e w'=>e=.returned (.bool (Rul.clockRight sec base))∧Below w.heap.size w w':=by
 go_enter func237,ntmps237;go_wp2
 all_goals
  go_ret;refine ⟨ret_bool ?_,bcq⟩;unfold Rul.clockRight;rw [Bool.eq_iff_iff];simp only [decide_eq_true_eq,Bool.false_eq_true,false_iff] at *;omega
theorem byte_all {p:UInt8→Bool} (h:∀ n:Fin 256,p (UInt8.ofNat n.val)=true) (c:UInt8):p c=true:=by
 have:=h ⟨c.toNat,c.toNat_lt⟩
 simpa using this
theorem wset_iff (c:UInt8):wset.contains c=true↔((65≤(c.toNat:Int)∧(c.toNat:Int)≤90)∨(97≤(c.toNat:Int)∧(c.toNat:Int)≤122)∨(48≤(c.toNat:Int)∧(c.toNat:Int)≤57)∨(c.toNat:Int)=43∨(c.toNat:Int)=45):=by
 have:=byte_all (p:=fun c=>wset.contains c==decide ((65≤(c.toNat:Int)∧(c.toNat:Int)≤90)∨(97≤(c.toNat:Int)∧(c.toNat:Int)≤122)∨(48≤(c.toNat:Int)∧(c.toNat:Int)≤57)∨(c.toNat:Int)=43∨(c.toNat:Int)=45)) (by decide +kernel) c;rw [beq_iff_eq] at this;rw [this,decide_eq_true_eq]
theorem first_iff (c:UInt8):Nam.okFirst c=true↔((65≤(c.toNat:Int)∧(c.toNat:Int)≤90)∨(97≤(c.toNat:Int)∧(c.toNat:Int)≤122)∨(c.toNat:Int)=95):=by
 have:=byte_all (p:=fun c=>Nam.okFirst c==decide ((65≤(c.toNat:Int)∧(c.toNat:Int)≤90)∨(97≤(c.toNat:Int)∧(c.toNat:Int)≤122)∨(c.toNat:Int)=95)) (by decide +kernel) c;rw [beq_iff_eq] at this;rw [this,decide_eq_true_eq]
theorem other_iff (c:UInt8):Nam.okOther c=true↔((48≤(c.toNat:Int)∧(c.toNat:Int)≤57)∨(c.toNat:Int)=45∨(c.toNat:Int)=43∨(c.toNat:Int)=47∨(c.toNat:Int)=46):=by
 have:=byte_all (p:=fun c=>Nam.okOther c==decide ((48≤(c.toNat:Int)∧(c.toNat:Int)≤57)∨(c.toNat:Int)=45∨(c.toNat:Int)=43∨(c.toNat:Int)=47∨(c.toNat:Int)=46)) (by decide +kernel) c;rw [beq_iff_eq] at this;rw [this,decide_eq_true_eq]
set_option maxHeartbeats 800000 in
theorem letter (c:UInt8) (w:World):Calls prog 184 #[.int .u8 (c.toNat:Int)] w fun e w'=>e=.returned (.bool (wset.contains c))∧w=w':=by
 have hi:=wset_iff c;generalize wset.contains c=b at *;have hc:0≤(c.toNat:Int)∧(c.toNat:Int)≤255:=by have:=c.toNat_lt;omega
 generalize (c.toNat:Int)=n at *;have Hi:=kj hi;clear hi;go_enter func184,ntmps184;go_wp2
 all_goals
  go_ret;refine ⟨ret_bool ?_,rfl⟩;rw [Bool.eq_iff_iff,Hi.out]
  try simp only [beq_iff_eq,decide_eq_true_eq,true_iff,Bool.or_eq_true] at *
  omega
theorem ret_si {a a':ByteArray} {b b':Int} (h:a'=a) (h2:b'=b):Ending.returned (.tuple #[.string a,.int .i64 b])=.returned (.tuple #[.string a',.int .i64 b']):=by rw [h,h2]
theorem word_false {s:ByteArray} {k:Nat} {c:UInt8} (h:s.data.toList[k]? =some c) (hc:wset.contains c=false):wordB s=false:=by
 unfold wordB;rw [Bool.eq_false_iff];intro ha;have:=List.all_eq_true.1 ha c (List.mem_of_getElem? h);rw [hc] at this;cases this
def Wd (s:ByteArray) (k:Nat):Prop:=((s.data.toList.take k).all (wset.contains ·))=true
theorem Wd.succ {s:ByteArray} {k:Nat} {c:UInt8} (h:Wd s k) (hc:s.data.toList[k]? =some c) (h2:wset.contains c=true):Wd s (k+1):=by
 unfold Wd at *;rw [List.take_add_one,hc,List.all_append,h];simp
 simpa using h2
theorem Wd.fin {s:ByteArray} (h:Wd s s.size):wordB s=true:=by
 unfold Wd at h
 rwa [List.take_of_length_le (by simp)] at h
theorem byte_at {s:ByteArray} {k:Nat} (h:k<s.size):s.data.toList[k]? =some s[k]:=by
 rw [Array.getElem?_toList];exact Array.getElem?_eq_getElem h
set_option maxHeartbeats 1600000 in
theorem Letter (s:ByteArray) (hs:s.size≤9223372036854775807) (w:World):Calls prog 250 #[.string s] w fun e w'=>e=.returned (.tuple #[.string (letS s),.int .i64 (letE s)])∧Below w.heap.size w w':=by
 by_cases h1:s.toList=[45]
 ·have e1:(s.toList==[45])=true:=by simp [h1]
  have hS:letS s=⟨#[]⟩:=by unfold letS;rw [if_pos (.inl h1)]
  have hE:letE s=0:=by unfold letE;rw [if_pos h1]
  rw [hS,hE];clear hS hE;clear h1;go_enter func250,ntmps250;go_wp2;go_ret2;exact ⟨rfl,Below.refl _ _⟩
 ·have e1:(s.toList==[45])=false:=by simp [h1]
  by_cases h2:6<s.size
  ·have hS:letS s=⟨#[]⟩:=by unfold letS;rw [if_pos (.inr (.inl h2))]
   have hE:letE s=9:=by unfold letE;rw [if_neg h1,if_pos h2]
   rw [hS,hE];clear hS hE;clear h1;go_enter func250,ntmps250;go_wp2;go_ret2;exact ⟨rfl,Below.refl _ _⟩
  ·have H1:=kj h1;clear h1;go_enter func250,ntmps250;go_wp2
   go_loop [4] (fun i=>∃ k:Nat,k≤s.size∧i=.int .i64 k∧Wd s k) (fun i=>s.size-(intOf i).toNat)
   case atStart=>exact ⟨0,Nat.zero_le _,rfl,rfl⟩
   case round=>
    obtain ⟨k,hk,rfl,hw⟩:=hrel
    by_cases hlt:k<s.size
    ·have hc:=byte_at hlt;have cl:=fun W=>letter s[k] W;cases hL:wset.contains s[k]
     ·rw [hL] at cl;have Cl:=kj cl;have hwf:=kj (word_false hc hL);clear cl hL hc
      go_wp2_with (go_at_call 184;(with_reducible refine (Cl.out _).mono ?_);rintro e w' ⟨rfl,rfl⟩)
      go_ret2;refine ⟨?_,Below.refl _ _⟩;exact ret_si (by unfold letS;rw [if_pos (.inr (.inr (.inr hwf.out)))]) (by unfold letE;rw [if_neg H1.out,if_neg h2,if_pos (.inr hwf.out)])
     ·rw [hL] at cl;have Cl:=kj cl;have hws:=kj (hw.succ hc hL);clear cl hL hc hw
      go_wp2_with (go_at_call 184;(with_reducible refine (Cl.out _).mono ?_);rintro e w' ⟨rfl,rfl⟩)
      go_round
      case rel=>exact ⟨k+1,by omega,by go_num,hws.out⟩
      case measure=>simp [intOf];omega
    ·obtain rfl:k=s.size:=by omega
     have hwt:=kj hw.fin;clear hw
     by_cases h3:s.toList=[]
     ·have e3:s.toList.isEmpty=true:=by simp [h3]
      have H3:=kj h3;clear h3;go_wp2;go_ret2;refine ⟨?_,Below.refl _ _⟩;exact ret_si (by unfold letS;rw [if_pos (.inr (.inr (.inl H3.out)))]) (by unfold letE;rw [if_neg H1.out,if_neg h2,if_pos (.inl H3.out)])
     ·have e3:s.toList.isEmpty=false:=by simp [h3]
      have H3:=kj h3;clear h3;go_wp2;go_ret2;refine ⟨?_,Below.refl _ _⟩;exact ret_si (by unfold letS;rw [if_neg (by rw [hwt.out];intro h;rcases h with h|h|h|h<;>first|exact H1.out h|exact h2 h|exact H3.out h|cases h)]) (by unfold letE;rw [if_neg H1.out,if_neg h2,if_neg (by rw [hwt.out];intro h;rcases h with h|h<;>first|exact H3.out h|cases h)])
set_option maxHeartbeats 800000 in
theorem LetterText (s:ByteArray) (hs:s.size≤9223372036854775807) (w:World):Calls prog 201 #[.string s] w fun e w'=>e=.returned (.tuple #[.string (ltext s),.int .i64 (if letterOK s then 0 else 4)])∧Below w.heap.size w w':=by
 unfold ltext
 by_cases h1:s.toList=[]
 ·have e1:s.toList.isEmpty=true:=by simp [h1]
  have e2:letterOK s=true:=by unfold letterOK;simp [h1]
  rw [if_pos h1,e2];clear h1 e2;go_enter func201,ntmps201;go_wp2;go_ret2;exact ⟨rfl,Below.refl _ _⟩
 ·have e1:s.toList.isEmpty=false:=by simp [h1]
  rw [if_neg h1];have hk:=letter_ok h1;cases h4:letterOK s
  ·by_cases h5:letE s=0
   ·have h6:s.toList=[45]:=by
     by_cases h6:s.toList=[45]
     ·exact h6
     ·exact absurd (hk.2 ⟨h5,h6⟩) (by rw [h4];simp)
    have h7:letS s=⟨#[]⟩:=by unfold letS;rw [if_pos (.inl h6)]
    have h8:(([]:List UInt8)==s.toList)=false:=by simp [h6]
    have H5:=kj h5;have H7:=kj h7;clear hk h4 h5 h6 h7 h1;go_enter func201,ntmps201
    go_wp2_with (go_at_call 250;refine (Letter _ (by omega) _).mono ?_;rw [H5.out,H7.out];rintro e w' ⟨rfl,hB⟩)
    go_ret2;exact ⟨rfl,hB⟩
   ·have h6:(letE s != 0)=true:=by simp [h5]
    have h6':(letE s==0)=false:=by simp [h5]
    clear hk h4 h5 h1;go_enter func201,ntmps201
    go_wp2_with (go_at_call 250;refine (Letter _ (by omega) _).mono ?_;rintro e w' ⟨rfl,hB⟩)
    go_ret2;exact ⟨rfl,hB⟩
  ·obtain ⟨h5,h6⟩:=hk.1 h4;have h7:letS s=s:=by
    unfold letS;unfold letE at h5;rw [if_neg h6] at h5;rw [if_neg];rintro (h|h|h|h)
    ·exact h6 h
    ·rw [if_pos h] at h5;cases h5
    ·exact h1 h
    ·by_cases h2:6<s.size
     ·rw [if_pos h2] at h5;cases h5
     ·rw [if_neg h2,if_pos (.inr h)] at h5;cases h5
   have H5:=kj h5;have H7:=kj h7;clear hk h4 h5 h6 h7 h1;go_enter func201,ntmps201
   go_wp2_with (go_at_call 250;refine (Letter _ (by omega) _).mono ?_;rw [H5.out,H7.out];rintro e w' ⟨rfl,hB⟩)
   go_ret2;exact ⟨rfl,hB⟩
def Nd (s:ByteArray) (k:Nat):Prop:=(List.range k).all (Nam.okAt s.data.toList)=true
theorem Nd.succ {s:ByteArray} {k:Nat} (h:Nd s k) (h2:Nam.okAt s.data.toList k=true):Nd s (k+1):=Nam.all_succ h h2
theorem okAt_bytes {s:ByteArray} {k:Nat} {c:UInt8} (h:s.data.toList[k]? =some c):
 Nam.okAt s.data.toList k=true↔((65≤(c.toNat:Int)∧(c.toNat:Int)≤90)∨(97≤(c.toNat:Int)∧(c.toNat:Int)≤122)∨(c.toNat:Int)=95)∨(0<(k:Int)∧((48≤(c.toNat:Int)∧(c.toNat:Int)≤57)∨(c.toNat:Int)=45∨(c.toNat:Int)=43∨(c.toNat:Int)=47∨(c.toNat:Int)=46)):=by
 unfold Nam.okAt;rw [h];simp only [Bool.or_eq_true,Bool.and_eq_true,decide_eq_true_eq,first_iff,other_iff];omega
set_option maxRecDepth 100000 in
set_option maxHeartbeats 3200000 in
theorem Name (s:ByteArray) (hm:s.size≤9223372036854775807) (w:World):Calls prog 175 #[.string s] w fun e w'=>e=.returned (.int .i64 (Nam.nameE s))∧w=w':=by
 unfold Nam.nameE
 by_cases h:64<s.size
 ·rw [if_pos h];go_enter func175,ntmps175;go_wp2;go_ret;exact ⟨rfl,rfl⟩
 ·rw [if_neg h];have hlen:s.data.toList.length=s.size:=by simp
  have Hlen:=kj hlen;clear hlen;go_enter func175,ntmps175;go_wp2
  go_loop [3] (fun i=>∃ k:Nat,k≤s.size∧i=.int .i64 k∧Nd s k) (fun i=>s.size-(intOf i).toNat)
  case atStart=>exact ⟨0,Nat.zero_le _,rfl,rfl⟩
  case round=>
   obtain ⟨k,hk,rfl,hall⟩:=hrel;have Hall:=kj hall;clear hall
   by_cases hlt:k<s.size
   ·have hc:=byte_at hlt;have hiff:=kj (okAt_bytes hc);have hcb:0≤(s[k].toNat:Int)∧(s[k].toNat:Int)<256:=by have:=s[k].toNat_lt;omega
    clear hc;go_wp2
    all_goals
     first
      |(go_round
        case rel=>
         refine ⟨k+1,by omega,by go_num,Nd.succ Hall.out (hiff.out.2 ?_)⟩
         try simp only [beq_iff_eq,beq_eq_false_iff_ne,ne_eq,decide_eq_true_eq,Bool.not_eq_false'] at *
         omega
        case measure=>simp [intOf];omega)
      |(go_ret
        refine ⟨ret_int ?_,rfl⟩;unfold Nam.nameR;rw [Nam.not_all (k:=k) (by rw [Hlen.out];exact hlt) (by
         rw [hiff.out]
         try simp only [beq_iff_eq,beq_eq_false_iff_ne,ne_eq,decide_eq_false_iff_not,Bool.not_eq_true'] at *
         omega)]
        rfl)
      |(have hk0:k=0:=by assumption
        subst hk0;exfalso
        try simp only at *
        omega)
   ·have hks:k=s.size:=by omega
    have hfin:Nam.okAll s.data.toList=true:=by
     unfold Nam.okAll;rw [Hlen.out, ←hks];exact Hall.out
    have Hfin:=kj hfin;clear hfin hks
    by_cases he:s.toList=[]
    ·have e1:s.toList.isEmpty=true:=by simp [he]
     have e2:s.data.toList=[]:=by rw [← ByteArray.toList_eq];exact he
     have E2:=kj e2;clear e2 he;go_wp2;go_ret;refine ⟨ret_int ?_,rfl⟩;unfold Nam.nameR;rw [if_pos Hfin.out,if_pos E2.out]
    ·have e1:s.toList.isEmpty=false:=by simp [he]
     have e2:¬s.data.toList=[]:=by rw [← ByteArray.toList_eq];exact he
     have E2:=kj e2;clear e2 he;go_wp2;go_ret;refine ⟨ret_int ?_,rfl⟩;unfold Nam.nameR;rw [if_pos Hfin.out,if_neg E2.out]
theorem right_eq (r:RuleV):Rul.right r=((Nam.nameE r.name==0)&&decide (-32767≤r.fr)&&decide (r.fr≤r.to)&&decide (r.to≤32767)&&Day.fits r.kind r.week r.day r.month&&Rul.clockRight r.sec r.base&&decide (-10800≤r.save)&&decide (r.save≤10800)&&(Rul.letErr r.letter==0)):=by
 unfold Rul.right Rul.toErr Rul.frErr Rul.may Rul.saves;generalize (Nam.nameE r.name==0)=b1;generalize Day.fits r.kind r.week r.day r.month=b2;generalize Rul.clockRight r.sec r.base=b3;generalize (Rul.letErr r.letter==0)=b4;generalize r.fr=f;generalize r.to=t;generalize r.save=s;rw [Bool.eq_iff_iff]
 by_cases a1: -32767≤t
 ·by_cases a2:t≤32767
  ·by_cases a3: -32767≤f
   ·by_cases a4:f≤32767
    ·by_cases a5:t<f
     ·have:¬f≤t:=by omega
      simp [a1,a2,a3,a4,a5,this]
     ·have:f≤t:=by omega
      simp [a1,a2,a3,a4,a5,this]
      constructor
      ·rintro ⟨⟨⟨⟨h1,h2⟩,h3⟩,h4⟩,h5⟩;simp_all
      ·rintro ⟨⟨⟨⟨h1,h2⟩,h3⟩,h4⟩,h5⟩;simp_all
    ·have:¬f≤t:=by omega
     simp [a1,a2,a3,a4,this]
   ·simp [a1,a2,a3]
  ·simp [a1,a2]
 ·have:¬(-32767≤f∧f≤t):=by omega
  simp [a1];intro _ h1 h2;omega
set_option maxHeartbeats 6400000 in
theorem Right (r:RuleV) (hr:r.Fit) (w:World):Calls prog 194 #[.agg r.cells.toArray] w fun e w'=>e=.returned (.bool (Rul.right r))∧Below w.heap.size w w':=by
 obtain ⟨hn,hl,_,_,_,_⟩:=hr;have cn:=Name r.name hn;have cl:=LetterText r.letter hl;have cf:=RDay.Fits r.kind r.week r.day r.month;have cc:=ClockRight r.sec r.base;rw [right_eq];rw [show (if letterOK r.letter then (0:Int) else 4)=Rul.letErr r.letter from rfl] at cl;unfold RuleV.cells;generalize Nam.nameE r.name=ne at *;generalize Rul.letErr r.letter=le at *;generalize ltext r.letter=lt at *;have Cn:=kj cn;have Cl:=kj cl;clear cn cl;cases h1:(ne==0)
 case false=>
  have Cf:=kj cf;have Cc:=kj cc;clear cf cc;simp only [Bool.false_and];go_enter func194,ntmps194
  go_wp2_with (first
   |(go_at_call 201;(with_reducible refine (Cl.out _).mono ?_);rintro e w1 ⟨rfl,hb1⟩;obtain ⟨hc1_0,hf1_0,hz1_0⟩:=bcs hb1 (w.heap.size))
   |(go_at_call 175;(with_reducible refine (Cn.out _).mono ?_);rintro e w' ⟨rfl,rfl⟩)
   |(go_at_call 236;(with_reducible refine (Cf.out _).mono ?_);rintro e w2 ⟨rfl,hb2⟩;obtain ⟨hc2_0,hf2_0,hz2_0⟩:=bcs hb2 (w.heap.size))
   |(go_at_call 237;(with_reducible refine (Cc.out _).mono ?_);rintro e w3 ⟨rfl,hb3⟩;obtain ⟨hc3_0,hf3_0,hz3_0⟩:=bcs hb3 (w.heap.size)))
  go_ret;exact ⟨rfl,bcq⟩
 by_cases h2: -32767≤r.fr
 case neg=>
  rw [decide_eq_false h2];simp only [Bool.false_and,Bool.and_false];go_enter func194,ntmps194
  go_wp2_with (first
   |(go_at_call 201;(with_reducible refine (Cl.out _).mono ?_);rintro e w1 ⟨rfl,hb1⟩;obtain ⟨hc1_0,hf1_0,hz1_0⟩:=bcs hb1 (w.heap.size))
   |(go_at_call 175;(with_reducible refine (Cn.out _).mono ?_);rintro e w' ⟨rfl,rfl⟩)
   |(go_at_call 236;(with_reducible refine (Cf.out _).mono ?_);rintro e w2 ⟨rfl,hb2⟩;obtain ⟨hc2_0,hf2_0,hz2_0⟩:=bcs hb2 (w.heap.size))
   |(go_at_call 237;(with_reducible refine (Cc.out _).mono ?_);rintro e w3 ⟨rfl,hb3⟩;obtain ⟨hc3_0,hf3_0,hz3_0⟩:=bcs hb3 (w.heap.size)))
  go_ret;exact ⟨rfl,bcq⟩
 rw [decide_eq_true h2]
 by_cases h3:r.fr≤r.to
 case neg=>
  rw [decide_eq_false h3];simp only [Bool.false_and,Bool.and_false,Bool.and_true];go_enter func194,ntmps194
  go_wp2_with (first
   |(go_at_call 201;(with_reducible refine (Cl.out _).mono ?_);rintro e w1 ⟨rfl,hb1⟩;obtain ⟨hc1_0,hf1_0,hz1_0⟩:=bcs hb1 (w.heap.size))
   |(go_at_call 175;(with_reducible refine (Cn.out _).mono ?_);rintro e w' ⟨rfl,rfl⟩)
   |(go_at_call 236;(with_reducible refine (Cf.out _).mono ?_);rintro e w2 ⟨rfl,hb2⟩;obtain ⟨hc2_0,hf2_0,hz2_0⟩:=bcs hb2 (w.heap.size))
   |(go_at_call 237;(with_reducible refine (Cc.out _).mono ?_);rintro e w3 ⟨rfl,hb3⟩;obtain ⟨hc3_0,hf3_0,hz3_0⟩:=bcs hb3 (w.heap.size)))
  go_ret;exact ⟨rfl,bcq⟩
 rw [decide_eq_true h3]
 by_cases h4:r.to≤32767
 case neg=>
  rw [decide_eq_false h4];simp only [Bool.false_and,Bool.and_false,Bool.and_true];go_enter func194,ntmps194
  go_wp2_with (first
   |(go_at_call 201;(with_reducible refine (Cl.out _).mono ?_);rintro e w1 ⟨rfl,hb1⟩;obtain ⟨hc1_0,hf1_0,hz1_0⟩:=bcs hb1 (w.heap.size))
   |(go_at_call 175;(with_reducible refine (Cn.out _).mono ?_);rintro e w' ⟨rfl,rfl⟩)
   |(go_at_call 236;(with_reducible refine (Cf.out _).mono ?_);rintro e w2 ⟨rfl,hb2⟩;obtain ⟨hc2_0,hf2_0,hz2_0⟩:=bcs hb2 (w.heap.size))
   |(go_at_call 237;(with_reducible refine (Cc.out _).mono ?_);rintro e w3 ⟨rfl,hb3⟩;obtain ⟨hc3_0,hf3_0,hz3_0⟩:=bcs hb3 (w.heap.size)))
  go_ret;exact ⟨rfl,bcq⟩
 rw [decide_eq_true h4];cases h5:Day.fits r.kind r.week r.day r.month
 case false=>
  rw [h5] at cf;have Cf:=kj cf;clear cf h5;have Cc:=kj cc;clear cc;simp only [Bool.false_and,Bool.and_false,Bool.and_true];go_enter func194,ntmps194
  go_wp2_with (first
   |(go_at_call 201;(with_reducible refine (Cl.out _).mono ?_);rintro e w1 ⟨rfl,hb1⟩;obtain ⟨hc1_0,hf1_0,hz1_0⟩:=bcs hb1 (w.heap.size))
   |(go_at_call 175;(with_reducible refine (Cn.out _).mono ?_);rintro e w' ⟨rfl,rfl⟩)
   |(go_at_call 236;(with_reducible refine (Cf.out _).mono ?_);rintro e w2 ⟨rfl,hb2⟩;obtain ⟨hc2_0,hf2_0,hz2_0⟩:=bcs hb2 (w.heap.size))
   |(go_at_call 237;(with_reducible refine (Cc.out _).mono ?_);rintro e w3 ⟨rfl,hb3⟩;obtain ⟨hc3_0,hf3_0,hz3_0⟩:=bcs hb3 (w.heap.size)))
  go_ret;exact ⟨rfl,bcq⟩
 rw [h5] at cf;have Cf:=kj cf;clear cf h5;cases h6:Rul.clockRight r.sec r.base
 case false=>
  rw [h6] at cc;have Cc:=kj cc;clear cc h6;simp only [Bool.false_and,Bool.and_false,Bool.and_true];go_enter func194,ntmps194
  go_wp2_with (first
   |(go_at_call 201;(with_reducible refine (Cl.out _).mono ?_);rintro e w1 ⟨rfl,hb1⟩;obtain ⟨hc1_0,hf1_0,hz1_0⟩:=bcs hb1 (w.heap.size))
   |(go_at_call 175;(with_reducible refine (Cn.out _).mono ?_);rintro e w' ⟨rfl,rfl⟩)
   |(go_at_call 236;(with_reducible refine (Cf.out _).mono ?_);rintro e w2 ⟨rfl,hb2⟩;obtain ⟨hc2_0,hf2_0,hz2_0⟩:=bcs hb2 (w.heap.size))
   |(go_at_call 237;(with_reducible refine (Cc.out _).mono ?_);rintro e w3 ⟨rfl,hb3⟩;obtain ⟨hc3_0,hf3_0,hz3_0⟩:=bcs hb3 (w.heap.size)))
  go_ret;exact ⟨rfl,bcq⟩
 rw [h6] at cc;have Cc:=kj cc;clear cc h6
 by_cases h7: -10800≤r.save
 case neg=>
  rw [decide_eq_false h7];simp only [Bool.false_and,Bool.and_false,Bool.and_true];go_enter func194,ntmps194
  go_wp2_with (first
   |(go_at_call 201;(with_reducible refine (Cl.out _).mono ?_);rintro e w1 ⟨rfl,hb1⟩;obtain ⟨hc1_0,hf1_0,hz1_0⟩:=bcs hb1 (w.heap.size))
   |(go_at_call 175;(with_reducible refine (Cn.out _).mono ?_);rintro e w' ⟨rfl,rfl⟩)
   |(go_at_call 236;(with_reducible refine (Cf.out _).mono ?_);rintro e w2 ⟨rfl,hb2⟩;obtain ⟨hc2_0,hf2_0,hz2_0⟩:=bcs hb2 (w.heap.size))
   |(go_at_call 237;(with_reducible refine (Cc.out _).mono ?_);rintro e w3 ⟨rfl,hb3⟩;obtain ⟨hc3_0,hf3_0,hz3_0⟩:=bcs hb3 (w.heap.size)))
  go_ret;exact ⟨rfl,bcq⟩
 rw [decide_eq_true h7]
 by_cases h8:r.save≤10800
 case neg=>
  rw [decide_eq_false h8];simp only [Bool.false_and,Bool.and_false,Bool.and_true];go_enter func194,ntmps194
  go_wp2_with (first
   |(go_at_call 201;(with_reducible refine (Cl.out _).mono ?_);rintro e w1 ⟨rfl,hb1⟩;obtain ⟨hc1_0,hf1_0,hz1_0⟩:=bcs hb1 (w.heap.size))
   |(go_at_call 175;(with_reducible refine (Cn.out _).mono ?_);rintro e w' ⟨rfl,rfl⟩)
   |(go_at_call 236;(with_reducible refine (Cf.out _).mono ?_);rintro e w2 ⟨rfl,hb2⟩;obtain ⟨hc2_0,hf2_0,hz2_0⟩:=bcs hb2 (w.heap.size))
   |(go_at_call 237;(with_reducible refine (Cc.out _).mono ?_);rintro e w3 ⟨rfl,hb3⟩;obtain ⟨hc3_0,hf3_0,hz3_0⟩:=bcs hb3 (w.heap.size)))
  go_ret;exact ⟨rfl,bcq⟩
 rw [decide_eq_true h8];cases h9:(le==0)
 case false=>
  simp only [Bool.and_false,Bool.and_true];go_enter func194,ntmps194
  go_wp2_with (first
   |(go_at_call 201;(with_reducible refine (Cl.out _).mono ?_);rintro e w1 ⟨rfl,hb1⟩;obtain ⟨hc1_0,hf1_0,hz1_0⟩:=bcs hb1 (w.heap.size))
   |(go_at_call 175;(with_reducible refine (Cn.out _).mono ?_);rintro e w' ⟨rfl,rfl⟩)
   |(go_at_call 236;(with_reducible refine (Cf.out _).mono ?_);rintro e w2 ⟨rfl,hb2⟩;obtain ⟨hc2_0,hf2_0,hz2_0⟩:=bcs hb2 (w.heap.size))
   |(go_at_call 237;(with_reducible refine (Cc.out _).mono ?_);rintro e w3 ⟨rfl,hb3⟩;obtain ⟨hc3_0,hf3_0,hz3_0⟩:=bcs hb3 (w.heap.size)))
  go_ret;exact ⟨rfl,bcq⟩
 simp only [Bool.and_true];go_enter func194,ntmps194
 go_wp2_with (first
  |(go_at_call 201;(with_reducible refine (Cl.out _).mono ?_);rintro e w1 ⟨rfl,hb1⟩;obtain ⟨hc1_0,hf1_0,hz1_0⟩:=bcs hb1 (w.heap.size))
  |(go_at_call 175;(with_reducible refine (Cn.out _).mono ?_);rintro e w' ⟨rfl,rfl⟩)
  |(go_at_call 236;(with_reducible refine (Cf.out _).mono ?_);rintro e w2 ⟨rfl,hb2⟩;obtain ⟨hc2_0,hf2_0,hz2_0⟩:=bcs hb2 (w.heap.size))
  |(go_at_call 237;(with_reducible refine (Cc.out _).mono ?_);rintro e w3 ⟨rfl,hb3⟩;obtain ⟨hc3_0,hf3_0,hz3_0⟩:=bcs hb3 (w.heap.size)))
 go_ret;exact ⟨rfl,bcq⟩
end RRule
end Go.Proofs.YtgmfojgnjdpofaaGreatDoor
