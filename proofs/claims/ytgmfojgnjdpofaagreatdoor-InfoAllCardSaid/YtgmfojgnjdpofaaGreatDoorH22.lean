import Derived.Test.YtgmfojgnjdpofaaGreatDoorH20
import Derived.Test.YtgmfojgnjdpofaaGreatDoorH21
import Derived.Test.YtgmfojgnjdpofaaGreatDoorH11
import Derived.Test.YtgmfojgnjdpofaaGreatDoorH14
import Derived.Test.YtgmfojgnjdpofaaGreatDoorH18
import Derived.Test.YtgmfojgnjdpofaaGreatDoorH15
namespace Go.Proofs.YtgmfojgnjdpofaaGreatDoor
open Go.Proofs.Tryz
section
open Go.RowKit NB
namespace Rd
open RWd RLi
def CleanB (k:Nat) (s:ByteArray):Prop:=Clean s.data.toList∧s.size≤k
theorem CleanB.up {k j:Nat} {s:ByteArray} (h:CleanB k s) (hk:k≤j):CleanB j s:=⟨h.1,Nat.le_trans h.2 hk⟩
theorem clean_ofL {l:Bs} (h:Clean l) {k:Nat} (hk:l.length≤k):CleanB k (ofL l):=⟨by rw [ofL_list];exact h,by rw [ofL_size];exact hk⟩
def cleanT (k:Nat) (s:ByteArray):Bool:=decide (s.data.toList≠[])&&(s.data.toList.all (fun c=>decide (36≤c.toNat∧c.toNat≤126))&&decide (s.size≤k))
theorem cleanT_of {k:Nat} {s:ByteArray} (h:cleanT k s=true):CleanB k s:=by
 unfold cleanT at h;simp only [Bool.and_eq_true,decide_eq_true_eq,List.all_eq_true] at h;exact ⟨⟨h.1,h.2.1⟩,h.2.2⟩
theorem clean_from {y:Int} (h0: -32767≤y) (h1:y≤32767):CleanB 20 (textFrom y):=by
 unfold textFrom
 split
 ·exact cleanT_of (by decide)
 ·exact clean_ofL (clean_textN y) (Nat.le_trans (textN_len (by omega) (by omega)) (by decide))
theorem clean_to {fr y:Int} (h0: -32767≤y) (h1:y≤32767):CleanB 20 (textTo fr y):=by
 unfold textTo
 split
 ·exact cleanT_of (by decide)
 ·split
  ·exact cleanT_of (by decide)
  ·exact clean_ofL (clean_textN y) (Nat.le_trans (textN_len (by omega) (by omega)) (by decide))
theorem clean_month {m:Int} (h0:1≤m) (h1:m≤12):CleanB 20 (textM m):=by
 rcases (by omega:m=1∨m=2∨m=3∨m=4∨m=5∨m=6∨m=7∨m=8∨m=9∨m=10∨m=11∨m=12) with rfl|rfl|rfl|rfl|rfl|rfl|rfl|rfl|rfl|rfl|rfl|rfl
 all_goals exact cleanT_of (by decide +kernel)
theorem all_on2:((List.range 4).all fun k=>(List.range 7).all fun w=>(List.range 32).all fun d=> !(rightOn ⟨k,w,d⟩)||cleanT 20 (textOn ⟨k,w,d⟩))=true:=by decide +kernel
theorem on_range {k w d:Int} (h:rightOn ⟨k,w,d⟩=true):0≤k∧k<4∧0≤w∧w<7∧0≤d∧d<32:=by
 unfold rightOn at h;dsimp only at h
 split at h
 ·have:=of_decide_eq_true h;omega
 ·split at h
  ·have:=of_decide_eq_true h;omega
  ·split at h
   ·have:=of_decide_eq_true h;omega
   ·cases h
theorem clean_on {o:OnV} (h:rightOn o=true):CleanB 20 (textOn o):=by
 obtain ⟨k,w,d⟩:=o;have hk:=on_range h;obtain ⟨a,rfl⟩:∃ n:Nat,(n:Int)=k:=⟨k.toNat,by omega⟩;obtain ⟨b,rfl⟩:∃ n:Nat,(n:Int)=w:=⟨w.toNat,by omega⟩;obtain ⟨c,rfl⟩:∃ n:Nat,(n:Int)=d:=⟨d.toNat,by omega⟩;have h1:=List.all_eq_true.1 all_on2 a (List.mem_range.2 (by omega));have h2:=List.all_eq_true.1 h1 b (List.mem_range.2 (by omega));have h3:=List.all_eq_true.1 h2 c (List.mem_range.2 (by omega));rw [h] at h3;exact cleanT_of (by simpa using h3)
theorem clean_app {a b:Bs} (ha:Clean a) (hb:∀ c∈b,36≤c.toNat∧c.toNat≤126):Clean (a++b):=
 ⟨fun h=>ha.1 (List.append_eq_nil_iff.1 h).1,fun c hc=>by
   rcases List.mem_append.1 hc with h|h
   ·exact ha.2 c h
   ·exact hb c h⟩
theorem textAt_l (a:AtV):textAt a=ofL (textA a.sec++(letterAt a.base).data.toList):=by
 unfold textAt;rw [← ofL_app,ofL_self]
theorem clean_at {a:AtV} (h0:0≤a.sec) (h1:a.sec≤172800):CleanB 20 (textAt a):=by
 rw [textAt_l];have hl:=textA_len (n:=a.sec) (by omega) (by omega);have hb:(letterAt a.base).data.toList.length≤1∧∀ c∈(letterAt a.base).data.toList,36≤c.toNat∧c.toNat≤126:=by
  unfold letterAt
  split
  ·decide
  ·split
   ·decide
   ·decide
 exact clean_ofL (clean_app (clean_textA _) hb.2) (by rw [List.length_append];omega)
theorem clean_amount {n:Int} (h0: -604800<n) (h1:n<604800):CleanB 20 (ofL (textA n)):=clean_ofL (clean_textA n) (Nat.le_trans (textA_len h0 h1) (by decide))
theorem clean_all {l:Bs} {p:UInt8→Bool} (hp:((List.range 256).all fun n=> !(p (UInt8.ofNat n))||decide (36≤n∧n≤126))=true) (h:∀ c∈l,p c=true) (h0:l≠[]):Clean l:=
 ⟨h0,fun c hc=>by
   have:=List.all_eq_true.1 hp c.toNat (List.mem_range.2 c.toNat_lt);rw [UInt8.ofNat_toNat,h c hc] at this
   simpa using this⟩
theorem clean_name {s:ByteArray} (h:Nam.nameE s=0):CleanB 64 s:=by
 unfold Nam.nameE at h
 by_cases h1:64<s.size
 ·rw [if_pos h1] at h;omega
 ·rw [if_neg h1] at h;unfold Nam.nameR at h
  by_cases h2:Nam.okAll s.data.toList=true
  ·rw [if_pos h2] at h
   by_cases h3:s.data.toList=[]
   ·rw [if_pos h3] at h;omega
   ·refine ⟨clean_all (p:=fun c=>Nam.okFirst c||Nam.okOther c) (by decide +kernel) (fun c hc=> ?_) h3,by omega⟩;obtain ⟨j,hj⟩:=List.mem_iff_getElem?.1 hc;have hlt:j<s.data.toList.length:=(List.getElem?_eq_some_iff.1 hj).1;have:=List.all_eq_true.1 h2 j (List.mem_range.2 hlt);unfold Nam.okAt at this;rw [hj] at this;dsimp only at this ⊢;cases hf:Nam.okFirst c with
    |true=>rfl
    |false=>
     rw [hf,Bool.false_or,Bool.and_eq_true] at this;rw [this.2];rfl
  ·rw [if_neg h2] at h;omega
theorem clean_format {s:ByteArray} (h:Fmt.checkE s=0):CleanB 16 s:=by
 have h16:¬16<s.size:=fun h1=>by unfold Fmt.checkE at h;rw [if_pos h1] at h;omega
 have ha:Fmt.allow s.data.toList=true:=by
  cases ha:Fmt.allow s.data.toList with
  |true=>rfl
  |false=>rw [RFmt.check_no h16 ha] at h;omega
 have h0:s.data.toList≠[]:=fun e=>by
  have e2:s=⟨#[]⟩:=by rw [← ofL_self s,e];rfl
  rw [e2] at h
  revert h
  decide +kernel
 refine ⟨clean_all (p:=fun c=>Fmt.wset.contains c||c==37||c==47) (by decide +kernel) (fun c hc=>List.all_eq_true.1 ha c hc) h0,by omega⟩
theorem clean_letter {s:ByteArray} (h:Fmt.letterOK s=true):CleanB 6 (Fmt.ltext s):=by
 unfold Fmt.ltext
 by_cases h0:s.toList=[]
 ·rw [if_pos h0];exact cleanT_of (by decide)
 ·rw [if_neg h0,if_pos h];unfold Fmt.letterOK at h;simp only [h0,decide_false,Bool.false_or,Bool.and_eq_true,decide_eq_true_eq] at h;rw [ByteArray.toList_eq] at h0;exact ⟨clean_all (p:=fun c=>Fmt.wset.contains c) (by decide +kernel) (fun c hc=>List.all_eq_true.1 h.2 c hc) h0,h.1.2⟩
def fieldsR (r:RuleV):List ByteArray:=[r.name,textFrom r.fr,textTo r.fr r.to,⟨#[45]⟩,textM r.month,textOn ⟨r.kind,r.week,r.day⟩,textAt ⟨r.sec,r.base⟩,ofL (textA r.save),Fmt.ltext r.letter]
def kindE (e:EraV):ByteArray:=if e.kind=0 then ⟨#[45]⟩ else if e.kind=1 then ofL (textA e.save) else e.rules
def hasDay (u:UntilV):Bool:= !(decide (u.kind=0∧u.week=0∧u.day=1))
def hasTime (u:UntilV):Bool:= !(decide (u.sec=0∧u.base=0))
def untilF (u:UntilV):List ByteArray:=
 if u.has=false then [] else
 ofL (textN u.year) :: ((if (decide (u.month≠1)||hasDay u||hasTime u)=true then [textM u.month] else [])++((if (hasDay u||hasTime u)=true then [textOn ⟨u.kind,u.week,u.day⟩] else [])++(if hasTime u=true then [textAt ⟨u.sec,u.base⟩] else [])))
def fieldsE (e:EraV):List ByteArray:=[ofL (textA e.off),kindE e,e.format]++untilF e.u
def fieldsK (x:LinkV):List ByteArray:=[x.target,x.name]
theorem right_of {r:RuleV} (h:Rul.right r=true):(-32767≤r.fr∧r.fr≤r.to∧r.to≤32767)∧Fmt.letterOK r.letter=true∧Nam.nameE r.name=0∧Day.fits r.kind r.week r.day r.month=true∧(0≤r.base∧r.base≤2∧0≤r.sec∧r.sec≤172800)∧ -10800≤r.save∧r.save≤10800:=by
 unfold Rul.right at h;simp only [Bool.and_eq_true,beq_iff_eq] at h;obtain ⟨⟨⟨⟨⟨⟨h1,h2⟩,h3⟩,h4⟩,h5⟩,h6⟩,h7⟩:=h;unfold Rul.saves at h7;simp only [Bool.and_eq_true,decide_eq_true_eq] at h7;unfold Rul.clockRight at h6;have h6:=of_decide_eq_true h6;unfold Rul.letErr at h3;have h3:Fmt.letterOK r.letter=true:=by
  cases hl:Fmt.letterOK r.letter with
  |true=>rfl
  |false=>rw [hl] at h3;simp at h3
 unfold Rul.toErr at h1;unfold Rul.frErr at h2;unfold Rul.may at h1 h2
 by_cases m1: -32767≤r.to∧r.to≤32767
 ·by_cases m2: -32767≤r.fr∧r.fr≤32767
  ·by_cases m3:r.to<r.fr
   ·simp [m1,m3] at h1
   ·exact ⟨⟨m2.1,by omega,m1.2⟩,h3,h4,h5,h6,h7⟩
  ·exfalso;revert h2;simp;omega
 ·exfalso;revert h1;simp;intro g;rw [if_neg m1] at g;omega
theorem fits_of {k w d m:Int} (h:Day.fits k w d m=true):rightOn ⟨k,w,d⟩=true∧1≤m∧m≤12:=by
 unfold Day.fits at h;simp only [Bool.and_eq_true,decide_eq_true_eq] at h;refine ⟨?_,h.1.2⟩;rcases (Day.onRight_iff _ _ _).1 h.1.1 with ⟨rfl,g1,g2,g3⟩|⟨rfl,g1,g2,g3⟩|⟨g0,g1,g2,g3,g4⟩
 ·exact decide_eq_true ⟨g1,g2,g3⟩
 ·exact decide_eq_true ⟨g2,g3,g1⟩
 ·unfold rightOn;dsimp only;rw [if_neg (by omega),if_neg (by omega),if_pos g0];exact decide_eq_true ⟨g1,g2,g3,g4⟩
theorem clean_rule {r:RuleV} (h:Rul.right r=true):∀ s∈fieldsR r,CleanB 64 s:=by
 obtain ⟨⟨h1,h2,h3⟩,h4,h5,h6,⟨_,_,h7,h8⟩,h9,h10⟩:=right_of h;obtain ⟨g1,g2,g3⟩:=fits_of h6;unfold fieldsR;intro s hs;simp only [List.mem_cons,List.not_mem_nil,or_false] at hs;rcases hs with rfl|rfl|rfl|rfl|rfl|rfl|rfl|rfl|rfl
 ·exact clean_name h5
 ·exact (clean_from h1 (by omega)).up (by decide)
 ·exact (clean_to (by omega) h3).up (by decide)
 ·exact cleanT_of (by decide)
 ·exact (clean_month g2 g3).up (by decide)
 ·exact (clean_on g1).up (by decide)
 ·exact (clean_at h7 h8).up (by decide)
 ·exact (clean_amount (by omega) (by omega)).up (by decide)
 ·exact (clean_letter h4).up (by decide)
theorem era_of {e:EraV} (h:Er.rightB e=true):(-54000≤e.off∧e.off≤54000)∧Fmt.checkE e.format=0∧Er.endB e.u=true∧
 ((e.kind=0∧e.save=0∧e.rules.toList=[])∨(e.kind=1∧ -10800≤e.save∧e.save≤10800∧e.rules.toList=[])∨(e.kind=2∧e.save=0∧Nam.nameE e.rules=0)):=by
 unfold Er.rightB at h
 by_cases hc:(decide (-54000≤e.off)&&decide (e.off≤54000))=true∧Fmt.checkE e.format=0∧Er.endB e.u=true
 ·rw [if_pos hc] at h;obtain ⟨h1,h2,h3⟩:=hc;simp only [Bool.and_eq_true,decide_eq_true_eq] at h1;refine ⟨h1,h2,h3,?_⟩
  by_cases k0:e.kind=0
  ·rw [if_pos k0] at h;simp only [Bool.and_eq_true,decide_eq_true_eq,List.isEmpty_iff] at h;exact .inl ⟨k0,h⟩
  ·rw [if_neg k0] at h
   by_cases k1:e.kind=1
   ·rw [if_pos k1] at h;simp only [Bool.and_eq_true,decide_eq_true_eq,List.isEmpty_iff] at h;exact .inr (.inl ⟨k1,h.1.1,h.1.2,h.2⟩)
   ·rw [if_neg k1] at h
    by_cases k2:e.kind=2
    ·rw [if_pos k2] at h;simp only [Bool.and_eq_true,decide_eq_true_eq] at h;exact .inr (.inr ⟨k2,h⟩)
    ·rw [if_neg k2] at h;cases h
 ·rw [if_neg hc] at h;cases h
theorem end_of {u:UntilV} (h:Er.endB u=true):(u.has=true∧(-32767<u.year∧u.year<32767)∧Day.fits u.kind u.week u.day u.month=true∧0≤u.base∧u.base≤2∧0≤u.sec∧u.sec≤172800)∨
 (u.has=false∧u.year=0∧u.month=0∧u.kind=0∧u.week=0∧u.day=0∧u.sec=0∧u.base=0):=by
 unfold Er.endB at h;cases hh:u.has with
 |true=>
  rw [hh,if_pos rfl] at h;unfold Er.yearB Rul.clockRight at h;simp only [Bool.and_eq_true,decide_eq_true_eq] at h;exact .inl ⟨rfl,h.1.1,h.1.2,h.2⟩
 |false=>
  rw [hh,if_neg (by decide)] at h;unfold Er.noneB at h;simp only [Bool.and_eq_true,decide_eq_true_eq] at h;obtain ⟨⟨⟨⟨⟨⟨a,b⟩,c⟩,d⟩,e⟩,f⟩,g⟩:=h;exact .inr ⟨rfl,a,b,c,d,e,f,g⟩
theorem clean_kind {e:EraV} (h:Er.rightB e=true):CleanB 64 (kindE e):=by
 obtain ⟨_,_,_,h⟩:=era_of h;unfold kindE;rcases h with ⟨k,_⟩|⟨k,h1,h2,_⟩|⟨k,_,h1⟩
 ·rw [if_pos k];exact cleanT_of (by decide)
 ·rw [if_neg (by omega),if_pos k];exact (clean_amount (by omega) (by omega)).up (by decide)
 ·rw [if_neg (by omega),if_neg (by omega)];exact clean_name h1
theorem clean_until {u:UntilV} (h:Er.endB u=true):∀ s∈untilF u,CleanB 20 s:=by
 unfold untilF;rcases end_of h with ⟨h0,h1,h2,_,_,h3,h4⟩|⟨h0,_⟩
 ·rw [h0,if_neg (by decide)];obtain ⟨g1,g2,g3⟩:=fits_of h2;have c1:=(clean_ofL (clean_textN u.year) (textN_len (by omega) (by omega))).up (j:=20) (by decide);have c2:=clean_month g2 g3;have c3:=clean_on g1;have c4:CleanB 20 (textAt ⟨u.sec,u.base⟩):=clean_at h3 h4;intro s hs;rcases List.mem_cons.1 hs with rfl|hs
  ·exact c1
  ·rcases List.mem_append.1 hs with hs|hs
   ·split at hs
    ·rw [List.mem_singleton.1 hs];exact c2
    ·cases hs
   ·rcases List.mem_append.1 hs with hs|hs
    ·split at hs
     ·rw [List.mem_singleton.1 hs];exact c3
     ·cases hs
    ·split at hs
     ·rw [List.mem_singleton.1 hs];exact c4
     ·cases hs
 ·rw [h0,if_pos rfl];intro s hs;cases hs
theorem clean_era {e:EraV} (h:Er.rightB e=true):∀ s∈fieldsE e,CleanB 64 s:=by
 have hk:=clean_kind h;obtain ⟨h1,h2,h3,_⟩:=era_of h;intro s hs;rcases List.mem_append.1 hs with hs|hs
 ·simp only [List.mem_cons,List.not_mem_nil,or_false] at hs;rcases hs with rfl|rfl|rfl
  ·exact (clean_amount (by omega) (by omega)).up (by decide)
  ·exact hk
  ·exact (clean_format h2).up (by decide)
 ·exact (clean_until h3 s hs).up (by decide)
theorem untilF_len (u:UntilV):(untilF u).length≤4:=by
 unfold untilF
 split
 ·simp
 ·rw [List.length_cons,List.length_append,List.length_append]
  split<;>split<;>split<;>simp
theorem fieldsE_len (e:EraV):3≤(fieldsE e).length∧(fieldsE e).length≤7:=by
 have:=untilF_len e.u;unfold fieldsE;rw [List.length_append];simp;omega
def rightK (x:LinkV):Bool:=decide (Nam.nameE x.target=0)&&(decide (Nam.nameE x.name=0)&&decide (x.target≠x.name))
theorem clean_link {x:LinkV} (h:rightK x=true):∀ s∈fieldsK x,CleanB 64 s:=by
 unfold rightK at h;simp only [Bool.and_eq_true,decide_eq_true_eq] at h;intro s hs;simp only [fieldsK,List.mem_cons,List.not_mem_nil,or_false] at hs;rcases hs with rfl|rfl
 ·exact clean_name h.1
 ·exact clean_name h.2.1
inductive Ln where
 |rule (r:RuleV)
 |zone (n:ByteArray) (e:EraV)
 |more (e:EraV)
 |link (x:LinkV)
def ruleW:ByteArray:=⟨#[82,117,108,101]⟩
def zoneW:ByteArray:=⟨#[90,111,110,101]⟩
def linkW:ByteArray:=⟨#[76,105,110,107]⟩
def Ln.fields:Ln→List ByteArray
 | .rule r=>ruleW :: fieldsR r
 | .zone n e=>zoneW :: n :: fieldsE e
 | .more e=>fieldsE e
 | .link x=>linkW :: fieldsK x
def lists (l:List ByteArray):List Bs:=l.map fun s=>s.data.toList
def joinB (l:List ByteArray):Bs:=joinF (lists l)
def Ln.bytes:Ln→Bs
 | .more e=>32 :: joinB (fieldsE e)
 |x=>joinB x.fields
def Ln.right:Ln→Bool
 | .rule r=>Rul.right r
 | .zone n e=>decide (Nam.nameE n=0)&&Er.rightB e
 | .more e=>Er.rightB e
 | .link x=>rightK x
theorem Ln.clean {x:Ln} (h:x.right=true):∀ s∈x.fields,CleanB 64 s:=by
 cases x with
 |rule r=>
  intro s hs;rcases List.mem_cons.1 hs with rfl|hs
  ·exact cleanT_of (by decide)
  ·exact clean_rule h s hs
 |zone n e=>
  have h:=Bool.and_eq_true_iff.1 h;intro s hs;rcases List.mem_cons.1 hs with rfl|hs
  ·exact cleanT_of (by decide)
  ·rcases List.mem_cons.1 hs with rfl|hs
   ·exact clean_name (of_decide_eq_true h.1)
   ·exact clean_era h.2 s hs
 |more e=>exact clean_era h
 |link x=>
  intro s hs;rcases List.mem_cons.1 hs with rfl|hs
  ·exact cleanT_of (by decide)
  ·exact clean_link h s hs
theorem Ln.few (x:Ln):x.fields≠[]∧x.fields.length≤16:=by
 cases x with
 |rule r=>exact ⟨by simp [Ln.fields],by simp [Ln.fields,fieldsR]⟩
 |zone n e=>
  have:=fieldsE_len e;exact ⟨by simp [Ln.fields],by simp [Ln.fields];omega⟩
 |more e=>
  have:=fieldsE_len e;refine ⟨fun h=> ?_,by simp [Ln.fields];omega⟩;have h2:fieldsE e=[]:=h;rw [h2] at this;simp at this
 |link x=>exact ⟨by simp [Ln.fields],by simp [Ln.fields,fieldsK]⟩
theorem lists_clean {l:List ByteArray} (h:∀ s∈l,CleanB 64 s):∀ a∈lists l,Clean a:=fun a ha=>by
 obtain ⟨s,hs,rfl⟩:=List.mem_map.1 ha;exact (h s hs).1
theorem lists_back (l:List ByteArray):(lists l).map ofL=l:=by
 unfold lists;rw [List.map_map];exact (List.map_congr_left (fun s _=>ofL_self s)).trans (List.map_id l)
theorem Ln.read {x:Ln} (h:x.right=true):fieldsB (ofL x.bytes)=(x.fields,0):=by
 have hc:=lists_clean (Ln.clean h);obtain ⟨h0,h1⟩:=Ln.few x;have h0':lists x.fields≠[]:=fun e=>h0 (List.map_eq_nil_iff.1 e);have h1':(lists x.fields).length≤16:=by unfold lists;rw [List.length_map];exact h1
 cases x with
 |more e=>
  have:=fields_blank h0' hc h1';rw [lists_back] at this;exact this
 |rule r=>
  have:=fields_join h0' hc h1';rw [lists_back] at this;exact this
 |zone n e=>
  have:=fields_join h0' hc h1';rw [lists_back] at this;exact this
 |link y=>
  have:=fields_join h0' hc h1';rw [lists_back] at this;exact this
theorem join_mem:∀ l:List Bs,(∀ a∈l,Clean a)→∀ c∈joinF l,okB c=true:=by
 intro l
 induction l with
 |nil=>intro _ c hc;cases hc
 |cons a r ih=>
  intro h c hc;have ha:∀ c∈a,okB c=true:=fun c hc=>by
   have:=(h a (by simp)).2 c hc;unfold okB;rw [Bool.or_eq_true];exact .inr (decide_eq_true (by omega))
  cases r with
  |nil=>exact ha c hc
  |cons b r=>
   rw [join_cons] at hc;rcases List.mem_append.1 hc with hc|hc
   ·exact ha c hc
   ·rcases List.mem_cons.1 hc with rfl|hc
    ·decide
    ·exact ih (fun x hx=>h x (by simp [hx])) c hc
theorem join_le (a:Bs) (r:List Bs):(joinF (a :: r)).length≤a.length+1+(joinF r).length:=by
 cases r with
 |nil=>show a.length≤_;omega
 |cons b r=>rw [join_cons,List.length_append,List.length_cons];omega
theorem until_len {u:UntilV} (h:Er.endB u=true):(joinB (untilF u)).length≤84:=by
 have h1:=join_len (lists (untilF u)) 20 (fun a ha=>by
  obtain ⟨s,hs,rfl⟩:=List.mem_map.1 ha;have:=(clean_until h s hs).2
  simpa using this)
 have h2:=untilF_len u;have h3:(lists (untilF u)).length=(untilF u).length:=by unfold lists;rw [List.length_map]
 unfold joinB;rw [h3] at h1;omega
theorem era_len {e:EraV} (h:Er.rightB e=true):(joinB (fieldsE e)).length≤200:=by
 have hk:=(clean_kind h).2;obtain ⟨h1,h2,h3,_⟩:=era_of h;have a1:=(clean_amount (n:=e.off) (by omega) (by omega)).2;have a2:=(clean_format h2).2;have a3:=until_len h3;have j1:=join_le (ofL (textA e.off)).data.toList (lists (kindE e :: e.format :: untilF e.u));have j2:=join_le (kindE e).data.toList (lists (e.format :: untilF e.u));have j3:=join_le e.format.data.toList (lists (untilF e.u));rw [len_list] at j1 j2 j3;unfold joinB at a3 ⊢;have e1:lists (fieldsE e)=(ofL (textA e.off)).data.toList :: lists (kindE e :: e.format :: untilF e.u):=rfl;have e2:lists (kindE e :: e.format :: untilF e.u)=(kindE e).data.toList :: lists (e.format :: untilF e.u):=rfl;have e3:lists (e.format :: untilF e.u)=e.format.data.toList :: lists (untilF e.u):=rfl;rw [e1];rw [e2] at j1 ⊢;rw [e3] at j1 j2 ⊢;omega
theorem Ln.short {x:Ln} (h:x.right=true):x.bytes.length≤511:=by
 cases x with
 |rule r=>
  obtain ⟨⟨h1,h2,h3⟩,h4,h5,h6,⟨_,_,h7,h8⟩,h9,h10⟩:=right_of h;obtain ⟨g1,g2,g3⟩:=fits_of h6;have j1:=join_len (lists [textFrom r.fr,textTo r.fr r.to,⟨#[45]⟩,textM r.month,textOn ⟨r.kind,r.week,r.day⟩,textAt ⟨r.sec,r.base⟩,ofL (textA r.save),Fmt.ltext r.letter]) 20 (fun a ha=>by
   obtain ⟨s,hs,rfl⟩:=List.mem_map.1 ha;rw [len_list];simp only [List.mem_cons,List.not_mem_nil,or_false] at hs;rcases hs with rfl|rfl|rfl|rfl|rfl|rfl|rfl|rfl
   ·exact (clean_from h1 (by omega)).2
   ·exact (clean_to (by omega) h3).2
   ·decide
   ·exact (clean_month g2 g3).2
   ·exact (clean_on g1).2
   ·exact (clean_at h7 h8).2
   ·exact (clean_amount (by omega) (by omega)).2
   ·exact ((clean_letter h4).up (by decide)).2)
  have h0:=(clean_name h5).2;have j2:=join_le ruleW.data.toList (lists (fieldsR r));have j3:=join_le r.name.data.toList (lists [textFrom r.fr,textTo r.fr r.to,⟨#[45]⟩,textM r.month,textOn ⟨r.kind,r.week,r.day⟩,textAt ⟨r.sec,r.base⟩,ofL (textA r.save),Fmt.ltext r.letter]);rw [len_list] at j3;have e1:lists (fieldsR r)=r.name.data.toList :: lists [textFrom r.fr,textTo r.fr r.to,⟨#[45]⟩,textM r.month,textOn ⟨r.kind,r.week,r.day⟩,textAt ⟨r.sec,r.base⟩,ofL (textA r.save),Fmt.ltext r.letter]:=rfl;have e2:(Ln.rule r).bytes=joinF (ruleW.data.toList :: lists (fieldsR r)):=rfl;have e3:ruleW.data.toList.length=4:=rfl;rw [e2];rw [e1] at j2 ⊢;have e4:(lists [textFrom r.fr,textTo r.fr r.to,⟨#[45]⟩,textM r.month,textOn ⟨r.kind,r.week,r.day⟩,textAt ⟨r.sec,r.base⟩,ofL (textA r.save),Fmt.ltext r.letter]).length=8:=rfl;rw [e4] at j1;omega
 |zone n e=>
  have h:=Bool.and_eq_true_iff.1 h;have h0:=(clean_name (of_decide_eq_true h.1)).2;have h1:=era_len h.2;have j1:=join_le zoneW.data.toList (n.data.toList :: lists (fieldsE e));have j2:=join_le n.data.toList (lists (fieldsE e));rw [len_list] at j2;have e3:zoneW.data.toList.length=4:=rfl;have e2:(Ln.zone n e).bytes=joinF (zoneW.data.toList :: n.data.toList :: lists (fieldsE e)):=rfl;unfold joinB at h1;rw [e2];omega
 |more e=>
  have h1:=era_len h;show (32 :: joinB (fieldsE e)).length≤_;rw [List.length_cons];omega
 |link y=>
  have hc:=clean_link h;have h1:=(hc y.target (by simp [fieldsK])).2;have h2:=(hc y.name (by simp [fieldsK])).2;have j1:=join_le linkW.data.toList [y.target.data.toList,y.name.data.toList];have j2:=join_le y.target.data.toList [y.name.data.toList];have j3:(joinF [y.name.data.toList]).length=y.name.size:=len_list _;rw [len_list] at j2;have e3:linkW.data.toList.length=4:=rfl;have e2:(Ln.link y).bytes=joinF [linkW.data.toList,y.target.data.toList,y.name.data.toList]:=rfl;rw [e2];omega
theorem Ln.line {x:Ln} (h:x.right=true):lineE (ofL x.bytes)=0:=by
 have hs:=Ln.short h;have hm:=join_mem (lists x.fields) (lists_clean (Ln.clean h));unfold lineE;rw [ofL_size,if_neg (by omega),ofL_list,if_pos];refine List.all_eq_true.2 fun c hc=> ?_;cases x with
 |more e=>
  rcases List.mem_cons.1 hc with rfl|hc
  ·decide
  ·exact hm c hc
 |rule r=>exact hm c hc
 |zone n e=>exact hm c hc
 |link y=>exact hm c hc
theorem Ln.no10 {x:Ln} (h:x.right=true):(10:UInt8)∉x.bytes:=by
 have hm:=join_no10 (lists x.fields) (lists_clean (Ln.clean h));intro hc;cases x with
 |more e=>
  rcases List.mem_cons.1 hc with hc|hc
  ·revert hc;decide
  ·exact hm hc
 |rule r=>exact hm hc
 |zone n e=>exact hm hc
 |link y=>exact hm hc
def srcB (l:List Ln):Bs:=l.flatMap fun x=>x.bytes++[10]
theorem lines_src {l:List Ln} (h:∀ x∈l,x.right=true):linesB (ofL (srcB l))=l.map fun x=>ofL x.bytes:=by
 unfold linesB srcB;have:=linesF_all (l.map Ln.bytes) (fun a ha=>by
  obtain ⟨x,hx,rfl⟩:=List.mem_map.1 ha;exact Ln.no10 (h x hx))
 rw [List.flatMap_map] at this;rw [ofL_list,this,List.map_map];rfl
theorem src_len:∀ {l:List Ln},(∀ x∈l,x.right=true)→(srcB l).length≤l.length*512
 | [],_=>Nat.zero_le _
 |x :: r,h=>by
  have h1:=Ln.short (h x (by simp));have h2:=src_len (l:=r) (fun y hy=>h y (by simp [hy]));unfold srcB at h2 ⊢;rw [List.flatMap_cons,List.length_append,List.length_append];simp only [List.length_cons,List.length_nil];omega
end Rd
end
section
open Go.RowKit NB
namespace RWd
open Rd
def atI:Option Nat→Int
 |none=> -1
 |some a=>(a:Int)
theorem drop_some {ws:List ByteArray} {k:Nat} {x:ByteArray} (h:ws[k]? =some x):ws.drop k=x :: ws.drop (k+1):=by
 have hlt:k<ws.length:=(List.getElem?_eq_some_iff.1 h).1;rw [List.drop_eq_getElem_cons hlt]
 congr 1
 rw [List.getElem?_eq_getElem hlt] at h;exact Option.some.inj h
theorem empty_of {s:ByteArray} (h:s.toList=[]):s=.empty:=by
 rw [ByteArray.toList_eq] at h;apply ByteArray.ext;apply Array.ext';exact h
set_option maxRecDepth 100000 in
set_option maxHeartbeats 3200000 in
theorem Match {w:World} {v:Value} {ws:List ByteArray} (h:HoldsS w v ws) (hws:∀ x∈ws,x.size≤1000000) (hwl:ws.length≤1000) (s:ByteArray) (_hs:s.size≤1000000):
 Calls prog 257 #[.string s,v] w fun e w'=>e=.returned (.tuple #[.int .i64 (matchW ws s).1,.int .i64 (matchW ws s).2])∧Below w.heap.size w w':=by
 obtain ⟨R,hR⟩:∃ R,R=matchW ws s:=⟨_,rfl⟩;rw [← hR];obtain ⟨p,cap,rfl,hp⟩:=h.pk1;have HP:=kj hp;have HW:=kj hws;clear h hp hws
 by_cases h0:s.toList=[]
 ·have e3:s.toList.isEmpty=true:=by simp [h0]
  have hRR:R=(0,3):=by
   rw [hR];unfold matchW;rw [if_pos (empty_of h0)]
  clear hR h0;subst hRR;go_enter func257,ntmps257;go_wp2;go_ret2;exact ⟨rfl,Below.refl _ _⟩
 ·have e3:s.toList.isEmpty=false:=by simp [h0]
  have hRR:(∀ i:Nat,sameAt 0 ws s=some i→R=((i:Int),0))∧(sameAt 0 ws s=none→R=scanW ws s 0 ws none):=by
   rw [hR];unfold matchW;rw [if_neg (fun e=>h0 (by rw [e,ByteArray.toList_eq];rfl))];exact ⟨fun i hi=>by rw [hi],fun hi=>by rw [hi]⟩
  obtain ⟨n,hn⟩:∃ n,n=ws.length:=⟨_,rfl⟩;rw [← hn] at hwl ⊢;have HR:=kj hRR;have HN:=kj hn;clear hR h0 hRR hn;go_enter func257,ntmps257;go_wp2
  go_loopw [15] (fun i wr=>∃ k:Nat,i=.int .i64 k∧k≤n∧Below w.heap.size w wr∧Hid (sameAt k (ws.drop k) s=sameAt 0 ws s)) (fun i _=>n-(intOf i).toNat)
  case atStart=>exact ⟨0,rfl,Nat.zero_le _,Below.refl _ _,rfl⟩
  case round=>
   obtain ⟨k,rfl,hk,hbr,HS⟩:=hrel
   by_cases hlt:k<n
   ·obtain ⟨x,hx⟩:∃ x,ws[k]? =some x:=⟨_,List.getElem?_eq_getElem (by rw [← HN.out];exact hlt)⟩;obtain ⟨g1,o1,rfl,hg1,d1⟩:=HP.out k x hx;replace d1:=(hbr.cell (p:=⟨g1,o1+k,none⟩) hg1).trans d1;have q1:(k:Int)<(n:Int):=by omega
    have hxs:=HW.out x (List.mem_of_getElem? hx);have cs:=fun W=>Same x s (by omega) W;have hst:=HS.out;rw [drop_some hx,sameAt] at hst;cases hq:same x s with
    |true=>
     rw [hq,if_pos rfl] at hst;rw [hq] at cs;have CS:=kj cs;have HT:=kj hst;clear cs hst hx hq
     go_wp2_with (go_at_call 291;refine (CS.out _).mono ?_;rintro e w1 ⟨rfl,hb1⟩)
     go_ret2;refine ⟨ret_ii ?_ ?_,bcq⟩
     ·rw [HR.out.1 _ HT.out.symm]
     ·rw [HR.out.1 _ HT.out.symm]
    |false=>
     rw [hq,if_neg (by decide)] at hst;rw [hq] at cs;have CS:=kj cs;have HT:=kj hst;clear cs hst hx hq
     go_wp2_with (go_at_call 291;refine (CS.out _).mono ?_;rintro e w1 ⟨rfl,hb1⟩)
     go_roundw
     case rel=>exact ⟨k+1,by go_num,by omega,bcq,HT.out⟩
     case measure=>simp [intOf];omega
   ·obtain rfl:k=n:=by omega
    have hR2:R=scanW ws s 0 ws none:=by
     have:=HS.out;rw [HN.out,List.drop_length,sameAt] at this;exact HR.out.2 this.symm
    have HR2:=kj hR2;obtain ⟨w1,hw1⟩:∃ V,V=wr:=⟨_,rfl⟩;subst hw1;have HB1:=kj hbr;have hsz1:=hbr.size;clear hR2 HR HS hbr;go_wp2
    go_loopw [27,8] (fun i t wy=>∃ (k':Nat) (o:Option Nat),i=.int .i64 k'∧t=.int .i64 (atI o)∧k'≤k∧Below w1.heap.size w1 wy∧Hid (∀ a,o=some a→a<k)∧Hid (scanW ws s k' (ws.drop k') o=scanW ws s 0 ws none)) (fun i _ _=>k-(intOf i).toNat)
    case atStart=>exact ⟨0,none,rfl,rfl,Nat.zero_le _,Below.refl _ _,(fun a h=>by cases h),rfl⟩
    case round=>
     obtain ⟨j,o,rfl,rfl,hj,hbr,HO,HS⟩:=hrel
     by_cases hltj:j<k
     ·obtain ⟨x,hx⟩:∃ x,ws[j]? =some x:=⟨_,List.getElem?_eq_getElem (by rw [← HN.out];exact hltj)⟩;obtain ⟨g1,o1,rfl,hg1,d1⟩:=HP.out j x hx;replace d1:=(hbr.cell (p:=⟨g1,o1+j,none⟩) (by show g1<_;omega)).trans ((HB1.out.cell (p:=⟨g1,o1+j,none⟩) hg1).trans d1);have q1:(j:Int)<(k:Int):=by omega
      have hxs:=HW.out x (List.mem_of_getElem? hx);have cb:=fun W=>Begins x s (by omega) W;have hst:=HS.out;rw [drop_some hx,scanW.eq_def] at hst;dsimp only at hst;cases hq:begins x s with
      |false=>
       rw [hq,if_neg (by decide)] at hst;rw [hq] at cb;have CB:=kj cb;have HT:=kj hst;clear cb hst hx hq
       go_wp2_with (go_at_call 292;refine (CB.out _).mono ?_;rintro e w2 ⟨rfl,hb2⟩)
       go_roundw
       case rel=>exact ⟨j+1,o,by go_num,rfl,by omega,bcq,HO,HT.out⟩
       case measure=>simp [intOf];omega
      |true=>
       rw [hq,if_pos rfl] at hst;rw [hq] at cb;have CB:=kj cb;clear cb hq;cases o with
       |none=>
        dsimp only at hst;have HT:=kj hst;have q2:atI none= -1:=rfl;rw [q2];clear hst hx q2
        go_wp2_with (go_at_call 292;refine (CB.out _).mono ?_;rintro e w2 ⟨rfl,hb2⟩)
        go_roundw
        case rel=>exact ⟨j+1,some j,by go_num,rfl,by omega,bcq,(fun a h=>by cases h;exact hltj),HT.out⟩
        case measure=>simp [intOf];omega
       |some a=>
        dsimp only at hst;have hak:=HO.out a rfl;obtain ⟨y,hy⟩:∃ y,ws[a]? =some y:=⟨_,List.getElem?_eq_getElem (by rw [← HN.out];exact hak)⟩;obtain ⟨g2,o2,e2,hg2,d2⟩:=HP.out a y hy;cases e2;replace d2:=(hbr.cell (p:=⟨g1,o1+a,none⟩) (by show g1<_;omega)).trans ((HB1.out.cell (p:=⟨g1,o1+a,none⟩) hg1).trans d2);have hys:=HW.out y (List.mem_of_getElem? hy);have cs:=fun W=>Same y x (by omega) W;have hgd:ws.getD a .empty=y:=by rw [List.getD_eq_getElem?_getD,hy];rfl
        rw [hgd] at hst;have q2:atI (some a)=(a:Int):=rfl;rw [q2];have q3:(a:Int)<(k:Int):=by omega
        cases hq:same y x with
        |true=>
         rw [hq,if_pos rfl] at hst;rw [hq] at cs;have CS:=kj cs;have HT:=kj hst;clear cs hst hx hq hy hgd q2
         go_wp2_with (first
          |(go_at_call 292;refine (CB.out _).mono ?_;rintro e w2 ⟨rfl,hb2⟩;replace d2:=(hb2.cell (p:=⟨g1,o1+a,none⟩) (by show g1<_;have:=hbr.size;omega)).trans d2;have hg3:g1<w2.heap.size:=by (have:=hbr.size;have:=hb2.size;omega))
          |(go_at_call 291;refine (CS.out _).mono ?_;rintro e w3 ⟨rfl,hb3⟩))
         go_roundw
         case rel=>exact ⟨j+1,some a,by go_num,rfl,by omega,bcq,HO,HT.out⟩
         case measure=>simp [intOf];omega
        |false=>
         rw [hq,if_neg (by decide)] at hst;rw [hq] at cs;have CS:=kj cs;have HT:=kj hst;clear cs hst hx hq hy hgd q2
         go_wp2_with (first
          |(go_at_call 292;refine (CB.out _).mono ?_;rintro e w2 ⟨rfl,hb2⟩;replace d2:=(hb2.cell (p:=⟨g1,o1+a,none⟩) (by show g1<_;have:=hbr.size;omega)).trans d2;have hg3:g1<w2.heap.size:=by (have:=hbr.size;have:=hb2.size;omega))
          |(go_at_call 291;refine (CS.out _).mono ?_;rintro e w3 ⟨rfl,hb3⟩))
         go_ret2;have hR3:R=(0,3):=by rw [HR2.out, ←HT.out]
         refine ⟨ret_ii (by rw [hR3]) (by rw [hR3]),?_⟩;have hb4:Below w1.heap.size w1 w3:=bcq;exact HB1.out.trans (hb4.mono hsz1)
     ·obtain rfl:j=k:=by omega
      have hfin:=HS.out;rw [HN.out,List.drop_length] at hfin;cases o with
      |none=>
       have hR3:R=(0,3):=by rw [HR2.out, ←hfin];rfl
       have q2:atI none= -1:=rfl;rw [q2];subst hR3;clear hfin;go_wp2;go_ret2;exact ⟨rfl,HB1.out.trans (hbr.mono hsz1)⟩
      |some a=>
       have hR3:R=((a:Int),0):=by rw [HR2.out, ←hfin];rfl
       have q2:atI (some a)=(a:Int):=rfl;rw [q2];subst hR3;clear hfin q2;go_wp2;go_ret2;exact ⟨rfl,HB1.out.trans (hbr.mono hsz1)⟩
end RWd
end
section
open Go.RowKit NB
theorem HoldsS.of_box {W:World} {b c n:Nat} {l:List ByteArray} {t:TypeId} (h:Box W b (l.map Value.string).toArray t) (hn:n=l.length) (hl:l.length≤1000000):HoldsS W (.slice (some ⟨b,0,none⟩) n c) l:=by
 subst hn;refine ⟨.inr ⟨b,0,c,rfl,h.lt,fun i j cs v hi hj=> ?_⟩,by omega⟩;rw [List.getElem?_map] at hi;cases hs:l[i]? with
 |none=>rw [hs] at hi;cases hi
 |some s=>
  rw [hs] at hi;cases hi
  match j,hj with
  |0,hj=>
   cases hj;have:=h.cell i;rw [List.getElem?_toArray,List.getElem?_map,hs] at this
   simpa using this
namespace RWd
open Rd
theorem Months (w:World):Calls prog 251 #[] w fun e w'=>∃ v,e=.returned v∧HoldsS w' v months∧Below w.heap.size w w':=by
 go_enter func251,ntmps251;go_wp2;go_ret;exact ⟨_,rfl,HoldsS.of_box (l:=months) (Box.new _ _ _) rfl (by decide),bcq⟩
theorem Weekdays (w:World):Calls prog 288 #[] w fun e w'=>∃ v,e=.returned v∧HoldsS w' v weekdays∧Below w.heap.size w w':=by
 go_enter func288,ntmps288;go_wp2;go_ret;exact ⟨_,rfl,HoldsS.of_box (l:=weekdays) (Box.new _ _ _) rfl (by decide),bcq⟩
theorem months_small:∀ x∈months,x.size≤1000000:=by decide
theorem weekdays_small:∀ x∈weekdays,x.size≤1000000:=by decide
theorem same_range (s:ByteArray):∀ (l:List ByteArray) (k i:Nat),sameAt k l s=some i→i≤k+l.length:=by
 intro l
 induction l with
 |nil=>intro k i h;cases h
 |cons x r ih=>
  intro k i h;rw [sameAt] at h
  split at h
  ·cases h;omega
  ·have:=ih _ _ h;rw [List.length_cons];omega
theorem scan_range (ws:List ByteArray) (s:ByteArray) (N:Nat):∀ (l:List ByteArray) (k:Nat) (o:Option Nat),(∀ a,o=some a→a≤N)→k+l.length≤N→0≤(scanW ws s k l o).1∧(scanW ws s k l o).1≤N:=by
 intro l
 induction l with
 |nil=>
  intro k o ho _;cases o with
  |none=>exact ⟨Int.le_refl _,by show (0:Int)≤_;omega⟩
  |some a=>have:=ho a rfl;exact ⟨by show (0:Int)≤(a:Int);omega,by show (a:Int)≤_;omega⟩
 |cons x r ih=>
  intro k o ho hl;rw [List.length_cons] at hl;rw [scanW.eq_def];dsimp only
  by_cases hb:begins x s=true
  ·rw [if_pos hb];cases o with
   |none=>exact ih (k+1) (some k) (fun a h=>by cases h;omega) (by omega)
   |some a=>
    dsimp only
    by_cases hs:same (ws.getD a .empty) x=true
    ·rw [if_pos hs];exact ih (k+1) (some a) ho (by omega)
    ·rw [if_neg hs];exact ⟨Int.le_refl _,by show (0:Int)≤_;omega⟩
  ·rw [if_neg hb];exact ih (k+1) o ho (by omega)
theorem match_range (ws:List ByteArray) (s:ByteArray):0≤(matchW ws s).1∧(matchW ws s).1≤ws.length:=by
 unfold matchW
 by_cases h:s=.empty
 ·rw [if_pos h];exact ⟨Int.le_refl _,by show (0:Int)≤_;omega⟩
 ·rw [if_neg h];cases hs:sameAt 0 ws s with
  |some i=>
   have:=same_range s ws 0 i hs;exact ⟨by show (0:Int)≤(i:Int);omega,by show (i:Int)≤_;omega⟩
  |none=>exact scan_range ws s ws.length ws 0 none (fun a h=>by cases h) (by omega)
theorem Month (s:ByteArray) (hs:s.size≤1000000) (w:World):Calls prog 309 #[.string s] w fun e w'=>e=.returned (.tuple #[.int .i64 (readM s).1,.int .i64 (readM s).2])∧Below w.heap.size w w':=by
 unfold readM;have hb:=match_range months s;rw [show ((months.length:Nat):Int)=12 from rfl] at hb;have cm:=fun (v:Value) (W:World) (h:HoldsS W v months)=>Match h months_small (by decide) s hs;generalize matchW months s=q at *;have CM:=kj cm;clear cm
 by_cases h0:q.2=0
 ·rw [if_pos h0];obtain ⟨a,b⟩:=q;dsimp only at *;subst h0;go_enter func309,ntmps309
  go_wp2_with (first
   |(go_at_call 251;refine (Months _).mono ?_;rintro e w1 ⟨v1,rfl,hv1,hb1⟩)
   |(go_at_call 257;refine (CM.out _ _ hv1).mono ?_;rintro e w2 ⟨rfl,hb2⟩))
  go_ret2;exact ⟨rfl,bcq⟩
 ·rw [if_neg h0];obtain ⟨a,b⟩:=q;dsimp only at *;go_enter func309,ntmps309
  go_wp2_with (first
   |(go_at_call 251;refine (Months _).mono ?_;rintro e w1 ⟨v1,rfl,hv1,hb1⟩)
   |(go_at_call 257;refine (CM.out _ _ hv1).mono ?_;rintro e w2 ⟨rfl,hb2⟩))
  go_ret2;exact ⟨rfl,bcq⟩
theorem Weekday (s:ByteArray) (hs:s.size≤1000000) (w:World):Calls prog 342 #[.string s] w fun e w'=>e=.returned (.tuple #[.int .i64 (readW s).1,.int .i64 (readW s).2])∧Below w.heap.size w w':=by
 unfold readW;have cm:=fun (v:Value) (W:World) (h:HoldsS W v weekdays)=>Match h weekdays_small (by decide) s hs;generalize matchW weekdays s=q at *;have CM:=kj cm;clear cm;obtain ⟨a,b⟩:=q;go_enter func342,ntmps342
 go_wp2_with (first
  |(go_at_call 288;refine (Weekdays _).mono ?_;rintro e w1 ⟨v1,rfl,hv1,hb1⟩)
  |(go_at_call 257;refine (CM.out _ _ hv1).mono ?_;rintro e w2 ⟨rfl,hb2⟩))
 go_ret2;exact ⟨rfl,bcq⟩
theorem word (s:ByteArray) (hs:s.size≤1000000) (w:World):Calls prog 331 #[.string s] w fun e w'=>e=.returned (.tuple #[.int .i64 (wordY s).1,.int .i64 (wordY s).2])∧Below w.heap.size w w':=by
 unfold wordY;have cm:=fun (v:Value) (W:World) (h:HoldsS W v [minW,maxW,onlyW])=>Match h (by decide) (by decide) s hs;generalize matchW [minW,maxW,onlyW] s=q at *;have CM:=kj cm;clear cm;obtain ⟨a,b⟩:=q;go_enter func331,ntmps331
 go_wp2_with (go_at_call 257;refine (CM.out _ _ (HoldsS.of_box (l:=[minW,maxW,onlyW]) (Box.new _ _ _) rfl (by decide))).mono ?_;rintro e w2 ⟨rfl,hb2⟩)
 go_ret2;exact ⟨rfl,bcq⟩
theorem MonthText (m:Int) (h0:1≤m) (h1:m≤12) (w:World):Calls prog 202 #[.int .i64 m] w fun e w'=>e=.returned (.string (textM m))∧Below w.heap.size w w':=by
 obtain ⟨x,hx,ht,hsz⟩:∃ x,months[(m-1).toNat]? =some x∧textM m=x.extract 0 3∧3≤x.size∧x.size≤1000000:=by
  rcases (by omega:m=1∨m=2∨m=3∨m=4∨m=5∨m=6∨m=7∨m=8∨m=9∨m=10∨m=11∨m=12) with rfl|rfl|rfl|rfl|rfl|rfl|rfl|rfl|rfl|rfl|rfl|rfl
  all_goals exact ⟨_,rfl,rfl,by decide,by decide⟩
 rw [ht];have HX:=kj hx;obtain ⟨k,hk⟩:∃ k:Nat,(m-1).toNat=k:=⟨_,rfl⟩;rw [hk] at HX;obtain rfl:m=(k:Int)+1:=by omega
 clear hx ht hk;go_enter func202,ntmps202
 go_wp2_with (go_at_call 251;refine (Months _).mono ?_;rintro e w1 ⟨v1,rfl,hv1,hb1⟩;obtain ⟨p1,c1,e1,hp1⟩:=hv1.pk1;rw [show months.length=12 from rfl] at e1;obtain ⟨g1,o1,e2,hg1,d1⟩:=hp1 _ _ HX.out;subst e1;cases e2;clear hp1 hv1)
 go_ret;exact ⟨rfl,bcq⟩
theorem WeekdayText (m:Int) (h0:0≤m) (h1:m≤6) (w:World):Calls prog 248 #[.int .i64 m] w fun e w'=>e=.returned (.string (textW m))∧Below w.heap.size w w':=by
 obtain ⟨x,hx,ht,hsz⟩:∃ x,weekdays[m.toNat]? =some x∧textW m=x.extract 0 3∧3≤x.size∧x.size≤1000000:=by
  rcases (by omega:m=0∨m=1∨m=2∨m=3∨m=4∨m=5∨m=6) with rfl|rfl|rfl|rfl|rfl|rfl|rfl
  all_goals exact ⟨_,rfl,rfl,by decide,by decide⟩
 rw [ht];have HX:=kj hx;obtain ⟨k,hk⟩:∃ k:Nat,m.toNat=k:=⟨_,rfl⟩;rw [hk] at HX;obtain rfl:m=(k:Int):=by omega
 clear hx ht hk;go_enter func248,ntmps248
 go_wp2_with (go_at_call 288;refine (Weekdays _).mono ?_;rintro e w1 ⟨v1,rfl,hv1,hb1⟩;obtain ⟨p1,c1,e1,hp1⟩:=hv1.pk1;rw [show weekdays.length=7 from rfl] at e1;obtain ⟨g1,o1,e2,hg1,d1⟩:=hp1 _ _ HX.out;subst e1;cases e2;clear hp1 hv1)
 go_ret;exact ⟨rfl,bcq⟩
end RWd
end
end Go.Proofs.YtgmfojgnjdpofaaGreatDoor
