import Derived.Test.YtgmfojgnjdpofaaGreatDoorH19
import Derived.Test.YtgmfojgnjdpofaaGreatDoorH14
import Derived.Test.YtgmfojgnjdpofaaGreatDoorH1
namespace Go.Proofs.YtgmfojgnjdpofaaGreatDoor
open Go.Proofs.Tryz
section
namespace Rd
open RWd
def sameAt:Nat→List ByteArray→ByteArray→Option Nat
 |_,[],_=>none
 |k,w :: r,s=>if same w s=true then some k else sameAt (k+1) r s
def scanW (ws:List ByteArray) (s:ByteArray):Nat→List ByteArray→Option Nat→Int×Int
 |_,[],none=>(0,3)
 |_,[],some a=>((a:Int),0)
 |k,w :: r,a=>
  if begins w s=true then
   match a with
   |none=>scanW ws s (k+1) r (some k)
   |some a=>if same (ws.getD a .empty) w=true then scanW ws s (k+1) r (some a) else (0,3)
  else scanW ws s (k+1) r a
def matchW (ws:List ByteArray) (s:ByteArray):Int×Int:=
 if s=.empty then (0,3) else
 match sameAt 0 ws s with
 |some i=>((i:Int),0)
 |none=>scanW ws s 0 ws none
def months:List ByteArray:=[⟨#[74,97,110,117,97,114,121]⟩,
 ⟨#[70,101,98,114,117,97,114,121]⟩,
 ⟨#[77,97,114,99,104]⟩,
 ⟨#[65,112,114,105,108]⟩,
 ⟨#[77,97,121]⟩,
 ⟨#[74,117,110,101]⟩,
 ⟨#[74,117,108,121]⟩,
 ⟨#[65,117,103,117,115,116]⟩,
 ⟨#[83,101,112,116,101,109,98,101,114]⟩,
 ⟨#[79,99,116,111,98,101,114]⟩,
 ⟨#[78,111,118,101,109,98,101,114]⟩,
 ⟨#[68,101,99,101,109,98,101,114]⟩]
def weekdays:List ByteArray:=[⟨#[83,117,110,100,97,121]⟩,
 ⟨#[77,111,110,100,97,121]⟩,
 ⟨#[84,117,101,115,100,97,121]⟩,
 ⟨#[87,101,100,110,101,115,100,97,121]⟩,
 ⟨#[84,104,117,114,115,100,97,121]⟩,
 ⟨#[70,114,105,100,97,121]⟩,
 ⟨#[83,97,116,117,114,100,97,121]⟩]
def readM (s:ByteArray):Int×Int:=if (matchW months s).2=0 then ((matchW months s).1+1,0) else (0,(matchW months s).2)
def readW (s:ByteArray):Int×Int:=matchW weekdays s
def textM (m:Int):ByteArray:=if m<1∨12<m then .empty else (months.getD (m-1).toNat .empty).extract 0 3
def textW (m:Int):ByteArray:=if m<0∨6<m then .empty else (weekdays.getD m.toNat .empty).extract 0 3
theorem readM_textM (m:Int) (h0:1≤m) (h1:m≤12):readM (textM m)=(m,0):=by
 rcases (by omega:m=1∨m=2∨m=3∨m=4∨m=5∨m=6∨m=7∨m=8∨m=9∨m=10∨m=11∨m=12) with rfl|rfl|rfl|rfl|rfl|rfl|rfl|rfl|rfl|rfl|rfl|rfl
 all_goals decide +kernel
def numeral (s:ByteArray):Bool:=match s.data.toList with
 | []=>false
 |c :: _=>decide (c=45)||isD c
def readY (s:ByteArray):Int×Int:=if (readN s).2=0 then (if -32767≤(readN s).1∧(readN s).1≤32767 then ((readN s).1,0) else (0,1)) else (0,(readN s).2)
def minW:ByteArray:=⟨#[109,105,110,105,109,117,109]⟩
def maxW:ByteArray:=⟨#[109,97,120,105,109,117,109]⟩
def onlyW:ByteArray:=⟨#[111,110,108,121]⟩
def wordY (s:ByteArray):Int×Int:=matchW [minW,maxW,onlyW] s
def readFrom (s:ByteArray):Int×Int:=if numeral s=true then readY s else if (wordY s).2=0∧(wordY s).1=0 then (-32767,0) else (0,3)
def toY (s:ByteArray) (fr:Int):Int×Int:=
 if numeral s=true then readY s else
 if (wordY s).1=0 then (0,3) else if (wordY s).1=1 then (32767,(wordY s).2) else if (wordY s).1=2 then (fr,(wordY s).2) else (0,(wordY s).2)
def readTo (s:ByteArray) (fr:Int):Int×Int:=
 if (toY s fr).2=0 then (if (toY s fr).1<fr then (0,14) else ((toY s fr).1,0)) else (0,(toY s fr).2)
def textFrom (y:Int):ByteArray:=if y= -32767 then ⟨#[109,105,110]⟩ else ofL (textN y)
def textTo (fr y:Int):ByteArray:=if y=fr then ⟨#[111,110,108,121]⟩ else if y=32767 then ⟨#[109,97,120]⟩ else ofL (textN y)
theorem numeral_textN (y:Int):numeral (ofL (textN y))=true:=by
 unfold numeral;rw [ofL_list];unfold textN
 by_cases hy:y<0
 ·rw [if_pos hy];rfl
 ·rw [if_neg hy];have:=dec_all y.toNat;cases h:dec y.toNat with
  |nil=>exact absurd h (dec_ne _)
  |cons c r=>
   rw [h,List.all_cons,Bool.and_eq_true] at this;show (decide (c=45)||isD c)=true;rw [this.1,Bool.or_true]
theorem readY_textN (y:Int) (h0: -32767≤y) (h1:y≤32767):readY (ofL (textN y))=(y,0):=by
 unfold readY;rw [readN_textN y (by omega) (by omega),if_pos rfl,if_pos ⟨h0,h1⟩]
def signF:Nat→Bs→Int
 |_,[]=> -1
 |k,c :: r=>if c=60∨c=62 then (k:Int) else signF (k+1) r
def signB (s:ByteArray):Int:=signF 0 s.data.toList
def readDay (s:ByteArray):Int×Int:=if (readN s).2=0 then (if 1≤(readN s).1∧(readN s).1≤31 then ((readN s).1,0) else (0,1)) else (0,(readN s).2)
structure OnV where
 kind:Int
 week:Int
 day:Int
 deriving DecidableEq
def lastW:ByteArray:=⟨#[108,97,115,116]⟩
def readSign (s:ByteArray) (at':Nat):OnV×Int:=
 if s.data.toList[at'+1]? =some 61 then
  if (readW (s.extract 0 at')).2=0 then
   if (readDay (s.extract (at'+2) s.size)).2=0 then
    (⟨if s.data.toList[at']? =some 60 then 3 else 2,(readW (s.extract 0 at')).1,(readDay (s.extract (at'+2) s.size)).1⟩,0)
   else (⟨0,0,0⟩,(readDay (s.extract (at'+2) s.size)).2)
  else (⟨0,0,0⟩,(readW (s.extract 0 at')).2)
 else (⟨0,0,0⟩,4)
def readOn (s:ByteArray):OnV×Int:=
 if 0≤signB s then readSign s (signB s).toNat
 else if numeral s=true then (if (readDay s).2=0 then (⟨0,0,(readDay s).1⟩,0) else (⟨0,0,0⟩,(readDay s).2))
 else if 4≤s.size∧same (s.extract 0 4) lastW=true then (if (readW (s.extract 4 s.size)).2=0 then (⟨1,(readW (s.extract 4 s.size)).1,0⟩,0) else (⟨0,0,0⟩,(readW (s.extract 4 s.size)).2))
 else (⟨0,0,0⟩,4)
def textOn (o:OnV):ByteArray:=
 if o.kind=1 then lastW++textW o.week
 else if o.kind=2 then textW o.week++⟨#[62,61]⟩++ofL (textN o.day)
 else if o.kind=3 then textW o.week++⟨#[60,61]⟩++ofL (textN o.day)
 else ofL (textN o.day)
def rightOn (o:OnV):Bool:=
 if o.kind=0 then decide (1≤o.day∧o.day≤31∧o.week=0)
 else if o.kind=1 then decide (0≤o.week∧o.week≤6∧o.day=0)
 else if o.kind=2∨o.kind=3 then decide (0≤o.week∧o.week≤6∧1≤o.day∧o.day≤31)
 else false
theorem all_on:((List.range 4).all fun k=>(List.range 7).all fun w=>(List.range 32).all fun d=> !(rightOn ⟨k,w,d⟩)||decide (readOn (textOn ⟨k,w,d⟩)=(⟨k,w,d⟩,0)))=true:=by decide +kernel
theorem readOn_textOn (o:OnV) (h:rightOn o=true):readOn (textOn o)=(o,0):=by
 obtain ⟨k,w,d⟩:=o;have hk:0≤k∧k<4∧0≤w∧w<7∧0≤d∧d<32:=by
  unfold rightOn at h;dsimp only at h
  split at h
  ·have:=of_decide_eq_true h;omega
  ·split at h
   ·have:=of_decide_eq_true h;omega
   ·split at h
    ·have:=of_decide_eq_true h;omega
    ·cases h
 obtain ⟨a,rfl⟩:∃ n:Nat,(n:Int)=k:=⟨k.toNat,by omega⟩;obtain ⟨b,rfl⟩:∃ n:Nat,(n:Int)=w:=⟨w.toNat,by omega⟩;obtain ⟨c,rfl⟩:∃ n:Nat,(n:Int)=d:=⟨d.toNat,by omega⟩;have h1:=List.all_eq_true.1 all_on a (List.mem_range.2 (by omega));have h2:=List.all_eq_true.1 h1 b (List.mem_range.2 (by omega));have h3:=List.all_eq_true.1 h2 c (List.mem_range.2 (by omega));rw [h] at h3
 simpa using h3
structure AtV where
 sec:Int
 base:Int
 deriving DecidableEq
def lastB (s:ByteArray):Option UInt8:=s.data.toList.getLast?
def isW (c:UInt8):Bool:=decide (c=119∨c=87)
def isS (c:UInt8):Bool:=decide (c=115∨c=83)
def isU (c:UInt8):Bool:=decide (c=117∨c=85∨c=103∨c=71∨c=122∨c=90)
def baseB (s:ByteArray):Int:=match lastB s with
 |none=>0
 |some c=>if isS c=true then 1 else if isU c=true then 2 else 0
def restB (s:ByteArray):ByteArray:=match lastB s with
 |none=>s
 |some c=>if isW c=true∨isS c=true∨isU c=true then s.extract 0 (s.size-1) else s
def readAt (s:ByteArray):AtV×Int:=
 if (readA (restB s)).2=0 then (if 0≤(readA (restB s)).1∧(readA (restB s)).1≤172800 then (⟨(readA (restB s)).1,baseB s⟩,0) else (⟨0,0⟩,1)) else (⟨0,0⟩,(readA (restB s)).2)
def letterAt (b:Int):ByteArray:=if b=1 then ⟨#[115]⟩ else if b=2 then ⟨#[117]⟩ else .empty
def textAt (a:AtV):ByteArray:=ofL (textA a.sec)++letterAt a.base
theorem hms_last (a:Nat):∃ l c,hmsL a=l++[c]∧isD c=true:=by
 have two:∀ n,∃ l c,twoL n=l++[c]∧isD c=true:=fun n=>by
  have h0:twoL n≠[]:=by unfold twoL;split<;>simp [dec_ne]
  refine ⟨(twoL n).dropLast,(twoL n).getLast h0,(List.dropLast_concat_getLast h0).symm,?_⟩;exact List.all_eq_true.1 (two_all n) _ (List.getLast_mem h0)
 unfold hmsL
 by_cases h:0<a%60
 ·obtain ⟨l,c,e,hc⟩:=two (a%60);rw [if_pos h,e];exact ⟨dec (a/3600)++58 :: (twoL (a/60%60)++58 :: l),c,by simp,hc⟩
 ·obtain ⟨l,c,e,hc⟩:=two (a/60%60);rw [if_neg h,e];exact ⟨dec (a/3600)++58 :: l,c,by simp,hc⟩
theorem textA_last (n:Int):∃ l c,textA n=l++[c]∧isD c=true:=by
 unfold textA
 split
 ·exact ⟨[],48,rfl,by decide⟩
 ·split
  ·obtain ⟨l,c,e,hc⟩:=hms_last (-n).toNat;exact ⟨45 :: l,c,by rw [e];rfl,hc⟩
  ·exact hms_last n.toNat
end Rd
end
section
namespace Rd
def blankC (c:UInt8):Bool:=decide (c=9∨c=32)
def ofF:Bs→Bool→Bool→List Bs→Bs→Option (List Bs)
 |_,_,true,_,[]=>none
 |f,o,true,out,c :: r=>if c=34 then ofF f o false out r else ofF (f++[c]) o true out r
 |f,o,false,out,[]=>some (if o=true then out++[f] else out)
 |f,o,false,out,c :: r=>
  if c=35 then some (if o=true then out++[f] else out)
  else if blankC c=true then ofF [] false false (if o=true then out++[f] else out) r
  else if c=34 then ofF f true true out r
  else ofF (f++[c]) true false out r
def fieldsB (s:ByteArray):List ByteArray×Int:=match ofF [] false false [] s.data.toList with
 |none=>([],8)
 |some l=>if 16<l.length then ([],6) else (l.map ofL,0)
def Clean (l:Bs):Prop:=l≠[]∧∀ c∈l,36≤c.toNat∧c.toNat≤126
def joinF:List Bs→Bs
 | []=>[]
 | [a]=>a
 |a :: b :: r=>a++32 :: joinF (b :: r)
theorem join_cons (a b:Bs) (r:List Bs):joinF (a :: b :: r)=a++32 :: joinF (b :: r):=rfl
theorem join_snoc:∀ (l:List Bs) (a:Bs),l≠[]→joinF (l++[a])=joinF l++32 :: a:=by
 intro l
 induction l with
 |nil=>intro a h;exact absurd rfl h
 |cons x r ih=>
  intro a _;cases r with
  |nil=>rfl
  |cons y r=>rw [List.cons_append,List.cons_append,join_cons, ←List.cons_append,ih a (by simp),join_cons];simp
theorem clean_c {c:UInt8} (h:36≤c.toNat∧c.toNat≤126):c≠35∧blankC c=false∧c≠34∧c≠10:=by
 have f:∀ d:UInt8,c=d→c.toNat=d.toNat:=fun d e=>by rw [e]
 refine ⟨fun e=> ?_,decide_eq_false ?_,fun e=> ?_,fun e=> ?_⟩
 ·subst e;revert h;decide
 ·rintro (e|e)<;>(subst e;revert h;decide)
 ·subst e;revert h;decide
 ·subst e;revert h;decide
theorem ofF_more:∀ (a f:Bs) (out:List Bs) (r:Bs),(∀ c∈a,36≤c.toNat∧c.toNat≤126)→ofF f true false out (a++r)=ofF (f++a) true false out r:=by
 intro a
 induction a with
 |nil=>intro f out r _;simp
 |cons c a ih=>
  intro f out r h;obtain ⟨h1,h2,h3,_⟩:=clean_c (h c (by simp));rw [List.cons_append,ofF,if_neg h1,h2,if_neg (by decide),if_neg h3,ih _ _ _ (fun d hd=>h d (by simp [hd]))];simp
theorem ofF_field (a:Bs) (out:List Bs) (r:Bs) (h:Clean a):ofF [] false false out (a++r)=ofF a true false out r:=by
 obtain ⟨h0,hc⟩:=h;cases a with
 |nil=>exact absurd rfl h0
 |cons c a=>
  obtain ⟨h1,h2,h3,_⟩:=clean_c (hc c (by simp));rw [List.cons_append,ofF,if_neg h1,h2,if_neg (by decide),if_neg h3,ofF_more a _ out r (fun d hd=>hc d (by simp [hd]))];rfl
theorem ofF_blank (f:Bs) (out:List Bs) (r:Bs):ofF f true false out (32 :: r)=ofF [] false false (out++[f]) r:=by
 rw [ofF,if_neg (by decide),if_pos (by decide),if_pos rfl]
theorem ofF_first (r:Bs):ofF [] false false [] (32 :: r)=ofF [] false false [] r:=by
 rw [ofF,if_neg (by decide),if_pos (by decide),if_neg (by decide)]
theorem ofF_join:∀ (l:List Bs) (out:List Bs),l≠[]→(∀ a∈l,Clean a)→ofF [] false false out (joinF l)=some (out++l):=by
 intro l
 induction l with
 |nil=>intro out h;exact absurd rfl h
 |cons a r ih=>
  intro out _ hc;cases r with
  |nil=>
   have:=ofF_field a out [] (hc a (by simp));rw [List.append_nil] at this;show ofF [] false false out a=_;rw [this,ofF,if_pos rfl]
  |cons b r=>
   rw [join_cons,ofF_field a out _ (hc a (by simp)),ofF_blank,ih _ (by simp) (fun x hx=>hc x (by simp [hx]))];simp
theorem fields_join {l:List Bs} (h0:l≠[]) (hc:∀ a∈l,Clean a) (hl:l.length≤16):fieldsB (ofL (joinF l))=(l.map ofL,0):=by
 unfold fieldsB;rw [ofL_list,ofF_join l [] h0 hc];dsimp only;rw [List.nil_append,if_neg (by omega)]
theorem fields_blank {l:List Bs} (h0:l≠[]) (hc:∀ a∈l,Clean a) (hl:l.length≤16):fieldsB (ofL (32 :: joinF l))=(l.map ofL,0):=by
 unfold fieldsB;rw [ofL_list,ofF_first,ofF_join l [] h0 hc];dsimp only;rw [List.nil_append,if_neg (by omega)]
def linesF:Bs→Bs→List Bs
 | [],[]=>[]
 |c :: cur,[]=>[c :: cur]
 |cur,c :: r=>if c=10 then cur :: linesF [] r else linesF (cur++[c]) r
theorem linesF_cons (cur:Bs) (c:UInt8) (r:Bs):linesF cur (c :: r)=if c=10 then cur :: linesF [] r else linesF (cur++[c]) r:=by
 cases cur<;>rfl
def linesB (s:ByteArray):List ByteArray:=(linesF [] s.data.toList).map ofL
theorem linesF_line:∀ (a cur r:Bs),(10:UInt8)∉a→linesF cur (a++10 :: r)=(cur++a) :: linesF [] r:=by
 intro a
 induction a with
 |nil=>intro cur r _;rw [List.nil_append,linesF_cons,if_pos rfl,List.append_nil]
 |cons c a ih=>
  intro cur r h;have hc:c≠10:=fun e=>h (by rw [e];simp);rw [List.cons_append,linesF_cons,if_neg hc,ih _ _ (fun hm=>h (by simp [hm]))];simp
theorem linesF_all:∀ l:List Bs,(∀ a∈l,(10:UInt8)∉a)→linesF [] (l.flatMap fun a=>a++[10])=l:=by
 intro l
 induction l with
 |nil=>intro _;rfl
 |cons a r ih=>
  intro h;rw [List.flatMap_cons,List.append_assoc,List.singleton_append,linesF_line a [] _ (h a (by simp)),ih (fun x hx=>h x (by simp [hx]))];rfl
theorem join_no10:∀ l:List Bs,(∀ a∈l,Clean a)→(10:UInt8)∉joinF l:=by
 intro l
 induction l with
 |nil=>intro _ h;simp [joinF] at h
 |cons a r ih=>
  intro hc hm;have ha:(10:UInt8)∉a:=fun h=>(clean_c ((hc a (by simp)).2 10 h)).2.2.2 rfl;cases r with
  |nil=>exact ha hm
  |cons b r=>
   rw [join_cons] at hm;rcases List.mem_append.1 hm with h|h
   ·exact ha h
   ·rcases List.mem_cons.1 h with h|h
    ·revert h;decide
    ·exact ih (fun x hx=>hc x (by simp [hx])) h
theorem join_len:∀ (l:List Bs) (k:Nat),(∀ a∈l,a.length≤k)→(joinF l).length≤l.length*(k+1):=by
 intro l
 induction l with
 |nil=>intro k _;simp [joinF]
 |cons a r ih=>
  intro k h;have ha:=h a (by simp);cases r with
  |nil=>show a.length≤_;simp;omega
  |cons b r=>
   have:=ih k (fun x hx=>h x (by simp [hx]));rw [join_cons,List.length_append,List.length_cons,List.length_cons,Nat.succ_mul];omega
theorem clean_num {l:Bs} (h0:l≠[]) (h:∀ c∈l,isD c=true∨c=45∨c=58):Clean l:=
 ⟨h0,fun c hc=>by
   rcases h c hc with h|rfl|rfl
   ·have:=of_decide_eq_true h;omega
   ·decide
   ·decide⟩
theorem mem_textN {n:Int} {c:UInt8} (h:c∈textN n):isD c=true∨c=45∨c=58:=by
 unfold textN at h
 split at h
 ·rcases List.mem_cons.1 h with h|h
  ·exact .inr (.inl h)
  ·exact .inl (List.all_eq_true.1 (dec_all _) c h)
 ·exact .inl (List.all_eq_true.1 (dec_all _) c h)
theorem textN_ne (n:Int):textN n≠[]:=by
 unfold textN
 split
 ·simp
 ·exact dec_ne _
theorem clean_textN (n:Int):Clean (textN n):=clean_num (textN_ne n) fun _ h=>mem_textN h
theorem mem_hms {a:Nat} {c:UInt8} (h:c∈hmsL a):isD c=true∨c=45∨c=58:=by
 unfold hmsL at h;rcases List.mem_append.1 h with h|h
 ·exact .inl (List.all_eq_true.1 (dec_all _) c h)
 ·rcases List.mem_cons.1 h with h|h
  ·exact .inr (.inr h)
  ·rcases List.mem_append.1 h with h|h
   ·exact .inl (List.all_eq_true.1 (two_all _) c h)
   ·split at h
    ·rcases List.mem_cons.1 h with h|h
     ·exact .inr (.inr h)
     ·exact .inl (List.all_eq_true.1 (two_all _) c h)
    ·cases h
theorem mem_textA {n:Int} {c:UInt8} (h:c∈textA n):isD c=true∨c=45∨c=58:=by
 unfold textA at h
 split at h
 ·rcases List.mem_cons.1 h with h|h
  ·exact .inl (by rw [h];decide)
  ·cases h
 ·split at h
  ·rcases List.mem_cons.1 h with h|h
   ·exact .inr (.inl h)
   ·exact mem_hms h
  ·exact mem_hms h
theorem textA_ne (n:Int):textA n≠[]:=by
 unfold textA
 split
 ·simp
 ·split
  ·simp
  ·exact hms_ne _
theorem clean_textA (n:Int):Clean (textA n):=clean_num (textA_ne n) fun _ h=>mem_textA h
theorem textN_len {n:Int} (h0: -1000000<n) (h1:n<1000000):(textN n).length≤7:=by
 unfold textN
 split
 ·have:=dec_len 5 (-n).toNat (by simpa using (by omega:(-n).toNat<1000000)) (by omega);simp;omega
 ·have:=dec_len 5 n.toNat (by simpa using (by omega:n.toNat<1000000)) (by omega);omega
theorem hms_len {a:Nat} (h:a<604800):(hmsL a).length≤9:=by
 have h1:=dec_len 2 (a/3600) (by simpa using (by omega:a/3600<1000)) (by omega);have h2:=two_len (n:=a/60%60) (by omega);have h3:=two_len (n:=a%60) (by omega);unfold hmsL
 split<;>simp<;>omega
theorem textA_len {n:Int} (h0: -604800<n) (h1:n<604800):(textA n).length≤10:=by
 unfold textA
 split
 ·simp
 ·split
  ·have:=hms_len (a:=(-n).toNat) (by omega);simp;omega
  ·have:=hms_len (a:=n.toNat) (by omega);omega
end Rd
end
section
open Go.RowKit NB
namespace RNu
open Rd RWd
theorem take_all {s:ByteArray} {k:Nat} {p:UInt8→Bool} (h:(s.data.toList.take k).all p=true) (hk:k<s.size) (h2:p s[k]=true):(s.data.toList.take (k+1)).all p=true:=by
 rw [List.take_add_one,bAt hk,List.all_append,h]
 simpa using h2
theorem take_fin {s:ByteArray} {p:UInt8→Bool} (h:(s.data.toList.take s.size).all p=true):s.data.toList.all p=true:=by
 rwa [List.take_of_length_le (by simp)] at h
theorem not_all {s:ByteArray} {k:Nat} {p:UInt8→Bool} (hk:k<s.size) (h2:p s[k]=false):s.data.toList.all p=false:=by
 cases ha:s.data.toList.all p with
 |false=>rfl
 |true=>
  have:=List.all_eq_true.1 ha _ (List.mem_of_getElem? (bAt hk));rw [h2] at this;cases this
theorem isD_true {c:UInt8} (h:isD c=true):¬(c.toNat:Int)<48∧¬(57:Int)<(c.toNat:Int):=by
 have:=of_decide_eq_true h;omega
theorem isD_false {c:UInt8} (h:isD c=false):(c.toNat:Int)<48∨(¬ (c.toNat:Int)<48∧(57:Int)<(c.toNat:Int)):=by
 have:=of_decide_eq_false h;omega
set_option maxRecDepth 100000 in
theorem Digits (s:ByteArray) (hs:s.size≤9223372036854775807) (w:World):Calls prog 340 #[.string s] w fun e w'=>e=.returned (.bool (digs s.data.toList))∧w=w':=by
 obtain ⟨R,hR⟩:∃ r,r=digs s.data.toList:=⟨_,rfl⟩;rw [← hR];have HR:=kj hR;clear hR;go_enter func340,ntmps340;go_wp2
 go_loop [3] (fun i=>∃ k:Nat,k≤s.size∧i=.int .i64 k∧Hid ((s.data.toList.take k).all isD=true)) (fun i=>s.size-(intOf i).toNat)
 case atStart=>exact ⟨0,Nat.zero_le _,rfl,rfl⟩
 case round=>
  obtain ⟨k,hk,rfl,HA⟩:=hrel
  by_cases hlt:k<s.size
  ·cases hd:isD s[k] with
   |true=>
    obtain ⟨q1,q2⟩:=isD_true hd;have HD:=kj hd;clear hd;go_wp2;go_round
    case rel=>exact ⟨k+1,by omega,by go_num,take_all HA.out hlt HD.out⟩
    case measure=>simp [intOf];omega
   |false=>
    have HD:=kj (not_all hlt hd);have hd2:=isD_false hd;clear hd;rcases hd2 with q1|⟨q1,q2⟩
    all_goals
     go_wp2;go_ret;refine ⟨ret_bool ?_,rfl⟩;rw [HR.out];unfold digs;rw [HD.out,Bool.and_false]
  ·obtain rfl:k=s.size:=by omega
   have HD:=kj (take_fin HA.out)
   by_cases h3:s.toList=[]
   ·have e3:s.toList.isEmpty=true:=by simp [h3]
    have H3:=kj h3;clear h3;go_wp2;go_ret;refine ⟨ret_bool ?_,rfl⟩;rw [HR.out];unfold digs;have:=H3.out;rw [ByteArray.toList_eq] at this;rw [this];rfl
   ·have e3:s.toList.isEmpty=false:=by simp [h3]
    have H3:=kj h3;clear h3;go_wp2;go_ret;refine ⟨ret_bool ?_,rfl⟩;rw [HR.out];unfold digs;rw [HD.out];have:=H3.out;rw [ByteArray.toList_eq] at this;cases hl:s.data.toList with
    |nil=>exact absurd hl this
    |cons a b=>rfl
theorem num_bad {s d:ByteArray} (hb:bodyB s=d) (h:digs d.data.toList=false∨(1<d.size∧d.data.toList.head? =some 48)∨s.data.toList=[45,48]):readN s=(0,2):=by
 unfold readN;rw [hb,if_pos h]
theorem num_long {s d:ByteArray} (hb:bodyB s=d) (h:¬(digs d.data.toList=false∨(1<d.size∧d.data.toList.head? =some 48)∨s.data.toList=[45,48])) (hl:19<d.size):readN s=(0,1):=by
 unfold readN;rw [hb,if_neg h,if_pos hl]
theorem num_rest {s d:ByteArray} {g:Bool} (hb:bodyB s=d) (hg:negB s=g) (h:¬(digs d.data.toList=false∨(1<d.size∧d.data.toList.head? =some 48)∨s.data.toList=[45,48])) (hl:¬19<d.size):
 readN s=if g=true then (if 9223372036854775808<val d.data.toList then (0,1) else (-(val d.data.toList:Int),0)) else if 9223372036854775807<val d.data.toList then (0,1) else ((val d.data.toList:Int),0):=by
 unfold readN;rw [hb,hg,if_neg h,if_neg hl]
theorem head_at {s:ByteArray} {c:UInt8} (h:0<s.size):s.data.toList.head? =some c↔s[0]=c:=by
 rw [List.head?_eq_getElem?,bAt h,Option.some.injEq]
theorem neg_at {s:ByteArray} (h:0<s.size):negB s=true↔((s[0].toNat:Int)==45)=true:=by
 unfold negB;rw [decide_eq_true_eq,head_at h,beq_iff_eq]
 constructor
 ·intro e;rw [e];rfl
 ·intro e;apply UInt8.toNat_inj.1;show s[0].toNat=45;omega
theorem step_facts {d:ByteArray} {k V:Nat} (ha:d.data.toList.all isD=true) (hk:k<d.size) (hl:d.size≤19) (hV:V=val (d.data.toList.take k)):
 val (d.data.toList.take (k+1))=10*V+(d[k].toNat-48)∧48≤(d[k].toNat:Int)∧(d[k].toNat:Int)≤57∧(V:Int)<1000000000000000000:=by
 have hc:=of_decide_eq_true (List.all_eq_true.1 ha _ (List.mem_of_getElem? (bAt hk)));have h2:(d.data.toList.take k).all isD=true:=List.all_eq_true.2 fun c hc=>List.all_eq_true.1 ha c (List.mem_of_mem_take hc);have h3:=val_lt h2;have h4:(d.data.toList.take k).length≤18:=by rw [List.length_take];omega
 have h5:(10:Nat) ^ (d.data.toList.take k).length≤10 ^ 18:=Nat.pow_le_pow_right (by omega) h4;refine ⟨?_,by omega,by omega,?_⟩
 ·rw [List.take_add_one,bAt hk];show val (_++[d[k]])=_;rw [val_snoc,hV]
 ·rw [hV];have:(10:Nat) ^ 18=1000000000000000000:=by decide
  omega
theorem minus_back (V:Int) (h0:0≤V) (h1:V≤9223372036854775808):wrap64 (wrap64 (-wrap64 (IntKind.u64.wrap (V-1)))-1)= -V:=by
 have e:IntKind.u64.wrap (V-1)=(V-1)%18446744073709551616:=rfl;rw [e];unfold wrap64;omega
set_option maxRecDepth 100000 in
theorem Read (s:ByteArray) (hs:s.size≤9223372036854775807) (w:World):Calls prog 328 #[.string s] w fun e w'=>e=.returned (.tuple #[.int .i64 (readN s).1,.int .i64 (readN s).2])∧w=w':=by
 obtain ⟨d,g,hb,hg,hsz,hcase⟩:∃ d g,bodyB s=d∧negB s=g∧d.size≤s.size∧((g=true∧(0:Int)<(s.size:Int)∧(∀ h:0<s.size,((s[0].toNat:Int)==45)=true)∧s.extract 1 s.size=d∧(d.size:Int)<(s.size:Int))∨(g=false∧d=s∧(¬ (0:Int)<(s.size:Int)∨((0:Int)<(s.size:Int)∧(∀ h:0<s.size,((s[0].toNat:Int)==45)=false))))):=by
  cases hn:negB s with
  |true=>
   have h0:0<s.size:=by
    rcases Nat.eq_zero_or_pos s.size with h|h
    ·unfold negB at hn;have:s.data.toList=[]:=List.length_eq_zero_iff.1 (by rw [len_list];exact h);rw [this] at hn;simp at hn
    ·exact h
   refine ⟨_,_,rfl,rfl,?_,.inl ⟨rfl,by omega,fun h=>(neg_at h).1 hn,?_,?_⟩⟩
   ·unfold bodyB;rw [if_pos hn,ByteArray.size_extract];omega
   ·unfold bodyB;rw [if_pos hn]
   ·unfold bodyB;rw [if_pos hn,ByteArray.size_extract];omega
  |false=>
   have hb:bodyB s=s:=by unfold bodyB;rw [hn,if_neg (by decide)]
   refine ⟨_,_,rfl,rfl,by rw [hb];exact Nat.le_refl _,.inr ⟨rfl,hb,?_⟩⟩
   by_cases h0:0<s.size
   ·refine .inr ⟨by omega,fun h=> ?_⟩;have:=mt (neg_at h).2 (by rw [hn];decide)
    simpa using this
   ·exact .inl (by omega)
 have cd:=fun W=>Digits d (by omega) W;have HB:=kj hb;have HG:=kj hg;have CD:=kj cd;clear hb hg cd
 by_cases hbad:digs d.data.toList=false∨(1<d.size∧d.data.toList.head? =some 48)∨s.data.toList=[45,48]
 ·have HD:=kj (num_bad HB.out hbad);have hcond:digs d.data.toList=false∨(digs d.data.toList=true∧0<d.size∧(((1:Int)<(d.size:Int)∧∀ h:0<d.size,((d[0].toNat:Int)==48)=true)∨((((1:Int)<(d.size:Int)∧∀ h:0<d.size,((d[0].toNat:Int)==48)=false)∨¬(1:Int)<(d.size:Int))∧(s.toList==[45,48])=true))):=by
   cases hd:digs d.data.toList with
   |false=>exact .inl rfl
   |true=>
    have hd0:0<d.size:=by
     rcases Nat.eq_zero_or_pos d.size with h|h
     ·have:d.data.toList=[]:=List.length_eq_zero_iff.1 (by rw [len_list];exact h);rw [this] at hd;cases hd
     ·exact h
    refine .inr ⟨rfl,hd0,?_⟩
    by_cases h48:1<d.size∧d.data.toList.head? =some 48
    ·refine .inl ⟨by omega,fun h=> ?_⟩;rw [(head_at h).1 h48.2];rfl
    ·refine .inr ⟨?_,?_⟩
     ·by_cases h1:1<d.size
      ·refine .inl ⟨by omega,fun h=> ?_⟩;rw [beq_eq_false_iff_ne];intro e;exact h48 ⟨h1,(head_at hd0).2 (UInt8.toNat_inj.1 (by show d[0].toNat=48;omega))⟩
      ·exact .inr (by omega)
     ·rcases hbad with h|h|h
      ·rw [hd] at h;cases h
      ·exact absurd h h48
      ·rw [ByteArray.toList_eq,h];rfl
  clear hbad;rcases hcase with ⟨rfl,q1,q2,q3,q4⟩|⟨rfl,rfl,q1|⟨q1,q2⟩⟩
  all_goals
   (try have q0:0<s.size:=by omega)
   (try replace q2:=q2 q0)
   rcases hcond with hd|⟨hd,hd0,⟨r1,r2⟩|⟨⟨r1,r2⟩|r1,r3⟩⟩
   all_goals
    (try replace r2:=r2 hd0)
    rw [hd] at CD;clear hd
   all_goals first
    |omega
    |(go_enter func328,ntmps328
      go_wp2_with (go_at_call 340;(with_reducible refine (CD.out _).mono ?_);rintro e w' ⟨rfl,rfl⟩)
      go_ret2;rw [HD.out];exact ⟨rfl,rfl⟩)
 ·have hd:digs d.data.toList=true:=by
   cases h:digs d.data.toList with
   |true=>rfl
   |false=>exact absurd (.inl h) hbad
  rw [hd] at CD;have e3:(s.toList==[45,48])=false:=by
   rw [beq_eq_false_iff_ne,ByteArray.toList_eq];exact fun h=>hbad (.inr (.inr h))
  have hd0:0<d.size:=by
   rcases Nat.eq_zero_or_pos d.size with h|h
   ·have:d.data.toList=[]:=List.length_eq_zero_iff.1 (by rw [len_list];exact h);rw [this] at hd;cases hd
   ·exact h
  have hone:((1:Int)<(d.size:Int)∧((d[0].toNat:Int)==48)=false)∨¬(1:Int)<(d.size:Int):=by
   by_cases h:1<d.size
   ·refine .inl ⟨by omega,?_⟩;rw [beq_eq_false_iff_ne];intro e;exact hbad (.inr (.inl ⟨h,(head_at hd0).2 (UInt8.toNat_inj.1 (by show d[0].toNat=48;omega))⟩))
   ·exact .inr (by omega)
  have hall:d.data.toList.all isD=true:=by
   unfold digs at hd;exact (Bool.and_eq_true_iff.1 hd).2
  have HALL:=kj hall;have HBAD:=kj hbad;clear hd hall hbad
  by_cases hl:19<d.size
  ·have HD:=kj (num_long HB.out HBAD.out hl);rcases hcase with ⟨rfl,q1,q2,q3,q4⟩|⟨rfl,rfl,q1|⟨q1,q2⟩⟩
   all_goals
    (try have q0:0<s.size:=by omega)
    (try replace q2:=q2 q0)
    rcases hone with ⟨r1,r2⟩|r1
    all_goals first
     |omega
     |(go_enter func328,ntmps328
       go_wp2_with (go_at_call 340;(with_reducible refine (CD.out _).mono ?_);rintro e w' ⟨rfl,rfl⟩)
       go_ret2;rw [HD.out];exact ⟨rfl,rfl⟩)
  ·have HD:=kj (num_rest HB.out HG.out HBAD.out hl);rcases hcase with ⟨rfl,q1,q2,q3,q4⟩|⟨rfl,rfl,q1|⟨q1,q2⟩⟩
   all_goals
    (try have q0:0<s.size:=by omega)
    (try replace q2:=q2 q0)
    rcases hone with ⟨r1,r2⟩|r1
    all_goals first
     |omega
     |(go_enter func328,ntmps328
       go_wp2_with (go_at_call 340;(with_reducible refine (CD.out _).mono ?_);rintro e w' ⟨rfl,rfl⟩)
       go_loop [6,5] (fun i n=>∃ k:Nat,k≤d.size∧i=.int .i64 k∧n=.int .u64 (val (d.data.toList.take k):Nat)) (fun i _=>d.size-(intOf i).toNat)
       case atStart=>exact ⟨0,Nat.zero_le _,rfl,rfl⟩
       case round=>
        obtain ⟨k,hk,rfl,rfl⟩:=hrel
        by_cases hlt:k<d.size
        ·obtain ⟨V,hV⟩:∃ V,V=val (d.data.toList.take k):=⟨_,rfl⟩;obtain ⟨hc1,hc2,hc3,hc4⟩:=step_facts HALL.out hlt (by omega) hV;rw [← hV];have HS:=kj hc1;clear hc1 hV;go_wp2;go_round
         case rel=>exact ⟨k+1,by omega,by go_num,congrArg (Value.int .u64) (by rw [HS.out];omega)⟩
         case measure=>simp [intOf];omega
        ·obtain rfl:k=d.size:=by omega
         have hV:val (d.data.toList.take d.size)=val d.data.toList:=by rw [List.take_of_length_le (by simp)]
         rw [hV];have hHD:=HD.out;have hb:=val_lt HALL.out;have hb2:(10:Nat) ^ d.data.toList.length≤10 ^ 19:=Nat.pow_le_pow_right (by omega) (by rw [len_list];omega);have hb3:(10:Nat) ^ 19=10000000000000000000:=by decide
         generalize val d.data.toList=V at *;have hb4:(V:Int)<10000000000000000000:=by omega
         have HD2:=kj hHD;clear hHD hb hb2 hb3 hV HD
         by_cases hm1:(9223372036854775808:Int)<(V:Int)
         all_goals by_cases hm2:(9223372036854775807:Int)<(V:Int)
         all_goals first
          |omega
          |(go_wp2
            all_goals
             go_ret2;rw [HD2.out];refine ⟨ret_ii ?_ ?_,rfl⟩
             all_goals
              simp only [if_true,Bool.false_eq_true,if_false]
              split
              all_goals first
               |rfl
               |(exfalso;omega)
               |(dsimp only;omega)
               |exact minus_back V (by omega) (by omega)))
end RNu
end
section
open Go.RowKit NB
namespace Fmt
def u8s (l:List Int):List Value:=l.map fun d=>.int .u8 d
def Oct (l:List Int):Prop:=∀ d∈l,0≤d∧d≤255
theorem u8s_app (a b:List Int):u8s (a++b)=u8s a++u8s b:=by unfold u8s;simp
theorem u8s_back {l:List Int} (h:Oct l):u8s l=(l.map fun d=>UInt8.ofNat d.toNat).map fun c=>Value.int .u8 (c.toNat:Int):=by
 unfold u8s;rw [List.map_map];apply List.map_congr_left;intro d hd;have:=h d hd;simp only [Function.comp_apply];rw [UInt8.toNat_ofNat_of_lt' (by show d.toNat<256;omega)]
 congr 1;omega
theorem str_own {w:World} {B m:Nat} {v:Value} {l:List Int} (h:w.ownsRow B 5 1 v m (u8s l)) (hl:Oct l):(convert 256 9 v).run prog w=.ok (.string (bytesOf l)) w:=by
 have hlen:=h.1;rw [u8s_back hl] at h hlen;unfold bytesOf;generalize (l.map fun d=>UInt8.ofNat d.toNat)=k at *;simp only [List.length_map,Nat.mul_one] at hlen;rcases h.2 with ⟨hv,h2⟩|⟨g,cap,cur,hv,hg,hh,hle,hcap,hcs,htk⟩
 ·subst hv;rw [h2] at hlen;have:k=[]:=List.eq_nil_of_length_eq_zero (by omega);subst this;show (convert 256 9 (.slice none 0 0)).run prog w=.ok (.string ⟨#[]⟩) w
  kernel_rfl
 ·subst hv;subst hlen;refine run_convert_bytes_back w 256 9 5 ⟨g,0,none⟩ cap k underlying256 underlying5 underlying9 (fun j hj=> ?_);have:=h.cells (g:=g) rfl j (.int .u8 (k[j].toNat:Int)) (by rw [List.getElem?_map,List.getElem?_eq_getElem hj];rfl);exact this
theorem own_one {w:World} {base g:Nat} {x:Value} {t:TypeId} (h:w.heap[g]? =some (.cells #[x] t)) (hb:base≤g):w.ownsRow base t 1 (.slice (some ⟨g,0,none⟩) 1 1) 1 [x]:=
 ⟨by simp,.inr ⟨g,1,#[x],rfl,hb,h,Nat.le_refl _,by decide,by simp,by simp⟩⟩
theorem cell_two_new (w:World) (x y:Value) (t:TypeId):∀ j u,[x,y][j]? =some u→(w.alloc (.cells #[x,y] t)).cell? ((⟨w.heap.size,0,none⟩:Addr).add j)=some u:=by
 intro j u hj;rw [show ((⟨w.heap.size,0,none⟩:Addr).add j)=⟨w.heap.size,0+j,none⟩ by unfold Addr.add;split<;>simp_all,Nat.zero_add,new_cell]
 simpa using hj
def restW (n:Int) (j:Nat):Int:=if j=0 then n else if j=1 then n%3600 else if j=2 then n%60 else 0
def outW (n:Int) (j:Nat):List Int:=if j=0 then [] else if j=1 then dig (n/3600) else if j=2 then dig (n/3600)++(if 0<n%3600 then dig (n/60%60) else []) else hms n
def unitW (j:Nat):Int:=if j=0 then 3600 else if j=1 then 60 else 1
theorem dig_oct {k:Int} (h0:0≤k) (h1:k≤99):Oct (dig k):=by
 intro d hd;unfold dig at hd;simp only [List.mem_cons,List.not_mem_nil,or_false] at hd;rcases hd with rfl|rfl<;>omega
theorem oct_app {a b:List Int} (ha:Oct a) (hb:Oct b):Oct (a++b):=by
 intro d hd;rcases List.mem_append.1 hd with h|h
 ·exact ha d h
 ·exact hb d h
theorem oct_nil:Oct []:=by intro d hd;cases hd
theorem hms_oct {n:Int} (h0:0≤n) (h1:n≤359999):Oct (hms n):=by
 unfold hms;refine oct_app (dig_oct (by omega) (by omega)) (oct_app ?_ ?_)
 ·split
  ·exact dig_oct (by omega) (by omega)
  ·exact oct_nil
 ·split
  ·exact dig_oct (by omega) (by omega)
  ·exact oct_nil
set_option maxRecDepth 100000 in
set_option maxHeartbeats 3200000 in
theorem written (off:Int) (h0: -359999≤off) (h1:off≤359999) (w:World):Calls prog 242 #[.int .i64 off] w fun e w'=>e=.returned (.string (writtenB off))∧Below w.heap.size w w':=by
 obtain ⟨i0,hi,hz0,hz1,hz2⟩:=info_parts Txt.info_u8;obtain ⟨A,sg,hA0,hA1,hS,hcase⟩:∃ A sg:Int,0≤A∧A≤359999∧writtenB off=bytesOf (sg :: hms A)∧((off<0∧A= -off∧sg=45)∨(¬ off<0∧A=off∧sg=43)):=by
  by_cases h:off<0
  ·exact ⟨-off,45,by omega,by omega,by unfold writtenB writtenL;rw [if_pos h],.inl ⟨h,rfl,rfl⟩⟩
  ·exact ⟨off,43,by omega,by omega,by unfold writtenB writtenL;rw [if_neg h],.inr ⟨h,rfl,rfl⟩⟩
 rw [hS];have hsg:Oct [sg]:=by
  intro d hd;rw [List.mem_singleton] at hd;omega
 clear hS;have hst:∀ wr,Box wr w.heap.size #[.int .u8 sg] 5→wr.ownsRow w.heap.size 5 1 (.slice (some ⟨w.heap.size,0,none⟩) 1 1) 1 (u8s (sg :: outW A 0)):=fun wr h=>own_one h (Nat.le_refl _);have hsg45:off<0→sg=45:=by omega
 have hsg43:¬off<0→sg=43:=by omega
 have hR0:0≤A/3600∧A/3600≤99:=by omega
 have hR1:0≤A%3600/60∧A%3600/60≤99:=by omega
 have hR2:0≤A%60∧A%60≤59:=by omega
 have h12:A%3600%60=A%60:=by omega
 have hm1:0≤A%3600∧A%3600≤3599:=by omega
 have o1:outW A 1=dig (A/3600):=rfl;have o2:outW A 2=dig (A/3600)++(if 0<A%3600 then dig (A%3600/60) else []):=by
  rw [show A%3600/60=A/60%60 by omega];rfl
 have o3:outW A 3=outW A 2++(if 0<A%60 then dig (A%60) else []):=by
  show hms A=(dig (A/3600)++(if 0<A%3600 then dig (A/60%60) else []))++_;unfold hms;rw [List.append_assoc]
 have hfin:Oct (sg :: hms A):=oct_app hsg (hms_oct hA0 hA1);have Hst:=kj hst;have Hfin:=kj hfin;have O1:=kj o1;have O2:=kj o2;have O3:=kj o3;have H12:=kj h12;have Hcase:=kj hcase;have HS5:=kj hsg45;have HS3:=kj hsg43;clear hst hsg hfin o1 o2 o3 hcase h12 hsg45 hsg43
 by_cases hneg:off<0
 all_goals
  first
   |(have hsE:sg=45:=HS5.out hneg
     have hA:off= -A:=by have:=Hcase.out;omega)
   |(have hsE:sg=43:=HS3.out hneg
     have hA:off=A:=by have:=Hcase.out;omega)
  have HsE:=kj hsE;clear hsE Hcase HS5 HS3;have HA:=kj hA;clear hA;go_enter func242,ntmps242
  go_upto_region 6 with fail
  have i0':∀ w,(Instr.index 293 (.agg #[.int .i64 3600,.int .i64 60,.int .i64 1]) (.int .i64 0)).run prog w=.ok (.int .i64 3600) w:=fun _=>by kernel_rfl
  have i1':∀ w,(Instr.index 293 (.agg #[.int .i64 3600,.int .i64 60,.int .i64 1]) (.int .i64 1)).run prog w=.ok (.int .i64 60) w:=fun _=>by kernel_rfl
  have i2':∀ w,(Instr.index 293 (.agg #[.int .i64 3600,.int .i64 60,.int .i64 1]) (.int .i64 2)).run prog w=.ok (.int .i64 1) w:=fun _=>by kernel_rfl
  first
   |rw [show wrap64 (-off)=A by have:=HA.out;unfold wrap64;omega]
   |rw [show -off=A by have:=HA.out;omega]
   |(have hoA:=HA.out;rw [hoA];clear hoA)
  have hX:Below w.heap.size w ((w.alloc (.cells #[.int .u8 sg] 5)).alloc (.cells #[.int .i64 3600,.int .i64 60,.int .i64 1] 293)):=bcq;obtain ⟨X,hXe,hrowX,hbX⟩:∃ X,X=((w.alloc (.cells #[.int .u8 sg] 5)).alloc (.cells #[.int .i64 3600,.int .i64 60,.int .i64 1] 293))∧X.ownsRow w.heap.size 5 1 (.slice (some ⟨w.heap.size,0,none⟩) 1 1) 1 (u8s (sg :: outW A 0))∧Below w.heap.size w X:=⟨_,rfl,Hst.out _ ((Box.new w _ _).old),hX⟩;rw [HsE.out] at hXe;rw [← hXe];clear hXe hX Hst
  go_loopw [17,0,3] (fun i n b wr=>∃ (j m:Nat),i=.int .i64 j∧j≤3∧n=.int .i64 (restW A j)∧m≤2*j+1∧wr.ownsRow w.heap.size 5 1 b m (u8s (sg :: outW A j))∧Below w.heap.size w wr) (fun i _ _ _=>3-(intOf i).toNat)
  case atStart=>exact ⟨0,1,rfl,by omega,rfl,by omega,hrowX,hbX⟩
  case round=>
   clear hrowX hbX;obtain ⟨j,m,rfl,hj,rfl,hm,hO,hBl⟩:=hrel;have hBs:=hBl.size;rcases (by omega:j=0∨j=1∨j=2∨j=3) with rfl|rfl|rfl|rfl
   ·have e0:restW A 0=A:=rfl;rw [e0]
    go_wp2_with (at_builtin;refine wpList_append_own _ rfl _ _ 256 rfl w.heap.size 5 i0 (.int .u8 0) 1 1 underlying256 hi hz0 hz1 hz2 rfl (by decide) _ _ _ rfl (hO.alloc _) ⟨wr.heap.size,0,none⟩ 2 2 [.int .u8 (48+(A/3600)/10),.int .u8 (48+(A/3600)%10)] rfl rfl (cell_two_new _ _ _ _) (by intro u hu;simp at hu;rcases hu with rfl|rfl<;>rfl) (by unfold maxLen;omega) (by omega) (by simp;omega) ?_;intro v3 w3 hown3 hg3 _)
    go_roundw
    case rel=>
     exact ⟨1,m+2,by go_num,by omega,rfl,by omega,(by rw [O1.out];exact hown3),(hBl.alloc hBl.size _).grown hg3 (by simp;omega) (fun k hk=>(hO.lt k hk).1)⟩
    case measure=>simp [intOf]
   ·have e0:restW A 1=A%3600:=rfl;rw [e0]
    by_cases hpos:0<A%3600
    ·go_wp2_with (at_builtin;refine wpList_append_own _ rfl _ _ 256 rfl w.heap.size 5 i0 (.int .u8 0) 1 1 underlying256 hi hz0 hz1 hz2 rfl (by decide) _ _ _ rfl (hO.alloc _) ⟨wr.heap.size,0,none⟩ 2 2 [.int .u8 (48+(A%3600/60)/10),.int .u8 (48+(A%3600/60)%10)] rfl rfl (cell_two_new _ _ _ _) (by intro u hu;simp at hu;rcases hu with rfl|rfl<;>rfl) (by unfold maxLen;omega) (by omega) (by simp;omega) ?_;intro v3 w3 hown3 hg3 _)
     go_roundw
     case rel=>exact ⟨2,m+2,by go_num,by omega,(by show Value.int .i64 _=Value.int .i64 (A%60);rw [H12.out]),by omega,(by rw [O2.out,if_pos hpos];rw [O1.out] at hown3;exact hown3),(hBl.alloc hBl.size _).grown hg3 (by simp;omega) (fun k hk=>(hO.lt k hk).1)⟩
     case measure=>simp [intOf]
    ·go_wp2;go_roundw
     case rel=>exact ⟨2,m,by go_num,by omega,(by show Value.int .i64 _=Value.int .i64 (A%60);rw [H12.out]),by omega,(by rw [O2.out,if_neg hpos,List.append_nil, ←O1.out];exact hO),hBl⟩
     case measure=>simp [intOf]
   ·have e0:restW A 2=A%60:=rfl;rw [e0]
    by_cases hpos:0<A%60
    ·go_wp2_with (at_builtin;refine wpList_append_own _ rfl _ _ 256 rfl w.heap.size 5 i0 (.int .u8 0) 1 1 underlying256 hi hz0 hz1 hz2 rfl (by decide) _ _ _ rfl (hO.alloc _) ⟨wr.heap.size,0,none⟩ 2 2 [.int .u8 (48+(A%60)/10),.int .u8 (48+A%10)] rfl rfl (cell_two_new _ _ _ _) (by intro u hu;simp at hu;rcases hu with rfl|rfl<;>rfl) (by unfold maxLen;omega) (by omega) (by simp;omega) ?_;intro v3 w3 hown3 hg3 _)
     go_roundw
     case rel=>exact ⟨3,m+2,by go_num,by omega,(by show Value.int .i64 _=Value.int .i64 0;congr 1),by omega,(by rw [O3.out,if_pos hpos,show sg :: (outW A 2++dig (A%60))=(sg :: outW A 2)++dig (A%60) from rfl,u8s_app];unfold dig;rw [show A%60%10=A%10 by omega];exact hown3),(hBl.alloc hBl.size _).grown hg3 (by simp;omega) (fun k hk=>(hO.lt k hk).1)⟩
     case measure=>simp [intOf]
    ·go_wp2;go_roundw
     case rel=>exact ⟨3,m,by go_num,by omega,(by show Value.int .i64 _=Value.int .i64 0;congr 1),by omega,(by rw [O3.out,if_neg hpos,List.append_nil];exact hO),hBl⟩
     case measure=>simp [intOf]
   ·have hr:=str_own hO Hfin.out;clear hO;go_wp2;go_ret;exact ⟨rfl,hBl⟩
theorem cutF_size (s:ByteArray) (h:s.size≤16):(cutF s).2.1.size≤16∧(cutF s).2.2.size≤16:=by
 have z1:=cut_size s.data.toList [37,115];have z2:=cut_size s.data.toList [47];simp only [Array.length_toList] at z1 z2;have hsz:s.data.size=s.size:=rfl;have m:∀ l:List UInt8,(⟨l.toArray⟩:ByteArray).size=l.length:=fun l=>by show l.toArray.size=_;simp
 have e:(⟨#[]⟩:ByteArray).size=0:=rfl;unfold cutF;simp only
 split
 ·exact ⟨by simp [e],by simp [e]⟩
 ·split
  ·exact ⟨by rw [m];omega,by rw [m];omega⟩
  ·split
   ·exact ⟨by rw [m];omega,by rw [m];omega⟩
   ·split
    ·exact ⟨h,by simp [e]⟩
    ·exact ⟨by simp [e],by simp [e]⟩
set_option maxHeartbeats 3200000 in
theorem Abbr (s:ByteArray) (hs:s.size≤9223372036854775807) (off save:Int) (letter:ByteArray) (hl:letter.size≤1000000) (w:World) (ht:Tab w):
 Calls prog 182 #[.string s,.int .i64 off,.int .i64 save,.string letter] w fun e w'=>e=.returned (.tuple #[.string (abbrF s off save letter).1,.int .i64 (abbrF s off save letter).2])∧Below w.heap.size w w':=by
 have cc:=fun W (h:Tab W)=>Check s hs W h;unfold abbrF;have HT:=kj ht;clear ht
 by_cases h0:checkE s=0
 rotate_left
 ·rw [if_pos h0];generalize checkE s=ce at *;have Cc:=kj cc;clear cc;go_enter func182,ntmps182
  go_wp2_with (go_at_call 155;(with_reducible refine (Cc.out _ ?_).mono ?_);(· exact HT.out.later bcq);rintro e w1 ⟨rfl,hb1⟩;obtain ⟨hc1,hf1⟩:=bcell hb1)
  go_ret2;exact ⟨rfl,bcq⟩
 rw [if_neg (by simpa using h0)];have hz:=(check_kind h0).2;rw [h0] at cc;have Cc:=kj cc;clear cc
 by_cases h1:off < -359999∨359999<off
 ·rw [if_pos h1];go_enter func182,ntmps182
  go_wp2_with (go_at_call 155;(with_reducible refine (Cc.out _ ?_).mono ?_);(· exact HT.out.later bcq);rintro e w1 ⟨rfl,hb1⟩;obtain ⟨hc1,hf1⟩:=bcell hb1)
  all_goals
   go_ret2;exact ⟨rfl,bcq⟩
 rw [if_neg h1];have hk:=cutF_size s hz;have ck:=fun W (h:Tab W)=>cut s (by omega) W h;have cw:=fun W=>written off (by omega) (by omega) W;generalize cutF s=c at *;obtain ⟨k,a,b⟩:=c;simp only at ck hk ⊢;generalize writtenB off=wb at *;have Ck:=kj ck;have Cw:=kj cw;have hab:(a++letter).size=a.size+letter.size:=ByteArray.size_append;obtain ⟨ha,hb⟩:=hk;have t1:a.size+letter.size≤9223372036854775807:=by omega
 have t2:(a++letter).size+b.size≤9223372036854775807:=by omega
 have cat1:=fun W=>run_string_add_sum (P:=prog) W a letter t1;have cat2:=fun W=>run_string_add_sum (P:=prog) W (a++letter) b t2;clear ck cw hab;have b1:¬off < -359999:=fun h=>h1 (.inl h);have b2:¬359999<off:=fun h=>h1 (.inr h);clear h1 h0
 by_cases k2:k=2
 ·rw [if_pos k2];subst k2;go_enter func182,ntmps182
  go_wp2_with (first
   |(go_at_call 155;(with_reducible refine (Cc.out _ ?_).mono ?_);(· exact HT.out.later bcq);rintro e w1 ⟨rfl,hb1⟩;obtain ⟨hc1,hf1⟩:=bcell hb1)
   |(go_at_call 215;(with_reducible refine (Ck.out _ ?_).mono ?_);(· exact HT.out.later bcq);rintro e w2 ⟨rfl,hb2⟩;obtain ⟨hc2,hf2⟩:=bcell hb2))
  go_ret2;exact ⟨rfl,bcq⟩
 rw [if_neg k2]
 by_cases k3:k=3
 ·rw [if_pos k3];subst k3;go_enter func182,ntmps182
  go_wp2_with (first
   |(go_at_call 155;(with_reducible refine (Cc.out _ ?_).mono ?_);(· exact HT.out.later bcq);rintro e w1 ⟨rfl,hb1⟩;obtain ⟨hc1,hf1⟩:=bcell hb1)
   |(go_at_call 215;(with_reducible refine (Ck.out _ ?_).mono ?_);(· exact HT.out.later bcq);rintro e w2 ⟨rfl,hb2⟩;obtain ⟨hc2,hf2⟩:=bcell hb2)
   |(go_at_call 242;(with_reducible refine (Cw.out _).mono ?_);rintro e w3 ⟨rfl,hb3⟩;obtain ⟨hc3,hf3⟩:=bcell hb3))
  go_ret2;exact ⟨rfl,bcq⟩
 rw [if_neg k3]
 by_cases k4:k=4
 ·subst k4
  by_cases hsv:save=0
  ·rw [if_neg (by simp [hsv])];go_enter func182,ntmps182
   go_wp2_with (first
    |(go_at_call 155;(with_reducible refine (Cc.out _ ?_).mono ?_);(· exact HT.out.later bcq);rintro e w1 ⟨rfl,hb1⟩;obtain ⟨hc1,hf1⟩:=bcell hb1)
    |(go_at_call 215;(with_reducible refine (Ck.out _ ?_).mono ?_);(· exact HT.out.later bcq);rintro e w2 ⟨rfl,hb2⟩;obtain ⟨hc2,hf2⟩:=bcell hb2))
   go_ret2;exact ⟨rfl,bcq⟩
  ·rw [if_pos ⟨rfl,hsv⟩];go_enter func182,ntmps182
   go_wp2_with (first
    |(go_at_call 155;(with_reducible refine (Cc.out _ ?_).mono ?_);(· exact HT.out.later bcq);rintro e w1 ⟨rfl,hb1⟩;obtain ⟨hc1,hf1⟩:=bcell hb1)
    |(go_at_call 215;(with_reducible refine (Ck.out _ ?_).mono ?_);(· exact HT.out.later bcq);rintro e w2 ⟨rfl,hb2⟩;obtain ⟨hc2,hf2⟩:=bcell hb2))
   go_ret2;exact ⟨rfl,bcq⟩
 ·rw [if_neg (fun h=>k4 h.1)];go_enter func182,ntmps182
  go_wp2_with (first
   |(go_at_call 155;(with_reducible refine (Cc.out _ ?_).mono ?_);(· exact HT.out.later bcq);rintro e w1 ⟨rfl,hb1⟩;obtain ⟨hc1,hf1⟩:=bcell hb1)
   |(go_at_call 215;(with_reducible refine (Ck.out _ ?_).mono ?_);(· exact HT.out.later bcq);rintro e w2 ⟨rfl,hb2⟩;obtain ⟨hc2,hf2⟩:=bcell hb2))
  go_ret2;exact ⟨rfl,bcq⟩
end Fmt
end
end Go.Proofs.YtgmfojgnjdpofaaGreatDoor
