import Derived.Test.YtgmfojgnjdpofaaGreatDoorG1
import Derived.Test.YtgmfojgnjdpofaaGreatDoorProg
namespace Go.Proofs.YtgmfojgnjdpofaaGreatDoor
section
open Go.RowKit NB
namespace Nam
def okFirst (c:UInt8):Bool:=(decide (97≤(c ||| 32).toNat)&&decide ((c ||| 32).toNat≤122))||c==95
def okOther (c:UInt8):Bool:=(decide (48≤c.toNat)&&decide (c.toNat≤57))||decide (0≤Go.Lib.indexByte [45,43,47,46] c)
def okAt (l:List UInt8) (j:Nat):Bool:=match l[j]? with
 |none=>true
 |some c=>okFirst c||(decide (0<j)&&okOther c)
def okAll (l:List UInt8):Bool:=(List.range l.length).all (okAt l)
def nameR (s:ByteArray):Int:=if okAll s.data.toList then (if s.data.toList=[] then 10 else 0) else 10
def nameE (s:ByteArray):Int:=if 64<s.size then 9 else nameR s
theorem or32 (c:UInt8):bits .or .u8 (c.toNat:Int) 32=((c ||| 32).toNat:Int):=by
 rw [u8_or _ _ (by omega) (by have:=c.toNat_lt;omega) (by omega) (by omega)]
 simp [UInt8.toNat_or]
theorem okAt_iff {l:List UInt8} {k:Nat} {c:UInt8} (h:l[k]? =some c):
 okAt l k=true↔(97≤((c ||| 32).toNat:Int)∧((c ||| 32).toNat:Int)≤122)∨(c.toNat:Int)=95∨(0<(k:Int)∧((48≤(c.toNat:Int)∧(c.toNat:Int)≤57)∨0≤Go.Lib.indexByte [45,43,47,46] c)):=by
 have e:(c==95)=true↔(c.toNat:Int)=95:=by
  rw [beq_iff_eq]
  constructor
  ·rintro rfl;rfl
  ·intro h;apply UInt8.toNat_inj.1;show c.toNat=95;omega
 unfold okAt okFirst okOther
 rw [h]
 simp only [Bool.or_eq_true,Bool.and_eq_true,decide_eq_true_eq,e]
 omega
theorem all_succ {l:List UInt8} {k:Nat} (h:(List.range k).all (okAt l)=true) (h2:okAt l k=true):(List.range (k+1)).all (okAt l)=true:=by
 rw [List.range_succ,List.all_append,h];simp [h2]
theorem not_all {l:List UInt8} {k:Nat} (hk:k<l.length) (h2:¬okAt l k=true):okAll l=false:=by
 unfold okAll
 rw [Bool.eq_false_iff]
 intro h
 exact h2 (List.all_eq_true.1 h k (List.mem_range.2 hk))
set_option maxRecDepth 100000 in
set_option maxHeartbeats 1600000 in
theorem Name_le (s:ByteArray) (hs:s.size≤64) (w:World):Calls Tryz.prog 157 #[.string s] w fun e w'=>e= .returned (.int .i64 (nameR s))∧Below w.heap.size w w':=by
 obtain ⟨cap,o,hrun,hcell⟩:=Lb.bytes_of w s
 have Hcell:=Lib.hid hcell;clear hcell
 have hlen:s.data.toList.length=s.size:=by simp
 have Hlen:=Lib.hid hlen;clear hlen
 have hB:Below w.heap.size w (w.alloc o).drew:=((Below.refl _ _).alloc (Nat.le_refl _) _).drew
 have HB:=Lib.hid hB;clear hB
 go_enter Tryz.func157,Tryz.ntmps157
 go_wp2
 go_loop [11] (fun i=>∃ k:Nat,k≤s.size∧i= .int .i64 k∧(List.range k).all (okAt s.data.toList)=true) (fun i=>s.size-(intOf i).toNat)
 case atStart=>exact ⟨0,Nat.zero_le _,rfl,rfl⟩
 case round=>
  obtain ⟨k,hk,rfl,hall⟩:=hrel
  have Hall:=Lib.hid hall;clear hall
  by_cases hlt:k<s.size
  ·obtain ⟨c,hc⟩:∃ c,s.data.toList[k]? =some c:=⟨s.data.toList[k]'(by rw [Hlen.out];exact hlt),by simp⟩
   have c1:=Hcell.out k c hc
   have hiff:=Lib.hid (okAt_iff hc)
   have Hc:=Lib.hid hc;clear hc
   have hor:=or32 c
   have hcb:(c.toNat:Int)<256:=by have:=c.toNat_lt;omega
   generalize (c ||| 32).toNat=t at hor hiff
   generalize hix:Go.Lib.indexByte [45,43,47,46] c=ix at hiff
   have hcu:(c.toNat:Int).toNat.toUInt8=c:=by simp
   rw [← hcu] at hix
   have Hix:=Lib.hid hix;clear hix hcu
   go_wp2_with (go_at_call 219;refine (Lb.IndexByte _ _ _).mono ?_;rw [Hix.out];rintro e w' ⟨rfl,rfl⟩)
   all_goals
    first
     |(go_round
       case rel=>
        refine ⟨k+1,by omega,by go_num,all_succ Hall.out (hiff.out.2 ?_)⟩
        simp only [beq_iff_eq,beq_eq_false_iff_ne,ne_eq] at *
        omega
       case measure=>simp [intOf];omega)
     |(go_ret
       refine ⟨ret_int ?_,HB.out⟩
       unfold nameR
       rw [not_all (k:=k) (by rw [Hlen.out];exact hlt) (by
        rw [hiff.out]
        simp only [beq_eq_false_iff_ne,ne_eq] at *
        omega)]
       rfl)
  ·have hks:k=s.size:=by omega
   have hfin:okAll s.data.toList=true:=by
    unfold okAll;rw [Hlen.out, ←hks];exact Hall.out
   have Hfin:=Lib.hid hfin;clear hfin hks
   by_cases he:s.toList=[]
   ·have e1:s.toList.isEmpty=true:=by simp [he]
    have e2:s.data.toList=[]:=by rw [← ByteArray.toList_eq];exact he
    have E2:=Lib.hid e2;clear e2 he
    go_wp2
    go_ret
    refine ⟨ret_int ?_,HB.out⟩
    unfold nameR
    rw [if_pos Hfin.out,if_pos E2.out]
   ·have e1:s.toList.isEmpty=false:=by simp [he]
    have e2:¬s.data.toList=[]:=by rw [← ByteArray.toList_eq];exact he
    have E2:=Lib.hid e2;clear e2 he
    go_wp2
    go_ret
    refine ⟨ret_int ?_,HB.out⟩
    unfold nameR
    rw [if_pos Hfin.out,if_neg E2.out]
theorem Name (s:ByteArray) (hm:s.size≤9223372036854775807) (w:World):Calls Tryz.prog 157 #[.string s] w fun e w'=>e= .returned (.int .i64 (nameE s))∧Below w.heap.size w w':=by
 unfold nameE
 by_cases h:64<s.size
 ·rw [if_pos h]
  go_enter Tryz.func157,Tryz.ntmps157
  go_wp2
  go_ret
  exact ⟨rfl,Below.refl _ _⟩
 ·rw [if_neg h]
  exact Name_le s (by omega) w
end Nam
end
section
open Go.RowKit NB
namespace Fmt
def wset:List UInt8:=[65,66,67,68,69,70,71,72,73,74,75,76,77,78,79,80,81,82,83,84,85,86,87,88,89,90,97,98,99,100,101,102,103,104,105,106,107,108,109,110,111,112,113,114,115,116,117,118,119,120,121,122,48,49,50,51,52,53,54,55,56,57,43,45]
def wordB (s:ByteArray):Bool:=s.data.toList.all (wset.contains ·)
theorem dropWhile_nil {l:List UInt8} {p:UInt8→Bool}:l.dropWhile p=[]↔l.all p=true:=by
 induction l with
 |nil=>simp
 |cons a l ih=>
  by_cases h:p a=true
  ·simp [h,ih]
  ·simp [h]
theorem trim_nil (l cs:List UInt8):Go.Lib.trimS l cs=[]↔l.all (cs.contains ·)=true:=by
 unfold Go.Lib.trimS Go.Lib.trimLeftS Go.Lib.trimRightS
 rw [dropWhile_nil]
 constructor
 ·intro h
  have h2:(l.reverse.dropWhile (cs.contains ·)).all (cs.contains ·)=true:=by
   rw [← List.all_reverse];exact h
  rcases hd:l.reverse.dropWhile (cs.contains ·) with _|⟨a,t⟩
  ·rw [dropWhile_nil,List.all_reverse] at hd;exact hd
  ·have:=List.head_dropWhile_not (l:=l.reverse) (cs.contains ·) (by rw [hd];simp)
   simp only [hd,List.head_cons] at this
   rw [hd] at h2
   simp only [List.all_cons,Bool.and_eq_true] at h2
   rw [this] at h2
   exact absurd h2.1 (by simp)
 ·intro h
  have:l.reverse.dropWhile (cs.contains ·)=[]:=by rw [dropWhile_nil,List.all_reverse];exact h
  rw [this];rfl
theorem emp (l:List UInt8):(⟨l.toArray⟩:ByteArray).toList.isEmpty=l.isEmpty:=by rw [ByteArray.toList_eq]
theorem word (s:ByteArray) (hs:s.size≤9223372036854775807) (w:World):Calls Tryz.prog 271 #[.string s] w fun e w'=>e= .returned (.bool (wordB s))∧Below w.heap.size w w':=by
 have hcon:=Lb.Trim s ⟨#[65,66,67,68,69,70,71,72,73,74,75,76,77,78,79,80,81,82,83,84,85,86,87,88,89,90,97,98,99,100,101,102,103,104,105,106,107,108,109,110,111,112,113,114,115,116,117,118,119,120,121,122,48,49,50,51,52,53,54,55,56,57,43,45]⟩ w hs (by decide) (ascii_of_all (by decide))
 have hf:(⟨(Go.Lib.trimS s.data.toList wset).toArray⟩:ByteArray).toList.isEmpty=wordB s:=by
  rw [emp,Bool.eq_iff_iff,List.isEmpty_iff,trim_nil];rfl
 change Calls Tryz.prog 299 _ _ (fun e w'=>e= .returned (.string ⟨(Go.Lib.trimS s.data.toList wset).toArray⟩)∧Below w.heap.size w w') at hcon
 rw [← hf]
 generalize (⟨(Go.Lib.trimS s.data.toList wset).toArray⟩:ByteArray)=r at hcon ⊢
 clear hf
 have Hcon:=Lib.hid hcon;clear hcon
 go_enter Tryz.func271,Tryz.ntmps271
 go_wp2_with (go_at_call 299;refine Hcon.out.mono ?_;rintro e w' ⟨rfl,hB⟩)
 go_ret
 exact ⟨rfl,hB⟩
def letS (s:ByteArray):ByteArray:=if s.toList=[45]∨6<s.size∨s.toList=[]∨wordB s=false then ⟨#[]⟩ else s
def letE (s:ByteArray):Int:=if s.toList=[45] then 0 else if 6<s.size then 9 else if s.toList=[]∨wordB s=false then 4 else 0
set_option maxHeartbeats 800000 in
theorem Letter (s:ByteArray) (hs:s.size≤9223372036854775807) (w:World):Calls Tryz.prog 279 #[.string s] w fun e w'=>e= .returned (.tuple #[.string (letS s),.int .i64 (letE s)])∧Below w.heap.size w w':=by
 unfold letS letE
 by_cases h1:s.toList=[45]
 ·have e1:(s.toList==[45])=true:=by simp [h1]
  rw [if_pos (.inl h1),if_pos h1]
  clear h1
  go_enter Tryz.func279,Tryz.ntmps279
  go_wp2
  go_ret2
  exact ⟨rfl,Below.refl _ _⟩
 ·have e1:(s.toList==[45])=false:=by simp [h1]
  rw [if_neg h1]
  by_cases h2:6<s.size
  ·rw [if_pos (.inr (.inl h2)),if_pos h2]
   clear h1
   go_enter Tryz.func279,Tryz.ntmps279
   go_wp2
   go_ret2
   exact ⟨rfl,Below.refl _ _⟩
  ·rw [if_neg h2]
   by_cases h3:s.toList=[]
   ·have e3:s.toList.isEmpty=true:=by simp [h3]
    rw [if_pos (.inr (.inr (.inl h3))),if_pos (.inl h3)]
    clear h1
    have H3:=Lib.hid h3;clear h3
    go_enter Tryz.func279,Tryz.ntmps279
    go_wp2
    go_ret2
    exact ⟨rfl,Below.refl _ _⟩
   ·have e3:s.toList.isEmpty=false:=by simp [h3]
    cases h4:wordB s
    ·rw [if_pos (.inr (.inr (.inr rfl))),if_pos (.inr rfl)]
     clear h1 h3
     have H4:=Lib.hid h4;clear h4
     go_enter Tryz.func279,Tryz.ntmps279
     go_wp2_with (go_at_call 271;refine (word _ (by omega) _).mono ?_;rw [H4.out];rintro e w' ⟨rfl,hB⟩)
     go_ret2
     exact ⟨rfl,hB⟩
    ·rw [if_neg (by simp [h1,h2,h3]),if_neg (by simp [h3])]
     clear h1 h3
     have H4:=Lib.hid h4;clear h4
     go_enter Tryz.func279,Tryz.ntmps279
     go_wp2_with (go_at_call 271;refine (word _ (by omega) _).mono ?_;rw [H4.out];rintro e w' ⟨rfl,hB⟩)
     go_ret2
     exact ⟨rfl,hB⟩
def letterOK (s:ByteArray):Bool:=decide (s.toList=[])||(!decide (s.toList=[45])&&decide (s.size≤6)&&wordB s)
theorem letter_ok {s:ByteArray} (h:s.toList≠[]):letterOK s=true↔letE s=0∧s.toList≠[45]:=by
 unfold letterOK letE
 by_cases h1:s.toList=[45]
 ·simp [h1]
 ·by_cases h2:6<s.size
  ·simp [h1,h2,h];omega
  ·cases h4:wordB s<;>simp [h1,h2,h]<;>omega
def ltext (s:ByteArray):ByteArray:=if s.toList=[] then ⟨#[45]⟩ else if letterOK s then s else ⟨#[]⟩
set_option maxHeartbeats 800000 in
theorem LetterText (s:ByteArray) (hs:s.size≤9223372036854775807) (w:World):Calls Tryz.prog 226 #[.string s] w fun e w'=>e= .returned (.tuple #[.string (ltext s),.int .i64 (if letterOK s then 0 else 4)])∧Below w.heap.size w w':=by
 unfold ltext
 by_cases h1:s.toList=[]
 ·have e1:s.toList.isEmpty=true:=by simp [h1]
  have e2:letterOK s=true:=by unfold letterOK;simp [h1]
  rw [if_pos h1,e2]
  clear h1 e2
  go_enter Tryz.func226,Tryz.ntmps226
  go_wp2
  go_ret2
  exact ⟨rfl,Below.refl _ _⟩
 ·have e1:s.toList.isEmpty=false:=by simp [h1]
  rw [if_neg h1]
  have hk:=letter_ok h1
  cases h4:letterOK s
  ·by_cases h5:letE s=0
   ·have h6:s.toList=[45]:=by
     by_cases h6:s.toList=[45]
     ·exact h6
     ·exact absurd (hk.2 ⟨h5,h6⟩) (by rw [h4];simp)
    have h7:letS s=⟨#[]⟩:=by unfold letS;rw [if_pos (.inl h6)]
    have h8:(([]:List UInt8)==s.toList)=false:=by simp [h6]
    have H5:=Lib.hid h5;have H7:=Lib.hid h7
    clear hk h4 h5 h6 h7 h1
    go_enter Tryz.func226,Tryz.ntmps226
    go_wp2_with (go_at_call 279;refine (Letter _ (by omega) _).mono ?_;rw [H5.out,H7.out];rintro e w' ⟨rfl,hB⟩)
    go_ret2
    exact ⟨rfl,hB⟩
   ·have h6:(letE s != 0)=true:=by simp [h5]
    have h6':(letE s==0)=false:=by simp [h5]
    clear hk h4 h5 h1
    go_enter Tryz.func226,Tryz.ntmps226
    go_wp2_with (go_at_call 279;refine (Letter _ (by omega) _).mono ?_;rintro e w' ⟨rfl,hB⟩)
    go_ret2
    exact ⟨rfl,hB⟩
  ·obtain ⟨h5,h6⟩:=hk.1 h4
   have h7:letS s=s:=by
    unfold letS
    unfold letE at h5
    rw [if_neg h6] at h5
    rw [if_neg]
    rintro (h|h|h|h)
    ·exact h6 h
    ·rw [if_pos h] at h5;cases h5
    ·exact h1 h
    ·by_cases h2:6<s.size
     ·rw [if_pos h2] at h5;cases h5
     ·rw [if_neg h2,if_pos (.inr h)] at h5;cases h5
   have H5:=Lib.hid h5;have H7:=Lib.hid h7
   clear hk h4 h5 h6 h7 h1
   go_enter Tryz.func226,Tryz.ntmps226
   go_wp2_with (go_at_call 279;refine (Letter _ (by omega) _).mono ?_;rw [H5.out,H7.out];rintro e w' ⟨rfl,hB⟩)
   go_ret2
   exact ⟨rfl,hB⟩
end Fmt
end
section
open Go.RowKit NB
namespace Num
theorem div_tail (w:World) (n:Nat):Below w.heap.size w (w.drewN n):=⟨rfl,rfl,rfl,Nat.le_refl _,fun _ _=>rfl⟩
set_option maxHeartbeats 400000 in
theorem Div (a b:Int) (h0: -9223372036854775808<a) (h1:a≤9223372036854775807) (h2:1≤b) (h3:b≤4611686018427387904) (w:World):
 Calls Tryz.prog 132 #[.int .i64 a,.int .i64 b] w fun e w'=>e= .returned (.tuple #[.int .i64 (a/b),.int .i64 (a%b),.int .i64 0])∧Below w.heap.size w w':=by
 have hr:=Int.emod_nonneg a (show b≠0 by omega)
 have hr2:=Int.emod_lt_of_pos a (show 0<b by omega)
 have hg:(a== -9223372036854775808)=false:=by simp;omega
 have hb0:(b==0)=false:=by simp;omega
 have hb1:(b== -1)=false:=by simp;omega
 by_cases ha:0≤a
 ·have hq:=Int.ediv_nonneg ha (show 0≤b by omega)
  have hq2:a/b≤a:=Int.ediv_le_self _ ha
  have hx:¬bits .xor .i64 (a%b) b<0:=by
   rw [Pl.xor_neg _ _ (by omega) (by omega) (by omega) (by omega)];omega
  by_cases hz:a%b=0
  ·have hzz:(a%b==0)=true:=by simp [hz]
   clear hx
   go_enter Tryz.func132,Tryz.ntmps132
   go_wp2
   go_quiet (fail)
   go_wp2
   go_ret3
   exact ⟨rfl,div_tail _ _⟩
  ·have hzz:(a%b==0)=false:=by simp [hz]
   have hzn:(a%b != 0)=true:=by simp [hz]
   go_enter Tryz.func132,Tryz.ntmps132
   go_wp2
   go_quiet (fail)
   go_wp2
   go_ret3
   exact ⟨rfl,div_tail _ _⟩
 ·by_cases hz:a%b=0
  ·have e1:=Pl.tdiv_ex a b hz
   have e2:=Pl.tmod_ex a b hz
   rw [hz, ←e1]
   have hq: -9223372036854775808≤a.tdiv b∧a.tdiv b≤0:=by
    rw [e1]
    have h4:b*(a/b)+a%b=a:=Int.mul_ediv_add_emod a b
    rw [hz] at h4
    have h5:a/b<0:=Int.ediv_neg_of_neg_of_pos (by omega) (by omega)
    have h6:(b-1)*(a/b)≤0:=Int.mul_nonpos_of_nonneg_of_nonpos (by omega) (by omega)
    have h7:(b-1)*(a/b)=b*(a/b)-a/b:=by rw [Int.sub_mul,Int.one_mul]
    omega
   obtain ⟨hq1,hq2⟩:=hq
   have hm:a.tmod b=0:=e2
   have Hz:=Lib.hid hz
   have E1:=Lib.hid e1
   clear hz e1 e2
   go_enter Tryz.func132,Tryz.ntmps132
   go_wp2
   all_goals go_quiet (fail)
   all_goals go_wp2
   all_goals go_ret3
   all_goals exact ⟨rfl,div_tail _ _⟩
  ·have e1:=Pl.tdiv_neg' a b (by omega) (by omega) hz
   have e2:=Pl.tmod_neg' a b (by omega) (by omega) hz
   have h4:b*(a/b)+a%b=a:=Int.mul_ediv_add_emod a b
   have h5:a/b<0:=Int.ediv_neg_of_neg_of_pos (by omega) (by omega)
   have h6:(b-1)*(a/b+1)≤0:=Int.mul_nonpos_of_nonneg_of_nonpos (by omega) (by omega)
   have h7:(b-1)*(a/b+1)=b*(a/b)-a/b+b-1:=by rw [Int.sub_mul,Int.one_mul,Int.mul_add];omega
   have q1: -9223372036854775808≤a.tdiv b-1:=by rw [e1];omega
   have q2:a.tdiv b≤0:=by rw [e1];omega
   have r1:a.tmod b<0:=by rw [e2];omega
   have r2: -4611686018427387904≤a.tmod b:=by rw [e2];omega
   have hx:bits .xor .i64 (a.tmod b) b<0:=by
    rw [Pl.xor_neg _ _ (by omega) (by omega) (by omega) (by omega)];omega
   have hzz:(a.tmod b==0)=false:=by simp;omega
   have hzn:(a.tmod b != 0)=true:=by simp;omega
   rw [show a/b=a.tdiv b-1 by omega,show a%b=a.tmod b+b by omega]
   have E1:=Lib.hid e1
   have E2:=Lib.hid e2
   have H4:=Lib.hid h4
   have H7:=Lib.hid h7
   have HZ:=Lib.hid hz
   clear e1 e2 h4 h5 h6 h7 hz hr hr2
   go_enter Tryz.func132,Tryz.ntmps132
   go_wp2
   all_goals go_quiet (fail)
   all_goals go_wp2
   all_goals go_ret3
   all_goals exact ⟨rfl,div_tail _ _⟩
theorem Clamp (n lo hi:Int) (w:World):Calls Tryz.prog 221 #[.int .i64 n,.int .i64 lo,.int .i64 hi] w fun e w'=>e= .returned (.int .i64 (if n<lo then lo else if hi<n then hi else n))∧w=w':=by
 by_cases h1:n<lo
 ·rw [if_pos h1]
  go_enter Tryz.func221,Tryz.ntmps221
  go_wp2
  go_ret
  exact ⟨rfl,rfl⟩
 ·rw [if_neg h1]
  by_cases h2:hi<n
  ·rw [if_pos h2]
   go_enter Tryz.func221,Tryz.ntmps221
   go_wp2
   go_ret
   exact ⟨rfl,rfl⟩
  ·rw [if_neg h2]
   go_enter Tryz.func221,Tryz.ntmps221
   go_wp2
   go_ret
   exact ⟨rfl,rfl⟩
end Num
end
section
namespace Cal
def leap (y:Int):Bool:=decide (y%4=0)&&(!decide (y%100=0)||decide (y%400=0))
def lp (y:Int):Int:=if leap y then 1 else 0
def leaps (y:Int):Int:=y/4-y/100+y/400
def ahead (y:Int):Int:=365*(y-1970)+leaps (y-1)-leaps 1969
def cum (y m:Int):Int:=
 if m≤1 then 0 else if m=2 then 31 else
 (if m=3 then 59 else if m=4 then 90 else if m=5 then 120 else if m=6 then 151 else if m=7 then 181 else if m=8 then 212 else if m=9 then 243 else if m=10 then 273 else if m=11 then 304 else if m=12 then 334 else 365)+lp y
def len (y m:Int):Int:=
 if m=1∨m=3∨m=5∨m=7∨m=8∨m=10∨m=12 then 31 else if m=4∨m=6∨m=9∨m=11 then 30 else if m=2 then 28+lp y else 0
def days (y m d:Int):Int:=ahead y+cum y m+d-1
def y0 (y m:Int):Int:=if m<3 then y-1 else y
def m0 (m:Int):Int:=if m<3 then m+9 else m-3
def number (y m d:Int):Int:=
 y0 y m/400*146097+y0 y m%400*365+y0 y m%400/4-y0 y m%400/100+((153*m0 m+2)/5+d-1)-719468
theorem lp_eq (y:Int):lp y=(y/4-(y-1)/4)-(y/100-(y-1)/100)+(y/400-(y-1)/400):=by
 unfold lp leap
 by_cases h4:y%4=0<;>by_cases h100:y%100=0<;>by_cases h400:y%400=0<;>simp [h4,h100,h400]<;>omega
theorem lp_01 (y:Int):0≤lp y∧lp y≤1:=by unfold lp;split<;>omega
theorem ahead_succ (y:Int):ahead (y+1)=ahead y+365+lp y:=by
 have:=lp_eq y
 unfold ahead leaps
 have h:y+1-1=y:=by omega
 rw [h];omega
theorem months {m:Int} (h1:1≤m) (h2:m≤12):m=1∨m=2∨m=3∨m=4∨m=5∨m=6∨m=7∨m=8∨m=9∨m=10∨m=11∨m=12:=by omega
theorem number_eq (y m d:Int) (h1:1≤m) (h2:m≤12):number y m d=days y m d:=by
 have hl:=lp_eq y
 unfold days ahead leaps number y0 m0 cum
 rcases months h1 h2 with rfl|rfl|rfl|rfl|rfl|rfl|rfl|rfl|rfl|rfl|rfl|rfl<;>simp<;>omega
theorem len_bd (y m:Int) (h1:1≤m) (h2:m≤12):28≤len y m∧len y m≤31:=by
 have:=lp_01 y
 unfold len
 split
 ·omega
 split
 ·omega
 split<;>omega
theorem len_out (y m:Int) (h:m<1∨12<m):len y m=0:=by
 unfold len
 rw [if_neg (by omega),if_neg (by omega),if_neg (by omega)]
theorem len_le (y m:Int):0≤len y m∧len y m≤31:=by
 by_cases h:m<1∨12<m
 ·rw [len_out y m h];omega
 ·have:=len_bd y m (by omega) (by omega);omega
theorem cum_succ (y m:Int) (h1:1≤m) (h2:m≤12):cum y (m+1)=cum y m+len y m:=by
 unfold cum len
 rcases months h1 h2 with rfl|rfl|rfl|rfl|rfl|rfl|rfl|rfl|rfl|rfl|rfl|rfl<;>simp<;>omega
theorem cum_bd (y m:Int) (h1:1≤m) (h2:m≤12):0≤cum y m∧cum y m+len y m≤365+lp y:=by
 have:=lp_01 y
 unfold cum len
 rcases months h1 h2 with rfl|rfl|rfl|rfl|rfl|rfl|rfl|rfl|rfl|rfl|rfl|rfl<;>simp<;>omega
theorem ahead_bd (y:Int) (h1: -40001≤y) (h2:y≤40002): -15400000≤ahead y∧ahead y≤14000000:=by unfold ahead leaps;omega
theorem ahead_mono {a b:Int} (h:a≤b):ahead a+365*(b-a)≤ahead b:=by unfold ahead leaps;omega
theorem leap_alt (y:Int):leap y=(decide (y%4=0)&&(decide (y%25≠0)||decide (y%16=0))):=by
 unfold leap
 by_cases h4:y%4=0
 ·by_cases h25:y%25=0
  ·have e100:y%100=0:=by omega
   by_cases h16:y%16=0
   ·have:y%400=0:=by omega
    simp [h4,h25,h16,this]
   ·have:¬y%400=0:=by omega
    simp [h4,h25,h16,this,e100]
  ·have e100:¬y%100=0:=by omega
   simp [h4,h25,e100]
 ·simp [h4]
end Cal
end
section
open Go.RowKit NB
namespace Civ
theorem Leap (y:Int) (w:World):Calls Tryz.prog 190 #[.int .i64 y] w fun e w'=>e= .returned (.bool (Cal.leap y))∧w=w':=by
 have hA:=Pl.and3 y
 have hB:=Pl.and15 y
 have hC:(y.tmod 25==0)=decide (y%25=0):=by
  by_cases h:y%25=0
  ·simp [h,Pl.tmod_ex y 25 h]
  ·have:y.tmod 25≠0:=by
    intro h';exact h (Int.emod_eq_zero_of_dvd (Int.dvd_of_tmod_eq_zero h'))
   simp [h,this]
 rw [Cal.leap_alt]
 by_cases h4:y%4=0
 ·have t4:(y%4==0)=true:=by simp [h4]
  by_cases h25:y%25=0
  ·have t25:(y.tmod 25==0)=true:=by rw [hC];simp [h25]
   have n25:(y.tmod 25 != 0)=false:=by rw [bne,t25];rfl
   by_cases h16:y%16=0
   ·have t16:(y%16==0)=true:=by simp [h16]
    have hf:(decide (y%4=0)&&(decide (y%25≠0)||decide (y%16=0)))=true:=by simp [h4,h16]
    rw [hf]
    clear hC h4 h25 h16 hf
    go_enter Tryz.func190,Tryz.ntmps190
    go_wp2
    go_ret
    exact ⟨rfl,rfl⟩
   ·have t16:(y%16==0)=false:=by simp [h16]
    have hf:(decide (y%4=0)&&(decide (y%25≠0)||decide (y%16=0)))=false:=by simp [h25,h16]
    rw [hf]
    clear hC h4 h25 h16 hf
    go_enter Tryz.func190,Tryz.ntmps190
    go_wp2
    go_ret
    exact ⟨rfl,rfl⟩
  ·have t25:(y.tmod 25==0)=false:=by rw [hC];simp [h25]
   have n25:(y.tmod 25 != 0)=true:=by rw [bne,t25];rfl
   have hf:(decide (y%4=0)&&(decide (y%25≠0)||decide (y%16=0)))=true:=by simp [h4,h25]
   rw [hf]
   clear hC h4 h25 hf
   go_enter Tryz.func190,Tryz.ntmps190
   go_wp2
   go_ret
   exact ⟨rfl,rfl⟩
 ·have t4:(y%4==0)=false:=by simp [h4]
  have hf:(decide (y%4=0)&&(decide (y%25≠0)||decide (y%16=0)))=false:=by simp [h4]
  rw [hf]
  clear hC h4 hf
  go_enter Tryz.func190,Tryz.ntmps190
  go_wp2
  go_ret
  exact ⟨rfl,rfl⟩
set_option maxHeartbeats 800000 in
theorem Len (y m:Int) (w:World):Calls Tryz.prog 131 #[.int .i64 y,.int .i64 m] w fun e w'=>e= .returned (.int .i64 (Cal.len y m))∧w=w':=by
 by_cases h:m<1∨12<m
 ·rw [Cal.len_out y m h]
  have e1:(m==1)=false:=by simp;omega
  have e2:(m==2)=false:=by simp;omega
  have e3:(m==3)=false:=by simp;omega
  have e4:(m==4)=false:=by simp;omega
  have e5:(m==5)=false:=by simp;omega
  have e6:(m==6)=false:=by simp;omega
  have e7:(m==7)=false:=by simp;omega
  have e8:(m==8)=false:=by simp;omega
  have e9:(m==9)=false:=by simp;omega
  have e10:(m==10)=false:=by simp;omega
  have e11:(m==11)=false:=by simp;omega
  have e12:(m==12)=false:=by simp;omega
  clear h
  go_enter Tryz.func131,Tryz.ntmps131
  go_wp2
  go_ret
  exact ⟨rfl,rfl⟩
 ·by_cases h2:m=2
  ·subst h2
   clear h
   cases hl:Cal.leap y
   all_goals
    have e:Cal.len y 2=if Cal.leap y then 29 else 28:=by
     unfold Cal.len Cal.lp
     rw [if_neg (by decide),if_neg (by decide),if_pos rfl]
     split<;>rfl
    rw [e,hl]
    clear e
    have Hl:=Lib.hid hl
    clear hl
    go_enter Tryz.func131,Tryz.ntmps131
    go_wp2_with (go_at_call 190;refine (Leap y _).mono ?_;rw [Hl.out];rintro e w' ⟨rfl,rfl⟩)
    go_ret
    exact ⟨rfl,rfl⟩
  ·rcases Cal.months (m:=m) (by omega) (by omega) with rfl|rfl|rfl|rfl|rfl|rfl|rfl|rfl|rfl|rfl|rfl|rfl
   all_goals
    clear h
    first
     |(exfalso;exact h2 rfl)
     |(clear h2
       go_enter Tryz.func131,Tryz.ntmps131
       go_wp2
       go_ret
       exact ⟨rfl,rfl⟩)
def right (y m d:Int):Bool:=decide (-40000≤y)&&decide (y≤40000)&&decide (1≤d)&&decide (d≤Cal.len y m)
set_option maxHeartbeats 800000 in
theorem Right (y m d:Int) (w:World):Calls Tryz.prog 75 #[.agg #[.int .i64 y,.int .i64 m,.int .i64 d]] w fun e w'=>e= .returned (.bool (right y m d))∧Below w.heap.size w w':=by
 unfold right
 by_cases h1: -40000≤y
 case neg=>
  have d1:decide (-40000≤y)=false:=by simpa using h1
  rw [d1]
  go_enter Tryz.func75,Tryz.ntmps75
  go_wp2
  go_quiet (fail)
  go_wp2
  go_ret
  exact ⟨rfl,below_drewN ((Below.refl _ _).alloc (Nat.le_refl _) _) _⟩
 case pos=>
  by_cases h2:y≤40000
  case neg=>
   have d1:decide (y≤40000)=false:=by simpa using h2
   rw [d1]
   go_enter Tryz.func75,Tryz.ntmps75
   go_wp2
   go_quiet (fail)
   go_wp2
   go_ret
   exact ⟨by simp,below_drewN ((Below.refl _ _).alloc (Nat.le_refl _) _) _⟩
  case pos=>
   by_cases h3:1≤d
   case neg=>
    have d1:decide (1≤d)=false:=by simpa using h3
    rw [d1]
    go_enter Tryz.func75,Tryz.ntmps75
    go_wp2
    go_quiet (fail)
    go_wp2
    go_ret
    exact ⟨by simp,below_drewN ((Below.refl _ _).alloc (Nat.le_refl _) _) _⟩
   case pos=>
    have hf:(decide (-40000≤y)&&decide (y≤40000)&&decide (1≤d)&&decide (d≤Cal.len y m))=decide (d≤Cal.len y m):=by simp [h1,h2,h3]
    rw [hf]
    clear hf
    go_enter Tryz.func75,Tryz.ntmps75
    go_wp2
    go_quiet ((go_at_call 131;exact quiet_left (Len _ _ _)))
    go_wp2
    go_ret
    exact ⟨rfl,below_drewN ((Below.refl _ _).alloc (Nat.le_refl _) _) _⟩
theorem march (m:Int) (h0:0≤m) (h1:m≤100) (w:World):Calls Tryz.prog 133 #[.int .i64 m] w fun e w'=>e= .returned (.int .i64 ((153*m+2)/5))∧w=w':=by
 go_enter Tryz.func133,Tryz.ntmps133
 go_wp2
 go_ret
 exact ⟨rfl,rfl⟩
end Civ
end
end Go.Proofs.YtgmfojgnjdpofaaGreatDoor
