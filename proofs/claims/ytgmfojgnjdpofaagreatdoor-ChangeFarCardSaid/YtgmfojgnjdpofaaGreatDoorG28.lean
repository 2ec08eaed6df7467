import Derived.Test.YtgmfojgnjdpofaaGreatDoorG13
import Derived.Test.YtgmfojgnjdpofaaGreatDoorG16
import Derived.Test.YtgmfojgnjdpofaaGreatDoorG4
import Derived.Test.YtgmfojgnjdpofaaGreatDoorG7
namespace Go.Proofs.YtgmfojgnjdpofaaGreatDoor
section
open Go.RowKit NB Nxt
namespace Frc
def viewC (e:EraV) (r:Value) (g n:Nat):Array Value:= #[.int .i64 e.off,.int .i64 e.kind,.int .i64 e.save,.string e.rules,.string e.format,.bool e.u.has,.int .i64 e.u.year,.int .i64 e.u.month,.int .i64 e.u.kind,.int .i64 e.u.week,.int .i64 e.u.day,.int .i64 e.u.sec,.int .i64 e.u.base,r,.slice (some ⟨g,0,none⟩) n n]
def valX (e:EraV) (r:RuleV):ValV:=if r.name=e.rules then valO e r else ⟨0,0,⟨#[]⟩⟩
structure View (W:World) (b:Nat) (l:List RuleV) (e:EraV) (r:Value) (g:Nat):Prop where
 box:Box W b (viewC e r g l.length) 211
 rules:Holds W r l
 lt:g<W.heap.size
 vals:∀ (i:Nat) (x:RuleV),l[i]? =some x→∀ (j:Nat) (u:Value),(valX e x).cells[j]? =some u→W.cell? ⟨g,i*3+j,none⟩=some u
theorem View.later {W W':World} {b:Nat} {l:List RuleV} {e:EraV} {r:Value} {g:Nat} (h:View W b l e r g) (hb:Below W.heap.size W W'):View W' b l e r g:=
 ⟨h.box.later hb,h.rules.later hb,Nat.lt_of_lt_of_le h.lt hb.size,fun i x hx j u hu=>(hb.cell (p:=⟨g,i*3+j,none⟩) h.lt).trans (h.vals i x hx j u hu)⟩
set_option maxHeartbeats 1600000 in
theorem value (e:EraV) (he:e.format.size≤9223372036854775807) (r:Value) (g n b:Nat) (save:Int) (letter:ByteArray) (hl:letter.size≤1000000) (w:World) (hb:Box w b (viewC e r g n) 211) (ht:Tab w):
 Calls Tryz.prog 158 #[.pointer (some ⟨b,0,none⟩),.int .i64 save,.string letter] w fun x w'=>x= .returned (.agg (valR e save letter).cells.toArray)∧Below w.heap.size w w':=by
 have ca:=fun W (h:Tab W)=>Fmt.Abbr e.format he (wrap64 (e.off+save)) save letter hl W h
 unfold valR ValV.cells
 simp only
 generalize (Fmt.abbrF e.format (wrap64 (e.off+save)) save letter)=ab at *
 obtain ⟨ab1,ab2⟩:=ab
 simp only at ca ⊢
 have Ca:=Lib.hid ca
 have HT:=Lib.hid ht
 clear ca ht
 unfold viewC at hb
 have c0:=hb.cell
 have l0:=hb.lt
 clear hb
 go_enter Tryz.func158,Tryz.ntmps158
 go_wp2_with (go_at_call 182;(with_reducible refine (Ca.out _ ?_).mono ?_);(· exact HT.out.later bcq);rintro e w1 ⟨rfl,hb1⟩;obtain ⟨hc1_0,hf1_0,hz1_0⟩:=bcs hb1 (w.heap.size))
 refine bodyPost_ret (v:= .agg #[.int .i64 (wrap64 (e.off+save)),.int .i64 save,.string ab1]) ?_ rfl ⟨rfl,?_⟩
 ·simp only [results,Tryz.results158]
  go_simp
 ·exact bcq
theorem info_val:(Tryz.prog.info? 30).map (fun i=>(i.zero,i.size,i.bytes))=some (some (.agg #[.int .i64 0,.int .i64 0,.string ⟨#[]⟩]),3,32):=by kernel_rfl
theorem hat {w:World} {v:Value} {l:List RuleV} (h:Holds w v l) {k:Nat} {x:RuleV} (hx:l[k]? =some x):∃ b off cap,v= .slice (some ⟨b,off,none⟩) l.length cap∧b<w.heap.size∧∀ (j:Nat) (u:Value),x.cells[j]? =some u→w.cell? ⟨b,off+k*11+j,none⟩=some u:=by
 rcases h.lies with ⟨p,cap,h1,h2⟩|⟨b,off,cap,h1,h2,h3⟩
 ·rw [h2] at hx;simp at hx
 ·exact ⟨b,off,cap,h1,h2,fun j u hu=>h3 k j _ u (by rw [List.getElem?_map,hx];rfl) hu⟩
def Filled (l:List RuleV) (e:EraV) (k:Nat) (C:Array Value):Prop:=∀ (i:Nat) (x:RuleV),l[i]? =some x→∀ (j:Nat) (u:Value),(if i<k then valX e x else ⟨0,0,⟨#[]⟩⟩).cells[j]? =some u→C[i*3+j]? =some u
theorem Filled.skip {l:List RuleV} {e:EraV} {k:Nat} {C:Array Value} (h:Filled l e k C) {y:RuleV} (hy:l[k]? =some y) (hn:¬y.name=e.rules):Filled l e (k+1) C:=by
 intro i x hx j u hu
 refine h i x hx j u ?_
 by_cases hi:i<k
 ·rw [if_pos hi];rw [if_pos (by omega)] at hu;exact hu
 ·rw [if_neg hi]
  by_cases hi2:i<k+1
  ·obtain rfl:i=k:=by omega
   rw [hy] at hx
   cases hx
   rw [if_pos hi2] at hu
   unfold valX at hu
   rw [if_neg hn] at hu
   exact hu
  ·rw [if_neg hi2] at hu;exact hu
theorem Filled.put {l:List RuleV} {e:EraV} {k:Nat} {C:Array Value} (h:Filled l e k C) (hC:C.size=l.length*3) {y:RuleV} (hy:l[k]? =some y) (hn:y.name=e.rules):Filled l e (k+1) (((C.setIfInBounds (k*3) (.int .i64 (valO e y).off)).setIfInBounds (k*3+1) (.int .i64 (valO e y).save)).setIfInBounds (k*3+2) (.string (valO e y).abbr)):=by
 intro i x hx j u hu
 have hkl:=(List.getElem?_eq_some_iff.1 hy).1
 have hil:=(List.getElem?_eq_some_iff.1 hx).1
 have hj3:j<3:=by
  have:=(List.getElem?_eq_some_iff.1 hu).1
  exact this
 by_cases hi:i=k
 ·subst hi
  rw [hy] at hx
  cases hx
  rw [if_pos (by omega)] at hu
  unfold valX at hu
  rw [if_pos hn] at hu
  rcases (by omega:j=0∨j=1∨j=2) with rfl|rfl|rfl
  ·cases hu
   rw [Array.getElem?_setIfInBounds_ne (by omega),Array.getElem?_setIfInBounds_ne (by omega),Nat.add_zero,Array.getElem?_setIfInBounds_self_of_lt (by omega)]
  ·cases hu
   rw [Array.getElem?_setIfInBounds_ne (by omega),Array.getElem?_setIfInBounds_self_of_lt (by simp;omega)]
  ·cases hu
   rw [Array.getElem?_setIfInBounds_self_of_lt (by simp;omega)]
 ·rw [Array.getElem?_setIfInBounds_ne (by omega),Array.getElem?_setIfInBounds_ne (by omega),Array.getElem?_setIfInBounds_ne (by omega)]
  refine h i x hx j u ?_
  by_cases hi1:i<k
  ·rw [if_pos hi1];rw [if_pos (by omega)] at hu;exact hu
  ·rw [if_neg hi1];rw [if_neg (by omega)] at hu;exact hu
set_option maxHeartbeats 1600000 in
set_option maxRecDepth 100000 in
theorem of1 (e:EraV) (he:e.Fit) {r:Value} {l:List RuleV} {w:World} (hr:Holds w r l) (ht:Tab w) (hs:∀ x∈l,x.letter.size≤1000000) (hn:l.length≤100000):
 Calls Tryz.prog 97 #[r,.agg e.cells.toArray] w fun x w'=>∃ b g,x= .returned (.pointer (some ⟨b,0,none⟩))∧View w' b l e r g∧Below w.heap.size w w':=by
 obtain ⟨rp,rc,rfl⟩:=hr.form
 have HH:=Lib.hid hr
 have HT:=Lib.hid ht
 have Hs:=Lib.hid hs
 unfold EraV.cells
 clear hr ht hs
 obtain ⟨n,hnl⟩:∃ n,n=l.length:=⟨_,rfl⟩
 rw [← hnl] at hn ⊢
 have HN:=Lib.hid hnl
 clear hnl
 obtain ⟨i0,hi,hz0,hz1,hz2⟩:=info_parts info_val
 obtain ⟨Z,hZ⟩:∃ Z,Z=madeCells (Value.agg #[.int .i64 0,.int .i64 0,.string ⟨#[]⟩]).cells (n*3):=⟨_,rfl⟩
 have hmk:∀ W:World,(Instr.makeSlice 209 (.int .i64 (n:Int)) (.int .i64 (n:Int))).run Tryz.prog W= .ok (.slice (some ⟨W.heap.size,0,none⟩) n n) (W.alloc (.cells Z 30)):=by
  intro W
  have:=run_make (P:=Tryz.prog) W 209 30 i0 _ Tryz.underlying209 hi hz0 .i64 .i64 n n (by omega) (Int.le_refl _) (by rw [hz2];omega) (by omega)
  simpa [hz1, ←hZ] using this
 have hZs:Z.size=n*3:=by rw [hZ];exact size_madeCells _ _
 have hZv:∀ (i j:Nat) (u:Value),i<n→(⟨0,0,⟨#[]⟩⟩:ValV).cells[j]? =some u→Z[i*3+j]? =some u:=by
  intro i j u hi hj
  have hj3:j<3:=(List.getElem?_eq_some_iff.1 hj).1
  rw [hZ]
  unfold madeCells
  rw [Array.getElem?_map,Array.getElem?_range,if_pos (by omega)]
  rcases (by omega:j=0∨j=1∨j=2) with rfl|rfl|rfl
  ·simp only [Option.map_some];cases hj;change some ((#[.int .i64 0,.int .i64 0,.string ⟨#[]⟩]:Array Value)[(i*3+0)%3]!)=_;rw [show (i*3+0)%3=0 by omega];rfl
  ·simp only [Option.map_some];cases hj;change some ((#[.int .i64 0,.int .i64 0,.string ⟨#[]⟩]:Array Value)[(i*3+1)%3]!)=_;rw [show (i*3+1)%3=1 by omega];rfl
  ·simp only [Option.map_some];cases hj;change some ((#[.int .i64 0,.int .i64 0,.string ⟨#[]⟩]:Array Value)[(i*3+2)%3]!)=_;rw [show (i*3+2)%3=2 by omega];rfl
 have HZ:=Lib.hid hZ
 clear hZ hi hz0 hz1 hz2
 go_enter Tryz.func97,Tryz.ntmps97
 go_upto_region 1 with fail
 go_region
 have bE:Box ((((w.alloc (.cells #[.int .i64 e.off,.int .i64 e.kind,.int .i64 e.save,.string e.rules,.string e.format,.bool e.u.has,.int .i64 e.u.year,.int .i64 e.u.month,.int .i64 e.u.kind,.int .i64 e.u.week,.int .i64 e.u.day,.int .i64 e.u.sec,.int .i64 e.u.base] 53)).alloc (.cells Z 30)).alloc (.cells #[.int .i64 e.off,.int .i64 e.kind,.int .i64 e.save,.string e.rules,.string e.format,.bool e.u.has,.int .i64 e.u.year,.int .i64 e.u.month,.int .i64 e.u.kind,.int .i64 e.u.week,.int .i64 e.u.day,.int .i64 e.u.sec,.int .i64 e.u.base,.slice rp n rc,.slice (some ⟨w.heap.size+1,0,none⟩) n n] 211)).drew) w.heap.size #[.int .i64 e.off,.int .i64 e.kind,.int .i64 e.save,.string e.rules,.string e.format,.bool e.u.has,.int .i64 e.u.year,.int .i64 e.u.month,.int .i64 e.u.kind,.int .i64 e.u.week,.int .i64 e.u.day,.int .i64 e.u.sec,.int .i64 e.u.base] 53:=bxq
 have bG:Box ((((w.alloc (.cells #[.int .i64 e.off,.int .i64 e.kind,.int .i64 e.save,.string e.rules,.string e.format,.bool e.u.has,.int .i64 e.u.year,.int .i64 e.u.month,.int .i64 e.u.kind,.int .i64 e.u.week,.int .i64 e.u.day,.int .i64 e.u.sec,.int .i64 e.u.base] 53)).alloc (.cells Z 30)).alloc (.cells #[.int .i64 e.off,.int .i64 e.kind,.int .i64 e.save,.string e.rules,.string e.format,.bool e.u.has,.int .i64 e.u.year,.int .i64 e.u.month,.int .i64 e.u.kind,.int .i64 e.u.week,.int .i64 e.u.day,.int .i64 e.u.sec,.int .i64 e.u.base,.slice rp n rc,.slice (some ⟨w.heap.size+1,0,none⟩) n n] 211)).drew) (w.heap.size+1) Z 30:=by
  refine Box.drew (Box.old ?_)
  have:=Box.new (w.alloc (.cells #[.int .i64 e.off,.int .i64 e.kind,.int .i64 e.save,.string e.rules,.string e.format,.bool e.u.has,.int .i64 e.u.year,.int .i64 e.u.month,.int .i64 e.u.kind,.int .i64 e.u.week,.int .i64 e.u.day,.int .i64 e.u.sec,.int .i64 e.u.base] 53)) Z 30
  rwa [World.size_alloc] at this
 have bV:Box ((((w.alloc (.cells #[.int .i64 e.off,.int .i64 e.kind,.int .i64 e.save,.string e.rules,.string e.format,.bool e.u.has,.int .i64 e.u.year,.int .i64 e.u.month,.int .i64 e.u.kind,.int .i64 e.u.week,.int .i64 e.u.day,.int .i64 e.u.sec,.int .i64 e.u.base] 53)).alloc (.cells Z 30)).alloc (.cells #[.int .i64 e.off,.int .i64 e.kind,.int .i64 e.save,.string e.rules,.string e.format,.bool e.u.has,.int .i64 e.u.year,.int .i64 e.u.month,.int .i64 e.u.kind,.int .i64 e.u.week,.int .i64 e.u.day,.int .i64 e.u.sec,.int .i64 e.u.base,.slice rp n rc,.slice (some ⟨w.heap.size+1,0,none⟩) n n] 211)).drew) (w.heap.size+1+1) #[.int .i64 e.off,.int .i64 e.kind,.int .i64 e.save,.string e.rules,.string e.format,.bool e.u.has,.int .i64 e.u.year,.int .i64 e.u.month,.int .i64 e.u.kind,.int .i64 e.u.week,.int .i64 e.u.day,.int .i64 e.u.sec,.int .i64 e.u.base,.slice rp n rc,.slice (some ⟨w.heap.size+1,0,none⟩) n n] 211:=by
  refine Box.drew ?_
  have:=Box.new ((w.alloc (.cells #[.int .i64 e.off,.int .i64 e.kind,.int .i64 e.save,.string e.rules,.string e.format,.bool e.u.has,.int .i64 e.u.year,.int .i64 e.u.month,.int .i64 e.u.kind,.int .i64 e.u.week,.int .i64 e.u.day,.int .i64 e.u.sec,.int .i64 e.u.base] 53)).alloc (.cells Z 30)) #[.int .i64 e.off,.int .i64 e.kind,.int .i64 e.save,.string e.rules,.string e.format,.bool e.u.has,.int .i64 e.u.year,.int .i64 e.u.month,.int .i64 e.u.kind,.int .i64 e.u.week,.int .i64 e.u.day,.int .i64 e.u.sec,.int .i64 e.u.base,.slice rp n rc,.slice (some ⟨w.heap.size+1,0,none⟩) n n] 211
  rwa [World.size_alloc,World.size_alloc] at this
 have hB1:Below w.heap.size w ((((w.alloc (.cells #[.int .i64 e.off,.int .i64 e.kind,.int .i64 e.save,.string e.rules,.string e.format,.bool e.u.has,.int .i64 e.u.year,.int .i64 e.u.month,.int .i64 e.u.kind,.int .i64 e.u.week,.int .i64 e.u.day,.int .i64 e.u.sec,.int .i64 e.u.base] 53)).alloc (.cells Z 30)).alloc (.cells #[.int .i64 e.off,.int .i64 e.kind,.int .i64 e.save,.string e.rules,.string e.format,.bool e.u.has,.int .i64 e.u.year,.int .i64 e.u.month,.int .i64 e.u.kind,.int .i64 e.u.week,.int .i64 e.u.day,.int .i64 e.u.sec,.int .i64 e.u.base,.slice rp n rc,.slice (some ⟨w.heap.size+1,0,none⟩) n n] 211)).drew):=bcq
 generalize ((((w.alloc (.cells #[.int .i64 e.off,.int .i64 e.kind,.int .i64 e.save,.string e.rules,.string e.format,.bool e.u.has,.int .i64 e.u.year,.int .i64 e.u.month,.int .i64 e.u.kind,.int .i64 e.u.week,.int .i64 e.u.day,.int .i64 e.u.sec,.int .i64 e.u.base] 53)).alloc (.cells Z 30)).alloc (.cells #[.int .i64 e.off,.int .i64 e.kind,.int .i64 e.save,.string e.rules,.string e.format,.bool e.u.has,.int .i64 e.u.year,.int .i64 e.u.month,.int .i64 e.u.kind,.int .i64 e.u.week,.int .i64 e.u.day,.int .i64 e.u.sec,.int .i64 e.u.base,.slice rp n rc,.slice (some ⟨w.heap.size+1,0,none⟩) n n] 211)).drew)=X at *
 have hF0:Filled l e 0 Z:=fun i x hx j u hu=>hZv i j u (by have:=(List.getElem?_eq_some_iff.1 hx).1;rw [HN.out];exact this) (by simpa using hu)
 clear hZv hmk
 obtain ⟨p1,hp1⟩:∃ p,p=w.heap.size+1:=⟨_,rfl⟩
 obtain ⟨p2,hp2⟩:∃ p,p=w.heap.size+1+1:=⟨_,rfl⟩
 rw [← hp2] at bV ⊢
 rw [← hp1] at bG bV ⊢
 have hq1:w.heap.size<p1∧p1<p2:=by omega
 clear hp1 hp2
 go_wp2
 go_loopw [17] (fun i wr=>∃ k:Nat,i= .int .i64 k∧k≤n∧Below w.heap.size w wr∧Box wr w.heap.size #[.int .i64 e.off,.int .i64 e.kind,.int .i64 e.save,.string e.rules,.string e.format,.bool e.u.has,.int .i64 e.u.year,.int .i64 e.u.month,.int .i64 e.u.kind,.int .i64 e.u.week,.int .i64 e.u.day,.int .i64 e.u.sec,.int .i64 e.u.base] 53∧Box wr p2 #[.int .i64 e.off,.int .i64 e.kind,.int .i64 e.save,.string e.rules,.string e.format,.bool e.u.has,.int .i64 e.u.year,.int .i64 e.u.month,.int .i64 e.u.kind,.int .i64 e.u.week,.int .i64 e.u.day,.int .i64 e.u.sec,.int .i64 e.u.base,.slice rp n rc,.slice (some ⟨p1,0,none⟩) n n] 211∧∃ C:Array Value,Box wr p1 C 30∧C.size=n*3∧Filled l e k C) (fun i _=>n-(intOf i).toNat)
 case atStart=>exact ⟨0,rfl,Nat.zero_le _,hB1,bE,bV,Z,bG,hZs,hF0⟩
 case round=>
  clear hB1 bE bG bV hF0 hZs
  obtain ⟨k,rfl,hk,hbel,bE,bV,C,bG,hC,hF⟩:=hrel
  have HF:=Lib.hid hF
  have HBE:=Lib.hid bE
  have HBV:=Lib.hid bV
  have HBG:=Lib.hid bG
  have HbW:=Lib.hid hbel
  have cE:=bE.cell
  have cV:=bV.cell
  have lE:=bE.lt
  have lG:=bG.lt
  have lV:=bV.lt
  clear hF bE bV bG hbel
  by_cases hlt:k<n
  ·obtain ⟨x,hx⟩:∃ x,l[k]? =some x:=⟨l[k]'(by rw [← HN.out];exact hlt),by simp⟩
   obtain ⟨b,off,cap,hq,hb,hcl⟩:=hat HH.out hx
   simp only [Value.slice.injEq] at hq
   obtain ⟨rfl, -,rfl⟩:=hq
   have hd:∀ (j:Nat) (u:Value),x.cells[j]? =some u→wr.cell? ⟨b,off+k*11+j,none⟩=some u:=fun j u hu=>(HbW.out.cell (p:=⟨b,off+k*11+j,none⟩) hb).trans (hcl j u hu)
   have hbU:b<wr.heap.size:=Nat.lt_of_lt_of_le hb HbW.out.size
   have d0:=hd 0 _ rfl
   have d1:=hd 1 _ rfl
   have d2:=hd 2 _ rfl
   have d3:=hd 3 _ rfl
   have d4:=hd 4 _ rfl
   have d5:=hd 5 _ rfl
   have d6:=hd 6 _ rfl
   have d7:=hd 7 _ rfl
   have d8:=hd 8 _ rfl
   have d9:=hd 9 _ rfl
   have d10:=hd 10 _ rfl
   simp only [Nat.add_zero] at d0
   have hlx:=Hs.out x (List.mem_of_getElem? hx)
   have Hx:=Lib.hid hx
   clear hd hcl hx
   by_cases hnm:x.name=e.rules
   case neg=>
    have e1:=str_ne hnm
    have Hnm:=Lib.hid hnm
    clear hnm
    go_wp2
    have hbel:=HbW.out
    have bE:=HBE.out
    have bV:=HBV.out
    have bG:=HBG.out
    go_roundw
    case rel=>exact ⟨k+1,by go_num,hlt,bcq,bxq,bxq,C,bxq,hC,HF.out.skip Hx.out Hnm.out⟩
    case measure=>simp [intOf];omega
   case pos=>
    have e1:=str_eq hnm
    have Hnm:=Lib.hid hnm
    clear hnm
    go_upto_region 6 with fail
    obtain ⟨v0,hv0⟩:∃ v,C[k*3]? =some v:=⟨C[k*3]'(by omega),by simp⟩
    obtain ⟨v1,hv1⟩:∃ v,C[k*3+1]? =some v:=⟨C[k*3+1]'(by omega),by simp⟩
    obtain ⟨v2,hv2⟩:∃ v,C[k*3+2]? =some v:=⟨C[k*3+2]'(by omega),by simp⟩
    have bG:=HBG.out
    have g0:=(bG.cell (k*3)).trans hv0
    have g1:=(bG.cell (k*3+1)).trans hv1
    have g2:=(bG.cell (k*3+2)).trans hv2
    have f0:=bG.free (k*3)
    have f1:=bG.free (k*3+1)
    have f2:=bG.free (k*3+2)
    clear bG d0 d1 d2 d3 d4 d5 d6 d7 d8 d9 d10 cE
    obtain ⟨y,hy⟩:∃ y,y=valO e x:=⟨_,rfl⟩
    have cval:∀ W,Box W p2 (viewC e (.slice (some ⟨b,off,none⟩) n rc) p1 n) 211→Tab W→Calls Tryz.prog 158 #[.pointer (some ⟨p2,0,none⟩),.int .i64 x.save,.string x.letter] W fun z w'=>z= .returned (.agg #[.int .i64 y.off,.int .i64 y.save,.string y.abbr])∧Below W.heap.size W w':=fun W h h'=>by rw [hy];exact value e he.f (.slice (some ⟨b,off,none⟩) n rc) p1 n p2 x.save x.letter hlx W h h'
    have Cval:=Lib.hid cval
    have HY:=Lib.hid hy
    clear hy
    clear cval
    go_region_with ((go_at_call 158);(with_reducible refine (Cval.out _ ?_ ?_).mono ?_);(· have bV:=HBV.out;unfold viewC;exact bxq);(· exact HT.out.later (bt HbW.out bcq));rintro e2 w2 ⟨rfl,hb2⟩;obtain ⟨hc2_0,hf2_0,hz2_0⟩:=bcs hb2 (p1);obtain ⟨hc2_1,hf2_1,hz2_1⟩:=bcs hb2 (p2);obtain ⟨hc2_2,hf2_2,hz2_2⟩:=bcs hb2 (wr.heap.size))
    all_goals
     have hput:=HF.out.put (by rw [← HN.out];exact hC) Hx.out Hnm.out
     rw [← HY.out] at hput
     have HP:=Lib.hid hput
     have bG2:Box w2 p1 C 30:=by have bG:=HBG.out;exact bxq
     have bE2:Box w2 w.heap.size #[.int .i64 e.off,.int .i64 e.kind,.int .i64 e.save,.string e.rules,.string e.format,.bool e.u.has,.int .i64 e.u.year,.int .i64 e.u.month,.int .i64 e.u.kind,.int .i64 e.u.week,.int .i64 e.u.day,.int .i64 e.u.sec,.int .i64 e.u.base] 53:=by have bE:=HBE.out;exact bxq
     have bV2:Box w2 p2 #[.int .i64 e.off,.int .i64 e.kind,.int .i64 e.save,.string e.rules,.string e.format,.bool e.u.has,.int .i64 e.u.year,.int .i64 e.u.month,.int .i64 e.u.kind,.int .i64 e.u.week,.int .i64 e.u.day,.int .i64 e.u.sec,.int .i64 e.u.base,.slice (some ⟨b,off,none⟩) n rc,.slice (some ⟨p1,0,none⟩) n n] 211:=by have bV:=HBV.out;exact bxq
     have hbl2:Below w.heap.size w w2:=by have hbel:=HbW.out;exact bcq
     have HG2:=Lib.hid bG2
     have HE2:=Lib.hid bE2
     have HV2:=Lib.hid bV2
     have HL2:=Lib.hid hbl2
     clear hput bG2 bE2 bV2 hbl2 hb2 hc2_0 hf2_0 hc2_1 hf2_1 hc2_2 hf2_2 g0 g1 g2 f0 f1 f2 hv0 hv1 hv2 cV
     go_wp2
     go_roundw
     case rel=>exact ⟨k+1,by go_num,hlt,bset (bset (bset HL2.out (by omega)) (by omega)) (by omega),((HE2.out.other (by omega)).other (by omega)).other (by omega),((HV2.out.other (by omega)).other (by omega)).other (by omega),_,((HG2.out.set).set).set,by simp [hC],HP.out⟩
     case measure=>simp [intOf];omega
  ·clear cE cV
   go_wp2
   have bV:=HBV.out
   have bG:=HBG.out
   go_ret
   have hkn:k=n:=by omega
   subst hkn
   have hn':=HN.out
   subst hn'
   refine ⟨p2,p1,rfl,⟨bV,HH.out.later HbW.out,lG,fun i x hx j u hu=> ?_⟩,HbW.out⟩
   rw [bG.cell]
   have hil:=(List.getElem?_eq_some_iff.1 hx).1
   exact HF.out i x hx j u (by rw [if_pos hil];exact hu)
end Frc
end
section
open Go.RowKit NB Nxt
namespace Frc
theorem find_hit {α:Type} {p:α→Bool}:∀ {l:List α} {k:Nat} {x:α},l[k]? =some x→p x=true→(∀ (j:Nat) (y:α),j<k→l[j]? =some y→p y=false)→l.find? p=some x
 | [],k,x,h,_,_=>by simp at h
 |a :: l,0,x,h,hp,_=>by
  simp only [List.getElem?_cons_zero,Option.some.injEq] at h
  subst h
  rw [List.find?_cons_of_pos hp]
 |a :: l,k+1,x,h,hp,hn=>by
  rw [List.getElem?_cons_succ] at h
  rw [List.find?_cons_of_neg (by rw [hn 0 a (by omega) rfl];decide)]
  exact find_hit h hp (fun j y hj hy=>hn (j+1) y (by omega) (by rw [List.getElem?_cons_succ];exact hy))
theorem find_miss {α:Type} {p:α→Bool} {l:List α} (hn:∀ (j:Nat) (y:α),l[j]? =some y→p y=false):l.find? p=none:=by
 rw [List.find?_eq_none]
 intro x hx
 obtain ⟨j,hj⟩:=List.mem_iff_getElem?.1 hx
 rw [hn j x hj]
 decide
def ahead (e:EraV) (r:RuleV):Bool:=decide (r.name=e.rules)&&decide (r.save=0)
theorem first_hit {l:List RuleV} {e:EraV} {k:Nat} {x:RuleV} (hx:l[k]? =some x) (hp:ahead e x=true) (hn:∀ (j:Nat) (y:RuleV),j<k→l[j]? =some y→ahead e y=false):firstV l e=valX e x:=by
 unfold firstV
 rw [show l.find? (fun r=>decide (r.name=e.rules)&&decide (r.save=0))=some x from find_hit hx hp hn]
 unfold ahead at hp
 simp only [Bool.and_eq_true,decide_eq_true_eq] at hp
 unfold valX valO
 rw [if_pos hp.1,hp.2]
theorem first_miss {l:List RuleV} {e:EraV} (hn:∀ (j:Nat) (y:RuleV),l[j]? =some y→ahead e y=false):firstV l e=valR e 0 ⟨#[]⟩:=by
 unfold firstV
 rw [show l.find? (fun r=>decide (r.name=e.rules)&&decide (r.save=0))=none from find_miss hn]
set_option maxHeartbeats 3200000 in
set_option maxRecDepth 100000 in
theorem first {w:World} {b g:Nat} {l:List RuleV} {e:EraV} {r:Value} (hv:View w b l e r g) (he:e.Fit) (ht:Tab w) (hn:l.length≤100000):
 Calls Tryz.prog 103 #[.pointer (some ⟨b,0,none⟩)] w fun x w'=>x= .returned (.agg (firstV l e).cells.toArray)∧Below w.heap.size w w':=by
 obtain ⟨rp,rc,rfl⟩:=hv.rules.form
 have cval:=fun W h h'=>value e he.f (.slice rp l.length rc) g l.length b 0 ⟨#[]⟩ (by decide) W h h'
 obtain ⟨F,hF⟩:∃ F,F=firstV l e:=⟨_,rfl⟩
 rw [← hF]
 have HF:=Lib.hid hF
 have HR:=Lib.hid hv.rules
 have HV:=Lib.hid hv.vals
 have lg:=hv.lt
 have HT:=Lib.hid ht
 have hb:=hv.box
 clear hv ht hF
 obtain ⟨n,hnl⟩:∃ n,n=l.length:=⟨_,rfl⟩
 rw [← hnl] at hn hb cval HR
 have HN:=Lib.hid hnl
 have Cval:=Lib.hid cval
 clear hnl cval
 have HB:=Lib.hid hb
 unfold viewC at hb
 have c0:=hb.cell
 have l0:=hb.lt
 clear hb
 go_enter Tryz.func103,Tryz.ntmps103
 go_upto_region 2 with fail
 have bR:Box (w.alloc (.cells #[.int .i64 0,.int .i64 0,.string ⟨#[]⟩] 30)) w.heap.size #[.int .i64 0,.int .i64 0,.string ⟨#[]⟩] 30:=Box.new w _ _
 have hbel:Below w.heap.size w (w.alloc (.cells #[.int .i64 0,.int .i64 0,.string ⟨#[]⟩] 30)):=bcq
 generalize (w.alloc (.cells #[.int .i64 0,.int .i64 0,.string ⟨#[]⟩] 30))=X at *
 clear c0
 go_loopw [10] (fun i wr=>∃ k:Nat,i= .int .i64 k∧k≤n∧(∀ (j:Nat) (y:RuleV),j<k→l[j]? =some y→ahead e y=false)∧Below w.heap.size w wr∧Box wr w.heap.size #[.int .i64 0,.int .i64 0,.string ⟨#[]⟩] 30) (fun i _=>n-(intOf i).toNat)
 case atStart=>exact ⟨0,rfl,Nat.zero_le _,fun j y hj=>absurd hj (Nat.not_lt_zero _),hbel,bR⟩
 case round=>
  clear hbel bR
  obtain ⟨k,rfl,hk,hno,hbel,bR⟩:=hrel
  have Hno:=Lib.hid hno
  have HbW:=Lib.hid hbel
  have HbR:=Lib.hid bR
  have bV:Box wr b (viewC e (.slice rp n rc) g n) 211:=HB.out.later hbel
  have HbV:=Lib.hid bV
  unfold viewC at bV
  have cV:=bV.cell
  have lV:=bV.lt
  have cR:=bR.cell
  have lR:=bR.lt
  have fR:=bR.free
  clear hno hbel bR bV
  by_cases hlt:k<n
  ·obtain ⟨x,hx⟩:∃ x,l[k]? =some x:=⟨l[k]'(by rw [← HN.out];exact hlt),by simp⟩
   obtain ⟨rb,off,cap,hq,hb,hcl⟩:=hat HR.out hx
   simp only [Value.slice.injEq] at hq
   obtain ⟨rfl, -,rfl⟩:=hq
   have hd:∀ (j:Nat) (u:Value),x.cells[j]? =some u→wr.cell? ⟨rb,off+k*11+j,none⟩=some u:=fun j u hu=>(HbW.out.cell (p:=⟨rb,off+k*11+j,none⟩) hb).trans (hcl j u hu)
   have hbU:rb<wr.heap.size:=Nat.lt_of_lt_of_le hb HbW.out.size
   have d0:=hd 0 _ rfl
   have d1:=hd 1 _ rfl
   have d2:=hd 2 _ rfl
   have d3:=hd 3 _ rfl
   have d4:=hd 4 _ rfl
   have d5:=hd 5 _ rfl
   have d6:=hd 6 _ rfl
   have d7:=hd 7 _ rfl
   have d8:=hd 8 _ rfl
   have d9:=hd 9 _ rfl
   have d10:=hd 10 _ rfl
   simp only [Nat.add_zero] at d0
   have hgU:g<wr.heap.size:=Nat.lt_of_lt_of_le lg HbW.out.size
   have hvv:∀ (j:Nat) (u:Value),(valX e x).cells[j]? =some u→wr.cell? ⟨g,k*3+j,none⟩=some u:=fun j u hu=>(HbW.out.cell (p:=⟨g,k*3+j,none⟩) lg).trans (HV.out k x hx j u hu)
   obtain ⟨y,hy⟩:∃ y,y=valX e x:=⟨_,rfl⟩
   rw [← hy] at hvv
   have y0:=hvv 0 _ rfl
   have y1:=hvv 1 _ rfl
   have y2:=hvv 2 _ rfl
   simp only [Nat.add_zero] at y0
   have HY:=Lib.hid hy
   have Hx:=Lib.hid hx
   clear hd hcl hx hvv hy
   by_cases hp:ahead e x=true
   ·have hr:=Lib.hid (HF.out.trans ((first_hit Hx.out hp Hno.out).trans HY.out.symm))
    unfold ahead at hp
    simp only [Bool.and_eq_true,decide_eq_true_eq] at hp
    obtain ⟨hnm,hsv⟩:=hp
    have e1:=str_eq hnm
    clear hnm
    go_wp2
    go_quiet (fail)
    go_wp2
    have hbel:=HbW.out
    refine bodyPost_ret (v:= .agg #[.int .i64 y.off,.int .i64 y.save,.string y.abbr]) ?_ rfl ⟨by rw [hr.out];rfl,?_⟩
    ·simp only [results,Tryz.results103]
     go_simp
    ·exact bcq
   ·have hno':∀ (j:Nat) (z:RuleV),j<k+1→l[j]? =some z→ahead e z=false:=by
     intro j z hj hz
     rcases (by omega:j<k∨j=k) with h|rfl
     ·exact Hno.out j z h hz
     ·rw [Hx.out] at hz
      cases hz
      simpa using hp
    have Hno2:=Lib.hid hno'
    clear hno'
    by_cases hnm:x.name=e.rules
    ·have hsv:¬x.save=0:=fun h=>hp (by unfold ahead;simp [hnm,h])
     have e1:=str_eq hnm
     clear hnm hp
     go_wp2
     go_quiet (fail)
     go_wp2
     have hbel:=HbW.out
     have bR:=HbR.out
     go_roundw
     case rel=>exact ⟨k+1,by go_num,hlt,Hno2.out,bcq,bxq⟩
     case measure=>simp [intOf];omega
    ·have e1:=str_ne hnm
     clear hnm hp
     go_wp2
     go_quiet (fail)
     go_wp2
     have hbel:=HbW.out
     have bR:=HbR.out
     go_roundw
     case rel=>exact ⟨k+1,by go_num,hlt,Hno2.out,bcq,bxq⟩
     case measure=>simp [intOf];omega
  ·have hr:=Lib.hid (HF.out.trans (first_miss fun j z hz=>Hno.out j z (by have:=(List.getElem?_eq_some_iff.1 hz).1;rw [← HN.out] at this;omega) hz))
   obtain ⟨y,hy⟩:∃ y,y=valR e 0 ⟨#[]⟩:=⟨_,rfl⟩
   have cval:∀ W,Box W b (viewC e (.slice rp n rc) g n) 211→Tab W→Calls Tryz.prog 158 #[.pointer (some ⟨b,0,none⟩),.int .i64 0,.string ⟨#[]⟩] W fun z w'=>z= .returned (.agg #[.int .i64 y.off,.int .i64 y.save,.string y.abbr])∧Below W.heap.size W w':=fun W h h'=>by rw [hy];exact Cval.out W h h'
   rw [← hy] at hr
   have Cv:=Lib.hid cval
   clear cval hy cV
   go_wp2_with (go_at_call 158;(with_reducible refine (Cv.out _ ?_ ?_).mono ?_);(· have bV:=HbV.out;exact bxq);(· exact HT.out.later (bt HbW.out bcq));rintro e2 w2 ⟨rfl,hb2⟩;obtain ⟨hc2_0,hf2_0,hz2_0⟩:=bcs hb2 (w.heap.size))
   have hbel:=HbW.out
   refine bodyPost_ret (v:= .agg #[.int .i64 y.off,.int .i64 y.save,.string y.abbr]) ?_ rfl ⟨by rw [hr.out];rfl,?_⟩
   ·simp only [results,Tryz.results103]
    go_simp
   ·exact bcq
end Frc
end
section
open Go.RowKit NB Nxt
namespace Frc
theorem last_all {l:List RuleV} {e:EraV} {t:Int} {o:OccV} (h:lastP l e t=some o):Occ.All l e.rules l.length o:=by
 unfold lastP at h
 cases hm:Chn.may e.off
 ·unfold Chn.lastO at h
  rw [hm] at h
  cases h
 ·have hs:=Chn.last_spec (l:=l) (name:=e.rules) (off:=e.off) (t:=t) hm
  rw [h] at hs
  exact hs.1
theorem boxS1 (X:World) (o:Obj) (cs:Array Value) (t:TypeId):Box ((X.alloc o).alloc (.cells cs t)) (X.heap.size+1) cs t:=by
 have:=Box.new (X.alloc o) cs t
 rwa [World.size_alloc] at this
theorem boxS2 (X:World) (o o':Obj) (cs:Array Value) (t:TypeId):Box (((X.alloc o).alloc o').alloc (.cells cs t)) (X.heap.size+1+1) cs t:=by
 have:=Box.new ((X.alloc o).alloc o') cs t
 rwa [World.size_alloc,World.size_alloc] at this
set_option maxHeartbeats 3200000 in
set_option maxRecDepth 100000 in
theorem atK {w:World} {b g:Nat} {l:List RuleV} {e:EraV} {r:Value} (hv:View w b l e r g) (he:e.Fit) (ht:Tab w) (t:Int) (hk:¬e.kind=2):
 Calls Tryz.prog 98 #[.pointer (some ⟨b,0,none⟩),.int .i64 t] w fun x w'=>x= .returned (.tuple #[.agg (valR e e.save ⟨#[]⟩).cells.toArray,.agg #[.int .i64 0,.int .i64 0,.int .i64 0],.bool false])∧Below w.heap.size w w':=by
 obtain ⟨y,hy⟩:∃ y,y=valR e e.save ⟨#[]⟩:=⟨_,rfl⟩
 have cval:∀ W,Box W b (viewC e r g l.length) 211→Tab W→Calls Tryz.prog 158 #[.pointer (some ⟨b,0,none⟩),.int .i64 e.save,.string ⟨#[]⟩] W fun z w'=>z= .returned (.agg #[.int .i64 y.off,.int .i64 y.save,.string y.abbr])∧Below W.heap.size W w':=fun W h h'=>by rw [hy];exact value e he.f r g l.length b e.save ⟨#[]⟩ (by decide) W h h'
 rw [← hy]
 have Cv:=Lib.hid cval
 have HT:=Lib.hid ht
 have HB:=Lib.hid hv.box
 have bV:=hv.box
 unfold viewC at bV
 have cV:=bV.cell
 have lV:=bV.lt
 clear cval hy hv ht bV
 go_enter Tryz.func98,Tryz.ntmps98
 go_wp2_with (go_at_call 158;(with_reducible refine (Cv.out _ ?_ ?_).mono ?_);(· have bV:=HB.out;exact bxq);(· exact HT.out.later bcq);rintro e2 w2 ⟨rfl,hb2⟩;obtain ⟨hc2_0,hf2_0,hz2_0⟩:=bcs hb2 (w.heap.size);obtain ⟨hc2_1,hf2_1,hz2_1⟩:=bcs hb2 (w.heap.size+1))
 refine bodyPost_ret (v:= .tuple #[.agg #[.int .i64 y.off,.int .i64 y.save,.string y.abbr],.agg #[.int .i64 0,.int .i64 0,.int .i64 0],.bool false]) ?_ rfl ⟨rfl,?_⟩
 ·simp only [results,Tryz.results98]
  go_simp
 ·exact bcq
set_option maxHeartbeats 3200000 in
set_option maxRecDepth 100000 in
theorem atN {w:World} {b g:Nat} {l:List RuleV} {e:EraV} {r:Value} (hv:View w b l e r g) (he:e.Fit) (ht:Tab w) (t:Int) (hk:e.kind=2) (hn:l.length≤100000) (hlast:lastP l e t=none):
 Calls Tryz.prog 98 #[.pointer (some ⟨b,0,none⟩),.int .i64 t] w fun x w'=>x= .returned (.tuple #[.agg (stateV l e t).cells.toArray,.agg #[.int .i64 0,.int .i64 0,.int .i64 0],.bool false])∧Below w.heap.size w w':=by
 obtain ⟨y,hy⟩:∃ y,y=stateV l e t:=⟨_,rfl⟩
 have hf:y=firstV l e:=by rw [hy];unfold stateV;rw [hlast]
 have cf:∀ W,View W b l e r g→Tab W→Calls Tryz.prog 103 #[.pointer (some ⟨b,0,none⟩)] W fun z w'=>z= .returned (.agg #[.int .i64 y.off,.int .i64 y.save,.string y.abbr])∧Below W.heap.size W w':=fun W h h'=>by rw [hf];exact first h he h' hn
 have cl:=fun W (h:Holds W r l)=>ChW.Last h e.rules e.off t
 unfold lastP at hlast
 rw [hlast] at cl
 unfold optV at cl
 simp only at cl
 rw [← hy]
 have Cf:=Lib.hid cf
 have Cl:=Lib.hid cl
 have HT:=Lib.hid ht
 have HV:=Lib.hid hv
 have bV:=hv.box
 unfold viewC at bV
 rw [hk] at bV
 have cV:=bV.cell
 have lV:=bV.lt
 obtain ⟨rp,rc,rfl⟩:=hv.rules.form
 clear cf cl hy hf hlast hv ht bV
 generalize l.length=n at *
 have hS:∀ u:World,Below w.heap.size w u→∀ o,u.cell? ⟨b,o,none⟩=(#[.int .i64 e.off,.int .i64 2,.int .i64 e.save,.string e.rules,.string e.format,.bool e.u.has,.int .i64 e.u.year,.int .i64 e.u.month,.int .i64 e.u.kind,.int .i64 e.u.week,.int .i64 e.u.day,.int .i64 e.u.sec,.int .i64 e.u.base,.slice rp n rc,.slice (some ⟨g,0,none⟩) n n]:Array Value)[o]? :=fun u hu o=>(hu.cell (p:=⟨b,o,none⟩) lV).trans (cV o)
 have HS:=Lib.hid hS
 clear hS
 go_enter Tryz.func98,Tryz.ntmps98
 go_upto_region 3 with fail
 go_cut [7,8] from 23 to 41 (fun s7 s8 wx=>∃ p7:Nat,s7= .pointer (some ⟨p7,0,none⟩)∧s8= .bool false∧w.heap.size+1<p7∧Box wx p7 #[.int .i64 0,.int .i64 0,.int .i64 0] 156∧Box wx w.heap.size #[.int .i64 0,.int .i64 0,.string ⟨#[]⟩] 30∧Box wx (w.heap.size+1) #[.int .i64 0,.int .i64 0,.int .i64 0] 156∧Below w.heap.size w wx)
 case first=>
  go_region_held3 (fun w'=>∀ o,w'.cell? ⟨b,o,none⟩=(#[.int .i64 e.off,.int .i64 2,.int .i64 e.save,.string e.rules,.string e.format,.bool e.u.has,.int .i64 e.u.year,.int .i64 e.u.month,.int .i64 e.u.kind,.int .i64 e.u.week,.int .i64 e.u.day,.int .i64 e.u.sec,.int .i64 e.u.base,.slice rp n rc,.slice (some ⟨g,0,none⟩) n n]:Array Value)[o]?) ((refine HS.out _ ?_;exact bcq)) (first|(go_at_call 159;(with_reducible refine (Cl.out _ ?_).mono ?_);(· exact HV.out.rules.later bcq);rintro e2 w2 ⟨rfl,hb2⟩;obtain ⟨hcq2,hfq2⟩:=bcell hb2;obtain ⟨hc2_0,hf2_0,hz2_0⟩:=bcs hb2 (w.heap.size);obtain ⟨hc2_1,hf2_1,hz2_1⟩:=bcs hb2 (w.heap.size+1);obtain ⟨hc2_2,hf2_2,hz2_2⟩:=bcs hb2 (b);(try have hc2_t0:=fun o=>hcq2 (w.heap.size+1+1) o szq);(try have hf2_t0:=fun o=>hfq2 (w.heap.size+1+1) o szq);clear hcq2 hfq2))
  all_goals
   go_wp2
   go_meet
   first
    |exact ⟨w2.heap.size,rfl,rfl,by omega,Box.new _ _ _,bxq,by (repeat (first|exact boxS1 _ _ _ _|refine Box.old ?_|refine Box.later ?_ hb2|refine Box.drew ?_)),bcq⟩
    |exact ⟨w.heap.size+1+1,rfl,rfl,by omega,by (refine Box.set3 (x:= .int .i64 0) (y:= .int .i64 0) (z:= .int .i64 0) ?_;refine Box.later ?_ hb2;refine Box.drew ?_;exact boxS2 _ _ _ _ _),bxq,by (repeat (first|exact boxS1 _ _ _ _|refine Box.old ?_|refine Box.other ?_ (by omega)|refine Box.later ?_ hb2|refine Box.drew ?_)),bcq⟩
 case rest=>
  obtain ⟨p7,rfl,rfl,hp7,b7,b4,b5,hbel⟩:=hcut
  have k7:=b7.cell
  have l7:=b7.lt
  have k4:=b4.cell
  have l4:=b4.lt
  have f4:=b4.free
  have k5:=b5.cell
  have l5:=b5.lt
  have f5:=b5.free
  have HBL:=Lib.hid hbel
  clear b7 b4 b5 hbel cV
  go_upto_region 5 with fail
  go_region_with ((go_at_call 103;(with_reducible refine (Cf.out _ ?_ ?_).mono ?_);(· exact HV.out.later (bt HBL.out bcq));(· exact HT.out.later (bt HBL.out bcq));rintro e3 w3 ⟨rfl,hb3⟩;obtain ⟨hc3_0,hf3_0,hz3_0⟩:=bcs hb3 (p7);obtain ⟨hc3_1,hf3_1,hz3_1⟩:=bcs hb3 (w.heap.size);obtain ⟨hc3_2,hf3_2,hz3_2⟩:=bcs hb3 (w.heap.size+1)))
  all_goals
   go_wp2
   have hbel:=HBL.out
   refine bodyPost_ret (v:= .tuple #[.agg #[.int .i64 y.off,.int .i64 y.save,.string y.abbr],.agg #[.int .i64 0,.int .i64 0,.int .i64 0],.bool false]) ?_ rfl ⟨rfl,?_⟩
   ·simp only [results,Tryz.results98]
    go_simp
   ·exact bcq
set_option maxHeartbeats 3200000 in
set_option maxRecDepth 100000 in
theorem atS {w:World} {b g:Nat} {l:List RuleV} {e:EraV} {r:Value} (hv:View w b l e r g) (_he:e.Fit) (ht:Tab w) (t:Int) (hk:e.kind=2) (_hn:l.length≤100000) (o:OccV) (hlast:lastP l e t=some o):
 Calls Tryz.prog 98 #[.pointer (some ⟨b,0,none⟩),.int .i64 t] w fun x w'=>x= .returned (.tuple #[.agg (stateV l e t).cells.toArray,.agg #[.int .i64 o.rule,.int .i64 o.year,.int .i64 o.nom],.bool true])∧Below w.heap.size w w':=by
 obtain ⟨y,hy⟩:∃ y,y=stateV l e t:=⟨_,rfl⟩
 have hA:=last_all hlast
 obtain ⟨i,x,hoi,hil,hxi,hxn,_⟩:=rule_of hA
 have hyx:y=valX e x:=by
  rw [hy]
  unfold stateV
  rw [hlast]
  show valAt l e o.rule=_
  rw [hoi,val_rule hxi]
  unfold valX
  rw [if_pos hxn]
 have hvv:∀ (j:Nat) (u:Value),y.cells[j]? =some u→w.cell? ⟨g,i*3+j,none⟩=some u:=fun j u hu=>hv.vals i x hxi j u (by rw [← hyx];exact hu)
 have lg:=hv.lt
 have cl:=fun W (h:Holds W r l)=>ChW.Last h e.rules e.off t
 unfold lastP at hlast
 rw [hlast] at cl
 unfold optV at cl
 simp only at cl
 rw [← hy]
 have HT:=Lib.hid ht
 have HV:=Lib.hid hv
 have bV:=hv.box
 unfold viewC at bV
 rw [hk] at bV
 have cV:=bV.cell
 have lV:=bV.lt
 obtain ⟨rp,rc,rfl⟩:=hv.rules.form
 obtain ⟨orl,oyr,onm⟩:=o
 simp only at hoi
 subst hoi
 unfold OccV.cells at cl
 have Cl:=Lib.hid cl
 have Hvv:=Lib.hid hvv
 clear cl hy hyx hvv hlast hv ht bV hA hxi hxn
 generalize l.length=n at *
 have hS:∀ u:World,Below w.heap.size w u→∀ o,u.cell? ⟨b,o,none⟩=(#[.int .i64 e.off,.int .i64 2,.int .i64 e.save,.string e.rules,.string e.format,.bool e.u.has,.int .i64 e.u.year,.int .i64 e.u.month,.int .i64 e.u.kind,.int .i64 e.u.week,.int .i64 e.u.day,.int .i64 e.u.sec,.int .i64 e.u.base,.slice rp n rc,.slice (some ⟨g,0,none⟩) n n]:Array Value)[o]? :=fun u hu o=>(hu.cell (p:=⟨b,o,none⟩) lV).trans (cV o)
 have HS:=Lib.hid hS
 clear hS
 go_enter Tryz.func98,Tryz.ntmps98
 go_upto_region 3 with fail
 go_cut [7,8] from 23 to 41 (fun s7 s8 wx=>∃ p7:Nat,s7= .pointer (some ⟨p7,0,none⟩)∧s8= .bool true∧w.heap.size+1<p7∧Box wx p7 #[.int .i64 (i:Int),.int .i64 oyr,.int .i64 onm] 156∧Box wx w.heap.size #[.int .i64 0,.int .i64 0,.string ⟨#[]⟩] 30∧Box wx (w.heap.size+1) #[.int .i64 0,.int .i64 0,.int .i64 0] 156∧Below w.heap.size w wx)
 case first=>
  go_region_held3 (fun w'=>∀ o,w'.cell? ⟨b,o,none⟩=(#[.int .i64 e.off,.int .i64 2,.int .i64 e.save,.string e.rules,.string e.format,.bool e.u.has,.int .i64 e.u.year,.int .i64 e.u.month,.int .i64 e.u.kind,.int .i64 e.u.week,.int .i64 e.u.day,.int .i64 e.u.sec,.int .i64 e.u.base,.slice rp n rc,.slice (some ⟨g,0,none⟩) n n]:Array Value)[o]?) ((refine HS.out _ ?_;exact bcq)) (first|(go_at_call 159;(with_reducible refine (Cl.out _ ?_).mono ?_);(· exact HV.out.rules.later bcq);rintro e2 w2 ⟨rfl,hb2⟩;obtain ⟨hcq2,hfq2⟩:=bcell hb2;obtain ⟨hc2_0,hf2_0,hz2_0⟩:=bcs hb2 (w.heap.size);obtain ⟨hc2_1,hf2_1,hz2_1⟩:=bcs hb2 (w.heap.size+1);obtain ⟨hc2_2,hf2_2,hz2_2⟩:=bcs hb2 (b);(try have hc2_t0:=fun o=>hcq2 (w.heap.size+1+1) o szq);(try have hf2_t0:=fun o=>hfq2 (w.heap.size+1+1) o szq);clear hcq2 hfq2))
  all_goals
   go_wp2
   go_meet
   first
    |exact ⟨w2.heap.size,rfl,rfl,by omega,Box.new _ _ _,bxq,by (repeat (first|exact boxS1 _ _ _ _|refine Box.old ?_|refine Box.later ?_ hb2|refine Box.drew ?_)),bcq⟩
    |exact ⟨w.heap.size+1+1,rfl,rfl,by omega,by (refine Box.set3 (x:= .int .i64 0) (y:= .int .i64 0) (z:= .int .i64 0) ?_;refine Box.later ?_ hb2;refine Box.drew ?_;exact boxS2 _ _ _ _ _),bxq,by (repeat (first|exact boxS1 _ _ _ _|refine Box.old ?_|refine Box.other ?_ (by omega)|refine Box.later ?_ hb2|refine Box.drew ?_)),bcq⟩
 case rest=>
  obtain ⟨p7,rfl,rfl,hp7,b7,b4,b5,hbel⟩:=hcut
  have k7:=b7.cell
  have l7:=b7.lt
  have k4:=b4.cell
  have l4:=b4.lt
  have f4:=b4.free
  have k5:=b5.cell
  have l5:=b5.lt
  have f5:=b5.free
  have HBL:=Lib.hid hbel
  clear b7 b4 b5 hbel cV
  have y0:=(HBL.out.cell (p:=⟨g,i*3+0,none⟩) lg).trans (Hvv.out 0 _ rfl)
  have y1:=(HBL.out.cell (p:=⟨g,i*3+1,none⟩) lg).trans (Hvv.out 1 _ rfl)
  have y2:=(HBL.out.cell (p:=⟨g,i*3+2,none⟩) lg).trans (Hvv.out 2 _ rfl)
  simp only [Nat.add_zero] at y0
  have hgc:g<wc.heap.size:=Nat.lt_of_lt_of_le lg HBL.out.size
  have hbc:b<wc.heap.size:=Nat.lt_of_lt_of_le lV HBL.out.size
  have cb:=HS.out wc HBL.out
  go_upto_region 6 with fail
  go_region
  go_wp2
  have hbel:=HBL.out
  refine bodyPost_ret (v:= .tuple #[.agg #[.int .i64 y.off,.int .i64 y.save,.string y.abbr],.agg #[.int .i64 (i:Int),.int .i64 oyr,.int .i64 onm],.bool true]) ?_ rfl ⟨rfl,?_⟩
  ·simp only [results,Tryz.results98]
   go_simp
  ·exact bcq
end Frc
end
end Go.Proofs.YtgmfojgnjdpofaaGreatDoor
