import Derived.Test.YtgmfojgnjdpofaaGreatDoorH4
namespace Go.Proofs.YtgmfojgnjdpofaaGreatDoor
open Go.Proofs.Tryz
section
open Go.RowKit NB
namespace Occ
def inL (l:List RuleV) (name:ByteArray) (T:Int):OccV→Nat→List OccV
 |_,0=>[]
 |fr,n+1=>match nextO l name fr with
  |none=>[]
  |some o=>if o.nom<T then o :: inL l name T o n else []
def Run (nx:OccV→Option OccV):OccV→List OccV→Prop
 |fr,[]=>nx fr=none
 |fr,o :: os=>nx fr=some o∧Run nx o os
theorem next_all {l:List RuleV} {name:ByteArray} {fr o:OccV} (h:nextO l name fr=some o):All l name l.length o∧less fr o=true:=by
 have:=best_next l name fr;rw [h] at this;exact ⟨this.1,this.2.1⟩
theorem prev_all {l:List RuleV} {name:ByteArray} {fr o:OccV} (h:prevO l name fr=some o):All l name l.length o∧less o fr=true:=by
 have:=best_prev l name fr;rw [h] at this;exact ⟨this.1,this.2.1⟩
theorem all_bd {l:List RuleV} {name:ByteArray} {o:OccV} (h:All l name l.length o): -2000000000000≤o.nom∧o.nom≤2000000000000∧0≤o.rule∧o.rule<l.length:=by
 obtain ⟨i,r,hi,hr,hn,hR,h1,h2,he⟩:=h;have hy:=(Rul.right_spec hR).1;have hb:=Nom.nom_bd hR (y:=o.year) (by omega) (by omega);rw [he];exact ⟨hb.1,hb.2,by show (0:Int)≤(i:Int);omega,by show (i:Int)<_;omega⟩
theorem run_ex2 (l:List RuleV) (name:ByteArray):∀ a:Nat,∀ b:Nat,∀ fr:OccV,All l name l.length fr→(fr.nom+2000000000000).toNat=a→fr.rule.toNat=b→∃ os,Run (prevO l name) fr os:=by
 intro a
 induction a using Nat.strongRecOn with
 |ind a iha=>
  intro b
  induction b using Nat.strongRecOn with
  |ind b ihb=>
   intro fr hf ha hb;cases hn:prevO l name fr with
   |none=>exact ⟨[],hn⟩
   |some o=>
    obtain ⟨h1,h2⟩:=prev_all hn;have b1:=all_bd h1;have b0:=all_bd hf;rw [less_iff] at h2;have:∃ os,Run (prevO l name) o os:=by
     rcases h2 with h2|⟨h2,h3⟩
     ·exact iha _ (by omega) _ o h1 rfl rfl
     ·exact ihb _ (by omega) o h1 (by omega) rfl
    obtain ⟨os,hos⟩:=this;exact ⟨o :: os,hn,hos⟩
theorem run_prev (l:List RuleV) (name:ByteArray) (fr:OccV):∃ os,Run (prevO l name) fr os:=by
 cases hn:prevO l name fr with
 |none=>exact ⟨[],hn⟩
 |some o=>
  obtain ⟨os,hos⟩:=run_ex2 l name _ _ o (prev_all hn).1 rfl rfl;exact ⟨o :: os,hn,hos⟩
theorem run_unique {nx:OccV→Option OccV}:∀ {fr:OccV} {a b:List OccV},Run nx fr a→Run nx fr b→a=b
 |_,[],[],_,_=>rfl
 |fr,[],_ :: _,h,h'=>by
  have:=(show nx fr=none from h).symm.trans h'.1;cases this
 |fr,_ :: _,[],h,h'=>by
  have:=(show nx fr=none from h').symm.trans h.1;cases this
 |_,x :: a,y :: b,h,h'=>by
  have:=h.1.symm.trans h'.1;cases this;rw [run_unique h.2 h'.2]
open Classical in
noncomputable def leftN (nx:OccV→Option OccV) (fr:OccV):Nat:=if h:∃ os,Run nx fr os then (Classical.choose h).length else 0
theorem leftN_eq {nx:OccV→Option OccV} {fr:OccV} {os:List OccV} (h:Run nx fr os):leftN nx fr=os.length:=by
 unfold leftN;rw [dif_pos ⟨os,h⟩,run_unique (Classical.choose_spec (⟨os,h⟩:∃ os,Run nx fr os)) h]
noncomputable def leftO (nx:OccV→Option OccV) (c:Option OccV):Nat:=match c with
 |none=>0
 |some o=>leftN nx o+1
theorem leftO_prev {l:List RuleV} {name:ByteArray} (o:OccV):leftO (prevO l name) (prevO l name o)<leftO (prevO l name) (some o):=by
 obtain ⟨os,h⟩:=run_prev l name o;show _ < leftN _ o+1;rw [leftN_eq h];cases os with
 |nil=>rw [show prevO l name o=none from h];exact Nat.succ_pos _
 |cons x xs=>rw [h.1];show leftN _ x+1<_;rw [leftN_eq h.2];simp
theorem inL_len (l:List RuleV) (name:ByteArray) (T:Int):∀ (n:Nat) (fr:OccV),(inL l name T fr n).length≤n
 |0,_=>by unfold inL;simp
 |n+1,fr=>by
  unfold inL
  split
  ·simp
  ·split
   ·have:=inL_len l name T n;simp only [List.length_cons];have:=this ‹_›;omega
   ·simp
inductive Hit (nx:OccV→Option OccV) (ok:OccV→Bool):Option OccV→Option OccV→Prop
 |none:Hit nx ok none none
 |here {o:OccV}:ok o=true→Hit nx ok (some o) (some o)
 |go {o:OccV} {R:Option OccV}:ok o=false→Hit nx ok (nx o) R→Hit nx ok (some o) R
theorem hit_run {nx:OccV→Option OccV} (ok:OccV→Bool):∀ {os:List OccV} {fr:OccV},Run nx fr os→∃ R,Hit nx ok (nx fr) R
 | [],fr,h=>⟨_,by rw [show nx fr=none from h];exact .none⟩
 |o :: os,fr,h=>by
  rw [h.1];cases ho:ok o
  ·obtain ⟨R,hR⟩:=hit_run ok h.2;exact ⟨R,.go ho hR⟩
  ·exact ⟨_,.here ho⟩
theorem hit_prev (l:List RuleV) (name:ByteArray) (ok:OccV→Bool) (fr:OccV):∃ R,Hit (prevO l name) ok (prevO l name fr) R:=by
 obtain ⟨os,h⟩:=run_prev l name fr;exact hit_run ok h
def Found (lt:OccV→OccV→Bool) (fr:OccV) (S:OccV→Prop) (ok:OccV→Bool) (R:Option OccV):Prop:=
 match R with
 |none=>∀ x,S x→lt fr x=true→ok x=false
 |some o=>S o∧lt fr o=true∧ok o=true∧∀ x,S x→lt fr x=true→lt x o=true→ok x=false
theorem hit_spec {lt:OccV→OccV→Bool} (W:Weak lt) {S:OccV→Prop} {nx:OccV→Option OccV} {ok:OccV→Bool} (hb:∀ fr,Best lt fr S (nx fr)) (al:∀ a b,S a→S b→lt a b=false→lt b a=false→a=b):
 ∀ {c R:Option OccV},Hit nx ok c R→∀ {fr:OccV},nx fr=c→Found lt fr S ok R:=by
 intro c R h
 induction h with
 |none=>
  intro fr hc x hx hl;have:=hb fr;rw [hc] at this;rw [this x hx] at hl;cases hl
 |here ho=>
  intro fr hc;have:=hb fr;rw [hc] at this;refine ⟨this.1,this.2.1,ho,fun x hx hl hl2=> ?_⟩;rw [this.2.2 x hx hl] at hl2;cases hl2
 | @go o R ho _ ih=>
   intro fr hc;have hB:=hb fr;rw [hc] at hB;have step:∀ x,S x→lt fr x=true→lt o x=true∨x=o:=by
    intro x hx hl;cases ho2:lt o x
    ·exact .inr (al x o hx hB.1 (hB.2.2 x hx hl) ho2)
    ·exact .inl rfl
   have:=ih rfl;cases R with
   |none=>
    intro x hx hl;rcases step x hx hl with h|rfl
    ·exact this x hx h
    ·exact ho
   |some p=>
    obtain ⟨h1,h2,h3,h4⟩:=this;refine ⟨h1,W.tr _ _ _ hB.2.1 h2,h3,fun x hx hl hl2=> ?_⟩;rcases step x hx hl with h|rfl
    ·exact h4 x hx h hl2
    ·exact ho
theorem found_prev {l:List RuleV} {name:ByteArray} {ok:OccV→Bool} {fr:OccV} {R:Option OccV} (h:Hit (prevO l name) ok (prevO l name fr) R):Found more fr (All l name l.length) ok R:=
 hit_spec weak_more (best_prev l name) (fun a b ha hb h1 h2=>by
  obtain ⟨e1,e2⟩:=weak_more.alike a b h1 h2;exact All_alike ha hb e1 e2) h rfl
end Occ
end
section
open Go.RowKit NB
namespace Occ
theorem next_gap {l:List RuleV} {name:ByteArray} {fr a o:OccV} (h:nextO l name fr=some a) (ho:All l name l.length o) (h1:less fr o=true) (h2:less o a=true):False:=by
 have:=best_next l name fr;rw [h] at this;rw [this.2.2 o ho h1] at h2;cases h2
end Occ
end
section
open Go.RowKit NB
namespace Chn
def ruleAt (l:List RuleV) (i:Int):Option RuleV:=if 0≤i then l[i.toNat]? else none
def baseAt (l:List RuleV) (i:Int):Int:=match ruleAt l i with|some r=>r.base|none=>0
def saveAt (l:List RuleV) (i:Int):Int:=match ruleAt l i with|some r=>r.save|none=>0
def saved (l:List RuleV) (name:ByteArray) (o:OccV):Int:=match Occ.prevO l name o with|some p=>saveAt l p.rule|none=>0
def shift (off base s:Int):Int:=if base=0 then off+s else if base=1 then off else 0
def inst (l:List RuleV) (name:ByteArray) (off:Int) (o:OccV):Int:=o.nom-shift off (baseAt l o.rule) (saved l name o)
def may (off:Int):Bool:=decide (-54000≤off)&&decide (off≤54000)
def isO (l:List RuleV) (name:ByteArray) (o:OccV):Bool:=match ruleAt l o.rule with
 |some r=>decide (r.name=name)&&decide (Nom.nomE r o.year=(o.nom,0))
 |none=>false
def instE (l:List RuleV) (name:ByteArray) (off:Int) (o:OccV):Int×Int:=if may off then (if isO l name o then (inst l name off o,0) else (0,12)) else (0,1)
theorem rule_at {l:List RuleV} {i:Nat} {r:RuleV} (h:l[i]? =some r):ruleAt l i=some r:=by
 unfold ruleAt;rw [if_pos (by omega),show (i:Int).toNat=i by omega];exact h
theorem is_all {l:List RuleV} {name:ByteArray} {o:OccV}:isO l name o=true↔Occ.All l name l.length o:=by
 unfold isO
 constructor
 ·intro h;unfold ruleAt at h
  by_cases h0:0≤o.rule
  ·rw [if_pos h0] at h;cases hr:l[o.rule.toNat]? with
   |none=>rw [hr] at h;cases h
   |some r=>
    rw [hr] at h;simp only [Bool.and_eq_true,decide_eq_true_eq] at h;obtain ⟨h1,h2⟩:=h;unfold Nom.nomE at h2;cases hR:Rul.right r
    ·rw [hR,if_neg (by decide)] at h2;exact absurd (congrArg Prod.snd h2) (by simp)
    ·rw [hR,if_pos rfl] at h2
     by_cases hy:o.year<r.fr∨r.to<o.year
     ·rw [if_pos hy] at h2;exact absurd (congrArg Prod.snd h2) (by simp)
     ·rw [if_neg hy] at h2;have h3:=congrArg Prod.fst h2;simp only at h3;refine ⟨o.rule.toNat,r,(List.getElem?_eq_some_iff.1 hr).1,hr,h1,hR,by omega,by omega,?_⟩;unfold Occ.occ;rw [h3,show ((o.rule.toNat:Nat):Int)=o.rule by omega]
  ·rw [if_neg h0] at h;cases h
 ·rintro ⟨i,r,hi,hr,hn,hR,h1,h2,e⟩;have e1:o.rule=i:=by rw [e];rfl
  have e2:o.nom=Occ.nomR r o.year:=by rw [e];rfl
  rw [e1,rule_at hr];simp only [Bool.and_eq_true,decide_eq_true_eq];refine ⟨hn,?_⟩;unfold Nom.nomE;rw [if_pos hR,if_neg (by omega),e2]
theorem save_bd {r:RuleV} (hR:Rul.right r=true): -10800≤r.save∧r.save≤10800:=by
 have:=Rul.right_spec hR;omega
end Chn
end
section
open Go.RowKit NB
namespace Occ
theorem hit_det {nx:OccV→Option OccV} {ok:OccV→Bool} {c R R':Option OccV} (h:Hit nx ok c R) (h':Hit nx ok c R'):R=R':=by
 induction h with
 |none=>cases h';rfl
 |here ho=>
  cases h' with
  |here=>rfl
  |go hn=>rw [ho] at hn;cases hn
 |go hn _ ih=>
  cases h' with
  |here ho=>rw [ho] at hn;cases hn
  |go _ h2=>exact ih h2
open Classical in
noncomputable def pick (nx:OccV→Option OccV) (ok:OccV→Bool) (c:Option OccV):Option OccV:=if h:∃ R,Hit nx ok c R then Classical.choose h else none
theorem pick_eq {nx:OccV→Option OccV} {ok:OccV→Bool} {c R:Option OccV} (h:Hit nx ok c R):pick nx ok c=R:=by
 unfold pick;rw [dif_pos ⟨R,h⟩];exact hit_det (Classical.choose_spec (⟨R,h⟩:∃ R,Hit nx ok c R)) h
theorem pick_prev (l:List RuleV) (name:ByteArray) (ok:OccV→Bool) (fr:OccV):Hit (prevO l name) ok (prevO l name fr) (pick (prevO l name) ok (prevO l name fr)):=by
 obtain ⟨R,h⟩:=hit_prev l name ok fr;rw [pick_eq h];exact h
theorem pick_none {nx:OccV→Option OccV} {ok:OccV→Bool}:pick nx ok none=none:=pick_eq .none
theorem pick_here {nx:OccV→Option OccV} {ok:OccV→Bool} {o:OccV} (h:ok o=true):pick nx ok (some o)=some o:=pick_eq (.here h)
theorem step_prev {l:List RuleV} {name:ByteArray} {ok:OccV→Bool} {o:OccV} (ho:ok o=false):pick (prevO l name) ok (some o)=pick (prevO l name) ok (prevO l name o):=
 pick_eq (.go ho (pick_prev l name ok o))
theorem less_tri {l:List RuleV} {name:ByteArray} {a b:OccV} (ha:All l name l.length a) (hb:All l name l.length b):less a b=true∨a=b∨less b a=true:=by
 cases h1:less a b
 ·cases h2:less b a
  ·obtain ⟨e1,e2⟩:=weak_less.alike a b h1 h2;exact .inr (.inl (All_alike ha hb e1 e2))
  ·exact .inr (.inr rfl)
 ·exact .inl rfl
theorem next_le {l:List RuleV} {name:ByteArray} {fr o x:OccV} (h:nextO l name fr=some o) (hx:All l name l.length x) (hl:less fr x=true):x=o∨less o x=true:=by
 rcases less_tri hx (next_all h).1 with h1|h1|h1
 ·exact (next_gap h hx hl h1).elim
 ·exact .inl h1
 ·exact .inr h1
theorem inL_mem {l:List RuleV} {name:ByteArray} {T:Int} {x:OccV} (hx:All l name l.length x) (hT:x.nom<T):∀ (n:Nat) (fr:OccV),less fr x=true→x∈inL l name T fr n∨(inL l name T fr n).length=n
 |0,_,_=>by right;unfold inL;rfl
 |n+1,fr,hl=>by
  unfold inL;cases hn:nextO l name fr with
  |none=>
   have:=best_next l name fr;rw [hn] at this;rw [this x hx] at hl;cases hl
  |some o=>
   simp only;rcases next_le hn hx hl with rfl|h1
   ·rw [if_pos hT]
    left
    exact List.mem_cons_self
   ·have hoT:o.nom<T:=by
     rw [less_iff] at h1;omega
    rw [if_pos hoT];rcases inL_mem hx hT n o h1 with h2|h2
    ·exact .inl (List.mem_cons_of_mem _ h2)
    ·right;simp [h2]
theorem inL_all {l:List RuleV} {name:ByteArray} {T:Int} {x:OccV}:∀ {n:Nat} {fr:OccV},x∈inL l name T fr n→All l name l.length x∧x.nom<T∧less fr x=true
 |0,_,h=>by unfold inL at h;cases h
 |n+1,fr,h=>by
  unfold inL at h;cases hn:nextO l name fr with
  |none=>rw [hn] at h;cases h
  |some o=>
   rw [hn] at h;simp only at h
   by_cases hT:o.nom<T
   ·rw [if_pos hT] at h;rcases List.mem_cons.1 h with rfl|h
    ·exact ⟨(next_all hn).1,hT,(next_all hn).2⟩
    ·obtain ⟨h1,h2,h3⟩:=inL_all h;exact ⟨h1,h2,weak_less.tr _ _ _ (next_all hn).2 h3⟩
   ·rw [if_neg hT] at h;cases h
end Occ
namespace Chn
def clampE (t:Int):Int:=Occ.clampI t (-2000000000000) 2000000000000
noncomputable def lastO (l:List RuleV) (name:ByteArray) (off t:Int):Option OccV:=if may off then Occ.pick (Occ.prevO l name) (fun o=>decide (inst l name off o≤clampE t)) (Occ.prevO l name ⟨-1,0,clampE t+64800+1⟩) else none
noncomputable def afterO (l:List RuleV) (name:ByteArray) (off t:Int):Option OccV:=if may off then Occ.pick (Occ.nextO l name) (fun o=>decide (clampE t<inst l name off o)) (Occ.nextO l name ⟨-1,0,clampE t-64800⟩) else none
def clockE (l:List RuleV) (name:ByteArray) (off nom base:Int):Int×Int:=
 if may off=false∨nom < -2000000000000∨2000000000000<nom then (0,1) else if base<0∨2<base then (0,4) else (nom-shift off base (saved l name ⟨-1,0,nom⟩),0)
theorem saved_bd (l:List RuleV) (name:ByteArray) (o:OccV): -10800≤saved l name o∧saved l name o≤10800:=by
 unfold saved;cases h:Occ.prevO l name o with
 |none=>exact ⟨by simp,by simp⟩
 |some p=>
  obtain ⟨i,r,hi,hr,hn,hR,_,_,e⟩:=(Occ.prev_all h).1;have e1:p.rule=i:=by rw [e];rfl
  simp only;unfold saveAt;rw [e1,rule_at hr];exact save_bd hR
theorem may_iff {off:Int}:may off=true↔ -54000≤off∧off≤54000:=by
 unfold may;simp
theorem shift_bd {off base s:Int} (h:may off=true) (h1: -10800≤s) (h2:s≤10800): -64800≤shift off base s∧shift off base s≤64800:=by
 rw [may_iff] at h;unfold shift
 split
 ·omega
 ·split<;>omega
theorem inst_bd {l:List RuleV} {name:ByteArray} {off:Int} (h:may off=true) (o:OccV):o.nom-64800≤inst l name off o∧inst l name off o≤o.nom+64800:=by
 have:=saved_bd l name o;have:=shift_bd (base:=baseAt l o.rule) h this.1 this.2;unfold inst;omega
theorem all_range {l:List RuleV} {name:ByteArray} {o:OccV} (h:Occ.All l name l.length o): -1099000000000<o.nom∧o.nom<1099000000000:=by
 obtain ⟨i,r,hi,hr,hn,hR,h1,h2,e⟩:=h;have:=Occ.nom_range hR h1 h2;rw [show o.nom=Occ.nomR r o.year by rw [e];rfl];exact this
theorem last_spec {l:List RuleV} {name:ByteArray} {off t:Int} (hm:may off=true):match lastO l name off t with
 |none=>∀ x,Occ.All l name l.length x→clampE t<inst l name off x
 |some o=>Occ.All l name l.length o∧inst l name off o≤clampE t∧∀ x,Occ.All l name l.length x→Occ.less o x=true→clampE t<inst l name off x:=by
 have h:=Occ.found_prev (Occ.pick_prev l name (fun o=>decide (inst l name off o≤clampE t)) ⟨-1,0,clampE t+64800+1⟩);have far:∀ x:OccV,Occ.less x ⟨-1,0,clampE t+64800+1⟩=false→clampE t<inst l name off x:=by
  intro x hx;have:=(inst_bd (l:=l) (name:=name) hm x).1;rw [Bool.eq_false_iff,Ne,Occ.less_iff] at hx;simp only at hx;omega
 unfold lastO;rw [if_pos hm];generalize Occ.pick (Occ.prevO l name) (fun o=>decide (inst l name off o≤clampE t)) (Occ.prevO l name ⟨-1,0,clampE t+64800+1⟩)=R at h;cases R with
 |none=>
  intro x hx;cases hf:Occ.less x ⟨-1,0,clampE t+64800+1⟩
  ·exact far x hf
  ·have:=h x hx hf;simp only [decide_eq_false_iff_not] at this;omega
 |some o=>
  obtain ⟨h1,h2,h3,h4⟩:=h;simp only [decide_eq_true_eq] at h3;refine ⟨h1,h3,fun x hx hl=> ?_⟩;cases hf:Occ.less x ⟨-1,0,clampE t+64800+1⟩
  ·exact far x hf
  ·have:=h4 x hx hf hl;simp only [decide_eq_false_iff_not] at this;omega
theorem instE_all {l:List RuleV} {name:ByteArray} {off:Int} {o:OccV} (hm:may off=true) (ho:Occ.All l name l.length o):instE l name off o=(inst l name off o,0):=by
 unfold instE;rw [if_pos hm,if_pos (is_all.2 ho)]
def around (l:List RuleV) (name:ByteArray) (t:Int):List OccV:=Occ.inL l name (t+1036800) ⟨-1,0,t-1036800⟩ 20
def Spaced (L:List OccV):Prop:=∀ (i:Nat) (a b:OccV),L[i]? =some a→L[i+1]? =some b→a.nom+345600≤b.nom
end Chn
end
section
open Go.RowKit NB
namespace Nxt
def At3 (w:World) (b:Nat) (o:OccV):Prop:=∀ j,w.cell? ⟨b,j,none⟩=(o.cells.toArray)[j]?
theorem next1 (o fr:OccV) (b:Nat) (w:World) (hb:b<w.heap.size) (hc:At3 w b fr):
 Calls prog 164 #[.agg o.cells.toArray,.pointer (some ⟨b,0,none⟩)] w fun e w'=>e=.returned (.bool (Occ.less fr o))∧Below w.heap.size w w':=by
 have cl:=fun W=>Cmp.Less fr o W;unfold At3 at hc;unfold OccV.cells at *;have Cl:=kj cl;clear cl;go_enter func164,ntmps164
 go_wp2_with (go_at_call 165;(with_reducible refine (Cl.out _).mono ?_);rintro e w1 ⟨rfl,hb1⟩;obtain ⟨hc1,hf1⟩:=bcell hb1)
 go_ret;exact ⟨rfl,bcq⟩
theorem prev1 (o fr:OccV) (b:Nat) (w:World) (hb:b<w.heap.size) (hc:At3 w b fr):
 Calls prog 168 #[.agg o.cells.toArray,.pointer (some ⟨b,0,none⟩)] w fun e w'=>e=.returned (.bool (Occ.more fr o))∧Below w.heap.size w w':=by
 have cl:=fun W=>Cmp.Less o fr W;unfold Occ.more;unfold At3 at hc;unfold OccV.cells at *;have Cl:=kj cl;clear cl;go_enter func168,ntmps168
 go_wp2_with (go_at_call 165;(with_reducible refine (Cl.out _).mono ?_);rintro e w1 ⟨rfl,hb1⟩;obtain ⟨hc1,hf1⟩:=bcell hb1)
 go_ret;exact ⟨rfl,bcq⟩
def optV:Option OccV→Value
 |none=>.tuple #[.agg #[.int .i64 0,.int .i64 0,.int .i64 0],.bool false]
 |some o=>.tuple #[.agg o.cells.toArray,.bool true]
theorem scanY_none (lt:OccV→OccV→Bool) (fr:OccV) (r:RuleV) (i d y:Int):Occ.scanY lt fr r i d y 0=none:=rfl
theorem scanY_hit {lt:OccV→OccV→Bool} {fr:OccV} {r:RuleV} {i d y:Int} {n:Nat} (hn:0<n) (h:lt fr (Occ.occ r i y)=true):Occ.scanY lt fr r i d y n=some (Occ.occ r i y):=by
 obtain ⟨m,rfl⟩:∃ m,n=m+1:=⟨n-1,by omega⟩;unfold Occ.scanY;rw [if_pos h]
theorem scanY_miss {lt:OccV→OccV→Bool} {fr:OccV} {r:RuleV} {i d y:Int} {n:Nat} (hn:0<n) (h:lt fr (Occ.occ r i y)=false):Occ.scanY lt fr r i d y n=Occ.scanY lt fr r i d (y+d) (n-1):=by
 obtain ⟨m,rfl⟩:∃ m,n=m+1:=⟨n-1,by omega⟩
 conv=>lhs;unfold Occ.scanY
 rw [if_neg (by rw [h];decide)];rfl
def Left (lt:OccV→OccV→Bool) (fr:OccV) (r:RuleV) (i d s:Int) (n:Nat) (y:Int) (m:Nat):Prop:=Occ.scanY lt fr r i d s n=Occ.scanY lt fr r i d y m
set_option maxHeartbeats 3200000 in
theorem next (r:RuleV) (hr:Rul.right r=true) (i Y:Int) (hY0: -70000≤Y) (hY1:Y≤70000) (fr:OccV) (b:Nat) (w:World) (hb:b<w.heap.size) (hc:At3 w b fr):
 Calls prog 163 #[.agg r.cells.toArray,.int .i64 i,.int .i64 Y,.func (.func 164) #[] #[.pointer (some ⟨b,0,none⟩)]] w fun e w'=>
  e=.returned (optV (Occ.scanY Occ.less fr r i 1 (max r.fr (Y-2)) (r.to-max r.fr (Y-2)+1).toNat))∧Below w.heap.size w w':=by
 have hy:=(Rul.right_spec hr).1;have cn:=fun y h1 h2 W=>Nom.nom r hr y h1 h2 W;have cf:∀ (y:Int) (W:World),b<W.heap.size→At3 W b fr→Calls prog 164 #[.agg #[.int .i64 i,.int .i64 y,.int .i64 (Occ.nomR r y)],.pointer (some ⟨b,0,none⟩)] W (fun e w'=>e=.returned (.bool (Occ.less fr (Occ.occ r i y)))∧Below W.heap.size W w'):=fun y W h1 h2=>next1 (Occ.occ r i y) fr b W h1 h2;have Hc:Hid (∀ X,Below w.heap.size w X→b<X.heap.size∧At3 X b fr):=fun X hX=>⟨Nat.lt_of_lt_of_le hb hX.size,fun j=>(hX.cell (p:=⟨b,j,none⟩) hb).trans (hc j)⟩;clear hc;obtain ⟨s,hs⟩:∃ s,s=max r.fr (Y-2):=⟨_,rfl⟩;rw [← hs];have hs0:r.fr≤s∧s≤70000:=by omega
 obtain ⟨n,hn⟩:∃ n,n=(r.to-s+1).toNat:=⟨_,rfl⟩;rw [← hn];have Hs:=kj hs;have Hn:=kj hn;have Cn:=kj cn;have Cf:=kj cf;clear hs hn cn cf;unfold RuleV.cells at *;go_enter func163,ntmps163;go_wp2;rw [← Hs.out];obtain ⟨V,hV⟩:∃ V,V=(w.alloc (.cells #[.string r.name,.int .i64 r.fr,.int .i64 r.to,.int .i64 r.month,.int .i64 r.kind,.int .i64 r.week,.int .i64 r.day,.int .i64 r.sec,.int .i64 r.base,.int .i64 r.save,.string r.letter] 57)).alloc (.cells #[.int .i64 0,.int .i64 0,.int .i64 0] 156):=⟨_,rfl⟩;rw [← hV];obtain ⟨⟨v0,v1⟩,hB,hF⟩:=box2 hV;have HG:=kj (box2f hV);clear hV;have HF:=kj hF;clear hF
 go_loopw [10] (fun y wr=>∃ yy:Int,y=.int .i64 yy∧(s≤yy∧yy≤80000)∧Left Occ.less fr r i (1) s n yy (r.to-yy+1).toNat∧Below V.heap.size V wr) (fun y _=>match y with|.int _ yy=>(r.to-yy+1).toNat|_=>0)
 case atStart=>exact ⟨s,rfl,by omega,by unfold Left;rw [Hn.out],Below.refl _ _⟩
 case round=>
  obtain ⟨yy,rfl,hyy,hleft,hbel⟩:=hrel;have Hleft:=kj hleft;clear hleft;obtain ⟨f1,f2,f3⟩:=HF.out wr hbel;have f4:=(HG.out wr hbel).2;have u0:w.heap.size<wr.heap.size:=by omega
  have u1:w.heap.size+1<wr.heap.size:=by omega
  by_cases hlt:yy≤r.to
  ·cases hL:Occ.less fr (Occ.occ r i yy)
   ·have HL:=kj hL;clear hL
    go_wp2_with (first
     |(go_at_call 228;(with_reducible refine (Cn.out _ (by omega) (by omega) _).mono ?_);rintro e w1 ⟨rfl,hb1⟩;obtain ⟨hc1_0,hf1_0,hz1_0⟩:=bcs hb1 (w.heap.size);obtain ⟨hc1_1,hf1_1,hz1_1⟩:=bcs hb1 (w.heap.size+1))
     |(go_at_call 164;(with_reducible refine (Cf.out _ _ (Hc.out _ bcq).1 (Hc.out _ bcq).2).mono ?_);rw [HL.out];rintro e w2 ⟨rfl,hb2⟩))
    go_roundw
    case rel=>exact ⟨yy+1,rfl,by omega,by
     have h1:=Hleft.out;unfold Left at h1 ⊢;rw [h1,scanY_miss (by omega) HL.out]
     congr 1
     omega,bcq⟩
    case measure=>simp;omega
   ·have HL:=kj hL;clear hL
    go_wp2_with (first
     |(go_at_call 228;(with_reducible refine (Cn.out _ (by omega) (by omega) _).mono ?_);rintro e w1 ⟨rfl,hb1⟩;obtain ⟨hc1_0,hf1_0,hz1_0⟩:=bcs hb1 (w.heap.size);obtain ⟨hc1_1,hf1_1,hz1_1⟩:=bcs hb1 (w.heap.size+1))
     |(go_at_call 164;(with_reducible refine (Cf.out _ _ (Hc.out _ bcq).1 (Hc.out _ bcq).2).mono ?_);rw [HL.out];rintro e w2 ⟨rfl,hb2⟩;obtain ⟨hc2,hf2⟩:=bcell hb2;have q1:=fun o=>hc2 (w.heap.size+1) o (by simp;omega);have q2:=fun o=>hf2 (w.heap.size+1) o (by simp;omega);have q3:=fun o=>hc2 w1.heap.size o (by simp);clear hc2 hf2))
    have h1:=Hleft.out;unfold Left at h1;rw [h1,scanY_hit (by omega) HL.out];refine bodyPost_ret (v:=.tuple #[.agg #[.int .i64 i,.int .i64 yy,.int .i64 (Occ.nomR r yy)],.bool true]) ?_ rfl ⟨rfl,?_⟩
    ·simp only [results,results163];go_simp
    ·exact bcq
  ·go_wp2;have h1:=Hleft.out;unfold Left at h1;rw [h1,show (r.to-yy+1).toNat=0 by omega,scanY_none];refine bodyPost_ret (v:=.tuple #[.agg #[.int .i64 0,.int .i64 0,.int .i64 0],.bool false]) ?_ rfl ⟨rfl,?_⟩
   ·simp only [results,results163];go_simp
   ·exact bcq
set_option maxHeartbeats 3200000 in
theorem prev (r:RuleV) (hr:Rul.right r=true) (i Y:Int) (hY0: -70000≤Y) (hY1:Y≤70000) (fr:OccV) (b:Nat) (w:World) (hb:b<w.heap.size) (hc:At3 w b fr):
 Calls prog 167 #[.agg r.cells.toArray,.int .i64 i,.int .i64 Y,.func (.func 168) #[] #[.pointer (some ⟨b,0,none⟩)]] w fun e w'=>
  e=.returned (optV (Occ.scanY Occ.more fr r i (-1) (min r.to (Y+2)) (min r.to (Y+2)-r.fr+1).toNat))∧Below w.heap.size w w':=by
 have hy:=(Rul.right_spec hr).1;have cn:=fun y h1 h2 W=>Nom.nom r hr y h1 h2 W;have cf:∀ (y:Int) (W:World),b<W.heap.size→At3 W b fr→Calls prog 168 #[.agg #[.int .i64 i,.int .i64 y,.int .i64 (Occ.nomR r y)],.pointer (some ⟨b,0,none⟩)] W (fun e w'=>e=.returned (.bool (Occ.more fr (Occ.occ r i y)))∧Below W.heap.size W w'):=fun y W h1 h2=>prev1 (Occ.occ r i y) fr b W h1 h2;have Hc:Hid (∀ X,Below w.heap.size w X→b<X.heap.size∧At3 X b fr):=fun X hX=>⟨Nat.lt_of_lt_of_le hb hX.size,fun j=>(hX.cell (p:=⟨b,j,none⟩) hb).trans (hc j)⟩;clear hc;obtain ⟨s,hs⟩:∃ s,s=min r.to (Y+2):=⟨_,rfl⟩;rw [← hs];have hs0: -80000≤s∧s≤r.to:=by omega
 obtain ⟨n,hn⟩:∃ n,n=(s-r.fr+1).toNat:=⟨_,rfl⟩;rw [← hn];have Hs:=kj hs;have Hn:=kj hn;have Cn:=kj cn;have Cf:=kj cf;clear hs hn cn cf;unfold RuleV.cells at *;go_enter func167,ntmps167;go_wp2;rw [← Hs.out];obtain ⟨V,hV⟩:∃ V,V=(w.alloc (.cells #[.string r.name,.int .i64 r.fr,.int .i64 r.to,.int .i64 r.month,.int .i64 r.kind,.int .i64 r.week,.int .i64 r.day,.int .i64 r.sec,.int .i64 r.base,.int .i64 r.save,.string r.letter] 57)).alloc (.cells #[.int .i64 0,.int .i64 0,.int .i64 0] 156):=⟨_,rfl⟩;rw [← hV];obtain ⟨⟨v0,v1⟩,hB,hF⟩:=box2 hV;have HG:=kj (box2f hV);clear hV;have HF:=kj hF;clear hF
 go_loopw [10] (fun y wr=>∃ yy:Int,y=.int .i64 yy∧(-90000≤yy∧yy≤s)∧Left Occ.more fr r i (-1) s n yy (yy-r.fr+1).toNat∧Below V.heap.size V wr) (fun y _=>match y with|.int _ yy=>(yy-r.fr+1).toNat|_=>0)
 case atStart=>exact ⟨s,rfl,by omega,by unfold Left;rw [Hn.out],Below.refl _ _⟩
 case round=>
  obtain ⟨yy,rfl,hyy,hleft,hbel⟩:=hrel;have Hleft:=kj hleft;clear hleft;obtain ⟨f1,f2,f3⟩:=HF.out wr hbel;have f4:=(HG.out wr hbel).2;have u0:w.heap.size<wr.heap.size:=by omega
  have u1:w.heap.size+1<wr.heap.size:=by omega
  by_cases hlt:r.fr≤yy
  ·cases hL:Occ.more fr (Occ.occ r i yy)
   ·have HL:=kj hL;clear hL
    go_wp2_with (first
     |(go_at_call 228;(with_reducible refine (Cn.out _ (by omega) (by omega) _).mono ?_);rintro e w1 ⟨rfl,hb1⟩;obtain ⟨hc1_0,hf1_0,hz1_0⟩:=bcs hb1 (w.heap.size);obtain ⟨hc1_1,hf1_1,hz1_1⟩:=bcs hb1 (w.heap.size+1))
     |(go_at_call 168;(with_reducible refine (Cf.out _ _ (Hc.out _ bcq).1 (Hc.out _ bcq).2).mono ?_);rw [HL.out];rintro e w2 ⟨rfl,hb2⟩))
    go_roundw
    case rel=>exact ⟨yy+ -1,rfl,by omega,by
     have h1:=Hleft.out;unfold Left at h1 ⊢;rw [h1,scanY_miss (by omega) HL.out]
     congr 1
     omega,bcq⟩
    case measure=>simp;omega
   ·have HL:=kj hL;clear hL
    go_wp2_with (first
     |(go_at_call 228;(with_reducible refine (Cn.out _ (by omega) (by omega) _).mono ?_);rintro e w1 ⟨rfl,hb1⟩;obtain ⟨hc1_0,hf1_0,hz1_0⟩:=bcs hb1 (w.heap.size);obtain ⟨hc1_1,hf1_1,hz1_1⟩:=bcs hb1 (w.heap.size+1))
     |(go_at_call 168;(with_reducible refine (Cf.out _ _ (Hc.out _ bcq).1 (Hc.out _ bcq).2).mono ?_);rw [HL.out];rintro e w2 ⟨rfl,hb2⟩;obtain ⟨hc2,hf2⟩:=bcell hb2;have q1:=fun o=>hc2 (w.heap.size+1) o (by simp;omega);have q2:=fun o=>hf2 (w.heap.size+1) o (by simp;omega);have q3:=fun o=>hc2 w1.heap.size o (by simp);clear hc2 hf2))
    have h1:=Hleft.out;unfold Left at h1;rw [h1,scanY_hit (by omega) HL.out];refine bodyPost_ret (v:=.tuple #[.agg #[.int .i64 i,.int .i64 yy,.int .i64 (Occ.nomR r yy)],.bool true]) ?_ rfl ⟨rfl,?_⟩
    ·simp only [results,results167];go_simp
    ·exact bcq
  ·go_wp2;have h1:=Hleft.out;unfold Left at h1;rw [h1,show (yy-r.fr+1).toNat=0 by omega,scanY_none];refine bodyPost_ret (v:=.tuple #[.agg #[.int .i64 0,.int .i64 0,.int .i64 0],.bool false]) ?_ rfl ⟨rfl,?_⟩
   ·simp only [results,results167];go_simp
   ·exact bcq
end Nxt
end
end Go.Proofs.YtgmfojgnjdpofaaGreatDoor
