/-
  Part ZF of what Lawan stands on: printed by program, names and spaces cut.
-/
import Derived.Test.YtbjadbhkogcfeaaGreatZE
import Derived.Orders
import Derived.LoopN
open Go renaming Value→IN,Operand→uQ,World→uS,MapEntry→uu,Oper→wG,Code→AAx
open Nat renaming le_refl→If,zero_add→sh,beq→tm,zero_le→uD,lt_or_ge→uG,le_trans→uO,blt→uz,le_of_lt→vP,beq_refl→vT,le_of_eq→xk,lt_or_gt_of_ne→yU,min_le_left→yi,lt_irrefl→yr,strongRecOn→zd,le_max_left→ze,testBit_or→AAr
open List renaming length_append→No,getElem?_eq_getElem→tW,mem_cons_of_mem→td,mem_cons_self→te,mem_cons→uA,getElem?_append_left→uJ,getElem?_eq_some_iff→uK,getElem?_toArray→uM,mem_append→uP,length_singleton→uU,mem_append_right→uY,mem_append_left→uf,mem_filter→ut,range→vG,getElem?_eq_none→ve,mem_range→wI,all_eq_true→wu,getElem?_take→xL,countP_cons→AAX
open Go.Result renaming andThen_ok→tX
open Go.Sem renaming run_bind→tf,run_pure→tg
open Bool renaming and_eq_true→uB,false_eq_true→uV,not_false→um,true_and→xD,not_eq_true'→xW,or_eq_true→AAg
open Array renaming getD_eq_getD_getElem?→uw,ext'→vK,getElem?_setIfInBounds→vU,all_eq_true_iff_forall_mem→vf,mem_toList_iff→vm,toList_filter→yR
open Option renaming map_some→vN,getD_some→AAA
open Go.Instr renaming next→vo,extract→yY
open Go.Region renaming ready→wB,binds→xE,wanted→yJ
open Go.Question renaming forced→xN
open Go.Oper renaming upon_value→yn
open Go.Code renaming rounds→zy,seq→AAE,region→ABD
open Classical renaming choose→ABE,choose_spec→ABO
set_option linter.unusedSimpArgs false
set_option linter.unusedVariables false
namespace Go.Proofs.YtbjadbhkogcfeaaGreat
noncomputable section
open Go
section
variable {P:Program}{ty:TTy}{N:Nat}{all:List wG}{ρ:Nat->Rho}{H:Nat->Hp}{V:Nat->IN}{T:Nat->Nat->Prop}{φ0:Phi}{w0:uS}{B:Nat->Nat->Prop}{run:Nat->Bool}{ahs:List ACA}
theorem Inv.step(L:Laws ty all ρ H T B)(tr:Tr P ty all ahs all ρ H V run T)(txt:Txt P ty N φ0 ρ H V T all.length){S:Nat->Prop}{φ:Phi}{C:Nat->Blk}{a:Act}{w:uS}(I:Inv ty N all ρ H T φ0 w0 S φ C a w)
  {i:Nat}{o:wG}(ho:all[i]? =some o)(hS:¬ S i)(hpre:∀ j,B j i->S j)(hcl:∀ j k,S j->B k j->S k)(hN:∀ d,o.dst=some d->d<N)
  {K:Act->uS->Prop}{Q:Exit->Act->uS->Prop}(hK:∀ φ' C' a' w',Inv ty N all ρ H T φ0 w0 (fun j=>S j\/j=i) φ' C' a' w'->K a' w'):wpOp P all.toArray Q i K a w:=by
 have hi:i<all.length:=by
  rcases uG i all.length with h|h
  ·exact h
  ·rw[ve h]at ho;cases ho
 have fx:∀ j,j≠i->(B i j\/B j i)->(j<i->S j)/\(i<=j->¬ S j):=by
  intro j hj hb;rcases hb with hb|hb
  ·have:=L.lt i j hb
   exact⟨fun h=>by omega,fun _ hSj=>hS (hcl j i hSj hb)⟩
  ·have:=L.lt j i hb
   exact⟨fun _=>hpre j hb,fun h=>by omega⟩
 have named:∀ d,(o.dst=some d\/.tmp d∈o.op.operands.toList\/∃ g w og,o.guard=some (g,w)/\all[g]? =some og/\og.dst=some d)->∀ u,ρ i d=some u->ABe φ u (a.tmps.getD d undef):=by
  intro d hd u hu;refine I.slot i (vP hi) d u (fun j oj hoj hdj=>?_) hu;by_cases hji:j=i
  ·subst hji;exact⟨fun h=>absurd h (yr _),fun _=>hS⟩
  ·exact fx j hji ((L.slots j i oj o d hji hoj ho hdj hd).symm)
 have s:=tr.sf i o ho;have hw:=Oc s (a:=a) (φ:=φ) fun g want og d u h1 h2 h3 hu=>named d (.inr (.inr ⟨g,want,og,h1,h2,h3⟩)) u hu
 obtain⟨HR,ψ,b,HA,hx⟩:=I.AGp txt (vP hi);have names:∀ x∈o.op.operands.toList,∀ u,evR (ρ i) x=some u->ABe (upto φ (H i).next) u (a.eval x):=by
  intro x hxm u hu;have h1:ABe φ u (a.eval x):=by
   cases x with
   |tmp t=>exact named t (.inr (.inl hxm)) u hu
   |const v=>
    have hu:(if Fh v then some v else none)=some u:=hu;split at hu
    ·rename_i hp;cases hu;exact Mv hp
    ·cases hu
   |func g=>cases hu;exact .func _ .nil .nil
   |global g=>cases hu
  exact h1.cut hx (HA.ev hu)
 unfold wpOp;rw[uM,ho];simp only;rcases s.core with ⟨hrun,core⟩|⟨hrun,hv,hh,hT⟩
 ·rw[hw,hrun,if_pos rfl]
  refine .inl (core.AEG _ _ w a HR names ?_ _ _ fun ψ' v' w' hv HW' eff _=>hK _ _ _ _ (I.after L tr txt ho hS hpre hcl hN hv HW' eff));have noE:((∃ x,kd ty o.op=.w x)\/kd ty o.op=.q)->∀ b,¬ Pt all.length T S (H i) i b:=by
   rintro hk b ⟨hb,hne⟩;refine hne fun j hj hT=>?_
   by_cases hji:j=i
   ·subst hji;exact⟨fun h=>absurd h (yr _),fun _=>hS⟩
   ·exact fx j hji (L.fixed i j o b (fun h=>hji h.symm) ho hj hT hk)
  unfold TouchR;cases hk:kd ty o.op with
  |p=>trivial
  |a=>trivial
  |r x=>
   rintro u hu c hc ⟨hb,hne⟩;refine hne fun j hj hT=>?_
   by_cases hji:j=i
   ·subst hji;exact⟨fun h=>absurd h (yr _),fun _=>hS⟩
   ·exact fx j hji (L.reads i j o x c u (fun h=>hji h.symm) ho hj hT hk hu hc)
  |w x=>exact noE (.inl ⟨x,hk⟩)
  |q=>exact noE (.inr hk)
 ·rw[hw,hrun,if_neg (by simp)]
  refine hK _ _ _ _ (I.after L tr txt ho hS hpre hcl hN (ψ:=upto φ (H i).next) (v':=undef) (w':=w) (by rw[hv];exact .tuple .nil) (by rw[hh];exact HR) ?_);rw[hh];exact {Eff.refl (upto φ (H i).next) (H i) w with frame:=fun _ _ _=>rfl,back:=fun i p e hl _=>⟨i,p,e,hl,rfl,rfl,.inl rfl⟩,kept:=fun _ _ _=>rfl}
theorem Inv.begin(tr:Tr P ty all ahs all ρ H V run T)(txt:Txt P ty N φ0 ρ H V T all.length)(L:Laws ty all ρ H T B){a:Act}(HW:ABh ty φ0 nil (H 0) w0)(HA:AR N φ0 (ρ 0) a){S:Nat->Prop}(hS:∀ j,j<all.length->¬ S j):
  Inv ty N all ρ H T φ0 w0 S φ0 (H 0).bl.get a w0 where
 dom:=fun b p hp=>⟨(HW.dom b p hp).2,.inl (HW.dom b p hp).1⟩
 inj:=fun b c p q hp hq hb hc hio h=>HW.inj b c p q hp hq (fun h=>h) (fun h=>h) hb hc hio h
 row:=fun b p hp=>HW.row b p hp fun h=>h
 kind:=fun k hk b p c s e hp hb he=>by
  have hs:=txt.ADU (i:=0) (k:=k) (HW.dom b p hp).1 (uD _) hk;rw[he]at hs;obtain⟨c',hc'⟩:=hs.cells;exact HW.kind b p c' s e hp hc'
 inp:=HW.inp
 link:=fun k hk b p hp hb hyp=>by
  refine(txt.same (i:=0) (uD _) hk fun m _ hm=>?_).symm;have h0:=(HW.dom b p hp).1;have:=txt.mono (i:=0) (k:=m) (uD _) (by omega);exact txt.kept m (by omega) b (by omega) fun hT=>hS m (by omega) ((hyp m (by omega) hT).1 hm)
 chg:=fun j hj hjn=>absurd hj (hS j hjn)
 full:=fun j hj hjn=>absurd hj (hS j hjn)
 slot:=fun k hk t u hyp hu=>by
  refine HA.rel t u (tr.backward (i:=0) (uD _) hk (fun m om _ hm hom hdm=>?_) hu);exact hS m (by omega) ((hyp m om hom hdm).1 hm)
 size:=HA.size
 defs:=HA.defs
 le:=.refl _
 new:=fun b p hp=>.inl hp
 sz:=If _
 tape:=rfl
 os:=rfl
 output:=rfl
 frame:=fun _ _ _=>rfl
 back:=fun b p hp hl _=>⟨b,p,hp,hl,rfl,rfl,.inl rfl⟩
theorem Inv.fin(txt:Txt P ty N φ0 ρ H V T all.length)(L:Laws ty all ρ H T B){S:Nat->Prop}{φ:Phi}{C:Nat->Blk}{a:Act}{w:uS}(I:Inv ty N all ρ H T φ0 w0 S φ C a w)(hS:∀ j,j<all.length->S j):
  ABh ty φ nil (H all.length) w/\AR N φ (ρ all.length) a/\Evo φ0 (H 0) w0 φ (H all.length) w:=by
 have hdom:∀ b p,φ b=some p->b<(H all.length).next:=by
  intro b p hp;rcases (I.dom b p hp).2 with h|⟨j,_,hj,_,h⟩
  ·have:=txt.mono (uD all.length) (If _);omega
  ·have:=txt.mono (i:=j+1) (k:=all.length) hj (If _);omega
 have lk:∀ b p,φ b=some p->C b=(H all.length).bl.get b:=fun b p hp=>
  I.link _ (If _) b p hp (hdom b p hp) fun j hj _=>⟨fun _=>hS j hj,fun h=>by omega⟩
 refine⟨{dom:=fun b p hp=>⟨hdom b p hp,(I.dom b p hp).1⟩,inj:=fun b c p q hp hq _ _ hb hc hio h=>I.inj b c p q hp hq (by rw[lk b p hp];exact hb) (by rw[lk c q hq];exact hc) hio h,row:=fun b p hp _=>by rw[<- lk b p hp];exact I.row b p hp,fresh:=txt.fresh _ (If _),kind:=fun b p c s e hp he=>I.kind _ (If _) b p c s e hp (hdom b p hp) he,inp:=I.inp},
  ⟨I.size,I.defs,fun t u hu=>I.slot _ (If _) t u (fun j oj hoj _=>?_) hu⟩,
  {le:=I.le,new:=I.new,next:=txt.mono (uD _) (If _),size:=I.sz,tape:=I.tape,os:=I.os,output:=I.output,frame:=I.frame,back:=fun b p hp hl hlt=>I.back b p hp (by rw[lk b p hp];exact hl) hlt,kept:=fun b hb ho=>?_,low:=L.low,high:=L.high,shape:=fun b hb=>txt.ADU (i:=0) hb (uD _) (If _),only:=fun b hb h0=>?_,all:=fun b h1 h2=>?_}⟩
 ·have hj:j<all.length:=by
   rcases uG j all.length with h|h
   ·exact h
   ·rw[ve h]at hoj;cases hoj
  exact⟨fun _=>hS j hj,fun h=>by omega⟩
 ·refine txt.same (i:=0) (uD _) (If _) fun m _ hm=>?_
  have:=txt.mono (i:=0) (k:=m) (uD _) (by omega);exact txt.kept m hm b (by omega) fun hT=>by have:=L.AEp m b hm hT;omega
 ·refine txt.same (i:=0) (uD _) (If _) fun m _ hm=>?_
  have:=txt.mono (i:=0) (k:=m) (uD _) (by omega);by_cases hc:(H (m+1)).bl.get b=(H m).bl.get b
  ·exact hc
  ·obtain⟨p,hp⟩:=I.chg m (hS m hm) hm b (by omega) hc
   rcases I.new b p hp with h|h
   ·rw[h0]at h;cases h
   ·omega
 ·
  have:∀ k,k<=all.length->b<(H k).next->∃ p,φ b=some p:=by
   intro k
   induction k with
   |zero=>intro _ h;omega
   |succ k ih=>
    intro hk h;rcases uG b (H k).next with h3|h3
    ·exact ih (by omega) h3
    ·exact I.full k (hS k (by omega)) (by omega) b h3 h
  exact this _ (If _) h2
theorem Nj{α:Type}{p q:α->Bool}:∀ {l:List α},(∀ x∈l,p x=true->q x=true)->(∃ x∈l,q x=true/\p x=false)->l.countP p<l.countP q
 |[],_,h=>by obtain⟨x,hx,_⟩:=h;cases hx
 |y::l,h1,h2=>by
  have hmono:l.countP p<=l.countP q:=List.countP_mono_left fun x hx hp=>h1 x (td _ hx) hp
  rw[AAX,AAX];by_cases hy:q y=true/\p y=false
  ·rw[hy.1,hy.2];simp;omega
  ·obtain⟨x,hx,hq,hp⟩:=h2
   rcases uA.1 hx with rfl|hx
   ·exact absurd ⟨hq,hp⟩ hy
   ·have:=Nj (fun x hx=>h1 x (td _ hx)) ⟨x,hx,hq,hp⟩
    cases hpy:p y with
    |true=>rw[h1 y te hpy];simp;omega
    |false=>cases q y<;>simp<;>omega
structure AD2 (all:List wG)(B:Nat->Nat->Prop):Prop where
 dec:∀ i o j,all[i]? =some o->B j i->∃ e∈o.after.toList,xE .any e=true/\(j=e.on\/B j e.on)
 back:∀ i o,all[i]? =some o->∀ e∈o.after.toList,xE .any e=true->e.on<i
theorem jN(E:AD2 all B)(L:Laws ty all ρ H T B)(tr:Tr P ty all ahs all ρ H V run T)(txt:Txt P ty N φ0 ρ H V T all.length)(hN:∀ o∈all,∀ d,o.dst=some d->d<N){Q:Exit->Act->uS->Prop}
  (hq:∀ ψ a' w',ABh ty ψ nil (H all.length) w'->AR N ψ (ρ all.length) a'->Evo φ0 (H 0) w0 ψ (H all.length) w'->Q .normal a' w'):
  ∀ (fuel:Nat) (listed:Array Bool) (φ:Phi) (C:Nat->Blk) (a:Act) (w:uS),listed.size=all.length->(vG all.length).countP (fun j=> !listed.getD j true)<=fuel->
   (∀ j k,(j<all.length/\listed.getD j false=true)->B k j->(k<all.length/\listed.getD k false=true))->
   Inv ty N all ρ H T φ0 w0 (fun j=>j<all.length/\listed.getD j false=true) φ C a w->wpAny P .any all.toArray Q fuel listed a w:=by
 have ADW:∀ (listed:Array Bool),listed.size=all.length->∀ j,j<all.length->listed.getD j true=listed.getD j false:=by
  intro listed hs j hj;rw[uw,uw,Array.getElem?_eq_getElem (by omega)];rfl
 have done:∀ (listed:Array Bool) (φ:Phi) (C:Nat->Blk) (a:Act) (w:uS),listed.size=all.length->wB .any all.toArray listed=[]->
   Inv ty N all ρ H T φ0 w0 (fun j=>j<all.length/\listed.getD j false=true) φ C a w->(∀ j,j<all.length->listed.getD j false=true)/\Q .normal a w:=by
  intro listed φ C a w hs hr I;have hall:∀ j,j<all.length->listed.getD j false=true:=by
   intro j
   induction j using zd with
   |_ j ih=>
    intro hj;cases hl:listed.getD j false with
    |true=>rfl
    |false=>
     exfalso
     have ho:all[j]? =some all[j]:=tW hj;have:j∈wB .any all.toArray listed:=by
      unfold wB;rw[ut];refine⟨wI.2 (by simpa using hj),?_⟩;rw[ADW listed hs j hj,hl,uM,ho];simp only[um,xD,vN,AAA];rw[vf];intro e he;cases hb:xE .any e with
      |false=>rfl
      |true=>
       have h1:=E.back j all[j] ho e (vm.2 he) hb;rw[ih e.on h1 (by omega)];rfl
     rw[hr]at this;cases this
  obtain⟨h1,h2,h3⟩:=I.fin txt L fun j hj=>⟨hj,hall j hj⟩
  exact⟨hall,hq φ a w h1 h2 h3⟩
 intro fuel
 induction fuel with
 |zero=>
  intro listed φ C a w hs hc hcl I;have hr:wB .any all.toArray listed=[]:=by
   cases hr:wB .any all.toArray listed with
   |nil=>rfl
   |cons x xs=>
    exfalso
    have hx:x∈wB .any all.toArray listed:=by rw[hr];exact te
    unfold wB at hx;rw[ut]at hx;obtain⟨h1,h2⟩:=hx;have h3:x<all.length:=by simpa using wI.1 h1
    simp only[uB]at h2;have:=List.countP_pos_iff (p:=fun j=> !listed.getD j true) (l:=vG all.length) |>.2 ⟨x,wI.2 h3,h2.1⟩;omega
  exact⟨hr,(done listed φ C a w hs hr I).2⟩
 |succ fuel ih=>
  intro listed φ C a w hs hc hcl I;refine⟨fun hr=>(done listed φ C a w hs hr I).2,fun i hi=>?_⟩;unfold wB at hi;rw[ut]at hi;obtain⟨h1,h2⟩:=hi;have h3:i<all.length:=by simpa using wI.1 h1
  have ho:all[i]? =some all[i]:=tW h3;rw[uB,uM,ho]at h2;obtain⟨h4,h5⟩:=h2;simp only[vN,AAA]at h5;rw[vf]at h5;have hl:listed.getD i false=false:=by
   rw[<- ADW listed hs i h3];simpa using h4
  have ACB:∀ j,j<all.length->(listed.setIfInBounds i true).getD j false=if j=i then true else listed.getD j false:=by
   intro j hj;rw[uw,vU,uw];by_cases hji:j=i
   ·subst hji;rw[if_pos rfl,if_pos (by omega),if_pos rfl];rfl
   ·rw[if_neg fun h=>hji h.symm,if_neg hji]
  have hpre:∀ j,B j i->(j<all.length/\listed.getD j false=true):=by
   intro j hb;obtain⟨e,he,hbe,hor⟩:=E.dec i _ j ho hb;have hon:=h5 e (vm.1 he);rw[hbe]at hon;have hon:listed.getD e.on false=true:=by simpa using hon
   have hlt:e.on<all.length:=by have:=E.back i _ ho e he hbe;omega
   rcases hor with rfl|hor
   ·exact⟨hlt,hon⟩
   ·exact hcl e.on j ⟨hlt,hon⟩ hor
  refine I.step L tr txt ho (fun h=>by rw[hl]at h;cases h.2) hpre hcl (hN _ (List.mem_of_getElem? ho)) fun φ' C' a' w' I'=>ih _ φ' C' a' w' (by simp[hs]) ?_ ?_ ?_
  ·have:=Nj (p:=fun j=> !(listed.setIfInBounds i true).getD j true) (q:=fun j=> !listed.getD j true) (l:=vG all.length) (fun j hj hp=>?_) ⟨i,wI.2 h3,h4,?_⟩
   ·omega
   ·have hj:=wI.1 hj
    rw[ADW _ (by simp[hs]) j hj,ACB j hj]at hp;rw[ADW _ hs j hj];by_cases hji:j=i
    ·rw[if_pos hji]at hp;cases hp
    ·rw[if_neg hji]at hp;exact hp
   ·rw[ADW _ (by simp[hs]) i h3,ACB i h3,if_pos rfl];rfl
  ·intro j k hj hb
   have hjk:k<all.length/\listed.getD k false=true:=by
    rw[ACB j hj.1]at hj;by_cases hji:j=i
    ·subst hji;exact hpre k hb
    ·rw[if_neg hji]at hj;exact hcl j k hj hb
   refine⟨hjk.1,?_⟩;rw[ACB k hjk.1];split
   ·rfl
   ·exact hjk.2
  ·have:(fun j=>(j<all.length/\listed.getD j false=true)\/j=i)=fun j=>j<all.length/\(listed.setIfInBounds i true).getD j false=true:=by
    funext j
    apply propext;constructor
    ·rintro (⟨hj,hlj⟩|rfl)
     ·refine⟨hj,?_⟩
      rw[ACB j hj];split
      ·rfl
      ·exact hlj
     ·refine⟨h3,?_⟩
      rw[ACB _ h3,if_pos rfl]
    ·rintro⟨hj,hlj⟩
     rw[ACB j hj]at hlj;by_cases hji:j=i
     ·exact .inr hji
     ·rw[if_neg hji]at hlj;exact .inl ⟨hj,hlj⟩
   rw[<- this];exact I'
theorem Evo.ADX{φ ψ:Phi}{h h':Hp}{w w1 w':uS}(ev:Evo φ h w1 ψ h' w')(hh:w1.heap=w.heap)(ht:w1.tape=w.tape)(ho:w1.os=w.os)(hout:w1.output=w.output):Evo φ h w ψ h' w' where
 le:=ev.le
 new:=ev.new
 next:=ev.next
 size:=by rw[<- hh];exact ev.size
 tape:=ev.tape.trans ht
 os:=ev.os.trans ho
 output:=ev.output.trans hout
 frame:=by rw[<- hh];exact ev.frame
 back:=by rw[<- hh];exact ev.back
 kept:=ev.kept
 low:=ev.low
 high:=ev.high
 shape:=ev.shape
 only:=ev.only
 all:=ev.all
theorem iM(hm:P.follows .mixedOrders=true)(E:AD2 all B)(L:Laws ty all ρ H T B)(tr:Tr P ty all ahs all ρ H V run T)(hN:∀ o∈all,∀ d,o.dst=some d->d<N){Q:Exit->Act->uS->Prop}{a:Act}{w:uS}{id:Nat}
  (HW:ABh ty φ0 nil (H 0) w)(HA:AR N φ0 (ρ 0) a)(hq:∀ ψ a' w',ABh ty ψ nil (H all.length) w'->AR N ψ (ρ all.length) a'->Evo φ0 (H 0) w ψ (H all.length) w'->Q .normal a' w'):
  (ABD id all.toArray true).wp P Q a w:=by
 have txt:Txt P ty N φ0 ρ H V T all.length:=by
  have h:=Pk (Q:=fun _ _ _=>Txt P ty N φ0 ρ H V T all.length) all tr hN HW HA fun txt _ _ _ _ _ _=>txt
  obtain⟨_,_,_,h,_⟩:=wp_region_list (id:=0) (ops:=all.toArray) (by simpa using h) (default:Frame) [] [];exact h
 refine wp_region_any hm ?_;have HW1:ABh ty φ0 nil (H 0) {w with drawn:=w.drawn+1}:=HW.of_heap rfl;have hsz:all.toArray.size=all.length:=by simp
 rw[hsz];refine jN (w0:={w with drawn:=w.drawn+1}) E L tr txt hN (fun ψ a' w' h1 h2 h3=>hq ψ a' w' h1 h2 (h3.ADX rfl rfl rfl rfl)) all.length _ φ0 (H 0).bl.get a _ (by simp) (uO List.countP_le_length (by simp)) ?_ ?_
 ·rintro j k ⟨hj,hlj⟩ _
  rw[uw]at hlj;simp[hj]at hlj
 ·refine Inv.begin tr txt L HW1 HA fun j hj h=>?_
  have:=h.2;rw[uw]at this;simp[hj]at this
end
end
noncomputable section
open Go
theorem SB{β:Type}(x:Nat):∀ (k:List Nat->β) (l:List Nat),WG x k l=k (l++[x])
 |k,[]=>rfl
 |k,y::l=>by
  unfold WG;rw[SB x (fun l=>k (y::l)) l];rfl
def D7:List Nat->List wG->List Nat
 |acc,[]=>acc
 |acc,o::l=>D7 (acc++[HG acc 0 o.after.toList]) l
theorem UJ{β:Type}(k:List Nat->β):∀ (l:List wG) (acc:List Nat),ci k l acc=k (D7 acc l)
 |[],acc=>rfl
 |o::l,acc=>by
  unfold ci;rw[Am,SB,UJ k l];rfl
theorem Lt:∀ (l:List wG) (acc:List Nat) (j:Nat),j<acc.length->(D7 acc l)[j]? =acc[j]?
 |[],acc,j,_=>rfl
 |o::l,acc,j,hj=>by
  unfold D7;rw[Lt l _ j (by simp;omega),uJ hj]
theorem Wo(l:List wG):∀ (acc:List Nat) (j:Nat) (o:wG),l[j]? =some o->(D7 acc l)[acc.length+j]? =some (HG ((D7 acc l).take (acc.length+j)) 0 o.after.toList):=by
 induction l with
 |nil=>intro acc j o h;cases h
 |cons o' l ih=>
  intro acc j o h;have hu:D7 acc (o'::l)=D7 (acc++[HG acc 0 o'.after.toList]) l:=by rw[D7]
  rw[hu];cases j with
  |zero=>
   have ho:o'=o:=by simpa using h
   subst ho;rw[Nat.add_zero];have hp:=fun k hk=>Lt l (acc++[HG acc 0 o'.after.toList]) k hk
   have ht:(D7 (acc++[HG acc 0 o'.after.toList]) l).take acc.length=acc:=by
    apply List.ext_getElem?;intro k;rw[xL];split
    ·rename_i hk
     rw[hp k (by rw[No];omega),uJ hk]
    ·rename_i hk
     rw[ve (by omega)]
   rw[ht,hp acc.length (by rw[No,uU];omega),List.getElem?_append_right (If _),Nat.sub_self];rfl
  |succ j=>
   have:=ih (acc++[HG acc 0 o'.after.toList]) j o (by simpa using h);rw[No,uU]at this;have e:acc.length+(j+1)=acc.length+1+j:=by omega
   rw[e];exact this
theorem Lr:∀ (l:List wG) (acc:List Nat),(D7 acc l).length=acc.length+l.length
 |[],acc=>rfl
 |o::l,acc=>by
  unfold D7;rw[Lr l];simp;omega
theorem PF{bs:List Nat}{i j:Nat}:isB bs i j=true↔∃ b,bs[j]? =some b/\b.testBit i=true:=by
 unfold isB;rw[GI];cases bs[j]? with
 |none=>simp
 |some b=>
  simp only[Option.some.injEq,exists_eq_left'];rw[A1];unfold Nat.testBit;have e:Nat.shiftRight b i=b >>> i:=rfl;have e2:Nat.mod (b >>> i) 2=(b >>> i) % 2:=rfl;rw[e,e2];simp[Nat.and_one_is_mod,bne_iff_ne]
theorem KH(acc:List Nat)(i:Nat):∀ (es:List Edge) (m:Nat),(HG acc m es).testBit i=true↔m.testBit i=true\/∃ e∈es,xE .any e=true/\(i=e.on\/((acc[e.on]?).getD 0).testBit i=true)
 |[],m=>by unfold HG;simp
 |e::es,m=>by
  unfold HG;split
  ·rename_i hb
   rw[KH acc i es];have e1:∀ a b:Nat,Nat.lor a b=a ||| b:=fun _ _=>rfl
   have e2:Nat.shiftLeft 1 e.on=1 <<< e.on:=rfl;rw[e1,e1,e2,GI,AAr,AAr,Nat.one_shiftLeft,Nat.testBit_two_pow];simp only[AAg,decide_eq_true_eq,uA,exists_eq_or_imp,hb,true_and];constructor
   ·rintro ((h|h|h)|h)
    ·exact .inl h
    ·exact .inr (.inl (.inl h.symm))
    ·exact .inr (.inl (.inr h))
    ·exact .inr (.inr h)
   ·rintro (h|(h|h)|h)
    ·exact .inl (.inl h)
    ·exact .inl (.inr (.inl h.symm))
    ·exact .inl (.inr (.inr h))
    ·exact .inr h
  ·rename_i hb
   rw[KH acc i es];simp only[uA,exists_eq_or_imp,hb,uV,false_and,false_or]
theorem Gu{ops:List wG}{o:wG}{i:Nat}:(o,i)∈ops.zipIdx↔ops[i]? =some o:=List.mem_zipIdx_iff_getElem?
theorem Me{d:Nat}:∀ {l:List Nat},memN d l=true↔d∈l
 |[]=>by simp[memN]
 |x::l=>by
  unfold memN;split
  ·rename_i hb
   have:=A1.1 hb;simp[this]
  ·rename_i hb
   have:=FR hb;rw[Me,uA];constructor
   ·exact .inr
   ·rintro (h|h)
    ·exact absurd h.symm this
    ·exact h
section
variable {ty:TTy}{all:List wG}{bs:List Nat}
theorem QM(hbs:bs=D7 [] all)(he:H3 all=true):AD2 all (fun i j=>isB bs i j=true):=by
 have back:∀ i o,all[i]? =some o->∀ e∈o.after.toList,xE .any e=true->e.on<i:=by
  intro i o ho e hem hb;unfold H3 at he;rw[wu]at he;have:=he (o,i) (Gu.2 ho);simp only[wu]at this;have:=this e hem;rw[hb]at this;exact Ba.1 (by simpa using this)
 refine⟨fun i o j ho hB=>?_,back⟩;obtain⟨b,hb1,hb2⟩:=PF.1 hB;have:=Wo all [] i o ho;rw[<- hbs]at this;simp only[List.length_nil,sh]at this;rw[this]at hb1;cases hb1;rcases (KH _ j _ _).1 hb2 with h|⟨e,hem,hbe,hor⟩
 ·simp at h
 ·refine⟨e,hem,hbe,hor.imp id fun h=>?_⟩
  have hlt:=back i o ho e hem hbe;rw[xL,if_pos hlt]at h;cases hq:bs[e.on]? with
  |none=>rw[hq]at h;simp at h
  |some c=>rw[hq]at h;exact PF.2 ⟨c,hq,h⟩
theorem ot(hbs:bs=D7 [] all)(he:H3 all=true):∀ j i,isB bs i j=true->i<j:=by
 have E:=QM hbs he;intro j
 induction j using zd with
 |_ j ih=>
  intro i hB;have hj:j<all.length:=by
   obtain⟨b,hb1,_⟩:=PF.1 hB;have:=(uK.1 hb1).1;rw[hbs,Lr]at this
   simpa using this
  obtain⟨e,hem,hbe,hor⟩:=E.dec j _ i (tW hj) hB;have hlt:=E.back j _ (tW hj) e hem hbe;rcases hor with rfl|h
  ·exact hlt
  ·have:=ih e.on hlt i h;omega
theorem VP{i j:Nat}(h:isB bs (CC i j) (i+j - CC i j)=true):isB bs i j=true\/isB bs j i=true:=by
 rw[BW]at h;rcases Nat.le_total i j with h1|h1
 ·rw[Nat.min_eq_left h1,show i+j - i=j by omega]at h;exact .inl h
 ·rw[Nat.min_eq_right h1,show i+j - j=i by omega]at h;exact .inr h
theorem fD{i j:Nat}(h1:isB bs i j≠true)(h2:isB bs j i≠true):isB bs (CC i j) (i+j - CC i j)=false:=by
 cases h:isB bs (CC i j) (i+j - CC i j)with
 |false=>rfl
 |true=>
  rcases VP h with h|h
  ·exact absurd h h1
  ·exact absurd h h2
theorem bU(hs:Jt all bs=true){i j:Nat}{oi oj:wG}{d:Nat}(hij:i≠j)(hi:all[i]? =some oi)(hj:all[j]? =some oj)(hd:oi.dst=some d)
  (hn:oj.dst=some d\/.tmp d∈oj.op.operands.toList\/∃ g w og,oj.guard=some (g,w)/\all[g]? =some og/\og.dst=some d):isB bs i j=true\/isB bs j i=true:=by
 unfold Jt at hs;rw[wu]at hs;have h1:=hs (oi,i) (Gu.2 hi);simp only[hd,wu]at h1;have h2:=h1 (oj,j) (Gu.2 hj);simp only[AAg,xW]at h2;rcases h2 with (h2|h2)|h2
 ·exact absurd (A1.1 h2) hij
 ·exact VP h2
 ·exfalso
  have:memN d (oj.dst.toList++Pj all oj)=true:=by
   rw[Me,uP];rcases hn with h|h|⟨g,w,og,h,h3,h4⟩
   ·left;rw[h];simp
   ·right
    unfold Pj;rw[uP];left;rw[List.mem_filterMap];exact⟨_,h,rfl⟩
   ·right
    unfold Pj;rw[uP];right;rw[h];simp only[GI,h3,h4];simp
  rw[this]at h2;cases h2
structure AEq (ty:TTy)(all:List wG)(xs:List uQ)(i j:Nat)(oi oj:wG):Prop where
 ww:∀ x y,kd ty oi.op=.w x->kd ty oj.op≠.w y
 wq:∀ x,kd ty oi.op=.w x->kd ty oj.op≠.q
 qw:∀ y,kd ty oi.op=.q->kd ty oj.op≠.w y
 wr:∀ x y,kd ty oi.op=.w x->kd ty oj.op=.r y->x∈xs/\∃ t,x=.tmp t/\∀ k o,i<=k->k<j->all[k]? =some o->o.dst≠some t
 rw':∀ x y,kd ty oi.op=.r x->kd ty oj.op=.w y->x∈xs/\∃ t,x=.tmp t/\∀ k o,i<=k->k<j->all[k]? =some o->o.dst≠some t
theorem Ja{j i:Nat}{x:uQ}{rest:Option (List uQ)}{xs:List uQ}(h:VG all j x i rest=some xs):
  ∃ ys,rest=some ys/\xs=x::ys/\∃ t,x=.tmp t/\∀ k o,i<=k->k<j->all[k]? =some o->o.dst≠some t:=by
 unfold VG at h;split at h
 ·rename_i t
  split at h
  ·cases h
  ·rename_i AEr
   split at h
   ·rename_i ys
    cases h;refine⟨ys,rfl,rfl,t,rfl,fun k o h1 h2 ho hd=>?_⟩;rw[List.any_eq_false]at AEr;refine AEr (o,k) (Gu.2 ho) ?_;have e1:Nat.ble i k=true:=Ar.2 h1;have e2:uz k j=true:=Ba.2 h2;simp only[e1,e2,xD];rw[Me,hd];simp
   ·cases h
 ·cases h
theorem Ex{j:Nat}{oj:wG}:∀ {l:List (wG×Nat)} {xs:List uQ},apart ty all bs j oj l=some xs->∀ oi i,(oi,i)∈l->i<j->isB bs i j=false->AEq ty all xs i j oi oj
 |[],xs,_,oi,i,hm,_,_=>by cases hm
 |(o,k)::l,xs,h,oi,i,hm,hij,hB=>by
  unfold apart at h;have mono:∀ {ys:List uQ} {x:uQ},AEq ty all ys i j oi oj->AEq ty all (x::ys) i j oi oj:=fun h=>
   {h with wr:=fun a b h1 h2=>(h.wr a b h1 h2).imp (td _) id,rw':=fun a b h1 h2=>(h.rw' a b h1 h2).imp (td _) id}
  rcases uA.1 hm with he|hm
  ·obtain⟨e1,e2⟩:=Prod.mk.inj he
   subst e1;subst e2;have hc:(uz i j && !isB bs i j)=true:=by rw[hB,Ba.2 hij];rfl
   rw[hc]at h;simp only at h;unfold Zb at h;split at h
   ·rename_i hk
    exact⟨(fun x y h1=>by rw[hk]at h1;cases h1),(fun x h1=>by rw[hk]at h1;cases h1),(fun y h1=>by rw[hk]at h1;cases h1),(fun x y h1=>by rw[hk]at h1;cases h1),(fun x y h1=>by rw[hk]at h1;cases h1)⟩
   ·rename_i hk _
    exact⟨(fun x y _ h1=>by rw[hk]at h1;cases h1),(fun x _ h1=>by rw[hk]at h1;cases h1),(fun y _ h1=>by rw[hk]at h1;cases h1),(fun x y _ h1=>by rw[hk]at h1;cases h1),(fun x y _ h1=>by rw[hk]at h1;cases h1)⟩
   ·cases h
   ·cases h
   ·cases h
   ·rename_i hk1 hk2
    obtain⟨ys,_,rfl,t,ht,hw⟩:=Ja h;exact⟨(fun x y _ h1=>by rw[hk2]at h1;cases h1),(fun x _ h1=>by rw[hk2]at h1;cases h1),(fun y h1=>by rw[hk1]at h1;cases h1),(fun x y h1 _=>by rw[hk1]at h1;cases h1;exact⟨te,t,ht,hw⟩),(fun x y h1=>by rw[hk1]at h1;cases h1)⟩
   ·rename_i hk1 hk2
    obtain⟨ys,_,rfl,t,ht,hw⟩:=Ja h;exact⟨(fun x y h1=>by rw[hk1]at h1;cases h1),(fun x h1=>by rw[hk1]at h1;cases h1),(fun y h1=>by rw[hk1]at h1;cases h1),(fun x y h1=>by rw[hk1]at h1;cases h1),(fun x y h1 _=>by rw[hk1]at h1;cases h1;exact⟨te,t,ht,hw⟩)⟩
   ·rename_i q1 q2 q3 q4 q5 q6 q7
    exact⟨fun x y h1 h2=>q3 x y h1 h2,fun x h1 h2=>q4 x h1 h2,fun y h1 h2=>q5 y h1 h2,fun x y h1 h2=>(q6 x y h1 h2).elim,fun x y h1 h2=>(q7 x y h1 h2).elim⟩
  ·split at h
   ·exact Ex h oi i hm hij hB
   ·unfold Zb at h
    split at h
    ·exact Ex h oi i hm hij hB
    ·exact Ex h oi i hm hij hB
    ·cases h
    ·cases h
    ·cases h
    ·obtain⟨ys,h1,rfl,_⟩:=Ja h
     exact mono (Ex h1 oi i hm hij hB)
    ·obtain⟨ys,h1,rfl,_⟩:=Ja h
     exact mono (Ex h1 oi i hm hij hB)
    ·exact Ex h oi i hm hij hB
theorem Jb{j i:Nat}{o:wG}{ask:Nat->Kd->Bool}(ho:all[i]? =some o)(hij:i≠j)(h1:isB bs i j≠true)(h2:isB bs j i≠true)(ha:ask i (kd ty o.op)=true):loose ty all bs j ask=true:=by
 unfold loose;rw[List.any_eq_true];refine⟨(o,i),Gu.2 ho,?_⟩;have hb:tm i j=false:=by
  cases hb:tm i j with
  |false=>rfl
  |true=>exact absurd (A1.1 hb) hij
 simp only[hb,um,xD,fD h1 h2,ha]
inductive AC0 (ty:TTy)(all:List wG)(bs:List Nat)(j:Nat)(o:wG)(xs:List uQ):ACA->Prop
 |ABn (hk:kd ty o.op=.q) (hs:ACJ ty all bs j=true):AC0 ty all bs j o xs (.quiet .ABn)
 |weak (hk:kd ty o.op=.q) (hs:ACJ ty all bs j=false):AC0 ty all bs j o xs (.quiet .weak)
 |free (hk:kd ty o.op=.q) (hs:ACJ ty all bs j=false) (hl:ADE ty all bs j=false):AC0 ty all bs j o xs (.quiet .free)
 |alloc (hk:kd ty o.op=.a):AC0 ty all bs j o xs (.quiet .ABn)
 |read {x:uQ} (hk:kd ty o.op=.r x):AC0 ty all bs j o xs (ADQ (loose ty all bs j fun i k=>isQ k && !(ACJ ty all bs i)) x xs)
 |write {x:uQ} (hk:kd ty o.op=.w x):AC0 ty all bs j o xs (.wr x xs)
 |ADC {x:uQ} (hk:kd ty o.op=.w x) (hl:(loose ty all bs j fun _ k=>isR k)=false):AC0 ty all bs j o xs (.quiet .free)
 |plain (hk:kd ty o.op=.p):AC0 ty all bs j o xs .plain
theorem SU{j:Nat}{o:wG}{ah:ACA}(h:LQ ty all bs j o=some ah):∃ xs,apart ty all bs j o all.zipIdx=some xs/\AC0 ty all bs j o xs ah:=by
 unfold LQ at h;split at h
 ·cases h
 ·rename_i xs hx
  refine⟨xs,hx,?_⟩;split at h
  ·rename_i hk
   split at h
   ·rename_i hs;cases h;exact .ABn hk hs
   ·rename_i hs _;cases h;exact .weak hk hs
   ·rename_i hs hl;cases h;exact .free hk hs hl
  ·rename_i hk;cases h;exact .alloc hk
  ·rename_i hk;cases h;exact .read hk
  ·rename_i hk
   split at h
   ·cases h;exact .write hk
   ·rename_i hl;cases h;exact .ADC hk hl
  ·rename_i q1 q2 q3 q4
   cases h;refine .plain ?_;cases hk:kd ty o.op with
   |p=>rfl
   |a=>exact absurd hk q2
   |r x=>exact absurd hk (q3 x)
   |w x=>exact absurd hk (q4 x)
   |q=>exact absurd hk q1
theorem Na:∀ {l:List wG} {j:Nat} {ahs:List ACA},Og ty all bs j l=some ahs->∀ k o,l[k]? =some o->LQ ty all bs (j+k) o=some (ahs.getD k .plain)
 |[],j,ahs,h,k,o,hk=>by cases hk
 |o'::l,j,ahs,h,k,o,hk=>by
  unfold Og at h;split at h
  ·rename_i a ha
   split at h
   ·rename_i r hr
    cases h;cases k with
    |zero=>cases hk;exact ha
    |succ k=>
     have:=Na hr k o hk;have e:j+(k+1)=j.succ+k:=by omega
     rw[e];exact this
   ·cases h
  ·cases h
theorem L4{old:Bool}{x:uQ}{xs:List uQ}:(ADQ old x xs=.plain/\old=false/\xs=[])\/ADQ old x xs=.chk old x xs:=by
 unfold ADQ;cases old<;>cases xs<;>first|exact .inl ⟨rfl,rfl,rfl⟩|exact .inr rfl
theorem AC0.ok{j:Nat}{o:wG}{xs:List uQ}{ah:ACA}(h:AC0 ty all bs j o xs ah):AD1 ty o ah:=by
 cases h with
 |ABn hk _=>exact⟨(fun _ _ h=>by rw[hk]at h;rcases h with h|⟨_,h⟩<;>cases h),(fun _ _ h=>by cases h),(fun _ _ _ h=>by cases h)⟩
 |weak hk _=>exact⟨(fun _ _ h=>by rw[hk]at h;rcases h with h|⟨_,h⟩<;>cases h),(fun _ _ h=>by cases h),(fun _ _ _ h=>by cases h)⟩
 |free hk _ _=>exact⟨(fun _ _ h=>by rw[hk]at h;rcases h with h|⟨_,h⟩<;>cases h),(fun _ _ h=>by cases h),(fun _ _ _ h=>by cases h)⟩
 |alloc hk=>exact⟨(fun _ _ h=>by rw[hk]at h;rcases h with h|⟨_,h⟩<;>cases h),(fun _ _ h=>by cases h),(fun _ _ _ h=>by cases h)⟩
 |read hk=>
  rcases L4 (old:=loose ty all bs j fun i k=>isQ k && !(ACJ ty all bs i)) (xs:=xs)with ⟨h,_⟩|h
  ·rw[h];exact .plain ty o
  ·rw[h];exact⟨(fun _ h=>by cases h),(fun _ _ h=>by cases h),(fun _ _ _ h=>by cases h;exact hk)⟩
 |write hk=>exact⟨(fun _ h=>by cases h),(fun _ _ h=>by cases h;exact hk),(fun _ _ _ h=>by cases h)⟩
 |ADC hk _=>exact⟨(fun _ _ h=>by rw[hk]at h;rcases h with h|⟨_,h⟩<;>cases h),(fun _ _ h=>by cases h),(fun _ _ _ h=>by cases h)⟩
 |plain hk=>exact .plain ty o
theorem AC0.AD0{j:Nat}{o:wG}{xs:List uQ}{ah:ACA}(h:AC0 ty all bs j o xs ah):AFy ty o ah:=by
 cases h with
 |read hk=>exact .inl (.inr ⟨_,hk⟩)
 |plain hk=>exact .inl (.inl hk)
 |_=>exact .inr ⟨(fun h=>by cases h),(fun _ _ _ h=>by cases h)⟩
end
end
noncomputable section
open Go
section
variable {P:Program}{ty:TTy}{all:List wG}{ρ:Nat->Rho}{H:Nat->Hp}{V:Nat->IN}{T:Nat->Nat->Prop}{run:Nat->Bool}{ahs:List ACA}{bs:List Nat}
theorem LD(hah:∀ j o,all[j]? =some o->∃ xs,apart ty all bs j o all.zipIdx=some xs/\AC0 ty all bs j o xs (ahs.getD j .plain))(tr:Tr P ty all ahs all ρ H V run T){j:Nat}(hj:j<all.length):
  (H (j+1)).low<=(H j).low/\(H j).high<=(H (j+1)).high/\(∀ c,T j c->(H (j+1)).low<=c/\c<=(H (j+1)).high)/\(H (j+1)).mark=(H j).mark:=by
 have ho:all[j]? =some all[j]:=tW hj;obtain⟨xs,_,ha⟩:=hah j _ ho;rcases (tr.sf j _ ho).core with ⟨_,core⟩|⟨_,_,hh,hT⟩
 ·exact core.AD0 ha.AD0
 ·rw[hh];exact⟨If _,If _,fun c hc=>absurd hc (hT c),rfl⟩
theorem ES(hah:∀ j o,all[j]? =some o->∃ xs,apart ty all bs j o all.zipIdx=some xs/\AC0 ty all bs j o xs (ahs.getD j .plain))(tr:Tr P ty all ahs all ρ H V run T){i:Nat}:
  ∀ {k:Nat},i<=k->k<=all.length->(H k).low<=(H i).low/\(H i).high<=(H k).high/\(H k).mark=(H i).mark:=by
 intro k h hk
 induction k with
 |zero=>have:i=0:=Nat.le_zero.1 h;subst this;exact⟨If _,If _,rfl⟩
 |succ k ih=>
  rcases uG k i with h2|h2
  ·have:i=k+1:=by omega
   subst this;exact⟨If _,If _,rfl⟩
  ·obtain⟨a1,a2,a3⟩:=ih h2 (by omega)
   obtain⟨b1,b2,_,b3⟩:=LD hah tr (j:=k) (by omega);exact⟨uO b1 a1,uO a2 b2,b3.trans a3⟩
theorem QQ(tr:Tr P ty all ahs all ρ H V run T){t:Nat}{u:IN}{i k:Nat}(h:i<=k)(hk:k<=all.length)(hs:∀ m o,i<=m->m<k->all[m]? =some o->o.dst≠some t)(hu:evR (ρ k) (.tmp t)=some u):evR (ρ i) (.tmp t)=some u:=
 tr.backward h hk hs hu
theorem fI(hbs:bs=D7 [] all)(he:H3 all=true)(hs:Jt all bs=true)
  (hah:∀ j o,all[j]? =some o->∃ xs,apart ty all bs j o all.zipIdx=some xs/\AC0 ty all bs j o xs (ahs.getD j .plain))(tr:Tr P ty all ahs all ρ H V run T):
  Laws ty all ρ H T (fun i j=>isB bs i j=true):=by
 have len:∀ {i:Nat} {o:wG},all[i]? =some o->i<all.length:=fun h=>(uK.1 h).1
 have ADY:∀ j oj c,all[j]? =some oj->T j c->Core P ty oj (ahs.getD j .plain) (ρ j) (H j) (H (j+1)) (V j) (T j):=by
  intro j oj c hj hc;rcases (tr.sf j oj hj).core with ⟨_,core⟩|⟨_,_,_,hT⟩
  ·exact core
  ·exact absurd hc (hT c)
 have kinds:∀ j oj c,all[j]? =some oj->T j c->(∃ x,kd ty oj.op=.w x)\/(kd ty oj.op=.q/\ACJ ty all bs j=false):=by
  intro j oj c hj hc;have core:=ADY j oj c hj hc;obtain⟨xs,_,ha⟩:=hah j oj hj;generalize ahs.getD j .plain=ah at ha core;cases ha with
  |ABn hk _=>exact absurd hc (core.ABn rfl c)
  |weak hk h=>exact .inr ⟨hk,h⟩
  |free hk h _=>exact .inr ⟨hk,h⟩
  |alloc hk=>exact absurd hc (core.ABn rfl c)
  |read hk=>exact absurd hc ((core.tp (.inr ⟨_,hk⟩)).1 c)
  |write hk=>exact .inl ⟨_,hk⟩
  |ADC hk _=>exact .inl ⟨_,hk⟩
  |plain hk=>exact absurd hc ((core.tp (.inl hk)).1 c)
 have held:∀ {i j oi oj},all[i]? =some oi->all[j]? =some oj->i<j->¬ isB bs i j=true->∃ xs,AC0 ty all bs j oj xs (ahs.getD j .plain)/\AEq ty all xs i j oi oj:=by
  intro i j oi oj hi hj hij hB;obtain⟨xs,hx,ha⟩:=hah j oj hj;exact⟨xs,ha,Ex hx oi i (Gu.2 hi) hij (by cases h:isB bs i j<;>first|rfl|exact absurd h hB)⟩
 refine {lt:=fun i j h=>ot hbs he j i h,slots:=fun i j oi oj d hij hi hj hd hn=>bU hs hij hi hj hd hn,kinds:=fun j oj c hj hc=>(kinds j oj c hj hc).imp id (·.1),fixed:=?_,reads:=?_,tlt:=?_,AEp:=?_,low:=?_,high:=?_}
 ·
  intro i j oi c hij hi hjn hc hki;have hj:all[j]? =some all[j]:=tW hjn;by_cases h1:isB bs i j=true
  ·exact .inl h1
  by_cases h2:isB bs j i=true
  ·exact .inr h2
  exfalso
  have hQQ:∀ {i j:Nat} {oi:wG},all[i]? =some oi->i≠j->¬ isB bs i j=true->¬ isB bs j i=true->kd ty oi.op=.q->ACJ ty all bs j=true:=fun hi hij h1 h2 hk=>by
   unfold ACJ;exact Jb hi hij h1 h2 (by rw[hk];rfl)
  rcases kinds j _ c hj hc with ⟨xj,hkj⟩|⟨hkj,hns⟩
  ·rcases yU hij with h|h
   ·obtain⟨xs,_,hh⟩:=held hi hj h h1
    rcases hki with ⟨x,hki⟩|hki
    ·exact hh.ww x xj hki hkj
    ·exact hh.qw xj hki hkj
   ·obtain⟨xs,_,hh⟩:=held hj hi h h2
    rcases hki with ⟨x,hki⟩|hki
    ·exact hh.ww xj x hkj hki
    ·exact hh.wq xj hkj hki
  ·rcases hki with ⟨x,hki⟩|hki
   ·rcases yU hij with h|h
    ·obtain⟨xs,_,hh⟩:=held hi hj h h1
     exact hh.wq x hki hkj
    ·obtain⟨xs,_,hh⟩:=held hj hi h h2
     exact hh.qw x hkj hki
   ·rw[hQQ hi hij h1 h2 hki]at hns;cases hns
 ·
  intro i j oi x c u hij hi hjn hc hki hu hb;have hj:all[j]? =some all[j]:=tW hjn;by_cases h1:isB bs i j=true
  ·exact .inl h1
  by_cases h2:isB bs j i=true
  ·exact .inr h2
  exfalso
  have core:=ADY j _ c hj hc;have hin:=len hi;have si:=(tr.sf i oi hi).side (by rw[hki];intro h;cases h);rcases kinds j _ c hj hc with ⟨xj,hkj⟩|⟨hkj,hns⟩
  ·
   have AFC:∃ xs,ahs.getD j .plain=.wr xj xs/\apart ty all bs j all[j] all.zipIdx=some xs:=by
    obtain⟨xs,hx,ha⟩:=hah j _ hj;generalize ahs.getD j .plain=ah at ha;cases ha with
    |write hk=>rw[hkj]at hk;cases hk;exact⟨xs,rfl,hx⟩
    |ADC hk hl=>
     have:=Jb (ty:=ty) (ask:=fun _ k=>isR k) hi hij h1 h2 (by simp only[hki];rfl);rw[hl]at this;cases this
    |ABn hk _=>rw[hkj]at hk;cases hk
    |weak hk _=>rw[hkj]at hk;cases hk
    |free hk _ _=>rw[hkj]at hk;cases hk
    |alloc hk=>rw[hkj]at hk;cases hk
    |read hk=>rw[hkj]at hk;cases hk
    |plain hk=>rw[hkj]at hk;cases hk
   obtain⟨xsj,hej,hxj⟩:=AFC;obtain⟨u',hu',hb'⟩:=core.wr xj xsj hej c hc;have sj:=(tr.sf j _ hj).side (by rw[hkj];intro h;cases h);rcases yU hij with h|h
   ·
    have hh:=Ex hxj oi i (Gu.2 hi) h (by cases h:isB bs i j<;>first|rfl|exact absurd h h1);obtain⟨hm,t,rfl,hw⟩:=hh.rw' x xj hki hkj;obtain⟨_,hkn⟩:=sj.known xj xsj (.inl hej);obtain⟨u2,hu2⟩:=hkn _ hm;have ADA:=QQ tr (vP h) (vP hjn) (fun m o a1 a2 a3=>hw m o a1 a2 a3) hu2;rw[hu]at ADA;cases ADA;exact sj.wrx xj xsj hej _ hm u' u c hu' hu2 hb' hb
   ·
    obtain⟨xs,ha,hh⟩:=held hj hi h h2;obtain⟨hm,t,rfl,hw⟩:=hh.wr xj x hkj hki;have AGq:∃ old,ahs.getD i .plain=.chk old x xs:=by
     generalize ahs.getD i .plain=ah at ha;cases ha with
     |read hk=>
      rw[hki]at hk;cases hk;rcases L4 (x:=x) (old:=loose ty all bs i fun i k=>isQ k && !(ACJ ty all bs i)) (xs:=xs)with ⟨_,_,h⟩|h
      ·subst h;cases hm
      ·exact⟨_,h⟩
     |ABn hk _=>rw[hki]at hk;cases hk
     |weak hk _=>rw[hki]at hk;cases hk
     |free hk _ _=>rw[hki]at hk;cases hk
     |alloc hk=>rw[hki]at hk;cases hk
     |write hk=>rw[hki]at hk;cases hk
     |ADC hk _=>rw[hki]at hk;cases hk
     |plain hk=>rw[hki]at hk;cases hk
    obtain⟨old,hei⟩:=AGq;obtain⟨_,hkn⟩:=si.known x xs (.inr ⟨old,hei⟩);obtain⟨u2,hu2⟩:=hkn _ hm;have ADA:=QQ tr (vP h) (vP hin) (fun m o a1 a2 a3=>hw m o a1 a2 a3) hu2;rw[hu']at ADA;cases ADA;exact si.chk old x xs hei _ hm u u' c hu hu2 hb hb'
  ·
   have hwk:∀ c,T j c->(H j).mark<=c:=by
    obtain⟨xs,hx,ha⟩:=hah j _ hj;generalize ahs.getD j .plain=ah at ha core;cases ha with
    |weak hk _=>exact core.weak rfl
    |free hk _ hl=>
     have:ADE ty all bs j=true:=by
      unfold ADE;exact Jb (ty:=ty) (ask:=fun _ k=> !isP k) hi hij h1 h2 (by simp only[hki];rfl)
     rw[hl]at this;cases this
    |ABn hk h=>rw[hns]at h;cases h
    |alloc hk=>rw[hkj]at hk;cases hk
    |read hk=>rw[hkj]at hk;cases hk
    |write hk=>rw[hkj]at hk;cases hk
    |ADC hk _=>rw[hkj]at hk;cases hk
    |plain hk=>rw[hkj]at hk;cases hk
   have hold:∃ xs,ahs.getD i .plain=.chk true x xs:=by
    obtain⟨xs,hx,ha⟩:=hah i oi hi;generalize ahs.getD i .plain=ah at ha;cases ha with
    |read hk=>
     rw[hki]at hk;cases hk;have hl:(loose ty all bs i fun i k=>isQ k && !(ACJ ty all bs i))=true:=
      Jb hj (fun h=>hij h.symm) h2 h1 (by rw[hkj,hns];rfl)
     rw[hl];rcases L4 (x:=x) (old:=true) (xs:=xs)with ⟨_,h,_⟩|h
     ·cases h
     ·exact⟨xs,h⟩
    |ABn hk _=>rw[hki]at hk;cases hk
    |weak hk _=>rw[hki]at hk;cases hk
    |free hk _ _=>rw[hki]at hk;cases hk
    |alloc hk=>rw[hki]at hk;cases hk
    |write hk=>rw[hki]at hk;cases hk
    |ADC hk _=>rw[hki]at hk;cases hk
    |plain hk=>rw[hki]at hk;cases hk
   obtain⟨xs,hei⟩:=hold;have h3:=si.old x xs hei u c hu hb;have h4:=hwk c hc;have m1:=(ES hah tr (uD i) (vP hin)).2.2;have m2:=(ES hah tr (uD j) (vP hjn)).2.2;omega
 ·intro j c hjn hc
  exact(ADY j _ c (tW hjn) hc).tlt c hc
 ·intro j c hjn hc
  obtain⟨_,_,h3,_⟩:=LD hah tr hjn;obtain⟨h4,h5⟩:=h3 c hc;obtain⟨h6,h7,_⟩:=ES hah tr (i:=j+1) hjn (If _);omega
 ·exact(ES hah tr (uD _) (If _)).1
 ·exact(ES hah tr (uD _) (If _)).2.1
theorem ZG(h:Up ty all=some ahs):∃ bs,bs=D7 [] all/\H3 all=true/\Jt all bs=true/\∀ j o,all[j]? =some o->∃ xs,apart ty all bs j o all.zipIdx=some xs/\AC0 ty all bs j o xs (ahs.getD j .plain):=by
 unfold Up at h;rw[UJ]at h;split at h
 ·rename_i hc
  simp only[uB]at hc;refine⟨_,rfl,hc.1,hc.2.2,fun j o ho=>?_⟩;have:=Na h j o ho;rw[sh]at this;exact SU this
 ·cases h
end
end
noncomputable section
open Go
theorem Ey{a b:Bool}(h:(bif a then b else false)=true):a=true/\b=true:=by cases a<;>first|exact⟨rfl,h⟩|cases h
section

end
end
noncomputable section
open Go
def Ag(S:List Nat)(e e':Env):Prop:=∀ t,t<240->t∉S->e'.get t=e.get t
theorem Ag.refl(S:List Nat)(e:Env):Ag S e e:=fun _ _ _=>rfl
theorem Ag.trans{S:List Nat}{e e1 e2:Env}(h:Ag S e e1)(h2:Ag S e1 e2):Ag S e e2:=fun t ht hn=>(h2 t ht hn).trans (h t ht hn)
def HD(S:List Nat)(e:Env):X->Prop
 |.no=>True
 |.norm e' _=>Ag S e e'
 |.exit _ e' _=>Ag S e e'
 |.ret e' _=>Ag S e e'
theorem HD.of{S:List Nat}{e e1:Env}{x:X}(h:Ag S e e1)(h2:HD S e1 x):HD S e x:=by
 cases x with
 |no=>trivial
 |norm _ _=>exact h.trans h2
 |exit _ _ _=>exact h.trans h2
 |ret _ _=>exact h.trans h2
def CM(S:List Nat)(c:C):Prop:=∀ F e h,HD S e (c F e h)
theorem Of{S:List Nat}{d:Nat}(hd:d∈S)(hl:d<240)(v:IN)(e:Env):Ag S e (Env.set d v e):=fun t ht hn=>by
 rw[Env.ABq _ _ _ _ hl ht,if_neg (by rintro rfl;exact hn hd)]
theorem Pu{S:List Nat}:∀ (l:List Nat) (e:Env),(∀ d∈l,d∈S/\d<240)->Ag S e (C8 e l)
 |[],e,_=>.refl _ _
 |d::l,e,h=>(Of (h d te).1 (h d te).2 _ e).trans (Pu l _ fun d hd=>h d (td _ hd))
section
variable {S:List Nat}
theorem Co:CM S cNo:=fun _ _ _=>trivial
theorem TG:CM S Aq:=fun _ e _=>.refl _ e
theorem XJ:CM S Ah:=fun _ e _=>.refl _ e
theorem TC(id:Nat):CM S (B8 id):=fun _ e _=>.refl _ e
theorem Qp{d:Nat}{f:OpF}{k:C}(hd:d∈S)(hl:d<240)(hk:CM S k):CM S (SS (FF d) f k):=fun F e h=>by
 unfold SS;cases f F e h with
 |no=>trivial
 |ok v h'=>
  show HD S e (FF d (fun e=>k F e h') v e);rw[ED d hl];exact .of (Of hd hl v e) (hk F _ h')
theorem Zm{f:OpF}{k:C}(hk:CM S k):CM S (cDo f k):=fun F e h=>by
 unfold cDo;cases f F e h with
 |no=>trivial
 |ok v h'=>exact hk F e h'
theorem fG{g:Env->IN}{w:Bool}{d:Nat}{f:OpF}{k:C}(hd:d∈S)(hl:d<240)(hk:CM S k):CM S (cG g w (FF d) f k):=fun F e h=>by
 have h0:HD S e (FF d (fun e=>k F e h) ABd e):=by
  rw[ED d hl];exact .of (Of hd hl _ e) (hk F _ h)
 unfold cG;split
 ·rename_i b _
  cases (w == b)with
  |true=>exact Qp hd hl hk F e h
  |false=>exact h0
 ·exact h0
 ·trivial
theorem KV{w:Env->IN}{rs:List (Env->IN)}{k:C}(hk:CM S k):CM S (Cf w rs k):=fun F e h=>by
 unfold Cf;split
 ·rename_i b _
  cases CY b e rs with
  |true=>exact hk F e h
  |false=>trivial
 ·exact hk F e h
theorem XI{x:O}{k:C}(hk:CM S k):CM S (EQ x k):=fun F e h=>by
 unfold EQ;split
 ·rename_i b _
  cases uz b h.mark with
  |true=>exact hk F e h
  |false=>trivial
 ·exact hk F e h
theorem TF{k:C}(hk:CM S k):CM S (B2 k):=fun F e h=>hk F e _
theorem N9{a b:C}(ha:CM S a)(hb:CM S b):CM S (BB a b):=fun F e h=>by
 have:=ha F e h;unfold BB;cases hx:a F e h with
 |no=>trivial
 |norm e1 h1=>rw[hx]at this;exact .of this (hb F e1 h1)
 |exit i e1 h1=>rw[hx]at this;exact this
 |ret e1 h1=>rw[hx]at this;exact this
theorem Ip{c:O}{a b:C}(ha:CM S a)(hb:CM S b):CM S (IR c a b):=fun F e h=>by
 show HD S e (iz (c e) (a F e h) (b F e h));cases c e<;>first|trivial|skip
 rename_i t;cases t with
 |true=>exact ha F e h
 |false=>exact hb F e h
theorem K4{id:Nat}{a:C}(ha:CM S a):CM S (AY id a):=fun F e h=>by
 have:=ha F e h;unfold AY;cases hx:a F e h with
 |no=>trivial
 |norm e1 h1=>rw[hx]at this;exact this
 |exit i e1 h1=>
  rw[hx]at this;show HD S e (bif tm i id then .norm e1 h1 else .exit i e1 h1);cases tm i id<;>exact this
 |ret e1 h1=>rw[hx]at this;exact this
theorem MV{a:C}(ha:CM S a):∀ n,CM S (iter a n)
 |0=>fun _ _ _=>trivial
 |n+1=>fun F e h=>by
  have:=ha F e h;unfold iter;cases hx:a F e h with
  |no=>trivial
  |norm e1 h1=>rw[hx]at this;exact .of this (MV ha n F e1 h1)
  |exit i e1 h1=>rw[hx]at this;exact this
  |ret e1 h1=>rw[hx]at this;exact this
theorem MW{a:C}(ha:CM S a):CM S (A4 a):=MV ha rounds
theorem N8{e:Env}{c:Bool}{x:X}(hx:HD S e x):HD S e (bif c then x else .no):=by
 cases c
 ·trivial
 ·exact hx
theorem TH{k:Walk}{a:C}(hw:∀ d∈k.ws,d∈S/\d<240)(hm:k.more∈S/\k.more<240)(hr:∀ d∈k.rs,d∈S/\d<240)(ha:CM S a):CM S (JG k a):=fun F e h=>by
 have hl:=MW ha F e h;have hcl:∀ b,HD S e (Fy k a F e h b):=fun b=>by
  unfold Fy;split
  ·exact(Pu _ _ hw).trans (Of hm.1 hm.2 _ _)
  ·trivial
 unfold JG;cases J k.it e<;>first|trivial|skip
 rename_i o;cases o with
 |none=>trivial
 |some ad=>
  simp only;cases EW (h.bl.get ad.block)with
  |ok m since seen last=>
   cases m with
   |none=>exact hl
   |some m=>
    cases seen with
    |cons _ _=>trivial
    |nil=>
     simp only;cases Bj h m with
     |no=>trivial
     |ok es c=>
      cases es with
      |nil=>exact hl
      |cons x l=>
       cases l with
       |nil=>exact hl
       |cons y l=>
        show HD S e (bif tm ad.off 0 then(bif Nat.ble 256 ad.block then Fy k a F e h ad.block else .no)else .no);exact N8 (N8 (hcl _))
  |_=>exact hl
end
theorem ZJ{o:wG}{d:Nat}(hd:o.dst=some d):∀ (l:List wG),o∈l->d∈JO l:=by
 intro l
 induction l with
 |nil=>intro h;cases h
 |cons p l ih=>
  intro h;unfold JO;rcases uA.1 h with h|h
  ·rw[<- h,hd];exact te
  ·have:=ih h
   split
   ·exact td _ this
   ·exact this
theorem Ea:∀ {c:AAx} {d:Nat},d∈I7 c->d∈wrs c
 |.seq a b,d,h=>by
  have h0:d∈I7 a++I7 b->d∈wrs a++wrs b:=fun h=>by
   rcases uP.1 h with h|h
   ·exact uf _ (Ea h)
   ·exact uY _ (Ea h)
  unfold I7 at h;split at h
  ·split at h
   ·exact uf _ h
   ·exact uf _ (Ea h)
  ·exact h0 h
 |.cond _ a b,d,h=>by
  have h:d∈I7 a++I7 b:=h;rcases uP.1 h with h|h
  ·exact uf _ (Ea h)
  ·exact uY _ (Ea h)
 |.block _ a,d,h=>Ea (c:=a) h
 |.loop a,d,h=>Ea (c:=a) h
 |.scope a,d,h=>Ea (c:=a) h
 |.region _ _ _,d,h=>by cases h
 |.skip,d,h=>by cases h
 |.exit _,d,h=>by cases h
 |.ret,d,h=>by cases h
 |.rangeFunc _ _ _ _,d,h=>by cases h
 |.label _,d,h=>by cases h
 |.goto _,d,h=>by cases h
 |.refuse _,d,h=>by cases h
theorem Ur:∀ {l:List Nat},eZ l=true->∀ d∈l,d<240
 |d::l,h,x,hx=>by
  unfold eZ at h;split at h
  ·rename_i hb
   rcases uA.1 hx with rfl|hx
   ·exact Ba.1 hb
   ·exact Ur h x hx
  ·cases h
structure ACt (A:List Nat)(a:AAx)(k:Walk)(id:Nat)(o1 o2:wG)(r2:AAx):Prop where
 code:a=.seq (.region id #[o1,o2] false) (.seq (.cond (.tmp k.more) .skip (.exit k.out)) r2)
 op1:o1.op=.next (.tmp k.it) false
 ADn:o1.dst=some k.nx
 AFD:o1.guard=none
 op2:o2.op=.extract (.tmp k.nx) 0
 AD3:o2.dst=some k.more
 AFE:o2.guard=none
 ne:k.nx≠k.more
 itA:memN k.it A=false
 nxA:memN k.nx A=false
 moA:memN k.more A=false
 itL:k.it<240
 nxL:k.nx<240
 moL:k.more<240
 ws:k.ws=wrs a
 itW:k.it∉k.ws
 few:∀ d∈k.ws,d<240
 rs:∀ d∈k.rs,d∈k.ws
theorem Md{t:Nat}:∀ {l:List Nat},memN t l=false->t∉l
 |d::l,h,hm=>by
  unfold memN at h;split at h
  ·cases h
  ·rename_i hb
   rcases uA.1 hm with rfl|hm
   ·rw[vT]at hb;cases hb
   ·exact Md h hm
theorem ga{more out:Nat}{c:AAx}(h:sG more c=some out):∃ r2,c=.seq (.cond (.tmp more) .skip (.exit out)) r2:=by
 cases c with
 |seq a r=>cases a with
  |cond c x y=>cases c with
   |tmp t=>cases x with
    |skip=>cases y with
     |exit id=>
      have h:(match tm t more with|true=>some id|false=>none)=some out:=h;cases hb:tm t more with
      |false=>rw[hb]at h;cases h
      |true=>
       rw[hb]at h;cases h;have:=A1.1 hb;subst this;exact⟨r,rfl⟩
     |_=>cases h
    |_=>cases h
   |_=>cases h
  |_=>cases h
 |_=>cases h
theorem SO{A:List Nat}{a:AAx}{k:Walk}(h:WY A a=some k):∃ id o1 o2 r2,ACt A a k id o1 o2 r2:=by
 unfold WY at h;split at h
 case h_2=>cases h
 rename_i x rest;split at h
 case h_2=>cases h
 rename_i id ops draw;split at h
 case h_2=>cases h
 unfold WX at h;split at h
 case h_2=>cases h
 rename_i o1 l1 hl0;split at h
 case h_2=>cases h
 rename_i o2 l2;split at h
 case h_2=>cases h
 split at h
 case h_2=>cases h
 rename_i x str AGr;split at h
 case h_2=>cases h
 rename_i it;split at h
 case h_2=>cases h
 split at h
 case h_2=>cases h
 rename_i nx hd1 hg1;split at h
 case h_2=>cases h
 rename_i y i AGs;split at h
 case h_2=>cases h
 rename_i n2;split at h
 case h_2=>cases h
 rename_i more hd2 hg2;split at h
 case h_2=>cases h
 rename_i hb;split at h
 case h_2=>cases h
 rename_i out hout;cases h;simp only[uB,xW]at hb;obtain⟨b1,b2,b3,b4,b5,b6,b7,b8,b9,b10,b11⟩:=hb;obtain⟨r2,rfl⟩:=ga hout;have e1:=A1.1 b1;have e2:=A1.1 b2;subst e1;subst e2;have AGt:ops= #[o1,o2]:=vK hl0;subst AGt;refine⟨id,o1,o2,r2,{code:=rfl,op1:=AGr,ADn:=hd1,AFD:=hg1,op2:=AGs,AD3:=hd2,AFE:=hg2,ne:=FR b3,itA:=b4,nxA:=b5,moA:=b6,itL:=Ba.1 b7,nxL:=Ba.1 b8,moL:=Ba.1 b9,ws:=?_,itW:=Md b10,few:=?_,rs:=?_}⟩
 ·show _=JO [o1,o2]++_
  simp only[JO,hd1,hd2];rfl
 ·intro d hd
  rcases uA.1 hd with rfl|hd
  ·exact Ba.1 b8
  ·rcases uA.1 hd with rfl|hd
   ·exact Ba.1 b9
   ·exact Ur b11 d hd
 ·intro d hd
  exact td _ (td _ (Ea hd))
section
variable {ty:TTy}{A S:List Nat}
theorem Hc{f:Fr}{a:ACA}{o:OpF}{k:OpF->C}(hk:∀ p,CM S (k p)):CM S (HL f a o k):=by
 unfold HL;split
 ·exact hk _
 ·exact hk _
 ·split
  ·exact KV (hk _)
  ·exact Co
 ·split
  ·split
   ·exact XI (KV (hk _))
   ·exact KV (hk _)
  ·exact Co
theorem KX{all:List wG}{k:Sg->C}(hk:∀ σ,CM S (k σ)):∀ (l:List wG) (ah:List ACA) (σ:Sg),(∀ o∈l,∀ d,o.dst=some d->d∈S)->CM S (Gy ty A all k ah l σ)
 |[],ah,σ,_=>by unfold Gy;exact hk σ
 |o::l,ah,σ,h=>by
  have ih:∀ ah σ,CM S (Gy ty A all k ah l σ):=fun ah σ=>KX hk l ah σ fun o ho=>h o (td _ ho)
  have hd:=h o te;unfold Gy;split
  ·exact Hc fun p=>Zm (ih _ _)
  ·rename_i d _ hdd
   split
   ·split
    ·split
     ·exact ih _ _
     ·exact Co
    ·exact Co
   ·split
    ·rename_i hb
     exact Hc fun p=>Qp (hd d hdd) (Ba.1 hb) (ih _ _)
    ·exact Co
  ·rename_i d _ hdd
   split
   ·exact Co
   ·split
    ·split
     ·split
      ·split
       ·rename_i hb
        exact Hc fun p=>fG (hd d hdd) (Ba.1 hb) (ih _ _)
       ·exact Co
      ·exact Co
     ·exact Co
    ·exact Co
  ·exact Co
theorem Gt{k:Option (Sg->C)}(hk:∀ k',k=some k'->∀ σ,CM S (k' σ))(σ:Sg):CM S (LE k σ):=by
 cases k with
 |none=>exact TG
 |some k=>exact hk k rfl σ
theorem Ca:∀ (c:AAx) {σ:Sg} {k:Option (Sg->C)},(∀ d∈wrs c,d∈S)->(∀ k',k=some k'->∀ σ,CM S (k' σ))->CM S (Bw ty A c σ k)
 |.skip,σ,k,hw,hk=>Gt hk σ
 |.region _ ops draw,σ,k,hw,hk=>by
  have ho:∀ o∈ops.toList,∀ d,o.dst=some d->d∈S:=fun o ho d hd=>hw d (ZJ hd _ ho)
  unfold Bw;split
  ·exact KX (fun σ=>Gt hk σ) _ _ _ ho
  ·split
   ·exact TF (KX (fun σ=>Gt hk σ) _ _ _ ho)
   ·exact Co
 |.seq a b,σ,k,hw,hk=>by
  have h1:∀ d∈wrs a,d∈S:=fun d hd=>hw d (uf _ hd)
  have h2:∀ d∈wrs b,d∈S:=fun d hd=>hw d (uY _ hd)
  exact Ca a (σ:=σ) (k:=some fun σ=>Bw ty A b σ k) h1 fun k' e σ=>by cases e;exact Ca b h2 hk
 |.cond c a b,σ,k,hw,hk=>by
  have h1:∀ d∈wrs a,d∈S:=fun d hd=>hw d (uf _ hd)
  have h2:∀ d∈wrs b,d∈S:=fun d hd=>hw d (uY _ hd)
  unfold Bw;split
  ·split
   ·exact Ip (Ca a h1 fun _ e=>by cases e) (Ca b h2 fun _ e=>by cases e)
   ·rename_i k'
    split
    ·exact N9 (Ip (Ca a h1 fun _ e=>by cases e) (Ca b h2 fun _ e=>by cases e)) (hk k' rfl [])
    ·exact Ip (Ca a h1 hk) (Ca b h2 hk)
  ·exact Co
 |.block id a,σ,k,hw,hk=>by
  have h1:∀ d∈wrs a,d∈S:=hw;unfold Bw;split
  ·exact K4 (Ca a h1 fun _ e=>by cases e)
  ·rename_i k'
   exact N9 (K4 (Ca a h1 fun _ e=>by cases e)) (hk k' rfl [])
 |.loop a,σ,k,hw,hk=>by
  have h1:∀ d∈wrs a,d∈S:=hw;have h2:CM S (Bw ty A a [] none):=Ca a h1 fun _ e=>by cases e
  unfold Bw;split
  ·rename_i k hk
   obtain⟨id,o1,o2,r2,W⟩:=SO hk;have hm:∀ d∈k.ws,d∈S/\d<240:=fun d hd=>⟨h1 d (W.ws ▸ hd),W.few d hd⟩
   refine TH hm (hm _ ?_) (fun d hd=>hm d (W.rs d hd)) h2;rw[W.ws,W.code];show _∈JO [o1,o2]++_;simp[JO,W.ADn,W.AD3]
  ·exact MW h2
 |.exit id,σ,k,hw,hk=>TC id
 |.ret,σ,k,hw,hk=>XJ
 |.scope a,σ,k,hw,hk=>Ca a (σ:=σ) (k:=k) hw hk
 |.label _,σ,k,hw,hk=>Gt hk σ
 |.rangeFunc _ _ _ _,σ,k,hw,hk=>Co
 |.goto _,σ,k,hw,hk=>Co
 |.refuse _,σ,k,hw,hk=>Co
end
structure Good (ty:TTy)(A:List Nat)(N:Nat)(φ:Phi)(h:Hp)(w:uS)(σ:Sg)(e:Env)(h':Hp)(ψ:Phi)(a:Act)(w':uS):Prop where
 sg:ACq A σ
 rel:ABh ty ψ nil h' w'
 ar:AR N ψ (ABz A σ e) a
 evo:Evo φ h w ψ h' w'
section
variable {P:Program}{ty:TTy}{F:ABZ}{A:List Nat}{N:Nat}
theorem gy{σ:Sg}(hS:ACq A σ){e:Env}{t:Nat}{u:IN}(h:ABz A [] e t=some u):ABz A σ e t=some u:=by
 rw[Eb]at h ⊢;have h:(match memN t A with|true=>none|false=>match uz t 240 with|true=>some (J t e)|false=>none)=some u:=h;cases hf:De t σ with
 |some s=>
  have:=hS.mem _ (Ej hf);simp only at this;rw[this]at h;cases h
 |none=>exact h
theorem AR.nil{φ:Phi}{σ:Sg}{e:Env}{a:Act}(hS:ACq A σ)(h:AR N φ (ABz A σ e) a):AR N φ (ABz A [] e) a:=⟨h.size,h.defs,fun t u hu=>h.rel t u (gy hS hu)⟩
theorem Good.nil{φ ψ:Phi}{h h':Hp}{w w':uS}{σ:Sg}{e:Env}{a:Act}(g:Good ty A N φ h w σ e h' ψ a w'):Good ty A N φ h w [] e h' ψ a w':=⟨.nil A,g.rel,g.ar.nil g.sg,g.evo⟩
theorem Good.trans{φ ψ χ:Phi}{h h' h2:Hp}{w w' w2:uS}{σ σ2:Sg}{e e2:Env}{a a2:Act}(g:Good ty A N φ h w σ e h' ψ a w')(g2:Good ty A N ψ h' w' σ2 e2 h2 χ a2 w2):Good ty A N φ h w σ2 e2 h2 χ a2 w2:=
 ⟨g2.sg,g2.rel,g2.ar,g.evo.trans g2.evo⟩
structure Post (ty:TTy)(A:List Nat)(N:Nat)(F:ABZ)(φ:Phi)(h:Hp)(w:uS)(k:Option (Sg->C))(X:X)(Q:Exit->Act->uS->Prop):Prop where
 go:∀ k',k=some k'->∀ σ e h' ψ a' w',Good ty A N φ h w σ e h' ψ a' w'->k' σ F e h'=X->Q .normal a' w'
 norm:k=none->∀ e h' ψ a' w',Good ty A N φ h w [] e h' ψ a' w'->X=.norm e h'->Q .normal a' w'
 exit:∀ id e h' ψ a' w',Good ty A N φ h w [] e h' ψ a' w'->X=.exit id e h'->Q (.exit id) a' w'
 ret:∀ e h' ψ a' w',Good ty A N φ h w [] e h' ψ a' w'->X=.ret e h'->Q .ret a' w'
theorem Post.then{φ:Phi}{h:Hp}{w:uS}{k:Option (Sg->C)}{X:X}{Q:Exit->Act->uS->Prop}(p:Post ty A N F φ h w k X Q){σ:Sg}{e:Env}{h':Hp}{ψ:Phi}{a':Act}{w':uS}(g:Good ty A N φ h w σ e h' ψ a' w')(hx:LE k σ F e h'=X):Q .normal a' w':=by
 cases k with
 |none=>exact p.norm rfl e h' ψ a' w' g.nil hx.symm
 |some k'=>exact p.go k' rfl σ e h' ψ a' w' g hx
theorem Z1{w:uS}{pb mb clk:Nat}{seen:List Nat}{es:List uu}{t:TypeId}(hw:w.heap[pb]? =some (.mapIter (some mb) clk ⟨seen⟩ clk))(hm:w.heap[mb]? =some (.map ⟨es⟩ clk))(hb:∀ x∈es,x.born<clk):
  ((∀ x∈es,x.born∈seen)/\(vo (.pointer (some ⟨pb,0,none⟩)) false t).run P w=.ok (.tuple #[.bool false]) w)\/
  ∃ x∈es,x.born∉seen/\∃ w1:uS,w1.heap=w.heap/\w1.tape=w.tape/\w1.os=w.os/\w1.output=w.output/\
   (vo (.pointer (some ⟨pb,0,none⟩)) false t).run P w=.ok (.tuple #[.bool true,x.key,x.val]) {w1 with heap:=w1.heap.setIfInBounds pb (.mapIter (some mb) clk ⟨seen++[x.born]⟩ clk)}:=by
 have hstop:(!(⟨seen⟩:Array Nat).isEmpty && !(⟨es⟩:Array uu).isEmpty && (⟨es⟩:Array uu).all (fun e=>decide (e.born>=clk)))=false:=by
  cases es with
  |nil=>simp
  |cons x l=>
   have:=hb x te;simp[Nat.not_le.2 this]
 generalize hl:es.filter (fun e=> !seen.contains e.born)=left;have hmem:∀ x∈left,x∈es/\x.born∉seen:=fun x hx=>by
  rw[<- hl,ut]at hx;exact⟨hx.1,by simpa using hx.2⟩
 have hlt:∀ x∈left,x.born<clk:=fun x hx=>hb x (hmem x hx).1
 have f1:(⟨es⟩:Array uu).filter (fun e=> !(⟨seen⟩:Array Nat).contains e.born)=⟨left⟩:=by
  rw[<- hl];apply vK;simp
 have f2:(⟨left⟩:Array uu).filter (fun e=>decide (e.born<clk))=⟨left⟩:=by
  apply vK;rw[yR];exact List.filter_eq_self.2 fun x hx=>by simpa using hlt x hx
 have f3:(⟨left⟩:Array uu).filter (fun e=>decide (e.born>=clk))= #[]:=by
  apply vK;rw[yR];exact List.filter_eq_nil_iff.2 fun x hx=>by simpa using hlt x hx
 cases hc:left with
 |nil=>
  left;refine⟨fun x hx=>?_,?_⟩
  ·by_cases hs:x.born∈seen
   ·exact hs
   ·have:x∈left:=by rw[<- hl,ut];exact⟨hx,by simpa using hs⟩
    rw[hc]at this;cases this
  ·subst hc
   simp only[vo,tf,CL hw rfl,tX,CL hm rfl,hstop,uV,if_false,f1,f2,f3];simp[run_choose,xN]
 |cons y ys=>
  right;have hpos:0<left.length:=by rw[hc];simp
  have hne:(⟨left⟩:Array uu).isEmpty=false:=by rw[hc];simp
  have key:∀ (i:Nat) (hi:i<left.length) (w1:uS),(choose (.mapNext left.length)).run P w=.ok i w1->w1.heap=w.heap->
    (vo (.pointer (some ⟨pb,0,none⟩)) false t).run P w=.ok (.tuple #[.bool true,(left[i]).key,(left[i]).val]) {w1 with heap:=w1.heap.setIfInBounds pb (.mapIter (some mb) clk ⟨seen++[(left[i]).born]⟩ clk)}:=by
   intro i hi w1 hch hh;have AFF:((#[]:Array (Option uu))++((⟨left⟩:Array uu)++ #[]).map some)[i]? =some (some left[i]):=by
    simp[tW hi]
   have hsz:((#[]:Array (Option uu))++((⟨left⟩:Array uu)++ #[]).map some).size=left.length:=by simp
   have ACB:=Fk (P:=P) (w:=w1) (ob':=.mapIter (some mb) clk ⟨seen++[(left[i]).born]⟩ clk) (by rw[hh];exact hw) rfl;simp only[vo,tf,CL hw rfl,tX,CL hm rfl,hstop,uV,if_false,f1,f2,f3,hne,hsz,hch,AFF];have ADu:(⟨seen⟩:Array Nat).push (left[i]).born=⟨seen++[(left[i]).born]⟩:=by apply vK;simp
   rw[ADu,ACB];simp
  have pick:∀ (i:Nat) (hi:i<left.length) (w1:uS),(choose (.mapNext left.length)).run P w=.ok i w1->w1.heap=w.heap->w1.tape=w.tape->w1.os=w.os->w1.output=w.output->
    ∃ x∈es,x.born∉seen/\∃ w1:uS,w1.heap=w.heap/\w1.tape=w.tape/\w1.os=w.os/\w1.output=w.output/\
     (vo (.pointer (some ⟨pb,0,none⟩)) false t).run P w=.ok (.tuple #[.bool true,x.key,x.val]) {w1 with heap:=w1.heap.setIfInBounds pb (.mapIter (some mb) clk ⟨seen++[x.born]⟩ clk)}:=by
   intro i hi w1 hch h1 h2 h3 h4;have:=hmem left[i] (List.getElem_mem hi);exact⟨left[i],this.1,this.2,w1,h1,h2,h3,h4,key i hi w1 hch h1⟩
  by_cases hf:left.length<=1
  ·exact pick 0 hpos w (by rw[run_choose];simp[xN,hf]) rfl rfl rfl rfl
  ·exact pick (w.tape w.drawn (.mapNext left.length) % left.length) (Nat.mod_lt _ hpos) {w with drawn:=w.drawn+1} (by rw[run_choose];simp[xN,hf,Question.cut]) rfl rfl rfl rfl
theorem J1{o:wG}(h:o.guard=none)(f:Nat->Option Bool):yJ o f=true:=by
 unfold yJ;rw[h]
theorem gv(a:Act)(d:Nat)(v:IN)(t:Nat):(a.put (some d) v).eval (.tmp t)=if d=t/\t<a.tmps.size then v else a.eval (.tmp t):=by
 show(a.put (some d) v).tmps.getD t undef=_;rw[Hm];by_cases h:d=t
 ·subst h;simp[Act.eval]
 ·rw[if_neg (fun h2=>h (Option.some.inj h2.1)),if_neg (fun h2=>h h2.1)];rfl
theorem Xr{k:Walk}{a0:AAx}{id:Nat}{o1 o2:wG}{r2:AAx}(W:ACt A a0 k id o1 o2 r2){a:Act}{w:uS}{pb mb clk:Nat}{seen:List Nat}{es:List uu}
  (hit:a.eval (.tmp k.it)=.pointer (some ⟨pb,0,none⟩))(hnx:k.nx<a.tmps.size)(hw:w.heap[pb]? =some (.mapIter (some mb) clk ⟨seen⟩ clk))(hm:w.heap[mb]? =some (.map ⟨es⟩ clk))(hb:∀ x∈es,x.born<clk)
  {Q:Exit->Act->uS->Prop}(AFG:(∀ x∈es,x.born∈seen)->Q .normal ((a.put (some k.nx) (.tuple #[.bool false])).put (some k.more) (.bool false)) w)
  (hgo:∀ x∈es,x.born∉seen->∀ w1:uS,w1.heap=w.heap.setIfInBounds pb (.mapIter (some mb) clk ⟨seen++[x.born]⟩ clk)->w1.tape=w.tape->w1.os=w.os->w1.output=w.output->
   Q .normal ((a.put (some k.nx) (.tuple #[.bool true,x.key,x.val])).put (some k.more) (.bool true)) w1):
  (ABD id #[o1,o2] false).wp P Q a w:=by
 refine wp_region_list ?_;have hx1:execOp a.eval o1=(do pure (.value (<- vo (a.eval (.tmp k.it)) false o1.type))):=by unfold execOp;rw[W.op1]
 have two:∀ (c:Bool) (vs:Array IN) (w1:uS),Q .normal ((a.put (some k.nx) (.tuple (#[.bool c]++vs))).put (some k.more) (.bool c)) w1->wpList P #[o1,o2] Q [o2] (a.put (some k.nx) (.tuple (#[.bool c]++vs))) w1:=by
  intro c vs w1 hq;unfold wpList;rw[if_pos (J1 W.AFE _)];refine .inl ?_;have hx2:execOp (a.put (some k.nx) (.tuple (#[.bool c]++vs))).eval o2=(do pure (.value (<- yY ((a.put (some k.nx) (.tuple (#[.bool c]++vs))).eval (.tmp k.nx)) 0))):=by unfold execOp;rw[W.op2]
  unfold Oper.wp;rw[hx2,gv,if_pos ⟨rfl,hnx⟩];have hex:(yY (.tuple (#[.bool c]++vs)) 0).run P w1=.ok (.bool c) w1:=by
   have h0:(#[Value.bool c]++vs)[0]? =some (.bool c):=by simp[Array.getElem?_append]
   simp only[yY,h0,tg]
  rw[tf,hex,tX,tg,yn,W.AD3];exact hq
 show wpList P #[o1,o2] Q [o1,o2] a w;rw[show wpList P #[o1,o2] Q [o1,o2] a w=(if yJ o1 (yielded #[o1,o2] a.tmps)then o1.wp P a w (wpList P #[o1,o2] Q [o2]) Q\/(o1.asks P a w/\LetsOut Q)else wpList P #[o1,o2] Q [o2] (a.put o1.dst undef) w)from rfl];rw[if_pos (J1 W.AFD _)];refine .inl ?_;unfold Oper.wp;rw[hx1,hit];rcases Z1 (P:=P) (t:=o1.type) hw hm hb with ⟨hall,hrun⟩|⟨x,hx,hns,w1,e1,e2,e3,e4,hrun⟩
 ·rw[tf,hrun,tX,tg,yn,W.ADn]
  exact two false #[] w (AFG hall)
 ·rw[tf,hrun,tX,tg,yn,W.ADn]
  exact two true #[x.key,x.val] _ (hgo x hx hns _ (by rw[e1]) e2 e3 e4)
theorem JC{φ:Phi}{e:Env}{a:Act}:AR N φ (ABz A [] e) a↔a.tmps.size=N/\a.defers=[]/\∀ t,t<240->memN t A=false->ABe φ (e.get t) (a.tmps.getD t undef):=by
 have hr:∀ t u,ABz A [] e t=some u↔(memN t A=false/\t<240/\e.get t=u):=fun t u=>by
  rw[Eb];show(match memN t A with|true=>none|false=>match uz t 240 with|true=>some (J t e)|false=>none)=some u↔_;cases memN t A with
  |true=>simp
  |false=>
   cases hb:uz t 240 with
   |true=>
    have:=Ba.1 hb;simp only[DE t this,Option.some.injEq,true_and,this]
   |false=>
    have:¬ t<240:=fun h=>by rw[Ba.2 h]at hb;cases hb
    simp[this]
 constructor
 ·exact fun h=>⟨h.size,h.defs,fun t ht hA=>h.rel t _ ((hr t _).2 ⟨hA,ht,rfl⟩)⟩
 ·exact fun⟨h1,h2,h3⟩=>⟨h1,h2,fun t u hu=>by obtain⟨q1,q2,rfl⟩:=(hr t u).1 hu;exact h3 t q2 q1⟩
theorem Ii:∀ (l:List Nat) (e:Env) (t:Nat),(∀ d∈l,d<240)->t<240->(C8 e l).get t=if t∈l then .chan none else e.get t
 |[],e,t,_,_=>by simp[C8]
 |d::l,e,t,hl,ht=>by
  unfold C8;rw[Ii l _ t (fun d hd=>hl d (td _ hd)) ht,Env.ABq _ _ _ _ (hl d te) ht];by_cases h1:t∈l
  ·simp[h1]
  ·by_cases h2:t=d
   ·simp[h1,h2]
   ·simp[h1,h2]
theorem I8{clk:Nat}:∀ {es:List Ent} {lo:Nat},FO clk lo es=true->∀ x∈es,lo<=x.born/\x.born<clk
 |e::l,lo,h,x,hx=>by
  unfold FO at h;obtain⟨h1,h⟩:=Ey h;obtain⟨h2,h⟩:=Ey h;have h1:=Ar.1 h1;have h2:=Ba.1 h2;rcases uA.1 hx with rfl|hx
  ·exact⟨h1,h2⟩
  ·have:=I8 h x hx
   have h3:e.born+1<=x.born:=this.1;exact⟨by omega,this.2⟩
theorem Pb{φ:Phi}:∀ {es:List Ent} {es':List uu} {x':uu},ACX φ es es'->x'∈es'->∃ x∈es,x.born=x'.born
 |_,_,x',.cons (k:=k) (v:=v) (b:=b) hk hv t,hx=>by
  rcases uA.1 hx with rfl|hx
  ·exact⟨⟨k,v,b⟩,te,rfl⟩
  ·obtain⟨x,h1,h2⟩:=Pb t hx
   exact⟨x,td _ h1,h2⟩
theorem RX{φ:Phi}{clk:Nat}:∀ {es:List Ent} {es':List uu} {lo:Nat} {x':uu},ACX φ es es'->FO clk lo es=true->x'∈es'->∃ x,GQ x'.born es=some x/\ABe φ x.key x'.key/\ABe φ x.val x'.val
 |_,_,lo,x',.cons (k:=k) (v:=v) (b:=b) (l:=l) hk hv t,hr,hx=>by
  unfold GQ;rcases uA.1 hx with rfl|hx
  ·rw[vT];exact⟨_,rfl,hk,hv⟩
  ·unfold FO at hr
   obtain⟨_,hr⟩:=Ey hr;obtain⟨_,hr⟩:=Ey hr;obtain⟨y,hy,he⟩:=Pb t hx;have h3:b+1<=y.born:=(I8 hr y hy).1;have hb:tm b x'.born=false:=by
    cases hb:tm b x'.born with
    |false=>rfl
    |true=>have:=A1.1 hb;omega
   rw[hb];exact RX t hr hx
theorem cI{k:Walk}{a0:AAx}{id:Nat}{o1 o2:wG}{r2:AAx}(W:ACt A a0 k id o1 o2 r2):
  Bw ty A a0 [] none=SS (FF k.nx) (HI (J k.it)) (SS (FF k.more) (AV 0 (J k.nx)) (Bw ty A (.seq (.cond (.tmp k.more) .skip (.exit k.out)) r2) [] none)):=by
 have hA:∀ t,memN t A=false->t<240->cO ⟨A,[]⟩ (.tmp t)=some (J t):=fun t h1 h2=>by
  show(match Pf A [] (.tmp t)with|some s=>some (LO s)|none=>none)=_;show(match (match memN t A with|true=>none|false=>match uz t 240 with|true=>some (Src.s t)|false=>none)with|some s=>some (LO s)|none=>none)=_;rw[h1,Ba.2 h2];rfl
 rw[W.code];show Bw ty A (.region id #[o1,o2] false) [] (some fun σ=>Bw ty A (.seq (.cond (.tmp k.more) .skip (.exit k.out)) r2) σ none)=_;show Gy ty A [o1,o2] (LE (some fun σ=>Bw ty A (.seq (.cond (.tmp k.more) .skip (.exit k.out)) r2) σ none)) [] [o1,o2] []=_;unfold Gy;rw[W.AFD,W.ADn];simp only[W.nxA,Ba.2 W.nxL];unfold Gy;rw[W.AFE,W.AD3];simp only[W.moA,Ba.2 W.moL];have e1:opC ty ⟨A,[]⟩ o1.op=HI (J k.it):=by
  rw[W.op1];show w1 ⟨A,[]⟩ (.tmp k.it) (fun x=>HI x)=_;unfold w1;rw[hA _ W.itA W.itL]
 have e2:opC ty ⟨A,Fz k.nx []⟩ o2.op=AV 0 (J k.nx):=by
  rw[W.op2];show w1 ⟨A,[]⟩ (.tmp k.nx) (fun t=>AV 0 t)=_;unfold w1;rw[hA _ W.nxA W.nxL]
 rw[e1,e2];rfl
theorem YW{t:(Env->X)->IN->Env->X}{f:OpF}{k:C}{e:Env}{h h':Hp}{v:IN}(hf:f F e h=.ok v h'):SS t f k F e h=t (fun e=>k F e h') v e:=by
 unfold SS;rw[hf]
theorem kH{t:(Env->X)->IN->Env->X}{f:OpF}{k:C}{e:Env}{h:Hp}(hf:f F e h=.no):SS t f k F e h=.no:=by
 unfold SS;rw[hf]
theorem gi{k:Walk}{a0:AAx}{id:Nat}{o1 o2:wG}{r2:AAx}(W:ACt A a0 k id o1 o2 r2){e:Env}{h:Hp}{ad:Addr}{m s last c lo hi mk:Nat}{es:List Ent}{x:Ent}{bl:BT}{sn:Option (List Nat)}{Y:Go.Proofs.YtbjadbhkogcfeaaGreat.X}
  (hit:J k.it e=.pointer (some ad))(hoff:tm ad.off 0=true)(hm:Bj h m=.ok es c)(hmb:m≠ad.block)(hx:GQ s es=some x)(hbl:h.bl.set ad.block (.pick m s last sn)=some bl)
  (hr:Bw ty A a0 [] none F e {next:=h.next,low:=lo,high:=hi,mark:=mk,bl:=bl}=Y)(hn:Y≠.no):
  ∃ bl',bl.set ad.block (Ms m s last sn)=some bl'/\
   Bw ty A (.seq (.cond (.tmp k.more) .skip (.exit k.out)) r2) [] none F (Env.set k.more (.bool true) (Env.set k.nx (.tuple ⟨[.bool true,x.key,x.val]⟩) e)) {next:=h.next,low:=lo,high:=hi,mark:=mk,bl:=bl'}=Y:=by
 rw[cI W]at hr;have hb:bl.get ad.block=.pick m s last sn:=by rw[BT.ABq _ _ _ _ hbl,if_pos rfl]
 have hme:Bj ({next:=h.next,low:=lo,high:=hi,mark:=mk,bl:=bl}:Hp) m=.ok es c:=by
  show ny (bl.get m)=_;rw[BT.ABq _ _ _ _ hbl,if_neg hmb];exact hm
 have hnx:HI (J k.it) F e {next:=h.next,low:=lo,high:=hi,mark:=mk,bl:=bl}=match bl.set ad.block (Ms m s last sn)with
   |some bl'=>.ok (.tuple ⟨[.bool true,x.key,x.val]⟩) {next:=h.next,low:=lo,high:=hi,mark:=mk,bl:=bl'}
   |none=>.no:=by
  unfold HI;rw[hit];show(bif tm ad.off 0 then GZ ad _ else .no)=_;rw[hoff];show GZ ad _=_;unfold GZ;simp only;rw[hb];show(match Bj ({next:=h.next,low:=lo,high:=hi,mark:=mk,bl:=bl}:Hp) m with|.ok es _=>_|.no=>_)=_;rw[hme];simp only[hx];cases bl.set ad.block (Ms m s last sn)<;>rfl
 cases hs:bl.set ad.block (Ms m s last sn)with
 |none=>
  rw[hs]at hnx;rw[kH hnx]at hr;exact absurd hr.symm hn
 |some bl'=>
  refine⟨bl',rfl,?_⟩;rw[hs]at hnx;rw[<- hr];have hex:AV 0 (J k.nx) F (Env.set k.nx (.tuple ⟨[.bool true,x.key,x.val]⟩) e) {next:=h.next,low:=lo,high:=hi,mark:=mk,bl:=bl'}=.ok (.bool true) {next:=h.next,low:=lo,high:=hi,mark:=mk,bl:=bl'}:=by
   unfold AV;rw[DE _ W.nxL,Env.ABq _ _ _ _ W.nxL W.nxL,if_pos rfl];rfl
  symm
  rw[YW hnx,ED _ W.nxL,YW hex,ED _ W.moL]
structure Rd (A:List Nat)(N:Nat)(φ:Phi)(ws:List Nat)(e:Env)(w:uS)(pb qb c:Nat)(seen:List Nat)(ak:Act)(wk:uS):Prop where
 size:ak.tmps.size=N
 defs:ak.defers=[]
 slots:∀ t,t<240->memN t A=false->t∉ws->ABe φ (e.get t) (ak.tmps.getD t undef)
 grow:w.heap.size<=wk.heap.size
 same:∀ j,j<w.heap.size->j≠pb->wk.heap[j]? =w.heap[j]?
 tape:wk.tape=w.tape
 os:wk.os=w.os
 output:wk.output=w.output
 iter:wk.heap[pb]? =some (.mapIter (some qb) c ⟨seen⟩ c)
theorem RY{φ:Phi}:∀ {es:List Ent} {es':List uu} {x:Ent},ACX φ es es'->x∈es->∃ x'∈es',x'.born=x.born
 |_,_,x,.cons (k':=k) (v':=v) (b:=b) hk hv t,hx=>by
  rcases uA.1 hx with rfl|hx
  ·exact⟨⟨k,v,b⟩,te,rfl⟩
  ·obtain⟨x,h1,h2⟩:=RY t hx
   exact⟨x,td _ h1,h2⟩
theorem KM{n:Nat}:∀ {es:List Ent} {x:Ent},GQ n es=some x->x∈es/\x.born=n
 |y::l,x,h=>by
  unfold GQ at h;cases hb:tm y.born n with
  |true=>rw[hb]at h;cases h;exact⟨te,A1.1 hb⟩
  |false=>
   rw[hb]at h;obtain⟨h1,h2⟩:=KM h;exact⟨td _ h1,h2⟩
theorem qp{b:Bool}{Y X:Go.Proofs.YtbjadbhkogcfeaaGreat.X}(h:(bif b then Y else .no)=X)(hn:X≠.no):b=true/\Y=X:=by
 cases b with
 |false=>exact absurd h.symm hn
 |true=>exact⟨rfl,h⟩
theorem Rj{seen:List Nat}:∀ {es:List Ent},(∀ x∈es,x.born∈seen)->AB8 seen es=[]
 |[],_=>rfl
 |x::l,h=>by
  unfold AB8;rw[La,show seen.contains x.born=true by simpa using h x te];exact Rj fun y hy=>h y (td _ hy)
theorem Mz{seen:List Nat}:∀ {es:List Ent} {x:Ent},x∈es->x.born∉seen->x∈AB8 seen es
 |y::l,x,hx,hn=>by
  unfold AB8;rcases uA.1 hx with rfl|hx
  ·rw[La,show seen.contains x.born=false by simpa using hn]
   exact te
  ·have ih:=Mz hx hn
   cases Ft y.born seen with
   |true=>exact ih
   |false=>exact td _ ih
theorem Lo{f:Ent->Bool}:∀ {l:List Ent},Pv f l=true->∀ x∈l,f x=true
 |[],_,x,hx=>by cases hx
 |y::l,h,x,hx=>by
  obtain⟨h1,h2⟩:=Ey h;rcases uA.1 hx with rfl|hx
  ·exact h1
  ·exact Lo h2 x hx
theorem ABh.one{φ:Phi}{h:Hp}{w w':uS}{b:Nat}{pb:Pl}{o:Blk}{bl:BT}(H:ABh ty φ nil h w)(hpb:φ b=some pb)(hin:pb.inp=false)(ACL:Live h b)(hbl:∀ i,bl.get i=if i=b then o else h.bl.get i)
  (hs:w.heap.size<=w'.heap.size)(hsame:∀ j,j<w.heap.size->j≠pb.blk->w'.heap[j]? =w.heap[j]?)(hB:ACY ty φ pb o w'.heap[pb.blk]?)(hoc:∀ cc s el,o≠.cells cc s el)(lo hi mk:Nat):
  ABh ty φ nil {next:=h.next,low:=lo,high:=hi,mark:=mk,bl:=bl} w' where
 dom:=fun i p hp=>⟨(H.dom i p hp).1,Nat.lt_of_lt_of_le (H.dom i p hp).2 hs⟩
 inj:=fun i j p q hp hq _ _ hi hj hio hpq=>by
  have lv:∀ i,bl.get i≠.dead->Live h i:=fun i hi=>by
   by_cases hib:i=b
   ·rw[hib];exact ACL
   ·rw[hbl,if_neg hib]at hi;exact hi
  exact H.inj i j p q hp hq (fun h=>h) (fun h=>h) (lv i hi) (lv j hj) hio hpq
 row:=fun i p hp _=>by
  show ACY ty φ p (bl.get i) _;rw[hbl];by_cases hib:i=b
  ·rw[if_pos hib]
   subst hib;rw[hpb]at hp;cases hp;exact hB
  ·rw[if_neg hib]
   by_cases hdd:h.bl.get i=.dead
   ·rw[hdd];exact .dead
   ·rw[hsame p.blk (H.dom i p hp).2 (fun hb=>hib (H.inj i b p pb hp hpb (fun h=>h) (fun h=>h) hdd ACL (.inr hin) hb))]
    exact H.row i p hp (fun h=>h)
 fresh:=fun i hi=>by
  have hi:h.next<=i:=hi;show bl.get i=_;have:=(H.dom _ _ hpb).1;rw[hbl,if_neg (by omega)];exact H.fresh i hi
 kind:=fun i p cc s el hp he=>by
  have he:bl.get i=.cells cc s el:=he;rw[hbl]at he;by_cases hib:i=b
  ·rw[if_pos hib]at he;exact absurd he (hoc _ _ _)
  ·rw[if_neg hib]at he;exact H.kind i p cc s el hp he
 inp:=H.inp
theorem Evo.one{φ:Phi}{h:Hp}{w w':uS}{b:Nat}{pb:Pl}{o:Blk}{bl:BT}(hpb:φ b=some pb)(hin:pb.inp=false)(ACL:Live h b)(hbl:∀ i,bl.get i=if i=b then o else h.bl.get i)
  (hs:w.heap.size<=w'.heap.size)(hsame:∀ j,j<w.heap.size->j≠pb.blk->w'.heap[j]? =w.heap[j]?)(ht:w'.tape=w.tape)(hos:w'.os=w.os)(hou:w'.output=w.output)(ho:ABt (h.bl.get b) o)(mk:Nat):
  Evo φ h w φ {next:=h.next,low:=CC h.low b,high:=C5 h.high b,mark:=mk,bl:=bl} w' where
 le:=.refl φ
 new:=fun _ _ e=>.inl e
 next:=If _
 size:=hs
 tape:=ht
 os:=hos
 output:=hou
 frame:=fun j hj hf=>hsame j hj fun hjp=>hf b pb hpb hin (by show CC _ _<=_;rw[BW];exact Nat.min_le_right _ _) (by show _<=C5 _ _;rw[B7];exact Nat.le_max_right _ _) ACL hjp.symm
 back:=fun i p hp hl _=>by
  refine⟨i,p,hp,?_,rfl,rfl,.inl rfl⟩;by_cases hib:i=b
  ·rw[hib];exact ACL
  ·have hl:bl.get i≠.dead:=hl
   rw[hbl,if_neg hib]at hl;exact hl
 kept:=fun i _ hi=>by
  show bl.get i=_;have hi:i<CC h.low b\/C5 h.high b<i:=hi;rw[BW,B7]at hi;rw[hbl,if_neg (by omega)]
 low:=by show CC _ _<=_;rw[BW];exact yi _ _
 high:=by show _<=C5 _ _;rw[B7];exact ze _ _
 shape:=fun i _=>by
  show ABt _ (bl.get i);rw[hbl];by_cases hib:i=b
  ·rw[if_pos hib,hib];exact ho
  ·rw[if_neg hib];exact .refl _
 only:=fun i _ h0=>by
  show bl.get i=_;rw[hbl,if_neg (fun e=>by rw[e,hpb]at h0;cases h0)]
 all:=fun _ h1 h2=>absurd h2 (Nat.not_lt.2 h1)
theorem eY{k:Walk}{a0:AAx}{id:Nat}{o1 o2:wG}{r2:AAx}(W:ACt A a0 k id o1 o2 r2)(hd:k.nx<N/\k.more<N)
  (ih:∀ {e:Env} {h:Hp} {X:Go.Proofs.YtbjadbhkogcfeaaGreat.X},Bw ty A (.seq (.cond (.tmp k.more) .skip (.exit k.out)) r2) [] none F e h=X->X≠.no->∀ (φ:Phi) (w:uS) (a:Act),ABh ty φ nil h w->AR N φ (ABz A [] e) a->∀ (Q:Exit->Act->uS->Prop),Post ty A N F φ h w none X Q->(AAE (.cond (.tmp k.more) .skip (.exit k.out)) r2).wp P Q a w)
  {e:Env}{ad:Addr}(hit:J k.it e=.pointer (some ad))(hoff:tm ad.off 0=true)(ABj:256<=ad.block){φ0:Phi}{hr:Hp}{w0:uS}{a:Act}(ACu:∀ t,t<240->memN t A=false->ABe φ0 (e.get t) (a.tmps.getD t undef))
  {fin:Hp->Rds->Bool}{Q:Exit->Act->uS->Prop}
  (AGu:∀ (hk:Hp) (tr:Rds) (φk:Phi) (wk:uS),ABh ty φk nil hk wk->Evo φ0 hr w0 φk hk wk->(∃ pb,φk ad.block=some pb)->Live hk ad.block->fin hk tr=true->∀ ak:Act,ak.tmps.size=N->ak.defers=[]->
   (∀ t,t<240->memN t A=false->t∉k.ws->ABe φ0 (e.get t) (ak.tmps.getD t undef))->ak.tmps.getD k.more undef=.bool false->Q (.exit k.out) ak wk):
  ∀ (n:Nat) (hk:Hp) (tr:Rds) (φk:Phi) (wk:uS) (ak:Act),ABh ty φk nil hk wk->Evo φ0 hr w0 φk hk wk->ak.tmps.size=N->ak.defers=[]->
   (∀ t,t<240->memN t A=false->t∉k.ws->ABe φ0 (e.get t) (ak.tmps.getD t undef))->Ky k (Bw ty A a0 [] none) F e ad.block fin n hk tr=true->zy P a0 Q n ak wk:=by
 intro n
 induction n with
 |zero=>intro hk tr φk wk ak _ _ _ _ _ hx;cases hx
 |succ n ihn=>
 intro hk tr φk wk ak H E hsz hdf hsl hx;unfold Ky N2 at hx;cases ADL:EW (hk.bl.get ad.block)with
 |no=>rw[ADL]at hx;cases hx
 |cur _ _ _=>rw[ADL]at hx;cases hx
 |pick _ _ _ _=>rw[ADL]at hx;cases hx
 |ok m' since seen last=>
 rw[ADL]at hx;cases m' with
 |none=>cases hx
 |some m=>
 simp only at hx;cases ADM:Bj hk m with
 |no=>rw[ADM]at hx;cases hx
 |ok es c=>
 rw[ADM]at hx;simp only at hx;obtain⟨AEE,hx1⟩:=Ey hx;obtain⟨AF1,hx2⟩:=Ey hx1;obtain⟨hris,hx3⟩:=Ey hx2;clear hx hx1 hx2;have hcs:=A1.1 AEE;have hcl:=A1.1 AF1;clear AEE AF1;subst hcs;subst hcl;have hx:=hx3;clear hx3;have hbi:=IA ADL;have AEX:=ACu k.it W.itL W.itA;rw[<- DE k.it W.itL,hit]at AEX;obtain⟨ad',AGv,hra⟩:=AEX.ACb;obtain⟨pb,AEs,rfl⟩:=hra.eq;have hpb:=E.le _ _ AEs;have AFH:ad.off=0:=A1.1 hoff;have hrow:=H.row ad.block pb hpb (fun h=>h);rw[hbi]at hrow;obtain⟨q,hp0,hq,hwi⟩:∃ q,pb.off=0/\φk m=some q/\wk.heap[pb.blk]? =some (.mapIter (some q.blk) c ⟨seen⟩ c):=by
  generalize wk.heap[pb.blk]? =ob at hrow;cases hrow with
  |iter h1 h2=>exact⟨_,h1,h2,rfl⟩
 obtain⟨es',hwm,ACE⟩:=H.ACl hq (fun h=>h) ADM;have hmb:m≠ad.block:=fun h=>by
  have:=H6 ADM;rw[h,hbi]at this;cases this
 have hin:=H.ACZ hpb ABj;have ACL:Live hk ad.block:=by unfold Live;rw[hbi];intro h;cases h
 have AGw:=(H.dom _ _ hpb).2;have AFI:∀ x∈es',x.born<c:=fun x hx=>by
  obtain⟨y,hy,he⟩:=Pb ACE hx;rw[<- he];exact(I8 hris y hy).2
 have hkeep:CM k.ws (Bw ty A (.seq (.cond (.tmp k.more) .skip (.exit k.out)) r2) [] none):=Ca _ (fun d hd=>by
  rw[W.ws,W.code];exact uY _ hd) (fun _ h=>by cases h)
 have AF2:k.nx∈k.ws:=by rw[W.ws,W.code];show _∈JO [o1,o2]++_;simp[JO,W.ADn,W.AD3]
 have AF3:k.more∈k.ws:=by rw[W.ws,W.code];show _∈JO [o1,o2]++_;simp[JO,W.ADn,W.AD3]
 have hcg:∀ t,t<240->(C8 e k.ws).get t=if t∈k.ws then .chan none else e.get t:=fun t ht=>Ii _ _ _ W.few ht
 have AC6:∀ {ψ:Phi} {v v' v'':IN},φ0.Le ψ->ABe ψ v v'->ABe φ0 v v''->ABe φ0 v v':=fun {ψ v v' v''} hle h1 h2=>ABe.cut (χ:=φ0) (fun b p hp ⟨q,hq⟩=>by
  have:=hle b q hq;rw[hp]at this;cases this;exact hq) h1 h2
 have AFJ:ak.eval (.tmp k.it)=.pointer (some ⟨pb.blk,0,none⟩):=by
  have h1:=hsl k.it W.itL W.itA W.itW;rw[<- DE k.it W.itL,hit]at h1;obtain⟨a2,ha2,hr2⟩:=h1.ACb;obtain⟨p2,hp2,rfl⟩:=hr2.eq;rw[AEs]at hp2;cases hp2;show ak.tmps.getD k.it undef=_;rw[ha2,hp0,AFH]
 have AEt:∀ (v1 v2:IN) (t:Nat),t<240->((ak.put (some k.nx) v1).put (some k.more) v2).tmps.getD t undef=if t=k.more then v2 else if t=k.nx then v1 else ak.tmps.getD t undef:=fun v1 v2 t ht=>by
  rw[Hm,Fi,Hm];by_cases h1:t=k.more
  ·rw[if_pos ⟨by rw[h1],by rw[h1,hsz];exact hd.2⟩,if_pos h1]
  ·rw[if_neg (fun h=>h1 (Option.some.inj h.1).symm),if_neg h1]
   by_cases h2:t=k.nx
   ·rw[if_pos ⟨by rw[h2],by rw[h2,hsz];exact hd.1⟩,if_pos h2]
   ·rw[if_neg (fun h=>h2 (Option.some.inj h.1).symm),if_neg h2]
 show a0.wp P (Exit.then (zy P a0 Q n) Q) ak wk;generalize hK:zy P a0 Q n=K;rw[W.code];refine wp_seq (Xr W (pb:=pb.blk) (mb:=q.blk) (clk:=c) (seen:=seen) (es:=es') AFJ (by rw[hsz];exact hd.1) hwi hwm AFI (fun hall=>?_) (fun x' hx' hns w1 e1 e2' e3 e4=>?_))
 ·
  show(AAE (.cond (.tmp k.more) .skip (.exit k.out)) r2).wp P (Exit.then K Q) ((ak.put (some k.nx) (.tuple #[.bool false])).put (some k.more) (.bool false)) wk;refine wp_seq (wp_cond_false ?_ (wp_exit ?_))
  ·show((ak.put (some k.nx) (.tuple #[.bool false])).put (some k.more) (.bool false)).tmps.getD k.more undef=_
   rw[AEt _ _ _ W.moL,if_pos rfl]
  ·show Q (.exit k.out) ((ak.put (some k.nx) (.tuple #[.bool false])).put (some k.more) (.bool false)) wk
   rw[Rj (es:=es) fun x hx=>by
    obtain⟨x',hx',he⟩:=RY ACE hx;rw[<- he];exact hall x' hx']at hx
   refine AGu hk tr φk wk H E ⟨_,hpb⟩ ACL hx _ (by rw[Fi,Fi];exact hsz) (by rw[Ge,Ge];exact hdf) (fun t ht hA hw=>?_) (by rw[AEt _ _ _ W.moL,if_pos rfl]);rw[AEt _ _ _ ht,if_neg (fun h:t=k.more=>hw (h ▸ AF3)),if_neg (fun h:t=k.nx=>hw (h ▸ AF2))];exact hsl t ht hA hw
 ·
  show(AAE (.cond (.tmp k.more) .skip (.exit k.out)) r2).wp P (Exit.then K Q) ((ak.put (some k.nx) (.tuple #[.bool true,x'.key,x'.val])).put (some k.more) (.bool true)) w1;obtain⟨x,hfx,hkr,hvr⟩:=RX ACE hris hx';obtain⟨hxm,hxb⟩:=KM hfx;have hmem:=Mz hxm (by rw[hxb];exact hns);generalize AC2:AB8 seen es=rest at hx hmem;cases rest with
  |nil=>cases hmem
  |cons y l=>
  have hx:=Lo hx x hmem;unfold OW at hx;cases hbl:hk.bl.set ad.block (.pick m x.born c (some seen))with
  |none=>rw[hbl]at hx;cases hx
  |some bl=>
  rw[hbl]at hx;simp only at hx;have AGx:J k.it (C8 e k.ws)=.pointer (some ad):=by
   rw[DE _ W.itL,hcg _ W.itL,if_neg W.itW,<- DE _ W.itL];exact hit
  generalize hY:Bw ty A a0 [] none F (C8 e k.ws) {next:=hk.next,low:=CC hk.low ad.block,high:=C5 hk.high ad.block,mark:=hk.mark,bl:=bl}=Y at hx;cases Y with
  |no=>cases hx
  |exit _ _ _=>cases hx
  |ret _ _=>cases hx
  |norm e1' h1'=>
  simp only at hx;obtain⟨bl',AFK,hB⟩:=gi W (x:=x) (s:=x.born) AGx hoff ADM hmb (by rw[hxb];exact hfx) hbl hY (fun h=>by cases h);have AFK:bl.set ad.block (.iter (some m) c (Jm x.born seen) c)=some bl':=AFK;have AF4:∀ i,bl'.get i=if i=ad.block then .iter (some m) c (Jm x.born seen) c else hk.bl.get i:=fun i=>by
   rw[BT.ABq _ _ _ _ AFK,BT.ABq _ _ _ _ hbl];split<;>rfl
  have AF5:w1.heap.size=wk.heap.size:=by rw[e1];simp
  have AGy:w1.heap[pb.blk]? =some (.mapIter (some q.blk) c ⟨seen++[x'.born]⟩ c):=by
   rw[e1,vU,if_pos rfl,if_pos AGw]
  have AF6:∀ j,j<wk.heap.size->j≠pb.blk->w1.heap[j]? =wk.heap[j]?:=fun j hj hjp=>by
   rw[e1,vU,if_neg (fun h=>hjp h.symm)]
  have HR:=H.one hpb hin ACL AF4 (xk AF5.symm) AF6 (by rw[AGy,Mx,hxb];exact .iter hp0 hq) (fun _ _ _ h=>by cases h) (CC hk.low ad.block) (C5 hk.high ad.block) hk.mark;have E1:=Evo.one (w':=w1) hpb hin ACL AF4 (xk AF5.symm) AF6 e2' e3 e4 (by rw[hbi];exact .inr trivial) hk.mark;have HAR:AR N φk (ABz A [] (Env.set k.more (.bool true) (Env.set k.nx (.tuple ⟨[.bool true,x.key,x.val]⟩) (C8 e k.ws)))) ((ak.put (some k.nx) (.tuple #[.bool true,x'.key,x'.val])).put (some k.more) (.bool true)):=by
   refine JC.2 ⟨by rw[Fi,Fi];exact hsz,by rw[Ge,Ge];exact hdf,fun t ht hA=>?_⟩;rw[AEt _ _ _ ht,Env.ABq _ _ _ _ W.moL ht,Env.ABq _ _ _ _ W.nxL ht,hcg t ht];by_cases q1:t=k.more
   ·rw[if_pos q1,if_pos q1];exact .bool _
   ·rw[if_neg q1,if_neg q1]
    by_cases q2:t=k.nx
    ·rw[if_pos q2,if_pos q2];exact .tuple (.cons (.bool _) (.cons hkr (.cons hvr .nil)))
    ·rw[if_neg q2,if_neg q2]
     by_cases q3:t∈k.ws
     ·rw[if_pos q3];exact .unk
     ·rw[if_neg q3];exact(hsl t ht hA q3).mono E.le
  refine ih hB (fun h=>by cases h) φk w1 _ HR HAR _ {go:=(fun _ h=>by cases h),norm:=fun _ e2 h2 ψ a2 w2 g hx2=>?_,exit:=(fun i e2 h2 ψ a2 w2 g hx2=>by cases hx2),ret:=(fun e2 h2 ψ a2 w2 g hx2=>by cases hx2)};cases hx2;obtain⟨g1,g2,g3⟩:=JC.1 g.ar;have hag:=hkeep F (Env.set k.more (.bool true) (Env.set k.nx (.tuple ⟨[.bool true,x.key,x.val]⟩) (C8 e k.ws))) {next:=hk.next,low:=CC hk.low ad.block,high:=C5 hk.high ad.block,mark:=hk.mark,bl:=bl'};rw[hB]at hag;have hag:Ag k.ws (Env.set k.more (.bool true) (Env.set k.nx (.tuple ⟨[.bool true,x.key,x.val]⟩) (C8 e k.ws))) e1':=hag;have E2:=(E.trans E1).trans g.evo;show K a2 w2;rw[<- hK];refine ihn h1' _ ψ w2 a2 g.rel E2 g1 g2 (fun t ht hA hw=>?_) hx;have q1:=g3 t ht hA;rw[hag t ht hw,Env.ABq _ _ _ _ W.moL ht,if_neg (fun h:t=k.more=>hw (h ▸ AF3)),Env.ABq _ _ _ _ W.nxL ht,if_neg (fun h:t=k.nx=>hw (h ▸ AF2)),hcg t ht,if_neg hw]at q1;exact AC6 E2.le q1 (ACu t ht hA)
theorem eW{b n0:Nat}{r h1:Hp}{tr:Rds}:Wy b n0 r h1 tr=true↔ZL b n0 r h1:=by
 unfold Wy;split
 ·rename_i h _;exact⟨fun _=>h,fun _=>rfl⟩
 ·rename_i h _;exact⟨fun e=>(by cases e),fun e=>absurd e h⟩
theorem ABh.AFL{φ:Phi}{h:Hp}{w:uS}{bl:BT}{b n0:Nat}(H:ABh ty φ nil h w)(hbl:∀ i,bl.get i=if i=b\/n0<=i then .dead else h.bl.get i)(lo hi mk:Nat):
  ABh ty φ nil {next:=h.next,low:=lo,high:=hi,mark:=mk,bl:=bl} w where
 dom:=H.dom
 inj:=fun i j p q hp hq _ _ hi hj hio hpq=>by
  have lv:∀ i,bl.get i≠.dead->Live h i:=fun i hi=>by
   rw[hbl]at hi;split at hi
   ·exact absurd rfl hi
   ·exact hi
  exact H.inj i j p q hp hq (fun h=>h) (fun h=>h) (lv i hi) (lv j hj) hio hpq
 row:=fun i p hp _=>by
  show ACY ty φ p (bl.get i) _;rw[hbl];split
  ·exact .dead
  ·exact H.row i p hp (fun h=>h)
 fresh:=fun i hi=>by
  have hi:h.next<=i:=hi;show bl.get i=_;rw[hbl];split
  ·rfl
  ·exact H.fresh i hi
 kind:=fun i p cc s el hp he=>by
  have he:bl.get i=.cells cc s el:=he;rw[hbl]at he;split at he
  ·cases he
  ·exact H.kind i p cc s el hp he
 inp:=H.inp
theorem Evo.join{φ ψ:Phi}{h r hk:Hp}{w wk:uS}{b:Nat}{pb:Pl}(E:Evo φ {next:=h.next,low:=h.next,high:=0,mark:=h.mark,bl:=h.bl} w ψ hk wk)(hpb:φ b=some pb)
  (q1:hk.next=r.next)(q2:r.low<=CC hk.low b)(q3:C5 hk.high b<=r.high)(q4:∀ i,r.bl.get i=if i=b\/h.next<=i then .dead else hk.bl.get i):Evo φ h w ψ (jB h r) wk where
 le:=E.le
 new:=E.new
 next:=by
  have h1:h.next<=hk.next:=E.next;show h.next<=r.next;omega
 size:=E.size
 tape:=E.tape
 os:=E.os
 output:=E.output
 frame:=fun k hk' hf=>E.frame k hk' fun i p e hn hl hg hv=>hf i p e hn (by
  rw[BW]at q2;show CC h.low r.low<=i;rw[BW];omega) (by
  rw[B7]at q3;show i<=C5 h.high r.high;rw[B7];omega) hv
 back:=fun i p e hl hp=>by
  have hl:r.bl.get i≠.dead:=hl;rw[q4]at hl;split at hl
  ·exact absurd rfl hl
  obtain⟨j,q,a1,a2,a3,a4,a5⟩:=E.back i p e hl hp;refine⟨j,q,a1,a2,a3,a4,?_⟩;rw[BW]at q2;rw[B7]at q3;rcases a5 with a5|⟨a5,a6⟩
  ·exact .inl a5
  ·refine .inr ⟨?_,?_⟩
   ·show CC h.low r.low<=j
    rw[BW];omega
   ·show j<=C5 h.high r.high
    rw[B7];omega
 kept:=fun i hi hor=>by
  have hor:i<CC h.low r.low\/C5 h.high r.high<i:=hor;rw[BW,B7]at hor;rw[BW]at q2;rw[B7]at q3;show r.bl.get i=_;rw[q4,if_neg (by omega)];exact E.kept i hi (by omega)
 low:=by show CC _ _<=_;rw[BW];exact yi _ _
 high:=by show _<=C5 _ _;rw[B7];exact ze _ _
 shape:=fun i hi=>by
  show ABt _ (r.bl.get i);rw[q4];split
  ·exact .inl rfl
  ·exact E.shape i hi
 only:=fun i hi h0=>by
  show r.bl.get i=_;rw[q4,if_neg (by
   rintro (h1|h1)
   ·rw[h1,hpb]at h0;cases h0
   ·omega)]
  exact E.only i hi h0
 all:=fun i h1 h2=>E.all i h1 (by
  have h2:i<r.next:=h2;show i<hk.next;omega)
theorem Sq{k:Walk}{a0:AAx}{id:Nat}{o1 o2:wG}{r2:AAx}(W:ACt A a0 k id o1 o2 r2)(hd:k.nx<N/\k.more<N)
  (ih:∀ {e:Env} {h:Hp} {X:Go.Proofs.YtbjadbhkogcfeaaGreat.X},Bw ty A (.seq (.cond (.tmp k.more) .skip (.exit k.out)) r2) [] none F e h=X->X≠.no->∀ (φ:Phi) (w:uS) (a:Act),ABh ty φ nil h w->AR N φ (ABz A [] e) a->∀ (Q:Exit->Act->uS->Prop),Post ty A N F φ h w none X Q->(AAE (.cond (.tmp k.more) .skip (.exit k.out)) r2).wp P Q a w)
  {e:Env}{h:Hp}{X:Go.Proofs.YtbjadbhkogcfeaaGreat.X}{ad:Addr}(hit:J k.it e=.pointer (some ad))(hoff:tm ad.off 0=true)(ABj:256<=ad.block)
  (hr:Fy k (Bw ty A a0 [] none) F e h ad.block=X)(hn:X≠.no){φ:Phi}{w:uS}{a:Act}(H:ABh ty φ nil h w)(HA:AR N φ (ABz A [] e) a){Q:Exit->Act->uS->Prop}
  (pe:∀ id e h' ψ a' w',Good ty A N φ h w [] e h' ψ a' w'->X=.exit id e h'->Q (.exit id) a' w'):
  (Code.loop a0).wp P Q a w:=by
 unfold Fy at hr;split at hr
 case h_2=>exact absurd hr.symm hn
 rename_i hx _;obtain⟨AFM,AEY⟩:=ABO hx;generalize ABE hx=r at hr AFM AEY;obtain⟨hsz,hdf,ACu⟩:=JC.1 HA;have hcg:∀ t,t<240->(C8 e k.ws).get t=if t∈k.ws then .chan none else e.get t:=fun t ht=>Ii _ _ _ W.few ht
 refine wp_loop_rounds 64 (eY W hd ih hit hoff ABj (φ0:=φ) (w0:=w) ACu (fun hk tr φk wk Hk Ek ⟨pb',AHt⟩ ACL hf ak s1 s2 s3 s4=>?_) 64 {next:=h.next,low:=h.next,high:=0,mark:=h.mark,bl:=h.bl} [] φ w a (H.ACw rfl rfl) (.refl _ _ _) hsz hdf (fun t ht hA _=>ACu t ht hA) AEY);obtain⟨q1,q2,q3,hbg⟩:=eW.1 hf;have HK:=Hk.AFL hbg (CC h.low r.low) (C5 h.high r.high) h.mark;have AEX:=ACu k.it W.itL W.itA;rw[<- DE k.it W.itL,hit]at AEX;obtain⟨ad',AGv,hra⟩:=AEX.ACb;obtain⟨pb,AEs,rfl⟩:=hra.eq;have ER:=Ek.join AEs q1 (xk q2) (xk q3.symm) hbg;rw[q1]at HK;refine pe k.out _ _ φk ak wk ⟨.nil A,HK,JC.2 ⟨s1,s2,fun t ht hA=>?_⟩,ER⟩ hr.symm;rw[Env.ABq _ _ _ _ W.moL ht,hcg t ht];by_cases q1:t=k.more
 ·rw[if_pos q1,q1,s4];exact .bool _
 ·rw[if_neg q1]
  by_cases q2:t∈k.ws
  ·rw[if_pos q2];exact .unk
  ·rw[if_neg q2];exact(s3 t ht hA q2).mono ER.le
end
end
end Go.Proofs.YtbjadbhkogcfeaaGreat
