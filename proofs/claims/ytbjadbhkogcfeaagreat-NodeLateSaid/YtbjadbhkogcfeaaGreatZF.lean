/-
  Part ZF of what Lawlt stands on: printed by program, names and spaces cut.
-/
import Derived.Test.YtbjadbhkogcfeaaGreatZE
import Derived.Orders
import Derived.LoopN
open Go renaming Value→IN,Operand→zM,World→zP,MapEntry→zn,Oper→AAv,Code→AEj
open Nat renaming le_refl→IT,zero_add→If,beq→yu,lt_or_ge→zD,zero_le→zL,le_trans→zO,blt→zm,le_of_lt→AAC,beq_refl→AAQ,le_of_eq→AB0,min_le_left→AB8,lt_or_gt_of_ne→ACM,lt_irrefl→ACl,strongRecOn→ADS,le_max_left→ADT,testBit_or→AEf
open List renaming length_append→No,getElem?_eq_getElem→sh,mem_cons_of_mem→yj,mem_cons_self→yk,mem_cons→yv,mem_append_right→zE,getElem?_append_left→zF,getElem?_eq_some_iff→zG,mem_append→zK,getElem?_toArray→zN,mem_filter→zQ,mem_append_left→zR,length_singleton→zh,range→zu,mem_range→AAM,getElem?_eq_none→AAS,getElem?_take→AA9,all_eq_true→ABL,countP_cons→AEC
open Go.Result renaming andThen_ok→ye
open Go.Sem renaming run_bind→ym,run_pure→yn
open Bool renaming and_eq_true→yr,false_eq_true→zT,not_false→zg,true_and→ABS,not_eq_true'→ABr,or_eq_true→AEQ
open Array renaming getD_eq_getD_getElem?→zo,ext'→zz,getElem?_setIfInBounds→AAJ,all_eq_true_iff_forall_mem→AAT,mem_toList_iff→AAX,toList_filter→ACJ
open Option renaming map_some→AAG,getD_some→ADo
open Go.Instr renaming next→AAZ,extract→ACR
open Go.Region renaming ready→AAr,binds→ABT,wanted→ACG
open Go.Question renaming forced→ABi
open Go.Oper renaming upon_value→ACj
open Go.Code renaming rounds→ADl,seq→ADs,region→AFD
open Classical renaming choose→AFE,choose_spec→AFQ
set_option linter.unusedSimpArgs false
set_option linter.unusedVariables false
namespace Go.Proofs.YtbjadbhkogcfeaaGreat
noncomputable section
open Go
section
variable {P:Program}{ty:TTy}{N:Nat}{all:List AAv}{ρ:Nat->Rho}{H:Nat->Hp}{V:Nat->IN}{T:Nat->Nat->Prop}{φ0:Phi}{w0:zP}{B:Nat->Nat->Prop}{run:Nat->Bool}{ahs:List AGL}
theorem Inv.step(L:Laws ty all ρ H T B)(tr:Tr P ty all ahs all ρ H V run T)(txt:Txt P ty N φ0 ρ H V T all.length){S:Nat->Prop}{φ:Phi}{C:Nat->Blk}{a:Act}{w:zP}(I:Inv ty N all ρ H T φ0 w0 S φ C a w)
  {i:Nat}{o:AAv}(ho:all[i]? =some o)(hS:¬ S i)(hpre:∀ j,B j i->S j)(hcl:∀ j k,S j->B k j->S k)(hN:∀ d,o.dst=some d->d<N)
  {K:Act->zP->Prop}{Q:Exit->Act->zP->Prop}(hK:∀ φ' C' a' w',Inv ty N all ρ H T φ0 w0 (fun j=>S j\/j=i) φ' C' a' w'->K a' w'):wpOp P all.toArray Q i K a w:=by
 have hi:i<all.length:=by
  rcases zD i all.length with h|h
  ·exact h
  ·rw[AAS h]at ho;cases ho
 have fx:∀ j,j≠i->(B i j\/B j i)->(j<i->S j)/\(i<=j->¬ S j):=by
  intro j hj hb;rcases hb with hb|hb
  ·have:=L.lt i j hb
   exact⟨fun h=>by omega,fun _ hSj=>hS (hcl j i hSj hb)⟩
  ·have:=L.lt j i hb
   exact⟨fun _=>hpre j hb,fun h=>by omega⟩
 have named:∀ d,(o.dst=some d\/.tmp d∈o.op.operands.toList\/∃ g w og,o.guard=some (g,w)/\all[g]? =some og/\og.dst=some d)->∀ u,ρ i d=some u->AFm φ u (a.tmps.getD d undef):=by
  intro d hd u hu;refine I.slot i (AAC hi) d u (fun j oj hoj hdj=>?_) hu;by_cases hji:j=i
  ·subst hji;exact⟨fun h=>absurd h (ACl _),fun _=>hS⟩
  ·exact fx j hji ((L.slots j i oj o d hji hoj ho hdj hd).symm)
 have s:=tr.sf i o ho;have hw:=Oe s (a:=a) (φ:=φ) fun g want og d u h1 h2 h3 hu=>named d (.inr (.inr ⟨g,want,og,h1,h2,h3⟩)) u hu
 obtain⟨HR,ψ,b,HA,hx⟩:=I.AK4 txt (AAC hi);have names:∀ x∈o.op.operands.toList,∀ u,evR (ρ i) x=some u->AFm (upto φ (H i).next) u (a.eval x):=by
  intro x hxm u hu;have h1:AFm φ u (a.eval x):=by
   cases x with
   |tmp t=>exact named t (.inr (.inl hxm)) u hu
   |const v=>
    have hu:(if Fj v then some v else none)=some u:=hu;split at hu
    ·rename_i hp;cases hu;exact NB hp
    ·cases hu
   |func g=>cases hu;exact .func _ .nil .nil
   |global g=>cases hu
  exact h1.cut hx (HA.ev hu)
 unfold wpOp;rw[zN,ho];simp only;rcases s.core with ⟨hrun,core⟩|⟨hrun,hv,hh,hT⟩
 ·rw[hw,hrun,if_pos rfl]
  refine .inl (core.AIP _ _ w a HR names ?_ _ _ fun ψ' v' w' hv HW' eff _=>hK _ _ _ _ (I.after L tr txt ho hS hpre hcl hN hv HW' eff));have noE:((∃ x,kd ty o.op=.w x)\/kd ty o.op=.q)->∀ b,¬ Pm all.length T S (H i) i b:=by
   rintro hk b ⟨hb,hne⟩;refine hne fun j hj hT=>?_
   by_cases hji:j=i
   ·subst hji;exact⟨fun h=>absurd h (ACl _),fun _=>hS⟩
   ·exact fx j hji (L.fixed i j o b (fun h=>hji h.symm) ho hj hT hk)
  unfold TouchR;cases hk:kd ty o.op with
  |p=>trivial
  |a=>trivial
  |r x=>
   rintro u hu c hc ⟨hb,hne⟩;refine hne fun j hj hT=>?_
   by_cases hji:j=i
   ·subst hji;exact⟨fun h=>absurd h (ACl _),fun _=>hS⟩
   ·exact fx j hji (L.reads i j o x c u (fun h=>hji h.symm) ho hj hT hk hu hc)
  |w x=>exact noE (.inl ⟨x,hk⟩)
  |q=>exact noE (.inr hk)
 ·rw[hw,hrun,if_neg (by simp)]
  refine hK _ _ _ _ (I.after L tr txt ho hS hpre hcl hN (ψ:=upto φ (H i).next) (v':=undef) (w':=w) (by rw[hv];exact .tuple .nil) (by rw[hh];exact HR) ?_);rw[hh];exact {Eff.refl (upto φ (H i).next) (H i) w with frame:=fun _ _ _=>rfl,back:=fun i p e hl _=>⟨i,p,e,hl,rfl,rfl,.inl rfl⟩,kept:=fun _ _ _=>rfl}
theorem Inv.begin(tr:Tr P ty all ahs all ρ H V run T)(txt:Txt P ty N φ0 ρ H V T all.length)(L:Laws ty all ρ H T B){a:Act}(HW:AFp ty φ0 nil (H 0) w0)(HA:AR N φ0 (ρ 0) a){S:Nat->Prop}(hS:∀ j,j<all.length->¬ S j):
  Inv ty N all ρ H T φ0 w0 S φ0 (H 0).bl.get a w0 where
 dom:=fun b p hp=>⟨(HW.dom b p hp).2,.inl (HW.dom b p hp).1⟩
 inj:=fun b c p q hp hq hb hc hio h=>HW.inj b c p q hp hq (fun h=>h) (fun h=>h) hb hc hio h
 row:=fun b p hp=>HW.row b p hp fun h=>h
 kind:=fun k hk b p c s e hp hb he=>by
  have hs:=txt.AHc (i:=0) (k:=k) (HW.dom b p hp).1 (zL _) hk;rw[he]at hs;obtain⟨c',hc'⟩:=hs.cells;exact HW.kind b p c' s e hp hc'
 inp:=HW.inp
 link:=fun k hk b p hp hb hyp=>by
  refine(txt.same (i:=0) (zL _) hk fun m _ hm=>?_).symm;have h0:=(HW.dom b p hp).1;have:=txt.mono (i:=0) (k:=m) (zL _) (by omega);exact txt.kept m (by omega) b (by omega) fun hT=>hS m (by omega) ((hyp m (by omega) hT).1 hm)
 chg:=fun j hj hjn=>absurd hj (hS j hjn)
 full:=fun j hj hjn=>absurd hj (hS j hjn)
 slot:=fun k hk t u hyp hu=>by
  refine HA.rel t u (tr.backward (i:=0) (zL _) hk (fun m om _ hm hom hdm=>?_) hu);exact hS m (by omega) ((hyp m om hom hdm).1 hm)
 size:=HA.size
 defs:=HA.defs
 le:=.refl _
 new:=fun b p hp=>.inl hp
 sz:=IT _
 tape:=rfl
 os:=rfl
 output:=rfl
 frame:=fun _ _ _=>rfl
 back:=fun b p hp hl _=>⟨b,p,hp,hl,rfl,rfl,.inl rfl⟩
theorem Inv.fin(txt:Txt P ty N φ0 ρ H V T all.length)(L:Laws ty all ρ H T B){S:Nat->Prop}{φ:Phi}{C:Nat->Blk}{a:Act}{w:zP}(I:Inv ty N all ρ H T φ0 w0 S φ C a w)(hS:∀ j,j<all.length->S j):
  AFp ty φ nil (H all.length) w/\AR N φ (ρ all.length) a/\Evo φ0 (H 0) w0 φ (H all.length) w:=by
 have hdom:∀ b p,φ b=some p->b<(H all.length).next:=by
  intro b p hp;rcases (I.dom b p hp).2 with h|⟨j,_,hj,_,h⟩
  ·have:=txt.mono (zL all.length) (IT _);omega
  ·have:=txt.mono (i:=j+1) (k:=all.length) hj (IT _);omega
 have lk:∀ b p,φ b=some p->C b=(H all.length).bl.get b:=fun b p hp=>
  I.link _ (IT _) b p hp (hdom b p hp) fun j hj _=>⟨fun _=>hS j hj,fun h=>by omega⟩
 refine⟨{dom:=fun b p hp=>⟨hdom b p hp,(I.dom b p hp).1⟩,inj:=fun b c p q hp hq _ _ hb hc hio h=>I.inj b c p q hp hq (by rw[lk b p hp];exact hb) (by rw[lk c q hq];exact hc) hio h,row:=fun b p hp _=>by rw[<- lk b p hp];exact I.row b p hp,fresh:=txt.fresh _ (IT _),kind:=fun b p c s e hp he=>I.kind _ (IT _) b p c s e hp (hdom b p hp) he,inp:=I.inp},
  ⟨I.size,I.defs,fun t u hu=>I.slot _ (IT _) t u (fun j oj hoj _=>?_) hu⟩,
  {le:=I.le,new:=I.new,next:=txt.mono (zL _) (IT _),size:=I.sz,tape:=I.tape,os:=I.os,output:=I.output,frame:=I.frame,back:=fun b p hp hl hlt=>I.back b p hp (by rw[lk b p hp];exact hl) hlt,kept:=fun b hb ho=>?_,low:=L.low,high:=L.high,shape:=fun b hb=>txt.AHc (i:=0) hb (zL _) (IT _),only:=fun b hb h0=>?_,all:=fun b h1 h2=>?_}⟩
 ·have hj:j<all.length:=by
   rcases zD j all.length with h|h
   ·exact h
   ·rw[AAS h]at hoj;cases hoj
  exact⟨fun _=>hS j hj,fun h=>by omega⟩
 ·refine txt.same (i:=0) (zL _) (IT _) fun m _ hm=>?_
  have:=txt.mono (i:=0) (k:=m) (zL _) (by omega);exact txt.kept m hm b (by omega) fun hT=>by have:=L.AIz m b hm hT;omega
 ·refine txt.same (i:=0) (zL _) (IT _) fun m _ hm=>?_
  have:=txt.mono (i:=0) (k:=m) (zL _) (by omega);by_cases hc:(H (m+1)).bl.get b=(H m).bl.get b
  ·exact hc
  ·obtain⟨p,hp⟩:=I.chg m (hS m hm) hm b (by omega) hc
   rcases I.new b p hp with h|h
   ·rw[h0]at h;cases h
   ·omega
 ·
  have:∀ k,k<=all.length->b<(H k).next->∃ p,φ b=some p:=by
   intro k
   induction k with
   |zero=>intro _ h;omega
   |succ k ih=>
    intro hk h;rcases zD b (H k).next with h3|h3
    ·exact ih (by omega) h3
    ·exact I.full k (hS k (by omega)) (by omega) b h3 h
  exact this _ (IT _) h2
theorem Ns{α:Type}{p q:α->Bool}:∀ {l:List α},(∀ x∈l,p x=true->q x=true)->(∃ x∈l,q x=true/\p x=false)->l.countP p<l.countP q
 |[],_,h=>by obtain⟨x,hx,_⟩:=h;cases hx
 |y::l,h1,h2=>by
  have hmono:l.countP p<=l.countP q:=List.countP_mono_left fun x hx hp=>h1 x (yj _ hx) hp
  rw[AEC,AEC];by_cases hy:q y=true/\p y=false
  ·rw[hy.1,hy.2];simp;omega
  ·obtain⟨x,hx,hq,hp⟩:=h2
   rcases yv.1 hx with rfl|hx
   ·exact absurd ⟨hq,hp⟩ hy
   ·have:=Ns (fun x hx=>h1 x (yj _ hx)) ⟨x,hx,hq,hp⟩
    cases hpy:p y with
    |true=>rw[h1 y yk hpy];simp;omega
    |false=>cases q y<;>simp<;>omega
structure AIC (all:List AAv)(B:Nat->Nat->Prop):Prop where
 dec:∀ i o j,all[i]? =some o->B j i->∃ e∈o.after.toList,ABT .any e=true/\(j=e.on\/B j e.on)
 back:∀ i o,all[i]? =some o->∀ e∈o.after.toList,ABT .any e=true->e.on<i
theorem mi(E:AIC all B)(L:Laws ty all ρ H T B)(tr:Tr P ty all ahs all ρ H V run T)(txt:Txt P ty N φ0 ρ H V T all.length)(hN:∀ o∈all,∀ d,o.dst=some d->d<N){Q:Exit->Act->zP->Prop}
  (hq:∀ ψ a' w',AFp ty ψ nil (H all.length) w'->AR N ψ (ρ all.length) a'->Evo φ0 (H 0) w0 ψ (H all.length) w'->Q .normal a' w'):
  ∀ (fuel:Nat) (listed:Array Bool) (φ:Phi) (C:Nat->Blk) (a:Act) (w:zP),listed.size=all.length->(zu all.length).countP (fun j=> !listed.getD j true)<=fuel->
   (∀ j k,(j<all.length/\listed.getD j false=true)->B k j->(k<all.length/\listed.getD k false=true))->
   Inv ty N all ρ H T φ0 w0 (fun j=>j<all.length/\listed.getD j false=true) φ C a w->wpAny P .any all.toArray Q fuel listed a w:=by
 have AHe:∀ (listed:Array Bool),listed.size=all.length->∀ j,j<all.length->listed.getD j true=listed.getD j false:=by
  intro listed hs j hj;rw[zo,zo,Array.getElem?_eq_getElem (by omega)];rfl
 have done:∀ (listed:Array Bool) (φ:Phi) (C:Nat->Blk) (a:Act) (w:zP),listed.size=all.length->AAr .any all.toArray listed=[]->
   Inv ty N all ρ H T φ0 w0 (fun j=>j<all.length/\listed.getD j false=true) φ C a w->(∀ j,j<all.length->listed.getD j false=true)/\Q .normal a w:=by
  intro listed φ C a w hs hr I;have hall:∀ j,j<all.length->listed.getD j false=true:=by
   intro j
   induction j using ADS with
   |_ j ih=>
    intro hj;cases hl:listed.getD j false with
    |true=>rfl
    |false=>
     exfalso
     have ho:all[j]? =some all[j]:=sh hj;have:j∈AAr .any all.toArray listed:=by
      unfold AAr;rw[zQ];refine⟨AAM.2 (by simpa using hj),?_⟩;rw[AHe listed hs j hj,hl,zN,ho];simp only[zg,ABS,AAG,ADo];rw[AAT];intro e he;cases hb:ABT .any e with
      |false=>rfl
      |true=>
       have h1:=E.back j all[j] ho e (AAX.2 he) hb;rw[ih e.on h1 (by omega)];rfl
     rw[hr]at this;cases this
  obtain⟨h1,h2,h3⟩:=I.fin txt L fun j hj=>⟨hj,hall j hj⟩
  exact⟨hall,hq φ a w h1 h2 h3⟩
 intro fuel
 induction fuel with
 |zero=>
  intro listed φ C a w hs hc hcl I;have hr:AAr .any all.toArray listed=[]:=by
   cases hr:AAr .any all.toArray listed with
   |nil=>rfl
   |cons x xs=>
    exfalso
    have hx:x∈AAr .any all.toArray listed:=by rw[hr];exact yk
    unfold AAr at hx;rw[zQ]at hx;obtain⟨h1,h2⟩:=hx;have h3:x<all.length:=by simpa using AAM.1 h1
    simp only[yr]at h2;have:=List.countP_pos_iff (p:=fun j=> !listed.getD j true) (l:=zu all.length) |>.2 ⟨x,AAM.2 h3,h2.1⟩;omega
  exact⟨hr,(done listed φ C a w hs hr I).2⟩
 |succ fuel ih=>
  intro listed φ C a w hs hc hcl I;refine⟨fun hr=>(done listed φ C a w hs hr I).2,fun i hi=>?_⟩;unfold AAr at hi;rw[zQ]at hi;obtain⟨h1,h2⟩:=hi;have h3:i<all.length:=by simpa using AAM.1 h1
  have ho:all[i]? =some all[i]:=sh h3;rw[yr,zN,ho]at h2;obtain⟨h4,h5⟩:=h2;simp only[AAG,ADo]at h5;rw[AAT]at h5;have hl:listed.getD i false=false:=by
   rw[<- AHe listed hs i h3];simpa using h4
  have AGJ:∀ j,j<all.length->(listed.setIfInBounds i true).getD j false=if j=i then true else listed.getD j false:=by
   intro j hj;rw[zo,AAJ,zo];by_cases hji:j=i
   ·subst hji;rw[if_pos rfl,if_pos (by omega),if_pos rfl];rfl
   ·rw[if_neg fun h=>hji h.symm,if_neg hji]
  have hpre:∀ j,B j i->(j<all.length/\listed.getD j false=true):=by
   intro j hb;obtain⟨e,he,hbe,hor⟩:=E.dec i _ j ho hb;have hon:=h5 e (AAX.1 he);rw[hbe]at hon;have hon:listed.getD e.on false=true:=by simpa using hon
   have hlt:e.on<all.length:=by have:=E.back i _ ho e he hbe;omega
   rcases hor with rfl|hor
   ·exact⟨hlt,hon⟩
   ·exact hcl e.on j ⟨hlt,hon⟩ hor
  refine I.step L tr txt ho (fun h=>by rw[hl]at h;cases h.2) hpre hcl (hN _ (List.mem_of_getElem? ho)) fun φ' C' a' w' I'=>ih _ φ' C' a' w' (by simp[hs]) ?_ ?_ ?_
  ·have:=Ns (p:=fun j=> !(listed.setIfInBounds i true).getD j true) (q:=fun j=> !listed.getD j true) (l:=zu all.length) (fun j hj hp=>?_) ⟨i,AAM.2 h3,h4,?_⟩
   ·omega
   ·have hj:=AAM.1 hj
    rw[AHe _ (by simp[hs]) j hj,AGJ j hj]at hp;rw[AHe _ hs j hj];by_cases hji:j=i
    ·rw[if_pos hji]at hp;cases hp
    ·rw[if_neg hji]at hp;exact hp
   ·rw[AHe _ (by simp[hs]) i h3,AGJ i h3,if_pos rfl];rfl
  ·intro j k hj hb
   have hjk:k<all.length/\listed.getD k false=true:=by
    rw[AGJ j hj.1]at hj;by_cases hji:j=i
    ·subst hji;exact hpre k hb
    ·rw[if_neg hji]at hj;exact hcl j k hj hb
   refine⟨hjk.1,?_⟩;rw[AGJ k hjk.1];split
   ·rfl
   ·exact hjk.2
  ·have:(fun j=>(j<all.length/\listed.getD j false=true)\/j=i)=fun j=>j<all.length/\(listed.setIfInBounds i true).getD j false=true:=by
    funext j
    apply propext;constructor
    ·rintro (⟨hj,hlj⟩|rfl)
     ·refine⟨hj,?_⟩
      rw[AGJ j hj];split
      ·rfl
      ·exact hlj
     ·refine⟨h3,?_⟩
      rw[AGJ _ h3,if_pos rfl]
    ·rintro⟨hj,hlj⟩
     rw[AGJ j hj]at hlj;by_cases hji:j=i
     ·exact .inr hji
     ·rw[if_neg hji]at hlj;exact .inl ⟨hj,hlj⟩
   rw[<- this];exact I'
theorem Evo.AHf{φ ψ:Phi}{h h':Hp}{w w1 w':zP}(ev:Evo φ h w1 ψ h' w')(hh:w1.heap=w.heap)(ht:w1.tape=w.tape)(ho:w1.os=w.os)(hout:w1.output=w.output):Evo φ h w ψ h' w' where
 le:=ev.le
 new:=ev.new
 next:=ev.next
 size:=by rw[<- hh];exact ev.size
 tape:=ev.tape.trans ht
 os:=ev.os.trans ho
 output:=ev.output.trans hout
 frame:=by rw[<- hh];exact ev.frame
 back:=by rw[<- hh];exact ev.back
 kept:=ev.kept
 low:=ev.low
 high:=ev.high
 shape:=ev.shape
 only:=ev.only
 all:=ev.all
theorem kX(hm:P.follows .mixedOrders=true)(E:AIC all B)(L:Laws ty all ρ H T B)(tr:Tr P ty all ahs all ρ H V run T)(hN:∀ o∈all,∀ d,o.dst=some d->d<N){Q:Exit->Act->zP->Prop}{a:Act}{w:zP}{id:Nat}
  (HW:AFp ty φ0 nil (H 0) w)(HA:AR N φ0 (ρ 0) a)(hq:∀ ψ a' w',AFp ty ψ nil (H all.length) w'->AR N ψ (ρ all.length) a'->Evo φ0 (H 0) w ψ (H all.length) w'->Q .normal a' w'):
  (AFD id all.toArray true).wp P Q a w:=by
 have txt:Txt P ty N φ0 ρ H V T all.length:=by
  have h:=Pe (Q:=fun _ _ _=>Txt P ty N φ0 ρ H V T all.length) all tr hN HW HA fun txt _ _ _ _ _ _=>txt
  obtain⟨_,_,_,h,_⟩:=wp_region_list (id:=0) (ops:=all.toArray) (by simpa using h) (default:Frame) [] [];exact h
 refine wp_region_any hm ?_;have HW1:AFp ty φ0 nil (H 0) {w with drawn:=w.drawn+1}:=HW.of_heap rfl;have hsz:all.toArray.size=all.length:=by simp
 rw[hsz];refine mi (w0:={w with drawn:=w.drawn+1}) E L tr txt hN (fun ψ a' w' h1 h2 h3=>hq ψ a' w' h1 h2 (h3.AHf rfl rfl rfl rfl)) all.length _ φ0 (H 0).bl.get a _ (by simp) (zO List.countP_le_length (by simp)) ?_ ?_
 ·rintro j k ⟨hj,hlj⟩ _
  rw[zo]at hlj;simp[hj]at hlj
 ·refine Inv.begin tr txt L HW1 HA fun j hj h=>?_
  have:=h.2;rw[zo]at this;simp[hj]at this
end
end
noncomputable section
open Go
theorem SE{β:Type}(x:Nat):∀ (k:List Nat->β) (l:List Nat),WJ x k l=k (l++[x])
 |k,[]=>rfl
 |k,y::l=>by
  unfold WJ;rw[SE x (fun l=>k (y::l)) l];rfl
def Dz:List Nat->List AAv->List Nat
 |acc,[]=>acc
 |acc,o::l=>Dz (acc++[HJ acc 0 o.after.toList]) l
theorem UN{β:Type}(k:List Nat->β):∀ (l:List AAv) (acc:List Nat),eX k l acc=k (Dz acc l)
 |[],acc=>rfl
 |o::l,acc=>by
  unfold eX;rw[Ao,SE,UN k l];rfl
theorem MG:∀ (l:List AAv) (acc:List Nat) (j:Nat),j<acc.length->(Dz acc l)[j]? =acc[j]?
 |[],acc,j,_=>rfl
 |o::l,acc,j,hj=>by
  unfold Dz;rw[MG l _ j (by simp;omega),zF hj]
theorem XY(l:List AAv):∀ (acc:List Nat) (j:Nat) (o:AAv),l[j]? =some o->(Dz acc l)[acc.length+j]? =some (HJ ((Dz acc l).take (acc.length+j)) 0 o.after.toList):=by
 induction l with
 |nil=>intro acc j o h;cases h
 |cons o' l ih=>
  intro acc j o h;have hu:Dz acc (o'::l)=Dz (acc++[HJ acc 0 o'.after.toList]) l:=by rw[Dz]
  rw[hu];cases j with
  |zero=>
   have ho:o'=o:=by simpa using h
   subst ho;rw[Nat.add_zero];have hp:=fun k hk=>MG l (acc++[HJ acc 0 o'.after.toList]) k hk
   have ht:(Dz (acc++[HJ acc 0 o'.after.toList]) l).take acc.length=acc:=by
    apply List.ext_getElem?;intro k;rw[AA9];split
    ·rename_i hk
     rw[hp k (by rw[No];omega),zF hk]
    ·rename_i hk
     rw[AAS (by omega)]
   rw[ht,hp acc.length (by rw[No,zh];omega),List.getElem?_append_right (IT _),Nat.sub_self];rfl
  |succ j=>
   have:=ih (acc++[HJ acc 0 o'.after.toList]) j o (by simpa using h);rw[No,zh]at this;have e:acc.length+(j+1)=acc.length+1+j:=by omega
   rw[e];exact this
theorem MF:∀ (l:List AAv) (acc:List Nat),(Dz acc l).length=acc.length+l.length
 |[],acc=>rfl
 |o::l,acc=>by
  unfold Dz;rw[MF l];simp;omega
theorem PB{bs:List Nat}{i j:Nat}:isB bs i j=true↔∃ b,bs[j]? =some b/\b.testBit i=true:=by
 unfold isB;rw[GO];cases bs[j]? with
 |none=>simp
 |some b=>
  simp only[Option.some.injEq,exists_eq_left'];rw[Ay];unfold Nat.testBit;have e:Nat.shiftRight b i=b >>> i:=rfl;have e2:Nat.mod (b >>> i) 2=(b >>> i) % 2:=rfl;rw[e,e2];simp[Nat.and_one_is_mod,bne_iff_ne]
theorem Kf(acc:List Nat)(i:Nat):∀ (es:List Edge) (m:Nat),(HJ acc m es).testBit i=true↔m.testBit i=true\/∃ e∈es,ABT .any e=true/\(i=e.on\/((acc[e.on]?).getD 0).testBit i=true)
 |[],m=>by unfold HJ;simp
 |e::es,m=>by
  unfold HJ;split
  ·rename_i hb
   rw[Kf acc i es];have e1:∀ a b:Nat,Nat.lor a b=a ||| b:=fun _ _=>rfl
   have e2:Nat.shiftLeft 1 e.on=1 <<< e.on:=rfl;rw[e1,e1,e2,GO,AEf,AEf,Nat.one_shiftLeft,Nat.testBit_two_pow];simp only[AEQ,decide_eq_true_eq,yv,exists_eq_or_imp,hb,true_and];constructor
   ·rintro ((h|h|h)|h)
    ·exact .inl h
    ·exact .inr (.inl (.inl h.symm))
    ·exact .inr (.inl (.inr h))
    ·exact .inr (.inr h)
   ·rintro (h|(h|h)|h)
    ·exact .inl (.inl h)
    ·exact .inl (.inr (.inl h.symm))
    ·exact .inl (.inr (.inr h))
    ·exact .inr h
  ·rename_i hb
   rw[Kf acc i es];simp only[yv,exists_eq_or_imp,hb,zT,false_and,false_or]
theorem Gt{ops:List AAv}{o:AAv}{i:Nat}:(o,i)∈ops.zipIdx↔ops[i]? =some o:=List.mem_zipIdx_iff_getElem?
theorem Jj{d:Nat}:∀ {l:List Nat},memN d l=true↔d∈l
 |[]=>by simp[memN]
 |x::l=>by
  unfold memN;split
  ·rename_i hb
   have:=Ay.1 hb;simp[this]
  ·rename_i hb
   have:=FR hb;rw[Jj,yv];constructor
   ·exact .inr
   ·rintro (h|h)
    ·exact absurd h.symm this
    ·exact h
section
variable {ty:TTy}{all:List AAv}{bs:List Nat}
theorem QI(hbs:bs=Dz [] all)(he:IA all=true):AIC all (fun i j=>isB bs i j=true):=by
 have back:∀ i o,all[i]? =some o->∀ e∈o.after.toList,ABT .any e=true->e.on<i:=by
  intro i o ho e hem hb;unfold IA at he;rw[ABL]at he;have:=he (o,i) (Gt.2 ho);simp only[ABL]at this;have:=this e hem;rw[hb]at this;exact BQ.1 (by simpa using this)
 refine⟨fun i o j ho hB=>?_,back⟩;obtain⟨b,hb1,hb2⟩:=PB.1 hB;have:=XY all [] i o ho;rw[<- hbs]at this;simp only[List.length_nil,If]at this;rw[this]at hb1;cases hb1;rcases (Kf _ j _ _).1 hb2 with h|⟨e,hem,hbe,hor⟩
 ·simp at h
 ·refine⟨e,hem,hbe,hor.imp id fun h=>?_⟩
  have hlt:=back i o ho e hem hbe;rw[AA9,if_pos hlt]at h;cases hq:bs[e.on]? with
  |none=>rw[hq]at h;simp at h
  |some c=>rw[hq]at h;exact PB.2 ⟨c,hq,h⟩
theorem ri(hbs:bs=Dz [] all)(he:IA all=true):∀ j i,isB bs i j=true->i<j:=by
 have E:=QI hbs he;intro j
 induction j using ADS with
 |_ j ih=>
  intro i hB;have hj:j<all.length:=by
   obtain⟨b,hb1,_⟩:=PB.1 hB;have:=(zG.1 hb1).1;rw[hbs,MF]at this
   simpa using this
  obtain⟨e,hem,hbe,hor⟩:=E.dec j _ i (sh hj) hB;have hlt:=E.back j _ (sh hj) e hem hbe;rcases hor with rfl|h
  ·exact hlt
  ·have:=ih e.on hlt i h;omega
theorem VY{i j:Nat}(h:isB bs (B9 i j) (i+j - B9 i j)=true):isB bs i j=true\/isB bs j i=true:=by
 rw[BZ]at h;rcases Nat.le_total i j with h1|h1
 ·rw[Nat.min_eq_left h1,show i+j - i=j by omega]at h;exact .inl h
 ·rw[Nat.min_eq_right h1,show i+j - j=i by omega]at h;exact .inr h
theorem ig{i j:Nat}(h1:isB bs i j≠true)(h2:isB bs j i≠true):isB bs (B9 i j) (i+j - B9 i j)=false:=by
 cases h:isB bs (B9 i j) (i+j - B9 i j)with
 |false=>rfl
 |true=>
  rcases VY h with h|h
  ·exact absurd h h1
  ·exact absurd h h2
theorem cf(hs:J5 all bs=true){i j:Nat}{oi oj:AAv}{d:Nat}(hij:i≠j)(hi:all[i]? =some oi)(hj:all[j]? =some oj)(hd:oi.dst=some d)
  (hn:oj.dst=some d\/.tmp d∈oj.op.operands.toList\/∃ g w og,oj.guard=some (g,w)/\all[g]? =some og/\og.dst=some d):isB bs i j=true\/isB bs j i=true:=by
 unfold J5 at hs;rw[ABL]at hs;have h1:=hs (oi,i) (Gt.2 hi);simp only[hd,ABL]at h1;have h2:=h1 (oj,j) (Gt.2 hj);simp only[AEQ,ABr]at h2;rcases h2 with (h2|h2)|h2
 ·exact absurd (Ay.1 h2) hij
 ·exact VY h2
 ·exfalso
  have:memN d (oj.dst.toList++Pd all oj)=true:=by
   rw[Jj,zK];rcases hn with h|h|⟨g,w,og,h,h3,h4⟩
   ·left;rw[h];simp
   ·right
    unfold Pd;rw[zK];left;rw[List.mem_filterMap];exact⟨_,h,rfl⟩
   ·right
    unfold Pd;rw[zK];right;rw[h];simp only[GO,h3,h4];simp
  rw[this]at h2;cases h2
structure AI0 (ty:TTy)(all:List AAv)(xs:List zM)(i j:Nat)(oi oj:AAv):Prop where
 ww:∀ x y,kd ty oi.op=.w x->kd ty oj.op≠.w y
 wq:∀ x,kd ty oi.op=.w x->kd ty oj.op≠.q
 qw:∀ y,kd ty oi.op=.q->kd ty oj.op≠.w y
 wr:∀ x y,kd ty oi.op=.w x->kd ty oj.op=.r y->x∈xs/\∃ t,x=.tmp t/\∀ k o,i<=k->k<j->all[k]? =some o->o.dst≠some t
 rw':∀ x y,kd ty oi.op=.r x->kd ty oj.op=.w y->x∈xs/\∃ t,x=.tmp t/\∀ k o,i<=k->k<j->all[k]? =some o->o.dst≠some t
theorem Jf{j i:Nat}{x:zM}{rest:Option (List zM)}{xs:List zM}(h:VM all j x i rest=some xs):
  ∃ ys,rest=some ys/\xs=x::ys/\∃ t,x=.tmp t/\∀ k o,i<=k->k<j->all[k]? =some o->o.dst≠some t:=by
 unfold VM at h;split at h
 ·rename_i t
  split at h
  ·cases h
  ·rename_i AI1
   split at h
   ·rename_i ys
    cases h;refine⟨ys,rfl,rfl,t,rfl,fun k o h1 h2 ho hd=>?_⟩;rw[List.any_eq_false]at AI1;refine AI1 (o,k) (Gt.2 ho) ?_;have e1:Nat.ble i k=true:=Av.2 h1;have e2:zm k j=true:=BQ.2 h2;simp only[e1,e2,ABS];rw[Jj,hd];simp
   ·cases h
 ·cases h
theorem E3{j:Nat}{oj:AAv}:∀ {l:List (AAv×Nat)} {xs:List zM},apart ty all bs j oj l=some xs->∀ oi i,(oi,i)∈l->i<j->isB bs i j=false->AI0 ty all xs i j oi oj
 |[],xs,_,oi,i,hm,_,_=>by cases hm
 |(o,k)::l,xs,h,oi,i,hm,hij,hB=>by
  unfold apart at h;have mono:∀ {ys:List zM} {x:zM},AI0 ty all ys i j oi oj->AI0 ty all (x::ys) i j oi oj:=fun h=>
   {h with wr:=fun a b h1 h2=>(h.wr a b h1 h2).imp (yj _) id,rw':=fun a b h1 h2=>(h.rw' a b h1 h2).imp (yj _) id}
  rcases yv.1 hm with he|hm
  ·obtain⟨e1,e2⟩:=Prod.mk.inj he
   subst e1;subst e2;have hc:(zm i j && !isB bs i j)=true:=by rw[hB,BQ.2 hij];rfl
   rw[hc]at h;simp only at h;unfold aM at h;split at h
   ·rename_i hk
    exact⟨(fun x y h1=>by rw[hk]at h1;cases h1),(fun x h1=>by rw[hk]at h1;cases h1),(fun y h1=>by rw[hk]at h1;cases h1),(fun x y h1=>by rw[hk]at h1;cases h1),(fun x y h1=>by rw[hk]at h1;cases h1)⟩
   ·rename_i hk _
    exact⟨(fun x y _ h1=>by rw[hk]at h1;cases h1),(fun x _ h1=>by rw[hk]at h1;cases h1),(fun y _ h1=>by rw[hk]at h1;cases h1),(fun x y _ h1=>by rw[hk]at h1;cases h1),(fun x y _ h1=>by rw[hk]at h1;cases h1)⟩
   ·cases h
   ·cases h
   ·cases h
   ·rename_i hk1 hk2
    obtain⟨ys,_,rfl,t,ht,hw⟩:=Jf h;exact⟨(fun x y _ h1=>by rw[hk2]at h1;cases h1),(fun x _ h1=>by rw[hk2]at h1;cases h1),(fun y h1=>by rw[hk1]at h1;cases h1),(fun x y h1 _=>by rw[hk1]at h1;cases h1;exact⟨yk,t,ht,hw⟩),(fun x y h1=>by rw[hk1]at h1;cases h1)⟩
   ·rename_i hk1 hk2
    obtain⟨ys,_,rfl,t,ht,hw⟩:=Jf h;exact⟨(fun x y h1=>by rw[hk1]at h1;cases h1),(fun x h1=>by rw[hk1]at h1;cases h1),(fun y h1=>by rw[hk1]at h1;cases h1),(fun x y h1=>by rw[hk1]at h1;cases h1),(fun x y h1 _=>by rw[hk1]at h1;cases h1;exact⟨yk,t,ht,hw⟩)⟩
   ·rename_i q1 q2 q3 q4 q5 q6 q7
    exact⟨fun x y h1 h2=>q3 x y h1 h2,fun x h1 h2=>q4 x h1 h2,fun y h1 h2=>q5 y h1 h2,fun x y h1 h2=>(q6 x y h1 h2).elim,fun x y h1 h2=>(q7 x y h1 h2).elim⟩
  ·split at h
   ·exact E3 h oi i hm hij hB
   ·unfold aM at h
    split at h
    ·exact E3 h oi i hm hij hB
    ·exact E3 h oi i hm hij hB
    ·cases h
    ·cases h
    ·cases h
    ·obtain⟨ys,h1,rfl,_⟩:=Jf h
     exact mono (E3 h1 oi i hm hij hB)
    ·obtain⟨ys,h1,rfl,_⟩:=Jf h
     exact mono (E3 h1 oi i hm hij hB)
    ·exact E3 h oi i hm hij hB
theorem Ji{j i:Nat}{o:AAv}{ask:Nat->Kd->Bool}(ho:all[i]? =some o)(hij:i≠j)(h1:isB bs i j≠true)(h2:isB bs j i≠true)(ha:ask i (kd ty o.op)=true):loose ty all bs j ask=true:=by
 unfold loose;rw[List.any_eq_true];refine⟨(o,i),Gt.2 ho,?_⟩;have hb:yu i j=false:=by
  cases hb:yu i j with
  |false=>rfl
  |true=>exact absurd (Ay.1 hb) hij
 simp only[hb,zg,ABS,ig h1 h2,ha]
inductive AHB (ty:TTy)(all:List AAv)(bs:List Nat)(j:Nat)(o:AAv)(xs:List zM):AGL->Prop
 |AFz (hk:kd ty o.op=.q) (hs:AGS ty all bs j=true):AHB ty all bs j o xs (.quiet .AFz)
 |weak (hk:kd ty o.op=.q) (hs:AGS ty all bs j=false):AHB ty all bs j o xs (.quiet .weak)
 |free (hk:kd ty o.op=.q) (hs:AGS ty all bs j=false) (hl:AHN ty all bs j=false):AHB ty all bs j o xs (.quiet .free)
 |alloc (hk:kd ty o.op=.a):AHB ty all bs j o xs (.quiet .AFz)
 |read {x:zM} (hk:kd ty o.op=.r x):AHB ty all bs j o xs (AHY (loose ty all bs j fun i k=>isQ k && !(AGS ty all bs i)) x xs)
 |write {x:zM} (hk:kd ty o.op=.w x):AHB ty all bs j o xs (.wr x xs)
 |AHM {x:zM} (hk:kd ty o.op=.w x) (hl:(loose ty all bs j fun _ k=>isR k)=false):AHB ty all bs j o xs (.quiet .free)
 |plain (hk:kd ty o.op=.p):AHB ty all bs j o xs .plain
theorem Sa{j:Nat}{o:AAv}{ah:AGL}(h:Lk ty all bs j o=some ah):∃ xs,apart ty all bs j o all.zipIdx=some xs/\AHB ty all bs j o xs ah:=by
 unfold Lk at h;split at h
 ·cases h
 ·rename_i xs hx
  refine⟨xs,hx,?_⟩;split at h
  ·rename_i hk
   split at h
   ·rename_i hs;cases h;exact .AFz hk hs
   ·rename_i hs _;cases h;exact .weak hk hs
   ·rename_i hs hl;cases h;exact .free hk hs hl
  ·rename_i hk;cases h;exact .alloc hk
  ·rename_i hk;cases h;exact .read hk
  ·rename_i hk
   split at h
   ·cases h;exact .write hk
   ·rename_i hl;cases h;exact .AHM hk hl
  ·rename_i q1 q2 q3 q4
   cases h;refine .plain ?_;cases hk:kd ty o.op with
   |p=>rfl
   |a=>exact absurd hk q2
   |r x=>exact absurd hk (q3 x)
   |w x=>exact absurd hk (q4 x)
   |q=>exact absurd hk q1
theorem Ni:∀ {l:List AAv} {j:Nat} {ahs:List AGL},Oi ty all bs j l=some ahs->∀ k o,l[k]? =some o->Lk ty all bs (j+k) o=some (ahs.getD k .plain)
 |[],j,ahs,h,k,o,hk=>by cases hk
 |o'::l,j,ahs,h,k,o,hk=>by
  unfold Oi at h;split at h
  ·rename_i a ha
   split at h
   ·rename_i r hr
    cases h;cases k with
    |zero=>cases hk;exact ha
    |succ k=>
     have:=Ni hr k o hk;have e:j+(k+1)=j.succ+k:=by omega
     rw[e];exact this
   ·cases h
  ·cases h
theorem MP{old:Bool}{x:zM}{xs:List zM}:(AHY old x xs=.plain/\old=false/\xs=[])\/AHY old x xs=.chk old x xs:=by
 unfold AHY;cases old<;>cases xs<;>first|exact .inl ⟨rfl,rfl,rfl⟩|exact .inr rfl
theorem AHB.ok{j:Nat}{o:AAv}{xs:List zM}{ah:AGL}(h:AHB ty all bs j o xs ah):AIB ty o ah:=by
 cases h with
 |AFz hk _=>exact⟨(fun _ _ h=>by rw[hk]at h;rcases h with h|⟨_,h⟩<;>cases h),(fun _ _ h=>by cases h),(fun _ _ _ h=>by cases h)⟩
 |weak hk _=>exact⟨(fun _ _ h=>by rw[hk]at h;rcases h with h|⟨_,h⟩<;>cases h),(fun _ _ h=>by cases h),(fun _ _ _ h=>by cases h)⟩
 |free hk _ _=>exact⟨(fun _ _ h=>by rw[hk]at h;rcases h with h|⟨_,h⟩<;>cases h),(fun _ _ h=>by cases h),(fun _ _ _ h=>by cases h)⟩
 |alloc hk=>exact⟨(fun _ _ h=>by rw[hk]at h;rcases h with h|⟨_,h⟩<;>cases h),(fun _ _ h=>by cases h),(fun _ _ _ h=>by cases h)⟩
 |read hk=>
  rcases MP (old:=loose ty all bs j fun i k=>isQ k && !(AGS ty all bs i)) (xs:=xs)with ⟨h,_⟩|h
  ·rw[h];exact .plain ty o
  ·rw[h];exact⟨(fun _ h=>by cases h),(fun _ _ h=>by cases h),(fun _ _ _ h=>by cases h;exact hk)⟩
 |write hk=>exact⟨(fun _ h=>by cases h),(fun _ _ h=>by cases h;exact hk),(fun _ _ _ h=>by cases h)⟩
 |AHM hk _=>exact⟨(fun _ _ h=>by rw[hk]at h;rcases h with h|⟨_,h⟩<;>cases h),(fun _ _ h=>by cases h),(fun _ _ _ h=>by cases h)⟩
 |plain hk=>exact .plain ty o
theorem AHB.AIA{j:Nat}{o:AAv}{xs:List zM}{ah:AGL}(h:AHB ty all bs j o xs ah):AKD ty o ah:=by
 cases h with
 |read hk=>exact .inl (.inr ⟨_,hk⟩)
 |plain hk=>exact .inl (.inl hk)
 |_=>exact .inr ⟨(fun h=>by cases h),(fun _ _ _ h=>by cases h)⟩
end
end
noncomputable section
open Go
section
variable {P:Program}{ty:TTy}{all:List AAv}{ρ:Nat->Rho}{H:Nat->Hp}{V:Nat->IN}{T:Nat->Nat->Prop}{run:Nat->Bool}{ahs:List AGL}{bs:List Nat}
theorem LW(hah:∀ j o,all[j]? =some o->∃ xs,apart ty all bs j o all.zipIdx=some xs/\AHB ty all bs j o xs (ahs.getD j .plain))(tr:Tr P ty all ahs all ρ H V run T){j:Nat}(hj:j<all.length):
  (H (j+1)).low<=(H j).low/\(H j).high<=(H (j+1)).high/\(∀ c,T j c->(H (j+1)).low<=c/\c<=(H (j+1)).high)/\(H (j+1)).mark=(H j).mark:=by
 have ho:all[j]? =some all[j]:=sh hj;obtain⟨xs,_,ha⟩:=hah j _ ho;rcases (tr.sf j _ ho).core with ⟨_,core⟩|⟨_,_,hh,hT⟩
 ·exact core.AIA ha.AIA
 ·rw[hh];exact⟨IT _,IT _,fun c hc=>absurd hc (hT c),rfl⟩
theorem EQ(hah:∀ j o,all[j]? =some o->∃ xs,apart ty all bs j o all.zipIdx=some xs/\AHB ty all bs j o xs (ahs.getD j .plain))(tr:Tr P ty all ahs all ρ H V run T){i:Nat}:
  ∀ {k:Nat},i<=k->k<=all.length->(H k).low<=(H i).low/\(H i).high<=(H k).high/\(H k).mark=(H i).mark:=by
 intro k h hk
 induction k with
 |zero=>have:i=0:=Nat.le_zero.1 h;subst this;exact⟨IT _,IT _,rfl⟩
 |succ k ih=>
  rcases zD k i with h2|h2
  ·have:i=k+1:=by omega
   subst this;exact⟨IT _,IT _,rfl⟩
  ·obtain⟨a1,a2,a3⟩:=ih h2 (by omega)
   obtain⟨b1,b2,_,b3⟩:=LW hah tr (j:=k) (by omega);exact⟨zO b1 a1,zO a2 b2,b3.trans a3⟩
theorem QM(tr:Tr P ty all ahs all ρ H V run T){t:Nat}{u:IN}{i k:Nat}(h:i<=k)(hk:k<=all.length)(hs:∀ m o,i<=m->m<k->all[m]? =some o->o.dst≠some t)(hu:evR (ρ k) (.tmp t)=some u):evR (ρ i) (.tmp t)=some u:=
 tr.backward h hk hs hu
theorem iu(hbs:bs=Dz [] all)(he:IA all=true)(hs:J5 all bs=true)
  (hah:∀ j o,all[j]? =some o->∃ xs,apart ty all bs j o all.zipIdx=some xs/\AHB ty all bs j o xs (ahs.getD j .plain))(tr:Tr P ty all ahs all ρ H V run T):
  Laws ty all ρ H T (fun i j=>isB bs i j=true):=by
 have len:∀ {i:Nat} {o:AAv},all[i]? =some o->i<all.length:=fun h=>(zG.1 h).1
 have AHg:∀ j oj c,all[j]? =some oj->T j c->Core P ty oj (ahs.getD j .plain) (ρ j) (H j) (H (j+1)) (V j) (T j):=by
  intro j oj c hj hc;rcases (tr.sf j oj hj).core with ⟨_,core⟩|⟨_,_,_,hT⟩
  ·exact core
  ·exact absurd hc (hT c)
 have kinds:∀ j oj c,all[j]? =some oj->T j c->(∃ x,kd ty oj.op=.w x)\/(kd ty oj.op=.q/\AGS ty all bs j=false):=by
  intro j oj c hj hc;have core:=AHg j oj c hj hc;obtain⟨xs,_,ha⟩:=hah j oj hj;generalize ahs.getD j .plain=ah at ha core;cases ha with
  |AFz hk _=>exact absurd hc (core.AFz rfl c)
  |weak hk h=>exact .inr ⟨hk,h⟩
  |free hk h _=>exact .inr ⟨hk,h⟩
  |alloc hk=>exact absurd hc (core.AFz rfl c)
  |read hk=>exact absurd hc ((core.tp (.inr ⟨_,hk⟩)).1 c)
  |write hk=>exact .inl ⟨_,hk⟩
  |AHM hk _=>exact .inl ⟨_,hk⟩
  |plain hk=>exact absurd hc ((core.tp (.inl hk)).1 c)
 have held:∀ {i j oi oj},all[i]? =some oi->all[j]? =some oj->i<j->¬ isB bs i j=true->∃ xs,AHB ty all bs j oj xs (ahs.getD j .plain)/\AI0 ty all xs i j oi oj:=by
  intro i j oi oj hi hj hij hB;obtain⟨xs,hx,ha⟩:=hah j oj hj;exact⟨xs,ha,E3 hx oi i (Gt.2 hi) hij (by cases h:isB bs i j<;>first|rfl|exact absurd h hB)⟩
 refine {lt:=fun i j h=>ri hbs he j i h,slots:=fun i j oi oj d hij hi hj hd hn=>cf hs hij hi hj hd hn,kinds:=fun j oj c hj hc=>(kinds j oj c hj hc).imp id (·.1),fixed:=?_,reads:=?_,tlt:=?_,AIz:=?_,low:=?_,high:=?_}
 ·
  intro i j oi c hij hi hjn hc hki;have hj:all[j]? =some all[j]:=sh hjn;by_cases h1:isB bs i j=true
  ·exact .inl h1
  by_cases h2:isB bs j i=true
  ·exact .inr h2
  exfalso
  have hQQ:∀ {i j:Nat} {oi:AAv},all[i]? =some oi->i≠j->¬ isB bs i j=true->¬ isB bs j i=true->kd ty oi.op=.q->AGS ty all bs j=true:=fun hi hij h1 h2 hk=>by
   unfold AGS;exact Ji hi hij h1 h2 (by rw[hk];rfl)
  rcases kinds j _ c hj hc with ⟨xj,hkj⟩|⟨hkj,hns⟩
  ·rcases ACM hij with h|h
   ·obtain⟨xs,_,hh⟩:=held hi hj h h1
    rcases hki with ⟨x,hki⟩|hki
    ·exact hh.ww x xj hki hkj
    ·exact hh.qw xj hki hkj
   ·obtain⟨xs,_,hh⟩:=held hj hi h h2
    rcases hki with ⟨x,hki⟩|hki
    ·exact hh.ww xj x hkj hki
    ·exact hh.wq xj hkj hki
  ·rcases hki with ⟨x,hki⟩|hki
   ·rcases ACM hij with h|h
    ·obtain⟨xs,_,hh⟩:=held hi hj h h1
     exact hh.wq x hki hkj
    ·obtain⟨xs,_,hh⟩:=held hj hi h h2
     exact hh.qw x hkj hki
   ·rw[hQQ hi hij h1 h2 hki]at hns;cases hns
 ·
  intro i j oi x c u hij hi hjn hc hki hu hb;have hj:all[j]? =some all[j]:=sh hjn;by_cases h1:isB bs i j=true
  ·exact .inl h1
  by_cases h2:isB bs j i=true
  ·exact .inr h2
  exfalso
  have core:=AHg j _ c hj hc;have hin:=len hi;have si:=(tr.sf i oi hi).side (by rw[hki];intro h;cases h);rcases kinds j _ c hj hc with ⟨xj,hkj⟩|⟨hkj,hns⟩
  ·
   have AJR:∃ xs,ahs.getD j .plain=.wr xj xs/\apart ty all bs j all[j] all.zipIdx=some xs:=by
    obtain⟨xs,hx,ha⟩:=hah j _ hj;generalize ahs.getD j .plain=ah at ha;cases ha with
    |write hk=>rw[hkj]at hk;cases hk;exact⟨xs,rfl,hx⟩
    |AHM hk hl=>
     have:=Ji (ty:=ty) (ask:=fun _ k=>isR k) hi hij h1 h2 (by simp only[hki];rfl);rw[hl]at this;cases this
    |AFz hk _=>rw[hkj]at hk;cases hk
    |weak hk _=>rw[hkj]at hk;cases hk
    |free hk _ _=>rw[hkj]at hk;cases hk
    |alloc hk=>rw[hkj]at hk;cases hk
    |read hk=>rw[hkj]at hk;cases hk
    |plain hk=>rw[hkj]at hk;cases hk
   obtain⟨xsj,hej,hxj⟩:=AJR;obtain⟨u',hu',hb'⟩:=core.wr xj xsj hej c hc;have sj:=(tr.sf j _ hj).side (by rw[hkj];intro h;cases h);rcases ACM hij with h|h
   ·
    have hh:=E3 hxj oi i (Gt.2 hi) h (by cases h:isB bs i j<;>first|rfl|exact absurd h h1);obtain⟨hm,t,rfl,hw⟩:=hh.rw' x xj hki hkj;obtain⟨_,hkn⟩:=sj.known xj xsj (.inl hej);obtain⟨u2,hu2⟩:=hkn _ hm;have AHK:=QM tr (AAC h) (AAC hjn) (fun m o a1 a2 a3=>hw m o a1 a2 a3) hu2;rw[hu]at AHK;cases AHK;exact sj.wrx xj xsj hej _ hm u' u c hu' hu2 hb' hb
   ·
    obtain⟨xs,ha,hh⟩:=held hj hi h h2;obtain⟨hm,t,rfl,hw⟩:=hh.wr xj x hkj hki;have AK5:∃ old,ahs.getD i .plain=.chk old x xs:=by
     generalize ahs.getD i .plain=ah at ha;cases ha with
     |read hk=>
      rw[hki]at hk;cases hk;rcases MP (x:=x) (old:=loose ty all bs i fun i k=>isQ k && !(AGS ty all bs i)) (xs:=xs)with ⟨_,_,h⟩|h
      ·subst h;cases hm
      ·exact⟨_,h⟩
     |AFz hk _=>rw[hki]at hk;cases hk
     |weak hk _=>rw[hki]at hk;cases hk
     |free hk _ _=>rw[hki]at hk;cases hk
     |alloc hk=>rw[hki]at hk;cases hk
     |write hk=>rw[hki]at hk;cases hk
     |AHM hk _=>rw[hki]at hk;cases hk
     |plain hk=>rw[hki]at hk;cases hk
    obtain⟨old,hei⟩:=AK5;obtain⟨_,hkn⟩:=si.known x xs (.inr ⟨old,hei⟩);obtain⟨u2,hu2⟩:=hkn _ hm;have AHK:=QM tr (AAC h) (AAC hin) (fun m o a1 a2 a3=>hw m o a1 a2 a3) hu2;rw[hu']at AHK;cases AHK;exact si.chk old x xs hei _ hm u u' c hu hu2 hb hb'
  ·
   have hwk:∀ c,T j c->(H j).mark<=c:=by
    obtain⟨xs,hx,ha⟩:=hah j _ hj;generalize ahs.getD j .plain=ah at ha core;cases ha with
    |weak hk _=>exact core.weak rfl
    |free hk _ hl=>
     have:AHN ty all bs j=true:=by
      unfold AHN;exact Ji (ty:=ty) (ask:=fun _ k=> !isP k) hi hij h1 h2 (by simp only[hki];rfl)
     rw[hl]at this;cases this
    |AFz hk h=>rw[hns]at h;cases h
    |alloc hk=>rw[hkj]at hk;cases hk
    |read hk=>rw[hkj]at hk;cases hk
    |write hk=>rw[hkj]at hk;cases hk
    |AHM hk _=>rw[hkj]at hk;cases hk
    |plain hk=>rw[hkj]at hk;cases hk
   have hold:∃ xs,ahs.getD i .plain=.chk true x xs:=by
    obtain⟨xs,hx,ha⟩:=hah i oi hi;generalize ahs.getD i .plain=ah at ha;cases ha with
    |read hk=>
     rw[hki]at hk;cases hk;have hl:(loose ty all bs i fun i k=>isQ k && !(AGS ty all bs i))=true:=
      Ji hj (fun h=>hij h.symm) h2 h1 (by rw[hkj,hns];rfl)
     rw[hl];rcases MP (x:=x) (old:=true) (xs:=xs)with ⟨_,h,_⟩|h
     ·cases h
     ·exact⟨xs,h⟩
    |AFz hk _=>rw[hki]at hk;cases hk
    |weak hk _=>rw[hki]at hk;cases hk
    |free hk _ _=>rw[hki]at hk;cases hk
    |alloc hk=>rw[hki]at hk;cases hk
    |write hk=>rw[hki]at hk;cases hk
    |AHM hk _=>rw[hki]at hk;cases hk
    |plain hk=>rw[hki]at hk;cases hk
   obtain⟨xs,hei⟩:=hold;have h3:=si.old x xs hei u c hu hb;have h4:=hwk c hc;have m1:=(EQ hah tr (zL i) (AAC hin)).2.2;have m2:=(EQ hah tr (zL j) (AAC hjn)).2.2;omega
 ·intro j c hjn hc
  exact(AHg j _ c (sh hjn) hc).tlt c hc
 ·intro j c hjn hc
  obtain⟨_,_,h3,_⟩:=LW hah tr hjn;obtain⟨h4,h5⟩:=h3 c hc;obtain⟨h6,h7,_⟩:=EQ hah tr (i:=j+1) hjn (IT _);omega
 ·exact(EQ hah tr (zL _) (IT _)).1
 ·exact(EQ hah tr (zL _) (IT _)).2.1
theorem Z3(h:Ut ty all=some ahs):∃ bs,bs=Dz [] all/\IA all=true/\J5 all bs=true/\∀ j o,all[j]? =some o->∃ xs,apart ty all bs j o all.zipIdx=some xs/\AHB ty all bs j o xs (ahs.getD j .plain):=by
 unfold Ut at h;rw[UN]at h;split at h
 ·rename_i hc
  simp only[yr]at hc;refine⟨_,rfl,hc.1,hc.2.2,fun j o ho=>?_⟩;have:=Ni h j o ho;rw[If]at this;exact Sa this
 ·cases h
end
end
noncomputable section
open Go
theorem E4{a b:Bool}(h:(bif a then b else false)=true):a=true/\b=true:=by cases a<;>first|exact⟨rfl,h⟩|cases h
section

end
end
noncomputable section
open Go
def Ag(S:List Nat)(e e':Env):Prop:=∀ t,t<240->t∉S->e'.get t=e.get t
theorem Ag.refl(S:List Nat)(e:Env):Ag S e e:=fun _ _ _=>rfl
theorem Ag.trans{S:List Nat}{e e1 e2:Env}(h:Ag S e e1)(h2:Ag S e1 e2):Ag S e e2:=fun t ht hn=>(h2 t ht hn).trans (h t ht hn)
def HG(S:List Nat)(e:Env):X->Prop
 |.no=>True
 |.norm e' _=>Ag S e e'
 |.exit _ e' _=>Ag S e e'
 |.ret e' _=>Ag S e e'
theorem HG.of{S:List Nat}{e e1:Env}{x:X}(h:Ag S e e1)(h2:HG S e1 x):HG S e x:=by
 cases x with
 |no=>trivial
 |norm _ _=>exact h.trans h2
 |exit _ _ _=>exact h.trans h2
 |ret _ _=>exact h.trans h2
def CL(S:List Nat)(c:C):Prop:=∀ F e h,HG S e (c F e h)
theorem Oh{S:List Nat}{d:Nat}(hd:d∈S)(hl:d<240)(v:IN)(e:Env):Ag S e (Env.set d v e):=fun t ht hn=>by
 rw[Env.AFy _ _ _ _ hl ht,if_neg (by rintro rfl;exact hn hd)]
theorem Po{S:List Nat}:∀ (l:List Nat) (e:Env),(∀ d∈l,d∈S/\d<240)->Ag S e (C6 e l)
 |[],e,_=>.refl _ _
 |d::l,e,h=>(Oh (h d yk).1 (h d yk).2 _ e).trans (Po l _ fun d hd=>h d (yj _ hd))
section
variable {S:List Nat}
theorem Co:CL S cNo:=fun _ _ _=>trivial
theorem TF:CL S Aw:=fun _ e _=>.refl _ e
theorem X0:CL S Ar:=fun _ e _=>.refl _ e
theorem TB(id:Nat):CL S (CM id):=fun _ e _=>.refl _ e
theorem Qo{d:Nat}{f:OpF}{k:C}(hd:d∈S)(hl:d<240)(hk:CL S k):CL S (SZ (FI d) f k):=fun F e h=>by
 unfold SZ;cases f F e h with
 |no=>trivial
 |ok v h'=>
  show HG S e (FI d (fun e=>k F e h') v e);rw[EA d hl];exact .of (Oh hd hl v e) (hk F _ h')
theorem aT{f:OpF}{k:C}(hk:CL S k):CL S (cDo f k):=fun F e h=>by
 unfold cDo;cases f F e h with
 |no=>trivial
 |ok v h'=>exact hk F e h'
theorem ij{g:Env->IN}{w:Bool}{d:Nat}{f:OpF}{k:C}(hd:d∈S)(hl:d<240)(hk:CL S k):CL S (cG g w (FI d) f k):=fun F e h=>by
 have h0:HG S e (FI d (fun e=>k F e h) AFl e):=by
  rw[EA d hl];exact .of (Oh hd hl _ e) (hk F _ h)
 unfold cG;split
 ·rename_i b _
  cases (w == b)with
  |true=>exact Qo hd hl hk F e h
  |false=>exact h0
 ·exact h0
 ·trivial
theorem Ku{w:Env->IN}{rs:List (Env->IN)}{k:C}(hk:CL S k):CL S (Cn w rs k):=fun F e h=>by
 unfold Cn;split
 ·rename_i b _
  cases DE b e rs with
  |true=>exact hk F e h
  |false=>trivial
 ·exact hk F e h
theorem Xz{x:O}{k:C}(hk:CL S k):CL S (EP x k):=fun F e h=>by
 unfold EP;split
 ·rename_i b _
  cases zm b h.mark with
  |true=>exact hk F e h
  |false=>trivial
 ·exact hk F e h
theorem TC{k:C}(hk:CL S k):CL S (B8 k):=fun F e h=>hk F e _
theorem OH{a b:C}(ha:CL S a)(hb:CL S b):CL S (BL a b):=fun F e h=>by
 have:=ha F e h;unfold BL;cases hx:a F e h with
 |no=>trivial
 |norm e1 h1=>rw[hx]at this;exact .of this (hb F e1 h1)
 |exit i e1 h1=>rw[hx]at this;exact this
 |ret e1 h1=>rw[hx]at this;exact this
theorem I6{c:O}{a b:C}(ha:CL S a)(hb:CL S b):CL S (Id c a b):=fun F e h=>by
 show HG S e (mP (c e) (a F e h) (b F e h));cases c e<;>first|trivial|skip
 rename_i t;cases t with
 |true=>exact ha F e h
 |false=>exact hb F e h
theorem LP{id:Nat}{a:C}(ha:CL S a):CL S (Ae id a):=fun F e h=>by
 have:=ha F e h;unfold Ae;cases hx:a F e h with
 |no=>trivial
 |norm e1 h1=>rw[hx]at this;exact this
 |exit i e1 h1=>
  rw[hx]at this;show HG S e (bif yu i id then .norm e1 h1 else .exit i e1 h1);cases yu i id<;>exact this
 |ret e1 h1=>rw[hx]at this;exact this
theorem Mn{a:C}(ha:CL S a):∀ n,CL S (iter a n)
 |0=>fun _ _ _=>trivial
 |n+1=>fun F e h=>by
  have:=ha F e h;unfold iter;cases hx:a F e h with
  |no=>trivial
  |norm e1 h1=>rw[hx]at this;exact .of this (Mn ha n F e1 h1)
  |exit i e1 h1=>rw[hx]at this;exact this
  |ret e1 h1=>rw[hx]at this;exact this
theorem Mo{a:C}(ha:CL S a):CL S (A9 a):=Mn ha rounds
theorem OG{e:Env}{c:Bool}{x:X}(hx:HG S e x):HG S e (bif c then x else .no):=by
 cases c
 ·trivial
 ·exact hx
theorem TG{k:Walk}{a:C}(hw:∀ d∈k.ws,d∈S/\d<240)(hm:k.more∈S/\k.more<240)(hr:∀ d∈k.rs,d∈S/\d<240)(ha:CL S a):CL S (JL k a):=fun F e h=>by
 have hl:=Mo ha F e h;have hcl:∀ b,HG S e (F2 k a F e h b):=fun b=>by
  unfold F2;split
  ·exact(Po _ _ hw).trans (Oh hm.1 hm.2 _ _)
  ·trivial
 unfold JL;cases J k.it e<;>first|trivial|skip
 rename_i o;cases o with
 |none=>trivial
 |some ad=>
  simp only;cases EU (h.bl.get ad.block)with
  |ok m since seen last=>
   cases m with
   |none=>exact hl
   |some m=>
    cases seen with
    |cons _ _=>trivial
    |nil=>
     simp only;cases Bk h m with
     |no=>trivial
     |ok es c=>
      cases es with
      |nil=>exact hl
      |cons x l=>
       cases l with
       |nil=>exact hl
       |cons y l=>
        show HG S e (bif yu ad.off 0 then(bif Nat.ble 256 ad.block then F2 k a F e h ad.block else .no)else .no);exact OG (OG (hcl _))
  |_=>exact hl
end
theorem Z6{o:AAv}{d:Nat}(hd:o.dst=some d):∀ (l:List AAv),o∈l->d∈JT l:=by
 intro l
 induction l with
 |nil=>intro h;cases h
 |cons p l ih=>
  intro h;unfold JT;rcases yv.1 h with h|h
  ·rw[<- h,hd];exact yk
  ·have:=ih h
   split
   ·exact yj _ this
   ·exact this
theorem Eb:∀ {c:AEj} {d:Nat},d∈JC c->d∈wrs c
 |.seq a b,d,h=>by
  have h0:d∈JC a++JC b->d∈wrs a++wrs b:=fun h=>by
   rcases zK.1 h with h|h
   ·exact zR _ (Eb h)
   ·exact zE _ (Eb h)
  unfold JC at h;split at h
  ·split at h
   ·exact zR _ h
   ·exact zR _ (Eb h)
  ·exact h0 h
 |.cond _ a b,d,h=>by
  have h:d∈JC a++JC b:=h;rcases zK.1 h with h|h
  ·exact zR _ (Eb h)
  ·exact zE _ (Eb h)
 |.block _ a,d,h=>Eb (c:=a) h
 |.loop a,d,h=>Eb (c:=a) h
 |.scope a,d,h=>Eb (c:=a) h
 |.region _ _ _,d,h=>by cases h
 |.skip,d,h=>by cases h
 |.exit _,d,h=>by cases h
 |.ret,d,h=>by cases h
 |.rangeFunc _ _ _ _,d,h=>by cases h
 |.label _,d,h=>by cases h
 |.goto _,d,h=>by cases h
 |.refuse _,d,h=>by cases h
theorem Uv:∀ {l:List Nat},iM l=true->∀ d∈l,d<240
 |d::l,h,x,hx=>by
  unfold iM at h;split at h
  ·rename_i hb
   rcases yv.1 hx with rfl|hx
   ·exact BQ.1 hb
   ·exact Uv h x hx
  ·cases h
structure AG5 (A:List Nat)(a:AEj)(k:Walk)(id:Nat)(o1 o2:AAv)(r2:AEj):Prop where
 code:a=.seq (.region id #[o1,o2] false) (.seq (.cond (.tmp k.more) .skip (.exit k.out)) r2)
 op1:o1.op=.next (.tmp k.it) false
 AHw:o1.dst=some k.nx
 AJS:o1.guard=none
 op2:o2.op=.extract (.tmp k.nx) 0
 AID:o2.dst=some k.more
 AJT:o2.guard=none
 ne:k.nx≠k.more
 itA:memN k.it A=false
 nxA:memN k.nx A=false
 moA:memN k.more A=false
 itL:k.it<240
 nxL:k.nx<240
 moL:k.more<240
 ws:k.ws=wrs a
 itW:k.it∉k.ws
 few:∀ d∈k.ws,d<240
 rs:∀ d∈k.rs,d∈k.ws
theorem Mu{t:Nat}:∀ {l:List Nat},memN t l=false->t∉l
 |d::l,h,hm=>by
  unfold memN at h;split at h
  ·cases h
  ·rename_i hb
   rcases yv.1 hm with rfl|hm
   ·rw[AAQ]at hb;cases hb
   ·exact Mu h hm
theorem jx{more out:Nat}{c:AEj}(h:xT more c=some out):∃ r2,c=.seq (.cond (.tmp more) .skip (.exit out)) r2:=by
 cases c with
 |seq a r=>cases a with
  |cond c x y=>cases c with
   |tmp t=>cases x with
    |skip=>cases y with
     |exit id=>
      have h:(match yu t more with|true=>some id|false=>none)=some out:=h;cases hb:yu t more with
      |false=>rw[hb]at h;cases h
      |true=>
       rw[hb]at h;cases h;have:=Ay.1 hb;subst this;exact⟨r,rfl⟩
     |_=>cases h
    |_=>cases h
   |_=>cases h
  |_=>cases h
 |_=>cases h
theorem SU{A:List Nat}{a:AEj}{k:Walk}(h:WW A a=some k):∃ id o1 o2 r2,AG5 A a k id o1 o2 r2:=by
 unfold WW at h;split at h
 case h_2=>cases h
 rename_i x rest;split at h
 case h_2=>cases h
 rename_i id ops draw;split at h
 case h_2=>cases h
 unfold WV at h;split at h
 case h_2=>cases h
 rename_i o1 l1 hl0;split at h
 case h_2=>cases h
 rename_i o2 l2;split at h
 case h_2=>cases h
 split at h
 case h_2=>cases h
 rename_i x str AK6;split at h
 case h_2=>cases h
 rename_i it;split at h
 case h_2=>cases h
 split at h
 case h_2=>cases h
 rename_i nx hd1 hg1;split at h
 case h_2=>cases h
 rename_i y i AK7;split at h
 case h_2=>cases h
 rename_i n2;split at h
 case h_2=>cases h
 rename_i more hd2 hg2;split at h
 case h_2=>cases h
 rename_i hb;split at h
 case h_2=>cases h
 rename_i out hout;cases h;simp only[yr,ABr]at hb;obtain⟨b1,b2,b3,b4,b5,b6,b7,b8,b9,b10,b11⟩:=hb;obtain⟨r2,rfl⟩:=jx hout;have e1:=Ay.1 b1;have e2:=Ay.1 b2;subst e1;subst e2;have AK8:ops= #[o1,o2]:=zz hl0;subst AK8;refine⟨id,o1,o2,r2,{code:=rfl,op1:=AK6,AHw:=hd1,AJS:=hg1,op2:=AK7,AID:=hd2,AJT:=hg2,ne:=FR b3,itA:=b4,nxA:=b5,moA:=b6,itL:=BQ.1 b7,nxL:=BQ.1 b8,moL:=BQ.1 b9,ws:=?_,itW:=Mu b10,few:=?_,rs:=?_}⟩
 ·show _=JT [o1,o2]++_
  simp only[JT,hd1,hd2];rfl
 ·intro d hd
  rcases yv.1 hd with rfl|hd
  ·exact BQ.1 b8
  ·rcases yv.1 hd with rfl|hd
   ·exact BQ.1 b9
   ·exact Uv b11 d hd
 ·intro d hd
  exact yj _ (yj _ (Eb hd))
section
variable {ty:TTy}{A S:List Nat}
theorem Hi{f:Fr}{a:AGL}{o:OpF}{k:OpF->C}(hk:∀ p,CL S (k p)):CL S (HQ f a o k):=by
 unfold HQ;split
 ·exact hk _
 ·exact hk _
 ·split
  ·exact Ku (hk _)
  ·exact Co
 ·split
  ·split
   ·exact Xz (Ku (hk _))
   ·exact Ku (hk _)
  ·exact Co
theorem Kv{all:List AAv}{k:Sg->C}(hk:∀ σ,CL S (k σ)):∀ (l:List AAv) (ah:List AGL) (σ:Sg),(∀ o∈l,∀ d,o.dst=some d->d∈S)->CL S (Gx ty A all k ah l σ)
 |[],ah,σ,_=>by unfold Gx;exact hk σ
 |o::l,ah,σ,h=>by
  have ih:∀ ah σ,CL S (Gx ty A all k ah l σ):=fun ah σ=>Kv hk l ah σ fun o ho=>h o (yj _ ho)
  have hd:=h o yk;unfold Gx;split
  ·exact Hi fun p=>aT (ih _ _)
  ·rename_i d _ hdd
   split
   ·split
    ·split
     ·exact ih _ _
     ·exact Co
    ·exact Co
   ·split
    ·rename_i hb
     exact Hi fun p=>Qo (hd d hdd) (BQ.1 hb) (ih _ _)
    ·exact Co
  ·rename_i d _ hdd
   split
   ·exact Co
   ·split
    ·split
     ·split
      ·split
       ·rename_i hb
        exact Hi fun p=>ij (hd d hdd) (BQ.1 hb) (ih _ _)
       ·exact Co
      ·exact Co
     ·exact Co
    ·exact Co
  ·exact Co
theorem Gs{k:Option (Sg->C)}(hk:∀ k',k=some k'->∀ σ,CL S (k' σ))(σ:Sg):CL S (LX k σ):=by
 cases k with
 |none=>exact TF
 |some k=>exact hk k rfl σ
theorem CZ:∀ (c:AEj) {σ:Sg} {k:Option (Sg->C)},(∀ d∈wrs c,d∈S)->(∀ k',k=some k'->∀ σ,CL S (k' σ))->CL S (Bv ty A c σ k)
 |.skip,σ,k,hw,hk=>Gs hk σ
 |.region _ ops draw,σ,k,hw,hk=>by
  have ho:∀ o∈ops.toList,∀ d,o.dst=some d->d∈S:=fun o ho d hd=>hw d (Z6 hd _ ho)
  unfold Bv;split
  ·exact Kv (fun σ=>Gs hk σ) _ _ _ ho
  ·split
   ·exact TC (Kv (fun σ=>Gs hk σ) _ _ _ ho)
   ·exact Co
 |.seq a b,σ,k,hw,hk=>by
  have h1:∀ d∈wrs a,d∈S:=fun d hd=>hw d (zR _ hd)
  have h2:∀ d∈wrs b,d∈S:=fun d hd=>hw d (zE _ hd)
  exact CZ a (σ:=σ) (k:=some fun σ=>Bv ty A b σ k) h1 fun k' e σ=>by cases e;exact CZ b h2 hk
 |.cond c a b,σ,k,hw,hk=>by
  have h1:∀ d∈wrs a,d∈S:=fun d hd=>hw d (zR _ hd)
  have h2:∀ d∈wrs b,d∈S:=fun d hd=>hw d (zE _ hd)
  unfold Bv;split
  ·split
   ·exact I6 (CZ a h1 fun _ e=>by cases e) (CZ b h2 fun _ e=>by cases e)
   ·rename_i k'
    split
    ·exact OH (I6 (CZ a h1 fun _ e=>by cases e) (CZ b h2 fun _ e=>by cases e)) (hk k' rfl [])
    ·exact I6 (CZ a h1 hk) (CZ b h2 hk)
  ·exact Co
 |.block id a,σ,k,hw,hk=>by
  have h1:∀ d∈wrs a,d∈S:=hw;unfold Bv;split
  ·exact LP (CZ a h1 fun _ e=>by cases e)
  ·rename_i k'
   exact OH (LP (CZ a h1 fun _ e=>by cases e)) (hk k' rfl [])
 |.loop a,σ,k,hw,hk=>by
  have h1:∀ d∈wrs a,d∈S:=hw;have h2:CL S (Bv ty A a [] none):=CZ a h1 fun _ e=>by cases e
  unfold Bv;split
  ·rename_i k hk
   obtain⟨id,o1,o2,r2,W⟩:=SU hk;have hm:∀ d∈k.ws,d∈S/\d<240:=fun d hd=>⟨h1 d (W.ws ▸ hd),W.few d hd⟩
   refine TG hm (hm _ ?_) (fun d hd=>hm d (W.rs d hd)) h2;rw[W.ws,W.code];show _∈JT [o1,o2]++_;simp[JT,W.AHw,W.AID]
  ·exact Mo h2
 |.exit id,σ,k,hw,hk=>TB id
 |.ret,σ,k,hw,hk=>X0
 |.scope a,σ,k,hw,hk=>CZ a (σ:=σ) (k:=k) hw hk
 |.label _,σ,k,hw,hk=>Gs hk σ
 |.rangeFunc _ _ _ _,σ,k,hw,hk=>Co
 |.goto _,σ,k,hw,hk=>Co
 |.refuse _,σ,k,hw,hk=>Co
end
structure Good (ty:TTy)(A:List Nat)(N:Nat)(φ:Phi)(h:Hp)(w:zP)(σ:Sg)(e:Env)(h':Hp)(ψ:Phi)(a:Act)(w':zP):Prop where
 sg:AG2 A σ
 rel:AFp ty ψ nil h' w'
 ar:AR N ψ (AF4 A σ e) a
 evo:Evo φ h w ψ h' w'
section
variable {P:Program}{ty:TTy}{F:AFi}{A:List Nat}{N:Nat}
theorem kG{σ:Sg}(hS:AG2 A σ){e:Env}{t:Nat}{u:IN}(h:AF4 A [] e t=some u):AF4 A σ e t=some u:=by
 rw[Ec]at h ⊢;have h:(match memN t A with|true=>none|false=>match zm t 240 with|true=>some (J t e)|false=>none)=some u:=h;cases hf:Df t σ with
 |some s=>
  have:=hS.mem _ (Em hf);simp only at this;rw[this]at h;cases h
 |none=>exact h
theorem AR.nil{φ:Phi}{σ:Sg}{e:Env}{a:Act}(hS:AG2 A σ)(h:AR N φ (AF4 A σ e) a):AR N φ (AF4 A [] e) a:=⟨h.size,h.defs,fun t u hu=>h.rel t u (kG hS hu)⟩
theorem Good.nil{φ ψ:Phi}{h h':Hp}{w w':zP}{σ:Sg}{e:Env}{a:Act}(g:Good ty A N φ h w σ e h' ψ a w'):Good ty A N φ h w [] e h' ψ a w':=⟨.nil A,g.rel,g.ar.nil g.sg,g.evo⟩
theorem Good.trans{φ ψ χ:Phi}{h h' h2:Hp}{w w' w2:zP}{σ σ2:Sg}{e e2:Env}{a a2:Act}(g:Good ty A N φ h w σ e h' ψ a w')(g2:Good ty A N ψ h' w' σ2 e2 h2 χ a2 w2):Good ty A N φ h w σ2 e2 h2 χ a2 w2:=
 ⟨g2.sg,g2.rel,g2.ar,g.evo.trans g2.evo⟩
structure Post (ty:TTy)(A:List Nat)(N:Nat)(F:AFi)(φ:Phi)(h:Hp)(w:zP)(k:Option (Sg->C))(X:X)(Q:Exit->Act->zP->Prop):Prop where
 go:∀ k',k=some k'->∀ σ e h' ψ a' w',Good ty A N φ h w σ e h' ψ a' w'->k' σ F e h'=X->Q .normal a' w'
 norm:k=none->∀ e h' ψ a' w',Good ty A N φ h w [] e h' ψ a' w'->X=.norm e h'->Q .normal a' w'
 exit:∀ id e h' ψ a' w',Good ty A N φ h w [] e h' ψ a' w'->X=.exit id e h'->Q (.exit id) a' w'
 ret:∀ e h' ψ a' w',Good ty A N φ h w [] e h' ψ a' w'->X=.ret e h'->Q .ret a' w'
theorem Post.then{φ:Phi}{h:Hp}{w:zP}{k:Option (Sg->C)}{X:X}{Q:Exit->Act->zP->Prop}(p:Post ty A N F φ h w k X Q){σ:Sg}{e:Env}{h':Hp}{ψ:Phi}{a':Act}{w':zP}(g:Good ty A N φ h w σ e h' ψ a' w')(hx:LX k σ F e h'=X):Q .normal a' w':=by
 cases k with
 |none=>exact p.norm rfl e h' ψ a' w' g.nil hx.symm
 |some k'=>exact p.go k' rfl σ e h' ψ a' w' g hx
theorem az{w:zP}{pb mb clk:Nat}{seen:List Nat}{es:List zn}{t:TypeId}(hw:w.heap[pb]? =some (.mapIter (some mb) clk ⟨seen⟩ clk))(hm:w.heap[mb]? =some (.map ⟨es⟩ clk))(hb:∀ x∈es,x.born<clk):
  ((∀ x∈es,x.born∈seen)/\(AAZ (.pointer (some ⟨pb,0,none⟩)) false t).run P w=.ok (.tuple #[.bool false]) w)\/
  ∃ x∈es,x.born∉seen/\∃ w1:zP,w1.heap=w.heap/\w1.tape=w.tape/\w1.os=w.os/\w1.output=w.output/\
   (AAZ (.pointer (some ⟨pb,0,none⟩)) false t).run P w=.ok (.tuple #[.bool true,x.key,x.val]) {w1 with heap:=w1.heap.setIfInBounds pb (.mapIter (some mb) clk ⟨seen++[x.born]⟩ clk)}:=by
 have hstop:(!(⟨seen⟩:Array Nat).isEmpty && !(⟨es⟩:Array zn).isEmpty && (⟨es⟩:Array zn).all (fun e=>decide (e.born>=clk)))=false:=by
  cases es with
  |nil=>simp
  |cons x l=>
   have:=hb x yk;simp[Nat.not_le.2 this]
 generalize hl:es.filter (fun e=> !seen.contains e.born)=left;have hmem:∀ x∈left,x∈es/\x.born∉seen:=fun x hx=>by
  rw[<- hl,zQ]at hx;exact⟨hx.1,by simpa using hx.2⟩
 have hlt:∀ x∈left,x.born<clk:=fun x hx=>hb x (hmem x hx).1
 have f1:(⟨es⟩:Array zn).filter (fun e=> !(⟨seen⟩:Array Nat).contains e.born)=⟨left⟩:=by
  rw[<- hl];apply zz;simp
 have f2:(⟨left⟩:Array zn).filter (fun e=>decide (e.born<clk))=⟨left⟩:=by
  apply zz;rw[ACJ];exact List.filter_eq_self.2 fun x hx=>by simpa using hlt x hx
 have f3:(⟨left⟩:Array zn).filter (fun e=>decide (e.born>=clk))= #[]:=by
  apply zz;rw[ACJ];exact List.filter_eq_nil_iff.2 fun x hx=>by simpa using hlt x hx
 cases hc:left with
 |nil=>
  left;refine⟨fun x hx=>?_,?_⟩
  ·by_cases hs:x.born∈seen
   ·exact hs
   ·have:x∈left:=by rw[<- hl,zQ];exact⟨hx,by simpa using hs⟩
    rw[hc]at this;cases this
  ·subst hc
   simp only[AAZ,ym,CI hw rfl,ye,CI hm rfl,hstop,zT,if_false,f1,f2,f3];simp[run_choose,ABi]
 |cons y ys=>
  right;have hpos:0<left.length:=by rw[hc];simp
  have hne:(⟨left⟩:Array zn).isEmpty=false:=by rw[hc];simp
  have key:∀ (i:Nat) (hi:i<left.length) (w1:zP),(choose (.mapNext left.length)).run P w=.ok i w1->w1.heap=w.heap->
    (AAZ (.pointer (some ⟨pb,0,none⟩)) false t).run P w=.ok (.tuple #[.bool true,(left[i]).key,(left[i]).val]) {w1 with heap:=w1.heap.setIfInBounds pb (.mapIter (some mb) clk ⟨seen++[(left[i]).born]⟩ clk)}:=by
   intro i hi w1 hch hh;have AJU:((#[]:Array (Option zn))++((⟨left⟩:Array zn)++ #[]).map some)[i]? =some (some left[i]):=by
    simp[sh hi]
   have hsz:((#[]:Array (Option zn))++((⟨left⟩:Array zn)++ #[]).map some).size=left.length:=by simp
   have AGJ:=Fo (P:=P) (w:=w1) (ob':=.mapIter (some mb) clk ⟨seen++[(left[i]).born]⟩ clk) (by rw[hh];exact hw) rfl;simp only[AAZ,ym,CI hw rfl,ye,CI hm rfl,hstop,zT,if_false,f1,f2,f3,hne,hsz,hch,AJU];have AH4:(⟨seen⟩:Array Nat).push (left[i]).born=⟨seen++[(left[i]).born]⟩:=by apply zz;simp
   rw[AH4,AGJ];simp
  have pick:∀ (i:Nat) (hi:i<left.length) (w1:zP),(choose (.mapNext left.length)).run P w=.ok i w1->w1.heap=w.heap->w1.tape=w.tape->w1.os=w.os->w1.output=w.output->
    ∃ x∈es,x.born∉seen/\∃ w1:zP,w1.heap=w.heap/\w1.tape=w.tape/\w1.os=w.os/\w1.output=w.output/\
     (AAZ (.pointer (some ⟨pb,0,none⟩)) false t).run P w=.ok (.tuple #[.bool true,x.key,x.val]) {w1 with heap:=w1.heap.setIfInBounds pb (.mapIter (some mb) clk ⟨seen++[x.born]⟩ clk)}:=by
   intro i hi w1 hch h1 h2 h3 h4;have:=hmem left[i] (List.getElem_mem hi);exact⟨left[i],this.1,this.2,w1,h1,h2,h3,h4,key i hi w1 hch h1⟩
  by_cases hf:left.length<=1
  ·exact pick 0 hpos w (by rw[run_choose];simp[ABi,hf]) rfl rfl rfl rfl
  ·exact pick (w.tape w.drawn (.mapNext left.length) % left.length) (Nat.mod_lt _ hpos) {w with drawn:=w.drawn+1} (by rw[run_choose];simp[ABi,hf,Question.cut]) rfl rfl rfl rfl
theorem KH{o:AAv}(h:o.guard=none)(f:Nat->Option Bool):ACG o f=true:=by
 unfold ACG;rw[h]
theorem kE(a:Act)(d:Nat)(v:IN)(t:Nat):(a.put (some d) v).eval (.tmp t)=if d=t/\t<a.tmps.size then v else a.eval (.tmp t):=by
 show(a.put (some d) v).tmps.getD t undef=_;rw[Hu];by_cases h:d=t
 ·subst h;simp[Act.eval]
 ·rw[if_neg (fun h2=>h (Option.some.inj h2.1)),if_neg (fun h2=>h h2.1)];rfl
theorem Yi{k:Walk}{a0:AEj}{id:Nat}{o1 o2:AAv}{r2:AEj}(W:AG5 A a0 k id o1 o2 r2){a:Act}{w:zP}{pb mb clk:Nat}{seen:List Nat}{es:List zn}
  (hit:a.eval (.tmp k.it)=.pointer (some ⟨pb,0,none⟩))(hnx:k.nx<a.tmps.size)(hw:w.heap[pb]? =some (.mapIter (some mb) clk ⟨seen⟩ clk))(hm:w.heap[mb]? =some (.map ⟨es⟩ clk))(hb:∀ x∈es,x.born<clk)
  {Q:Exit->Act->zP->Prop}(AJV:(∀ x∈es,x.born∈seen)->Q .normal ((a.put (some k.nx) (.tuple #[.bool false])).put (some k.more) (.bool false)) w)
  (hgo:∀ x∈es,x.born∉seen->∀ w1:zP,w1.heap=w.heap.setIfInBounds pb (.mapIter (some mb) clk ⟨seen++[x.born]⟩ clk)->w1.tape=w.tape->w1.os=w.os->w1.output=w.output->
   Q .normal ((a.put (some k.nx) (.tuple #[.bool true,x.key,x.val])).put (some k.more) (.bool true)) w1):
  (AFD id #[o1,o2] false).wp P Q a w:=by
 refine wp_region_list ?_;have hx1:execOp a.eval o1=(do pure (.value (<- AAZ (a.eval (.tmp k.it)) false o1.type))):=by unfold execOp;rw[W.op1]
 have two:∀ (c:Bool) (vs:Array IN) (w1:zP),Q .normal ((a.put (some k.nx) (.tuple (#[.bool c]++vs))).put (some k.more) (.bool c)) w1->wpList P #[o1,o2] Q [o2] (a.put (some k.nx) (.tuple (#[.bool c]++vs))) w1:=by
  intro c vs w1 hq;unfold wpList;rw[if_pos (KH W.AJT _)];refine .inl ?_;have hx2:execOp (a.put (some k.nx) (.tuple (#[.bool c]++vs))).eval o2=(do pure (.value (<- ACR ((a.put (some k.nx) (.tuple (#[.bool c]++vs))).eval (.tmp k.nx)) 0))):=by unfold execOp;rw[W.op2]
  unfold Oper.wp;rw[hx2,kE,if_pos ⟨rfl,hnx⟩];have hex:(ACR (.tuple (#[.bool c]++vs)) 0).run P w1=.ok (.bool c) w1:=by
   have h0:(#[Value.bool c]++vs)[0]? =some (.bool c):=by simp[Array.getElem?_append]
   simp only[ACR,h0,yn]
  rw[ym,hex,ye,yn,ACj,W.AID];exact hq
 show wpList P #[o1,o2] Q [o1,o2] a w;rw[show wpList P #[o1,o2] Q [o1,o2] a w=(if ACG o1 (yielded #[o1,o2] a.tmps)then o1.wp P a w (wpList P #[o1,o2] Q [o2]) Q\/(o1.asks P a w/\LetsOut Q)else wpList P #[o1,o2] Q [o2] (a.put o1.dst undef) w)from rfl];rw[if_pos (KH W.AJS _)];refine .inl ?_;unfold Oper.wp;rw[hx1,hit];rcases az (P:=P) (t:=o1.type) hw hm hb with ⟨hall,hrun⟩|⟨x,hx,hns,w1,e1,e2,e3,e4,hrun⟩
 ·rw[ym,hrun,ye,yn,ACj,W.AHw]
  exact two false #[] w (AJV hall)
 ·rw[ym,hrun,ye,yn,ACj,W.AHw]
  exact two true #[x.key,x.val] _ (hgo x hx hns _ (by rw[e1]) e2 e3 e4)
theorem JI{φ:Phi}{e:Env}{a:Act}:AR N φ (AF4 A [] e) a↔a.tmps.size=N/\a.defers=[]/\∀ t,t<240->memN t A=false->AFm φ (e.get t) (a.tmps.getD t undef):=by
 have hr:∀ t u,AF4 A [] e t=some u↔(memN t A=false/\t<240/\e.get t=u):=fun t u=>by
  rw[Ec];show(match memN t A with|true=>none|false=>match zm t 240 with|true=>some (J t e)|false=>none)=some u↔_;cases memN t A with
  |true=>simp
  |false=>
   cases hb:zm t 240 with
   |true=>
    have:=BQ.1 hb;simp only[DD t this,Option.some.injEq,true_and,this]
   |false=>
    have:¬ t<240:=fun h=>by rw[BQ.2 h]at hb;cases hb
    simp[this]
 constructor
 ·exact fun h=>⟨h.size,h.defs,fun t ht hA=>h.rel t _ ((hr t _).2 ⟨hA,ht,rfl⟩)⟩
 ·exact fun⟨h1,h2,h3⟩=>⟨h1,h2,fun t u hu=>by obtain⟨q1,q2,rfl⟩:=(hr t u).1 hu;exact h3 t q2 q1⟩
theorem It:∀ (l:List Nat) (e:Env) (t:Nat),(∀ d∈l,d<240)->t<240->(C6 e l).get t=if t∈l then .chan none else e.get t
 |[],e,t,_,_=>by simp[C6]
 |d::l,e,t,hl,ht=>by
  unfold C6;rw[It l _ t (fun d hd=>hl d (yj _ hd)) ht,Env.AFy _ _ _ _ (hl d yk) ht];by_cases h1:t∈l
  ·simp[h1]
  ·by_cases h2:t=d
   ·simp[h1,h2]
   ·simp[h1,h2]
theorem JD{clk:Nat}:∀ {es:List Ent} {lo:Nat},FP clk lo es=true->∀ x∈es,lo<=x.born/\x.born<clk
 |e::l,lo,h,x,hx=>by
  unfold FP at h;obtain⟨h1,h⟩:=E4 h;obtain⟨h2,h⟩:=E4 h;have h1:=Av.1 h1;have h2:=BQ.1 h2;rcases yv.1 hx with rfl|hx
  ·exact⟨h1,h2⟩
  ·have:=JD h x hx
   have h3:e.born+1<=x.born:=this.1;exact⟨by omega,this.2⟩
theorem PW{φ:Phi}:∀ {es:List Ent} {es':List zn} {x':zn},AGi φ es es'->x'∈es'->∃ x∈es,x.born=x'.born
 |_,_,x',.cons (k:=k) (v:=v) (b:=b) hk hv t,hx=>by
  rcases yv.1 hx with rfl|hx
  ·exact⟨⟨k,v,b⟩,yk,rfl⟩
  ·obtain⟨x,h1,h2⟩:=PW t hx
   exact⟨x,yj _ h1,h2⟩
theorem RZ{φ:Phi}{clk:Nat}:∀ {es:List Ent} {es':List zn} {lo:Nat} {x':zn},AGi φ es es'->FP clk lo es=true->x'∈es'->∃ x,GU x'.born es=some x/\AFm φ x.key x'.key/\AFm φ x.val x'.val
 |_,_,lo,x',.cons (k:=k) (v:=v) (b:=b) (l:=l) hk hv t,hr,hx=>by
  unfold GU;rcases yv.1 hx with rfl|hx
  ·rw[AAQ];exact⟨_,rfl,hk,hv⟩
  ·unfold FP at hr
   obtain⟨_,hr⟩:=E4 hr;obtain⟨_,hr⟩:=E4 hr;obtain⟨y,hy,he⟩:=PW t hx;have h3:b+1<=y.born:=(JD hr y hy).1;have hb:yu b x'.born=false:=by
    cases hb:yu b x'.born with
    |false=>rfl
    |true=>have:=Ay.1 hb;omega
   rw[hb];exact RZ t hr hx
theorem dK{k:Walk}{a0:AEj}{id:Nat}{o1 o2:AAv}{r2:AEj}(W:AG5 A a0 k id o1 o2 r2):
  Bv ty A a0 [] none=SZ (FI k.nx) (HN (J k.it)) (SZ (FI k.more) (AY 0 (J k.nx)) (Bv ty A (.seq (.cond (.tmp k.more) .skip (.exit k.out)) r2) [] none)):=by
 have hA:∀ t,memN t A=false->t<240->cO ⟨A,[]⟩ (.tmp t)=some (J t):=fun t h1 h2=>by
  show(match PY A [] (.tmp t)with|some s=>some (Li s)|none=>none)=_;show(match (match memN t A with|true=>none|false=>match zm t 240 with|true=>some (Src.s t)|false=>none)with|some s=>some (Li s)|none=>none)=_;rw[h1,BQ.2 h2];rfl
 rw[W.code];show Bv ty A (.region id #[o1,o2] false) [] (some fun σ=>Bv ty A (.seq (.cond (.tmp k.more) .skip (.exit k.out)) r2) σ none)=_;show Gx ty A [o1,o2] (LX (some fun σ=>Bv ty A (.seq (.cond (.tmp k.more) .skip (.exit k.out)) r2) σ none)) [] [o1,o2] []=_;unfold Gx;rw[W.AJS,W.AHw];simp only[W.nxA,BQ.2 W.nxL];unfold Gx;rw[W.AJT,W.AID];simp only[W.moA,BQ.2 W.moL];have e1:opC ty ⟨A,[]⟩ o1.op=HN (J k.it):=by
  rw[W.op1];show w1 ⟨A,[]⟩ (.tmp k.it) (fun x=>HN x)=_;unfold w1;rw[hA _ W.itA W.itL]
 have e2:opC ty ⟨A,F4 k.nx []⟩ o2.op=AY 0 (J k.nx):=by
  rw[W.op2];show w1 ⟨A,[]⟩ (.tmp k.nx) (fun t=>AY 0 t)=_;unfold w1;rw[hA _ W.nxA W.nxL]
 rw[e1,e2];rfl
theorem ZO{t:(Env->X)->IN->Env->X}{f:OpF}{k:C}{e:Env}{h h':Hp}{v:IN}(hf:f F e h=.ok v h'):SZ t f k F e h=t (fun e=>k F e h') v e:=by
 unfold SZ;rw[hf]
theorem o7{t:(Env->X)->IN->Env->X}{f:OpF}{k:C}{e:Env}{h:Hp}(hf:f F e h=.no):SZ t f k F e h=.no:=by
 unfold SZ;rw[hf]
theorem j8{k:Walk}{a0:AEj}{id:Nat}{o1 o2:AAv}{r2:AEj}(W:AG5 A a0 k id o1 o2 r2){e:Env}{h:Hp}{ad:Addr}{m s last c lo hi mk:Nat}{es:List Ent}{x:Ent}{bl:BT}{sn:Option (List Nat)}{Y:Go.Proofs.YtbjadbhkogcfeaaGreat.X}
  (hit:J k.it e=.pointer (some ad))(hoff:yu ad.off 0=true)(hm:Bk h m=.ok es c)(hmb:m≠ad.block)(hx:GU s es=some x)(hbl:h.bl.set ad.block (.pick m s last sn)=some bl)
  (hr:Bv ty A a0 [] none F e {next:=h.next,low:=lo,high:=hi,mark:=mk,bl:=bl}=Y)(hn:Y≠.no):
  ∃ bl',bl.set ad.block (M8 m s last sn)=some bl'/\
   Bv ty A (.seq (.cond (.tmp k.more) .skip (.exit k.out)) r2) [] none F (Env.set k.more (.bool true) (Env.set k.nx (.tuple ⟨[.bool true,x.key,x.val]⟩) e)) {next:=h.next,low:=lo,high:=hi,mark:=mk,bl:=bl'}=Y:=by
 rw[dK W]at hr;have hb:bl.get ad.block=.pick m s last sn:=by rw[BT.AFy _ _ _ _ hbl,if_pos rfl]
 have hme:Bk ({next:=h.next,low:=lo,high:=hi,mark:=mk,bl:=bl}:Hp) m=.ok es c:=by
  show iJ (bl.get m)=_;rw[BT.AFy _ _ _ _ hbl,if_neg hmb];exact hm
 have hnx:HN (J k.it) F e {next:=h.next,low:=lo,high:=hi,mark:=mk,bl:=bl}=match bl.set ad.block (M8 m s last sn)with
   |some bl'=>.ok (.tuple ⟨[.bool true,x.key,x.val]⟩) {next:=h.next,low:=lo,high:=hi,mark:=mk,bl:=bl'}
   |none=>.no:=by
  unfold HN;rw[hit];show(bif yu ad.off 0 then Gd ad _ else .no)=_;rw[hoff];show Gd ad _=_;unfold Gd;simp only;rw[hb];show(match Bk ({next:=h.next,low:=lo,high:=hi,mark:=mk,bl:=bl}:Hp) m with|.ok es _=>_|.no=>_)=_;rw[hme];simp only[hx];cases bl.set ad.block (M8 m s last sn)<;>rfl
 cases hs:bl.set ad.block (M8 m s last sn)with
 |none=>
  rw[hs]at hnx;rw[o7 hnx]at hr;exact absurd hr.symm hn
 |some bl'=>
  refine⟨bl',rfl,?_⟩;rw[hs]at hnx;rw[<- hr];have hex:AY 0 (J k.nx) F (Env.set k.nx (.tuple ⟨[.bool true,x.key,x.val]⟩) e) {next:=h.next,low:=lo,high:=hi,mark:=mk,bl:=bl'}=.ok (.bool true) {next:=h.next,low:=lo,high:=hi,mark:=mk,bl:=bl'}:=by
   unfold AY;rw[DD _ W.nxL,Env.AFy _ _ _ _ W.nxL W.nxL,if_pos rfl];rfl
  symm
  rw[ZO hnx,EA _ W.nxL,ZO hex,EA _ W.moL]
structure Rd (A:List Nat)(N:Nat)(φ:Phi)(ws:List Nat)(e:Env)(w:zP)(pb qb c:Nat)(seen:List Nat)(ak:Act)(wk:zP):Prop where
 size:ak.tmps.size=N
 defs:ak.defers=[]
 slots:∀ t,t<240->memN t A=false->t∉ws->AFm φ (e.get t) (ak.tmps.getD t undef)
 grow:w.heap.size<=wk.heap.size
 same:∀ j,j<w.heap.size->j≠pb->wk.heap[j]? =w.heap[j]?
 tape:wk.tape=w.tape
 os:wk.os=w.os
 output:wk.output=w.output
 iter:wk.heap[pb]? =some (.mapIter (some qb) c ⟨seen⟩ c)
theorem Re{φ:Phi}:∀ {es:List Ent} {es':List zn} {x:Ent},AGi φ es es'->x∈es->∃ x'∈es',x'.born=x.born
 |_,_,x,.cons (k':=k) (v':=v) (b:=b) hk hv t,hx=>by
  rcases yv.1 hx with rfl|hx
  ·exact⟨⟨k,v,b⟩,yk,rfl⟩
  ·obtain⟨x,h1,h2⟩:=Re t hx
   exact⟨x,yj _ h1,h2⟩
theorem Kk{n:Nat}:∀ {es:List Ent} {x:Ent},GU n es=some x->x∈es/\x.born=n
 |y::l,x,h=>by
  unfold GU at h;cases hb:yu y.born n with
  |true=>rw[hb]at h;cases h;exact⟨yk,Ay.1 hb⟩
  |false=>
   rw[hb]at h;obtain⟨h1,h2⟩:=Kk h;exact⟨yj _ h1,h2⟩
theorem vr{b:Bool}{Y X:Go.Proofs.YtbjadbhkogcfeaaGreat.X}(h:(bif b then Y else .no)=X)(hn:X≠.no):b=true/\Y=X:=by
 cases b with
 |false=>exact absurd h.symm hn
 |true=>exact⟨rfl,h⟩
theorem Rr{seen:List Nat}:∀ {es:List Ent},(∀ x∈es,x.born∈seen)->AGH seen es=[]
 |[],_=>rfl
 |x::l,h=>by
  unfold AGH;rw[Lu,show seen.contains x.born=true by simpa using h x yk];exact Rr fun y hy=>h y (yj _ hy)
theorem NE{seen:List Nat}:∀ {es:List Ent} {x:Ent},x∈es->x.born∉seen->x∈AGH seen es
 |y::l,x,hx,hn=>by
  unfold AGH;rcases yv.1 hx with rfl|hx
  ·rw[Lu,show seen.contains x.born=false by simpa using hn]
   exact yk
  ·have ih:=NE hx hn
   cases Fw y.born seen with
   |true=>exact ih
   |false=>exact yj _ ih
theorem MD{f:Ent->Bool}:∀ {l:List Ent},Pp f l=true->∀ x∈l,f x=true
 |[],_,x,hx=>by cases hx
 |y::l,h,x,hx=>by
  obtain⟨h1,h2⟩:=E4 h;rcases yv.1 hx with rfl|hx
  ·exact h1
  ·exact MD h2 x hx
theorem AFp.one{φ:Phi}{h:Hp}{w w':zP}{b:Nat}{pb:Pl}{o:Blk}{bl:BT}(H:AFp ty φ nil h w)(hpb:φ b=some pb)(hin:pb.inp=false)(AGV:Live h b)(hbl:∀ i,bl.get i=if i=b then o else h.bl.get i)
  (hs:w.heap.size<=w'.heap.size)(hsame:∀ j,j<w.heap.size->j≠pb.blk->w'.heap[j]? =w.heap[j]?)(hB:AGe ty φ pb o w'.heap[pb.blk]?)(hoc:∀ cc s el,o≠.cells cc s el)(lo hi mk:Nat):
  AFp ty φ nil {next:=h.next,low:=lo,high:=hi,mark:=mk,bl:=bl} w' where
 dom:=fun i p hp=>⟨(H.dom i p hp).1,Nat.lt_of_lt_of_le (H.dom i p hp).2 hs⟩
 inj:=fun i j p q hp hq _ _ hi hj hio hpq=>by
  have lv:∀ i,bl.get i≠.dead->Live h i:=fun i hi=>by
   by_cases hib:i=b
   ·rw[hib];exact AGV
   ·rw[hbl,if_neg hib]at hi;exact hi
  exact H.inj i j p q hp hq (fun h=>h) (fun h=>h) (lv i hi) (lv j hj) hio hpq
 row:=fun i p hp _=>by
  show AGe ty φ p (bl.get i) _;rw[hbl];by_cases hib:i=b
  ·rw[if_pos hib]
   subst hib;rw[hpb]at hp;cases hp;exact hB
  ·rw[if_neg hib]
   by_cases hdd:h.bl.get i=.dead
   ·rw[hdd];exact .dead
   ·rw[hsame p.blk (H.dom i p hp).2 (fun hb=>hib (H.inj i b p pb hp hpb (fun h=>h) (fun h=>h) hdd AGV (.inr hin) hb))]
    exact H.row i p hp (fun h=>h)
 fresh:=fun i hi=>by
  have hi:h.next<=i:=hi;show bl.get i=_;have:=(H.dom _ _ hpb).1;rw[hbl,if_neg (by omega)];exact H.fresh i hi
 kind:=fun i p cc s el hp he=>by
  have he:bl.get i=.cells cc s el:=he;rw[hbl]at he;by_cases hib:i=b
  ·rw[if_pos hib]at he;exact absurd he (hoc _ _ _)
  ·rw[if_neg hib]at he;exact H.kind i p cc s el hp he
 inp:=H.inp
theorem Evo.one{φ:Phi}{h:Hp}{w w':zP}{b:Nat}{pb:Pl}{o:Blk}{bl:BT}(hpb:φ b=some pb)(hin:pb.inp=false)(AGV:Live h b)(hbl:∀ i,bl.get i=if i=b then o else h.bl.get i)
  (hs:w.heap.size<=w'.heap.size)(hsame:∀ j,j<w.heap.size->j≠pb.blk->w'.heap[j]? =w.heap[j]?)(ht:w'.tape=w.tape)(hos:w'.os=w.os)(hou:w'.output=w.output)(ho:AF2 (h.bl.get b) o)(mk:Nat):
  Evo φ h w φ {next:=h.next,low:=B9 h.low b,high:=Cy h.high b,mark:=mk,bl:=bl} w' where
 le:=.refl φ
 new:=fun _ _ e=>.inl e
 next:=IT _
 size:=hs
 tape:=ht
 os:=hos
 output:=hou
 frame:=fun j hj hf=>hsame j hj fun hjp=>hf b pb hpb hin (by show B9 _ _<=_;rw[BZ];exact Nat.min_le_right _ _) (by show _<=Cy _ _;rw[B7];exact Nat.le_max_right _ _) AGV hjp.symm
 back:=fun i p hp hl _=>by
  refine⟨i,p,hp,?_,rfl,rfl,.inl rfl⟩;by_cases hib:i=b
  ·rw[hib];exact AGV
  ·have hl:bl.get i≠.dead:=hl
   rw[hbl,if_neg hib]at hl;exact hl
 kept:=fun i _ hi=>by
  show bl.get i=_;have hi:i<B9 h.low b\/Cy h.high b<i:=hi;rw[BZ,B7]at hi;rw[hbl,if_neg (by omega)]
 low:=by show B9 _ _<=_;rw[BZ];exact AB8 _ _
 high:=by show _<=Cy _ _;rw[B7];exact ADT _ _
 shape:=fun i _=>by
  show AF2 _ (bl.get i);rw[hbl];by_cases hib:i=b
  ·rw[if_pos hib,hib];exact ho
  ·rw[if_neg hib];exact .refl _
 only:=fun i _ h0=>by
  show bl.get i=_;rw[hbl,if_neg (fun e=>by rw[e,hpb]at h0;cases h0)]
 all:=fun _ h1 h2=>absurd h2 (Nat.not_lt.2 h1)
theorem iL{k:Walk}{a0:AEj}{id:Nat}{o1 o2:AAv}{r2:AEj}(W:AG5 A a0 k id o1 o2 r2)(hd:k.nx<N/\k.more<N)
  (ih:∀ {e:Env} {h:Hp} {X:Go.Proofs.YtbjadbhkogcfeaaGreat.X},Bv ty A (.seq (.cond (.tmp k.more) .skip (.exit k.out)) r2) [] none F e h=X->X≠.no->∀ (φ:Phi) (w:zP) (a:Act),AFp ty φ nil h w->AR N φ (AF4 A [] e) a->∀ (Q:Exit->Act->zP->Prop),Post ty A N F φ h w none X Q->(ADs (.cond (.tmp k.more) .skip (.exit k.out)) r2).wp P Q a w)
  {e:Env}{ad:Addr}(hit:J k.it e=.pointer (some ad))(hoff:yu ad.off 0=true)(AFs:256<=ad.block){φ0:Phi}{hr:Hp}{w0:zP}{a:Act}(AG6:∀ t,t<240->memN t A=false->AFm φ0 (e.get t) (a.tmps.getD t undef))
  {fin:Hp->Rds->Bool}{Q:Exit->Act->zP->Prop}
  (AK9:∀ (hk:Hp) (tr:Rds) (φk:Phi) (wk:zP),AFp ty φk nil hk wk->Evo φ0 hr w0 φk hk wk->(∃ pb,φk ad.block=some pb)->Live hk ad.block->fin hk tr=true->∀ ak:Act,ak.tmps.size=N->ak.defers=[]->
   (∀ t,t<240->memN t A=false->t∉k.ws->AFm φ0 (e.get t) (ak.tmps.getD t undef))->ak.tmps.getD k.more undef=.bool false->Q (.exit k.out) ak wk):
  ∀ (n:Nat) (hk:Hp) (tr:Rds) (φk:Phi) (wk:zP) (ak:Act),AFp ty φk nil hk wk->Evo φ0 hr w0 φk hk wk->ak.tmps.size=N->ak.defers=[]->
   (∀ t,t<240->memN t A=false->t∉k.ws->AFm φ0 (e.get t) (ak.tmps.getD t undef))->LL k (Bv ty A a0 [] none) F e ad.block fin n hk tr=true->ADl P a0 Q n ak wk:=by
 intro n
 induction n with
 |zero=>intro hk tr φk wk ak _ _ _ _ _ hx;cases hx
 |succ n ihn=>
 intro hk tr φk wk ak H E hsz hdf hsl hx;unfold LL N8 at hx;cases AHU:EU (hk.bl.get ad.block)with
 |no=>rw[AHU]at hx;cases hx
 |cur _ _ _=>rw[AHU]at hx;cases hx
 |pick _ _ _ _=>rw[AHU]at hx;cases hx
 |ok m' since seen last=>
 rw[AHU]at hx;cases m' with
 |none=>cases hx
 |some m=>
 simp only at hx;cases AHV:Bk hk m with
 |no=>rw[AHV]at hx;cases hx
 |ok es c=>
 rw[AHV]at hx;simp only at hx;obtain⟨AIN,hx1⟩:=E4 hx;obtain⟨AKG,hx2⟩:=E4 hx1;obtain⟨hris,hx3⟩:=E4 hx2;clear hx hx1 hx2;have hcs:=Ay.1 AIN;have hcl:=Ay.1 AKG;clear AIN AKG;subst hcs;subst hcl;have hx:=hx3;clear hx3;have hbi:=IH AHU;have AIe:=AG6 k.it W.itL W.itA;rw[<- DD k.it W.itL,hit]at AIe;obtain⟨ad',ALA,hra⟩:=AIe.AGl;obtain⟨pb,AI2,rfl⟩:=hra.eq;have hpb:=E.le _ _ AI2;have AJW:ad.off=0:=Ay.1 hoff;have hrow:=H.row ad.block pb hpb (fun h=>h);rw[hbi]at hrow;obtain⟨q,hp0,hq,hwi⟩:∃ q,pb.off=0/\φk m=some q/\wk.heap[pb.blk]? =some (.mapIter (some q.blk) c ⟨seen⟩ c):=by
  generalize wk.heap[pb.blk]? =ob at hrow;cases hrow with
  |iter h1 h2=>exact⟨_,h1,h2,rfl⟩
 obtain⟨es',hwm,AGK⟩:=H.AGv hq (fun h=>h) AHV;have hmb:m≠ad.block:=fun h=>by
  have:=ID AHV;rw[h,hbi]at this;cases this
 have hin:=H.AGj hpb AFs;have AGV:Live hk ad.block:=by unfold Live;rw[hbi];intro h;cases h
 have ALB:=(H.dom _ _ hpb).2;have AJX:∀ x∈es',x.born<c:=fun x hx=>by
  obtain⟨y,hy,he⟩:=PW AGK hx;rw[<- he];exact(JD hris y hy).2
 have hkeep:CL k.ws (Bv ty A (.seq (.cond (.tmp k.more) .skip (.exit k.out)) r2) [] none):=CZ _ (fun d hd=>by
  rw[W.ws,W.code];exact zE _ hd) (fun _ h=>by cases h)
 have AKH:k.nx∈k.ws:=by rw[W.ws,W.code];show _∈JT [o1,o2]++_;simp[JT,W.AHw,W.AID]
 have AKI:k.more∈k.ws:=by rw[W.ws,W.code];show _∈JT [o1,o2]++_;simp[JT,W.AHw,W.AID]
 have hcg:∀ t,t<240->(C6 e k.ws).get t=if t∈k.ws then .chan none else e.get t:=fun t ht=>It _ _ _ W.few ht
 have AHG:∀ {ψ:Phi} {v v' v'':IN},φ0.Le ψ->AFm ψ v v'->AFm φ0 v v''->AFm φ0 v v':=fun {ψ v v' v''} hle h1 h2=>AFm.cut (χ:=φ0) (fun b p hp ⟨q,hq⟩=>by
  have:=hle b q hq;rw[hp]at this;cases this;exact hq) h1 h2
 have AJY:ak.eval (.tmp k.it)=.pointer (some ⟨pb.blk,0,none⟩):=by
  have h1:=hsl k.it W.itL W.itA W.itW;rw[<- DD k.it W.itL,hit]at h1;obtain⟨a2,ha2,hr2⟩:=h1.AGl;obtain⟨p2,hp2,rfl⟩:=hr2.eq;rw[AI2]at hp2;cases hp2;show ak.tmps.getD k.it undef=_;rw[ha2,hp0,AJW]
 have AI3:∀ (v1 v2:IN) (t:Nat),t<240->((ak.put (some k.nx) v1).put (some k.more) v2).tmps.getD t undef=if t=k.more then v2 else if t=k.nx then v1 else ak.tmps.getD t undef:=fun v1 v2 t ht=>by
  rw[Hu,Fl,Hu];by_cases h1:t=k.more
  ·rw[if_pos ⟨by rw[h1],by rw[h1,hsz];exact hd.2⟩,if_pos h1]
  ·rw[if_neg (fun h=>h1 (Option.some.inj h.1).symm),if_neg h1]
   by_cases h2:t=k.nx
   ·rw[if_pos ⟨by rw[h2],by rw[h2,hsz];exact hd.1⟩,if_pos h2]
   ·rw[if_neg (fun h=>h2 (Option.some.inj h.1).symm),if_neg h2]
 show a0.wp P (Exit.then (ADl P a0 Q n) Q) ak wk;generalize hK:ADl P a0 Q n=K;rw[W.code];refine wp_seq (Yi W (pb:=pb.blk) (mb:=q.blk) (clk:=c) (seen:=seen) (es:=es') AJY (by rw[hsz];exact hd.1) hwi hwm AJX (fun hall=>?_) (fun x' hx' hns w1 e1 e2' e3 e4=>?_))
 ·
  show(ADs (.cond (.tmp k.more) .skip (.exit k.out)) r2).wp P (Exit.then K Q) ((ak.put (some k.nx) (.tuple #[.bool false])).put (some k.more) (.bool false)) wk;refine wp_seq (wp_cond_false ?_ (wp_exit ?_))
  ·show((ak.put (some k.nx) (.tuple #[.bool false])).put (some k.more) (.bool false)).tmps.getD k.more undef=_
   rw[AI3 _ _ _ W.moL,if_pos rfl]
  ·show Q (.exit k.out) ((ak.put (some k.nx) (.tuple #[.bool false])).put (some k.more) (.bool false)) wk
   rw[Rr (es:=es) fun x hx=>by
    obtain⟨x',hx',he⟩:=Re AGK hx;rw[<- he];exact hall x' hx']at hx
   refine AK9 hk tr φk wk H E ⟨_,hpb⟩ AGV hx _ (by rw[Fl,Fl];exact hsz) (by rw[Gf,Gf];exact hdf) (fun t ht hA hw=>?_) (by rw[AI3 _ _ _ W.moL,if_pos rfl]);rw[AI3 _ _ _ ht,if_neg (fun h:t=k.more=>hw (h ▸ AKI)),if_neg (fun h:t=k.nx=>hw (h ▸ AKH))];exact hsl t ht hA hw
 ·
  show(ADs (.cond (.tmp k.more) .skip (.exit k.out)) r2).wp P (Exit.then K Q) ((ak.put (some k.nx) (.tuple #[.bool true,x'.key,x'.val])).put (some k.more) (.bool true)) w1;obtain⟨x,hfx,hkr,hvr⟩:=RZ AGK hris hx';obtain⟨hxm,hxb⟩:=Kk hfx;have hmem:=NE hxm (by rw[hxb];exact hns);generalize AHD:AGH seen es=rest at hx hmem;cases rest with
  |nil=>cases hmem
  |cons y l=>
  have hx:=MD hx x hmem;unfold Oa at hx;cases hbl:hk.bl.set ad.block (.pick m x.born c (some seen))with
  |none=>rw[hbl]at hx;cases hx
  |some bl=>
  rw[hbl]at hx;simp only at hx;have ALC:J k.it (C6 e k.ws)=.pointer (some ad):=by
   rw[DD _ W.itL,hcg _ W.itL,if_neg W.itW,<- DD _ W.itL];exact hit
  generalize hY:Bv ty A a0 [] none F (C6 e k.ws) {next:=hk.next,low:=B9 hk.low ad.block,high:=Cy hk.high ad.block,mark:=hk.mark,bl:=bl}=Y at hx;cases Y with
  |no=>cases hx
  |exit _ _ _=>cases hx
  |ret _ _=>cases hx
  |norm e1' h1'=>
  simp only at hx;obtain⟨bl',AJZ,hB⟩:=j8 W (x:=x) (s:=x.born) ALC hoff AHV hmb (by rw[hxb];exact hfx) hbl hY (fun h=>by cases h);have AJZ:bl.set ad.block (.iter (some m) c (Jy x.born seen) c)=some bl':=AJZ;have AKJ:∀ i,bl'.get i=if i=ad.block then .iter (some m) c (Jy x.born seen) c else hk.bl.get i:=fun i=>by
   rw[BT.AFy _ _ _ _ AJZ,BT.AFy _ _ _ _ hbl];split<;>rfl
  have AKK:w1.heap.size=wk.heap.size:=by rw[e1];simp
  have ALD:w1.heap[pb.blk]? =some (.mapIter (some q.blk) c ⟨seen++[x'.born]⟩ c):=by
   rw[e1,AAJ,if_pos rfl,if_pos ALB]
  have AKL:∀ j,j<wk.heap.size->j≠pb.blk->w1.heap[j]? =wk.heap[j]?:=fun j hj hjp=>by
   rw[e1,AAJ,if_neg (fun h=>hjp h.symm)]
  have HR:=H.one hpb hin AGV AKJ (AB0 AKK.symm) AKL (by rw[ALD,ND,hxb];exact .iter hp0 hq) (fun _ _ _ h=>by cases h) (B9 hk.low ad.block) (Cy hk.high ad.block) hk.mark;have E1:=Evo.one (w':=w1) hpb hin AGV AKJ (AB0 AKK.symm) AKL e2' e3 e4 (by rw[hbi];exact .inr trivial) hk.mark;have HAR:AR N φk (AF4 A [] (Env.set k.more (.bool true) (Env.set k.nx (.tuple ⟨[.bool true,x.key,x.val]⟩) (C6 e k.ws)))) ((ak.put (some k.nx) (.tuple #[.bool true,x'.key,x'.val])).put (some k.more) (.bool true)):=by
   refine JI.2 ⟨by rw[Fl,Fl];exact hsz,by rw[Gf,Gf];exact hdf,fun t ht hA=>?_⟩;rw[AI3 _ _ _ ht,Env.AFy _ _ _ _ W.moL ht,Env.AFy _ _ _ _ W.nxL ht,hcg t ht];by_cases q1:t=k.more
   ·rw[if_pos q1,if_pos q1];exact .bool _
   ·rw[if_neg q1,if_neg q1]
    by_cases q2:t=k.nx
    ·rw[if_pos q2,if_pos q2];exact .tuple (.cons (.bool _) (.cons hkr (.cons hvr .nil)))
    ·rw[if_neg q2,if_neg q2]
     by_cases q3:t∈k.ws
     ·rw[if_pos q3];exact .unk
     ·rw[if_neg q3];exact(hsl t ht hA q3).mono E.le
  refine ih hB (fun h=>by cases h) φk w1 _ HR HAR _ {go:=(fun _ h=>by cases h),norm:=fun _ e2 h2 ψ a2 w2 g hx2=>?_,exit:=(fun i e2 h2 ψ a2 w2 g hx2=>by cases hx2),ret:=(fun e2 h2 ψ a2 w2 g hx2=>by cases hx2)};cases hx2;obtain⟨g1,g2,g3⟩:=JI.1 g.ar;have hag:=hkeep F (Env.set k.more (.bool true) (Env.set k.nx (.tuple ⟨[.bool true,x.key,x.val]⟩) (C6 e k.ws))) {next:=hk.next,low:=B9 hk.low ad.block,high:=Cy hk.high ad.block,mark:=hk.mark,bl:=bl'};rw[hB]at hag;have hag:Ag k.ws (Env.set k.more (.bool true) (Env.set k.nx (.tuple ⟨[.bool true,x.key,x.val]⟩) (C6 e k.ws))) e1':=hag;have E2:=(E.trans E1).trans g.evo;show K a2 w2;rw[<- hK];refine ihn h1' _ ψ w2 a2 g.rel E2 g1 g2 (fun t ht hA hw=>?_) hx;have q1:=g3 t ht hA;rw[hag t ht hw,Env.AFy _ _ _ _ W.moL ht,if_neg (fun h:t=k.more=>hw (h ▸ AKI)),Env.AFy _ _ _ _ W.nxL ht,if_neg (fun h:t=k.nx=>hw (h ▸ AKH)),hcg t ht,if_neg hw]at q1;exact AHG E2.le q1 (AG6 t ht hA)
theorem iI{b n0:Nat}{r h1:Hp}{tr:Rds}:Xk b n0 r h1 tr=true↔Z8 b n0 r h1:=by
 unfold Xk;split
 ·rename_i h _;exact⟨fun _=>h,fun _=>rfl⟩
 ·rename_i h _;exact⟨fun e=>(by cases e),fun e=>absurd e h⟩
theorem AFp.AJa{φ:Phi}{h:Hp}{w:zP}{bl:BT}{b n0:Nat}(H:AFp ty φ nil h w)(hbl:∀ i,bl.get i=if i=b\/n0<=i then .dead else h.bl.get i)(lo hi mk:Nat):
  AFp ty φ nil {next:=h.next,low:=lo,high:=hi,mark:=mk,bl:=bl} w where
 dom:=H.dom
 inj:=fun i j p q hp hq _ _ hi hj hio hpq=>by
  have lv:∀ i,bl.get i≠.dead->Live h i:=fun i hi=>by
   rw[hbl]at hi;split at hi
   ·exact absurd rfl hi
   ·exact hi
  exact H.inj i j p q hp hq (fun h=>h) (fun h=>h) (lv i hi) (lv j hj) hio hpq
 row:=fun i p hp _=>by
  show AGe ty φ p (bl.get i) _;rw[hbl];split
  ·exact .dead
  ·exact H.row i p hp (fun h=>h)
 fresh:=fun i hi=>by
  have hi:h.next<=i:=hi;show bl.get i=_;rw[hbl];split
  ·rfl
  ·exact H.fresh i hi
 kind:=fun i p cc s el hp he=>by
  have he:bl.get i=.cells cc s el:=he;rw[hbl]at he;split at he
  ·cases he
  ·exact H.kind i p cc s el hp he
 inp:=H.inp
theorem Evo.join{φ ψ:Phi}{h r hk:Hp}{w wk:zP}{b:Nat}{pb:Pl}(E:Evo φ {next:=h.next,low:=h.next,high:=0,mark:=h.mark,bl:=h.bl} w ψ hk wk)(hpb:φ b=some pb)
  (q1:hk.next=r.next)(q2:r.low<=B9 hk.low b)(q3:Cy hk.high b<=r.high)(q4:∀ i,r.bl.get i=if i=b\/h.next<=i then .dead else hk.bl.get i):Evo φ h w ψ (mT h r) wk where
 le:=E.le
 new:=E.new
 next:=by
  have h1:h.next<=hk.next:=E.next;show h.next<=r.next;omega
 size:=E.size
 tape:=E.tape
 os:=E.os
 output:=E.output
 frame:=fun k hk' hf=>E.frame k hk' fun i p e hn hl hg hv=>hf i p e hn (by
  rw[BZ]at q2;show B9 h.low r.low<=i;rw[BZ];omega) (by
  rw[B7]at q3;show i<=Cy h.high r.high;rw[B7];omega) hv
 back:=fun i p e hl hp=>by
  have hl:r.bl.get i≠.dead:=hl;rw[q4]at hl;split at hl
  ·exact absurd rfl hl
  obtain⟨j,q,a1,a2,a3,a4,a5⟩:=E.back i p e hl hp;refine⟨j,q,a1,a2,a3,a4,?_⟩;rw[BZ]at q2;rw[B7]at q3;rcases a5 with a5|⟨a5,a6⟩
  ·exact .inl a5
  ·refine .inr ⟨?_,?_⟩
   ·show B9 h.low r.low<=j
    rw[BZ];omega
   ·show j<=Cy h.high r.high
    rw[B7];omega
 kept:=fun i hi hor=>by
  have hor:i<B9 h.low r.low\/Cy h.high r.high<i:=hor;rw[BZ,B7]at hor;rw[BZ]at q2;rw[B7]at q3;show r.bl.get i=_;rw[q4,if_neg (by omega)];exact E.kept i hi (by omega)
 low:=by show B9 _ _<=_;rw[BZ];exact AB8 _ _
 high:=by show _<=Cy _ _;rw[B7];exact ADT _ _
 shape:=fun i hi=>by
  show AF2 _ (r.bl.get i);rw[q4];split
  ·exact .inl rfl
  ·exact E.shape i hi
 only:=fun i hi h0=>by
  show r.bl.get i=_;rw[q4,if_neg (by
   rintro (h1|h1)
   ·rw[h1,hpb]at h0;cases h0
   ·omega)]
  exact E.only i hi h0
 all:=fun i h1 h2=>E.all i h1 (by
  have h2:i<r.next:=h2;show i<hk.next;omega)
theorem St{k:Walk}{a0:AEj}{id:Nat}{o1 o2:AAv}{r2:AEj}(W:AG5 A a0 k id o1 o2 r2)(hd:k.nx<N/\k.more<N)
  (ih:∀ {e:Env} {h:Hp} {X:Go.Proofs.YtbjadbhkogcfeaaGreat.X},Bv ty A (.seq (.cond (.tmp k.more) .skip (.exit k.out)) r2) [] none F e h=X->X≠.no->∀ (φ:Phi) (w:zP) (a:Act),AFp ty φ nil h w->AR N φ (AF4 A [] e) a->∀ (Q:Exit->Act->zP->Prop),Post ty A N F φ h w none X Q->(ADs (.cond (.tmp k.more) .skip (.exit k.out)) r2).wp P Q a w)
  {e:Env}{h:Hp}{X:Go.Proofs.YtbjadbhkogcfeaaGreat.X}{ad:Addr}(hit:J k.it e=.pointer (some ad))(hoff:yu ad.off 0=true)(AFs:256<=ad.block)
  (hr:F2 k (Bv ty A a0 [] none) F e h ad.block=X)(hn:X≠.no){φ:Phi}{w:zP}{a:Act}(H:AFp ty φ nil h w)(HA:AR N φ (AF4 A [] e) a){Q:Exit->Act->zP->Prop}
  (pe:∀ id e h' ψ a' w',Good ty A N φ h w [] e h' ψ a' w'->X=.exit id e h'->Q (.exit id) a' w'):
  (Code.loop a0).wp P Q a w:=by
 unfold F2 at hr;split at hr
 case h_2=>exact absurd hr.symm hn
 rename_i hx _;obtain⟨AJb,AIf⟩:=AFQ hx;generalize AFE hx=r at hr AJb AIf;obtain⟨hsz,hdf,AG6⟩:=JI.1 HA;have hcg:∀ t,t<240->(C6 e k.ws).get t=if t∈k.ws then .chan none else e.get t:=fun t ht=>It _ _ _ W.few ht
 refine wp_loop_rounds 64 (iL W hd ih hit hoff AFs (φ0:=φ) (w0:=w) AG6 (fun hk tr φk wk Hk Ek ⟨pb',AME⟩ AGV hf ak s1 s2 s3 s4=>?_) 64 {next:=h.next,low:=h.next,high:=0,mark:=h.mark,bl:=h.bl} [] φ w a (H.AG8 rfl rfl) (.refl _ _ _) hsz hdf (fun t ht hA _=>AG6 t ht hA) AIf);obtain⟨q1,q2,q3,hbg⟩:=iI.1 hf;have HK:=Hk.AJa hbg (B9 h.low r.low) (Cy h.high r.high) h.mark;have AIe:=AG6 k.it W.itL W.itA;rw[<- DD k.it W.itL,hit]at AIe;obtain⟨ad',ALA,hra⟩:=AIe.AGl;obtain⟨pb,AI2,rfl⟩:=hra.eq;have ER:=Ek.join AI2 q1 (AB0 q2) (AB0 q3.symm) hbg;rw[q1]at HK;refine pe k.out _ _ φk ak wk ⟨.nil A,HK,JI.2 ⟨s1,s2,fun t ht hA=>?_⟩,ER⟩ hr.symm;rw[Env.AFy _ _ _ _ W.moL ht,hcg t ht];by_cases q1:t=k.more
 ·rw[if_pos q1,q1,s4];exact .bool _
 ·rw[if_neg q1]
  by_cases q2:t∈k.ws
  ·rw[if_pos q2];exact .unk
  ·rw[if_neg q2];exact(s3 t ht hA q2).mono ER.le
end
end
end Go.Proofs.YtbjadbhkogcfeaaGreat
