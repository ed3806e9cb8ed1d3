/-
  Part ZF of what Lawnr stands on: printed by program, names and spaces cut.
-/
import Derived.Test.YtbjadbhkogcfeaaGreatZE
import Derived.Orders
import Derived.LoopN
open Go renaming Value→IN,Operand→yN,World→yQ,MapEntry→yn,Oper→AAA,Code→ADU
open Nat renaming le_refl→IT,zero_add→If,beq→xr,lt_or_ge→yG,zero_le→yK,le_trans→yP,blt→yu,le_of_lt→zI,beq_refl→zU,le_of_eq→AA5,min_le_left→ABG,lt_or_gt_of_ne→ABW,lt_irrefl→ABq,strongRecOn→ACQ,le_max_left→ACR,testBit_or→ADP
open List renaming length_append→No,getElem?_eq_getElem→sh,mem_cons_of_mem→xZ,mem_cons_self→xa,mem_cons→xz,getElem?_eq_some_iff→yD,getElem?_append_left→yH,mem_append→yL,getElem?_toArray→yO,mem_append_right→yR,mem_append_left→yX,mem_filter→yY,length_singleton→yg,range→zB,getElem?_eq_none→zX,getElem?_take→zy,mem_range→AAC,all_eq_true→AAZ,countP_cons→AC6
open Go.Result renaming andThen_ok→xU
open Go.Sem renaming run_bind→xh,run_pure→xk
open Bool renaming and_eq_true→yA,false_eq_true→yT,not_false→yh,true_and→AAg,not_eq_true'→AAz,or_eq_true→ADE
open Array renaming getD_eq_getD_getElem?→yp,ext'→zF,getElem?_setIfInBounds→zP,all_eq_true_iff_forall_mem→zY,mem_toList_iff→zc,toList_filter→ABT
open Option renaming map_some→zG,getD_some→ACn
open Go.Instr renaming next→zd,extract→ABa
open Go.Region renaming ready→zw,binds→AAh,wanted→ABN
open Go.Question renaming forced→AAq
open Go.Oper renaming upon_value→ABo
open Go.Code renaming rounds→ACl,seq→ACp,region→ADn
open Classical renaming choose→ADo,choose_spec→ADy
set_option linter.unusedSimpArgs false
set_option linter.unusedVariables false
namespace Go.Proofs.YtbjadbhkogcfeaaGreat
noncomputable section
open Go
section
variable {P:Program}{ty:TTy}{N:Nat}{all:List AAA}{ρ:Nat->Rho}{H:Nat->Hp}{V:Nat->IN}{T:Nat->Nat->Prop}{φ0:Phi}{w0:yQ}{B:Nat->Nat->Prop}{run:Nat->Bool}{ahs:List AEk}
theorem Inv.step(L:Laws ty all ρ H T B)(tr:Tr P ty all ahs all ρ H V run T)(txt:Txt P ty N φ0 ρ H V T all.length){S:Nat->Prop}{φ:Phi}{C:Nat->Blk}{a:Act}{w:yQ}(I:Inv ty N all ρ H T φ0 w0 S φ C a w)
  {i:Nat}{o:AAA}(ho:all[i]? =some o)(hS:¬ S i)(hpre:∀ j,B j i->S j)(hcl:∀ j k,S j->B k j->S k)(hN:∀ d,o.dst=some d->d<N)
  {K:Act->yQ->Prop}{Q:Exit->Act->yQ->Prop}(hK:∀ φ' C' a' w',Inv ty N all ρ H T φ0 w0 (fun j=>S j\/j=i) φ' C' a' w'->K a' w'):wpOp P all.toArray Q i K a w:=by
 have hi:i<all.length:=by
  rcases yG i all.length with h|h
  ·exact h
  ·rw[zX h]at ho;cases ho
 have fx:∀ j,j≠i->(B i j\/B j i)->(j<i->S j)/\(i<=j->¬ S j):=by
  intro j hj hb;rcases hb with hb|hb
  ·have:=L.lt i j hb
   exact⟨fun h=>by omega,fun _ hSj=>hS (hcl j i hSj hb)⟩
  ·have:=L.lt j i hb
   exact⟨fun _=>hpre j hb,fun h=>by omega⟩
 have named:∀ d,(o.dst=some d\/.tmp d∈o.op.operands.toList\/∃ g w og,o.guard=some (g,w)/\all[g]? =some og/\og.dst=some d)->∀ u,ρ i d=some u->AEE φ u (a.tmps.getD d undef):=by
  intro d hd u hu;refine I.slot i (zI hi) d u (fun j oj hoj hdj=>?_) hu;by_cases hji:j=i
  ·subst hji;exact⟨fun h=>absurd h (ABq _),fun _=>hS⟩
  ·exact fx j hji ((L.slots j i oj o d hji hoj ho hdj hd).symm)
 have s:=tr.sf i o ho;have hw:=ON s (a:=a) (φ:=φ) fun g want og d u h1 h2 h3 hu=>named d (.inr (.inr ⟨g,want,og,h1,h2,h3⟩)) u hu
 obtain⟨HR,ψ,b,HA,hx⟩:=I.AJc txt (zI hi);have names:∀ x∈o.op.operands.toList,∀ u,evR (ρ i) x=some u->AEE (upto φ (H i).next) u (a.eval x):=by
  intro x hxm u hu;have h1:AEE φ u (a.eval x):=by
   cases x with
   |tmp t=>exact named t (.inr (.inl hxm)) u hu
   |const v=>
    have hu:(if FZ v then some v else none)=some u:=hu;split at hu
    ·rename_i hp;cases hu;exact Ms hp
    ·cases hu
   |func g=>cases hu;exact .func _ .nil .nil
   |global g=>cases hu
  exact h1.cut hx (HA.ev hu)
 unfold wpOp;rw[yO,ho];simp only;rcases s.core with ⟨hrun,core⟩|⟨hrun,hv,hh,hT⟩
 ·rw[hw,hrun,if_pos rfl]
  refine .inl (core.AGt _ _ w a HR names ?_ _ _ fun ψ' v' w' hv HW' eff _=>hK _ _ _ _ (I.after L tr txt ho hS hpre hcl hN hv HW' eff));have noE:((∃ x,kd ty o.op=.w x)\/kd ty o.op=.q)->∀ b,¬ Pa all.length T S (H i) i b:=by
   rintro hk b ⟨hb,hne⟩;refine hne fun j hj hT=>?_
   by_cases hji:j=i
   ·subst hji;exact⟨fun h=>absurd h (ABq _),fun _=>hS⟩
   ·exact fx j hji (L.fixed i j o b (fun h=>hji h.symm) ho hj hT hk)
  unfold TouchR;cases hk:kd ty o.op with
  |p=>trivial
  |a=>trivial
  |r x=>
   rintro u hu c hc ⟨hb,hne⟩;refine hne fun j hj hT=>?_
   by_cases hji:j=i
   ·subst hji;exact⟨fun h=>absurd h (ABq _),fun _=>hS⟩
   ·exact fx j hji (L.reads i j o x c u (fun h=>hji h.symm) ho hj hT hk hu hc)
  |w x=>exact noE (.inl ⟨x,hk⟩)
  |q=>exact noE (.inr hk)
 ·rw[hw,hrun,if_neg (by simp)]
  refine hK _ _ _ _ (I.after L tr txt ho hS hpre hcl hN (ψ:=upto φ (H i).next) (v':=undef) (w':=w) (by rw[hv];exact .tuple .nil) (by rw[hh];exact HR) ?_);rw[hh];exact {Eff.refl (upto φ (H i).next) (H i) w with frame:=fun _ _ _=>rfl,back:=fun i p e hl _=>⟨i,p,e,hl,rfl,rfl,.inl rfl⟩,kept:=fun _ _ _=>rfl}
theorem Inv.begin(tr:Tr P ty all ahs all ρ H V run T)(txt:Txt P ty N φ0 ρ H V T all.length)(L:Laws ty all ρ H T B){a:Act}(HW:AEI ty φ0 nil (H 0) w0)(HA:AR N φ0 (ρ 0) a){S:Nat->Prop}(hS:∀ j,j<all.length->¬ S j):
  Inv ty N all ρ H T φ0 w0 S φ0 (H 0).bl.get a w0 where
 dom:=fun b p hp=>⟨(HW.dom b p hp).2,.inl (HW.dom b p hp).1⟩
 inj:=fun b c p q hp hq hb hc hio h=>HW.inj b c p q hp hq (fun h=>h) (fun h=>h) hb hc hio h
 row:=fun b p hp=>HW.row b p hp fun h=>h
 kind:=fun k hk b p c s e hp hb he=>by
  have hs:=txt.AF6 (i:=0) (k:=k) (HW.dom b p hp).1 (yK _) hk;rw[he]at hs;obtain⟨c',hc'⟩:=hs.cells;exact HW.kind b p c' s e hp hc'
 inp:=HW.inp
 link:=fun k hk b p hp hb hyp=>by
  refine(txt.same (i:=0) (yK _) hk fun m _ hm=>?_).symm;have h0:=(HW.dom b p hp).1;have:=txt.mono (i:=0) (k:=m) (yK _) (by omega);exact txt.kept m (by omega) b (by omega) fun hT=>hS m (by omega) ((hyp m (by omega) hT).1 hm)
 chg:=fun j hj hjn=>absurd hj (hS j hjn)
 full:=fun j hj hjn=>absurd hj (hS j hjn)
 slot:=fun k hk t u hyp hu=>by
  refine HA.rel t u (tr.backward (i:=0) (yK _) hk (fun m om _ hm hom hdm=>?_) hu);exact hS m (by omega) ((hyp m om hom hdm).1 hm)
 size:=HA.size
 defs:=HA.defs
 le:=.refl _
 new:=fun b p hp=>.inl hp
 sz:=IT _
 tape:=rfl
 os:=rfl
 output:=rfl
 frame:=fun _ _ _=>rfl
 back:=fun b p hp hl _=>⟨b,p,hp,hl,rfl,rfl,.inl rfl⟩
theorem Inv.fin(txt:Txt P ty N φ0 ρ H V T all.length)(L:Laws ty all ρ H T B){S:Nat->Prop}{φ:Phi}{C:Nat->Blk}{a:Act}{w:yQ}(I:Inv ty N all ρ H T φ0 w0 S φ C a w)(hS:∀ j,j<all.length->S j):
  AEI ty φ nil (H all.length) w/\AR N φ (ρ all.length) a/\Evo φ0 (H 0) w0 φ (H all.length) w:=by
 have AHu:∀ b p,φ b=some p->b<(H all.length).next:=by
  intro b p hp;rcases (I.dom b p hp).2 with h|⟨j,_,hj,_,h⟩
  ·have:=txt.mono (yK all.length) (IT _);omega
  ·have:=txt.mono (i:=j+1) (k:=all.length) hj (IT _);omega
 have lk:∀ b p,φ b=some p->C b=(H all.length).bl.get b:=fun b p hp=>
  I.link _ (IT _) b p hp (AHu b p hp) fun j hj _=>⟨fun _=>hS j hj,fun h=>by omega⟩
 refine⟨{dom:=fun b p hp=>⟨AHu b p hp,(I.dom b p hp).1⟩,inj:=fun b c p q hp hq _ _ hb hc hio h=>I.inj b c p q hp hq (by rw[lk b p hp];exact hb) (by rw[lk c q hq];exact hc) hio h,row:=fun b p hp _=>by rw[<- lk b p hp];exact I.row b p hp,fresh:=txt.fresh _ (IT _),kind:=fun b p c s e hp he=>I.kind _ (IT _) b p c s e hp (AHu b p hp) he,inp:=I.inp},
  ⟨I.size,I.defs,fun t u hu=>I.slot _ (IT _) t u (fun j oj hoj _=>?_) hu⟩,
  {le:=I.le,new:=I.new,next:=txt.mono (yK _) (IT _),size:=I.sz,tape:=I.tape,os:=I.os,output:=I.output,frame:=I.frame,back:=fun b p hp hl hlt=>I.back b p hp (by rw[lk b p hp];exact hl) hlt,kept:=fun b hb ho=>?_,low:=L.low,high:=L.high,shape:=fun b hb=>txt.AF6 (i:=0) hb (yK _) (IT _),only:=fun b hb h0=>?_,all:=fun b h1 h2=>?_}⟩
 ·have hj:j<all.length:=by
   rcases yG j all.length with h|h
   ·exact h
   ·rw[zX h]at hoj;cases hoj
  exact⟨fun _=>hS j hj,fun h=>by omega⟩
 ·refine txt.same (i:=0) (yK _) (IT _) fun m _ hm=>?_
  have:=txt.mono (i:=0) (k:=m) (yK _) (by omega);exact txt.kept m hm b (by omega) fun hT=>by have:=L.AHT m b hm hT;omega
 ·refine txt.same (i:=0) (yK _) (IT _) fun m _ hm=>?_
  have:=txt.mono (i:=0) (k:=m) (yK _) (by omega);by_cases hc:(H (m+1)).bl.get b=(H m).bl.get b
  ·exact hc
  ·obtain⟨p,hp⟩:=I.chg m (hS m hm) hm b (by omega) hc
   rcases I.new b p hp with h|h
   ·rw[h0]at h;cases h
   ·omega
 ·
  have:∀ k,k<=all.length->b<(H k).next->∃ p,φ b=some p:=by
   intro k
   induction k with
   |zero=>intro _ h;omega
   |succ k ih=>
    intro hk h;rcases yG b (H k).next with h3|h3
    ·exact ih (by omega) h3
    ·exact I.full k (hS k (by omega)) (by omega) b h3 h
  exact this _ (IT _) h2
theorem NY{α:Type}{p q:α->Bool}:∀ {l:List α},(∀ x∈l,p x=true->q x=true)->(∃ x∈l,q x=true/\p x=false)->l.countP p<l.countP q
 |[],_,h=>by obtain⟨x,hx,_⟩:=h;cases hx
 |y::l,h1,h2=>by
  have hmono:l.countP p<=l.countP q:=List.countP_mono_left fun x hx hp=>h1 x (xZ _ hx) hp
  rw[AC6,AC6];by_cases hy:q y=true/\p y=false
  ·rw[hy.1,hy.2];simp;omega
  ·obtain⟨x,hx,hq,hp⟩:=h2
   rcases xz.1 hx with rfl|hx
   ·exact absurd ⟨hq,hp⟩ hy
   ·have:=NY (fun x hx=>h1 x (xZ _ hx)) ⟨x,hx,hq,hp⟩
    cases hpy:p y with
    |true=>rw[h1 y xa hpy];simp;omega
    |false=>cases q y<;>simp<;>omega
structure AGg (all:List AAA)(B:Nat->Nat->Prop):Prop where
 dec:∀ i o j,all[i]? =some o->B j i->∃ e∈o.after.toList,AAh .any e=true/\(j=e.on\/B j e.on)
 back:∀ i o,all[i]? =some o->∀ e∈o.after.toList,AAh .any e=true->e.on<i
theorem mC(E:AGg all B)(L:Laws ty all ρ H T B)(tr:Tr P ty all ahs all ρ H V run T)(txt:Txt P ty N φ0 ρ H V T all.length)(hN:∀ o∈all,∀ d,o.dst=some d->d<N){Q:Exit->Act->yQ->Prop}
  (hq:∀ ψ a' w',AEI ty ψ nil (H all.length) w'->AR N ψ (ρ all.length) a'->Evo φ0 (H 0) w0 ψ (H all.length) w'->Q .normal a' w'):
  ∀ (fuel:Nat) (listed:Array Bool) (φ:Phi) (C:Nat->Blk) (a:Act) (w:yQ),listed.size=all.length->(zB all.length).countP (fun j=> !listed.getD j true)<=fuel->
   (∀ j k,(j<all.length/\listed.getD j false=true)->B k j->(k<all.length/\listed.getD k false=true))->
   Inv ty N all ρ H T φ0 w0 (fun j=>j<all.length/\listed.getD j false=true) φ C a w->wpAny P .any all.toArray Q fuel listed a w:=by
 have AF8:∀ (listed:Array Bool),listed.size=all.length->∀ j,j<all.length->listed.getD j true=listed.getD j false:=by
  intro listed hs j hj;rw[yp,yp,Array.getElem?_eq_getElem (by omega)];rfl
 have done:∀ (listed:Array Bool) (φ:Phi) (C:Nat->Blk) (a:Act) (w:yQ),listed.size=all.length->zw .any all.toArray listed=[]->
   Inv ty N all ρ H T φ0 w0 (fun j=>j<all.length/\listed.getD j false=true) φ C a w->(∀ j,j<all.length->listed.getD j false=true)/\Q .normal a w:=by
  intro listed φ C a w hs hr I;have hall:∀ j,j<all.length->listed.getD j false=true:=by
   intro j
   induction j using ACQ with
   |_ j ih=>
    intro hj;cases hl:listed.getD j false with
    |true=>rfl
    |false=>
     exfalso
     have ho:all[j]? =some all[j]:=sh hj;have:j∈zw .any all.toArray listed:=by
      unfold zw;rw[yY];refine⟨AAC.2 (by simpa using hj),?_⟩;rw[AF8 listed hs j hj,hl,yO,ho];simp only[yh,AAg,zG,ACn];rw[zY];intro e he;cases hb:AAh .any e with
      |false=>rfl
      |true=>
       have h1:=E.back j all[j] ho e (zc.2 he) hb;rw[ih e.on h1 (by omega)];rfl
     rw[hr]at this;cases this
  obtain⟨h1,h2,h3⟩:=I.fin txt L fun j hj=>⟨hj,hall j hj⟩
  exact⟨hall,hq φ a w h1 h2 h3⟩
 intro fuel
 induction fuel with
 |zero=>
  intro listed φ C a w hs hc hcl I;have hr:zw .any all.toArray listed=[]:=by
   cases hr:zw .any all.toArray listed with
   |nil=>rfl
   |cons x xs=>
    exfalso
    have hx:x∈zw .any all.toArray listed:=by rw[hr];exact xa
    unfold zw at hx;rw[yY]at hx;obtain⟨h1,h2⟩:=hx;have h3:x<all.length:=by simpa using AAC.1 h1
    simp only[yA]at h2;have:=List.countP_pos_iff (p:=fun j=> !listed.getD j true) (l:=zB all.length) |>.2 ⟨x,AAC.2 h3,h2.1⟩;omega
  exact⟨hr,(done listed φ C a w hs hr I).2⟩
 |succ fuel ih=>
  intro listed φ C a w hs hc hcl I;refine⟨fun hr=>(done listed φ C a w hs hr I).2,fun i hi=>?_⟩;unfold zw at hi;rw[yY]at hi;obtain⟨h1,h2⟩:=hi;have h3:i<all.length:=by simpa using AAC.1 h1
  have ho:all[i]? =some all[i]:=sh h3;rw[yA,yO,ho]at h2;obtain⟨h4,h5⟩:=h2;simp only[zG,ACn]at h5;rw[zY]at h5;have hl:listed.getD i false=false:=by
   rw[<- AF8 listed hs i h3];simpa using h4
  have AEl:∀ j,j<all.length->(listed.setIfInBounds i true).getD j false=if j=i then true else listed.getD j false:=by
   intro j hj;rw[yp,zP,yp];by_cases hji:j=i
   ·subst hji;rw[if_pos rfl,if_pos (by omega),if_pos rfl];rfl
   ·rw[if_neg fun h=>hji h.symm,if_neg hji]
  have hpre:∀ j,B j i->(j<all.length/\listed.getD j false=true):=by
   intro j hb;obtain⟨e,he,hbe,hor⟩:=E.dec i _ j ho hb;have hon:=h5 e (zc.1 he);rw[hbe]at hon;have hon:listed.getD e.on false=true:=by simpa using hon
   have hlt:e.on<all.length:=by have:=E.back i _ ho e he hbe;omega
   rcases hor with rfl|hor
   ·exact⟨hlt,hon⟩
   ·exact hcl e.on j ⟨hlt,hon⟩ hor
  refine I.step L tr txt ho (fun h=>by rw[hl]at h;cases h.2) hpre hcl (hN _ (List.mem_of_getElem? ho)) fun φ' C' a' w' I'=>ih _ φ' C' a' w' (by simp[hs]) ?_ ?_ ?_
  ·have:=NY (p:=fun j=> !(listed.setIfInBounds i true).getD j true) (q:=fun j=> !listed.getD j true) (l:=zB all.length) (fun j hj hp=>?_) ⟨i,AAC.2 h3,h4,?_⟩
   ·omega
   ·have hj:=AAC.1 hj
    rw[AF8 _ (by simp[hs]) j hj,AEl j hj]at hp;rw[AF8 _ hs j hj];by_cases hji:j=i
    ·rw[if_pos hji]at hp;cases hp
    ·rw[if_neg hji]at hp;exact hp
   ·rw[AF8 _ (by simp[hs]) i h3,AEl i h3,if_pos rfl];rfl
  ·intro j k hj hb
   have hjk:k<all.length/\listed.getD k false=true:=by
    rw[AEl j hj.1]at hj;by_cases hji:j=i
    ·subst hji;exact hpre k hb
    ·rw[if_neg hji]at hj;exact hcl j k hj hb
   refine⟨hjk.1,?_⟩;rw[AEl k hjk.1];split
   ·rfl
   ·exact hjk.2
  ·have:(fun j=>(j<all.length/\listed.getD j false=true)\/j=i)=fun j=>j<all.length/\(listed.setIfInBounds i true).getD j false=true:=by
    funext j
    apply propext;constructor
    ·rintro (⟨hj,hlj⟩|rfl)
     ·refine⟨hj,?_⟩
      rw[AEl j hj];split
      ·rfl
      ·exact hlj
     ·refine⟨h3,?_⟩
      rw[AEl _ h3,if_pos rfl]
    ·rintro⟨hj,hlj⟩
     rw[AEl j hj]at hlj;by_cases hji:j=i
     ·exact .inr hji
     ·rw[if_neg hji]at hlj;exact .inl ⟨hj,hlj⟩
   rw[<- this];exact I'
theorem Evo.AF9{φ ψ:Phi}{h h':Hp}{w w1 w':yQ}(ev:Evo φ h w1 ψ h' w')(hh:w1.heap=w.heap)(ht:w1.tape=w.tape)(ho:w1.os=w.os)(hout:w1.output=w.output):Evo φ h w ψ h' w' where
 le:=ev.le
 new:=ev.new
 next:=ev.next
 size:=by rw[<- hh];exact ev.size
 tape:=ev.tape.trans ht
 os:=ev.os.trans ho
 output:=ev.output.trans hout
 frame:=by rw[<- hh];exact ev.frame
 back:=by rw[<- hh];exact ev.back
 kept:=ev.kept
 low:=ev.low
 high:=ev.high
 shape:=ev.shape
 only:=ev.only
 all:=ev.all
theorem jw(hm:P.follows .mixedOrders=true)(E:AGg all B)(L:Laws ty all ρ H T B)(tr:Tr P ty all ahs all ρ H V run T)(hN:∀ o∈all,∀ d,o.dst=some d->d<N){Q:Exit->Act->yQ->Prop}{a:Act}{w:yQ}{id:Nat}
  (HW:AEI ty φ0 nil (H 0) w)(HA:AR N φ0 (ρ 0) a)(hq:∀ ψ a' w',AEI ty ψ nil (H all.length) w'->AR N ψ (ρ all.length) a'->Evo φ0 (H 0) w ψ (H all.length) w'->Q .normal a' w'):
  (ADn id all.toArray true).wp P Q a w:=by
 have txt:Txt P ty N φ0 ρ H V T all.length:=by
  have h:=PT (Q:=fun _ _ _=>Txt P ty N φ0 ρ H V T all.length) all tr hN HW HA fun txt _ _ _ _ _ _=>txt
  obtain⟨_,_,_,h,_⟩:=wp_region_list (id:=0) (ops:=all.toArray) (by simpa using h) (default:Frame) [] [];exact h
 refine wp_region_any hm ?_;have HW1:AEI ty φ0 nil (H 0) {w with drawn:=w.drawn+1}:=HW.of_heap rfl;have hsz:all.toArray.size=all.length:=by simp
 rw[hsz];refine mC (w0:={w with drawn:=w.drawn+1}) E L tr txt hN (fun ψ a' w' h1 h2 h3=>hq ψ a' w' h1 h2 (h3.AF9 rfl rfl rfl rfl)) all.length _ φ0 (H 0).bl.get a _ (by simp) (yP List.countP_le_length (by simp)) ?_ ?_
 ·rintro j k ⟨hj,hlj⟩ _
  rw[yp]at hlj;simp[hj]at hlj
 ·refine Inv.begin tr txt L HW1 HA fun j hj h=>?_
  have:=h.2;rw[yp]at this;simp[hj]at this
end
end
noncomputable section
open Go
theorem RU{β:Type}(x:Nat):∀ (k:List Nat->β) (l:List Nat),Vo x k l=k (l++[x])
 |k,[]=>rfl
 |k,y::l=>by
  unfold Vo;rw[RU x (fun l=>k (y::l)) l];rfl
def Du:List Nat->List AAA->List Nat
 |acc,[]=>acc
 |acc,o::l=>Du (acc++[G8 acc 0 o.after.toList]) l
theorem Tn{β:Type}(k:List Nat->β):∀ (l:List AAA) (acc:List Nat),de k l acc=k (Du acc l)
 |[],acc=>rfl
 |o::l,acc=>by
  unfold de;rw[Ap,RU,Tn k l];rfl
theorem Lr:∀ (l:List AAA) (acc:List Nat) (j:Nat),j<acc.length->(Du acc l)[j]? =acc[j]?
 |[],acc,j,_=>rfl
 |o::l,acc,j,hj=>by
  unfold Du;rw[Lr l _ j (by simp;omega),yH hj]
theorem XE(l:List AAA):∀ (acc:List Nat) (j:Nat) (o:AAA),l[j]? =some o->(Du acc l)[acc.length+j]? =some (G8 ((Du acc l).take (acc.length+j)) 0 o.after.toList):=by
 induction l with
 |nil=>intro acc j o h;cases h
 |cons o' l ih=>
  intro acc j o h;have hu:Du acc (o'::l)=Du (acc++[G8 acc 0 o'.after.toList]) l:=by rw[Du]
  rw[hu];cases j with
  |zero=>
   have ho:o'=o:=by simpa using h
   subst ho;rw[Nat.add_zero];have hp:=fun k hk=>Lr l (acc++[G8 acc 0 o'.after.toList]) k hk
   have ht:(Du (acc++[G8 acc 0 o'.after.toList]) l).take acc.length=acc:=by
    apply List.ext_getElem?;intro k;rw[zy];split
    ·rename_i hk
     rw[hp k (by rw[No];omega),yH hk]
    ·rename_i hk
     rw[zX (by omega)]
   rw[ht,hp acc.length (by rw[No,yg];omega),List.getElem?_append_right (IT _),Nat.sub_self];rfl
  |succ j=>
   have:=ih (acc++[G8 acc 0 o'.after.toList]) j o (by simpa using h);rw[No,yg]at this;have e:acc.length+(j+1)=acc.length+1+j:=by omega
   rw[e];exact this
theorem Lq:∀ (l:List AAA) (acc:List Nat),(Du acc l).length=acc.length+l.length
 |[],acc=>rfl
 |o::l,acc=>by
  unfold Du;rw[Lq l];simp;omega
theorem Ov{bs:List Nat}{i j:Nat}:isB bs i j=true↔∃ b,bs[j]? =some b/\b.testBit i=true:=by
 unfold isB;rw[GE];cases bs[j]? with
 |none=>simp
 |some b=>
  simp only[Option.some.injEq,exists_eq_left'];rw[Az];unfold Nat.testBit;have e:Nat.shiftRight b i=b >>> i:=rfl;have e2:Nat.mod (b >>> i) 2=(b >>> i) % 2:=rfl;rw[e,e2];simp[Nat.and_one_is_mod,bne_iff_ne]
theorem KD(acc:List Nat)(i:Nat):∀ (es:List Edge) (m:Nat),(G8 acc m es).testBit i=true↔m.testBit i=true\/∃ e∈es,AAh .any e=true/\(i=e.on\/((acc[e.on]?).getD 0).testBit i=true)
 |[],m=>by unfold G8;simp
 |e::es,m=>by
  unfold G8;split
  ·rename_i hb
   rw[KD acc i es];have e1:∀ a b:Nat,Nat.lor a b=a ||| b:=fun _ _=>rfl
   have e2:Nat.shiftLeft 1 e.on=1 <<< e.on:=rfl;rw[e1,e1,e2,GE,ADP,ADP,Nat.one_shiftLeft,Nat.testBit_two_pow];simp only[ADE,decide_eq_true_eq,xz,exists_eq_or_imp,hb,true_and];constructor
   ·rintro ((h|h|h)|h)
    ·exact .inl h
    ·exact .inr (.inl (.inl h.symm))
    ·exact .inr (.inl (.inr h))
    ·exact .inr (.inr h)
   ·rintro (h|(h|h)|h)
    ·exact .inl (.inl h)
    ·exact .inl (.inr (.inl h.symm))
    ·exact .inl (.inr (.inr h))
    ·exact .inr h
  ·rename_i hb
   rw[KD acc i es];simp only[xz,exists_eq_or_imp,hb,yT,false_and,false_or]
theorem Gi{ops:List AAA}{o:AAA}{i:Nat}:(o,i)∈ops.zipIdx↔ops[i]? =some o:=List.mem_zipIdx_iff_getElem?
theorem Ma{d:Nat}:∀ {l:List Nat},memN d l=true↔d∈l
 |[]=>by simp[memN]
 |x::l=>by
  unfold memN;split
  ·rename_i hb
   have:=Az.1 hb;simp[this]
  ·rename_i hb
   have:=FL hb;rw[Ma,xz];constructor
   ·exact .inr
   ·rintro (h|h)
    ·exact absurd h.symm this
    ·exact h
section
variable {ty:TTy}{all:List AAA}{bs:List Nat}
theorem P3(hbs:bs=Du [] all)(he:Hx all=true):AGg all (fun i j=>isB bs i j=true):=by
 have back:∀ i o,all[i]? =some o->∀ e∈o.after.toList,AAh .any e=true->e.on<i:=by
  intro i o ho e hem hb;unfold Hx at he;rw[AAZ]at he;have:=he (o,i) (Gi.2 ho);simp only[AAZ]at this;have:=this e hem;rw[hb]at this;exact Bb.1 (by simpa using this)
 refine⟨fun i o j ho hB=>?_,back⟩;obtain⟨b,hb1,hb2⟩:=Ov.1 hB;have:=XE all [] i o ho;rw[<- hbs]at this;simp only[List.length_nil,If]at this;rw[this]at hb1;cases hb1;rcases (KD _ j _ _).1 hb2 with h|⟨e,hem,hbe,hor⟩
 ·simp at h
 ·refine⟨e,hem,hbe,hor.imp id fun h=>?_⟩
  have hlt:=back i o ho e hem hbe;rw[zy,if_pos hlt]at h;cases hq:bs[e.on]? with
  |none=>rw[hq]at h;simp at h
  |some c=>rw[hq]at h;exact Ov.2 ⟨c,hq,h⟩
theorem qz(hbs:bs=Du [] all)(he:Hx all=true):∀ j i,isB bs i j=true->i<j:=by
 have E:=P3 hbs he;intro j
 induction j using ACQ with
 |_ j ih=>
  intro i hB;have hj:j<all.length:=by
   obtain⟨b,hb1,_⟩:=Ov.1 hB;have:=(yD.1 hb1).1;rw[hbs,Lq]at this
   simpa using this
  obtain⟨e,hem,hbe,hor⟩:=E.dec j _ i (sh hj) hB;have hlt:=E.back j _ (sh hj) e hem hbe;rcases hor with rfl|h
  ·exact hlt
  ·have:=ih e.on hlt i h;omega
theorem Uy{i j:Nat}(h:isB bs (B8 i j) (i+j - B8 i j)=true):isB bs i j=true\/isB bs j i=true:=by
 rw[BW]at h;rcases Nat.le_total i j with h1|h1
 ·rw[Nat.min_eq_left h1,show i+j - i=j by omega]at h;exact .inl h
 ·rw[Nat.min_eq_right h1,show i+j - j=i by omega]at h;exact .inr h
theorem gm{i j:Nat}(h1:isB bs i j≠true)(h2:isB bs j i≠true):isB bs (B8 i j) (i+j - B8 i j)=false:=by
 cases h:isB bs (B8 i j) (i+j - B8 i j)with
 |false=>rfl
 |true=>
  rcases Uy h with h|h
  ·exact absurd h h1
  ·exact absurd h h2
theorem be(hs:Jo all bs=true){i j:Nat}{oi oj:AAA}{d:Nat}(hij:i≠j)(hi:all[i]? =some oi)(hj:all[j]? =some oj)(hd:oi.dst=some d)
  (hn:oj.dst=some d\/.tmp d∈oj.op.operands.toList\/∃ g w og,oj.guard=some (g,w)/\all[g]? =some og/\og.dst=some d):isB bs i j=true\/isB bs j i=true:=by
 unfold Jo at hs;rw[AAZ]at hs;have h1:=hs (oi,i) (Gi.2 hi);simp only[hd,AAZ]at h1;have h2:=h1 (oj,j) (Gi.2 hj);simp only[ADE,AAz]at h2;rcases h2 with (h2|h2)|h2
 ·exact absurd (Az.1 h2) hij
 ·exact Uy h2
 ·exfalso
  have:memN d (oj.dst.toList++PS all oj)=true:=by
   rw[Ma,yL];rcases hn with h|h|⟨g,w,og,h,h3,h4⟩
   ·left;rw[h];simp
   ·right
    unfold PS;rw[yL];left;rw[List.mem_filterMap];exact⟨_,h,rfl⟩
   ·right
    unfold PS;rw[yL];right;rw[h];simp only[GE,h3,h4];simp
  rw[this]at h2;cases h2
structure AHU (ty:TTy)(all:List AAA)(xs:List yN)(i j:Nat)(oi oj:AAA):Prop where
 ww:∀ x y,kd ty oi.op=.w x->kd ty oj.op≠.w y
 wq:∀ x,kd ty oi.op=.w x->kd ty oj.op≠.q
 qw:∀ y,kd ty oi.op=.q->kd ty oj.op≠.w y
 wr:∀ x y,kd ty oi.op=.w x->kd ty oj.op=.r y->x∈xs/\∃ t,x=.tmp t/\∀ k o,i<=k->k<j->all[k]? =some o->o.dst≠some t
 rw':∀ x y,kd ty oi.op=.r x->kd ty oj.op=.w y->x∈xs/\∃ t,x=.tmp t/\∀ k o,i<=k->k<j->all[k]? =some o->o.dst≠some t
theorem JS{j i:Nat}{x:yN}{rest:Option (List yN)}{xs:List yN}(h:Un all j x i rest=some xs):
  ∃ ys,rest=some ys/\xs=x::ys/\∃ t,x=.tmp t/\∀ k o,i<=k->k<j->all[k]? =some o->o.dst≠some t:=by
 unfold Un at h;split at h
 ·rename_i t
  split at h
  ·cases h
  ·rename_i AHV
   split at h
   ·rename_i ys
    cases h;refine⟨ys,rfl,rfl,t,rfl,fun k o h1 h2 ho hd=>?_⟩;rw[List.any_eq_false]at AHV;refine AHV (o,k) (Gi.2 ho) ?_;have e1:Nat.ble i k=true:=Au.2 h1;have e2:yu k j=true:=Bb.2 h2;simp only[e1,e2,AAg];rw[Ma,hd];simp
   ·cases h
 ·cases h
theorem Ex{j:Nat}{oj:AAA}:∀ {l:List (AAA×Nat)} {xs:List yN},apart ty all bs j oj l=some xs->∀ oi i,(oi,i)∈l->i<j->isB bs i j=false->AHU ty all xs i j oi oj
 |[],xs,_,oi,i,hm,_,_=>by cases hm
 |(o,k)::l,xs,h,oi,i,hm,hij,hB=>by
  unfold apart at h;have mono:∀ {ys:List yN} {x:yN},AHU ty all ys i j oi oj->AHU ty all (x::ys) i j oi oj:=fun h=>
   {h with wr:=fun a b h1 h2=>(h.wr a b h1 h2).imp (xZ _) id,rw':=fun a b h1 h2=>(h.rw' a b h1 h2).imp (xZ _) id}
  rcases xz.1 hm with he|hm
  ·obtain⟨e1,e2⟩:=Prod.mk.inj he
   subst e1;subst e2;have hc:(yu i j && !isB bs i j)=true:=by rw[hB,Bb.2 hij];rfl
   rw[hc]at h;simp only at h;unfold Zl at h;split at h
   ·rename_i hk
    exact⟨(fun x y h1=>by rw[hk]at h1;cases h1),(fun x h1=>by rw[hk]at h1;cases h1),(fun y h1=>by rw[hk]at h1;cases h1),(fun x y h1=>by rw[hk]at h1;cases h1),(fun x y h1=>by rw[hk]at h1;cases h1)⟩
   ·rename_i hk _
    exact⟨(fun x y _ h1=>by rw[hk]at h1;cases h1),(fun x _ h1=>by rw[hk]at h1;cases h1),(fun y _ h1=>by rw[hk]at h1;cases h1),(fun x y _ h1=>by rw[hk]at h1;cases h1),(fun x y _ h1=>by rw[hk]at h1;cases h1)⟩
   ·cases h
   ·cases h
   ·cases h
   ·rename_i hk1 hk2
    obtain⟨ys,_,rfl,t,ht,hw⟩:=JS h;exact⟨(fun x y _ h1=>by rw[hk2]at h1;cases h1),(fun x _ h1=>by rw[hk2]at h1;cases h1),(fun y h1=>by rw[hk1]at h1;cases h1),(fun x y h1 _=>by rw[hk1]at h1;cases h1;exact⟨xa,t,ht,hw⟩),(fun x y h1=>by rw[hk1]at h1;cases h1)⟩
   ·rename_i hk1 hk2
    obtain⟨ys,_,rfl,t,ht,hw⟩:=JS h;exact⟨(fun x y h1=>by rw[hk1]at h1;cases h1),(fun x h1=>by rw[hk1]at h1;cases h1),(fun y h1=>by rw[hk1]at h1;cases h1),(fun x y h1=>by rw[hk1]at h1;cases h1),(fun x y h1 _=>by rw[hk1]at h1;cases h1;exact⟨xa,t,ht,hw⟩)⟩
   ·rename_i q1 q2 q3 q4 q5 q6 q7
    exact⟨fun x y h1 h2=>q3 x y h1 h2,fun x h1 h2=>q4 x h1 h2,fun y h1 h2=>q5 y h1 h2,fun x y h1 h2=>(q6 x y h1 h2).elim,fun x y h1 h2=>(q7 x y h1 h2).elim⟩
  ·split at h
   ·exact Ex h oi i hm hij hB
   ·unfold Zl at h
    split at h
    ·exact Ex h oi i hm hij hB
    ·exact Ex h oi i hm hij hB
    ·cases h
    ·cases h
    ·cases h
    ·obtain⟨ys,h1,rfl,_⟩:=JS h
     exact mono (Ex h1 oi i hm hij hB)
    ·obtain⟨ys,h1,rfl,_⟩:=JS h
     exact mono (Ex h1 oi i hm hij hB)
    ·exact Ex h oi i hm hij hB
theorem JT{j i:Nat}{o:AAA}{ask:Nat->Kd->Bool}(ho:all[i]? =some o)(hij:i≠j)(h1:isB bs i j≠true)(h2:isB bs j i≠true)(ha:ask i (kd ty o.op)=true):loose ty all bs j ask=true:=by
 unfold loose;rw[List.any_eq_true];refine⟨(o,i),Gi.2 ho,?_⟩;have hb:xr i j=false:=by
  cases hb:xr i j with
  |false=>rfl
  |true=>exact absurd (Az.1 hb) hij
 simp only[hb,yh,AAg,gm h1 h2,ha]
inductive AFd (ty:TTy)(all:List AAA)(bs:List Nat)(j:Nat)(o:AAA)(xs:List yN):AEk->Prop
 |AER (hk:kd ty o.op=.q) (hs:AEu ty all bs j=true):AFd ty all bs j o xs (.quiet .AER)
 |weak (hk:kd ty o.op=.q) (hs:AEu ty all bs j=false):AFd ty all bs j o xs (.quiet .weak)
 |free (hk:kd ty o.op=.q) (hs:AEu ty all bs j=false) (hl:AFq ty all bs j=false):AFd ty all bs j o xs (.quiet .free)
 |alloc (hk:kd ty o.op=.a):AFd ty all bs j o xs (.quiet .AER)
 |read {x:yN} (hk:kd ty o.op=.r x):AFd ty all bs j o xs (AF2 (loose ty all bs j fun i k=>isQ k && !(AEu ty all bs i)) x xs)
 |write {x:yN} (hk:kd ty o.op=.w x):AFd ty all bs j o xs (.wr x xs)
 |AFp {x:yN} (hk:kd ty o.op=.w x) (hl:(loose ty all bs j fun _ k=>isR k)=false):AFd ty all bs j o xs (.quiet .free)
 |plain (hk:kd ty o.op=.p):AFd ty all bs j o xs .plain
theorem SC{j:Nat}{o:AAA}{ah:AEk}(h:LQ ty all bs j o=some ah):∃ xs,apart ty all bs j o all.zipIdx=some xs/\AFd ty all bs j o xs ah:=by
 unfold LQ at h;split at h
 ·cases h
 ·rename_i xs hx
  refine⟨xs,hx,?_⟩;split at h
  ·rename_i hk
   split at h
   ·rename_i hs;cases h;exact .AER hk hs
   ·rename_i hs _;cases h;exact .weak hk hs
   ·rename_i hs hl;cases h;exact .free hk hs hl
  ·rename_i hk;cases h;exact .alloc hk
  ·rename_i hk;cases h;exact .read hk
  ·rename_i hk
   split at h
   ·cases h;exact .write hk
   ·rename_i hl;cases h;exact .AFp hk hl
  ·rename_i q1 q2 q3 q4
   cases h;refine .plain ?_;cases hk:kd ty o.op with
   |p=>rfl
   |a=>exact absurd hk q2
   |r x=>exact absurd hk (q3 x)
   |w x=>exact absurd hk (q4 x)
   |q=>exact absurd hk q1
theorem NQ:∀ {l:List AAA} {j:Nat} {ahs:List AEk},OR ty all bs j l=some ahs->∀ k o,l[k]? =some o->LQ ty all bs (j+k) o=some (ahs.getD k .plain)
 |[],j,ahs,h,k,o,hk=>by cases hk
 |o'::l,j,ahs,h,k,o,hk=>by
  unfold OR at h;split at h
  ·rename_i a ha
   split at h
   ·rename_i r hr
    cases h;cases k with
    |zero=>cases hk;exact ha
    |succ k=>
     have:=NQ hr k o hk;have e:j+(k+1)=j.succ+k:=by omega
     rw[e];exact this
   ·cases h
  ·cases h
theorem L1{old:Bool}{x:yN}{xs:List yN}:(AF2 old x xs=.plain/\old=false/\xs=[])\/AF2 old x xs=.chk old x xs:=by
 unfold AF2;cases old<;>cases xs<;>first|exact .inl ⟨rfl,rfl,rfl⟩|exact .inr rfl
theorem AFd.ok{j:Nat}{o:AAA}{xs:List yN}{ah:AEk}(h:AFd ty all bs j o xs ah):AGf ty o ah:=by
 cases h with
 |AER hk _=>exact⟨(fun _ _ h=>by rw[hk]at h;rcases h with h|⟨_,h⟩<;>cases h),(fun _ _ h=>by cases h),(fun _ _ _ h=>by cases h)⟩
 |weak hk _=>exact⟨(fun _ _ h=>by rw[hk]at h;rcases h with h|⟨_,h⟩<;>cases h),(fun _ _ h=>by cases h),(fun _ _ _ h=>by cases h)⟩
 |free hk _ _=>exact⟨(fun _ _ h=>by rw[hk]at h;rcases h with h|⟨_,h⟩<;>cases h),(fun _ _ h=>by cases h),(fun _ _ _ h=>by cases h)⟩
 |alloc hk=>exact⟨(fun _ _ h=>by rw[hk]at h;rcases h with h|⟨_,h⟩<;>cases h),(fun _ _ h=>by cases h),(fun _ _ _ h=>by cases h)⟩
 |read hk=>
  rcases L1 (old:=loose ty all bs j fun i k=>isQ k && !(AEu ty all bs i)) (xs:=xs)with ⟨h,_⟩|h
  ·rw[h];exact .plain ty o
  ·rw[h];exact⟨(fun _ h=>by cases h),(fun _ _ h=>by cases h),(fun _ _ _ h=>by cases h;exact hk)⟩
 |write hk=>exact⟨(fun _ h=>by cases h),(fun _ _ h=>by cases h;exact hk),(fun _ _ _ h=>by cases h)⟩
 |AFp hk _=>exact⟨(fun _ _ h=>by rw[hk]at h;rcases h with h|⟨_,h⟩<;>cases h),(fun _ _ h=>by cases h),(fun _ _ _ h=>by cases h)⟩
 |plain hk=>exact .plain ty o
theorem AFd.AGe{j:Nat}{o:AAA}{xs:List yN}{ah:AEk}(h:AFd ty all bs j o xs ah):AIk ty o ah:=by
 cases h with
 |read hk=>exact .inl (.inr ⟨_,hk⟩)
 |plain hk=>exact .inl (.inl hk)
 |_=>exact .inr ⟨(fun h=>by cases h),(fun _ _ _ h=>by cases h)⟩
end
end
noncomputable section
open Go
section
variable {P:Program}{ty:TTy}{all:List AAA}{ρ:Nat->Rho}{H:Nat->Hp}{V:Nat->IN}{T:Nat->Nat->Prop}{run:Nat->Bool}{ahs:List AEk}{bs:List Nat}
theorem LA(hah:∀ j o,all[j]? =some o->∃ xs,apart ty all bs j o all.zipIdx=some xs/\AFd ty all bs j o xs (ahs.getD j .plain))(tr:Tr P ty all ahs all ρ H V run T){j:Nat}(hj:j<all.length):
  (H (j+1)).low<=(H j).low/\(H j).high<=(H (j+1)).high/\(∀ c,T j c->(H (j+1)).low<=c/\c<=(H (j+1)).high)/\(H (j+1)).mark=(H j).mark:=by
 have ho:all[j]? =some all[j]:=sh hj;obtain⟨xs,_,ha⟩:=hah j _ ho;rcases (tr.sf j _ ho).core with ⟨_,core⟩|⟨_,_,hh,hT⟩
 ·exact core.AGe ha.AGe
 ·rw[hh];exact⟨IT _,IT _,fun c hc=>absurd hc (hT c),rfl⟩
theorem EJ(hah:∀ j o,all[j]? =some o->∃ xs,apart ty all bs j o all.zipIdx=some xs/\AFd ty all bs j o xs (ahs.getD j .plain))(tr:Tr P ty all ahs all ρ H V run T){i:Nat}:
  ∀ {k:Nat},i<=k->k<=all.length->(H k).low<=(H i).low/\(H i).high<=(H k).high/\(H k).mark=(H i).mark:=by
 intro k h hk
 induction k with
 |zero=>have:i=0:=Nat.le_zero.1 h;subst this;exact⟨IT _,IT _,rfl⟩
 |succ k ih=>
  rcases yG k i with h2|h2
  ·have:i=k+1:=by omega
   subst this;exact⟨IT _,IT _,rfl⟩
  ·obtain⟨a1,a2,a3⟩:=ih h2 (by omega)
   obtain⟨b1,b2,_,b3⟩:=LA hah tr (j:=k) (by omega);exact⟨yP b1 a1,yP a2 b2,b3.trans a3⟩
theorem P8(tr:Tr P ty all ahs all ρ H V run T){t:Nat}{u:IN}{i k:Nat}(h:i<=k)(hk:k<=all.length)(hs:∀ m o,i<=m->m<k->all[m]? =some o->o.dst≠some t)(hu:evR (ρ k) (.tmp t)=some u):evR (ρ i) (.tmp t)=some u:=
 tr.backward h hk hs hu
theorem gx(hbs:bs=Du [] all)(he:Hx all=true)(hs:Jo all bs=true)
  (hah:∀ j o,all[j]? =some o->∃ xs,apart ty all bs j o all.zipIdx=some xs/\AFd ty all bs j o xs (ahs.getD j .plain))(tr:Tr P ty all ahs all ρ H V run T):
  Laws ty all ρ H T (fun i j=>isB bs i j=true):=by
 have len:∀ {i:Nat} {o:AAA},all[i]? =some o->i<all.length:=fun h=>(yD.1 h).1
 have AGA:∀ j oj c,all[j]? =some oj->T j c->Core P ty oj (ahs.getD j .plain) (ρ j) (H j) (H (j+1)) (V j) (T j):=by
  intro j oj c hj hc;rcases (tr.sf j oj hj).core with ⟨_,core⟩|⟨_,_,_,hT⟩
  ·exact core
  ·exact absurd hc (hT c)
 have kinds:∀ j oj c,all[j]? =some oj->T j c->(∃ x,kd ty oj.op=.w x)\/(kd ty oj.op=.q/\AEu ty all bs j=false):=by
  intro j oj c hj hc;have core:=AGA j oj c hj hc;obtain⟨xs,_,ha⟩:=hah j oj hj;generalize ahs.getD j .plain=ah at ha core;cases ha with
  |AER hk _=>exact absurd hc (core.AER rfl c)
  |weak hk h=>exact .inr ⟨hk,h⟩
  |free hk h _=>exact .inr ⟨hk,h⟩
  |alloc hk=>exact absurd hc (core.AER rfl c)
  |read hk=>exact absurd hc ((core.tp (.inr ⟨_,hk⟩)).1 c)
  |write hk=>exact .inl ⟨_,hk⟩
  |AFp hk _=>exact .inl ⟨_,hk⟩
  |plain hk=>exact absurd hc ((core.tp (.inl hk)).1 c)
 have held:∀ {i j oi oj},all[i]? =some oi->all[j]? =some oj->i<j->¬ isB bs i j=true->∃ xs,AFd ty all bs j oj xs (ahs.getD j .plain)/\AHU ty all xs i j oi oj:=by
  intro i j oi oj hi hj hij hB;obtain⟨xs,hx,ha⟩:=hah j oj hj;exact⟨xs,ha,Ex hx oi i (Gi.2 hi) hij (by cases h:isB bs i j<;>first|rfl|exact absurd h hB)⟩
 refine {lt:=fun i j h=>qz hbs he j i h,slots:=fun i j oi oj d hij hi hj hd hn=>be hs hij hi hj hd hn,kinds:=fun j oj c hj hc=>(kinds j oj c hj hc).imp id (·.1),fixed:=?_,reads:=?_,tlt:=?_,AHT:=?_,low:=?_,high:=?_}
 ·
  intro i j oi c hij hi hjn hc hki;have hj:all[j]? =some all[j]:=sh hjn;by_cases h1:isB bs i j=true
  ·exact .inl h1
  by_cases h2:isB bs j i=true
  ·exact .inr h2
  exfalso
  have hQQ:∀ {i j:Nat} {oi:AAA},all[i]? =some oi->i≠j->¬ isB bs i j=true->¬ isB bs j i=true->kd ty oi.op=.q->AEu ty all bs j=true:=fun hi hij h1 h2 hk=>by
   unfold AEu;exact JT hi hij h1 h2 (by rw[hk];rfl)
  rcases kinds j _ c hj hc with ⟨xj,hkj⟩|⟨hkj,hns⟩
  ·rcases ABW hij with h|h
   ·obtain⟨xs,_,hh⟩:=held hi hj h h1
    rcases hki with ⟨x,hki⟩|hki
    ·exact hh.ww x xj hki hkj
    ·exact hh.qw xj hki hkj
   ·obtain⟨xs,_,hh⟩:=held hj hi h h2
    rcases hki with ⟨x,hki⟩|hki
    ·exact hh.ww xj x hkj hki
    ·exact hh.wq xj hkj hki
  ·rcases hki with ⟨x,hki⟩|hki
   ·rcases ABW hij with h|h
    ·obtain⟨xs,_,hh⟩:=held hi hj h h1
     exact hh.wq x hki hkj
    ·obtain⟨xs,_,hh⟩:=held hj hi h h2
     exact hh.qw x hkj hki
   ·rw[hQQ hi hij h1 h2 hki]at hns;cases hns
 ·
  intro i j oi x c u hij hi hjn hc hki hu hb;have hj:all[j]? =some all[j]:=sh hjn;by_cases h1:isB bs i j=true
  ·exact .inl h1
  by_cases h2:isB bs j i=true
  ·exact .inr h2
  exfalso
  have core:=AGA j _ c hj hc;have hin:=len hi;have si:=(tr.sf i oi hi).side (by rw[hki];intro h;cases h);rcases kinds j _ c hj hc with ⟨xj,hkj⟩|⟨hkj,hns⟩
  ·
   have AHv:∃ xs,ahs.getD j .plain=.wr xj xs/\apart ty all bs j all[j] all.zipIdx=some xs:=by
    obtain⟨xs,hx,ha⟩:=hah j _ hj;generalize ahs.getD j .plain=ah at ha;cases ha with
    |write hk=>rw[hkj]at hk;cases hk;exact⟨xs,rfl,hx⟩
    |AFp hk hl=>
     have:=JT (ty:=ty) (ask:=fun _ k=>isR k) hi hij h1 h2 (by simp only[hki];rfl);rw[hl]at this;cases this
    |AER hk _=>rw[hkj]at hk;cases hk
    |weak hk _=>rw[hkj]at hk;cases hk
    |free hk _ _=>rw[hkj]at hk;cases hk
    |alloc hk=>rw[hkj]at hk;cases hk
    |read hk=>rw[hkj]at hk;cases hk
    |plain hk=>rw[hkj]at hk;cases hk
   obtain⟨xsj,hej,hxj⟩:=AHv;obtain⟨u',hu',hb'⟩:=core.wr xj xsj hej c hc;have sj:=(tr.sf j _ hj).side (by rw[hkj];intro h;cases h);rcases ABW hij with h|h
   ·
    have hh:=Ex hxj oi i (Gi.2 hi) h (by cases h:isB bs i j<;>first|rfl|exact absurd h h1);obtain⟨hm,t,rfl,hw⟩:=hh.rw' x xj hki hkj;obtain⟨_,hkn⟩:=sj.known xj xsj (.inl hej);obtain⟨u2,hu2⟩:=hkn _ hm;have AFn:=P8 tr (zI h) (zI hjn) (fun m o a1 a2 a3=>hw m o a1 a2 a3) hu2;rw[hu]at AFn;cases AFn;exact sj.wrx xj xsj hej _ hm u' u c hu' hu2 hb' hb
   ·
    obtain⟨xs,ha,hh⟩:=held hj hi h h2;obtain⟨hm,t,rfl,hw⟩:=hh.wr xj x hkj hki;have AJd:∃ old,ahs.getD i .plain=.chk old x xs:=by
     generalize ahs.getD i .plain=ah at ha;cases ha with
     |read hk=>
      rw[hki]at hk;cases hk;rcases L1 (x:=x) (old:=loose ty all bs i fun i k=>isQ k && !(AEu ty all bs i)) (xs:=xs)with ⟨_,_,h⟩|h
      ·subst h;cases hm
      ·exact⟨_,h⟩
     |AER hk _=>rw[hki]at hk;cases hk
     |weak hk _=>rw[hki]at hk;cases hk
     |free hk _ _=>rw[hki]at hk;cases hk
     |alloc hk=>rw[hki]at hk;cases hk
     |write hk=>rw[hki]at hk;cases hk
     |AFp hk _=>rw[hki]at hk;cases hk
     |plain hk=>rw[hki]at hk;cases hk
    obtain⟨old,hei⟩:=AJd;obtain⟨_,hkn⟩:=si.known x xs (.inr ⟨old,hei⟩);obtain⟨u2,hu2⟩:=hkn _ hm;have AFn:=P8 tr (zI h) (zI hin) (fun m o a1 a2 a3=>hw m o a1 a2 a3) hu2;rw[hu']at AFn;cases AFn;exact si.chk old x xs hei _ hm u u' c hu hu2 hb hb'
  ·
   have hwk:∀ c,T j c->(H j).mark<=c:=by
    obtain⟨xs,hx,ha⟩:=hah j _ hj;generalize ahs.getD j .plain=ah at ha core;cases ha with
    |weak hk _=>exact core.weak rfl
    |free hk _ hl=>
     have:AFq ty all bs j=true:=by
      unfold AFq;exact JT (ty:=ty) (ask:=fun _ k=> !isP k) hi hij h1 h2 (by simp only[hki];rfl)
     rw[hl]at this;cases this
    |AER hk h=>rw[hns]at h;cases h
    |alloc hk=>rw[hkj]at hk;cases hk
    |read hk=>rw[hkj]at hk;cases hk
    |write hk=>rw[hkj]at hk;cases hk
    |AFp hk _=>rw[hkj]at hk;cases hk
    |plain hk=>rw[hkj]at hk;cases hk
   have hold:∃ xs,ahs.getD i .plain=.chk true x xs:=by
    obtain⟨xs,hx,ha⟩:=hah i oi hi;generalize ahs.getD i .plain=ah at ha;cases ha with
    |read hk=>
     rw[hki]at hk;cases hk;have hl:(loose ty all bs i fun i k=>isQ k && !(AEu ty all bs i))=true:=
      JT hj (fun h=>hij h.symm) h2 h1 (by rw[hkj,hns];rfl)
     rw[hl];rcases L1 (x:=x) (old:=true) (xs:=xs)with ⟨_,h,_⟩|h
     ·cases h
     ·exact⟨xs,h⟩
    |AER hk _=>rw[hki]at hk;cases hk
    |weak hk _=>rw[hki]at hk;cases hk
    |free hk _ _=>rw[hki]at hk;cases hk
    |alloc hk=>rw[hki]at hk;cases hk
    |write hk=>rw[hki]at hk;cases hk
    |AFp hk _=>rw[hki]at hk;cases hk
    |plain hk=>rw[hki]at hk;cases hk
   obtain⟨xs,hei⟩:=hold;have h3:=si.old x xs hei u c hu hb;have h4:=hwk c hc;have m1:=(EJ hah tr (yK i) (zI hin)).2.2;have m2:=(EJ hah tr (yK j) (zI hjn)).2.2;omega
 ·intro j c hjn hc
  exact(AGA j _ c (sh hjn) hc).tlt c hc
 ·intro j c hjn hc
  obtain⟨_,_,h3,_⟩:=LA hah tr hjn;obtain⟨h4,h5⟩:=h3 c hc;obtain⟨h6,h7,_⟩:=EJ hah tr (i:=j+1) hjn (IT _);omega
 ·exact(EJ hah tr (yK _) (IT _)).1
 ·exact(EJ hah tr (yK _) (IT _)).2.1
theorem ZT(h:UT ty all=some ahs):∃ bs,bs=Du [] all/\Hx all=true/\Jo all bs=true/\∀ j o,all[j]? =some o->∃ xs,apart ty all bs j o all.zipIdx=some xs/\AFd ty all bs j o xs (ahs.getD j .plain):=by
 unfold UT at h;rw[Tn]at h;split at h
 ·rename_i hc
  simp only[yA]at hc;refine⟨_,rfl,hc.1,hc.2.2,fun j o ho=>?_⟩;have:=NQ h j o ho;rw[If]at this;exact SC this
 ·cases h
end
end
noncomputable section
open Go
theorem Ey{a b:Bool}(h:(bif a then b else false)=true):a=true/\b=true:=by cases a<;>first|exact⟨rfl,h⟩|cases h
section

end
end
noncomputable section
open Go
def Ag(S:List Nat)(e e':Env):Prop:=∀ t,t<240->t∉S->e'.get t=e.get t
theorem Ag.refl(S:List Nat)(e:Env):Ag S e e:=fun _ _ _=>rfl
theorem Ag.trans{S:List Nat}{e e1 e2:Env}(h:Ag S e e1)(h2:Ag S e1 e2):Ag S e e2:=fun t ht hn=>(h2 t ht hn).trans (h t ht hn)
def G5(S:List Nat)(e:Env):X->Prop
 |.no=>True
 |.norm e' _=>Ag S e e'
 |.exit _ e' _=>Ag S e e'
 |.ret e' _=>Ag S e e'
theorem G5.of{S:List Nat}{e e1:Env}{x:X}(h:Ag S e e1)(h2:G5 S e1 x):G5 S e x:=by
 cases x with
 |no=>trivial
 |norm _ _=>exact h.trans h2
 |exit _ _ _=>exact h.trans h2
 |ret _ _=>exact h.trans h2
def CH(S:List Nat)(c:C):Prop:=∀ F e h,G5 S e (c F e h)
theorem OQ{S:List Nat}{d:Nat}(hd:d∈S)(hl:d<240)(v:IN)(e:Env):Ag S e (Env.set d v e):=fun t ht hn=>by
 rw[Env.AEQ _ _ _ _ hl ht,if_neg (by rintro rfl;exact hn hd)]
theorem Pc{S:List Nat}:∀ (l:List Nat) (e:Env),(∀ d∈l,d∈S/\d<240)->Ag S e (Cz e l)
 |[],e,_=>.refl _ _
 |d::l,e,h=>(OQ (h d xa).1 (h d xa).2 _ e).trans (Pc l _ fun d hd=>h d (xZ _ hd))
section
variable {S:List Nat}
theorem Cj:CH S cNo:=fun _ _ _=>trivial
theorem Sr:CH S Aw:=fun _ e _=>.refl _ e
theorem Xa:CH S Aq:=fun _ e _=>.refl _ e
theorem Sp(id:Nat):CH S (B7 id):=fun _ e _=>.refl _ e
theorem QX{d:Nat}{f:OpF}{k:C}(hd:d∈S)(hl:d<240)(hk:CH S k):CH S (SB (FD d) f k):=fun F e h=>by
 unfold SB;cases f F e h with
 |no=>trivial
 |ok v h'=>
  show G5 S e (FD d (fun e=>k F e h') v e);rw[D0 d hl];exact .of (OQ hd hl v e) (hk F _ h')
theorem Zv{f:OpF}{k:C}(hk:CH S k):CH S (cDo f k):=fun F e h=>by
 unfold cDo;cases f F e h with
 |no=>trivial
 |ok v h'=>exact hk F e h'
theorem gp{g:Env->IN}{w:Bool}{d:Nat}{f:OpF}{k:C}(hd:d∈S)(hl:d<240)(hk:CH S k):CH S (cG g w (FD d) f k):=fun F e h=>by
 have h0:G5 S e (FD d (fun e=>k F e h) AED e):=by
  rw[D0 d hl];exact .of (OQ hd hl _ e) (hk F _ h)
 unfold cG;split
 ·rename_i b _
  cases (w == b)with
  |true=>exact QX hd hl hk F e h
  |false=>exact h0
 ·exact h0
 ·trivial
theorem KR{w:Env->IN}{rs:List (Env->IN)}{k:C}(hk:CH S k):CH S (Ci w rs k):=fun F e h=>by
 unfold Ci;split
 ·rename_i b _
  cases DA b e rs with
  |true=>exact hk F e h
  |false=>trivial
 ·exact hk F e h
theorem XZ{x:O}{k:C}(hk:CH S k):CH S (EI x k):=fun F e h=>by
 unfold EI;split
 ·rename_i b _
  cases yu b h.mark with
  |true=>exact hk F e h
  |false=>trivial
 ·exact hk F e h
theorem Sq{k:C}(hk:CH S k):CH S (B0 k):=fun F e h=>hk F e _
theorem Nz{a b:C}(ha:CH S a)(hb:CH S b):CH S (BI a b):=fun F e h=>by
 have:=ha F e h;unfold BI;cases hx:a F e h with
 |no=>trivial
 |norm e1 h1=>rw[hx]at this;exact .of this (hb F e1 h1)
 |exit i e1 h1=>rw[hx]at this;exact this
 |ret e1 h1=>rw[hx]at this;exact this
theorem Im{c:O}{a b:C}(ha:CH S a)(hb:CH S b):CH S (IR c a b):=fun F e h=>by
 show G5 S e (lW (c e) (a F e h) (b F e h));cases c e<;>first|trivial|skip
 rename_i t;cases t with
 |true=>exact ha F e h
 |false=>exact hb F e h
theorem Kz{id:Nat}{a:C}(ha:CH S a):CH S (Ab id a):=fun F e h=>by
 have:=ha F e h;unfold Ab;cases hx:a F e h with
 |no=>trivial
 |norm e1 h1=>rw[hx]at this;exact this
 |exit i e1 h1=>
  rw[hx]at this;show G5 S e (bif xr i id then .norm e1 h1 else .exit i e1 h1);cases xr i id<;>exact this
 |ret e1 h1=>rw[hx]at this;exact this
theorem MS{a:C}(ha:CH S a):∀ n,CH S (iter a n)
 |0=>fun _ _ _=>trivial
 |n+1=>fun F e h=>by
  have:=ha F e h;unfold iter;cases hx:a F e h with
  |no=>trivial
  |norm e1 h1=>rw[hx]at this;exact .of this (MS ha n F e1 h1)
  |exit i e1 h1=>rw[hx]at this;exact this
  |ret e1 h1=>rw[hx]at this;exact this
theorem MT{a:C}(ha:CH S a):CH S (A3 a):=MS ha rounds
theorem Ny{e:Env}{c:Bool}{x:X}(hx:G5 S e x):G5 S e (bif c then x else .no):=by
 cases c
 ·trivial
 ·exact hx
theorem Ss{k:Walk}{a:C}(hw:∀ d∈k.ws,d∈S/\d<240)(hm:k.more∈S/\k.more<240)(hr:∀ d∈k.rs,d∈S/\d<240)(ha:CH S a):CH S (I6 k a):=fun F e h=>by
 have hl:=MT ha F e h;have hcl:∀ b,G5 S e (Fm k a F e h b):=fun b=>by
  unfold Fm;split
  ·exact(Pc _ _ hw).trans (OQ hm.1 hm.2 _ _)
  ·trivial
 unfold I6;cases J k.it e<;>first|trivial|skip
 rename_i o;cases o with
 |none=>trivial
 |some ad=>
  simp only;cases EM (h.bl.get ad.block)with
  |ok m since seen last=>
   cases m with
   |none=>exact hl
   |some m=>
    cases seen with
    |cons _ _=>trivial
    |nil=>
     simp only;cases Bl h m with
     |no=>trivial
     |ok es c=>
      cases es with
      |nil=>exact hl
      |cons x l=>
       cases l with
       |nil=>exact hl
       |cons y l=>
        show G5 S e (bif xr ad.off 0 then(bif Nat.ble 256 ad.block then Fm k a F e h ad.block else .no)else .no);exact Ny (Ny (hcl _))
  |_=>exact hl
end
theorem ZW{o:AAA}{d:Nat}(hd:o.dst=some d):∀ (l:List AAA),o∈l->d∈JG l:=by
 intro l
 induction l with
 |nil=>intro h;cases h
 |cons p l ih=>
  intro h;unfold JG;rcases xz.1 h with h|h
  ·rw[<- h,hd];exact xa
  ·have:=ih h
   split
   ·exact xZ _ this
   ·exact this
theorem ES:∀ {c:ADU} {d:Nat},d∈It c->d∈wrs c
 |.seq a b,d,h=>by
  have h0:d∈It a++It b->d∈wrs a++wrs b:=fun h=>by
   rcases yL.1 h with h|h
   ·exact yX _ (ES h)
   ·exact yR _ (ES h)
  unfold It at h;split at h
  ·split at h
   ·exact yX _ h
   ·exact yX _ (ES h)
  ·exact h0 h
 |.cond _ a b,d,h=>by
  have h:d∈It a++It b:=h;rcases yL.1 h with h|h
  ·exact yX _ (ES h)
  ·exact yR _ (ES h)
 |.block _ a,d,h=>ES (c:=a) h
 |.loop a,d,h=>ES (c:=a) h
 |.scope a,d,h=>ES (c:=a) h
 |.region _ _ _,d,h=>by cases h
 |.skip,d,h=>by cases h
 |.exit _,d,h=>by cases h
 |.ret,d,h=>by cases h
 |.rangeFunc _ _ _ _,d,h=>by cases h
 |.label _,d,h=>by cases h
 |.goto _,d,h=>by cases h
 |.refuse _,d,h=>by cases h
theorem UW:∀ {l:List Nat},gV l=true->∀ d∈l,d<240
 |d::l,h,x,hx=>by
  unfold gV at h;split at h
  ·rename_i hb
   rcases xz.1 hx with rfl|hx
   ·exact Bb.1 hb
   ·exact UW h x hx
  ·cases h
structure AFY (A:List Nat)(a:ADU)(k:Walk)(id:Nat)(o1 o2:AAA)(r2:ADU):Prop where
 code:a=.seq (.region id #[o1,o2] false) (.seq (.cond (.tmp k.more) .skip (.exit k.out)) r2)
 op1:o1.op=.next (.tmp k.it) false
 AGP:o1.dst=some k.nx
 AHw:o1.guard=none
 op2:o2.op=.extract (.tmp k.nx) 0
 AGh:o2.dst=some k.more
 AHx:o2.guard=none
 ne:k.nx≠k.more
 itA:memN k.it A=false
 nxA:memN k.nx A=false
 moA:memN k.more A=false
 itL:k.it<240
 nxL:k.nx<240
 moL:k.more<240
 ws:k.ws=wrs a
 itW:k.it∉k.ws
 few:∀ d∈k.ws,d<240
 rs:∀ d∈k.rs,d∈k.ws
theorem MZ{t:Nat}:∀ {l:List Nat},memN t l=false->t∉l
 |d::l,h,hm=>by
  unfold memN at h;split at h
  ·cases h
  ·rename_i hb
   rcases xz.1 hm with rfl|hm
   ·rw[zU]at hb;cases hb
   ·exact MZ h hm
theorem jH{more out:Nat}{c:ADU}(h:wM more c=some out):∃ r2,c=.seq (.cond (.tmp more) .skip (.exit out)) r2:=by
 cases c with
 |seq a r=>cases a with
  |cond c x y=>cases c with
   |tmp t=>cases x with
    |skip=>cases y with
     |exit id=>
      have h:(match xr t more with|true=>some id|false=>none)=some out:=h;cases hb:xr t more with
      |false=>rw[hb]at h;cases h
      |true=>
       rw[hb]at h;cases h;have:=Az.1 hb;subst this;exact⟨r,rfl⟩
     |_=>cases h
    |_=>cases h
   |_=>cases h
  |_=>cases h
 |_=>cases h
theorem Rv{A:List Nat}{a:ADU}{k:Walk}(h:WD A a=some k):∃ id o1 o2 r2,AFY A a k id o1 o2 r2:=by
 unfold WD at h;split at h
 case h_2=>cases h
 rename_i x rest;split at h
 case h_2=>cases h
 rename_i id ops draw;split at h
 case h_2=>cases h
 unfold WC at h;split at h
 case h_2=>cases h
 rename_i o1 l1 hl0;split at h
 case h_2=>cases h
 rename_i o2 l2;split at h
 case h_2=>cases h
 split at h
 case h_2=>cases h
 rename_i x str AJe;split at h
 case h_2=>cases h
 rename_i it;split at h
 case h_2=>cases h
 split at h
 case h_2=>cases h
 rename_i nx hd1 hg1;split at h
 case h_2=>cases h
 rename_i y i AJf;split at h
 case h_2=>cases h
 rename_i n2;split at h
 case h_2=>cases h
 rename_i more hd2 hg2;split at h
 case h_2=>cases h
 rename_i hb;split at h
 case h_2=>cases h
 rename_i out hout;cases h;simp only[yA,AAz]at hb;obtain⟨b1,b2,b3,b4,b5,b6,b7,b8,b9,b10,b11⟩:=hb;obtain⟨r2,rfl⟩:=jH hout;have e1:=Az.1 b1;have e2:=Az.1 b2;subst e1;subst e2;have AJg:ops= #[o1,o2]:=zF hl0;subst AJg;refine⟨id,o1,o2,r2,{code:=rfl,op1:=AJe,AGP:=hd1,AHw:=hg1,op2:=AJf,AGh:=hd2,AHx:=hg2,ne:=FL b3,itA:=b4,nxA:=b5,moA:=b6,itL:=Bb.1 b7,nxL:=Bb.1 b8,moL:=Bb.1 b9,ws:=?_,itW:=MZ b10,few:=?_,rs:=?_}⟩
 ·show _=JG [o1,o2]++_
  simp only[JG,hd1,hd2];rfl
 ·intro d hd
  rcases xz.1 hd with rfl|hd
  ·exact Bb.1 b8
  ·rcases xz.1 hd with rfl|hd
   ·exact Bb.1 b9
   ·exact UW b11 d hd
 ·intro d hd
  exact xZ _ (xZ _ (ES hd))
section
variable {ty:TTy}{A S:List Nat}
theorem HZ{f:Fr}{a:AEk}{o:OpF}{k:OpF->C}(hk:∀ p,CH S (k p)):CH S (HG f a o k):=by
 unfold HG;split
 ·exact hk _
 ·exact hk _
 ·split
  ·exact KR (hk _)
  ·exact Cj
 ·split
  ·split
   ·exact XZ (KR (hk _))
   ·exact KR (hk _)
  ·exact Cj
theorem KT{all:List AAA}{k:Sg->C}(hk:∀ σ,CH S (k σ)):∀ (l:List AAA) (ah:List AEk) (σ:Sg),(∀ o∈l,∀ d,o.dst=some d->d∈S)->CH S (Gn ty A all k ah l σ)
 |[],ah,σ,_=>by unfold Gn;exact hk σ
 |o::l,ah,σ,h=>by
  have ih:∀ ah σ,CH S (Gn ty A all k ah l σ):=fun ah σ=>KT hk l ah σ fun o ho=>h o (xZ _ ho)
  have hd:=h o xa;unfold Gn;split
  ·exact HZ fun p=>Zv (ih _ _)
  ·rename_i d _ hdd
   split
   ·split
    ·split
     ·exact ih _ _
     ·exact Cj
    ·exact Cj
   ·split
    ·rename_i hb
     exact HZ fun p=>QX (hd d hdd) (Bb.1 hb) (ih _ _)
    ·exact Cj
  ·rename_i d _ hdd
   split
   ·exact Cj
   ·split
    ·split
     ·split
      ·split
       ·rename_i hb
        exact HZ fun p=>gp (hd d hdd) (Bb.1 hb) (ih _ _)
       ·exact Cj
      ·exact Cj
     ·exact Cj
    ·exact Cj
  ·exact Cj
theorem Gh{k:Option (Sg->C)}(hk:∀ k',k=some k'->∀ σ,CH S (k' σ))(σ:Sg):CH S (LB k σ):=by
 cases k with
 |none=>exact Sr
 |some k=>exact hk k rfl σ
theorem CU:∀ (c:ADU) {σ:Sg} {k:Option (Sg->C)},(∀ d∈wrs c,d∈S)->(∀ k',k=some k'->∀ σ,CH S (k' σ))->CH S (Bv ty A c σ k)
 |.skip,σ,k,hw,hk=>Gh hk σ
 |.region _ ops draw,σ,k,hw,hk=>by
  have ho:∀ o∈ops.toList,∀ d,o.dst=some d->d∈S:=fun o ho d hd=>hw d (ZW hd _ ho)
  unfold Bv;split
  ·exact KT (fun σ=>Gh hk σ) _ _ _ ho
  ·split
   ·exact Sq (KT (fun σ=>Gh hk σ) _ _ _ ho)
   ·exact Cj
 |.seq a b,σ,k,hw,hk=>by
  have h1:∀ d∈wrs a,d∈S:=fun d hd=>hw d (yX _ hd)
  have h2:∀ d∈wrs b,d∈S:=fun d hd=>hw d (yR _ hd)
  exact CU a (σ:=σ) (k:=some fun σ=>Bv ty A b σ k) h1 fun k' e σ=>by cases e;exact CU b h2 hk
 |.cond c a b,σ,k,hw,hk=>by
  have h1:∀ d∈wrs a,d∈S:=fun d hd=>hw d (yX _ hd)
  have h2:∀ d∈wrs b,d∈S:=fun d hd=>hw d (yR _ hd)
  unfold Bv;split
  ·split
   ·exact Im (CU a h1 fun _ e=>by cases e) (CU b h2 fun _ e=>by cases e)
   ·rename_i k'
    split
    ·exact Nz (Im (CU a h1 fun _ e=>by cases e) (CU b h2 fun _ e=>by cases e)) (hk k' rfl [])
    ·exact Im (CU a h1 hk) (CU b h2 hk)
  ·exact Cj
 |.block id a,σ,k,hw,hk=>by
  have h1:∀ d∈wrs a,d∈S:=hw;unfold Bv;split
  ·exact Kz (CU a h1 fun _ e=>by cases e)
  ·rename_i k'
   exact Nz (Kz (CU a h1 fun _ e=>by cases e)) (hk k' rfl [])
 |.loop a,σ,k,hw,hk=>by
  have h1:∀ d∈wrs a,d∈S:=hw;have h2:CH S (Bv ty A a [] none):=CU a h1 fun _ e=>by cases e
  unfold Bv;split
  ·rename_i k hk
   obtain⟨id,o1,o2,r2,W⟩:=Rv hk;have hm:∀ d∈k.ws,d∈S/\d<240:=fun d hd=>⟨h1 d (W.ws ▸ hd),W.few d hd⟩
   refine Ss hm (hm _ ?_) (fun d hd=>hm d (W.rs d hd)) h2;rw[W.ws,W.code];show _∈JG [o1,o2]++_;simp[JG,W.AGP,W.AGh]
  ·exact MT h2
 |.exit id,σ,k,hw,hk=>Sp id
 |.ret,σ,k,hw,hk=>Xa
 |.scope a,σ,k,hw,hk=>CU a (σ:=σ) (k:=k) hw hk
 |.label _,σ,k,hw,hk=>Gh hk σ
 |.rangeFunc _ _ _ _,σ,k,hw,hk=>Cj
 |.goto _,σ,k,hw,hk=>Cj
 |.refuse _,σ,k,hw,hk=>Cj
end
structure Good (ty:TTy)(A:List Nat)(N:Nat)(φ:Phi)(h:Hp)(w:yQ)(σ:Sg)(e:Env)(h':Hp)(ψ:Phi)(a:Act)(w':yQ):Prop where
 sg:AFV A σ
 rel:AEI ty ψ nil h' w'
 ar:AR N ψ (AEW A σ e) a
 evo:Evo φ h w ψ h' w'
section
variable {P:Program}{ty:TTy}{F:AEA}{A:List Nat}{N:Nat}
theorem jY{σ:Sg}(hS:AFV A σ){e:Env}{t:Nat}{u:IN}(h:AEW A [] e t=some u):AEW A σ e t=some u:=by
 rw[ET]at h ⊢;have h:(match memN t A with|true=>none|false=>match yu t 240 with|true=>some (J t e)|false=>none)=some u:=h;cases hf:Da t σ with
 |some s=>
  have:=hS.mem _ (Ef hf);simp only at this;rw[this]at h;cases h
 |none=>exact h
theorem AR.nil{φ:Phi}{σ:Sg}{e:Env}{a:Act}(hS:AFV A σ)(h:AR N φ (AEW A σ e) a):AR N φ (AEW A [] e) a:=⟨h.size,h.defs,fun t u hu=>h.rel t u (jY hS hu)⟩
theorem Good.nil{φ ψ:Phi}{h h':Hp}{w w':yQ}{σ:Sg}{e:Env}{a:Act}(g:Good ty A N φ h w σ e h' ψ a w'):Good ty A N φ h w [] e h' ψ a w':=⟨.nil A,g.rel,g.ar.nil g.sg,g.evo⟩
theorem Good.trans{φ ψ χ:Phi}{h h' h2:Hp}{w w' w2:yQ}{σ σ2:Sg}{e e2:Env}{a a2:Act}(g:Good ty A N φ h w σ e h' ψ a w')(g2:Good ty A N ψ h' w' σ2 e2 h2 χ a2 w2):Good ty A N φ h w σ2 e2 h2 χ a2 w2:=
 ⟨g2.sg,g2.rel,g2.ar,g.evo.trans g2.evo⟩
structure Post (ty:TTy)(A:List Nat)(N:Nat)(F:AEA)(φ:Phi)(h:Hp)(w:yQ)(k:Option (Sg->C))(X:X)(Q:Exit->Act->yQ->Prop):Prop where
 go:∀ k',k=some k'->∀ σ e h' ψ a' w',Good ty A N φ h w σ e h' ψ a' w'->k' σ F e h'=X->Q .normal a' w'
 norm:k=none->∀ e h' ψ a' w',Good ty A N φ h w [] e h' ψ a' w'->X=.norm e h'->Q .normal a' w'
 exit:∀ id e h' ψ a' w',Good ty A N φ h w [] e h' ψ a' w'->X=.exit id e h'->Q (.exit id) a' w'
 ret:∀ e h' ψ a' w',Good ty A N φ h w [] e h' ψ a' w'->X=.ret e h'->Q .ret a' w'
theorem Post.then{φ:Phi}{h:Hp}{w:yQ}{k:Option (Sg->C)}{X:X}{Q:Exit->Act->yQ->Prop}(p:Post ty A N F φ h w k X Q){σ:Sg}{e:Env}{h':Hp}{ψ:Phi}{a':Act}{w':yQ}(g:Good ty A N φ h w σ e h' ψ a' w')(hx:LB k σ F e h'=X):Q .normal a' w':=by
 cases k with
 |none=>exact p.norm rfl e h' ψ a' w' g.nil hx.symm
 |some k'=>exact p.go k' rfl σ e h' ψ a' w' g hx
theorem Z7{w:yQ}{pb mb clk:Nat}{seen:List Nat}{es:List yn}{t:TypeId}(hw:w.heap[pb]? =some (.mapIter (some mb) clk ⟨seen⟩ clk))(hm:w.heap[mb]? =some (.map ⟨es⟩ clk))(hb:∀ x∈es,x.born<clk):
  ((∀ x∈es,x.born∈seen)/\(zd (.pointer (some ⟨pb,0,none⟩)) false t).run P w=.ok (.tuple #[.bool false]) w)\/
  ∃ x∈es,x.born∉seen/\∃ w1:yQ,w1.heap=w.heap/\w1.tape=w.tape/\w1.os=w.os/\w1.output=w.output/\
   (zd (.pointer (some ⟨pb,0,none⟩)) false t).run P w=.ok (.tuple #[.bool true,x.key,x.val]) {w1 with heap:=w1.heap.setIfInBounds pb (.mapIter (some mb) clk ⟨seen++[x.born]⟩ clk)}:=by
 have hstop:(!(⟨seen⟩:Array Nat).isEmpty && !(⟨es⟩:Array yn).isEmpty && (⟨es⟩:Array yn).all (fun e=>decide (e.born>=clk)))=false:=by
  cases es with
  |nil=>simp
  |cons x l=>
   have:=hb x xa;simp[Nat.not_le.2 this]
 generalize hl:es.filter (fun e=> !seen.contains e.born)=left;have hmem:∀ x∈left,x∈es/\x.born∉seen:=fun x hx=>by
  rw[<- hl,yY]at hx;exact⟨hx.1,by simpa using hx.2⟩
 have hlt:∀ x∈left,x.born<clk:=fun x hx=>hb x (hmem x hx).1
 have f1:(⟨es⟩:Array yn).filter (fun e=> !(⟨seen⟩:Array Nat).contains e.born)=⟨left⟩:=by
  rw[<- hl];apply zF;simp
 have f2:(⟨left⟩:Array yn).filter (fun e=>decide (e.born<clk))=⟨left⟩:=by
  apply zF;rw[ABT];exact List.filter_eq_self.2 fun x hx=>by simpa using hlt x hx
 have f3:(⟨left⟩:Array yn).filter (fun e=>decide (e.born>=clk))= #[]:=by
  apply zF;rw[ABT];exact List.filter_eq_nil_iff.2 fun x hx=>by simpa using hlt x hx
 cases hc:left with
 |nil=>
  left;refine⟨fun x hx=>?_,?_⟩
  ·by_cases hs:x.born∈seen
   ·exact hs
   ·have:x∈left:=by rw[<- hl,yY];exact⟨hx,by simpa using hs⟩
    rw[hc]at this;cases this
  ·subst hc
   simp only[zd,xh,CF hw rfl,xU,CF hm rfl,hstop,yT,if_false,f1,f2,f3];simp[run_choose,AAq]
 |cons y ys=>
  right;have hpos:0<left.length:=by rw[hc];simp
  have hne:(⟨left⟩:Array yn).isEmpty=false:=by rw[hc];simp
  have key:∀ (i:Nat) (hi:i<left.length) (w1:yQ),(choose (.mapNext left.length)).run P w=.ok i w1->w1.heap=w.heap->
    (zd (.pointer (some ⟨pb,0,none⟩)) false t).run P w=.ok (.tuple #[.bool true,(left[i]).key,(left[i]).val]) {w1 with heap:=w1.heap.setIfInBounds pb (.mapIter (some mb) clk ⟨seen++[(left[i]).born]⟩ clk)}:=by
   intro i hi w1 hch hh;have AHy:((#[]:Array (Option yn))++((⟨left⟩:Array yn)++ #[]).map some)[i]? =some (some left[i]):=by
    simp[sh hi]
   have hsz:((#[]:Array (Option yn))++((⟨left⟩:Array yn)++ #[]).map some).size=left.length:=by simp
   have AEl:=Fb (P:=P) (w:=w1) (ob':=.mapIter (some mb) clk ⟨seen++[(left[i]).born]⟩ clk) (by rw[hh];exact hw) rfl;simp only[zd,xh,CF hw rfl,xU,CF hm rfl,hstop,yT,if_false,f1,f2,f3,hne,hsz,hch,AHy];have AGX:(⟨seen⟩:Array Nat).push (left[i]).born=⟨seen++[(left[i]).born]⟩:=by apply zF;simp
   rw[AGX,AEl];simp
  have pick:∀ (i:Nat) (hi:i<left.length) (w1:yQ),(choose (.mapNext left.length)).run P w=.ok i w1->w1.heap=w.heap->w1.tape=w.tape->w1.os=w.os->w1.output=w.output->
    ∃ x∈es,x.born∉seen/\∃ w1:yQ,w1.heap=w.heap/\w1.tape=w.tape/\w1.os=w.os/\w1.output=w.output/\
     (zd (.pointer (some ⟨pb,0,none⟩)) false t).run P w=.ok (.tuple #[.bool true,x.key,x.val]) {w1 with heap:=w1.heap.setIfInBounds pb (.mapIter (some mb) clk ⟨seen++[x.born]⟩ clk)}:=by
   intro i hi w1 hch h1 h2 h3 h4;have:=hmem left[i] (List.getElem_mem hi);exact⟨left[i],this.1,this.2,w1,h1,h2,h3,h4,key i hi w1 hch h1⟩
  by_cases hf:left.length<=1
  ·exact pick 0 hpos w (by rw[run_choose];simp[AAq,hf]) rfl rfl rfl rfl
  ·exact pick (w.tape w.drawn (.mapNext left.length) % left.length) (Nat.mod_lt _ hpos) {w with drawn:=w.drawn+1} (by rw[run_choose];simp[AAq,hf,Question.cut]) rfl rfl rfl rfl
theorem Jx{o:AAA}(h:o.guard=none)(f:Nat->Option Bool):ABN o f=true:=by
 unfold ABN;rw[h]
theorem jT(a:Act)(d:Nat)(v:IN)(t:Nat):(a.put (some d) v).eval (.tmp t)=if d=t/\t<a.tmps.size then v else a.eval (.tmp t):=by
 show(a.put (some d) v).tmps.getD t undef=_;rw[Hi];by_cases h:d=t
 ·subst h;simp[Act.eval]
 ·rw[if_neg (fun h2=>h (Option.some.inj h2.1)),if_neg (fun h2=>h h2.1)];rfl
theorem YA{k:Walk}{a0:ADU}{id:Nat}{o1 o2:AAA}{r2:ADU}(W:AFY A a0 k id o1 o2 r2){a:Act}{w:yQ}{pb mb clk:Nat}{seen:List Nat}{es:List yn}
  (hit:a.eval (.tmp k.it)=.pointer (some ⟨pb,0,none⟩))(hnx:k.nx<a.tmps.size)(hw:w.heap[pb]? =some (.mapIter (some mb) clk ⟨seen⟩ clk))(hm:w.heap[mb]? =some (.map ⟨es⟩ clk))(hb:∀ x∈es,x.born<clk)
  {Q:Exit->Act->yQ->Prop}(AHz:(∀ x∈es,x.born∈seen)->Q .normal ((a.put (some k.nx) (.tuple #[.bool false])).put (some k.more) (.bool false)) w)
  (hgo:∀ x∈es,x.born∉seen->∀ w1:yQ,w1.heap=w.heap.setIfInBounds pb (.mapIter (some mb) clk ⟨seen++[x.born]⟩ clk)->w1.tape=w.tape->w1.os=w.os->w1.output=w.output->
   Q .normal ((a.put (some k.nx) (.tuple #[.bool true,x.key,x.val])).put (some k.more) (.bool true)) w1):
  (ADn id #[o1,o2] false).wp P Q a w:=by
 refine wp_region_list ?_;have hx1:execOp a.eval o1=(do pure (.value (<- zd (a.eval (.tmp k.it)) false o1.type))):=by unfold execOp;rw[W.op1]
 have two:∀ (c:Bool) (vs:Array IN) (w1:yQ),Q .normal ((a.put (some k.nx) (.tuple (#[.bool c]++vs))).put (some k.more) (.bool c)) w1->wpList P #[o1,o2] Q [o2] (a.put (some k.nx) (.tuple (#[.bool c]++vs))) w1:=by
  intro c vs w1 hq;unfold wpList;rw[if_pos (Jx W.AHx _)];refine .inl ?_;have hx2:execOp (a.put (some k.nx) (.tuple (#[.bool c]++vs))).eval o2=(do pure (.value (<- ABa ((a.put (some k.nx) (.tuple (#[.bool c]++vs))).eval (.tmp k.nx)) 0))):=by unfold execOp;rw[W.op2]
  unfold Oper.wp;rw[hx2,jT,if_pos ⟨rfl,hnx⟩];have hex:(ABa (.tuple (#[.bool c]++vs)) 0).run P w1=.ok (.bool c) w1:=by
   have h0:(#[Value.bool c]++vs)[0]? =some (.bool c):=by simp[Array.getElem?_append]
   simp only[ABa,h0,xk]
  rw[xh,hex,xU,xk,ABo,W.AGh];exact hq
 show wpList P #[o1,o2] Q [o1,o2] a w;rw[show wpList P #[o1,o2] Q [o1,o2] a w=(if ABN o1 (yielded #[o1,o2] a.tmps)then o1.wp P a w (wpList P #[o1,o2] Q [o2]) Q\/(o1.asks P a w/\LetsOut Q)else wpList P #[o1,o2] Q [o2] (a.put o1.dst undef) w)from rfl];rw[if_pos (Jx W.AHw _)];refine .inl ?_;unfold Oper.wp;rw[hx1,hit];rcases Z7 (P:=P) (t:=o1.type) hw hm hb with ⟨hall,hrun⟩|⟨x,hx,hns,w1,e1,e2,e3,e4,hrun⟩
 ·rw[xh,hrun,xU,xk,ABo,W.AGP]
  exact two false #[] w (AHz hall)
 ·rw[xh,hrun,xU,xk,ABo,W.AGP]
  exact two true #[x.key,x.val] _ (hgo x hx hns _ (by rw[e1]) e2 e3 e4)
theorem Iy{φ:Phi}{e:Env}{a:Act}:AR N φ (AEW A [] e) a↔a.tmps.size=N/\a.defers=[]/\∀ t,t<240->memN t A=false->AEE φ (e.get t) (a.tmps.getD t undef):=by
 have hr:∀ t u,AEW A [] e t=some u↔(memN t A=false/\t<240/\e.get t=u):=fun t u=>by
  rw[ET];show(match memN t A with|true=>none|false=>match yu t 240 with|true=>some (J t e)|false=>none)=some u↔_;cases memN t A with
  |true=>simp
  |false=>
   cases hb:yu t 240 with
   |true=>
    have:=Bb.1 hb;simp only[C9 t this,Option.some.injEq,true_and,this]
   |false=>
    have:¬ t<240:=fun h=>by rw[Bb.2 h]at hb;cases hb
    simp[this]
 constructor
 ·exact fun h=>⟨h.size,h.defs,fun t ht hA=>h.rel t _ ((hr t _).2 ⟨hA,ht,rfl⟩)⟩
 ·exact fun⟨h1,h2,h3⟩=>⟨h1,h2,fun t u hu=>by obtain⟨q1,q2,rfl⟩:=(hr t u).1 hu;exact h3 t q2 q1⟩
theorem Ie:∀ (l:List Nat) (e:Env) (t:Nat),(∀ d∈l,d<240)->t<240->(Cz e l).get t=if t∈l then .chan none else e.get t
 |[],e,t,_,_=>by simp[Cz]
 |d::l,e,t,hl,ht=>by
  unfold Cz;rw[Ie l _ t (fun d hd=>hl d (xZ _ hd)) ht,Env.AEQ _ _ _ _ (hl d xa) ht];by_cases h1:t∈l
  ·simp[h1]
  ·by_cases h2:t=d
   ·simp[h1,h2]
   ·simp[h1,h2]
theorem Iu{clk:Nat}:∀ {es:List Ent} {lo:Nat},FK clk lo es=true->∀ x∈es,lo<=x.born/\x.born<clk
 |e::l,lo,h,x,hx=>by
  unfold FK at h;obtain⟨h1,h⟩:=Ey h;obtain⟨h2,h⟩:=Ey h;have h1:=Au.1 h1;have h2:=Bb.1 h2;rcases xz.1 hx with rfl|hx
  ·exact⟨h1,h2⟩
  ·have:=Iu h x hx
   have h3:e.born+1<=x.born:=this.1;exact⟨by omega,this.2⟩
theorem PL{φ:Phi}:∀ {es:List Ent} {es':List yn} {x':yn},AE8 φ es es'->x'∈es'->∃ x∈es,x.born=x'.born
 |_,_,x',.cons (k:=k) (v:=v) (b:=b) hk hv t,hx=>by
  rcases xz.1 hx with rfl|hx
  ·exact⟨⟨k,v,b⟩,xa,rfl⟩
  ·obtain⟨x,h1,h2⟩:=PL t hx
   exact⟨x,xZ _ h1,h2⟩
theorem RF{φ:Phi}{clk:Nat}:∀ {es:List Ent} {es':List yn} {lo:Nat} {x':yn},AE8 φ es es'->FK clk lo es=true->x'∈es'->∃ x,GL x'.born es=some x/\AEE φ x.key x'.key/\AEE φ x.val x'.val
 |_,_,lo,x',.cons (k:=k) (v:=v) (b:=b) (l:=l) hk hv t,hr,hx=>by
  unfold GL;rcases xz.1 hx with rfl|hx
  ·rw[zU];exact⟨_,rfl,hk,hv⟩
  ·unfold FK at hr
   obtain⟨_,hr⟩:=Ey hr;obtain⟨_,hr⟩:=Ey hr;obtain⟨y,hy,he⟩:=PL t hx;have h3:b+1<=y.born:=(Iu hr y hy).1;have hb:xr b x'.born=false:=by
    cases hb:xr b x'.born with
    |false=>rfl
    |true=>have:=Az.1 hb;omega
   rw[hb];exact RF t hr hx
theorem cL{k:Walk}{a0:ADU}{id:Nat}{o1 o2:AAA}{r2:ADU}(W:AFY A a0 k id o1 o2 r2):
  Bv ty A a0 [] none=SB (FD k.nx) (HD (J k.it)) (SB (FD k.more) (Aa 0 (J k.nx)) (Bv ty A (.seq (.cond (.tmp k.more) .skip (.exit k.out)) r2) [] none)):=by
 have hA:∀ t,memN t A=false->t<240->cO ⟨A,[]⟩ (.tmp t)=some (J t):=fun t h1 h2=>by
  show(match PN A [] (.tmp t)with|some s=>some (LO s)|none=>none)=_;show(match (match memN t A with|true=>none|false=>match yu t 240 with|true=>some (Src.s t)|false=>none)with|some s=>some (LO s)|none=>none)=_;rw[h1,Bb.2 h2];rfl
 rw[W.code];show Bv ty A (.region id #[o1,o2] false) [] (some fun σ=>Bv ty A (.seq (.cond (.tmp k.more) .skip (.exit k.out)) r2) σ none)=_;show Gn ty A [o1,o2] (LB (some fun σ=>Bv ty A (.seq (.cond (.tmp k.more) .skip (.exit k.out)) r2) σ none)) [] [o1,o2] []=_;unfold Gn;rw[W.AHw,W.AGP];simp only[W.nxA,Bb.2 W.nxL];unfold Gn;rw[W.AHx,W.AGh];simp only[W.moA,Bb.2 W.moL];have e1:opC ty ⟨A,[]⟩ o1.op=HD (J k.it):=by
  rw[W.op1];show w1 ⟨A,[]⟩ (.tmp k.it) (fun x=>HD x)=_;unfold w1;rw[hA _ W.itA W.itL]
 have e2:opC ty ⟨A,Fo k.nx []⟩ o2.op=Aa 0 (J k.nx):=by
  rw[W.op2];show w1 ⟨A,[]⟩ (.tmp k.nx) (fun t=>Aa 0 t)=_;unfold w1;rw[hA _ W.nxA W.nxL]
 rw[e1,e2];rfl
theorem Yq{t:(Env->X)->IN->Env->X}{f:OpF}{k:C}{e:Env}{h h':Hp}{v:IN}(hf:f F e h=.ok v h'):SB t f k F e h=t (fun e=>k F e h') v e:=by
 unfold SB;rw[hf]
theorem oD{t:(Env->X)->IN->Env->X}{f:OpF}{k:C}{e:Env}{h:Hp}(hf:f F e h=.no):SB t f k F e h=.no:=by
 unfold SB;rw[hf]
theorem jN{k:Walk}{a0:ADU}{id:Nat}{o1 o2:AAA}{r2:ADU}(W:AFY A a0 k id o1 o2 r2){e:Env}{h:Hp}{ad:Addr}{m s last c lo hi mk:Nat}{es:List Ent}{x:Ent}{bl:BT}{sn:Option (List Nat)}{Y:Go.Proofs.YtbjadbhkogcfeaaGreat.X}
  (hit:J k.it e=.pointer (some ad))(hoff:xr ad.off 0=true)(hm:Bl h m=.ok es c)(hmb:m≠ad.block)(hx:GL s es=some x)(hbl:h.bl.set ad.block (.pick m s last sn)=some bl)
  (hr:Bv ty A a0 [] none F e {next:=h.next,low:=lo,high:=hi,mark:=mk,bl:=bl}=Y)(hn:Y≠.no):
  ∃ bl',bl.set ad.block (Mp m s last sn)=some bl'/\
   Bv ty A (.seq (.cond (.tmp k.more) .skip (.exit k.out)) r2) [] none F (Env.set k.more (.bool true) (Env.set k.nx (.tuple ⟨[.bool true,x.key,x.val]⟩) e)) {next:=h.next,low:=lo,high:=hi,mark:=mk,bl:=bl'}=Y:=by
 rw[cL W]at hr;have hb:bl.get ad.block=.pick m s last sn:=by rw[BT.AEQ _ _ _ _ hbl,if_pos rfl]
 have hme:Bl ({next:=h.next,low:=lo,high:=hi,mark:=mk,bl:=bl}:Hp) m=.ok es c:=by
  show qL (bl.get m)=_;rw[BT.AEQ _ _ _ _ hbl,if_neg hmb];exact hm
 have hnx:HD (J k.it) F e {next:=h.next,low:=lo,high:=hi,mark:=mk,bl:=bl}=match bl.set ad.block (Mp m s last sn)with
   |some bl'=>.ok (.tuple ⟨[.bool true,x.key,x.val]⟩) {next:=h.next,low:=lo,high:=hi,mark:=mk,bl:=bl'}
   |none=>.no:=by
  unfold HD;rw[hit];show(bif xr ad.off 0 then GS ad _ else .no)=_;rw[hoff];show GS ad _=_;unfold GS;simp only;rw[hb];show(match Bl ({next:=h.next,low:=lo,high:=hi,mark:=mk,bl:=bl}:Hp) m with|.ok es _=>_|.no=>_)=_;rw[hme];simp only[hx];cases bl.set ad.block (Mp m s last sn)<;>rfl
 cases hs:bl.set ad.block (Mp m s last sn)with
 |none=>
  rw[hs]at hnx;rw[oD hnx]at hr;exact absurd hr.symm hn
 |some bl'=>
  refine⟨bl',rfl,?_⟩;rw[hs]at hnx;rw[<- hr];have hex:Aa 0 (J k.nx) F (Env.set k.nx (.tuple ⟨[.bool true,x.key,x.val]⟩) e) {next:=h.next,low:=lo,high:=hi,mark:=mk,bl:=bl'}=.ok (.bool true) {next:=h.next,low:=lo,high:=hi,mark:=mk,bl:=bl'}:=by
   unfold Aa;rw[C9 _ W.nxL,Env.AEQ _ _ _ _ W.nxL W.nxL,if_pos rfl];rfl
  symm
  rw[Yq hnx,D0 _ W.nxL,Yq hex,D0 _ W.moL]
structure Rd (A:List Nat)(N:Nat)(φ:Phi)(ws:List Nat)(e:Env)(w:yQ)(pb qb c:Nat)(seen:List Nat)(ak:Act)(wk:yQ):Prop where
 size:ak.tmps.size=N
 defs:ak.defers=[]
 slots:∀ t,t<240->memN t A=false->t∉ws->AEE φ (e.get t) (ak.tmps.getD t undef)
 grow:w.heap.size<=wk.heap.size
 same:∀ j,j<w.heap.size->j≠pb->wk.heap[j]? =w.heap[j]?
 tape:wk.tape=w.tape
 os:wk.os=w.os
 output:wk.output=w.output
 iter:wk.heap[pb]? =some (.mapIter (some qb) c ⟨seen⟩ c)
theorem RG{φ:Phi}:∀ {es:List Ent} {es':List yn} {x:Ent},AE8 φ es es'->x∈es->∃ x'∈es',x'.born=x.born
 |_,_,x,.cons (k':=k) (v':=v) (b:=b) hk hv t,hx=>by
  rcases xz.1 hx with rfl|hx
  ·exact⟨⟨k,v,b⟩,xa,rfl⟩
  ·obtain⟨x,h1,h2⟩:=RG t hx
   exact⟨x,xZ _ h1,h2⟩
theorem KH{n:Nat}:∀ {es:List Ent} {x:Ent},GL n es=some x->x∈es/\x.born=n
 |y::l,x,h=>by
  unfold GL at h;cases hb:xr y.born n with
  |true=>rw[hb]at h;cases h;exact⟨xa,Az.1 hb⟩
  |false=>
   rw[hb]at h;obtain⟨h1,h2⟩:=KH h;exact⟨xZ _ h1,h2⟩
theorem un{b:Bool}{Y X:Go.Proofs.YtbjadbhkogcfeaaGreat.X}(h:(bif b then Y else .no)=X)(hn:X≠.no):b=true/\Y=X:=by
 cases b with
 |false=>exact absurd h.symm hn
 |true=>exact⟨rfl,h⟩
theorem RL{seen:List Nat}:∀ {es:List Ent},(∀ x∈es,x.born∈seen)->AEi seen es=[]
 |[],_=>rfl
 |x::l,h=>by
  unfold AEi;rw[LZ,show seen.contains x.born=true by simpa using h x xa];exact RL fun y hy=>h y (xZ _ hy)
theorem Mv{seen:List Nat}:∀ {es:List Ent} {x:Ent},x∈es->x.born∉seen->x∈AEi seen es
 |y::l,x,hx,hn=>by
  unfold AEi;rcases xz.1 hx with rfl|hx
  ·rw[LZ,show seen.contains x.born=false by simpa using hn]
   exact xa
  ·have ih:=Mv hx hn
   cases Fh y.born seen with
   |true=>exact ih
   |false=>exact xZ _ ih
theorem Lo{f:Ent->Bool}:∀ {l:List Ent},Pd f l=true->∀ x∈l,f x=true
 |[],_,x,hx=>by cases hx
 |y::l,h,x,hx=>by
  obtain⟨h1,h2⟩:=Ey h;rcases xz.1 hx with rfl|hx
  ·exact h1
  ·exact Lo h2 x hx
theorem AEI.one{φ:Phi}{h:Hp}{w w':yQ}{b:Nat}{pb:Pl}{o:Blk}{bl:BT}(H:AEI ty φ nil h w)(hpb:φ b=some pb)(hin:pb.inp=false)(AEw:Live h b)(hbl:∀ i,bl.get i=if i=b then o else h.bl.get i)
  (hs:w.heap.size<=w'.heap.size)(hsame:∀ j,j<w.heap.size->j≠pb.blk->w'.heap[j]? =w.heap[j]?)(hB:AE9 ty φ pb o w'.heap[pb.blk]?)(hoc:∀ cc s el,o≠.cells cc s el)(lo hi mk:Nat):
  AEI ty φ nil {next:=h.next,low:=lo,high:=hi,mark:=mk,bl:=bl} w' where
 dom:=fun i p hp=>⟨(H.dom i p hp).1,Nat.lt_of_lt_of_le (H.dom i p hp).2 hs⟩
 inj:=fun i j p q hp hq _ _ hi hj hio hpq=>by
  have lv:∀ i,bl.get i≠.dead->Live h i:=fun i hi=>by
   by_cases hib:i=b
   ·rw[hib];exact AEw
   ·rw[hbl,if_neg hib]at hi;exact hi
  exact H.inj i j p q hp hq (fun h=>h) (fun h=>h) (lv i hi) (lv j hj) hio hpq
 row:=fun i p hp _=>by
  show AE9 ty φ p (bl.get i) _;rw[hbl];by_cases hib:i=b
  ·rw[if_pos hib]
   subst hib;rw[hpb]at hp;cases hp;exact hB
  ·rw[if_neg hib]
   by_cases hdd:h.bl.get i=.dead
   ·rw[hdd];exact .dead
   ·rw[hsame p.blk (H.dom i p hp).2 (fun hb=>hib (H.inj i b p pb hp hpb (fun h=>h) (fun h=>h) hdd AEw (.inr hin) hb))]
    exact H.row i p hp (fun h=>h)
 fresh:=fun i hi=>by
  have hi:h.next<=i:=hi;show bl.get i=_;have:=(H.dom _ _ hpb).1;rw[hbl,if_neg (by omega)];exact H.fresh i hi
 kind:=fun i p cc s el hp he=>by
  have he:bl.get i=.cells cc s el:=he;rw[hbl]at he;by_cases hib:i=b
  ·rw[if_pos hib]at he;exact absurd he (hoc _ _ _)
  ·rw[if_neg hib]at he;exact H.kind i p cc s el hp he
 inp:=H.inp
theorem Evo.one{φ:Phi}{h:Hp}{w w':yQ}{b:Nat}{pb:Pl}{o:Blk}{bl:BT}(hpb:φ b=some pb)(hin:pb.inp=false)(AEw:Live h b)(hbl:∀ i,bl.get i=if i=b then o else h.bl.get i)
  (hs:w.heap.size<=w'.heap.size)(hsame:∀ j,j<w.heap.size->j≠pb.blk->w'.heap[j]? =w.heap[j]?)(ht:w'.tape=w.tape)(hos:w'.os=w.os)(hou:w'.output=w.output)(ho:AET (h.bl.get b) o)(mk:Nat):
  Evo φ h w φ {next:=h.next,low:=B8 h.low b,high:=Cw h.high b,mark:=mk,bl:=bl} w' where
 le:=.refl φ
 new:=fun _ _ e=>.inl e
 next:=IT _
 size:=hs
 tape:=ht
 os:=hos
 output:=hou
 frame:=fun j hj hf=>hsame j hj fun hjp=>hf b pb hpb hin (by show B8 _ _<=_;rw[BW];exact Nat.min_le_right _ _) (by show _<=Cw _ _;rw[B3];exact Nat.le_max_right _ _) AEw hjp.symm
 back:=fun i p hp hl _=>by
  refine⟨i,p,hp,?_,rfl,rfl,.inl rfl⟩;by_cases hib:i=b
  ·rw[hib];exact AEw
  ·have hl:bl.get i≠.dead:=hl
   rw[hbl,if_neg hib]at hl;exact hl
 kept:=fun i _ hi=>by
  show bl.get i=_;have hi:i<B8 h.low b\/Cw h.high b<i:=hi;rw[BW,B3]at hi;rw[hbl,if_neg (by omega)]
 low:=by show B8 _ _<=_;rw[BW];exact ABG _ _
 high:=by show _<=Cw _ _;rw[B3];exact ACR _ _
 shape:=fun i _=>by
  show AET _ (bl.get i);rw[hbl];by_cases hib:i=b
  ·rw[if_pos hib,hib];exact ho
  ·rw[if_neg hib];exact .refl _
 only:=fun i _ h0=>by
  show bl.get i=_;rw[hbl,if_neg (fun e=>by rw[e,hpb]at h0;cases h0)]
 all:=fun _ h1 h2=>absurd h2 (Nat.not_lt.2 h1)
theorem gU{k:Walk}{a0:ADU}{id:Nat}{o1 o2:AAA}{r2:ADU}(W:AFY A a0 k id o1 o2 r2)(hd:k.nx<N/\k.more<N)
  (ih:∀ {e:Env} {h:Hp} {X:Go.Proofs.YtbjadbhkogcfeaaGreat.X},Bv ty A (.seq (.cond (.tmp k.more) .skip (.exit k.out)) r2) [] none F e h=X->X≠.no->∀ (φ:Phi) (w:yQ) (a:Act),AEI ty φ nil h w->AR N φ (AEW A [] e) a->∀ (Q:Exit->Act->yQ->Prop),Post ty A N F φ h w none X Q->(ACp (.cond (.tmp k.more) .skip (.exit k.out)) r2).wp P Q a w)
  {e:Env}{ad:Addr}(hit:J k.it e=.pointer (some ad))(hoff:xr ad.off 0=true)(AEK:256<=ad.block){φ0:Phi}{hr:Hp}{w0:yQ}{a:Act}(AFZ:∀ t,t<240->memN t A=false->AEE φ0 (e.get t) (a.tmps.getD t undef))
  {fin:Hp->Rds->Bool}{Q:Exit->Act->yQ->Prop}
  (AJh:∀ (hk:Hp) (tr:Rds) (φk:Phi) (wk:yQ),AEI ty φk nil hk wk->Evo φ0 hr w0 φk hk wk->(∃ pb,φk ad.block=some pb)->Live hk ad.block->fin hk tr=true->∀ ak:Act,ak.tmps.size=N->ak.defers=[]->
   (∀ t,t<240->memN t A=false->t∉k.ws->AEE φ0 (e.get t) (ak.tmps.getD t undef))->ak.tmps.getD k.more undef=.bool false->Q (.exit k.out) ak wk):
  ∀ (n:Nat) (hk:Hp) (tr:Rds) (φk:Phi) (wk:yQ) (ak:Act),AEI ty φk nil hk wk->Evo φ0 hr w0 φk hk wk->ak.tmps.size=N->ak.defers=[]->
   (∀ t,t<240->memN t A=false->t∉k.ws->AEE φ0 (e.get t) (ak.tmps.getD t undef))->Ku k (Bv ty A a0 [] none) F e ad.block fin n hk tr=true->ACl P a0 Q n ak wk:=by
 intro n
 induction n with
 |zero=>intro hk tr φk wk ak _ _ _ _ _ hx;cases hx
 |succ n ihn=>
 intro hk tr φk wk ak H E hsz hdf hsl hx;unfold Ku Nq at hx;cases AFy:EM (hk.bl.get ad.block)with
 |no=>rw[AFy]at hx;cases hx
 |cur _ _ _=>rw[AFy]at hx;cases hx
 |pick _ _ _ _=>rw[AFy]at hx;cases hx
 |ok m' since seen last=>
 rw[AFy]at hx;cases m' with
 |none=>cases hx
 |some m=>
 simp only at hx;cases AFz:Bl hk m with
 |no=>rw[AFz]at hx;cases hx
 |ok es c=>
 rw[AFz]at hx;simp only at hx;obtain⟨AGr,hx1⟩:=Ey hx;obtain⟨AIn,hx2⟩:=Ey hx1;obtain⟨hris,hx3⟩:=Ey hx2;clear hx hx1 hx2;have hcs:=Az.1 AGr;have hcl:=Az.1 AIn;clear AGr AIn;subst hcs;subst hcl;have hx:=hx3;clear hx3;have hbi:=H6 AFy;have AG9:=AFZ k.it W.itL W.itA;rw[<- C9 k.it W.itL,hit]at AG9;obtain⟨ad',AJi,hra⟩:=AG9.AFC;obtain⟨pb,AHW,rfl⟩:=hra.eq;have hpb:=E.le _ _ AHW;have AH0:ad.off=0:=Az.1 hoff;have hrow:=H.row ad.block pb hpb (fun h=>h);rw[hbi]at hrow;obtain⟨q,hp0,hq,hwi⟩:∃ q,pb.off=0/\φk m=some q/\wk.heap[pb.blk]? =some (.mapIter (some q.blk) c ⟨seen⟩ c):=by
  generalize wk.heap[pb.blk]? =ob at hrow;cases hrow with
  |iter h1 h2=>exact⟨_,h1,h2,rfl⟩
 obtain⟨es',hwm,AEp⟩:=H.AFP hq (fun h=>h) AFz;have hmb:m≠ad.block:=fun h=>by
  have:=H0 AFz;rw[h,hbi]at this;cases this
 have hin:=H.AFA hpb AEK;have AEw:Live hk ad.block:=by unfold Live;rw[hbi];intro h;cases h
 have AJj:=(H.dom _ _ hpb).2;have AH1:∀ x∈es',x.born<c:=fun x hx=>by
  obtain⟨y,hy,he⟩:=PL AEp hx;rw[<- he];exact(Iu hris y hy).2
 have hkeep:CH k.ws (Bv ty A (.seq (.cond (.tmp k.more) .skip (.exit k.out)) r2) [] none):=CU _ (fun d hd=>by
  rw[W.ws,W.code];exact yR _ hd) (fun _ h=>by cases h)
 have AIo:k.nx∈k.ws:=by rw[W.ws,W.code];show _∈JG [o1,o2]++_;simp[JG,W.AGP,W.AGh]
 have AIp:k.more∈k.ws:=by rw[W.ws,W.code];show _∈JG [o1,o2]++_;simp[JG,W.AGP,W.AGh]
 have hcg:∀ t,t<240->(Cz e k.ws).get t=if t∈k.ws then .chan none else e.get t:=fun t ht=>Ie _ _ _ W.few ht
 have AFj:∀ {ψ:Phi} {v v' v'':IN},φ0.Le ψ->AEE ψ v v'->AEE φ0 v v''->AEE φ0 v v':=fun {ψ v v' v''} hle h1 h2=>AEE.cut (χ:=φ0) (fun b p hp ⟨q,hq⟩=>by
  have:=hle b q hq;rw[hp]at this;cases this;exact hq) h1 h2
 have AH2:ak.eval (.tmp k.it)=.pointer (some ⟨pb.blk,0,none⟩):=by
  have h1:=hsl k.it W.itL W.itA W.itW;rw[<- C9 k.it W.itL,hit]at h1;obtain⟨a2,ha2,hr2⟩:=h1.AFC;obtain⟨p2,hp2,rfl⟩:=hr2.eq;rw[AHW]at hp2;cases hp2;show ak.tmps.getD k.it undef=_;rw[ha2,hp0,AH0]
 have AHX:∀ (v1 v2:IN) (t:Nat),t<240->((ak.put (some k.nx) v1).put (some k.more) v2).tmps.getD t undef=if t=k.more then v2 else if t=k.nx then v1 else ak.tmps.getD t undef:=fun v1 v2 t ht=>by
  rw[Hi,Fa,Hi];by_cases h1:t=k.more
  ·rw[if_pos ⟨by rw[h1],by rw[h1,hsz];exact hd.2⟩,if_pos h1]
  ·rw[if_neg (fun h=>h1 (Option.some.inj h.1).symm),if_neg h1]
   by_cases h2:t=k.nx
   ·rw[if_pos ⟨by rw[h2],by rw[h2,hsz];exact hd.1⟩,if_pos h2]
   ·rw[if_neg (fun h=>h2 (Option.some.inj h.1).symm),if_neg h2]
 show a0.wp P (Exit.then (ACl P a0 Q n) Q) ak wk;generalize hK:ACl P a0 Q n=K;rw[W.code];refine wp_seq (YA W (pb:=pb.blk) (mb:=q.blk) (clk:=c) (seen:=seen) (es:=es') AH2 (by rw[hsz];exact hd.1) hwi hwm AH1 (fun hall=>?_) (fun x' hx' hns w1 e1 e2' e3 e4=>?_))
 ·
  show(ACp (.cond (.tmp k.more) .skip (.exit k.out)) r2).wp P (Exit.then K Q) ((ak.put (some k.nx) (.tuple #[.bool false])).put (some k.more) (.bool false)) wk;refine wp_seq (wp_cond_false ?_ (wp_exit ?_))
  ·show((ak.put (some k.nx) (.tuple #[.bool false])).put (some k.more) (.bool false)).tmps.getD k.more undef=_
   rw[AHX _ _ _ W.moL,if_pos rfl]
  ·show Q (.exit k.out) ((ak.put (some k.nx) (.tuple #[.bool false])).put (some k.more) (.bool false)) wk
   rw[RL (es:=es) fun x hx=>by
    obtain⟨x',hx',he⟩:=RG AEp hx;rw[<- he];exact hall x' hx']at hx
   refine AJh hk tr φk wk H E ⟨_,hpb⟩ AEw hx _ (by rw[Fa,Fa];exact hsz) (by rw[GU,GU];exact hdf) (fun t ht hA hw=>?_) (by rw[AHX _ _ _ W.moL,if_pos rfl]);rw[AHX _ _ _ ht,if_neg (fun h:t=k.more=>hw (h ▸ AIp)),if_neg (fun h:t=k.nx=>hw (h ▸ AIo))];exact hsl t ht hA hw
 ·
  show(ACp (.cond (.tmp k.more) .skip (.exit k.out)) r2).wp P (Exit.then K Q) ((ak.put (some k.nx) (.tuple #[.bool true,x'.key,x'.val])).put (some k.more) (.bool true)) w1;obtain⟨x,hfx,hkr,hvr⟩:=RF AEp hris hx';obtain⟨hxm,hxb⟩:=KH hfx;have hmem:=Mv hxm (by rw[hxb];exact hns);generalize AFf:AEi seen es=rest at hx hmem;cases rest with
  |nil=>cases hmem
  |cons y l=>
  have hx:=Lo hx x hmem;unfold OJ at hx;cases hbl:hk.bl.set ad.block (.pick m x.born c (some seen))with
  |none=>rw[hbl]at hx;cases hx
  |some bl=>
  rw[hbl]at hx;simp only at hx;have AJk:J k.it (Cz e k.ws)=.pointer (some ad):=by
   rw[C9 _ W.itL,hcg _ W.itL,if_neg W.itW,<- C9 _ W.itL];exact hit
  generalize hY:Bv ty A a0 [] none F (Cz e k.ws) {next:=hk.next,low:=B8 hk.low ad.block,high:=Cw hk.high ad.block,mark:=hk.mark,bl:=bl}=Y at hx;cases Y with
  |no=>cases hx
  |exit _ _ _=>cases hx
  |ret _ _=>cases hx
  |norm e1' h1'=>
  simp only at hx;obtain⟨bl',AH3,hB⟩:=jN W (x:=x) (s:=x.born) AJk hoff AFz hmb (by rw[hxb];exact hfx) hbl hY (fun h=>by cases h);have AH3:bl.set ad.block (.iter (some m) c (Jh x.born seen) c)=some bl':=AH3;have AIq:∀ i,bl'.get i=if i=ad.block then .iter (some m) c (Jh x.born seen) c else hk.bl.get i:=fun i=>by
   rw[BT.AEQ _ _ _ _ AH3,BT.AEQ _ _ _ _ hbl];split<;>rfl
  have AIr:w1.heap.size=wk.heap.size:=by rw[e1];simp
  have AJl:w1.heap[pb.blk]? =some (.mapIter (some q.blk) c ⟨seen++[x'.born]⟩ c):=by
   rw[e1,zP,if_pos rfl,if_pos AJj]
  have AIs:∀ j,j<wk.heap.size->j≠pb.blk->w1.heap[j]? =wk.heap[j]?:=fun j hj hjp=>by
   rw[e1,zP,if_neg (fun h=>hjp h.symm)]
  have HR:=H.one hpb hin AEw AIq (AA5 AIr.symm) AIs (by rw[AJl,Mu,hxb];exact .iter hp0 hq) (fun _ _ _ h=>by cases h) (B8 hk.low ad.block) (Cw hk.high ad.block) hk.mark;have E1:=Evo.one (w':=w1) hpb hin AEw AIq (AA5 AIr.symm) AIs e2' e3 e4 (by rw[hbi];exact .inr trivial) hk.mark;have HAR:AR N φk (AEW A [] (Env.set k.more (.bool true) (Env.set k.nx (.tuple ⟨[.bool true,x.key,x.val]⟩) (Cz e k.ws)))) ((ak.put (some k.nx) (.tuple #[.bool true,x'.key,x'.val])).put (some k.more) (.bool true)):=by
   refine Iy.2 ⟨by rw[Fa,Fa];exact hsz,by rw[GU,GU];exact hdf,fun t ht hA=>?_⟩;rw[AHX _ _ _ ht,Env.AEQ _ _ _ _ W.moL ht,Env.AEQ _ _ _ _ W.nxL ht,hcg t ht];by_cases q1:t=k.more
   ·rw[if_pos q1,if_pos q1];exact .bool _
   ·rw[if_neg q1,if_neg q1]
    by_cases q2:t=k.nx
    ·rw[if_pos q2,if_pos q2];exact .tuple (.cons (.bool _) (.cons hkr (.cons hvr .nil)))
    ·rw[if_neg q2,if_neg q2]
     by_cases q3:t∈k.ws
     ·rw[if_pos q3];exact .unk
     ·rw[if_neg q3];exact(hsl t ht hA q3).mono E.le
  refine ih hB (fun h=>by cases h) φk w1 _ HR HAR _ {go:=(fun _ h=>by cases h),norm:=fun _ e2 h2 ψ a2 w2 g hx2=>?_,exit:=(fun i e2 h2 ψ a2 w2 g hx2=>by cases hx2),ret:=(fun e2 h2 ψ a2 w2 g hx2=>by cases hx2)};cases hx2;obtain⟨g1,g2,g3⟩:=Iy.1 g.ar;have hag:=hkeep F (Env.set k.more (.bool true) (Env.set k.nx (.tuple ⟨[.bool true,x.key,x.val]⟩) (Cz e k.ws))) {next:=hk.next,low:=B8 hk.low ad.block,high:=Cw hk.high ad.block,mark:=hk.mark,bl:=bl'};rw[hB]at hag;have hag:Ag k.ws (Env.set k.more (.bool true) (Env.set k.nx (.tuple ⟨[.bool true,x.key,x.val]⟩) (Cz e k.ws))) e1':=hag;have E2:=(E.trans E1).trans g.evo;show K a2 w2;rw[<- hK];refine ihn h1' _ ψ w2 a2 g.rel E2 g1 g2 (fun t ht hA hw=>?_) hx;have q1:=g3 t ht hA;rw[hag t ht hw,Env.AEQ _ _ _ _ W.moL ht,if_neg (fun h:t=k.more=>hw (h ▸ AIp)),Env.AEQ _ _ _ _ W.nxL ht,if_neg (fun h:t=k.nx=>hw (h ▸ AIo)),hcg t ht,if_neg hw]at q1;exact AFj E2.le q1 (AFZ t ht hA)
theorem gS{b n0:Nat}{r h1:Hp}{tr:Rds}:XO b n0 r h1 tr=true↔ZY b n0 r h1:=by
 unfold XO;split
 ·rename_i h _;exact⟨fun _=>h,fun _=>rfl⟩
 ·rename_i h _;exact⟨fun e=>(by cases e),fun e=>absurd e h⟩
theorem AEI.AH4{φ:Phi}{h:Hp}{w:yQ}{bl:BT}{b n0:Nat}(H:AEI ty φ nil h w)(hbl:∀ i,bl.get i=if i=b\/n0<=i then .dead else h.bl.get i)(lo hi mk:Nat):
  AEI ty φ nil {next:=h.next,low:=lo,high:=hi,mark:=mk,bl:=bl} w where
 dom:=H.dom
 inj:=fun i j p q hp hq _ _ hi hj hio hpq=>by
  have lv:∀ i,bl.get i≠.dead->Live h i:=fun i hi=>by
   rw[hbl]at hi;split at hi
   ·exact absurd rfl hi
   ·exact hi
  exact H.inj i j p q hp hq (fun h=>h) (fun h=>h) (lv i hi) (lv j hj) hio hpq
 row:=fun i p hp _=>by
  show AE9 ty φ p (bl.get i) _;rw[hbl];split
  ·exact .dead
  ·exact H.row i p hp (fun h=>h)
 fresh:=fun i hi=>by
  have hi:h.next<=i:=hi;show bl.get i=_;rw[hbl];split
  ·rfl
  ·exact H.fresh i hi
 kind:=fun i p cc s el hp he=>by
  have he:bl.get i=.cells cc s el:=he;rw[hbl]at he;split at he
  ·cases he
  ·exact H.kind i p cc s el hp he
 inp:=H.inp
theorem Evo.join{φ ψ:Phi}{h r hk:Hp}{w wk:yQ}{b:Nat}{pb:Pl}(E:Evo φ {next:=h.next,low:=h.next,high:=0,mark:=h.mark,bl:=h.bl} w ψ hk wk)(hpb:φ b=some pb)
  (q1:hk.next=r.next)(q2:r.low<=B8 hk.low b)(q3:Cw hk.high b<=r.high)(q4:∀ i,r.bl.get i=if i=b\/h.next<=i then .dead else hk.bl.get i):Evo φ h w ψ (lZ h r) wk where
 le:=E.le
 new:=E.new
 next:=by
  have h1:h.next<=hk.next:=E.next;show h.next<=r.next;omega
 size:=E.size
 tape:=E.tape
 os:=E.os
 output:=E.output
 frame:=fun k hk' hf=>E.frame k hk' fun i p e hn hl hg hv=>hf i p e hn (by
  rw[BW]at q2;show B8 h.low r.low<=i;rw[BW];omega) (by
  rw[B3]at q3;show i<=Cw h.high r.high;rw[B3];omega) hv
 back:=fun i p e hl hp=>by
  have hl:r.bl.get i≠.dead:=hl;rw[q4]at hl;split at hl
  ·exact absurd rfl hl
  obtain⟨j,q,a1,a2,a3,a4,a5⟩:=E.back i p e hl hp;refine⟨j,q,a1,a2,a3,a4,?_⟩;rw[BW]at q2;rw[B3]at q3;rcases a5 with a5|⟨a5,a6⟩
  ·exact .inl a5
  ·refine .inr ⟨?_,?_⟩
   ·show B8 h.low r.low<=j
    rw[BW];omega
   ·show j<=Cw h.high r.high
    rw[B3];omega
 kept:=fun i hi hor=>by
  have hor:i<B8 h.low r.low\/Cw h.high r.high<i:=hor;rw[BW,B3]at hor;rw[BW]at q2;rw[B3]at q3;show r.bl.get i=_;rw[q4,if_neg (by omega)];exact E.kept i hi (by omega)
 low:=by show B8 _ _<=_;rw[BW];exact ABG _ _
 high:=by show _<=Cw _ _;rw[B3];exact ACR _ _
 shape:=fun i hi=>by
  show AET _ (r.bl.get i);rw[q4];split
  ·exact .inl rfl
  ·exact E.shape i hi
 only:=fun i hi h0=>by
  show r.bl.get i=_;rw[q4,if_neg (by
   rintro (h1|h1)
   ·rw[h1,hpb]at h0;cases h0
   ·omega)]
  exact E.only i hi h0
 all:=fun i h1 h2=>E.all i h1 (by
  have h2:i<r.next:=h2;show i<hk.next;omega)
theorem SU{k:Walk}{a0:ADU}{id:Nat}{o1 o2:AAA}{r2:ADU}(W:AFY A a0 k id o1 o2 r2)(hd:k.nx<N/\k.more<N)
  (ih:∀ {e:Env} {h:Hp} {X:Go.Proofs.YtbjadbhkogcfeaaGreat.X},Bv ty A (.seq (.cond (.tmp k.more) .skip (.exit k.out)) r2) [] none F e h=X->X≠.no->∀ (φ:Phi) (w:yQ) (a:Act),AEI ty φ nil h w->AR N φ (AEW A [] e) a->∀ (Q:Exit->Act->yQ->Prop),Post ty A N F φ h w none X Q->(ACp (.cond (.tmp k.more) .skip (.exit k.out)) r2).wp P Q a w)
  {e:Env}{h:Hp}{X:Go.Proofs.YtbjadbhkogcfeaaGreat.X}{ad:Addr}(hit:J k.it e=.pointer (some ad))(hoff:xr ad.off 0=true)(AEK:256<=ad.block)
  (hr:Fm k (Bv ty A a0 [] none) F e h ad.block=X)(hn:X≠.no){φ:Phi}{w:yQ}{a:Act}(H:AEI ty φ nil h w)(HA:AR N φ (AEW A [] e) a){Q:Exit->Act->yQ->Prop}
  (pe:∀ id e h' ψ a' w',Good ty A N φ h w [] e h' ψ a' w'->X=.exit id e h'->Q (.exit id) a' w'):
  (Code.loop a0).wp P Q a w:=by
 unfold Fm at hr;split at hr
 case h_2=>exact absurd hr.symm hn
 rename_i hx _;obtain⟨AH5,AHA⟩:=ADy hx;generalize ADo hx=r at hr AH5 AHA;obtain⟨hsz,hdf,AFZ⟩:=Iy.1 HA;have hcg:∀ t,t<240->(Cz e k.ws).get t=if t∈k.ws then .chan none else e.get t:=fun t ht=>Ie _ _ _ W.few ht
 refine wp_loop_rounds 64 (gU W hd ih hit hoff AEK (φ0:=φ) (w0:=w) AFZ (fun hk tr φk wk Hk Ek ⟨pb',AKl⟩ AEw hf ak s1 s2 s3 s4=>?_) 64 {next:=h.next,low:=h.next,high:=0,mark:=h.mark,bl:=h.bl} [] φ w a (H.AFb rfl rfl) (.refl _ _ _) hsz hdf (fun t ht hA _=>AFZ t ht hA) AHA);obtain⟨q1,q2,q3,hbg⟩:=gS.1 hf;have HK:=Hk.AH4 hbg (B8 h.low r.low) (Cw h.high r.high) h.mark;have AG9:=AFZ k.it W.itL W.itA;rw[<- C9 k.it W.itL,hit]at AG9;obtain⟨ad',AJi,hra⟩:=AG9.AFC;obtain⟨pb,AHW,rfl⟩:=hra.eq;have ER:=Ek.join AHW q1 (AA5 q2) (AA5 q3.symm) hbg;rw[q1]at HK;refine pe k.out _ _ φk ak wk ⟨.nil A,HK,Iy.2 ⟨s1,s2,fun t ht hA=>?_⟩,ER⟩ hr.symm;rw[Env.AEQ _ _ _ _ W.moL ht,hcg t ht];by_cases q1:t=k.more
 ·rw[if_pos q1,q1,s4];exact .bool _
 ·rw[if_neg q1]
  by_cases q2:t∈k.ws
  ·rw[if_pos q2];exact .unk
  ·rw[if_neg q2];exact(s3 t ht hA q2).mono ER.le
end
end
end Go.Proofs.YtbjadbhkogcfeaaGreat
