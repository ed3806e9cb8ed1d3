/-
  Part ZF of what Lawke stands on: printed by program, names and spaces cut.
-/
import Derived.Test.YtedbmmfebjfibaaGreatZE
import Derived.Orders
open Nat renaming le_refl→IT,zero_add→vk,lt_or_ge→wN,zero_le→wP,le_trans→wd,le_of_lt→xP,lt_of_lt_of_le→xT,lt_irrefl→AAA,lt_or_gt_of_ne→AAY,strongRecOn→ABn,testBit_or→AC2
open List renaming length_append→No,getElem?_eq_getElem→sh,mem_cons_self→vp,mem_cons_of_mem→vr,mem_filter→vz,mem_cons→wA,getElem?_eq_some_iff→wC,getElem?_append_left→wD,mem_append→wK,getElem?_toArray→wO,range→wm,mem_range→xM,length_singleton→xR,getElem?_eq_none→xd,getElem?_take→zC,all_eq_true→zM,countP_cons→ACX
open Bool renaming and_eq_true→wJ,not_false→yA,true_and→ABY,or_eq_true→ACn
open Go renaming Operand→wV,World→wb,Oper→yv
open Array renaming getD_eq_getD_getElem?→wu,all_eq_true_iff_forall_mem→yC,mem_toList_iff→yF
open Option renaming map_some→xa,getD_some→ACC
open Go.Region renaming ready→yZ,binds→zT
set_option linter.unusedSimpArgs false
set_option linter.unusedVariables false
namespace Go.Proofs.YtedbmmfebjfibaaGreat
noncomputable section
open Go
section
variable {P:Program}{U:TTy}{N:Nat}{all:List yv}{ρ:Nat->Rho}{H:Nat->Hp}{V:Nat->Value}{T:Nat->Nat->Prop}{φ0:Phi}{w0:wb}{B:Nat->Nat->Prop}
def join(φ ψ:Phi)(lo hi:Nat):Phi:=fun b=>if lo<=b/\b<hi then ψ b else φ b
open Classical in
def WP(C:Nat->Blk)(h:Hp)(lo:Nat)(W:Prop):Nat->Blk:=fun b=>if b<h.next/\(lo<=b\/W)then h.bl.get b else C b
theorem Inv.after(L:Laws U all ρ H T B){run:Nat->Bool}{ahs:List AEo}(tr:Tr P U all ahs all ρ H V run T)(txt:Txt P U N φ0 ρ H V T all.length){S:Nat->Prop}{φ:Phi}{C:Nat->Blk}{a:Act}{w:wb}(I:Inv U N all ρ H T φ0 w0 S φ C a w)
  {i:Nat}{o:yv}(ho:all[i]? =some o)(hS:¬ S i)(hpre:∀ j,B j i->S j)(hcl:∀ j k,S j->B k j->S k)(hN:∀ d,o.dst=some d->d<N)
  {ψ:Phi}{v':Value}{w':wb}(hv:AED ψ (V i) v')(HW:AEG U ψ (QZ all.length T S (H i) i) (H (i+1)) w')(eff:Eff (T i) (upto φ (H i).next) (H i) w ψ (H (i+1)) w'):
  Inv U N all ρ H T φ0 w0 (fun j=>S j\/j=i) (join φ ψ (H i).next (H (i+1)).next) (WP C (H (i+1)) (H i).next (∃ c,T i c)) (a.put o.dst v') w':=by
 have hi:i<all.length:=by
  rcases wN i all.length with h|h
  ·exact h
  ·rw[xd h]at ho;cases ho
 have hnS:∀ j,B i j->¬ S j:=fun j hb hj=>hS (hcl j i hj hb)
 have fx:∀ j,j≠i->(B i j\/B j i)->(j<i->S j)/\(i<=j->¬ S j):=by
  intro j hj hb;rcases hb with hb|hb
  ·have:=L.lt i j hb
   exact⟨fun h=>by omega,fun _=>hnS j hb⟩
  ·have:=L.lt j i hb
   exact⟨fun _=>hpre j hb,fun h=>by omega⟩
 have hnext:=txt.next i hi;have hn1:i+1<=all.length:=hi;have hE:(∃ c,T i c)->∀ b,¬ QZ all.length T S (H i) i b:=by
  rintro⟨c,hc⟩ b ⟨hb,hne⟩;refine hne fun j hj hT=>?_
  by_cases hji:j=i
  ·subst hji;exact⟨fun h=>absurd h (AAA _),fun _=>hS⟩
  ·exact fx j hji (L.fixed i j o b (fun h=>hji h.symm) ho hj hT (L.kinds i o c ho hc))
 have hnone:∀ b,(H i).next<=b->b<(H (i+1)).next->φ b=none:=by
  intro b h1 h2;cases hb:φ b with
  |none=>rfl
  |some p=>
   exfalso
   rcases (I.dom b p hb).2 with h|⟨j,hj,hjn,h3,h4⟩
   ·have:=txt.mono (wP i) (xP hi)
    omega
   ·rcases Nat.lt_trichotomy j i with h|h|h
    ·have:=txt.mono (i:=j+1) (k:=i) h (xP hi);omega
    ·subst h;exact hS hj
    ·have:=txt.mono (i:=i+1) (k:=j) h (xP hjn);omega
 have AIl:∀ {b},(H i).next<=b->b<(H (i+1)).next->join φ ψ (H i).next (H (i+1)).next b=ψ b:=fun h1 h2=>if_pos ⟨h1,h2⟩
 have AGR:∀ {b},¬ ((H i).next<=b/\b<(H (i+1)).next)->join φ ψ (H i).next (H (i+1)).next b=φ b:=fun h=>if_neg h
 have jle:φ.Le (join φ ψ (H i).next (H (i+1)).next):=by
  intro b p hb;rw[AGR fun h=>by rw[hnone b h.1 h.2]at hb;cases hb];exact hb
 have jψ:ψ.Le (join φ ψ (H i).next (H (i+1)).next):=by
  intro b p hb;have h2:=(HW.dom b p hb).1;rcases wN b (H i).next with h|h
  ·rw[AGR (by omega)]
   rcases eff.new b p hb with h3|h3
   ·exact(Cc h3).2
   ·omega
  ·rw[AIl h h2];exact hb
 have AFV:∀ {b p},join φ ψ (H i).next (H (i+1)).next b=some p->((H i).next<=b/\b<(H (i+1)).next/\ψ b=some p)\/((b<(H i).next\/(H (i+1)).next<=b)/\φ b=some p):=by
  intro b p hb;by_cases h:(H i).next<=b/\b<(H (i+1)).next
  ·rw[AIl h.1 h.2]at hb;exact .inl ⟨h.1,h.2,hb⟩
  ·rw[AGR h]at hb;exact .inr ⟨by omega,hb⟩
 have upψ:∀ {b p},φ b=some p->b<(H i).next->ψ b=some p:=by
  intro b p hb h;refine eff.le b p ?_;unfold upto;rw[if_pos h];exact hb
 have AF5:∀ {b},b<(H (i+1)).next->((H i).next<=b\/∃ c,T i c)->WP C (H (i+1)) (H i).next (∃ c,T i c) b=(H (i+1)).bl.get b:=fun h1 h2=>if_pos ⟨h1,h2⟩
 have AGF:∀ {b},¬ (b<(H (i+1)).next/\((H i).next<=b\/∃ c,T i c))->WP C (H (i+1)) (H i).next (∃ c,T i c) b=C b:=fun h=>if_neg h
 have lk:(∃ c,T i c)->∀ b p,φ b=some p->b<(H i).next->C b=(H i).bl.get b:=by
  intro hw b p hb h;refine I.link i (xP hi) b p hb h fun j hj hT=>?_
  by_cases hh:(j<i->S j)/\(i<=j->¬ S j)
  ·exact hh
  ·exact absurd ⟨h,fun hall=>hh (hall j hj hT)⟩ (hE hw b)
 have live:∀ {b},b<(H i).next->(H (i+1)).bl.get b≠.dead->(H i).bl.get b≠.dead:=fun h hl=>(eff.shape _ h).live hl
 have AIm:∀ {b c p q},(H (i+1)).next<=c->φ c=some q->C c≠.dead->b<(H (i+1)).next->join φ ψ (H i).next (H (i+1)).next b=some p->WP C (H (i+1)) (H i).next (∃ c,T i c) b≠.dead->(p.inp=false\/q.inp=false)->p.blk≠q.blk:=by
  intro b c p q hc hq hlc hb hp hlb hio hpq;rcases AFV hp with ⟨h1,h2,h3⟩|⟨h1,h3⟩
  ·rw[AF5 h2 (.inl h1)]at hlb
   obtain⟨j,q',e1,e2,e3,ei,e4⟩:=eff.back b p h3 hlb (hpq ▸ (I.dom c q hq).1);obtain⟨e5,e6⟩:=Cc e1;rcases e4 with rfl|e4
   ·omega
   ·have:=I.inj j c q' q e6 hq (by rw[lk ⟨j,e4⟩ j q' e6 e5];exact e2) hlc (by rw[ei];exact hio) (e3.trans hpq)
    omega
  ·have hb':b<(H i).next:=by omega
   have hl:C b≠.dead:=by
    by_cases hw:∃ c,T i c
    ·rw[AF5 hb (.inr hw)]at hlb
     rw[lk hw b p h3 hb'];exact live hb' hlb
    ·rw[AGF (by rintro⟨_,h|h⟩;omega;exact hw h)]at hlb;exact hlb
   have:=I.inj b c p q h3 hq hl hlc hio hpq;omega
 refine {dom:=?_,inj:=?_,row:=?_,kind:=?_,inp:=(fun b p hp hi=>by rcases AFV hp with ⟨_,_,h3⟩|⟨_,h3⟩;exact HW.inp b p h3 hi;exact I.inp b p h3 hi),link:=?_,chg:=?_,full:=?_,slot:=?_,size:=(by rw[Fi];exact I.size),defs:=(by rw[Gd];exact I.defs),le:=I.le.trans jle,new:=?_,sz:=wd I.sz eff.size,tape:=eff.tape.trans I.tape,os:=eff.os.trans I.os,output:=eff.output.trans I.output,frame:=?_,back:=?_}
 ·
  intro b p hp;rcases AFV hp with ⟨h1,h2,h3⟩|⟨h1,h3⟩
  ·exact⟨(HW.dom b p h3).2,.inr ⟨i,.inr rfl,hi,h1,h2⟩⟩
  ·obtain⟨q1,q2⟩:=I.dom b p h3
   exact⟨xT q1 eff.size,q2.imp id fun⟨j,hj,r⟩=>⟨j,.inl hj,r⟩⟩
 ·
  intro b c p q hp hq hlb hlc hio hpq;rcases wN b (H (i+1)).next with hb|hb
  ·rcases wN c (H (i+1)).next with hc|hc
   ·have toψ:∀ {b p},b<(H (i+1)).next->join φ ψ (H i).next (H (i+1)).next b=some p->ψ b=some p:=by
     intro b p hb hp;rcases AFV hp with ⟨_,_,h3⟩|⟨h1,h3⟩
     ·exact h3
     ·exact upψ h3 (by omega)
    have pb:=toψ hb hp;have pc:=toψ hc hq;by_cases hw:∃ c,T i c
    ·rw[AF5 hb (.inr hw)]at hlb
     rw[AF5 hc (.inr hw)]at hlc;exact HW.inj b c p q pb pc (hE hw b) (hE hw c) hlb hlc hio hpq
    ·rcases wN b (H i).next with hb2|hb2
     ·rcases wN c (H i).next with hc2|hc2
      ·rw[AGF (by rintro⟨_,h|h⟩;omega;exact hw h)]at hlb
       rw[AGF (by rintro⟨_,h|h⟩;omega;exact hw h)]at hlc;rw[AGR (by omega)]at hp hq;exact I.inj b c p q hp hq hlb hlc hio hpq
      ·exfalso
       rw[AGR (by omega)]at hp;rw[AF5 hc (.inl hc2)]at hlc;obtain⟨j,q',e1,e2,e3,_,e4⟩:=eff.back c q pc hlc (hpq ▸ (I.dom b p hp).1);rcases e4 with rfl|e4
       ·have:=(Cc e1).1;omega
       ·exact hw ⟨j,e4⟩
     ·rw[AF5 hb (.inl hb2)]at hlb
      rcases wN c (H i).next with hc2|hc2
      ·exfalso
       rw[AGR (by omega)]at hq;obtain⟨j,q',e1,e2,e3,_,e4⟩:=eff.back b p pb hlb (hpq ▸ (I.dom c q hq).1);rcases e4 with rfl|e4
       ·have:=(Cc e1).1;omega
       ·exact hw ⟨j,e4⟩
      ·rw[AF5 hc (.inl hc2)]at hlc
       exact HW.inj b c p q pb pc (fun h=>by have:=h.1;omega) (fun h=>by have:=h.1;omega) hlb hlc hio hpq
   ·rw[AGR (by omega)]at hq
    rw[AGF (by omega)]at hlc;exact absurd hpq (AIm hc hq hlc hb hp hlb hio)
  ·rcases wN c (H (i+1)).next with hc|hc
   ·rw[AGR (by omega)]at hp
    rw[AGF (by omega)]at hlb;exact absurd hpq.symm (AIm hb hp hlb hc hq hlc hio.symm)
   ·rw[AGR (by omega)]at hp hq
    rw[AGF (by omega)]at hlb hlc;exact I.inj b c p q hp hq hlb hlc hio hpq
 ·
  intro b p hp;by_cases hb:b<(H (i+1)).next/\((H i).next<=b\/∃ c,T i c)
  ·rw[AF5 hb.1 hb.2]
   have hψ:ψ b=some p:=by
    rcases AFV hp with ⟨_,_,h3⟩|⟨h1,h3⟩
    ·exact h3
    ·exact upψ h3 (by omega)
   refine(HW.row b p hψ ?_).mono jψ;rcases hb.2 with h|h
   ·intro hE;have:=hE.1;omega
   ·exact hE h b
  ·rw[AGF hb]
   have hφ:φ b=some p:=by
    rcases AFV hp with ⟨h1,h2,_⟩|⟨_,h3⟩
    ·exact absurd ⟨h2,.inl h1⟩ hb
    ·exact h3
   by_cases hd:C b=.dead
   ·rw[hd];exact .dead
   ·have hr:=(I.row b p hφ).mono jle
    rw[eff.frame p.blk (I.dom b p hφ).1 fun c q e1 en e2 e3 e4=>?_]
    ·exact hr
    ·obtain⟨e5,e6⟩:=Cc e1
     have:=I.inj c b q p e6 hφ (by rw[lk ⟨c,e2⟩ c q e6 e5];exact e3) hd (.inl en) e4;subst this;exact hb ⟨by omega,.inr ⟨c,e2⟩⟩
 ·
  intro k hk b p c s e hp hb he;rcases AFV hp with ⟨h1,h2,h3⟩|⟨_,h3⟩
  ·have hik:i+1<=k:=by
    rcases wN i k with h|h
    ·exact h
    ·have:=txt.mono (i:=k) (k:=i) h (xP hi);omega
   have hs:=txt.AGE (i:=i+1) (k:=k) h2 hik hk;rw[he]at hs;obtain⟨c',hc'⟩:=hs.cells;exact HW.kind b p c' s e h3 hc'
  ·exact I.kind k hk b p c s e h3 hb he
 ·
  intro k hk b p hp hb hyp;rcases wN i k with hik|hik
  ·
   rcases AFV hp with ⟨h1,h2,h3⟩|⟨h1,h3⟩
   ·rw[AF5 h2 (.inl h1)]
    refine(txt.same (i:=i+1) hik hk fun m hm1 hm2=>?_).symm;by_cases hm:S m
    ·by_cases hc:(H (m+1)).bl.get b=(H m).bl.get b
     ·exact hc
     ·have:=txt.mono (i:=i+1) (k:=m) hm1 (by omega)
      obtain⟨q,hq⟩:=I.chg m hm (by omega) b (by omega) hc;rw[hnone b h1 h2]at hq;cases hq
    ·have:=txt.mono (i:=i+1) (k:=m) hm1 (by omega)
     refine txt.kept m (by omega) b (by omega) fun hT=>?_
     rcases (hyp m (by omega) hT).1 hm2 with h|h
     ·exact hm h
     ·omega
   ·rcases h1 with h1|h1
    ·by_cases hw:∃ c,T i c
     ·rw[AF5 (by omega) (.inr hw)]
      refine(txt.same (i:=i+1) hik hk fun m hm1 hm2=>?_).symm;have:=txt.mono (i:=i+1) (k:=m) hm1 (by omega);refine txt.kept m (by omega) b (by omega) fun hT=>?_
      obtain⟨c,hc⟩:=hw;have hfx:=fx m (by omega) (L.fixed i m o b (by omega) ho (by omega) hT (L.kinds i o c ho hc));rcases (hyp m (by omega) hT).1 hm2 with h|h
      ·exact hfx.2 (by omega) h
      ·omega
     ·rw[AGF (by rintro⟨_,h|h⟩;omega;exact hw h)]
      refine I.link k hk b p h3 hb fun j hj hT=>⟨fun h=>?_,fun h=>?_⟩
      ·rcases (hyp j hj hT).1 h with h|h
       ·exact h
       ·subst h;exact absurd ⟨b,hT⟩ hw
      ·exact fun hSj=>(hyp j hj hT).2 h (.inl hSj)
    ·rw[AGF (by omega)]
     refine I.link k hk b p h3 hb fun j hj hT=>⟨fun h=>?_,fun h=>?_⟩
     ·rcases (hyp j hj hT).1 h with h|h
      ·exact h
      ·subst h;have:=L.tlt j b hj hT;omega
     ·exact fun hSj=>(hyp j hj hT).2 h (.inl hSj)
  ·
   have hkm:=txt.mono (i:=k) (k:=i) hik (xP hi);have h3:φ b=some p:=by
    rcases AFV hp with ⟨h1,_,_⟩|⟨_,h3⟩
    ·omega
    ·exact h3
   have l1:C b=(H k).bl.get b:=I.link k hk b p h3 hb fun j hj hT=>⟨fun h=>by
     rcases (hyp j hj hT).1 h with h2|h2
     ·exact h2
     ·omega,fun h hSj=>(hyp j hj hT).2 h (.inl hSj)⟩
   by_cases hw:∃ c,T i c
   ·rw[AF5 (by omega) (.inr hw)]
    have hnT:¬ T i b:=fun hT=>(hyp i hi hT).2 hik (.inr rfl)
    rw[eff.kept b (by omega) hnT,<- lk hw b p h3 (by omega)];exact l1
   ·rw[AGF (by rintro⟨_,h|h⟩;omega;exact hw h)];exact l1
 ·
  intro j hj hjn b hb hc;rcases hj with hj|rfl
  ·obtain⟨p,hp⟩:=I.chg j hj hjn b hb hc
   exact⟨p,jle b p hp⟩
  ·cases hu:upto φ (H j).next b with
   |none=>exact absurd (eff.only b hb hu) hc
   |some p=>exact⟨p,jle b p (Cc hu).2⟩
 ·
  intro j hj hjn b h1 h2;rcases hj with hj|rfl
  ·obtain⟨p,hp⟩:=I.full j hj hjn b h1 h2
   exact⟨p,jle b p hp⟩
  ·obtain⟨p,hp⟩:=eff.all b h1 h2
   exact⟨p,jψ b p hp⟩
 ·
  intro k hk t u hyp hu;rw[H0];by_cases hd:o.dst=some t
  ·rw[if_pos ⟨hd,by rw[I.size];exact hN t hd⟩]
   have hik:i<k:=by
    rcases wN i k with h|h
    ·exact h
    ·exact absurd (.inr rfl) ((hyp i o ho hd).2 h)
   have hu2:ρ (i+1) t=some u:=by
    refine tr.backward (i:=i+1) hik hk (fun m om h1 h2 hom hdm=>?_) hu;have hfx:=fx m (by omega) (L.slots i m o om t (by omega) ho hom hd (.inl hdm));rcases (hyp m om hom hdm).1 h2 with h|h
    ·exact hfx.2 (by omega) h
    ·omega
   have:=(tr.sf i o ho).slot t u hu2;rw[if_pos hd]at this;rw[this];exact hv.mono jψ
  ·rw[if_neg fun h=>hd h.1]
   refine(I.slot k hk t u (fun j oj hoj hdj=>?_) hu).mono jle;have hji:j≠i:=fun h=>by subst h;rw[ho]at hoj;cases hoj;exact hd hdj
   refine⟨fun h=>?_,fun h hSj=>(hyp j oj hoj hdj).2 h (.inl hSj)⟩;rcases (hyp j oj hoj hdj).1 h with h2|h2
   ·exact h2
   ·exact absurd h2 hji
 ·
  intro b p hp;rcases AFV hp with ⟨h1,_,_⟩|⟨_,h3⟩
  ·have:=txt.mono (wP i) (xP hi)
   exact .inr (by omega)
  ·exact I.new b p h3
 ·
  intro k hk hc;rw[eff.frame k (xT hk I.sz) fun c q e1 en e2 e3 e4=>?_]
  ·exact I.frame k hk hc
  ·obtain⟨e5,e6⟩:=Cc e1
   obtain⟨c0,q0,f1,f2,f3,fi,f4⟩:=I.back c q e6 (by rw[lk ⟨c,e2⟩ c q e6 e5];exact e3) (by rw[e4];exact hk);have hlo:(H all.length).low<=c0/\c0<=(H all.length).high:=by
    rcases f4 with rfl|f4
    ·exact L.AHa i _ hi e2
    ·exact f4
   exact hc c0 q0 f1 (fi.trans en) hlo.1 hlo.2 f2 (f3.trans e4)
 ·
  intro b p hp hl hlt;rcases AFV hp with ⟨h1,h2,h3⟩|⟨h1,h3⟩
  ·rw[AF5 h2 (.inl h1)]at hl
   obtain⟨j,q,e1,e2,e3,ei,e4⟩:=eff.back b p h3 hl (xT hlt I.sz);obtain⟨e5,e6⟩:=Cc e1;rcases e4 with rfl|e4
   ·omega
   ·obtain⟨c0,q0,f1,f2,f3,fi,f4⟩:=I.back j q e6 (by rw[lk ⟨j,e4⟩ j q e6 e5];exact e2) (by rw[e3];exact hlt)
    refine⟨c0,q0,f1,f2,f3.trans e3,fi.trans ei,.inr ?_⟩;rcases f4 with rfl|f4
    ·exact L.AHa i _ hi e4
    ·exact f4
  ·refine I.back b p h3 ?_ hlt
   by_cases hb:b<(H (i+1)).next/\((H i).next<=b\/∃ c,T i c)
   ·have hb':b<(H i).next:=by omega
    rw[AF5 hb.1 hb.2]at hl;have hw:∃ c,T i c:=hb.2.resolve_left (by omega);rw[lk hw b p h3 hb'];exact live hb' hl
   ·rw[AGF hb]at hl;exact hl
end
end
noncomputable section
open Go
section
variable {P:Program}{U:TTy}{N:Nat}{all:List yv}{ρ:Nat->Rho}{H:Nat->Hp}{V:Nat->Value}{T:Nat->Nat->Prop}{φ0:Phi}{w0:wb}{B:Nat->Nat->Prop}{run:Nat->Bool}{ahs:List AEo}
theorem Inv.step(L:Laws U all ρ H T B)(tr:Tr P U all ahs all ρ H V run T)(txt:Txt P U N φ0 ρ H V T all.length){S:Nat->Prop}{φ:Phi}{C:Nat->Blk}{a:Act}{w:wb}(I:Inv U N all ρ H T φ0 w0 S φ C a w)
  {i:Nat}{o:yv}(ho:all[i]? =some o)(hS:¬ S i)(hpre:∀ j,B j i->S j)(hcl:∀ j k,S j->B k j->S k)(hN:∀ d,o.dst=some d->d<N)
  {K:Act->wb->Prop}{Q:Exit->Act->wb->Prop}(hK:∀ φ' C' a' w',Inv U N all ρ H T φ0 w0 (fun j=>S j\/j=i) φ' C' a' w'->K a' w'):wpOp P all.toArray Q i K a w:=by
 have hi:i<all.length:=by
  rcases wN i all.length with h|h
  ·exact h
  ·rw[xd h]at ho;cases ho
 have fx:∀ j,j≠i->(B i j\/B j i)->(j<i->S j)/\(i<=j->¬ S j):=by
  intro j hj hb;rcases hb with hb|hb
  ·have:=L.lt i j hb
   exact⟨fun h=>by omega,fun _ hSj=>hS (hcl j i hSj hb)⟩
  ·have:=L.lt j i hb
   exact⟨fun _=>hpre j hb,fun h=>by omega⟩
 have named:∀ d,(o.dst=some d\/.tmp d∈o.op.operands.toList\/∃ g w og,o.guard=some (g,w)/\all[g]? =some og/\og.dst=some d)->∀ u,ρ i d=some u->AED φ u (a.tmps.getD d undef):=by
  intro d hd u hu;refine I.slot i (xP hi) d u (fun j oj hoj hdj=>?_) hu;by_cases hji:j=i
  ·subst hji;exact⟨fun h=>absurd h (AAA _),fun _=>hS⟩
  ·exact fx j hji ((L.slots j i oj o d hji hoj ho hdj hd).symm)
 have s:=tr.sf i o ho;have hw:=PC s (a:=a) (φ:=φ) fun g want og d u h1 h2 h3 hu=>named d (.inr (.inr ⟨g,want,og,h1,h2,h3⟩)) u hu
 obtain⟨HR,ψ,b,HA,hx⟩:=I.AJk txt (xP hi);have names:∀ x∈o.op.operands.toList,∀ u,evR (ρ i) x=some u->AED (upto φ (H i).next) u (a.eval x):=by
  intro x hxm u hu;have h1:AED φ u (a.eval x):=by
   cases x with
   |tmp t=>exact named t (.inr (.inl hxm)) u hu
   |const v=>
    have hu:(if Fg v then some v else none)=some u:=hu;split at hu
    ·rename_i hp;cases hu;exact Nb hp
    ·cases hu
   |func g=>cases hu;exact .func _ .nil .nil
   |global g=>cases hu
  exact h1.cut hx (HA.ev hu)
 unfold wpOp;rw[wO,ho];simp only;rcases s.core with ⟨hrun,core⟩|⟨hrun,hv,hh,hT⟩
 ·rw[hw,hrun,if_pos rfl]
  refine .inl (core.AG1 _ _ w a HR names ?_ _ _ fun ψ' v' w' hv HW' eff _=>hK _ _ _ _ (I.after L tr txt ho hS hpre hcl hN hv HW' eff));have noE:((∃ x,kd U o.op=.w x)\/kd U o.op=.q)->∀ b,¬ QZ all.length T S (H i) i b:=by
   rintro hk b ⟨hb,hne⟩;refine hne fun j hj hT=>?_
   by_cases hji:j=i
   ·subst hji;exact⟨fun h=>absurd h (AAA _),fun _=>hS⟩
   ·exact fx j hji (L.fixed i j o b (fun h=>hji h.symm) ho hj hT hk)
  unfold TouchR;cases hk:kd U o.op with
  |p=>trivial
  |a=>trivial
  |r x=>
   rintro u hu c hc ⟨hb,hne⟩;refine hne fun j hj hT=>?_
   by_cases hji:j=i
   ·subst hji;exact⟨fun h=>absurd h (AAA _),fun _=>hS⟩
   ·exact fx j hji (L.reads i j o x c u (fun h=>hji h.symm) ho hj hT hk hu hc)
  |w x=>exact noE (.inl ⟨x,hk⟩)
  |q=>exact noE (.inr hk)
 ·rw[hw,hrun,if_neg (by simp)]
  refine hK _ _ _ _ (I.after L tr txt ho hS hpre hcl hN (ψ:=upto φ (H i).next) (v':=undef) (w':=w) (by rw[hv];exact .tuple .nil) (by rw[hh];exact HR) ?_);rw[hh];exact {Eff.refl (upto φ (H i).next) (H i) w with frame:=fun _ _ _=>rfl,back:=fun i p e hl _=>⟨i,p,e,hl,rfl,rfl,.inl rfl⟩,kept:=fun _ _ _=>rfl}
theorem Inv.begin(tr:Tr P U all ahs all ρ H V run T)(txt:Txt P U N φ0 ρ H V T all.length)(L:Laws U all ρ H T B){a:Act}(HW:AEG U φ0 nil (H 0) w0)(HA:AR N φ0 (ρ 0) a){S:Nat->Prop}(hS:∀ j,j<all.length->¬ S j):
  Inv U N all ρ H T φ0 w0 S φ0 (H 0).bl.get a w0 where
 dom:=fun b p hp=>⟨(HW.dom b p hp).2,.inl (HW.dom b p hp).1⟩
 inj:=fun b c p q hp hq hb hc hio h=>HW.inj b c p q hp hq (fun h=>h) (fun h=>h) hb hc hio h
 row:=fun b p hp=>HW.row b p hp fun h=>h
 kind:=fun k hk b p c s e hp hb he=>by
  have hs:=txt.AGE (i:=0) (k:=k) (HW.dom b p hp).1 (wP _) hk;rw[he]at hs;obtain⟨c',hc'⟩:=hs.cells;exact HW.kind b p c' s e hp hc'
 inp:=HW.inp
 link:=fun k hk b p hp hb hyp=>by
  refine(txt.same (i:=0) (wP _) hk fun m _ hm=>?_).symm;have h0:=(HW.dom b p hp).1;have:=txt.mono (i:=0) (k:=m) (wP _) (by omega);exact txt.kept m (by omega) b (by omega) fun hT=>hS m (by omega) ((hyp m (by omega) hT).1 hm)
 chg:=fun j hj hjn=>absurd hj (hS j hjn)
 full:=fun j hj hjn=>absurd hj (hS j hjn)
 slot:=fun k hk t u hyp hu=>by
  refine HA.rel t u (tr.backward (i:=0) (wP _) hk (fun m om _ hm hom hdm=>?_) hu);exact hS m (by omega) ((hyp m om hom hdm).1 hm)
 size:=HA.size
 defs:=HA.defs
 le:=.refl _
 new:=fun b p hp=>.inl hp
 sz:=IT _
 tape:=rfl
 os:=rfl
 output:=rfl
 frame:=fun _ _ _=>rfl
 back:=fun b p hp hl _=>⟨b,p,hp,hl,rfl,rfl,.inl rfl⟩
theorem Inv.fin(txt:Txt P U N φ0 ρ H V T all.length)(L:Laws U all ρ H T B){S:Nat->Prop}{φ:Phi}{C:Nat->Blk}{a:Act}{w:wb}(I:Inv U N all ρ H T φ0 w0 S φ C a w)(hS:∀ j,j<all.length->S j):
  AEG U φ nil (H all.length) w/\AR N φ (ρ all.length) a/\Evo φ0 (H 0) w0 φ (H all.length) w:=by
 have hdom:∀ b p,φ b=some p->b<(H all.length).next:=by
  intro b p hp;rcases (I.dom b p hp).2 with h|⟨j,_,hj,_,h⟩
  ·have:=txt.mono (wP all.length) (IT _);omega
  ·have:=txt.mono (i:=j+1) (k:=all.length) hj (IT _);omega
 have lk:∀ b p,φ b=some p->C b=(H all.length).bl.get b:=fun b p hp=>
  I.link _ (IT _) b p hp (hdom b p hp) fun j hj _=>⟨fun _=>hS j hj,fun h=>by omega⟩
 refine⟨{dom:=fun b p hp=>⟨hdom b p hp,(I.dom b p hp).1⟩,inj:=fun b c p q hp hq _ _ hb hc hio h=>I.inj b c p q hp hq (by rw[lk b p hp];exact hb) (by rw[lk c q hq];exact hc) hio h,row:=fun b p hp _=>by rw[<- lk b p hp];exact I.row b p hp,fresh:=txt.fresh _ (IT _),kind:=fun b p c s e hp he=>I.kind _ (IT _) b p c s e hp (hdom b p hp) he,inp:=I.inp},
  ⟨I.size,I.defs,fun t u hu=>I.slot _ (IT _) t u (fun j oj hoj _=>?_) hu⟩,
  {le:=I.le,new:=I.new,next:=txt.mono (wP _) (IT _),size:=I.sz,tape:=I.tape,os:=I.os,output:=I.output,frame:=I.frame,back:=fun b p hp hl hlt=>I.back b p hp (by rw[lk b p hp];exact hl) hlt,kept:=fun b hb ho=>?_,low:=L.low,high:=L.high,shape:=fun b hb=>txt.AGE (i:=0) hb (wP _) (IT _),only:=fun b hb h0=>?_,all:=fun b h1 h2=>?_}⟩
 ·have hj:j<all.length:=by
   rcases wN j all.length with h|h
   ·exact h
   ·rw[xd h]at hoj;cases hoj
  exact⟨fun _=>hS j hj,fun h=>by omega⟩
 ·refine txt.same (i:=0) (wP _) (IT _) fun m _ hm=>?_
  have:=txt.mono (i:=0) (k:=m) (wP _) (by omega);exact txt.kept m hm b (by omega) fun hT=>by have:=L.AHa m b hm hT;omega
 ·refine txt.same (i:=0) (wP _) (IT _) fun m _ hm=>?_
  have:=txt.mono (i:=0) (k:=m) (wP _) (by omega);by_cases hc:(H (m+1)).bl.get b=(H m).bl.get b
  ·exact hc
  ·obtain⟨p,hp⟩:=I.chg m (hS m hm) hm b (by omega) hc
   rcases I.new b p hp with h|h
   ·rw[h0]at h;cases h
   ·omega
 ·
  have:∀ k,k<=all.length->b<(H k).next->∃ p,φ b=some p:=by
   intro k
   induction k with
   |zero=>intro _ h;omega
   |succ k ih=>
    intro hk h;rcases wN b (H k).next with h3|h3
    ·exact ih (by omega) h3
    ·exact I.full k (hS k (by omega)) (by omega) b h3 h
  exact this _ (IT _) h2
theorem OC{α:Type}{p q:α->Bool}:∀ {l:List α},(∀ x∈l,p x=true->q x=true)->(∃ x∈l,q x=true/\p x=false)->l.countP p<l.countP q
 |[],_,h=>by obtain⟨x,hx,_⟩:=h;cases hx
 |y::l,h1,h2=>by
  have hmono:l.countP p<=l.countP q:=List.countP_mono_left fun x hx hp=>h1 x (vr _ hx) hp
  rw[ACX,ACX];by_cases hy:q y=true/\p y=false
  ·rw[hy.1,hy.2];simp;omega
  ·obtain⟨x,hx,hq,hp⟩:=h2
   rcases wA.1 hx with rfl|hx
   ·exact absurd ⟨hq,hp⟩ hy
   ·have:=OC (fun x hx=>h1 x (vr _ hx)) ⟨x,hx,hq,hp⟩
    cases hpy:p y with
    |true=>rw[h1 y vp hpy];simp;omega
    |false=>cases q y<;>simp<;>omega
structure AGn (all:List yv)(B:Nat->Nat->Prop):Prop where
 dec:∀ i o j,all[i]? =some o->B j i->∃ e∈o.after.toList,zT .any e=true/\(j=e.on\/B j e.on)
 back:∀ i o,all[i]? =some o->∀ e∈o.after.toList,zT .any e=true->e.on<i
theorem lG(E:AGn all B)(L:Laws U all ρ H T B)(tr:Tr P U all ahs all ρ H V run T)(txt:Txt P U N φ0 ρ H V T all.length)(hN:∀ o∈all,∀ d,o.dst=some d->d<N){Q:Exit->Act->wb->Prop}
  (hq:∀ ψ a' w',AEG U ψ nil (H all.length) w'->AR N ψ (ρ all.length) a'->Evo φ0 (H 0) w0 ψ (H all.length) w'->Q .normal a' w'):
  ∀ (fuel:Nat) (listed:Array Bool) (φ:Phi) (C:Nat->Blk) (a:Act) (w:wb),listed.size=all.length->(wm all.length).countP (fun j=> !listed.getD j true)<=fuel->
   (∀ j k,(j<all.length/\listed.getD j false=true)->B k j->(k<all.length/\listed.getD k false=true))->
   Inv U N all ρ H T φ0 w0 (fun j=>j<all.length/\listed.getD j false=true) φ C a w->wpAny P .any all.toArray Q fuel listed a w:=by
 have AGG:∀ (listed:Array Bool),listed.size=all.length->∀ j,j<all.length->listed.getD j true=listed.getD j false:=by
  intro listed hs j hj;rw[wu,wu,Array.getElem?_eq_getElem (by omega)];rfl
 have done:∀ (listed:Array Bool) (φ:Phi) (C:Nat->Blk) (a:Act) (w:wb),listed.size=all.length->yZ .any all.toArray listed=[]->
   Inv U N all ρ H T φ0 w0 (fun j=>j<all.length/\listed.getD j false=true) φ C a w->(∀ j,j<all.length->listed.getD j false=true)/\Q .normal a w:=by
  intro listed φ C a w hs hr I;have hall:∀ j,j<all.length->listed.getD j false=true:=by
   intro j
   induction j using ABn with
   |_ j ih=>
    intro hj;cases hl:listed.getD j false with
    |true=>rfl
    |false=>
     exfalso
     have ho:all[j]? =some all[j]:=sh hj;have:j∈yZ .any all.toArray listed:=by
      unfold yZ;rw[vz];refine⟨xM.2 (by simpa using hj),?_⟩;rw[AGG listed hs j hj,hl,wO,ho];simp only[yA,ABY,xa,ACC];rw[yC];intro e he;cases hb:zT .any e with
      |false=>rfl
      |true=>
       have h1:=E.back j all[j] ho e (yF.2 he) hb;rw[ih e.on h1 (by omega)];rfl
     rw[hr]at this;cases this
  obtain⟨h1,h2,h3⟩:=I.fin txt L fun j hj=>⟨hj,hall j hj⟩
  exact⟨hall,hq φ a w h1 h2 h3⟩
 intro fuel
 induction fuel with
 |zero=>
  intro listed φ C a w hs hc hcl I;have hr:yZ .any all.toArray listed=[]:=by
   cases hr:yZ .any all.toArray listed with
   |nil=>rfl
   |cons x xs=>
    exfalso
    have hx:x∈yZ .any all.toArray listed:=by rw[hr];exact vp
    unfold yZ at hx;rw[vz]at hx;obtain⟨h1,h2⟩:=hx;have h3:x<all.length:=by simpa using xM.1 h1
    simp only[wJ]at h2;have:=List.countP_pos_iff (p:=fun j=> !listed.getD j true) (l:=wm all.length) |>.2 ⟨x,xM.2 h3,h2.1⟩;omega
  exact⟨hr,(done listed φ C a w hs hr I).2⟩
 |succ fuel ih=>
  intro listed φ C a w hs hc hcl I;refine⟨fun hr=>(done listed φ C a w hs hr I).2,fun i hi=>?_⟩;unfold yZ at hi;rw[vz]at hi;obtain⟨h1,h2⟩:=hi;have h3:i<all.length:=by simpa using xM.1 h1
  have ho:all[i]? =some all[i]:=sh h3;rw[wJ,wO,ho]at h2;obtain⟨h4,h5⟩:=h2;simp only[xa,ACC]at h5;rw[yC]at h5;have hl:listed.getD i false=false:=by
   rw[<- AGG listed hs i h3];simpa using h4
  have AEg:∀ j,j<all.length->(listed.setIfInBounds i true).getD j false=if j=i then true else listed.getD j false:=by
   intro j hj;rw[wu,Array.getElem?_setIfInBounds,wu];by_cases hji:j=i
   ·subst hji;rw[if_pos rfl,if_pos (by omega),if_pos rfl];rfl
   ·rw[if_neg fun h=>hji h.symm,if_neg hji]
  have hpre:∀ j,B j i->(j<all.length/\listed.getD j false=true):=by
   intro j hb;obtain⟨e,he,hbe,hor⟩:=E.dec i _ j ho hb;have hon:=h5 e (yF.1 he);rw[hbe]at hon;have hon:listed.getD e.on false=true:=by simpa using hon
   have hlt:e.on<all.length:=by have:=E.back i _ ho e he hbe;omega
   rcases hor with rfl|hor
   ·exact⟨hlt,hon⟩
   ·exact hcl e.on j ⟨hlt,hon⟩ hor
  refine I.step L tr txt ho (fun h=>by rw[hl]at h;cases h.2) hpre hcl (hN _ (List.mem_of_getElem? ho)) fun φ' C' a' w' I'=>ih _ φ' C' a' w' (by simp[hs]) ?_ ?_ ?_
  ·have:=OC (p:=fun j=> !(listed.setIfInBounds i true).getD j true) (q:=fun j=> !listed.getD j true) (l:=wm all.length) (fun j hj hp=>?_) ⟨i,xM.2 h3,h4,?_⟩
   ·omega
   ·have hj:=xM.1 hj
    rw[AGG _ (by simp[hs]) j hj,AEg j hj]at hp;rw[AGG _ hs j hj];by_cases hji:j=i
    ·rw[if_pos hji]at hp;cases hp
    ·rw[if_neg hji]at hp;exact hp
   ·rw[AGG _ (by simp[hs]) i h3,AEg i h3,if_pos rfl];rfl
  ·intro j k hj hb
   have hjk:k<all.length/\listed.getD k false=true:=by
    rw[AEg j hj.1]at hj;by_cases hji:j=i
    ·subst hji;exact hpre k hb
    ·rw[if_neg hji]at hj;exact hcl j k hj hb
   refine⟨hjk.1,?_⟩;rw[AEg k hjk.1];split
   ·rfl
   ·exact hjk.2
  ·have:(fun j=>(j<all.length/\listed.getD j false=true)\/j=i)=fun j=>j<all.length/\(listed.setIfInBounds i true).getD j false=true:=by
    funext j
    apply propext;constructor
    ·rintro (⟨hj,hlj⟩|rfl)
     ·refine⟨hj,?_⟩
      rw[AEg j hj];split
      ·rfl
      ·exact hlj
     ·refine⟨h3,?_⟩
      rw[AEg _ h3,if_pos rfl]
    ·rintro⟨hj,hlj⟩
     rw[AEg j hj]at hlj;by_cases hji:j=i
     ·exact .inr hji
     ·rw[if_neg hji]at hlj;exact .inl ⟨hj,hlj⟩
   rw[<- this];exact I'
theorem Evo.AGH{φ ψ:Phi}{h h':Hp}{w w1 w':wb}(ev:Evo φ h w1 ψ h' w')(hh:w1.heap=w.heap)(ht:w1.tape=w.tape)(ho:w1.os=w.os)(hout:w1.output=w.output):Evo φ h w ψ h' w' where
 le:=ev.le
 new:=ev.new
 next:=ev.next
 size:=by rw[<- hh];exact ev.size
 tape:=ev.tape.trans ht
 os:=ev.os.trans ho
 output:=ev.output.trans hout
 frame:=by rw[<- hh];exact ev.frame
 back:=by rw[<- hh];exact ev.back
 kept:=ev.kept
 low:=ev.low
 high:=ev.high
 shape:=ev.shape
 only:=ev.only
 all:=ev.all
theorem jq(hm:P.follows .mixedOrders=true)(E:AGn all B)(L:Laws U all ρ H T B)(tr:Tr P U all ahs all ρ H V run T)(hN:∀ o∈all,∀ d,o.dst=some d->d<N){Q:Exit->Act->wb->Prop}{a:Act}{w:wb}{id:Nat}
  (HW:AEG U φ0 nil (H 0) w)(HA:AR N φ0 (ρ 0) a)(hq:∀ ψ a' w',AEG U ψ nil (H all.length) w'->AR N ψ (ρ all.length) a'->Evo φ0 (H 0) w ψ (H all.length) w'->Q .normal a' w'):
  (Code.region id all.toArray true).wp P Q a w:=by
 have txt:Txt P U N φ0 ρ H V T all.length:=by
  have h:=QS (Q:=fun _ _ _=>Txt P U N φ0 ρ H V T all.length) all tr hN HW HA fun txt _ _ _ _ _ _=>txt
  obtain⟨_,_,_,h,_⟩:=wp_region_list (id:=0) (ops:=all.toArray) (by simpa using h) (default:Frame) [] [];exact h
 refine wp_region_any hm ?_;have HW1:AEG U φ0 nil (H 0) {w with drawn:=w.drawn+1}:=HW.of_heap rfl;have hsz:all.toArray.size=all.length:=by simp
 rw[hsz];refine lG (w0:={w with drawn:=w.drawn+1}) E L tr txt hN (fun ψ a' w' h1 h2 h3=>hq ψ a' w' h1 h2 (h3.AGH rfl rfl rfl rfl)) all.length _ φ0 (H 0).bl.get a _ (by simp) (wd List.countP_le_length (by simp)) ?_ ?_
 ·rintro j k ⟨hj,hlj⟩ _
  rw[wu]at hlj;simp[hj]at hlj
 ·refine Inv.begin tr txt L HW1 HA fun j hj h=>?_
  have:=h.2;rw[wu]at this;simp[hj]at this
end
end
noncomputable section
open Go
theorem S6{β:Type}(x:Nat):∀ (k:List Nat->β) (l:List Nat),W9 x k l=k (l++[x])
 |k,[]=>rfl
 |k,y::l=>by
  unfold W9;rw[S6 x (fun l=>k (y::l)) l];rfl
def Dr:List Nat->List yv->List Nat
 |acc,[]=>acc
 |acc,o::l=>Dr (acc++[HI acc 0 o.after.toList]) l
theorem VR{β:Type}(k:List Nat->β):∀ (l:List yv) (acc:List Nat),ey k l acc=k (Dr acc l)
 |[],acc=>rfl
 |o::l,acc=>by
  unfold ey;rw[AZ,S6,VR k l];rfl
theorem MU:∀ (l:List yv) (acc:List Nat) (j:Nat),j<acc.length->(Dr acc l)[j]? =acc[j]?
 |[],acc,j,_=>rfl
 |o::l,acc,j,hj=>by
  unfold Dr;rw[MU l _ j (by simp;omega),wD hj]
theorem Xg(l:List yv):∀ (acc:List Nat) (j:Nat) (o:yv),l[j]? =some o->(Dr acc l)[acc.length+j]? =some (HI ((Dr acc l).take (acc.length+j)) 0 o.after.toList):=by
 induction l with
 |nil=>intro acc j o h;cases h
 |cons o' l ih=>
  intro acc j o h;have hu:Dr acc (o'::l)=Dr (acc++[HI acc 0 o'.after.toList]) l:=by rw[Dr]
  rw[hu];cases j with
  |zero=>
   have ho:o'=o:=by simpa using h
   subst ho;rw[Nat.add_zero];have hp:=fun k hk=>MU l (acc++[HI acc 0 o'.after.toList]) k hk
   have ht:(Dr (acc++[HI acc 0 o'.after.toList]) l).take acc.length=acc:=by
    apply List.ext_getElem?;intro k;rw[zC];split
    ·rename_i hk
     rw[hp k (by rw[No];omega),wD hk]
    ·rename_i hk
     rw[xd (by omega)]
   rw[ht,hp acc.length (by rw[No,xR];omega),List.getElem?_append_right (IT _),Nat.sub_self];rfl
  |succ j=>
   have:=ih (acc++[HI acc 0 o'.after.toList]) j o (by simpa using h);rw[No,xR]at this;have e:acc.length+(j+1)=acc.length+1+j:=by omega
   rw[e];exact this
theorem MT:∀ (l:List yv) (acc:List Nat),(Dr acc l).length=acc.length+l.length
 |[],acc=>rfl
 |o::l,acc=>by
  unfold Dr;rw[MT l];simp;omega
theorem Pm{bs:List Nat}{i j:Nat}:isB bs i j=true↔∃ b,bs[j]? =some b/\b.testBit i=true:=by
 unfold isB;rw[Fc];cases bs[j]? with
 |none=>simp
 |some b=>
  simp only[Option.some.injEq,exists_eq_left'];rw[Am];unfold Nat.testBit;have e:Nat.shiftRight b i=b >>> i:=rfl;have e2:Nat.mod (b >>> i) 2=(b >>> i) % 2:=rfl;rw[e,e2];simp[Nat.and_one_is_mod,bne_iff_ne]
theorem Ke(acc:List Nat)(i:Nat):∀ (es:List Edge) (m:Nat),(HI acc m es).testBit i=true↔m.testBit i=true\/∃ e∈es,zT .any e=true/\(i=e.on\/((acc[e.on]?).getD 0).testBit i=true)
 |[],m=>by unfold HI;simp
 |e::es,m=>by
  unfold HI;split
  ·rename_i hb
   rw[Ke acc i es];have e1:∀ a b:Nat,Nat.lor a b=a ||| b:=fun _ _=>rfl
   have e2:Nat.shiftLeft 1 e.on=1 <<< e.on:=rfl;rw[e1,e1,e2,Fc,AC2,AC2,Nat.one_shiftLeft,Nat.testBit_two_pow];simp only[ACn,decide_eq_true_eq,wA,exists_eq_or_imp,hb,true_and];constructor
   ·rintro ((h|h|h)|h)
    ·exact .inl h
    ·exact .inr (.inl (.inl h.symm))
    ·exact .inr (.inl (.inr h))
    ·exact .inr (.inr h)
   ·rintro (h|(h|h)|h)
    ·exact .inl (.inl h)
    ·exact .inl (.inr (.inl h.symm))
    ·exact .inl (.inr (.inr h))
    ·exact .inr h
  ·rename_i hb
   rw[Ke acc i es];simp only[wA,exists_eq_or_imp,hb,Bool.false_eq_true,false_and,false_or]
theorem Gu{ops:List yv}{o:yv}{i:Nat}:(o,i)∈ops.zipIdx↔ops[i]? =some o:=List.mem_zipIdx_iff_getElem?
theorem Jl{d:Nat}:∀ {l:List Nat},memN d l=true↔d∈l
 |[]=>by simp[memN]
 |x::l=>by
  unfold memN;split
  ·rename_i hb
   have:=Am.1 hb;simp[this]
  ·rename_i hb
   have:=FO hb;rw[Jl,wA];constructor
   ·exact .inr
   ·rintro (h|h)
    ·exact absurd h.symm this
    ·exact h
section
variable {U:TTy}{all:List yv}{bs:List Nat}
theorem Qz(hbs:bs=Dr [] all)(he:IH all=true):AGn all (fun i j=>isB bs i j=true):=by
 have back:∀ i o,all[i]? =some o->∀ e∈o.after.toList,zT .any e=true->e.on<i:=by
  intro i o ho e hem hb;unfold IH at he;rw[zM]at he;have:=he (o,i) (Gu.2 ho);simp only[zM]at this;have:=this e hem;rw[hb]at this;exact BD.1 (by simpa using this)
 refine⟨fun i o j ho hB=>?_,back⟩;obtain⟨b,hb1,hb2⟩:=Pm.1 hB;have:=Xg all [] i o ho;rw[<- hbs]at this;simp only[List.length_nil,vk]at this;rw[this]at hb1;cases hb1;rcases (Ke _ j _ _).1 hb2 with h|⟨e,hem,hbe,hor⟩
 ·simp at h
 ·refine⟨e,hem,hbe,hor.imp id fun h=>?_⟩
  have hlt:=back i o ho e hem hbe;rw[zC,if_pos hlt]at h;cases hq:bs[e.on]? with
  |none=>rw[hq]at h;simp at h
  |some c=>rw[hq]at h;exact Pm.2 ⟨c,hq,h⟩
theorem qH(hbs:bs=Dr [] all)(he:IH all=true):∀ j i,isB bs i j=true->i<j:=by
 have E:=Qz hbs he;intro j
 induction j using ABn with
 |_ j ih=>
  intro i hB;have hj:j<all.length:=by
   obtain⟨b,hb1,_⟩:=Pm.1 hB;have:=(wC.1 hb1).1;rw[hbs,MT]at this
   simpa using this
  obtain⟨e,hem,hbe,hor⟩:=E.dec j _ i (sh hj) hB;have hlt:=E.back j _ (sh hj) e hem hbe;rcases hor with rfl|h
  ·exact hlt
  ·have:=ih e.on hlt i h;omega
theorem WO{i j:Nat}(h:isB bs (B6 i j) (i+j - B6 i j)=true):isB bs i j=true\/isB bs j i=true:=by
 rw[BM]at h;rcases Nat.le_total i j with h1|h1
 ·rw[Nat.min_eq_left h1,show i+j - i=j by omega]at h;exact .inl h
 ·rw[Nat.min_eq_right h1,show i+j - j=i by omega]at h;exact .inr h
theorem gp{i j:Nat}(h1:isB bs i j≠true)(h2:isB bs j i≠true):isB bs (B6 i j) (i+j - B6 i j)=false:=by
 cases h:isB bs (B6 i j) (i+j - B6 i j)with
 |false=>rfl
 |true=>
  rcases WO h with h|h
  ·exact absurd h h1
  ·exact absurd h h2
theorem dU(hs:J6 all bs=true){i j:Nat}{oi oj:yv}{d:Nat}(hij:i≠j)(hi:all[i]? =some oi)(hj:all[j]? =some oj)(hd:oi.dst=some d)
  (hn:oj.dst=some d\/.tmp d∈oj.op.operands.toList\/∃ g w og,oj.guard=some (g,w)/\all[g]? =some og/\og.dst=some d):isB bs i j=true\/isB bs j i=true:=by
 unfold J6 at hs;rw[zM]at hs;have h1:=hs (oi,i) (Gu.2 hi);simp only[hd,zM]at h1;have h2:=h1 (oj,j) (Gu.2 hj);simp only[ACn,Bool.not_eq_true']at h2;rcases h2 with (h2|h2)|h2
 ·exact absurd (Am.1 h2) hij
 ·exact WO h2
 ·exfalso
  have:memN d (oj.dst.toList++QR all oj)=true:=by
   rw[Jl,wK];rcases hn with h|h|⟨g,w,og,h,h3,h4⟩
   ·left;rw[h];simp
   ·right
    unfold QR;rw[wK];left;rw[List.mem_filterMap];exact⟨_,h,rfl⟩
   ·right
    unfold QR;rw[wK];right;rw[h];simp only[Fc,h3,h4];simp
  rw[this]at h2;cases h2
structure AHb (U:TTy)(all:List yv)(xs:List wV)(i j:Nat)(oi oj:yv):Prop where
 ww:∀ x y,kd U oi.op=.w x->kd U oj.op≠.w y
 wq:∀ x,kd U oi.op=.w x->kd U oj.op≠.q
 qw:∀ y,kd U oi.op=.q->kd U oj.op≠.w y
 wr:∀ x y,kd U oi.op=.w x->kd U oj.op=.r y->x∈xs/\∃ t,x=.tmp t/\∀ k o,i<=k->k<j->all[k]? =some o->o.dst≠some t
 rw':∀ x y,kd U oi.op=.r x->kd U oj.op=.w y->x∈xs/\∃ t,x=.tmp t/\∀ k o,i<=k->k<j->all[k]? =some o->o.dst≠some t
theorem Jg{j i:Nat}{x:wV}{rest:Option (List wV)}{xs:List wV}(h:WE all j x i rest=some xs):
  ∃ ys,rest=some ys/\xs=x::ys/\∃ t,x=.tmp t/\∀ k o,i<=k->k<j->all[k]? =some o->o.dst≠some t:=by
 unfold WE at h;split at h
 ·rename_i t
  split at h
  ·cases h
  ·rename_i AHc
   split at h
   ·rename_i ys
    cases h;refine⟨ys,rfl,rfl,t,rfl,fun k o h1 h2 ho hd=>?_⟩;rw[List.any_eq_false]at AHc;refine AHc (o,k) (Gu.2 ho) ?_;have e1:Nat.ble i k=true:=Ac.2 h1;have e2:Nat.blt k j=true:=BD.2 h2;simp only[e1,e2,ABY];rw[Jl,hd];simp
   ·cases h
 ·cases h
theorem Ex{j:Nat}{oj:yv}:∀ {l:List (yv×Nat)} {xs:List wV},apart U all bs j oj l=some xs->∀ oi i,(oi,i)∈l->i<j->isB bs i j=false->AHb U all xs i j oi oj
 |[],xs,_,oi,i,hm,_,_=>by cases hm
 |(o,k)::l,xs,h,oi,i,hm,hij,hB=>by
  unfold apart at h;have mono:∀ {ys:List wV} {x:wV},AHb U all ys i j oi oj->AHb U all (x::ys) i j oi oj:=fun h=>
   {h with wr:=fun a b h1 h2=>(h.wr a b h1 h2).imp (vr _) id,rw':=fun a b h1 h2=>(h.rw' a b h1 h2).imp (vr _) id}
  rcases wA.1 hm with he|hm
  ·obtain⟨e1,e2⟩:=Prod.mk.inj he
   subst e1;subst e2;have hc:(Nat.blt i j && !isB bs i j)=true:=by rw[hB,BD.2 hij];rfl
   rw[hc]at h;simp only at h;unfold ai at h;split at h
   ·rename_i hk
    exact⟨(fun x y h1=>by rw[hk]at h1;cases h1),(fun x h1=>by rw[hk]at h1;cases h1),(fun y h1=>by rw[hk]at h1;cases h1),(fun x y h1=>by rw[hk]at h1;cases h1),(fun x y h1=>by rw[hk]at h1;cases h1)⟩
   ·rename_i hk _
    exact⟨(fun x y _ h1=>by rw[hk]at h1;cases h1),(fun x _ h1=>by rw[hk]at h1;cases h1),(fun y _ h1=>by rw[hk]at h1;cases h1),(fun x y _ h1=>by rw[hk]at h1;cases h1),(fun x y _ h1=>by rw[hk]at h1;cases h1)⟩
   ·cases h
   ·cases h
   ·cases h
   ·rename_i hk1 hk2
    obtain⟨ys,_,rfl,t,ht,hw⟩:=Jg h;exact⟨(fun x y _ h1=>by rw[hk2]at h1;cases h1),(fun x _ h1=>by rw[hk2]at h1;cases h1),(fun y h1=>by rw[hk1]at h1;cases h1),(fun x y h1 _=>by rw[hk1]at h1;cases h1;exact⟨vp,t,ht,hw⟩),(fun x y h1=>by rw[hk1]at h1;cases h1)⟩
   ·rename_i hk1 hk2
    obtain⟨ys,_,rfl,t,ht,hw⟩:=Jg h;exact⟨(fun x y h1=>by rw[hk1]at h1;cases h1),(fun x h1=>by rw[hk1]at h1;cases h1),(fun y h1=>by rw[hk1]at h1;cases h1),(fun x y h1=>by rw[hk1]at h1;cases h1),(fun x y h1 _=>by rw[hk1]at h1;cases h1;exact⟨vp,t,ht,hw⟩)⟩
   ·rename_i q1 q2 q3 q4 q5 q6 q7
    exact⟨fun x y h1 h2=>q3 x y h1 h2,fun x h1 h2=>q4 x h1 h2,fun y h1 h2=>q5 y h1 h2,fun x y h1 h2=>(q6 x y h1 h2).elim,fun x y h1 h2=>(q7 x y h1 h2).elim⟩
  ·split at h
   ·exact Ex h oi i hm hij hB
   ·unfold ai at h
    split at h
    ·exact Ex h oi i hm hij hB
    ·exact Ex h oi i hm hij hB
    ·cases h
    ·cases h
    ·cases h
    ·obtain⟨ys,h1,rfl,_⟩:=Jg h
     exact mono (Ex h1 oi i hm hij hB)
    ·obtain⟨ys,h1,rfl,_⟩:=Jg h
     exact mono (Ex h1 oi i hm hij hB)
    ·exact Ex h oi i hm hij hB
theorem Jk{j i:Nat}{o:yv}{ask:Nat->Kd->Bool}(ho:all[i]? =some o)(hij:i≠j)(h1:isB bs i j≠true)(h2:isB bs j i≠true)(ha:ask i (kd U o.op)=true):loose U all bs j ask=true:=by
 unfold loose;rw[List.any_eq_true];refine⟨(o,i),Gu.2 ho,?_⟩;have hb:Nat.beq i j=false:=by
  cases hb:Nat.beq i j with
  |false=>rfl
  |true=>exact absurd (Am.1 hb) hij
 simp only[hb,yA,ABY,gp h1 h2,ha]
inductive AFk (U:TTy)(all:List yv)(bs:List Nat)(j:Nat)(o:yv)(xs:List wV):AEo->Prop
 |AEV (hk:kd U o.op=.q) (hs:AEw U all bs j=true):AFk U all bs j o xs (.quiet .AEV)
 |weak (hk:kd U o.op=.q) (hs:AEw U all bs j=false):AFk U all bs j o xs (.quiet .weak)
 |free (hk:kd U o.op=.q) (hs:AEw U all bs j=false) (hl:AFw U all bs j=false):AFk U all bs j o xs (.quiet .free)
 |alloc (hk:kd U o.op=.a):AFk U all bs j o xs (.quiet .AEV)
 |read {x:wV} (hk:kd U o.op=.r x):AFk U all bs j o xs (AF9 (loose U all bs j fun i k=>isQ k && !(AEw U all bs i)) x xs)
 |write {x:wV} (hk:kd U o.op=.w x):AFk U all bs j o xs (.wr x xs)
 |AFu {x:wV} (hk:kd U o.op=.w x) (hl:(loose U all bs j fun _ k=>isR k)=false):AFk U all bs j o xs (.quiet .free)
 |plain (hk:kd U o.op=.p):AFk U all bs j o xs .plain
theorem Tc{j:Nat}{o:yv}{ah:AEo}(h:Lp U all bs j o=some ah):∃ xs,apart U all bs j o all.zipIdx=some xs/\AFk U all bs j o xs ah:=by
 unfold Lp at h;split at h
 ·cases h
 ·rename_i xs hx
  refine⟨xs,hx,?_⟩;split at h
  ·rename_i hk
   split at h
   ·rename_i hs;cases h;exact .AEV hk hs
   ·rename_i hs _;cases h;exact .weak hk hs
   ·rename_i hs hl;cases h;exact .free hk hs hl
  ·rename_i hk;cases h;exact .alloc hk
  ·rename_i hk;cases h;exact .read hk
  ·rename_i hk
   split at h
   ·cases h;exact .write hk
   ·rename_i hl;cases h;exact .AFu hk hl
  ·rename_i q1 q2 q3 q4
   cases h;refine .plain ?_;cases hk:kd U o.op with
   |p=>rfl
   |a=>exact absurd hk q2
   |r x=>exact absurd hk (q3 x)
   |w x=>exact absurd hk (q4 x)
   |q=>exact absurd hk q1
theorem N6:∀ {l:List yv} {j:Nat} {ahs:List AEo},PI U all bs j l=some ahs->∀ k o,l[k]? =some o->Lp U all bs (j+k) o=some (ahs.getD k .plain)
 |[],j,ahs,h,k,o,hk=>by cases hk
 |o'::l,j,ahs,h,k,o,hk=>by
  unfold PI at h;split at h
  ·rename_i a ha
   split at h
   ·rename_i r hr
    cases h;cases k with
    |zero=>cases hk;exact ha
    |succ k=>
     have:=N6 hr k o hk;have e:j+(k+1)=j.succ+k:=by omega
     rw[e];exact this
   ·cases h
  ·cases h
theorem Md{old:Bool}{x:wV}{xs:List wV}:(AF9 old x xs=.plain/\old=false/\xs=[])\/AF9 old x xs=.chk old x xs:=by
 unfold AF9;cases old<;>cases xs<;>first|exact .inl ⟨rfl,rfl,rfl⟩|exact .inr rfl
theorem AFk.ok{j:Nat}{o:yv}{xs:List wV}{ah:AEo}(h:AFk U all bs j o xs ah):AGm U o ah:=by
 cases h with
 |AEV hk _=>exact⟨(fun _ _ h=>by rw[hk]at h;rcases h with h|⟨_,h⟩<;>cases h),(fun _ _ h=>by cases h),(fun _ _ _ h=>by cases h)⟩
 |weak hk _=>exact⟨(fun _ _ h=>by rw[hk]at h;rcases h with h|⟨_,h⟩<;>cases h),(fun _ _ h=>by cases h),(fun _ _ _ h=>by cases h)⟩
 |free hk _ _=>exact⟨(fun _ _ h=>by rw[hk]at h;rcases h with h|⟨_,h⟩<;>cases h),(fun _ _ h=>by cases h),(fun _ _ _ h=>by cases h)⟩
 |alloc hk=>exact⟨(fun _ _ h=>by rw[hk]at h;rcases h with h|⟨_,h⟩<;>cases h),(fun _ _ h=>by cases h),(fun _ _ _ h=>by cases h)⟩
 |read hk=>
  rcases Md (old:=loose U all bs j fun i k=>isQ k && !(AEw U all bs i)) (xs:=xs)with ⟨h,_⟩|h
  ·rw[h];exact .plain U o
  ·rw[h];exact⟨(fun _ h=>by cases h),(fun _ _ h=>by cases h),(fun _ _ _ h=>by cases h;exact hk)⟩
 |write hk=>exact⟨(fun _ h=>by cases h),(fun _ _ h=>by cases h;exact hk),(fun _ _ _ h=>by cases h)⟩
 |AFu hk _=>exact⟨(fun _ _ h=>by rw[hk]at h;rcases h with h|⟨_,h⟩<;>cases h),(fun _ _ h=>by cases h),(fun _ _ _ h=>by cases h)⟩
 |plain hk=>exact .plain U o
theorem AFk.AGl{j:Nat}{o:yv}{xs:List wV}{ah:AEo}(h:AFk U all bs j o xs ah):AIk U o ah:=by
 cases h with
 |read hk=>exact .inl (.inr ⟨_,hk⟩)
 |plain hk=>exact .inl (.inl hk)
 |_=>exact .inr ⟨(fun h=>by cases h),(fun _ _ _ h=>by cases h)⟩
end
end
noncomputable section
open Go
section
variable {P:Program}{U:TTy}{all:List yv}{ρ:Nat->Rho}{H:Nat->Hp}{V:Nat->Value}{T:Nat->Nat->Prop}{run:Nat->Bool}{ahs:List AEo}{bs:List Nat}
theorem La(hah:∀ j o,all[j]? =some o->∃ xs,apart U all bs j o all.zipIdx=some xs/\AFk U all bs j o xs (ahs.getD j .plain))(tr:Tr P U all ahs all ρ H V run T){j:Nat}(hj:j<all.length):
  (H (j+1)).low<=(H j).low/\(H j).high<=(H (j+1)).high/\(∀ c,T j c->(H (j+1)).low<=c/\c<=(H (j+1)).high)/\(H (j+1)).mark=(H j).mark:=by
 have ho:all[j]? =some all[j]:=sh hj;obtain⟨xs,_,ha⟩:=hah j _ ho;rcases (tr.sf j _ ho).core with ⟨_,core⟩|⟨_,_,hh,hT⟩
 ·exact core.AGl ha.AGl
 ·rw[hh];exact⟨IT _,IT _,fun c hc=>absurd hc (hT c),rfl⟩
theorem EI(hah:∀ j o,all[j]? =some o->∃ xs,apart U all bs j o all.zipIdx=some xs/\AFk U all bs j o xs (ahs.getD j .plain))(tr:Tr P U all ahs all ρ H V run T){i:Nat}:
  ∀ {k:Nat},i<=k->k<=all.length->(H k).low<=(H i).low/\(H i).high<=(H k).high/\(H k).mark=(H i).mark:=by
 intro k h hk
 induction k with
 |zero=>have:i=0:=Nat.le_zero.1 h;subst this;exact⟨IT _,IT _,rfl⟩
 |succ k ih=>
  rcases wN k i with h2|h2
  ·have:i=k+1:=by omega
   subst this;exact⟨IT _,IT _,rfl⟩
  ·obtain⟨a1,a2,a3⟩:=ih h2 (by omega)
   obtain⟨b1,b2,_,b3⟩:=La hah tr (j:=k) (by omega);exact⟨wd b1 a1,wd a2 b2,b3.trans a3⟩
theorem Q3(tr:Tr P U all ahs all ρ H V run T){t:Nat}{u:Value}{i k:Nat}(h:i<=k)(hk:k<=all.length)(hs:∀ m o,i<=m->m<k->all[m]? =some o->o.dst≠some t)(hu:evR (ρ k) (.tmp t)=some u):evR (ρ i) (.tmp t)=some u:=
 tr.backward h hk hs hu
theorem gy(hbs:bs=Dr [] all)(he:IH all=true)(hs:J6 all bs=true)
  (hah:∀ j o,all[j]? =some o->∃ xs,apart U all bs j o all.zipIdx=some xs/\AFk U all bs j o xs (ahs.getD j .plain))(tr:Tr P U all ahs all ρ H V run T):
  Laws U all ρ H T (fun i j=>isB bs i j=true):=by
 have len:∀ {i:Nat} {o:yv},all[i]? =some o->i<all.length:=fun h=>(wC.1 h).1
 have AGI:∀ j oj c,all[j]? =some oj->T j c->Core P U oj (ahs.getD j .plain) (ρ j) (H j) (H (j+1)) (V j) (T j):=by
  intro j oj c hj hc;rcases (tr.sf j oj hj).core with ⟨_,core⟩|⟨_,_,_,hT⟩
  ·exact core
  ·exact absurd hc (hT c)
 have kinds:∀ j oj c,all[j]? =some oj->T j c->(∃ x,kd U oj.op=.w x)\/(kd U oj.op=.q/\AEw U all bs j=false):=by
  intro j oj c hj hc;have core:=AGI j oj c hj hc;obtain⟨xs,_,ha⟩:=hah j oj hj;generalize ahs.getD j .plain=ah at ha core;cases ha with
  |AEV hk _=>exact absurd hc (core.AEV rfl c)
  |weak hk h=>exact .inr ⟨hk,h⟩
  |free hk h _=>exact .inr ⟨hk,h⟩
  |alloc hk=>exact absurd hc (core.AEV rfl c)
  |read hk=>exact absurd hc ((core.tp (.inr ⟨_,hk⟩)).1 c)
  |write hk=>exact .inl ⟨_,hk⟩
  |AFu hk _=>exact .inl ⟨_,hk⟩
  |plain hk=>exact absurd hc ((core.tp (.inl hk)).1 c)
 have held:∀ {i j oi oj},all[i]? =some oi->all[j]? =some oj->i<j->¬ isB bs i j=true->∃ xs,AFk U all bs j oj xs (ahs.getD j .plain)/\AHb U all xs i j oi oj:=by
  intro i j oi oj hi hj hij hB;obtain⟨xs,hx,ha⟩:=hah j oj hj;exact⟨xs,ha,Ex hx oi i (Gu.2 hi) hij (by cases h:isB bs i j<;>first|rfl|exact absurd h hB)⟩
 refine {lt:=fun i j h=>qH hbs he j i h,slots:=fun i j oi oj d hij hi hj hd hn=>dU hs hij hi hj hd hn,kinds:=fun j oj c hj hc=>(kinds j oj c hj hc).imp id (·.1),fixed:=?_,reads:=?_,tlt:=?_,AHa:=?_,low:=?_,high:=?_}
 ·
  intro i j oi c hij hi hjn hc hki;have hj:all[j]? =some all[j]:=sh hjn;by_cases h1:isB bs i j=true
  ·exact .inl h1
  by_cases h2:isB bs j i=true
  ·exact .inr h2
  exfalso
  have hQQ:∀ {i j:Nat} {oi:yv},all[i]? =some oi->i≠j->¬ isB bs i j=true->¬ isB bs j i=true->kd U oi.op=.q->AEw U all bs j=true:=fun hi hij h1 h2 hk=>by
   unfold AEw;exact Jk hi hij h1 h2 (by rw[hk];rfl)
  rcases kinds j _ c hj hc with ⟨xj,hkj⟩|⟨hkj,hns⟩
  ·rcases AAY hij with h|h
   ·obtain⟨xs,_,hh⟩:=held hi hj h h1
    rcases hki with ⟨x,hki⟩|hki
    ·exact hh.ww x xj hki hkj
    ·exact hh.qw xj hki hkj
   ·obtain⟨xs,_,hh⟩:=held hj hi h h2
    rcases hki with ⟨x,hki⟩|hki
    ·exact hh.ww xj x hkj hki
    ·exact hh.wq xj hkj hki
  ·rcases hki with ⟨x,hki⟩|hki
   ·rcases AAY hij with h|h
    ·obtain⟨xs,_,hh⟩:=held hi hj h h1
     exact hh.wq x hki hkj
    ·obtain⟨xs,_,hh⟩:=held hj hi h h2
     exact hh.qw x hkj hki
   ·rw[hQQ hi hij h1 h2 hki]at hns;cases hns
 ·
  intro i j oi x c u hij hi hjn hc hki hu hb;have hj:all[j]? =some all[j]:=sh hjn;by_cases h1:isB bs i j=true
  ·exact .inl h1
  by_cases h2:isB bs j i=true
  ·exact .inr h2
  exfalso
  have core:=AGI j _ c hj hc;have hin:=len hi;have si:=(tr.sf i oi hi).side (by rw[hki];intro h;cases h);rcases kinds j _ c hj hc with ⟨xj,hkj⟩|⟨hkj,hns⟩
  ·
   have AH0:∃ xs,ahs.getD j .plain=.wr xj xs/\apart U all bs j all[j] all.zipIdx=some xs:=by
    obtain⟨xs,hx,ha⟩:=hah j _ hj;generalize ahs.getD j .plain=ah at ha;cases ha with
    |write hk=>rw[hkj]at hk;cases hk;exact⟨xs,rfl,hx⟩
    |AFu hk hl=>
     have:=Jk (U:=U) (ask:=fun _ k=>isR k) hi hij h1 h2 (by simp only[hki];rfl);rw[hl]at this;cases this
    |AEV hk _=>rw[hkj]at hk;cases hk
    |weak hk _=>rw[hkj]at hk;cases hk
    |free hk _ _=>rw[hkj]at hk;cases hk
    |alloc hk=>rw[hkj]at hk;cases hk
    |read hk=>rw[hkj]at hk;cases hk
    |plain hk=>rw[hkj]at hk;cases hk
   obtain⟨xsj,hej,hxj⟩:=AH0;obtain⟨u',hu',hb'⟩:=core.wr xj xsj hej c hc;have sj:=(tr.sf j _ hj).side (by rw[hkj];intro h;cases h);rcases AAY hij with h|h
   ·
    have hh:=Ex hxj oi i (Gu.2 hi) h (by cases h:isB bs i j<;>first|rfl|exact absurd h h1);obtain⟨hm,t,rfl,hw⟩:=hh.rw' x xj hki hkj;obtain⟨_,hkn⟩:=sj.known xj xsj (.inl hej);obtain⟨u2,hu2⟩:=hkn _ hm;have AFs:=Q3 tr (xP h) (xP hjn) (fun m o a1 a2 a3=>hw m o a1 a2 a3) hu2;rw[hu]at AFs;cases AFs;exact sj.wrx xj xsj hej _ hm u' u c hu' hu2 hb' hb
   ·
    obtain⟨xs,ha,hh⟩:=held hj hi h h2;obtain⟨hm,t,rfl,hw⟩:=hh.wr xj x hkj hki;have AJl:∃ old,ahs.getD i .plain=.chk old x xs:=by
     generalize ahs.getD i .plain=ah at ha;cases ha with
     |read hk=>
      rw[hki]at hk;cases hk;rcases Md (x:=x) (old:=loose U all bs i fun i k=>isQ k && !(AEw U all bs i)) (xs:=xs)with ⟨_,_,h⟩|h
      ·subst h;cases hm
      ·exact⟨_,h⟩
     |AEV hk _=>rw[hki]at hk;cases hk
     |weak hk _=>rw[hki]at hk;cases hk
     |free hk _ _=>rw[hki]at hk;cases hk
     |alloc hk=>rw[hki]at hk;cases hk
     |write hk=>rw[hki]at hk;cases hk
     |AFu hk _=>rw[hki]at hk;cases hk
     |plain hk=>rw[hki]at hk;cases hk
    obtain⟨old,hei⟩:=AJl;obtain⟨_,hkn⟩:=si.known x xs (.inr ⟨old,hei⟩);obtain⟨u2,hu2⟩:=hkn _ hm;have AFs:=Q3 tr (xP h) (xP hin) (fun m o a1 a2 a3=>hw m o a1 a2 a3) hu2;rw[hu']at AFs;cases AFs;exact si.chk old x xs hei _ hm u u' c hu hu2 hb hb'
  ·
   have hwk:∀ c,T j c->(H j).mark<=c:=by
    obtain⟨xs,hx,ha⟩:=hah j _ hj;generalize ahs.getD j .plain=ah at ha core;cases ha with
    |weak hk _=>exact core.weak rfl
    |free hk _ hl=>
     have:AFw U all bs j=true:=by
      unfold AFw;exact Jk (U:=U) (ask:=fun _ k=> !isP k) hi hij h1 h2 (by simp only[hki];rfl)
     rw[hl]at this;cases this
    |AEV hk h=>rw[hns]at h;cases h
    |alloc hk=>rw[hkj]at hk;cases hk
    |read hk=>rw[hkj]at hk;cases hk
    |write hk=>rw[hkj]at hk;cases hk
    |AFu hk _=>rw[hkj]at hk;cases hk
    |plain hk=>rw[hkj]at hk;cases hk
   have hold:∃ xs,ahs.getD i .plain=.chk true x xs:=by
    obtain⟨xs,hx,ha⟩:=hah i oi hi;generalize ahs.getD i .plain=ah at ha;cases ha with
    |read hk=>
     rw[hki]at hk;cases hk;have hl:(loose U all bs i fun i k=>isQ k && !(AEw U all bs i))=true:=
      Jk hj (fun h=>hij h.symm) h2 h1 (by rw[hkj,hns];rfl)
     rw[hl];rcases Md (x:=x) (old:=true) (xs:=xs)with ⟨_,h,_⟩|h
     ·cases h
     ·exact⟨xs,h⟩
    |AEV hk _=>rw[hki]at hk;cases hk
    |weak hk _=>rw[hki]at hk;cases hk
    |free hk _ _=>rw[hki]at hk;cases hk
    |alloc hk=>rw[hki]at hk;cases hk
    |write hk=>rw[hki]at hk;cases hk
    |AFu hk _=>rw[hki]at hk;cases hk
    |plain hk=>rw[hki]at hk;cases hk
   obtain⟨xs,hei⟩:=hold;have h3:=si.old x xs hei u c hu hb;have h4:=hwk c hc;have m1:=(EI hah tr (wP i) (xP hin)).2.2;have m2:=(EI hah tr (wP j) (xP hjn)).2.2;omega
 ·intro j c hjn hc
  exact(AGI j _ c (sh hjn) hc).tlt c hc
 ·intro j c hjn hc
  obtain⟨_,_,h3,_⟩:=La hah tr hjn;obtain⟨h4,h5⟩:=h3 c hc;obtain⟨h6,h7,_⟩:=EI hah tr (i:=j+1) hjn (IT _);omega
 ·exact(EI hah tr (wP _) (IT _)).1
 ·exact(EI hah tr (wP _) (IT _)).2.1
theorem aO(h:Vn U all=some ahs):∃ bs,bs=Dr [] all/\IH all=true/\J6 all bs=true/\∀ j o,all[j]? =some o->∃ xs,apart U all bs j o all.zipIdx=some xs/\AFk U all bs j o xs (ahs.getD j .plain):=by
 unfold Vn at h;rw[VR]at h;split at h
 ·rename_i hc
  simp only[wJ]at hc;refine⟨_,rfl,hc.1,hc.2.2,fun j o ho=>?_⟩;have:=N6 h j o ho;rw[vk]at this;exact Tc this
 ·cases h
end
end
noncomputable section
open Go
theorem Ey{a b:Bool}(h:(bif a then b else false)=true):a=true/\b=true:=by cases a<;>first|exact⟨rfl,h⟩|cases h
section

end
end
end Go.Proofs.YtedbmmfebjfibaaGreat
