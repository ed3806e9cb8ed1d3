/-
  Part ZF of what Lawnl stands on: printed by program, names and spaces cut.
-/
import Derived.Test.YtbjadbhkogcfeaaGreatZE
import Derived.Orders
open Nat renaming le_refl→IT,zero_add→OF,lt_or_ge→xx,zero_le→yC,le_trans→yO,le_of_lt→yn,lt_of_lt_of_le→yr,lt_irrefl→AA1,lt_or_gt_of_ne→ABQ,strongRecOn→ACO,testBit_or→ADQ
open List renaming length_append→No,getElem?_eq_getElem→xL,mem_cons_of_mem→xS,mem_cons_self→xT,getElem?_append_left→xa,mem_cons→xe,getElem?_toArray→xu,getElem?_eq_some_iff→xy,mem_append→yH,mem_filter→yS,length_singleton→ya,range→ym,getElem?_eq_none→zB,mem_range→zm,getElem?_take→AAE,all_eq_true→AAQ,countP_cons→AC4
open Bool renaming and_eq_true→xk,not_false→yZ,true_and→AAZ,or_eq_true→ADF
open Go renaming Operand→yF,World→yJ,Oper→zu
open Array renaming getD_eq_getD_getElem?→yU,all_eq_true_iff_forall_mem→zL,mem_toList_iff→zP
open Option renaming map_some→yx,getD_some→ACl
open Go.Region renaming ready→zi,binds→AAa
set_option linter.unusedSimpArgs false
set_option linter.unusedVariables false
namespace Go.Proofs.YtbjadbhkogcfeaaGreat
noncomputable section
open Go
section
variable {P:Program}{ty:TTy}{N:Nat}{all:List zu}{ρ:Nat->Rho}{H:Nat->Hp}{V:Nat->Value}{T:Nat->Nat->Prop}{φ0:Phi}{w0:yJ}{B:Nat->Nat->Prop}
def join(φ ψ:Phi)(lo hi:Nat):Phi:=fun b=>if lo<=b/\b<hi then ψ b else φ b
open Classical in
def VX(C:Nat->Blk)(h:Hp)(lo:Nat)(W:Prop):Nat->Blk:=fun b=>if b<h.next/\(lo<=b\/W)then h.bl.get b else C b
theorem Inv.after(L:Laws ty all ρ H T B){run:Nat->Bool}{ahs:List AEo}(tr:Tr P ty all ahs all ρ H V run T)(txt:Txt P ty N φ0 ρ H V T all.length){S:Nat->Prop}{φ:Phi}{C:Nat->Blk}{a:Act}{w:yJ}(I:Inv ty N all ρ H T φ0 w0 S φ C a w)
  {i:Nat}{o:zu}(ho:all[i]? =some o)(hS:¬ S i)(hpre:∀ j,B j i->S j)(hcl:∀ j k,S j->B k j->S k)(hN:∀ d,o.dst=some d->d<N)
  {ψ:Phi}{v':Value}{w':yJ}(hv:AED ψ (V i) v')(HW:AEI ty ψ (Pe all.length T S (H i) i) (H (i+1)) w')(eff:Eff (T i) (upto φ (H i).next) (H i) w ψ (H (i+1)) w'):
  Inv ty N all ρ H T φ0 w0 (fun j=>S j\/j=i) (join φ ψ (H i).next (H (i+1)).next) (VX C (H (i+1)) (H i).next (∃ c,T i c)) (a.put o.dst v') w':=by
 have hi:i<all.length:=by
  rcases xx i all.length with h|h
  ·exact h
  ·rw[zB h]at ho;cases ho
 have hnS:∀ j,B i j->¬ S j:=fun j hb hj=>hS (hcl j i hj hb)
 have fx:∀ j,j≠i->(B i j\/B j i)->(j<i->S j)/\(i<=j->¬ S j):=by
  intro j hj hb;rcases hb with hb|hb
  ·have:=L.lt i j hb
   exact⟨fun h=>by omega,fun _=>hnS j hb⟩
  ·have:=L.lt j i hb
   exact⟨fun _=>hpre j hb,fun h=>by omega⟩
 have hnext:=txt.next i hi;have hn1:i+1<=all.length:=hi;have hE:(∃ c,T i c)->∀ b,¬ Pe all.length T S (H i) i b:=by
  rintro⟨c,hc⟩ b ⟨hb,hne⟩;refine hne fun j hj hT=>?_
  by_cases hji:j=i
  ·subst hji;exact⟨fun h=>absurd h (AA1 _),fun _=>hS⟩
  ·exact fx j hji (L.fixed i j o b (fun h=>hji h.symm) ho hj hT (L.kinds i o c ho hc))
 have AHD:∀ b,(H i).next<=b->b<(H (i+1)).next->φ b=none:=by
  intro b h1 h2;cases hb:φ b with
  |none=>rfl
  |some p=>
   exfalso
   rcases (I.dom b p hb).2 with h|⟨j,hj,hjn,h3,h4⟩
   ·have:=txt.mono (yC i) (yn hi)
    omega
   ·rcases Nat.lt_trichotomy j i with h|h|h
    ·have:=txt.mono (i:=j+1) (k:=i) h (yn hi);omega
    ·subst h;exact hS hj
    ·have:=txt.mono (i:=i+1) (k:=j) h (yn hjn);omega
 have AIi:∀ {b},(H i).next<=b->b<(H (i+1)).next->join φ ψ (H i).next (H (i+1)).next b=ψ b:=fun h1 h2=>if_pos ⟨h1,h2⟩
 have AGO:∀ {b},¬ ((H i).next<=b/\b<(H (i+1)).next)->join φ ψ (H i).next (H (i+1)).next b=φ b:=fun h=>if_neg h
 have jle:φ.Le (join φ ψ (H i).next (H (i+1)).next):=by
  intro b p hb;rw[AGO fun h=>by rw[AHD b h.1 h.2]at hb;cases hb];exact hb
 have jψ:ψ.Le (join φ ψ (H i).next (H (i+1)).next):=by
  intro b p hb;have h2:=(HW.dom b p hb).1;rcases xx b (H i).next with h|h
  ·rw[AGO (by omega)]
   rcases eff.new b p hb with h3|h3
   ·exact(Ce h3).2
   ·omega
  ·rw[AIi h h2];exact hb
 have AFQ:∀ {b p},join φ ψ (H i).next (H (i+1)).next b=some p->((H i).next<=b/\b<(H (i+1)).next/\ψ b=some p)\/((b<(H i).next\/(H (i+1)).next<=b)/\φ b=some p):=by
  intro b p hb;by_cases h:(H i).next<=b/\b<(H (i+1)).next
  ·rw[AIi h.1 h.2]at hb;exact .inl ⟨h.1,h.2,hb⟩
  ·rw[AGO h]at hb;exact .inr ⟨by omega,hb⟩
 have upψ:∀ {b p},φ b=some p->b<(H i).next->ψ b=some p:=by
  intro b p hb h;refine eff.le b p ?_;unfold upto;rw[if_pos h];exact hb
 have AFz:∀ {b},b<(H (i+1)).next->((H i).next<=b\/∃ c,T i c)->VX C (H (i+1)) (H i).next (∃ c,T i c) b=(H (i+1)).bl.get b:=fun h1 h2=>if_pos ⟨h1,h2⟩
 have AGA:∀ {b},¬ (b<(H (i+1)).next/\((H i).next<=b\/∃ c,T i c))->VX C (H (i+1)) (H i).next (∃ c,T i c) b=C b:=fun h=>if_neg h
 have lk:(∃ c,T i c)->∀ b p,φ b=some p->b<(H i).next->C b=(H i).bl.get b:=by
  intro hw b p hb h;refine I.link i (yn hi) b p hb h fun j hj hT=>?_
  by_cases hh:(j<i->S j)/\(i<=j->¬ S j)
  ·exact hh
  ·exact absurd ⟨h,fun hall=>hh (hall j hj hT)⟩ (hE hw b)
 have live:∀ {b},b<(H i).next->(H (i+1)).bl.get b≠.dead->(H i).bl.get b≠.dead:=fun h hl=>(eff.shape _ h).live hl
 have AIj:∀ {b c p q},(H (i+1)).next<=c->φ c=some q->C c≠.dead->b<(H (i+1)).next->join φ ψ (H i).next (H (i+1)).next b=some p->VX C (H (i+1)) (H i).next (∃ c,T i c) b≠.dead->(p.inp=false\/q.inp=false)->p.blk≠q.blk:=by
  intro b c p q hc hq hlc hb hp hlb hio hpq;rcases AFQ hp with ⟨h1,h2,h3⟩|⟨h1,h3⟩
  ·rw[AFz h2 (.inl h1)]at hlb
   obtain⟨j,q',e1,e2,e3,ei,e4⟩:=eff.back b p h3 hlb (hpq ▸ (I.dom c q hq).1);obtain⟨e5,e6⟩:=Ce e1;rcases e4 with rfl|e4
   ·omega
   ·have:=I.inj j c q' q e6 hq (by rw[lk ⟨j,e4⟩ j q' e6 e5];exact e2) hlc (by rw[ei];exact hio) (e3.trans hpq)
    omega
  ·have hb':b<(H i).next:=by omega
   have hl:C b≠.dead:=by
    by_cases hw:∃ c,T i c
    ·rw[AFz hb (.inr hw)]at hlb
     rw[lk hw b p h3 hb'];exact live hb' hlb
    ·rw[AGA (by rintro⟨_,h|h⟩;omega;exact hw h)]at hlb;exact hlb
   have:=I.inj b c p q h3 hq hl hlc hio hpq;omega
 refine {dom:=?_,inj:=?_,row:=?_,kind:=?_,inp:=(fun b p hp hi=>by rcases AFQ hp with ⟨_,_,h3⟩|⟨_,h3⟩;exact HW.inp b p h3 hi;exact I.inp b p h3 hi),link:=?_,chg:=?_,full:=?_,slot:=?_,size:=(by rw[Fh];exact I.size),defs:=(by rw[GY];exact I.defs),le:=I.le.trans jle,new:=?_,sz:=yO I.sz eff.size,tape:=eff.tape.trans I.tape,os:=eff.os.trans I.os,output:=eff.output.trans I.output,frame:=?_,back:=?_}
 ·
  intro b p hp;rcases AFQ hp with ⟨h1,h2,h3⟩|⟨h1,h3⟩
  ·exact⟨(HW.dom b p h3).2,.inr ⟨i,.inr rfl,hi,h1,h2⟩⟩
  ·obtain⟨q1,q2⟩:=I.dom b p h3
   exact⟨yr q1 eff.size,q2.imp id fun⟨j,hj,r⟩=>⟨j,.inl hj,r⟩⟩
 ·
  intro b c p q hp hq hlb hlc hio hpq;rcases xx b (H (i+1)).next with hb|hb
  ·rcases xx c (H (i+1)).next with hc|hc
   ·have toψ:∀ {b p},b<(H (i+1)).next->join φ ψ (H i).next (H (i+1)).next b=some p->ψ b=some p:=by
     intro b p hb hp;rcases AFQ hp with ⟨_,_,h3⟩|⟨h1,h3⟩
     ·exact h3
     ·exact upψ h3 (by omega)
    have pb:=toψ hb hp;have pc:=toψ hc hq;by_cases hw:∃ c,T i c
    ·rw[AFz hb (.inr hw)]at hlb
     rw[AFz hc (.inr hw)]at hlc;exact HW.inj b c p q pb pc (hE hw b) (hE hw c) hlb hlc hio hpq
    ·rcases xx b (H i).next with hb2|hb2
     ·rcases xx c (H i).next with hc2|hc2
      ·rw[AGA (by rintro⟨_,h|h⟩;omega;exact hw h)]at hlb
       rw[AGA (by rintro⟨_,h|h⟩;omega;exact hw h)]at hlc;rw[AGO (by omega)]at hp hq;exact I.inj b c p q hp hq hlb hlc hio hpq
      ·exfalso
       rw[AGO (by omega)]at hp;rw[AFz hc (.inl hc2)]at hlc;obtain⟨j,q',e1,e2,e3,_,e4⟩:=eff.back c q pc hlc (hpq ▸ (I.dom b p hp).1);rcases e4 with rfl|e4
       ·have:=(Ce e1).1;omega
       ·exact hw ⟨j,e4⟩
     ·rw[AFz hb (.inl hb2)]at hlb
      rcases xx c (H i).next with hc2|hc2
      ·exfalso
       rw[AGO (by omega)]at hq;obtain⟨j,q',e1,e2,e3,_,e4⟩:=eff.back b p pb hlb (hpq ▸ (I.dom c q hq).1);rcases e4 with rfl|e4
       ·have:=(Ce e1).1;omega
       ·exact hw ⟨j,e4⟩
      ·rw[AFz hc (.inl hc2)]at hlc
       exact HW.inj b c p q pb pc (fun h=>by have:=h.1;omega) (fun h=>by have:=h.1;omega) hlb hlc hio hpq
   ·rw[AGO (by omega)]at hq
    rw[AGA (by omega)]at hlc;exact absurd hpq (AIj hc hq hlc hb hp hlb hio)
  ·rcases xx c (H (i+1)).next with hc|hc
   ·rw[AGO (by omega)]at hp
    rw[AGA (by omega)]at hlb;exact absurd hpq.symm (AIj hb hp hlb hc hq hlc hio.symm)
   ·rw[AGO (by omega)]at hp hq
    rw[AGA (by omega)]at hlb hlc;exact I.inj b c p q hp hq hlb hlc hio hpq
 ·
  intro b p hp;by_cases hb:b<(H (i+1)).next/\((H i).next<=b\/∃ c,T i c)
  ·rw[AFz hb.1 hb.2]
   have hψ:ψ b=some p:=by
    rcases AFQ hp with ⟨_,_,h3⟩|⟨h1,h3⟩
    ·exact h3
    ·exact upψ h3 (by omega)
   refine(HW.row b p hψ ?_).mono jψ;rcases hb.2 with h|h
   ·intro hE;have:=hE.1;omega
   ·exact hE h b
  ·rw[AGA hb]
   have hφ:φ b=some p:=by
    rcases AFQ hp with ⟨h1,h2,_⟩|⟨_,h3⟩
    ·exact absurd ⟨h2,.inl h1⟩ hb
    ·exact h3
   by_cases hd:C b=.dead
   ·rw[hd];exact .dead
   ·have hr:=(I.row b p hφ).mono jle
    rw[eff.frame p.blk (I.dom b p hφ).1 fun c q e1 en e2 e3 e4=>?_]
    ·exact hr
    ·obtain⟨e5,e6⟩:=Ce e1
     have:=I.inj c b q p e6 hφ (by rw[lk ⟨c,e2⟩ c q e6 e5];exact e3) hd (.inl en) e4;subst this;exact hb ⟨by omega,.inr ⟨c,e2⟩⟩
 ·
  intro k hk b p c s e hp hb he;rcases AFQ hp with ⟨h1,h2,h3⟩|⟨_,h3⟩
  ·have hik:i+1<=k:=by
    rcases xx i k with h|h
    ·exact h
    ·have:=txt.mono (i:=k) (k:=i) h (yn hi);omega
   have hs:=txt.AF9 (i:=i+1) (k:=k) h2 hik hk;rw[he]at hs;obtain⟨c',hc'⟩:=hs.cells;exact HW.kind b p c' s e h3 hc'
  ·exact I.kind k hk b p c s e h3 hb he
 ·
  intro k hk b p hp hb hyp;rcases xx i k with hik|hik
  ·
   rcases AFQ hp with ⟨h1,h2,h3⟩|⟨h1,h3⟩
   ·rw[AFz h2 (.inl h1)]
    refine(txt.same (i:=i+1) hik hk fun m hm1 hm2=>?_).symm;by_cases hm:S m
    ·by_cases hc:(H (m+1)).bl.get b=(H m).bl.get b
     ·exact hc
     ·have:=txt.mono (i:=i+1) (k:=m) hm1 (by omega)
      obtain⟨q,hq⟩:=I.chg m hm (by omega) b (by omega) hc;rw[AHD b h1 h2]at hq;cases hq
    ·have:=txt.mono (i:=i+1) (k:=m) hm1 (by omega)
     refine txt.kept m (by omega) b (by omega) fun hT=>?_
     rcases (hyp m (by omega) hT).1 hm2 with h|h
     ·exact hm h
     ·omega
   ·rcases h1 with h1|h1
    ·by_cases hw:∃ c,T i c
     ·rw[AFz (by omega) (.inr hw)]
      refine(txt.same (i:=i+1) hik hk fun m hm1 hm2=>?_).symm;have:=txt.mono (i:=i+1) (k:=m) hm1 (by omega);refine txt.kept m (by omega) b (by omega) fun hT=>?_
      obtain⟨c,hc⟩:=hw;have hfx:=fx m (by omega) (L.fixed i m o b (by omega) ho (by omega) hT (L.kinds i o c ho hc));rcases (hyp m (by omega) hT).1 hm2 with h|h
      ·exact hfx.2 (by omega) h
      ·omega
     ·rw[AGA (by rintro⟨_,h|h⟩;omega;exact hw h)]
      refine I.link k hk b p h3 hb fun j hj hT=>⟨fun h=>?_,fun h=>?_⟩
      ·rcases (hyp j hj hT).1 h with h|h
       ·exact h
       ·subst h;exact absurd ⟨b,hT⟩ hw
      ·exact fun hSj=>(hyp j hj hT).2 h (.inl hSj)
    ·rw[AGA (by omega)]
     refine I.link k hk b p h3 hb fun j hj hT=>⟨fun h=>?_,fun h=>?_⟩
     ·rcases (hyp j hj hT).1 h with h|h
      ·exact h
      ·subst h;have:=L.tlt j b hj hT;omega
     ·exact fun hSj=>(hyp j hj hT).2 h (.inl hSj)
  ·
   have hkm:=txt.mono (i:=k) (k:=i) hik (yn hi);have h3:φ b=some p:=by
    rcases AFQ hp with ⟨h1,_,_⟩|⟨_,h3⟩
    ·omega
    ·exact h3
   have l1:C b=(H k).bl.get b:=I.link k hk b p h3 hb fun j hj hT=>⟨fun h=>by
     rcases (hyp j hj hT).1 h with h2|h2
     ·exact h2
     ·omega,fun h hSj=>(hyp j hj hT).2 h (.inl hSj)⟩
   by_cases hw:∃ c,T i c
   ·rw[AFz (by omega) (.inr hw)]
    have hnT:¬ T i b:=fun hT=>(hyp i hi hT).2 hik (.inr rfl)
    rw[eff.kept b (by omega) hnT,<- lk hw b p h3 (by omega)];exact l1
   ·rw[AGA (by rintro⟨_,h|h⟩;omega;exact hw h)];exact l1
 ·
  intro j hj hjn b hb hc;rcases hj with hj|rfl
  ·obtain⟨p,hp⟩:=I.chg j hj hjn b hb hc
   exact⟨p,jle b p hp⟩
  ·cases hu:upto φ (H j).next b with
   |none=>exact absurd (eff.only b hb hu) hc
   |some p=>exact⟨p,jle b p (Ce hu).2⟩
 ·
  intro j hj hjn b h1 h2;rcases hj with hj|rfl
  ·obtain⟨p,hp⟩:=I.full j hj hjn b h1 h2
   exact⟨p,jle b p hp⟩
  ·obtain⟨p,hp⟩:=eff.all b h1 h2
   exact⟨p,jψ b p hp⟩
 ·
  intro k hk t u hyp hu;rw[Hl];by_cases hd:o.dst=some t
  ·rw[if_pos ⟨hd,by rw[I.size];exact hN t hd⟩]
   have hik:i<k:=by
    rcases xx i k with h|h
    ·exact h
    ·exact absurd (.inr rfl) ((hyp i o ho hd).2 h)
   have hu2:ρ (i+1) t=some u:=by
    refine tr.backward (i:=i+1) hik hk (fun m om h1 h2 hom hdm=>?_) hu;have hfx:=fx m (by omega) (L.slots i m o om t (by omega) ho hom hd (.inl hdm));rcases (hyp m om hom hdm).1 h2 with h|h
    ·exact hfx.2 (by omega) h
    ·omega
   have:=(tr.sf i o ho).slot t u hu2;rw[if_pos hd]at this;rw[this];exact hv.mono jψ
  ·rw[if_neg fun h=>hd h.1]
   refine(I.slot k hk t u (fun j oj hoj hdj=>?_) hu).mono jle;have hji:j≠i:=fun h=>by subst h;rw[ho]at hoj;cases hoj;exact hd hdj
   refine⟨fun h=>?_,fun h hSj=>(hyp j oj hoj hdj).2 h (.inl hSj)⟩;rcases (hyp j oj hoj hdj).1 h with h2|h2
   ·exact h2
   ·exact absurd h2 hji
 ·
  intro b p hp;rcases AFQ hp with ⟨h1,_,_⟩|⟨_,h3⟩
  ·have:=txt.mono (yC i) (yn hi)
   exact .inr (by omega)
  ·exact I.new b p h3
 ·
  intro k hk hc;rw[eff.frame k (yr hk I.sz) fun c q e1 en e2 e3 e4=>?_]
  ·exact I.frame k hk hc
  ·obtain⟨e5,e6⟩:=Ce e1
   obtain⟨c0,q0,f1,f2,f3,fi,f4⟩:=I.back c q e6 (by rw[lk ⟨c,e2⟩ c q e6 e5];exact e3) (by rw[e4];exact hk);have hlo:(H all.length).low<=c0/\c0<=(H all.length).high:=by
    rcases f4 with rfl|f4
    ·exact L.AHX i _ hi e2
    ·exact f4
   exact hc c0 q0 f1 (fi.trans en) hlo.1 hlo.2 f2 (f3.trans e4)
 ·
  intro b p hp hl hlt;rcases AFQ hp with ⟨h1,h2,h3⟩|⟨h1,h3⟩
  ·rw[AFz h2 (.inl h1)]at hl
   obtain⟨j,q,e1,e2,e3,ei,e4⟩:=eff.back b p h3 hl (yr hlt I.sz);obtain⟨e5,e6⟩:=Ce e1;rcases e4 with rfl|e4
   ·omega
   ·obtain⟨c0,q0,f1,f2,f3,fi,f4⟩:=I.back j q e6 (by rw[lk ⟨j,e4⟩ j q e6 e5];exact e2) (by rw[e3];exact hlt)
    refine⟨c0,q0,f1,f2,f3.trans e3,fi.trans ei,.inr ?_⟩;rcases f4 with rfl|f4
    ·exact L.AHX i _ hi e4
    ·exact f4
  ·refine I.back b p h3 ?_ hlt
   by_cases hb:b<(H (i+1)).next/\((H i).next<=b\/∃ c,T i c)
   ·have hb':b<(H i).next:=by omega
    rw[AFz hb.1 hb.2]at hl;have hw:∃ c,T i c:=hb.2.resolve_left (by omega);rw[lk hw b p h3 hb'];exact live hb' hl
   ·rw[AGA hb]at hl;exact hl
end
end
noncomputable section
open Go
section
variable {P:Program}{ty:TTy}{N:Nat}{all:List zu}{ρ:Nat->Rho}{H:Nat->Hp}{V:Nat->Value}{T:Nat->Nat->Prop}{φ0:Phi}{w0:yJ}{B:Nat->Nat->Prop}{run:Nat->Bool}{ahs:List AEo}
theorem Inv.step(L:Laws ty all ρ H T B)(tr:Tr P ty all ahs all ρ H V run T)(txt:Txt P ty N φ0 ρ H V T all.length){S:Nat->Prop}{φ:Phi}{C:Nat->Blk}{a:Act}{w:yJ}(I:Inv ty N all ρ H T φ0 w0 S φ C a w)
  {i:Nat}{o:zu}(ho:all[i]? =some o)(hS:¬ S i)(hpre:∀ j,B j i->S j)(hcl:∀ j k,S j->B k j->S k)(hN:∀ d,o.dst=some d->d<N)
  {K:Act->yJ->Prop}{Q:Exit->Act->yJ->Prop}(hK:∀ φ' C' a' w',Inv ty N all ρ H T φ0 w0 (fun j=>S j\/j=i) φ' C' a' w'->K a' w'):wpOp P all.toArray Q i K a w:=by
 have hi:i<all.length:=by
  rcases xx i all.length with h|h
  ·exact h
  ·rw[zB h]at ho;cases ho
 have fx:∀ j,j≠i->(B i j\/B j i)->(j<i->S j)/\(i<=j->¬ S j):=by
  intro j hj hb;rcases hb with hb|hb
  ·have:=L.lt i j hb
   exact⟨fun h=>by omega,fun _ hSj=>hS (hcl j i hSj hb)⟩
  ·have:=L.lt j i hb
   exact⟨fun _=>hpre j hb,fun h=>by omega⟩
 have named:∀ d,(o.dst=some d\/.tmp d∈o.op.operands.toList\/∃ g w og,o.guard=some (g,w)/\all[g]? =some og/\og.dst=some d)->∀ u,ρ i d=some u->AED φ u (a.tmps.getD d undef):=by
  intro d hd u hu;refine I.slot i (yn hi) d u (fun j oj hoj hdj=>?_) hu;by_cases hji:j=i
  ·subst hji;exact⟨fun h=>absurd h (AA1 _),fun _=>hS⟩
  ·exact fx j hji ((L.slots j i oj o d hji hoj ho hdj hd).symm)
 have s:=tr.sf i o ho;have hw:=OR s (a:=a) (φ:=φ) fun g want og d u h1 h2 h3 hu=>named d (.inr (.inr ⟨g,want,og,h1,h2,h3⟩)) u hu
 obtain⟨HR,ψ,b,HA,hx⟩:=I.AJa txt (yn hi);have names:∀ x∈o.op.operands.toList,∀ u,evR (ρ i) x=some u->AED (upto φ (H i).next) u (a.eval x):=by
  intro x hxm u hu;have h1:AED φ u (a.eval x):=by
   cases x with
   |tmp t=>exact named t (.inr (.inl hxm)) u hu
   |const v=>
    have hu:(if Fg v then some v else none)=some u:=hu;split at hu
    ·rename_i hp;cases hu;exact My hp
    ·cases hu
   |func g=>cases hu;exact .func _ .nil .nil
   |global g=>cases hu
  exact h1.cut hx (HA.ev hu)
 unfold wpOp;rw[xu,ho];simp only;rcases s.core with ⟨hrun,core⟩|⟨hrun,hv,hh,hT⟩
 ·rw[hw,hrun,if_pos rfl]
  refine .inl (core.AGx _ _ w a HR names ?_ _ _ fun ψ' v' w' hv HW' eff _=>hK _ _ _ _ (I.after L tr txt ho hS hpre hcl hN hv HW' eff));have noE:((∃ x,kd ty o.op=.w x)\/kd ty o.op=.q)->∀ b,¬ Pe all.length T S (H i) i b:=by
   rintro hk b ⟨hb,hne⟩;refine hne fun j hj hT=>?_
   by_cases hji:j=i
   ·subst hji;exact⟨fun h=>absurd h (AA1 _),fun _=>hS⟩
   ·exact fx j hji (L.fixed i j o b (fun h=>hji h.symm) ho hj hT hk)
  unfold TouchR;cases hk:kd ty o.op with
  |p=>trivial
  |a=>trivial
  |r x=>
   rintro u hu c hc ⟨hb,hne⟩;refine hne fun j hj hT=>?_
   by_cases hji:j=i
   ·subst hji;exact⟨fun h=>absurd h (AA1 _),fun _=>hS⟩
   ·exact fx j hji (L.reads i j o x c u (fun h=>hji h.symm) ho hj hT hk hu hc)
  |w x=>exact noE (.inl ⟨x,hk⟩)
  |q=>exact noE (.inr hk)
 ·rw[hw,hrun,if_neg (by simp)]
  refine hK _ _ _ _ (I.after L tr txt ho hS hpre hcl hN (ψ:=upto φ (H i).next) (v':=undef) (w':=w) (by rw[hv];exact .tuple .nil) (by rw[hh];exact HR) ?_);rw[hh];exact {Eff.refl (upto φ (H i).next) (H i) w with frame:=fun _ _ _=>rfl,back:=fun i p e hl _=>⟨i,p,e,hl,rfl,rfl,.inl rfl⟩,kept:=fun _ _ _=>rfl}
theorem Inv.begin(tr:Tr P ty all ahs all ρ H V run T)(txt:Txt P ty N φ0 ρ H V T all.length)(L:Laws ty all ρ H T B){a:Act}(HW:AEI ty φ0 nil (H 0) w0)(HA:AR N φ0 (ρ 0) a){S:Nat->Prop}(hS:∀ j,j<all.length->¬ S j):
  Inv ty N all ρ H T φ0 w0 S φ0 (H 0).bl.get a w0 where
 dom:=fun b p hp=>⟨(HW.dom b p hp).2,.inl (HW.dom b p hp).1⟩
 inj:=fun b c p q hp hq hb hc hio h=>HW.inj b c p q hp hq (fun h=>h) (fun h=>h) hb hc hio h
 row:=fun b p hp=>HW.row b p hp fun h=>h
 kind:=fun k hk b p c s e hp hb he=>by
  have hs:=txt.AF9 (i:=0) (k:=k) (HW.dom b p hp).1 (yC _) hk;rw[he]at hs;obtain⟨c',hc'⟩:=hs.cells;exact HW.kind b p c' s e hp hc'
 inp:=HW.inp
 link:=fun k hk b p hp hb hyp=>by
  refine(txt.same (i:=0) (yC _) hk fun m _ hm=>?_).symm;have h0:=(HW.dom b p hp).1;have:=txt.mono (i:=0) (k:=m) (yC _) (by omega);exact txt.kept m (by omega) b (by omega) fun hT=>hS m (by omega) ((hyp m (by omega) hT).1 hm)
 chg:=fun j hj hjn=>absurd hj (hS j hjn)
 full:=fun j hj hjn=>absurd hj (hS j hjn)
 slot:=fun k hk t u hyp hu=>by
  refine HA.rel t u (tr.backward (i:=0) (yC _) hk (fun m om _ hm hom hdm=>?_) hu);exact hS m (by omega) ((hyp m om hom hdm).1 hm)
 size:=HA.size
 defs:=HA.defs
 le:=.refl _
 new:=fun b p hp=>.inl hp
 sz:=IT _
 tape:=rfl
 os:=rfl
 output:=rfl
 frame:=fun _ _ _=>rfl
 back:=fun b p hp hl _=>⟨b,p,hp,hl,rfl,rfl,.inl rfl⟩
theorem Inv.fin(txt:Txt P ty N φ0 ρ H V T all.length)(L:Laws ty all ρ H T B){S:Nat->Prop}{φ:Phi}{C:Nat->Blk}{a:Act}{w:yJ}(I:Inv ty N all ρ H T φ0 w0 S φ C a w)(hS:∀ j,j<all.length->S j):
  AEI ty φ nil (H all.length) w/\AR N φ (ρ all.length) a/\Evo φ0 (H 0) w0 φ (H all.length) w:=by
 have AHw:∀ b p,φ b=some p->b<(H all.length).next:=by
  intro b p hp;rcases (I.dom b p hp).2 with h|⟨j,_,hj,_,h⟩
  ·have:=txt.mono (yC all.length) (IT _);omega
  ·have:=txt.mono (i:=j+1) (k:=all.length) hj (IT _);omega
 have lk:∀ b p,φ b=some p->C b=(H all.length).bl.get b:=fun b p hp=>
  I.link _ (IT _) b p hp (AHw b p hp) fun j hj _=>⟨fun _=>hS j hj,fun h=>by omega⟩
 refine⟨{dom:=fun b p hp=>⟨AHw b p hp,(I.dom b p hp).1⟩,inj:=fun b c p q hp hq _ _ hb hc hio h=>I.inj b c p q hp hq (by rw[lk b p hp];exact hb) (by rw[lk c q hq];exact hc) hio h,row:=fun b p hp _=>by rw[<- lk b p hp];exact I.row b p hp,fresh:=txt.fresh _ (IT _),kind:=fun b p c s e hp he=>I.kind _ (IT _) b p c s e hp (AHw b p hp) he,inp:=I.inp},
  ⟨I.size,I.defs,fun t u hu=>I.slot _ (IT _) t u (fun j oj hoj _=>?_) hu⟩,
  {le:=I.le,new:=I.new,next:=txt.mono (yC _) (IT _),size:=I.sz,tape:=I.tape,os:=I.os,output:=I.output,frame:=I.frame,back:=fun b p hp hl hlt=>I.back b p hp (by rw[lk b p hp];exact hl) hlt,kept:=fun b hb ho=>?_,low:=L.low,high:=L.high,shape:=fun b hb=>txt.AF9 (i:=0) hb (yC _) (IT _),only:=fun b hb h0=>?_,all:=fun b h1 h2=>?_}⟩
 ·have hj:j<all.length:=by
   rcases xx j all.length with h|h
   ·exact h
   ·rw[zB h]at hoj;cases hoj
  exact⟨fun _=>hS j hj,fun h=>by omega⟩
 ·refine txt.same (i:=0) (yC _) (IT _) fun m _ hm=>?_
  have:=txt.mono (i:=0) (k:=m) (yC _) (by omega);exact txt.kept m hm b (by omega) fun hT=>by have:=L.AHX m b hm hT;omega
 ·refine txt.same (i:=0) (yC _) (IT _) fun m _ hm=>?_
  have:=txt.mono (i:=0) (k:=m) (yC _) (by omega);by_cases hc:(H (m+1)).bl.get b=(H m).bl.get b
  ·exact hc
  ·obtain⟨p,hp⟩:=I.chg m (hS m hm) hm b (by omega) hc
   rcases I.new b p hp with h|h
   ·rw[h0]at h;cases h
   ·omega
 ·
  have:∀ k,k<=all.length->b<(H k).next->∃ p,φ b=some p:=by
   intro k
   induction k with
   |zero=>intro _ h;omega
   |succ k ih=>
    intro hk h;rcases xx b (H k).next with h3|h3
    ·exact ih (by omega) h3
    ·exact I.full k (hS k (by omega)) (by omega) b h3 h
  exact this _ (IT _) h2
theorem Nc{α:Type}{p q:α->Bool}:∀ {l:List α},(∀ x∈l,p x=true->q x=true)->(∃ x∈l,q x=true/\p x=false)->l.countP p<l.countP q
 |[],_,h=>by obtain⟨x,hx,_⟩:=h;cases hx
 |y::l,h1,h2=>by
  have hmono:l.countP p<=l.countP q:=List.countP_mono_left fun x hx hp=>h1 x (xS _ hx) hp
  rw[AC4,AC4];by_cases hy:q y=true/\p y=false
  ·rw[hy.1,hy.2];simp;omega
  ·obtain⟨x,hx,hq,hp⟩:=h2
   rcases xe.1 hx with rfl|hx
   ·exact absurd ⟨hq,hp⟩ hy
   ·have:=Nc (fun x hx=>h1 x (xS _ hx)) ⟨x,hx,hq,hp⟩
    cases hpy:p y with
    |true=>rw[h1 y xT hpy];simp;omega
    |false=>cases q y<;>simp<;>omega
structure AGl (all:List zu)(B:Nat->Nat->Prop):Prop where
 dec:∀ i o j,all[i]? =some o->B j i->∃ e∈o.after.toList,AAa .any e=true/\(j=e.on\/B j e.on)
 back:∀ i o,all[i]? =some o->∀ e∈o.after.toList,AAa .any e=true->e.on<i
theorem mJ(E:AGl all B)(L:Laws ty all ρ H T B)(tr:Tr P ty all ahs all ρ H V run T)(txt:Txt P ty N φ0 ρ H V T all.length)(hN:∀ o∈all,∀ d,o.dst=some d->d<N){Q:Exit->Act->yJ->Prop}
  (hq:∀ ψ a' w',AEI ty ψ nil (H all.length) w'->AR N ψ (ρ all.length) a'->Evo φ0 (H 0) w0 ψ (H all.length) w'->Q .normal a' w'):
  ∀ (fuel:Nat) (listed:Array Bool) (φ:Phi) (C:Nat->Blk) (a:Act) (w:yJ),listed.size=all.length->(ym all.length).countP (fun j=> !listed.getD j true)<=fuel->
   (∀ j k,(j<all.length/\listed.getD j false=true)->B k j->(k<all.length/\listed.getD k false=true))->
   Inv ty N all ρ H T φ0 w0 (fun j=>j<all.length/\listed.getD j false=true) φ C a w->wpAny P .any all.toArray Q fuel listed a w:=by
 have AGB:∀ (listed:Array Bool),listed.size=all.length->∀ j,j<all.length->listed.getD j true=listed.getD j false:=by
  intro listed hs j hj;rw[yU,yU,Array.getElem?_eq_getElem (by omega)];rfl
 have done:∀ (listed:Array Bool) (φ:Phi) (C:Nat->Blk) (a:Act) (w:yJ),listed.size=all.length->zi .any all.toArray listed=[]->
   Inv ty N all ρ H T φ0 w0 (fun j=>j<all.length/\listed.getD j false=true) φ C a w->(∀ j,j<all.length->listed.getD j false=true)/\Q .normal a w:=by
  intro listed φ C a w hs hr I;have hall:∀ j,j<all.length->listed.getD j false=true:=by
   intro j
   induction j using ACO with
   |_ j ih=>
    intro hj;cases hl:listed.getD j false with
    |true=>rfl
    |false=>
     exfalso
     have ho:all[j]? =some all[j]:=xL hj;have:j∈zi .any all.toArray listed:=by
      unfold zi;rw[yS];refine⟨zm.2 (by simpa using hj),?_⟩;rw[AGB listed hs j hj,hl,xu,ho];simp only[yZ,AAZ,yx,ACl];rw[zL];intro e he;cases hb:AAa .any e with
      |false=>rfl
      |true=>
       have h1:=E.back j all[j] ho e (zP.2 he) hb;rw[ih e.on h1 (by omega)];rfl
     rw[hr]at this;cases this
  obtain⟨h1,h2,h3⟩:=I.fin txt L fun j hj=>⟨hj,hall j hj⟩
  exact⟨hall,hq φ a w h1 h2 h3⟩
 intro fuel
 induction fuel with
 |zero=>
  intro listed φ C a w hs hc hcl I;have hr:zi .any all.toArray listed=[]:=by
   cases hr:zi .any all.toArray listed with
   |nil=>rfl
   |cons x xs=>
    exfalso
    have hx:x∈zi .any all.toArray listed:=by rw[hr];exact xT
    unfold zi at hx;rw[yS]at hx;obtain⟨h1,h2⟩:=hx;have h3:x<all.length:=by simpa using zm.1 h1
    simp only[xk]at h2;have:=List.countP_pos_iff (p:=fun j=> !listed.getD j true) (l:=ym all.length) |>.2 ⟨x,zm.2 h3,h2.1⟩;omega
  exact⟨hr,(done listed φ C a w hs hr I).2⟩
 |succ fuel ih=>
  intro listed φ C a w hs hc hcl I;refine⟨fun hr=>(done listed φ C a w hs hr I).2,fun i hi=>?_⟩;unfold zi at hi;rw[yS]at hi;obtain⟨h1,h2⟩:=hi;have h3:i<all.length:=by simpa using zm.1 h1
  have ho:all[i]? =some all[i]:=xL h3;rw[xk,xu,ho]at h2;obtain⟨h4,h5⟩:=h2;simp only[yx,ACl]at h5;rw[zL]at h5;have hl:listed.getD i false=false:=by
   rw[<- AGB listed hs i h3];simpa using h4
  have AEp:∀ j,j<all.length->(listed.setIfInBounds i true).getD j false=if j=i then true else listed.getD j false:=by
   intro j hj;rw[yU,Array.getElem?_setIfInBounds,yU];by_cases hji:j=i
   ·subst hji;rw[if_pos rfl,if_pos (by omega),if_pos rfl];rfl
   ·rw[if_neg fun h=>hji h.symm,if_neg hji]
  have hpre:∀ j,B j i->(j<all.length/\listed.getD j false=true):=by
   intro j hb;obtain⟨e,he,hbe,hor⟩:=E.dec i _ j ho hb;have hon:=h5 e (zP.1 he);rw[hbe]at hon;have hon:listed.getD e.on false=true:=by simpa using hon
   have hlt:e.on<all.length:=by have:=E.back i _ ho e he hbe;omega
   rcases hor with rfl|hor
   ·exact⟨hlt,hon⟩
   ·exact hcl e.on j ⟨hlt,hon⟩ hor
  refine I.step L tr txt ho (fun h=>by rw[hl]at h;cases h.2) hpre hcl (hN _ (List.mem_of_getElem? ho)) fun φ' C' a' w' I'=>ih _ φ' C' a' w' (by simp[hs]) ?_ ?_ ?_
  ·have:=Nc (p:=fun j=> !(listed.setIfInBounds i true).getD j true) (q:=fun j=> !listed.getD j true) (l:=ym all.length) (fun j hj hp=>?_) ⟨i,zm.2 h3,h4,?_⟩
   ·omega
   ·have hj:=zm.1 hj
    rw[AGB _ (by simp[hs]) j hj,AEp j hj]at hp;rw[AGB _ hs j hj];by_cases hji:j=i
    ·rw[if_pos hji]at hp;cases hp
    ·rw[if_neg hji]at hp;exact hp
   ·rw[AGB _ (by simp[hs]) i h3,AEp i h3,if_pos rfl];rfl
  ·intro j k hj hb
   have hjk:k<all.length/\listed.getD k false=true:=by
    rw[AEp j hj.1]at hj;by_cases hji:j=i
    ·subst hji;exact hpre k hb
    ·rw[if_neg hji]at hj;exact hcl j k hj hb
   refine⟨hjk.1,?_⟩;rw[AEp k hjk.1];split
   ·rfl
   ·exact hjk.2
  ·have:(fun j=>(j<all.length/\listed.getD j false=true)\/j=i)=fun j=>j<all.length/\(listed.setIfInBounds i true).getD j false=true:=by
    funext j
    apply propext;constructor
    ·rintro (⟨hj,hlj⟩|rfl)
     ·refine⟨hj,?_⟩
      rw[AEp j hj];split
      ·rfl
      ·exact hlj
     ·refine⟨h3,?_⟩
      rw[AEp _ h3,if_pos rfl]
    ·rintro⟨hj,hlj⟩
     rw[AEp j hj]at hlj;by_cases hji:j=i
     ·exact .inr hji
     ·rw[if_neg hji]at hlj;exact .inl ⟨hj,hlj⟩
   rw[<- this];exact I'
theorem Evo.AGC{φ ψ:Phi}{h h':Hp}{w w1 w':yJ}(ev:Evo φ h w1 ψ h' w')(hh:w1.heap=w.heap)(ht:w1.tape=w.tape)(ho:w1.os=w.os)(hout:w1.output=w.output):Evo φ h w ψ h' w' where
 le:=ev.le
 new:=ev.new
 next:=ev.next
 size:=by rw[<- hh];exact ev.size
 tape:=ev.tape.trans ht
 os:=ev.os.trans ho
 output:=ev.output.trans hout
 frame:=by rw[<- hh];exact ev.frame
 back:=by rw[<- hh];exact ev.back
 kept:=ev.kept
 low:=ev.low
 high:=ev.high
 shape:=ev.shape
 only:=ev.only
 all:=ev.all
theorem kC(hm:P.follows .mixedOrders=true)(E:AGl all B)(L:Laws ty all ρ H T B)(tr:Tr P ty all ahs all ρ H V run T)(hN:∀ o∈all,∀ d,o.dst=some d->d<N){Q:Exit->Act->yJ->Prop}{a:Act}{w:yJ}{id:Nat}
  (HW:AEI ty φ0 nil (H 0) w)(HA:AR N φ0 (ρ 0) a)(hq:∀ ψ a' w',AEI ty ψ nil (H all.length) w'->AR N ψ (ρ all.length) a'->Evo φ0 (H 0) w ψ (H all.length) w'->Q .normal a' w'):
  (Code.region id all.toArray true).wp P Q a w:=by
 have txt:Txt P ty N φ0 ρ H V T all.length:=by
  have h:=PY (Q:=fun _ _ _=>Txt P ty N φ0 ρ H V T all.length) all tr hN HW HA fun txt _ _ _ _ _ _=>txt
  obtain⟨_,_,_,h,_⟩:=wp_region_list (id:=0) (ops:=all.toArray) (by simpa using h) (default:Frame) [] [];exact h
 refine wp_region_any hm ?_;have HW1:AEI ty φ0 nil (H 0) {w with drawn:=w.drawn+1}:=HW.of_heap rfl;have hsz:all.toArray.size=all.length:=by simp
 rw[hsz];refine mJ (w0:={w with drawn:=w.drawn+1}) E L tr txt hN (fun ψ a' w' h1 h2 h3=>hq ψ a' w' h1 h2 (h3.AGC rfl rfl rfl rfl)) all.length _ φ0 (H 0).bl.get a _ (by simp) (yO List.countP_le_length (by simp)) ?_ ?_
 ·rintro j k ⟨hj,hlj⟩ _
  rw[yU]at hlj;simp[hj]at hlj
 ·refine Inv.begin tr txt L HW1 HA fun j hj h=>?_
  have:=h.2;rw[yU]at this;simp[hj]at this
end
end
noncomputable section
open Go
theorem Rv{β:Type}(x:Nat):∀ (k:List Nat->β) (l:List Nat),WE x k l=k (l++[x])
 |k,[]=>rfl
 |k,y::l=>by
  unfold WE;rw[Rv x (fun l=>k (y::l)) l];rfl
def Dt:List Nat->List zu->List Nat
 |acc,[]=>acc
 |acc,o::l=>Dt (acc++[G8 acc 0 o.after.toList]) l
theorem UI{β:Type}(k:List Nat->β):∀ (l:List zu) (acc:List Nat),d7 k l acc=k (Dt acc l)
 |[],acc=>rfl
 |o::l,acc=>by
  unfold d7;rw[Ao,Rv,UI k l];rfl
theorem Lv:∀ (l:List zu) (acc:List Nat) (j:Nat),j<acc.length->(Dt acc l)[j]? =acc[j]?
 |[],acc,j,_=>rfl
 |o::l,acc,j,hj=>by
  unfold Dt;rw[Lv l _ j (by simp;omega),xa hj]
theorem XS(l:List zu):∀ (acc:List Nat) (j:Nat) (o:zu),l[j]? =some o->(Dt acc l)[acc.length+j]? =some (G8 ((Dt acc l).take (acc.length+j)) 0 o.after.toList):=by
 induction l with
 |nil=>intro acc j o h;cases h
 |cons o' l ih=>
  intro acc j o h;have hu:Dt acc (o'::l)=Dt (acc++[G8 acc 0 o'.after.toList]) l:=by rw[Dt]
  rw[hu];cases j with
  |zero=>
   have ho:o'=o:=by simpa using h
   subst ho;rw[Nat.add_zero];have hp:=fun k hk=>Lv l (acc++[G8 acc 0 o'.after.toList]) k hk
   have ht:(Dt (acc++[G8 acc 0 o'.after.toList]) l).take acc.length=acc:=by
    apply List.ext_getElem?;intro k;rw[AAE];split
    ·rename_i hk
     rw[hp k (by rw[No];omega),xa hk]
    ·rename_i hk
     rw[zB (by omega)]
   rw[ht,hp acc.length (by rw[No,ya];omega),List.getElem?_append_right (IT _),Nat.sub_self];rfl
  |succ j=>
   have:=ih (acc++[G8 acc 0 o'.after.toList]) j o (by simpa using h);rw[No,ya]at this;have e:acc.length+(j+1)=acc.length+1+j:=by omega
   rw[e];exact this
theorem Lu:∀ (l:List zu) (acc:List Nat),(Dt acc l).length=acc.length+l.length
 |[],acc=>rfl
 |o::l,acc=>by
  unfold Dt;rw[Lu l];simp;omega
theorem Ow{bs:List Nat}{i j:Nat}:isB bs i j=true↔∃ b,bs[j]? =some b/\b.testBit i=true:=by
 unfold isB;rw[Fc];cases bs[j]? with
 |none=>simp
 |some b=>
  simp only[Option.some.injEq,exists_eq_left'];rw[Ax];unfold Nat.testBit;have e:Nat.shiftRight b i=b >>> i:=rfl;have e2:Nat.mod (b >>> i) 2=(b >>> i) % 2:=rfl;rw[e,e2];simp[Nat.and_one_is_mod,bne_iff_ne]
theorem KG(acc:List Nat)(i:Nat):∀ (es:List Edge) (m:Nat),(G8 acc m es).testBit i=true↔m.testBit i=true\/∃ e∈es,AAa .any e=true/\(i=e.on\/((acc[e.on]?).getD 0).testBit i=true)
 |[],m=>by unfold G8;simp
 |e::es,m=>by
  unfold G8;split
  ·rename_i hb
   rw[KG acc i es];have e1:∀ a b:Nat,Nat.lor a b=a ||| b:=fun _ _=>rfl
   have e2:Nat.shiftLeft 1 e.on=1 <<< e.on:=rfl;rw[e1,e1,e2,Fc,ADQ,ADQ,Nat.one_shiftLeft,Nat.testBit_two_pow];simp only[ADF,decide_eq_true_eq,xe,exists_eq_or_imp,hb,true_and];constructor
   ·rintro ((h|h|h)|h)
    ·exact .inl h
    ·exact .inr (.inl (.inl h.symm))
    ·exact .inr (.inl (.inr h))
    ·exact .inr (.inr h)
   ·rintro (h|(h|h)|h)
    ·exact .inl (.inl h)
    ·exact .inl (.inr (.inl h.symm))
    ·exact .inl (.inr (.inr h))
    ·exact .inr h
  ·rename_i hb
   rw[KG acc i es];simp only[xe,exists_eq_or_imp,hb,Bool.false_eq_true,false_and,false_or]
theorem Gl{ops:List zu}{o:zu}{i:Nat}:(o,i)∈ops.zipIdx↔ops[i]? =some o:=List.mem_zipIdx_iff_getElem?
theorem Mg{d:Nat}:∀ {l:List Nat},memN d l=true↔d∈l
 |[]=>by simp[memN]
 |x::l=>by
  unfold memN;split
  ·rename_i hb
   have:=Ax.1 hb;simp[this]
  ·rename_i hb
   have:=FO hb;rw[Mg,xe];constructor
   ·exact .inr
   ·rintro (h|h)
    ·exact absurd h.symm this
    ·exact h
section
variable {ty:TTy}{all:List zu}{bs:List Nat}
theorem P6(hbs:bs=Dt [] all)(he:H0 all=true):AGl all (fun i j=>isB bs i j=true):=by
 have back:∀ i o,all[i]? =some o->∀ e∈o.after.toList,AAa .any e=true->e.on<i:=by
  intro i o ho e hem hb;unfold H0 at he;rw[AAQ]at he;have:=he (o,i) (Gl.2 ho);simp only[AAQ]at this;have:=this e hem;rw[hb]at this;exact BW.1 (by simpa using this)
 refine⟨fun i o j ho hB=>?_,back⟩;obtain⟨b,hb1,hb2⟩:=Ow.1 hB;have:=XS all [] i o ho;rw[<- hbs]at this;simp only[List.length_nil,OF]at this;rw[this]at hb1;cases hb1;rcases (KG _ j _ _).1 hb2 with h|⟨e,hem,hbe,hor⟩
 ·simp at h
 ·refine⟨e,hem,hbe,hor.imp id fun h=>?_⟩
  have hlt:=back i o ho e hem hbe;rw[AAE,if_pos hlt]at h;cases hq:bs[e.on]? with
  |none=>rw[hq]at h;simp at h
  |some c=>rw[hq]at h;exact Ow.2 ⟨c,hq,h⟩
theorem rD(hbs:bs=Dt [] all)(he:H0 all=true):∀ j i,isB bs i j=true->i<j:=by
 have E:=P6 hbs he;intro j
 induction j using ACO with
 |_ j ih=>
  intro i hB;have hj:j<all.length:=by
   obtain⟨b,hb1,_⟩:=Ow.1 hB;have:=(xy.1 hb1).1;rw[hbs,Lu]at this
   simpa using this
  obtain⟨e,hem,hbe,hor⟩:=E.dec j _ i (xL hj) hB;have hlt:=E.back j _ (xL hj) e hem hbe;rcases hor with rfl|h
  ·exact hlt
  ·have:=ih e.on hlt i h;omega
theorem VW{i j:Nat}(h:isB bs (B9 i j) (i+j - B9 i j)=true):isB bs i j=true\/isB bs j i=true:=by
 rw[BV]at h;rcases Nat.le_total i j with h1|h1
 ·rw[Nat.min_eq_left h1,show i+j - i=j by omega]at h;exact .inl h
 ·rw[Nat.min_eq_right h1,show i+j - j=i by omega]at h;exact .inr h
theorem iA{i j:Nat}(h1:isB bs i j≠true)(h2:isB bs j i≠true):isB bs (B9 i j) (i+j - B9 i j)=false:=by
 cases h:isB bs (B9 i j) (i+j - B9 i j)with
 |false=>rfl
 |true=>
  rcases VW h with h|h
  ·exact absurd h h1
  ·exact absurd h h2
theorem cD(hs:Jr all bs=true){i j:Nat}{oi oj:zu}{d:Nat}(hij:i≠j)(hi:all[i]? =some oi)(hj:all[j]? =some oj)(hd:oi.dst=some d)
  (hn:oj.dst=some d\/.tmp d∈oj.op.operands.toList\/∃ g w og,oj.guard=some (g,w)/\all[g]? =some og/\og.dst=some d):isB bs i j=true\/isB bs j i=true:=by
 unfold Jr at hs;rw[AAQ]at hs;have h1:=hs (oi,i) (Gl.2 hi);simp only[hd,AAQ]at h1;have h2:=h1 (oj,j) (Gl.2 hj);simp only[ADF,Bool.not_eq_true']at h2;rcases h2 with (h2|h2)|h2
 ·exact absurd (Ax.1 h2) hij
 ·exact VW h2
 ·exfalso
  have:memN d (oj.dst.toList++PX all oj)=true:=by
   rw[Mg,yH];rcases hn with h|h|⟨g,w,og,h,h3,h4⟩
   ·left;rw[h];simp
   ·right
    unfold PX;rw[yH];left;rw[List.mem_filterMap];exact⟨_,h,rfl⟩
   ·right
    unfold PX;rw[yH];right;rw[h];simp only[Fc,h3,h4];simp
  rw[this]at h2;cases h2
structure AHY (ty:TTy)(all:List zu)(xs:List yF)(i j:Nat)(oi oj:zu):Prop where
 ww:∀ x y,kd ty oi.op=.w x->kd ty oj.op≠.w y
 wq:∀ x,kd ty oi.op=.w x->kd ty oj.op≠.q
 qw:∀ y,kd ty oi.op=.q->kd ty oj.op≠.w y
 wr:∀ x y,kd ty oi.op=.w x->kd ty oj.op=.r y->x∈xs/\∃ t,x=.tmp t/\∀ k o,i<=k->k<j->all[k]? =some o->o.dst≠some t
 rw':∀ x y,kd ty oi.op=.r x->kd ty oj.op=.w y->x∈xs/\∃ t,x=.tmp t/\∀ k o,i<=k->k<j->all[k]? =some o->o.dst≠some t
theorem JU{j i:Nat}{x:yF}{rest:Option (List yF)}{xs:List yF}(h:VK all j x i rest=some xs):
  ∃ ys,rest=some ys/\xs=x::ys/\∃ t,x=.tmp t/\∀ k o,i<=k->k<j->all[k]? =some o->o.dst≠some t:=by
 unfold VK at h;split at h
 ·rename_i t
  split at h
  ·cases h
  ·rename_i AHZ
   split at h
   ·rename_i ys
    cases h;refine⟨ys,rfl,rfl,t,rfl,fun k o h1 h2 ho hd=>?_⟩;rw[List.any_eq_false]at AHZ;refine AHZ (o,k) (Gl.2 ho) ?_;have e1:Nat.ble i k=true:=Au.2 h1;have e2:Nat.blt k j=true:=BW.2 h2;simp only[e1,e2,AAZ];rw[Mg,hd];simp
   ·cases h
 ·cases h
theorem Ey{j:Nat}{oj:zu}:∀ {l:List (zu×Nat)} {xs:List yF},apart ty all bs j oj l=some xs->∀ oi i,(oi,i)∈l->i<j->isB bs i j=false->AHY ty all xs i j oi oj
 |[],xs,_,oi,i,hm,_,_=>by cases hm
 |(o,k)::l,xs,h,oi,i,hm,hij,hB=>by
  unfold apart at h;have mono:∀ {ys:List yF} {x:yF},AHY ty all ys i j oi oj->AHY ty all (x::ys) i j oi oj:=fun h=>
   {h with wr:=fun a b h1 h2=>(h.wr a b h1 h2).imp (xS _) id,rw':=fun a b h1 h2=>(h.rw' a b h1 h2).imp (xS _) id}
  rcases xe.1 hm with he|hm
  ·obtain⟨e1,e2⟩:=Prod.mk.inj he
   subst e1;subst e2;have hc:(Nat.blt i j && !isB bs i j)=true:=by rw[hB,BW.2 hij];rfl
   rw[hc]at h;simp only at h;unfold Zv at h;split at h
   ·rename_i hk
    exact⟨(fun x y h1=>by rw[hk]at h1;cases h1),(fun x h1=>by rw[hk]at h1;cases h1),(fun y h1=>by rw[hk]at h1;cases h1),(fun x y h1=>by rw[hk]at h1;cases h1),(fun x y h1=>by rw[hk]at h1;cases h1)⟩
   ·rename_i hk _
    exact⟨(fun x y _ h1=>by rw[hk]at h1;cases h1),(fun x _ h1=>by rw[hk]at h1;cases h1),(fun y _ h1=>by rw[hk]at h1;cases h1),(fun x y _ h1=>by rw[hk]at h1;cases h1),(fun x y _ h1=>by rw[hk]at h1;cases h1)⟩
   ·cases h
   ·cases h
   ·cases h
   ·rename_i hk1 hk2
    obtain⟨ys,_,rfl,t,ht,hw⟩:=JU h;exact⟨(fun x y _ h1=>by rw[hk2]at h1;cases h1),(fun x _ h1=>by rw[hk2]at h1;cases h1),(fun y h1=>by rw[hk1]at h1;cases h1),(fun x y h1 _=>by rw[hk1]at h1;cases h1;exact⟨xT,t,ht,hw⟩),(fun x y h1=>by rw[hk1]at h1;cases h1)⟩
   ·rename_i hk1 hk2
    obtain⟨ys,_,rfl,t,ht,hw⟩:=JU h;exact⟨(fun x y h1=>by rw[hk1]at h1;cases h1),(fun x h1=>by rw[hk1]at h1;cases h1),(fun y h1=>by rw[hk1]at h1;cases h1),(fun x y h1=>by rw[hk1]at h1;cases h1),(fun x y h1 _=>by rw[hk1]at h1;cases h1;exact⟨xT,t,ht,hw⟩)⟩
   ·rename_i q1 q2 q3 q4 q5 q6 q7
    exact⟨fun x y h1 h2=>q3 x y h1 h2,fun x h1 h2=>q4 x h1 h2,fun y h1 h2=>q5 y h1 h2,fun x y h1 h2=>(q6 x y h1 h2).elim,fun x y h1 h2=>(q7 x y h1 h2).elim⟩
  ·split at h
   ·exact Ey h oi i hm hij hB
   ·unfold Zv at h
    split at h
    ·exact Ey h oi i hm hij hB
    ·exact Ey h oi i hm hij hB
    ·cases h
    ·cases h
    ·cases h
    ·obtain⟨ys,h1,rfl,_⟩:=JU h
     exact mono (Ey h1 oi i hm hij hB)
    ·obtain⟨ys,h1,rfl,_⟩:=JU h
     exact mono (Ey h1 oi i hm hij hB)
    ·exact Ey h oi i hm hij hB
theorem JW{j i:Nat}{o:zu}{ask:Nat->Kd->Bool}(ho:all[i]? =some o)(hij:i≠j)(h1:isB bs i j≠true)(h2:isB bs j i≠true)(ha:ask i (kd ty o.op)=true):loose ty all bs j ask=true:=by
 unfold loose;rw[List.any_eq_true];refine⟨(o,i),Gl.2 ho,?_⟩;have hb:Nat.beq i j=false:=by
  cases hb:Nat.beq i j with
  |false=>rfl
  |true=>exact absurd (Ax.1 hb) hij
 simp only[hb,yZ,AAZ,iA h1 h2,ha]
inductive AFf (ty:TTy)(all:List zu)(bs:List Nat)(j:Nat)(o:zu)(xs:List yF):AEo->Prop
 |AER (hk:kd ty o.op=.q) (hs:AEw ty all bs j=true):AFf ty all bs j o xs (.quiet .AER)
 |weak (hk:kd ty o.op=.q) (hs:AEw ty all bs j=false):AFf ty all bs j o xs (.quiet .weak)
 |free (hk:kd ty o.op=.q) (hs:AEw ty all bs j=false) (hl:AFs ty all bs j=false):AFf ty all bs j o xs (.quiet .free)
 |alloc (hk:kd ty o.op=.a):AFf ty all bs j o xs (.quiet .AER)
 |read {x:yF} (hk:kd ty o.op=.r x):AFf ty all bs j o xs (AF4 (loose ty all bs j fun i k=>isQ k && !(AEw ty all bs i)) x xs)
 |write {x:yF} (hk:kd ty o.op=.w x):AFf ty all bs j o xs (.wr x xs)
 |AFr {x:yF} (hk:kd ty o.op=.w x) (hl:(loose ty all bs j fun _ k=>isR k)=false):AFf ty all bs j o xs (.quiet .free)
 |plain (hk:kd ty o.op=.p):AFf ty all bs j o xs .plain
theorem ST{j:Nat}{o:zu}{ah:AEo}(h:LS ty all bs j o=some ah):∃ xs,apart ty all bs j o all.zipIdx=some xs/\AFf ty all bs j o xs ah:=by
 unfold LS at h;split at h
 ·cases h
 ·rename_i xs hx
  refine⟨xs,hx,?_⟩;split at h
  ·rename_i hk
   split at h
   ·rename_i hs;cases h;exact .AER hk hs
   ·rename_i hs _;cases h;exact .weak hk hs
   ·rename_i hs hl;cases h;exact .free hk hs hl
  ·rename_i hk;cases h;exact .alloc hk
  ·rename_i hk;cases h;exact .read hk
  ·rename_i hk
   split at h
   ·cases h;exact .write hk
   ·rename_i hl;cases h;exact .AFr hk hl
  ·rename_i q1 q2 q3 q4
   cases h;refine .plain ?_;cases hk:kd ty o.op with
   |p=>rfl
   |a=>exact absurd hk q2
   |r x=>exact absurd hk (q3 x)
   |w x=>exact absurd hk (q4 x)
   |q=>exact absurd hk q1
theorem NV:∀ {l:List zu} {j:Nat} {ahs:List AEo},OV ty all bs j l=some ahs->∀ k o,l[k]? =some o->LS ty all bs (j+k) o=some (ahs.getD k .plain)
 |[],j,ahs,h,k,o,hk=>by cases hk
 |o'::l,j,ahs,h,k,o,hk=>by
  unfold OV at h;split at h
  ·rename_i a ha
   split at h
   ·rename_i r hr
    cases h;cases k with
    |zero=>cases hk;exact ha
    |succ k=>
     have:=NV hr k o hk;have e:j+(k+1)=j.succ+k:=by omega
     rw[e];exact this
   ·cases h
  ·cases h
theorem L8{old:Bool}{x:yF}{xs:List yF}:(AF4 old x xs=.plain/\old=false/\xs=[])\/AF4 old x xs=.chk old x xs:=by
 unfold AF4;cases old<;>cases xs<;>first|exact .inl ⟨rfl,rfl,rfl⟩|exact .inr rfl
theorem AFf.ok{j:Nat}{o:zu}{xs:List yF}{ah:AEo}(h:AFf ty all bs j o xs ah):AGk ty o ah:=by
 cases h with
 |AER hk _=>exact⟨(fun _ _ h=>by rw[hk]at h;rcases h with h|⟨_,h⟩<;>cases h),(fun _ _ h=>by cases h),(fun _ _ _ h=>by cases h)⟩
 |weak hk _=>exact⟨(fun _ _ h=>by rw[hk]at h;rcases h with h|⟨_,h⟩<;>cases h),(fun _ _ h=>by cases h),(fun _ _ _ h=>by cases h)⟩
 |free hk _ _=>exact⟨(fun _ _ h=>by rw[hk]at h;rcases h with h|⟨_,h⟩<;>cases h),(fun _ _ h=>by cases h),(fun _ _ _ h=>by cases h)⟩
 |alloc hk=>exact⟨(fun _ _ h=>by rw[hk]at h;rcases h with h|⟨_,h⟩<;>cases h),(fun _ _ h=>by cases h),(fun _ _ _ h=>by cases h)⟩
 |read hk=>
  rcases L8 (old:=loose ty all bs j fun i k=>isQ k && !(AEw ty all bs i)) (xs:=xs)with ⟨h,_⟩|h
  ·rw[h];exact .plain ty o
  ·rw[h];exact⟨(fun _ h=>by cases h),(fun _ _ h=>by cases h),(fun _ _ _ h=>by cases h;exact hk)⟩
 |write hk=>exact⟨(fun _ h=>by cases h),(fun _ _ h=>by cases h;exact hk),(fun _ _ _ h=>by cases h)⟩
 |AFr hk _=>exact⟨(fun _ _ h=>by rw[hk]at h;rcases h with h|⟨_,h⟩<;>cases h),(fun _ _ h=>by cases h),(fun _ _ _ h=>by cases h)⟩
 |plain hk=>exact .plain ty o
theorem AFf.AGj{j:Nat}{o:zu}{xs:List yF}{ah:AEo}(h:AFf ty all bs j o xs ah):AIh ty o ah:=by
 cases h with
 |read hk=>exact .inl (.inr ⟨_,hk⟩)
 |plain hk=>exact .inl (.inl hk)
 |_=>exact .inr ⟨(fun h=>by cases h),(fun _ _ _ h=>by cases h)⟩
end
end
noncomputable section
open Go
section
variable {P:Program}{ty:TTy}{all:List zu}{ρ:Nat->Rho}{H:Nat->Hp}{V:Nat->Value}{T:Nat->Nat->Prop}{run:Nat->Bool}{ahs:List AEo}{bs:List Nat}
theorem LC(hah:∀ j o,all[j]? =some o->∃ xs,apart ty all bs j o all.zipIdx=some xs/\AFf ty all bs j o xs (ahs.getD j .plain))(tr:Tr P ty all ahs all ρ H V run T){j:Nat}(hj:j<all.length):
  (H (j+1)).low<=(H j).low/\(H j).high<=(H (j+1)).high/\(∀ c,T j c->(H (j+1)).low<=c/\c<=(H (j+1)).high)/\(H (j+1)).mark=(H j).mark:=by
 have ho:all[j]? =some all[j]:=xL hj;obtain⟨xs,_,ha⟩:=hah j _ ho;rcases (tr.sf j _ ho).core with ⟨_,core⟩|⟨_,_,hh,hT⟩
 ·exact core.AGj ha.AGj
 ·rw[hh];exact⟨IT _,IT _,fun c hc=>absurd hc (hT c),rfl⟩
theorem EK(hah:∀ j o,all[j]? =some o->∃ xs,apart ty all bs j o all.zipIdx=some xs/\AFf ty all bs j o xs (ahs.getD j .plain))(tr:Tr P ty all ahs all ρ H V run T){i:Nat}:
  ∀ {k:Nat},i<=k->k<=all.length->(H k).low<=(H i).low/\(H i).high<=(H k).high/\(H k).mark=(H i).mark:=by
 intro k h hk
 induction k with
 |zero=>have:i=0:=Nat.le_zero.1 h;subst this;exact⟨IT _,IT _,rfl⟩
 |succ k ih=>
  rcases xx k i with h2|h2
  ·have:i=k+1:=by omega
   subst this;exact⟨IT _,IT _,rfl⟩
  ·obtain⟨a1,a2,a3⟩:=ih h2 (by omega)
   obtain⟨b1,b2,_,b3⟩:=LC hah tr (j:=k) (by omega);exact⟨yO b1 a1,yO a2 b2,b3.trans a3⟩
theorem QA(tr:Tr P ty all ahs all ρ H V run T){t:Nat}{u:Value}{i k:Nat}(h:i<=k)(hk:k<=all.length)(hs:∀ m o,i<=m->m<k->all[m]? =some o->o.dst≠some t)(hu:evR (ρ k) (.tmp t)=some u):evR (ρ i) (.tmp t)=some u:=
 tr.backward h hk hs hu
theorem iE(hbs:bs=Dt [] all)(he:H0 all=true)(hs:Jr all bs=true)
  (hah:∀ j o,all[j]? =some o->∃ xs,apart ty all bs j o all.zipIdx=some xs/\AFf ty all bs j o xs (ahs.getD j .plain))(tr:Tr P ty all ahs all ρ H V run T):
  Laws ty all ρ H T (fun i j=>isB bs i j=true):=by
 have len:∀ {i:Nat} {o:zu},all[i]? =some o->i<all.length:=fun h=>(xy.1 h).1
 have AGD:∀ j oj c,all[j]? =some oj->T j c->Core P ty oj (ahs.getD j .plain) (ρ j) (H j) (H (j+1)) (V j) (T j):=by
  intro j oj c hj hc;rcases (tr.sf j oj hj).core with ⟨_,core⟩|⟨_,_,_,hT⟩
  ·exact core
  ·exact absurd hc (hT c)
 have kinds:∀ j oj c,all[j]? =some oj->T j c->(∃ x,kd ty oj.op=.w x)\/(kd ty oj.op=.q/\AEw ty all bs j=false):=by
  intro j oj c hj hc;have core:=AGD j oj c hj hc;obtain⟨xs,_,ha⟩:=hah j oj hj;generalize ahs.getD j .plain=ah at ha core;cases ha with
  |AER hk _=>exact absurd hc (core.AER rfl c)
  |weak hk h=>exact .inr ⟨hk,h⟩
  |free hk h _=>exact .inr ⟨hk,h⟩
  |alloc hk=>exact absurd hc (core.AER rfl c)
  |read hk=>exact absurd hc ((core.tp (.inr ⟨_,hk⟩)).1 c)
  |write hk=>exact .inl ⟨_,hk⟩
  |AFr hk _=>exact .inl ⟨_,hk⟩
  |plain hk=>exact absurd hc ((core.tp (.inl hk)).1 c)
 have held:∀ {i j oi oj},all[i]? =some oi->all[j]? =some oj->i<j->¬ isB bs i j=true->∃ xs,AFf ty all bs j oj xs (ahs.getD j .plain)/\AHY ty all xs i j oi oj:=by
  intro i j oi oj hi hj hij hB;obtain⟨xs,hx,ha⟩:=hah j oj hj;exact⟨xs,ha,Ey hx oi i (Gl.2 hi) hij (by cases h:isB bs i j<;>first|rfl|exact absurd h hB)⟩
 refine {lt:=fun i j h=>rD hbs he j i h,slots:=fun i j oi oj d hij hi hj hd hn=>cD hs hij hi hj hd hn,kinds:=fun j oj c hj hc=>(kinds j oj c hj hc).imp id (·.1),fixed:=?_,reads:=?_,tlt:=?_,AHX:=?_,low:=?_,high:=?_}
 ·
  intro i j oi c hij hi hjn hc hki;have hj:all[j]? =some all[j]:=xL hjn;by_cases h1:isB bs i j=true
  ·exact .inl h1
  by_cases h2:isB bs j i=true
  ·exact .inr h2
  exfalso
  have hQQ:∀ {i j:Nat} {oi:zu},all[i]? =some oi->i≠j->¬ isB bs i j=true->¬ isB bs j i=true->kd ty oi.op=.q->AEw ty all bs j=true:=fun hi hij h1 h2 hk=>by
   unfold AEw;exact JW hi hij h1 h2 (by rw[hk];rfl)
  rcases kinds j _ c hj hc with ⟨xj,hkj⟩|⟨hkj,hns⟩
  ·rcases ABQ hij with h|h
   ·obtain⟨xs,_,hh⟩:=held hi hj h h1
    rcases hki with ⟨x,hki⟩|hki
    ·exact hh.ww x xj hki hkj
    ·exact hh.qw xj hki hkj
   ·obtain⟨xs,_,hh⟩:=held hj hi h h2
    rcases hki with ⟨x,hki⟩|hki
    ·exact hh.ww xj x hkj hki
    ·exact hh.wq xj hkj hki
  ·rcases hki with ⟨x,hki⟩|hki
   ·rcases ABQ hij with h|h
    ·obtain⟨xs,_,hh⟩:=held hi hj h h1
     exact hh.wq x hki hkj
    ·obtain⟨xs,_,hh⟩:=held hj hi h h2
     exact hh.qw x hkj hki
   ·rw[hQQ hi hij h1 h2 hki]at hns;cases hns
 ·
  intro i j oi x c u hij hi hjn hc hki hu hb;have hj:all[j]? =some all[j]:=xL hjn;by_cases h1:isB bs i j=true
  ·exact .inl h1
  by_cases h2:isB bs j i=true
  ·exact .inr h2
  exfalso
  have core:=AGD j _ c hj hc;have hin:=len hi;have si:=(tr.sf i oi hi).side (by rw[hki];intro h;cases h);rcases kinds j _ c hj hc with ⟨xj,hkj⟩|⟨hkj,hns⟩
  ·
   have AHx:∃ xs,ahs.getD j .plain=.wr xj xs/\apart ty all bs j all[j] all.zipIdx=some xs:=by
    obtain⟨xs,hx,ha⟩:=hah j _ hj;generalize ahs.getD j .plain=ah at ha;cases ha with
    |write hk=>rw[hkj]at hk;cases hk;exact⟨xs,rfl,hx⟩
    |AFr hk hl=>
     have:=JW (ty:=ty) (ask:=fun _ k=>isR k) hi hij h1 h2 (by simp only[hki];rfl);rw[hl]at this;cases this
    |AER hk _=>rw[hkj]at hk;cases hk
    |weak hk _=>rw[hkj]at hk;cases hk
    |free hk _ _=>rw[hkj]at hk;cases hk
    |alloc hk=>rw[hkj]at hk;cases hk
    |read hk=>rw[hkj]at hk;cases hk
    |plain hk=>rw[hkj]at hk;cases hk
   obtain⟨xsj,hej,hxj⟩:=AHx;obtain⟨u',hu',hb'⟩:=core.wr xj xsj hej c hc;have sj:=(tr.sf j _ hj).side (by rw[hkj];intro h;cases h);rcases ABQ hij with h|h
   ·
    have hh:=Ey hxj oi i (Gl.2 hi) h (by cases h:isB bs i j<;>first|rfl|exact absurd h h1);obtain⟨hm,t,rfl,hw⟩:=hh.rw' x xj hki hkj;obtain⟨_,hkn⟩:=sj.known xj xsj (.inl hej);obtain⟨u2,hu2⟩:=hkn _ hm;have AFp:=QA tr (yn h) (yn hjn) (fun m o a1 a2 a3=>hw m o a1 a2 a3) hu2;rw[hu]at AFp;cases AFp;exact sj.wrx xj xsj hej _ hm u' u c hu' hu2 hb' hb
   ·
    obtain⟨xs,ha,hh⟩:=held hj hi h h2;obtain⟨hm,t,rfl,hw⟩:=hh.wr xj x hkj hki;have AJb:∃ old,ahs.getD i .plain=.chk old x xs:=by
     generalize ahs.getD i .plain=ah at ha;cases ha with
     |read hk=>
      rw[hki]at hk;cases hk;rcases L8 (x:=x) (old:=loose ty all bs i fun i k=>isQ k && !(AEw ty all bs i)) (xs:=xs)with ⟨_,_,h⟩|h
      ·subst h;cases hm
      ·exact⟨_,h⟩
     |AER hk _=>rw[hki]at hk;cases hk
     |weak hk _=>rw[hki]at hk;cases hk
     |free hk _ _=>rw[hki]at hk;cases hk
     |alloc hk=>rw[hki]at hk;cases hk
     |write hk=>rw[hki]at hk;cases hk
     |AFr hk _=>rw[hki]at hk;cases hk
     |plain hk=>rw[hki]at hk;cases hk
    obtain⟨old,hei⟩:=AJb;obtain⟨_,hkn⟩:=si.known x xs (.inr ⟨old,hei⟩);obtain⟨u2,hu2⟩:=hkn _ hm;have AFp:=QA tr (yn h) (yn hin) (fun m o a1 a2 a3=>hw m o a1 a2 a3) hu2;rw[hu']at AFp;cases AFp;exact si.chk old x xs hei _ hm u u' c hu hu2 hb hb'
  ·
   have hwk:∀ c,T j c->(H j).mark<=c:=by
    obtain⟨xs,hx,ha⟩:=hah j _ hj;generalize ahs.getD j .plain=ah at ha core;cases ha with
    |weak hk _=>exact core.weak rfl
    |free hk _ hl=>
     have:AFs ty all bs j=true:=by
      unfold AFs;exact JW (ty:=ty) (ask:=fun _ k=> !isP k) hi hij h1 h2 (by simp only[hki];rfl)
     rw[hl]at this;cases this
    |AER hk h=>rw[hns]at h;cases h
    |alloc hk=>rw[hkj]at hk;cases hk
    |read hk=>rw[hkj]at hk;cases hk
    |write hk=>rw[hkj]at hk;cases hk
    |AFr hk _=>rw[hkj]at hk;cases hk
    |plain hk=>rw[hkj]at hk;cases hk
   have hold:∃ xs,ahs.getD i .plain=.chk true x xs:=by
    obtain⟨xs,hx,ha⟩:=hah i oi hi;generalize ahs.getD i .plain=ah at ha;cases ha with
    |read hk=>
     rw[hki]at hk;cases hk;have hl:(loose ty all bs i fun i k=>isQ k && !(AEw ty all bs i))=true:=
      JW hj (fun h=>hij h.symm) h2 h1 (by rw[hkj,hns];rfl)
     rw[hl];rcases L8 (x:=x) (old:=true) (xs:=xs)with ⟨_,h,_⟩|h
     ·cases h
     ·exact⟨xs,h⟩
    |AER hk _=>rw[hki]at hk;cases hk
    |weak hk _=>rw[hki]at hk;cases hk
    |free hk _ _=>rw[hki]at hk;cases hk
    |alloc hk=>rw[hki]at hk;cases hk
    |write hk=>rw[hki]at hk;cases hk
    |AFr hk _=>rw[hki]at hk;cases hk
    |plain hk=>rw[hki]at hk;cases hk
   obtain⟨xs,hei⟩:=hold;have h3:=si.old x xs hei u c hu hb;have h4:=hwk c hc;have m1:=(EK hah tr (yC i) (yn hin)).2.2;have m2:=(EK hah tr (yC j) (yn hjn)).2.2;omega
 ·intro j c hjn hc
  exact(AGD j _ c (xL hjn) hc).tlt c hc
 ·intro j c hjn hc
  obtain⟨_,_,h3,_⟩:=LC hah tr hjn;obtain⟨h4,h5⟩:=h3 c hc;obtain⟨h6,h7,_⟩:=EK hah tr (i:=j+1) hjn (IT _);omega
 ·exact(EK hah tr (yC _) (IT _)).1
 ·exact(EK hah tr (yC _) (IT _)).2.1
theorem Zd(h:Uq ty all=some ahs):∃ bs,bs=Dt [] all/\H0 all=true/\Jr all bs=true/\∀ j o,all[j]? =some o->∃ xs,apart ty all bs j o all.zipIdx=some xs/\AFf ty all bs j o xs (ahs.getD j .plain):=by
 unfold Uq at h;rw[UI]at h;split at h
 ·rename_i hc
  simp only[xk]at hc;refine⟨_,rfl,hc.1,hc.2.2,fun j o ho=>?_⟩;have:=NV h j o ho;rw[OF]at this;exact ST this
 ·cases h
end
end
noncomputable section
open Go
theorem Ez{a b:Bool}(h:(bif a then b else false)=true):a=true/\b=true:=by cases a<;>first|exact⟨rfl,h⟩|cases h
section

end
end
end Go.Proofs.YtbjadbhkogcfeaaGreat
