/-
  Part ZC of what Lawnw stands on: printed by program, names and spaces cut.
-/
import Derived.Test.YtldjiljipddebaaGreatZB
import Derived.Orders
import Derived.LoopN
import Derived.Scope
import Derived.Below
import Derived.ChangeSame
import Derived.ChangeSlices
import Derived.ChangeArms
import Derived.Test.YtldjiljipddebaaGreatProg
open Option renaming some→BY,none→By
open Bool renaming false→IT,true→IN
open Go.Value renaming int→AI
open Go.IntKind renaming i64→AT
open Go renaming Value→xU,IntKind→yJ,Operand→yW,World→ya,Program→yx,MapEntry→zH,Oper→AAD,Addr→ABD,TypeDesc→AB9,ResultVar→ACq,Code→ADb,results→ADq,Exit→AD7
open Nat renaming le_refl→xW,zero_add→xZ,succ→xz,beq→yA,zero_le→yH,ble→yI,lt_or_ge→yM,le_trans→yS,eq_zero_or_pos→yl,blt→yp,mul→yv,lt_of_lt_of_le→zG,le_of_lt→zO,add_eq→zS,beq_refl→zU,add→zV,mul_comm→zb,mod_two_eq_zero_or_one→zq,mul_one→zw,div→AAS,min_eq_left→AAb,succ_pos→ABE,mod→ABH,not_lt→ABS,min_le_left→ABU,strongRecOn→ABa,lt_irrefl→ABc,le_zero→ABd,le_of_eq→ABe,add_mul→ABf,le_max_right→ABl,lt_or_gt_of_ne→AB1,le_succ_of_le→AB7,div_lt_self→ACQ,le_max_left→ACx,lt_trans→AC3,div_lt_of_lt_mul→ADB,succ_eq_add_one→ADJ,lt_succ_self→ADi,testBit_or→AD1,mul_assoc→AEA,pow_succ→AEK,pow_add→AER
open List renaming length_append→xY,length_map→xa,getElem?_eq_getElem→xc,getD_eq_getElem?_getD→xe,length_cons→xh,mem_cons_of_mem→xn,mem_cons_self→xp,mem_cons→yC,append_assoc→yD,append_nil→yF,getElem?_append_left→yL,getElem?_eq_some_iff→yN,mem_append→yO,length_take→yP,getElem?_append_right→yR,nil_append→yT,length_nil→yU,getElem?_toArray→yV,length_drop→yX,mem_append_right→yc,length_singleton→yd,mem_append_left→yh,drop_of_length_le→ym,mem_filter→zC,range→zP,getElem?_eq_none→zR,getElem?_take→zy,all_eq_true→AAW,mem_range→AAZ,getElem?_drop→ABJ,mapM_cons→AB2,size_toArray→AB5,ext_getElem?→ADP,countP_cons→ADa
open Go.Result renaming andThen_ok→xd
open Go.Sem renaming run_bind→xr,run_pure→xu
open Bool renaming and_eq_true→yE,false_eq_true→ye,not_false→yg,rec→AAk,true_and→AAl,not_eq_true'→ABT,or_eq_true→ACM
open And renaming intro→yK
open Array renaming getD_eq_getD_getElem?→yw,ext'→zT,getElem?_setIfInBounds→zY,all_eq_true_iff_forall_mem→zr,mem_toList_iff→zx,getElem?_eq_some_iff→AAN,toList_filter→ABy
open Option renaming map_some→zX,getD_some→AB3
open Int renaming ofNat→zZ
open Go.Instr renaming next→zz,extract→AB6
open Go.Region renaming ready→AAV,binds→AA8,wanted→ABs
open Go.IntKind renaming i64→AAX,u8→AD6
open Go.Value renaming okWide→AAr
open UInt8 renaming ofNat→AAw
open Go.Question renaming forced→ABL
open Go.Oper renaming upon_value→ABp
open Go.Code renaming rounds→ACK,seq→ACk,region→ADH,loop→AEZ
open Classical renaming choose_spec→ACL,choose→ACl
open SizeOf renaming sizeOf→ACU
open Go.DataW renaming TrodAll→ADz
open Go.Exit renaming inBlock→AEG
open Go.Cell renaming okWide→AEM
open Go.Place renaming get→AEP
open Go.Made renaming depth→AEU
set_option linter.unusedSimpArgs false
set_option linter.unusedVariables false
namespace Go.Proofs.YtldjiljipddebaaGreat
set_option maxRecDepth 100000
noncomputable section
open Go
section
variable {φ ψ χ:Phi}
theorem AF1.cut(f:∀b p,φ b=BY p->(∃q,ψ b=BY q)->χ b=BY p){a a' c:ABD}:AF1 φ a a'->AF1 ψ a c->AF1 χ a a'
 |⟨h,i,p,d,g⟩,⟨_,_,q,e,_⟩=>⟨h,i,p,f _ _ d ⟨q,e⟩,g⟩
theorem AGS.cut(h:∀b p,φ b=BY p->(∃q,ψ b=BY q)->χ b=BY p){a a' d:ABD}{c c' e:Nat}:AGS φ a c a' c'->AGS ψ a c d e->AGS χ a c a' c'
 |⟨j,k,p,f,i⟩,⟨_,_,q,g,_⟩=>⟨j,k,p,h _ _ f ⟨q,g⟩,i⟩
mutual
theorem AEm.cut(a:∀b p,φ b=BY p->(∃q,ψ b=BY q)->χ b=BY p):∀{v v' c:xU},AEm φ v v'->AEm ψ v c->AEm χ v v'
 |_,_,_,.bool b,_=>.bool b
 |_,_,_,.int k n,_=>.int k n
 |_,_,_,.string s,_=>.string s
 |_,_,_,.AHQ,_=>.AHQ
 |_,_,_,.ptr h,h2=>by cases h2 with|ptr h2=>exact .ptr (h.cut a h2)
 |_,_,_,.AFZ,_=>.AFZ
 |_,_,_,.slice f h,h2=>by cases h2 with|slice _ h2=>exact .slice f (h.cut a h2)
 |_,_,_,.AHR,_=>.AHR
 |_,_,_,.map h,h2=>by cases h2 with|map h2=>exact .map (a _ _ h ⟨_,h2⟩)
 |_,_,_,.func d h h',h2=>by cases h2 with|func _ h2 e=>exact .func d (AE5.cut a h h2) (AE5.cut a h' e)
 |_,_,_,.nilFunc,_=>.nilFunc
 |_,_,_,.iface t h,h2=>by cases h2 with|iface _ h2=>exact .iface t (AEm.cut a h h2)
 |_,_,_,.nilIface,_=>.nilIface
 |_,_,_,.agg h,h2=>by cases h2 with|agg h2=>exact .agg (AE5.cut a h h2)
 |_,_,_,.tuple h,h2=>by cases h2 with|tuple h2=>exact .tuple (AE5.cut a h h2)
 |_,_,_,.unk,_=>.unk
 |_,_,_,.AGx,_=>.AGx
theorem AE5.cut(a:∀b p,φ b=BY p->(∃q,ψ b=BY q)->χ b=BY p):∀{v v' c:List xU},AE5 φ v v'->AE5 ψ v c->AE5 χ v v'
 |_,_,_,.nil,_=>.nil
 |_,_,_,.cons h t,h2=>by cases h2 with|cons h2 t2=>exact .cons (AEm.cut a h h2) (AE5.cut a t t2)
end
theorem AFg.cut(a:∀b p,φ b=BY p->(∃q,ψ b=BY q)->χ b=BY p):∀{l:List Ent} {l' h:List zH},AFg φ l l'->AFg ψ l h->AFg χ l l'
 |_,_,_,.nil,_=>.nil
 |_,_,_,.cons d f i,c=>by cases c with|cons e g t2=>exact .cons (d.cut a e) (f.cut a g) (AFg.cut a i t2)
theorem AFh.cut{ty:TTy}(a:∀b p,φ b=BY p->(∃q,ψ b=BY q)->χ b=BY p){p j:Pl}{b:Blk}{o i:Option Obj}(h:AFh ty φ p b o)(h2:AFh ty ψ j b i):AFh ty χ p b o:=by
 cases h with
 |cells h=>cases h2 with
  |cells h2=>exact .cells {h with cell:=λe d=>let ⟨v,f,k⟩:=h.cell e d;let ⟨m,_,l⟩:=h2.cell e d;⟨v,f,k.cut a l⟩}
 |map h=>cases h2 with
  |map h2=>exact .map (h.cut a h2)
 |AGU h=>exact .AGU h
 |iter c h=>cases h2 with
  |iter _ h2=>exact .iter c (a _ _ h ⟨_,h2⟩)
 |cur c h g=>cases h2 with
  |cur _ h2 _=>exact .cur c (a _ _ h ⟨_,h2⟩) g
 |dead=>exact .dead
end
structure Laws (ty:TTy)(all:List AAD)(ρ:Nat->Rho)(H:Nat->Hp)(T:Nat->Nat->Prop)(B:Nat->Nat->Prop):Prop where
 lt:∀i j,B i j->i<j
 slots:∀i j oi oj d,i≠j->all[i]? =BY oi->all[j]? =BY oj->oi.dst=BY d->
  (oj.dst=BY d\/.tmp d∈oj.op.operands.toList\/∃g w og,oj.guard=BY (g,w)/\all[g]? =BY og/\og.dst=BY d)->B i j\/B j i
 kinds:∀j oj c,all[j]? =BY oj->T j c->(∃x,kd ty oj.op=.w x)\/kd ty oj.op=.q
 fixed:∀i j oi c,i≠j->all[i]? =BY oi->j<all.length->T j c->((∃x,kd ty oi.op=.w x)\/kd ty oi.op=.q)->B i j\/B j i
 reads:∀i j oi x c u,i≠j->all[i]? =BY oi->j<all.length->T j c->kd ty oi.op=.r x->evR (ρ i) x=BY u->AE9 u=.ok c->B i j\/B j i
 tlt:∀j c,j<all.length->T j c->c<(H j).next
 AH2:∀j c,j<all.length->T j c->(H all.length).low<=c/\c<=(H all.length).high
 low:(H all.length).low<=(H 0).low
 high:(H 0).high<=(H all.length).high
structure Inv (ty:TTy)(N:Nat)(all:List AAD)(ρ:Nat->Rho)(H:Nat->Hp)(T:Nat->Nat->Prop)(φ0:Phi)(w0:ya)(S:Nat->Prop)(φ:Phi)(C:Nat->Blk)(a:Act)(w:ya):Prop where
 dom:∀b p,φ b=BY p->p.blk<w.heap.size/\(b<(H 0).next\/∃j,S j/\j<all.length/\(H j).next<=b/\b<(H (j+1)).next)
 inj:∀b c p q,φ b=BY p->φ c=BY q->C b≠.dead->C c≠.dead->(p.inp=IT\/q.inp=IT)->p.blk=q.blk->b=c
 row:∀b p,φ b=BY p->AFh ty φ p (C b) w.heap[p.blk]?
 kind:∀k,k<=all.length->∀b p c s e,φ b=BY p->b<(H k).next->(H k).bl.get b=.cells c s e->Kind ty p s e
 inp:∀b p,φ b=BY p->p.inp=IN->b<256
 link:∀k,k<=all.length->∀b p,φ b=BY p->b<(H k).next->(∀j,j<all.length->T j b->(j<k->S j)/\(k<=j->¬S j))->C b=(H k).bl.get b
 chg:∀j,S j->j<all.length->∀b,b<(H j).next->(H (j+1)).bl.get b≠(H j).bl.get b->∃p,φ b=BY p
 full:∀j,S j->j<all.length->∀b,(H j).next<=b->b<(H (j+1)).next->∃p,φ b=BY p
 slot:∀k,k<=all.length->∀t u,(∀j o,all[j]? =BY o->o.dst=BY t->(j<k->S j)/\(k<=j->¬S j))->ρ k t=BY u->AEm φ u (a.tmps.getD t undef)
 size:a.tmps.size=N
 defs:a.defers=[]
 le:φ0.Le φ
 new:∀b p,φ b=BY p->φ0 b=BY p\/(H 0).next<=b
 sz:w0.heap.size<=w.heap.size
 tape:w.tape=w0.tape
 os:w.os=w0.os
 output:w.output=w0.output
 frame:∀k,k<w0.heap.size->(∀c p,φ0 c=BY p->p.inp=IT->(H all.length).low<=c->c<=(H all.length).high->Live (H 0) c->p.blk≠k)->w.heap[k]? =w0.heap[k]?
 back:∀b p,φ b=BY p->C b≠.dead->p.blk<w0.heap.size->∃c q,φ0 c=BY q/\Live (H 0) c/\q.blk=p.blk/\q.inp=p.inp/\(c=b\/(H all.length).low<=c/\c<=(H all.length).high)
section
variable {P:yx}{ty:TTy}{N:Nat}{all:List AAD}{ρ:Nat->Rho}{H:Nat->Hp}{V:Nat->xU}{T:Nat->Nat->Prop}{φ0:Phi}{w0:ya}
theorem Txt.mono{φ:Phi}{n:Nat}(t:Txt P ty N φ ρ H V T n){i:Nat}:∀{k:Nat},i<=k->k<=n->(H i).next<=(H k).next:=by
 intro k b d
 induction k with
 |zero=>have:i=0:=ABd.1 b;subst this;exact xW _
 |succ k c=>
  rcases yM k i with a|a
  ·have:i=k+1:=by omega
   subst this;exact xW _
  ·exact yS (c a (by omega)) (t.next k (by omega))
theorem Txt.AGj{φ:Phi}{n:Nat}(t:Txt P ty N φ ρ H V T n){i:Nat}{b:Nat}(d:b<(H i).next):∀{k:Nat},i<=k->k<=n->AE2 ((H i).bl.get b) ((H k).bl.get b):=by
 intro k c f
 induction k with
 |zero=>have:i=0:=ABd.1 c;subst this;exact .refl _
 |succ k e=>
  rcases yM k i with a|a
  ·have:i=k+1:=by omega
   subst this;exact .refl _
  ·exact(e a (by omega)).trans (t.shape k (by omega) b (zG d (t.mono a (by omega))))
theorem Txt.same{φ:Phi}{n:Nat}(t:Txt P ty N φ ρ H V T n){i:Nat}{b:Nat}:∀{k:Nat},i<=k->k<=n->(∀m,i<=m->m<k->(H (m+1)).bl.get b=(H m).bl.get b)->(H k).bl.get b=(H i).bl.get b:=by
 intro k d g c
 induction k with
 |zero=>have:i=0:=ABd.1 d;subst this;rfl
 |succ k f=>
  rcases yM k i with a|a
  ·have:i=k+1:=by omega
   subst this;rfl
  ·rw[c k a (by omega)];exact f a (by omega) λm e a=>c m e (by omega)
theorem Tr.backward{l:Nat->Bool}{e:List AFI}(tr:Tr P ty all e all ρ H V l T){t:Nat}{u:xU}{i:Nat}:∀{k:Nat},i<=k->k<=all.length->(∀m o,i<=m->m<k->all[m]? =BY o->o.dst≠BY t)->ρ k t=BY u->ρ i t=BY u:=by
 intro k f n d b
 induction k with
 |zero=>have:i=0:=ABd.1 f;subst this;exact b
 |succ k j=>
  rcases yM k i with a|a
  ·have:i=k+1:=by omega
   subst this;exact b
  ·have h:k<all.length:=by omega
   have c:all[k]? =BY all[k]:=xc h;have:=(tr.sf k all[k] c).slot t u b;rw[No (d k all[k] a (ADi _) c)]at this;exact j a (by omega) (λm o g a=>d m o g (by omega)) this
def Q5(n:Nat)(T:Nat->Nat->Prop)(S:Nat->Prop)(h:Hp)(i:Nat):Nat->Prop:=λb=>b<h.next/\¬ ∀a,a<n->T a b->(a<i->S a)/\(i<=a->¬S a)
def upto(φ:Phi)(n:Nat):Phi:=λa=>if a<n then φ a else By
theorem Cx{φ:Phi}{n b:Nat}{p:Pl}(h:upto φ n b=BY p):b<n/\φ b=BY p:=by
 unfold upto at h;split at h
 ·exact⟨‹_›,h⟩
 ·cases h
theorem Inv.AKA{φ:Phi}{C:Nat->Blk}{a:Act}{w:ya}{S:Nat->Prop}(I:Inv ty N all ρ H T φ0 w0 S φ C a w)(y:Txt P ty N φ0 ρ H V T all.length){i:Nat}(hi:i<=all.length):
  AEp ty (upto φ (H i).next) (Q5 all.length T S (H i) i) (H i) w/\∃(ψ:Phi) (b:Act),AR N ψ (ρ i) b/\∀b p,φ b=BY p->(∃q,ψ b=BY q)->upto φ (H i).next b=BY p:=by
 obtain⟨ψ,Y,A,r,z,U,m⟩:=y.AH1 i hi;have u:∀b p,φ b=BY p->(∃q,ψ b=BY q)->upto φ (H i).next b=BY p:=by
  rintro b p g ⟨q,n⟩;unfold upto;rw[If (r.dom b q n).1];exact g
 have O:∀b p,φ b=BY p->b<(H i).next->∃q,ψ b=BY q:=by
  intro b p g f;rcases I.new b p g with h|h
  ·exact⟨p,U b p h⟩
  ·exact m b h f
 have o:∀b p,φ b=BY p->b<(H i).next->¬Q5 all.length T S (H i) i b->C b=(H i).bl.get b:=by
  intro b p g f l;refine I.link i hi b p g f λj R K=>?_
  by_cases t:(j<i->S j)/\(i<=j->¬S j)
  ·exact t
  ·exact absurd ⟨f,λm=>t (m j R K)⟩ l
 refine⟨{dom:=λb p e=>?_,inj:=λb k p q D E G J f L Q W=>?_,row:=λb p e l=>?_,fresh:=y.fresh i hi,kind:=λb p k X B e M=>?_,inp:=λb p e=>I.inp b p (Cx e).2},ψ,A,z,u⟩
 ·obtain⟨d,c⟩:=Cx e
  exact⟨d,(I.dom b p c).1⟩
 ·obtain⟨d,c⟩:=Cx D
  obtain⟨F,s⟩:=Cx E;exact I.inj b k p q c s (by rw[o b p c d G];exact f) (by rw[o k q s F J];exact L) Q W
 ·obtain⟨d,c⟩:=Cx e
  have x:=I.row b p c;rw[o b p c d l]at x;obtain⟨q,n⟩:=O b p c d;exact x.cut u (r.row b q n λh=>h)
 ·obtain⟨d,c⟩:=Cx e
  exact I.kind i hi b p k X B c d M
end
section
variable {P:yx}{ty:TTy}{N:Nat}{all:List AAD}{ρ:Nat->Rho}{H:Nat->Hp}{V:Nat->xU}{T:Nat->Nat->Prop}{φ0:Phi}{w0:ya}{B:Nat->Nat->Prop}
def join(φ ψ:Phi)(lo hi:Nat):Phi:=λa=>if lo<=a/\a<hi then ψ a else φ a
open Classical in
def XO(C:Nat->Blk)(h:Hp)(lo:Nat)(b:Prop):Nat->Blk:=λa=>if a<h.next/\(lo<=a\/b)then h.bl.get a else C a
theorem Inv.after(R:Laws ty all ρ H T B){d8:Nat->Bool}{c8:List AFI}(tr:Tr P ty all c8 all ρ H V d8 T)(E:Txt P ty N φ0 ρ H V T all.length){S:Nat->Prop}{φ:Phi}{C:Nat->Blk}{a:Act}{w:ya}(I:Inv ty N all ρ H T φ0 w0 S φ C a w)
  {i:Nat}{o:AAD}(Y:all[i]? =BY o)(hS:¬S i)(d5:∀j,B j i->S j)(d1:∀j k,S j->B k j->S k)(hN:∀d,o.dst=BY d->d<N)
  {ψ:Phi}{v':xU}{w':ya}(hv:AEm ψ (V i) v')(HW:AEp ty ψ (Q5 all.length T S (H i) i) (H (i+1)) w')(eff:Eff (T i) (upto φ (H i).next) (H i) w ψ (H (i+1)) w'):
  Inv ty N all ρ H T φ0 w0 (λj=>S j\/j=i) (join φ ψ (H i).next (H (i+1)).next) (XO C (H (i+1)) (H i).next (∃c,T i c)) (a.put o.dst v') w':=by
 have A:i<all.length:=by
  rcases yM i all.length with h|h
  ·exact h
  ·rw[zR h]at Y;cases Y
 have d2:∀j,B i j->¬S j:=λj f p=>hS (d1 j i p f)
 have fx:∀j,j≠i->(B i j\/B j i)->(j<i->S j)/\(i<=j->¬S j):=by
  intro j p f;rcases f with f|f
  ·have:=R.lt i j f
   exact⟨λh=>by omega,λ_=>d2 j f⟩
  ·have:=R.lt j i f
   exact⟨λ_=>d5 j f,λh=>by omega⟩
 have e7:=E.next i A;have e0:i+1<=all.length:=A;have hE:(∃c,T i c)->∀b,¬Q5 all.length T S (H i) i b:=by
  rintro⟨c,hc⟩ b ⟨f,d4⟩;refine d4 λj p t=>?_
  by_cases a7:j=i
  ·subst a7;exact⟨λh=>absurd h (ABc _),λ_=>hS⟩
  ·exact fx j a7 (R.fixed i j o b (λh=>a7 h.symm) Y p t (R.kinds i o c Y hc))
 have c3:∀b,(H i).next<=b->b<(H (i+1)).next->φ b=By:=by
  intro b m n;cases f:φ b with
  |none=>rfl
  |some e=>
   exfalso
   rcases (I.dom b e f).2 with h|⟨j,p,a8,g,h4⟩
   ·have:=E.mono (yH i) (zO A)
    omega
   ·rcases Nat.lt_trichotomy j i with h|h|h
    ·have:=E.mono (i:=j+1) (k:=i) h (zO A);omega
    ·subst h;exact hS p
    ·have:=E.mono (i:=i+1) (k:=j) h (zO a8);omega
 have b6:∀{b},(H i).next<=b->b<(H (i+1)).next->join φ ψ (H i).next (H (i+1)).next b=ψ b:=λm n=>If ⟨m,n⟩
 have Z:∀{b},¬((H i).next<=b/\b<(H (i+1)).next)->join φ ψ (H i).next (H (i+1)).next b=φ b:=λh=>No h
 have a3:φ.Le (join φ ψ (H i).next (H (i+1)).next):=by
  intro b e f;rw[Z λh=>by rw[c3 b h.1 h.2]at f;cases f];exact f
 have jψ:ψ.Le (join φ ψ (H i).next (H (i+1)).next):=by
  intro b e f;have n:=(HW.dom b e f).1;rcases yM b (H i).next with h|h
  ·rw[Z (by omega)]
   rcases eff.new b e f with g|g
   ·exact(Cx g).2
   ·omega
  ·rw[b6 h n];exact f
 have K:∀{b e},join φ ψ (H i).next (H (i+1)).next b=BY e->((H i).next<=b/\b<(H (i+1)).next/\ψ b=BY e)\/((b<(H i).next\/(H (i+1)).next<=b)/\φ b=BY e):=by
  intro b e f;by_cases h:(H i).next<=b/\b<(H (i+1)).next
  ·rw[b6 h.1 h.2]at f;exact .inl ⟨h.1,h.2,f⟩
  ·rw[Z h]at f;exact .inr ⟨by omega,f⟩
 have c7:∀{b e},φ b=BY e->b<(H i).next->ψ b=BY e:=by
  intro b e f h;refine eff.le b e ?_;unfold upto;rw[If h];exact f
 have G:∀{b},b<(H (i+1)).next->((H i).next<=b\/∃c,T i c)->XO C (H (i+1)) (H i).next (∃c,T i c) b=(H (i+1)).bl.get b:=λm n=>If ⟨m,n⟩
 have L:∀{b},¬(b<(H (i+1)).next/\((H i).next<=b\/∃c,T i c))->XO C (H (i+1)) (H i).next (∃c,T i c) b=C b:=λh=>No h
 have lk:(∃c,T i c)->∀b e,φ b=BY e->b<(H i).next->C b=(H i).bl.get b:=by
  intro q b e f h;refine I.link i (zO A) b e f h λj p t=>?_
  by_cases hh:(j<i->S j)/\(i<=j->¬S j)
  ·exact hh
  ·exact absurd ⟨h,λc9=>hh (c9 j p t)⟩ (hE q b)
 have live:∀{b},b<(H i).next->(H (i+1)).bl.get b≠.dead->(H i).bl.get b≠.dead:=λh X=>(eff.shape _ h).live X
 have b7:∀{b c e r},(H (i+1)).next<=c->φ c=BY r->C c≠.dead->b<(H (i+1)).next->join φ ψ (H i).next (H (i+1)).next b=BY e->XO C (H (i+1)) (H i).next (∃c,T i c) b≠.dead->(e.inp=IT\/r.inp=IT)->e.blk≠r.blk:=by
  intro b c e r hc y z f l u a1 J;rcases K l with ⟨m,n,g⟩|⟨m,g⟩
  ·rw[G n (.inl m)]at u
   obtain⟨j,q',M,O,U,ei,s⟩:=eff.back b e g u (J ▸ (I.dom c r y).1);obtain⟨e5,Q⟩:=Cx M;rcases s with rfl|s
   ·omega
   ·have:=I.inj j c q' r Q y (by rw[lk ⟨j,s⟩ j q' Q e5];exact O) z (by rw[ei];exact a1) (U.trans J)
    omega
  ·have a5:b<(H i).next:=by omega
   have X:C b≠.dead:=by
    by_cases q:∃c,T i c
    ·rw[G f (.inr q)]at u
     rw[lk q b e g a5];exact live a5 u
    ·rw[L (by rintro⟨_,h|h⟩;omega;exact q h)]at u;exact u
   have:=I.inj b c e r g y X z a1 J;omega
 refine {dom:=?_,inj:=?_,row:=?_,kind:=?_,inp:=(λb e l A=>by rcases K l with ⟨_,_,g⟩|⟨_,g⟩;exact HW.inp b e g A;exact I.inp b e g A),link:=?_,chg:=?_,full:=?_,slot:=?_,size:=(by rw[F0];exact I.size),defs:=(by rw[G4];exact I.defs),le:=I.le.trans a3,new:=?_,sz:=yS I.sz eff.size,tape:=eff.tape.trans I.tape,os:=eff.os.trans I.os,output:=eff.output.trans I.output,frame:=?_,back:=?_}
 ·
  intro b e l;rcases K l with ⟨m,n,g⟩|⟨m,g⟩
  ·exact⟨(HW.dom b e g).2,.inr ⟨i,.inr rfl,A,m,n⟩⟩
  ·obtain⟨q1,q2⟩:=I.dom b e g
   exact⟨zG q1 eff.size,q2.imp id λ⟨j,p,d7⟩=>⟨j,.inl p,d7⟩⟩
 ·
  intro b c e r l y u z a1 J;rcases yM b (H (i+1)).next with f|f
  ·rcases yM c (H (i+1)).next with hc|hc
   ·have c6:∀{b e},b<(H (i+1)).next->join φ ψ (H i).next (H (i+1)).next b=BY e->ψ b=BY e:=by
     intro b e f l;rcases K l with ⟨_,_,g⟩|⟨m,g⟩
     ·exact g
     ·exact c7 g (by omega)
    have pb:=c6 f l;have pc:=c6 hc y;by_cases q:∃c,T i c
    ·rw[G f (.inr q)]at u
     rw[G hc (.inr q)]at z;exact HW.inj b c e r pb pc (hE q b) (hE q c) u z a1 J
    ·rcases yM b (H i).next with b9|b9
     ·rcases yM c (H i).next with a6|a6
      ·rw[L (by rintro⟨_,h|h⟩;omega;exact q h)]at u
       rw[L (by rintro⟨_,h|h⟩;omega;exact q h)]at z;rw[Z (by omega)]at l y;exact I.inj b c e r l y u z a1 J
      ·exfalso
       rw[Z (by omega)]at l;rw[G hc (.inl a6)]at z;obtain⟨j,q',M,O,U,_,s⟩:=eff.back c r pc z (J ▸ (I.dom b e l).1);rcases s with rfl|s
       ·have:=(Cx M).1;omega
       ·exact q ⟨j,s⟩
     ·rw[G f (.inl b9)]at u
      rcases yM c (H i).next with a6|a6
      ·exfalso
       rw[Z (by omega)]at y;obtain⟨j,q',M,O,U,_,s⟩:=eff.back b e pb u (J ▸ (I.dom c r y).1);rcases s with rfl|s
       ·have:=(Cx M).1;omega
       ·exact q ⟨j,s⟩
      ·rw[G hc (.inl a6)]at z
       exact HW.inj b c e r pb pc (λh=>by have:=h.1;omega) (λh=>by have:=h.1;omega) u z a1 J
   ·rw[Z (by omega)]at y
    rw[L (by omega)]at z;exact absurd J (b7 hc y z f l u a1)
  ·rcases yM c (H (i+1)).next with hc|hc
   ·rw[Z (by omega)]at l
    rw[L (by omega)]at u;exact absurd J.symm (b7 f l u hc y z a1.symm)
   ·rw[Z (by omega)]at l y
    rw[L (by omega)]at u z;exact I.inj b c e r l y u z a1 J
 ·
  intro b e l;by_cases f:b<(H (i+1)).next/\((H i).next<=b\/∃c,T i c)
  ·rw[G f.1 f.2]
   have hψ:ψ b=BY e:=by
    rcases K l with ⟨_,_,g⟩|⟨m,g⟩
    ·exact g
    ·exact c7 g (by omega)
   refine(HW.row b e hψ ?_).mono jψ;rcases f.2 with h|h
   ·intro hE;have:=hE.1;omega
   ·exact hE h b
  ·rw[L f]
   have hφ:φ b=BY e:=by
    rcases K l with ⟨m,n,_⟩|⟨_,g⟩
    ·exact absurd ⟨n,.inl m⟩ f
    ·exact g
   by_cases W:C b=.dead
   ·rw[W];exact .dead
   ·have hr:=(I.row b e hφ).mono a3
    rw[eff.frame e.blk (I.dom b e hφ).1 λc r M en O U s=>?_]
    ·exact hr
    ·obtain⟨e5,Q⟩:=Cx M
     have:=I.inj c b r e Q hφ (by rw[lk ⟨c,O⟩ c r Q e5];exact U) W (.inl en) s;subst this;exact f ⟨by omega,.inr ⟨c,O⟩⟩
 ·
  intro k D b e c c5 b8 l f he;rcases K l with ⟨m,n,g⟩|⟨_,g⟩
  ·have a0:i+1<=k:=by
    rcases yM i k with h|h
    ·exact h
    ·have:=E.mono (i:=k) (k:=i) h (zO A);omega
   have hs:=E.AGj (i:=i+1) (k:=k) n a0 D;rw[he]at hs;obtain⟨c',d0⟩:=hs.cells;exact HW.kind b e c' c5 b8 g d0
  ·exact I.kind k D b e c c5 b8 g f he
 ·
  intro k D b e l f F;rcases yM i k with a0|a0
  ·
   rcases K l with ⟨m,n,g⟩|⟨m,g⟩
   ·rw[G n (.inl m)]
    refine(E.same (i:=i+1) a0 D λx a9 b4=>?_).symm;by_cases hm:S x
    ·by_cases hc:(H (x+1)).bl.get b=(H x).bl.get b
     ·exact hc
     ·have:=E.mono (i:=i+1) (k:=x) a9 (by omega)
      obtain⟨r,y⟩:=I.chg x hm (by omega) b (by omega) hc;rw[c3 b m n]at y;cases y
    ·have:=E.mono (i:=i+1) (k:=x) a9 (by omega)
     refine E.kept x (by omega) b (by omega) λt=>?_
     rcases (F x (by omega) t).1 b4 with h|h
     ·exact hm h
     ·omega
   ·rcases m with m|m
    ·by_cases q:∃c,T i c
     ·rw[G (by omega) (.inr q)]
      refine(E.same (i:=i+1) a0 D λx a9 b4=>?_).symm;have:=E.mono (i:=i+1) (k:=x) a9 (by omega);refine E.kept x (by omega) b (by omega) λt=>?_
      obtain⟨c,hc⟩:=q;have b2:=fx x (by omega) (R.fixed i x o b (by omega) Y (by omega) t (R.kinds i o c Y hc));rcases (F x (by omega) t).1 b4 with h|h
      ·exact b2.2 (by omega) h
      ·omega
     ·rw[L (by rintro⟨_,h|h⟩;omega;exact q h)]
      refine I.link k D b e g f λj p t=>⟨λh=>?_,λh=>?_⟩
      ·rcases (F j p t).1 h with h|h
       ·exact h
       ·subst h;exact absurd ⟨b,t⟩ q
      ·exact λa2=>(F j p t).2 h (.inl a2)
    ·rw[L (by omega)]
     refine I.link k D b e g f λj p t=>⟨λh=>?_,λh=>?_⟩
     ·rcases (F j p t).1 h with h|h
      ·exact h
      ·subst h;have:=R.tlt j b p t;omega
     ·exact λa2=>(F j p t).2 h (.inl a2)
  ·
   have d9:=E.mono (i:=k) (k:=i) a0 (zO A);have g:φ b=BY e:=by
    rcases K l with ⟨m,_,_⟩|⟨_,g⟩
    ·omega
    ·exact g
   have l1:C b=(H k).bl.get b:=I.link k D b e g f λj p t=>⟨λh=>by
     rcases (F j p t).1 h with n|n
     ·exact n
     ·omega,λh a2=>(F j p t).2 h (.inl a2)⟩
   by_cases q:∃c,T i c
   ·rw[G (by omega) (.inr q)]
    have d3:¬T i b:=λt=>(F i A t).2 a0 (.inr rfl)
    rw[eff.kept b (by omega) d3,<- lk q b e g (by omega)];exact l1
   ·rw[L (by rintro⟨_,h|h⟩;omega;exact q h)];exact l1
 ·
  intro j p a8 b f hc;rcases p with p|rfl
  ·obtain⟨e,l⟩:=I.chg j p a8 b f hc
   exact⟨e,a3 b e l⟩
  ·cases hu:upto φ (H j).next b with
   |none=>exact absurd (eff.only b f hu) hc
   |some e=>exact⟨e,a3 b e (Cx hu).2⟩
 ·
  intro j p a8 b m n;rcases p with p|rfl
  ·obtain⟨e,l⟩:=I.full j p a8 b m n
   exact⟨e,a3 b e l⟩
  ·obtain⟨e,l⟩:=eff.all b m n
   exact⟨e,jψ b e l⟩
 ·
  intro k D a4 b5 F hu;rw[IE];by_cases W:o.dst=BY a4
  ·rw[If ⟨W,by rw[I.size];exact hN a4 W⟩]
   have a0:i<k:=by
    rcases yM i k with h|h
    ·exact h
    ·exact absurd (.inr rfl) ((F i o Y W).2 h)
   have d6:ρ (i+1) a4=BY b5:=by
    refine tr.backward (i:=i+1) a0 D (λx om m n c4 c1=>?_) hu;have b2:=fx x (by omega) (R.slots i x o om a4 (by omega) Y c4 W (.inl c1));rcases (F x om c4 c1).1 n with h|h
    ·exact b2.2 (by omega) h
    ·omega
   have:=(tr.sf i o Y).slot a4 b5 d6;rw[If W]at this;rw[this];exact hv.mono jψ
  ·rw[No λh=>W h.1]
   refine(I.slot k D a4 b5 (λj oj b0 b1=>?_) hu).mono a3;have a7:j≠i:=λh=>by subst h;rw[Y]at b0;cases b0;exact W b1
   refine⟨λh=>?_,λh a2=>(F j oj b0 b1).2 h (.inl a2)⟩;rcases (F j oj b0 b1).1 h with n|n
   ·exact n
   ·exact absurd n a7
 ·
  intro b e l;rcases K l with ⟨m,_,_⟩|⟨_,g⟩
  ·have:=E.mono (yH i) (zO A)
   exact .inr (by omega)
  ·exact I.new b e g
 ·
  intro k D hc;rw[eff.frame k (zG D I.sz) λc r M en O U s=>?_]
  ·exact I.frame k D hc
  ·obtain⟨e5,Q⟩:=Cx M
   obtain⟨c0,q0,f1,f2,f3,fi,f4⟩:=I.back c r Q (by rw[lk ⟨c,O⟩ c r Q e5];exact U) (by rw[s];exact D);have c2:(H all.length).low<=c0/\c0<=(H all.length).high:=by
    rcases f4 with rfl|f4
    ·exact R.AH2 i _ A O
    ·exact f4
   exact hc c0 q0 f1 (fi.trans en) c2.1 c2.2 f2 (f3.trans s)
 ·
  intro b e l X b3;rcases K l with ⟨m,n,g⟩|⟨m,g⟩
  ·rw[G n (.inl m)]at X
   obtain⟨j,r,M,O,U,ei,s⟩:=eff.back b e g X (zG b3 I.sz);obtain⟨e5,Q⟩:=Cx M;rcases s with rfl|s
   ·omega
   ·obtain⟨c0,q0,f1,f2,f3,fi,f4⟩:=I.back j r Q (by rw[lk ⟨j,s⟩ j r Q e5];exact O) (by rw[U];exact b3)
    refine⟨c0,q0,f1,f2,f3.trans U,fi.trans ei,.inr ?_⟩;rcases f4 with rfl|f4
    ·exact R.AH2 i _ A s
    ·exact f4
  ·refine I.back b e g ?_ b3
   by_cases f:b<(H (i+1)).next/\((H i).next<=b\/∃c,T i c)
   ·have a5:b<(H i).next:=by omega
    rw[G f.1 f.2]at X;have q:∃c,T i c:=f.2.resolve_left (by omega);rw[lk q b e g a5];exact live a5 X
   ·rw[L f]at X;exact X
end
section
variable {P:yx}{ty:TTy}{N:Nat}{all:List AAD}{ρ:Nat->Rho}{H:Nat->Hp}{V:Nat->xU}{T:Nat->Nat->Prop}{φ0:Phi}{w0:ya}{B:Nat->Nat->Prop}{run:Nat->Bool}{ahs:List AFI}
theorem Inv.step(L:Laws ty all ρ H T B)(tr:Tr P ty all ahs all ρ H V run T)(txt:Txt P ty N φ0 ρ H V T all.length){S:Nat->Prop}{φ:Phi}{C:Nat->Blk}{a:Act}{w:ya}(I:Inv ty N all ρ H T φ0 w0 S φ C a w)
  {i:Nat}{o:AAD}(ho:all[i]? =BY o)(hS:¬S i)(hpre:∀j,B j i->S j)(hcl:∀j k,S j->B k j->S k)(hN:∀d,o.dst=BY d->d<N)
  {K:Act->ya->Prop}{Q:AD7->Act->ya->Prop}(hK:∀φ' C' a' w',Inv ty N all ρ H T φ0 w0 (λj=>S j\/j=i) φ' C' a' w'->K a' w'):wpOp P all.toArray Q i K a w:=by
 have hi:i<all.length:=by
  rcases yM i all.length with h|h
  ·exact h
  ·rw[zR h]at ho;cases ho
 have fx:∀j,j≠i->(B i j\/B j i)->(j<i->S j)/\(i<=j->¬S j):=by
  intro j hj hb;rcases hb with hb|hb
  ·have:=L.lt i j hb
   exact⟨λh=>by omega,λ_ hSj=>hS (hcl j i hSj hb)⟩
  ·have:=L.lt j i hb
   exact⟨λ_=>hpre j hb,λh=>by omega⟩
 have named:∀d,(o.dst=BY d\/.tmp d∈o.op.operands.toList\/∃g w og,o.guard=BY (g,w)/\all[g]? =BY og/\og.dst=BY d)->∀u,ρ i d=BY u->AEm φ u (a.tmps.getD d undef):=by
  intro d hd u hu;refine I.slot i (zO hi) d u (λj oj hoj hdj=>?_) hu;by_cases hji:j=i
  ·subst hji;exact⟨λh=>absurd h (ABc _),λ_=>hS⟩
  ·exact fx j hji ((L.slots j i oj o d hji hoj ho hdj hd).symm)
 have s:=tr.sf i o ho;have hw:=Pp s (a:=a) (φ:=φ) λg want og d u h1 h2 h3 hu=>named d (.inr (.inr ⟨g,want,og,h1,h2,h3⟩)) u hu
 obtain⟨HR,ψ,b,HA,hx⟩:=I.AKA txt (zO hi);have names:∀x∈o.op.operands.toList,∀u,evR (ρ i) x=BY u->AEm (upto φ (H i).next) u (a.eval x):=by
  intro x hxm u hu;have h1:AEm φ u (a.eval x):=by
   cases x with
   |tmp t=>exact named t (.inr (.inl hxm)) u hu
   |const v=>
    have hu:(if Fz v then BY v else By)=BY u:=hu;split at hu
    ·rename_i hp;cases hu;exact Nx hp
    ·cases hu
   |func g=>cases hu;exact .func _ .nil .nil
   |global g=>cases hu
  exact h1.cut hx (HA.ev hu)
 unfold wpOp;rw[yV,ho];simp only;rcases s.core with ⟨hrun,core⟩|⟨hrun,hv,hh,hT⟩
 ·rw[hw,hrun,If rfl]
  refine .inl (core.AHU _ _ w a HR names ?_ _ _ λψ' v' w' hv HW' eff _=>hK _ _ _ _ (I.after L tr txt ho hS hpre hcl hN hv HW' eff));have noE:((∃x,kd ty o.op=.w x)\/kd ty o.op=.q)->∀b,¬Q5 all.length T S (H i) i b:=by
   rintro hk b ⟨hb,hne⟩;refine hne λj hj hT=>?_
   by_cases hji:j=i
   ·subst hji;exact⟨λh=>absurd h (ABc _),λ_=>hS⟩
   ·exact fx j hji (L.fixed i j o b (λh=>hji h.symm) ho hj hT hk)
  unfold TouchR;cases hk:kd ty o.op with
  |p=>trivial
  |a=>trivial
  |r x=>
   rintro u hu c hc ⟨hb,hne⟩;refine hne λj hj hT=>?_
   by_cases hji:j=i
   ·subst hji;exact⟨λh=>absurd h (ABc _),λ_=>hS⟩
   ·exact fx j hji (L.reads i j o x c u (λh=>hji h.symm) ho hj hT hk hu hc)
  |w x=>exact noE (.inl ⟨x,hk⟩)
  |q=>exact noE (.inr hk)
 ·rw[hw,hrun,No (by simp)]
  refine hK _ _ _ _ (I.after L tr txt ho hS hpre hcl hN (ψ:=upto φ (H i).next) (v':=undef) (w':=w) (by rw[hv];exact .tuple .nil) (by rw[hh];exact HR) ?_);rw[hh];exact {Eff.refl (upto φ (H i).next) (H i) w with frame:=λ_ _ _=>rfl,back:=λi p e hl _=>⟨i,p,e,hl,rfl,rfl,.inl rfl⟩,kept:=λ_ _ _=>rfl}
theorem Inv.begin(tr:Tr P ty all ahs all ρ H V run T)(m:Txt P ty N φ0 ρ H V T all.length)(R:Laws ty all ρ H T B){a:Act}(e:AEp ty φ0 nil (H 0) w0)(n:AR N φ0 (ρ 0) a){S:Nat->Prop}(l:∀j,j<all.length->¬S j):
  Inv ty N all ρ H T φ0 w0 S φ0 (H 0).bl.get a w0 where
 dom:=λb d c=>⟨(e.dom b d c).2,.inl (e.dom b d c).1⟩
 inj:=λb t d L c I o z E f=>e.inj b t d L c I (λf=>f) (λf=>f) o z E f
 row:=λb d c=>e.row b d c λf=>f
 kind:=λk h b d t M x c o D=>by
  have u:=m.AGj (i:=0) (k:=k) (e.dom b d c).1 (yH _) h;rw[D]at u;obtain⟨w,A⟩:=u.cells;exact e.kind b d w M x c A
 inp:=e.inp
 link:=λk h b d c o s=>by
  refine(m.same (i:=0) (yH _) h λg _ r=>?_).symm;have U:=(e.dom b d c).1;have:=m.mono (i:=0) (k:=g) (yH _) (by omega);exact m.kept g (by omega) b (by omega) λy=>l g (by omega) ((s g (by omega) y).1 r)
 chg:=λj p q=>absurd p (l j q)
 full:=λj p q=>absurd p (l j q)
 slot:=λk h O Q s J=>by
  refine n.rel O Q (tr.backward (i:=0) (yH _) h (λg K _ r G C=>?_) J);exact l g (by omega) ((s g K G C).1 r)
 size:=n.size
 defs:=n.defs
 le:=.refl _
 new:=λb d c=>.inl c
 sz:=xW _
 tape:=rfl
 os:=rfl
 output:=rfl
 frame:=λ_ _ _=>rfl
 back:=λb d c F _=>⟨b,d,c,F,rfl,rfl,.inl rfl⟩
theorem Inv.fin(e:Txt P ty N φ0 ρ H V T all.length)(r:Laws ty all ρ H T B){S:Nat->Prop}{φ:Phi}{C:Nat->Blk}{a:Act}{w:ya}(I:Inv ty N all ρ H T φ0 w0 S φ C a w)(o:∀j,j<all.length->S j):
  AEp ty φ nil (H all.length) w/\AR N φ (ρ all.length) a/\Evo φ0 (H 0) w0 φ (H all.length) w:=by
 have t:∀b c,φ b=BY c->b<(H all.length).next:=by
  intro b c d;rcases (I.dom b c d).2 with h|⟨j,_,l,_,h⟩
  ·have:=e.mono (yH all.length) (xW _);omega
  ·have:=e.mono (i:=j+1) (k:=all.length) l (xW _);omega
 have q:∀b c,φ b=BY c->C b=(H all.length).bl.get b:=λb c d=>
  I.link _ (xW _) b c d (t b c d) λj l _=>⟨λ_=>o j l,λh=>by omega⟩
 refine⟨{dom:=λb c d=>⟨t b c d,(I.dom b c d).1⟩,inj:=λb n c y d x _ _ g p G h=>I.inj b n c y d x (by rw[q b c d];exact g) (by rw[q n y x];exact p) G h,row:=λb c d _=>by rw[<- q b c d];exact I.row b c d,fresh:=e.fresh _ (xW _),kind:=λb c n O z d F=>I.kind _ (xW _) b c n O z d (t b c d) F,inp:=I.inp},
  ⟨I.size,I.defs,λQ R L=>I.slot _ (xW _) Q R (λj Y u _=>?_) L⟩,
  {le:=I.le,new:=I.new,next:=e.mono (yH _) (xW _),size:=I.sz,tape:=I.tape,os:=I.os,output:=I.output,frame:=I.frame,back:=λb c d J K=>I.back b c d (by rw[q b c d];exact J) K,kept:=λb g X=>?_,low:=r.low,high:=r.high,shape:=λb g=>e.AGj (i:=0) g (yH _) (xW _),only:=λb g A=>?_,all:=λb U D=>?_}⟩
 ·have l:j<all.length:=by
   rcases yM j all.length with h|h
   ·exact h
   ·rw[zR h]at u;cases u
  exact⟨λ_=>o j l,λh=>by omega⟩
 ·refine e.same (i:=0) (yH _) (xW _) λf _ m=>?_
  have:=e.mono (i:=0) (k:=f) (yH _) (by omega);exact e.kept f m b (by omega) λE=>by have:=r.AH2 f b m E;omega
 ·refine e.same (i:=0) (yH _) (xW _) λf _ m=>?_
  have:=e.mono (i:=0) (k:=f) (yH _) (by omega);by_cases p:(H (f+1)).bl.get b=(H f).bl.get b
  ·exact p
  ·obtain⟨c,d⟩:=I.chg f (o f m) m b (by omega) p
   rcases I.new b c d with h|h
   ·rw[A]at h;cases h
   ·omega
 ·
  have:∀k,k<=all.length->b<(H k).next->∃c,φ b=BY c:=by
   intro k
   induction k with
   |zero=>intro _ h;omega
   |succ k M=>
    intro W h;rcases yM b (H k).next with s|s
    ·exact M (by omega) s
    ·exact I.full k (o k (by omega)) (by omega) b s h
  exact this _ (xW _) D
theorem Oo{e:Type}{p q:e->Bool}:∀{l:List e},(∀x∈l,p x=IN->q x=IN)->(∃x∈l,q x=IN/\p x=IT)->l.countP p<l.countP q
 |[],_,f=>by obtain⟨x,hx,_⟩:=f;cases hx
 |y::l,b,g=>by
  have i:l.countP p<=l.countP q:=List.countP_mono_left λx hx a=>b x (xn _ hx) a
  rw[ADa,ADa];by_cases c:q y=IN/\p y=IT
  ·rw[c.1,c.2];simp;omega
  ·obtain⟨x,hx,d,a⟩:=g
   rcases yC.1 hx with rfl|hx
   ·exact absurd ⟨d,a⟩ c
   ·have:=Oo (λx hx=>b x (xn _ hx)) ⟨x,hx,d,a⟩
    cases h:p y with
    |true=>rw[b y xp h];simp;omega
    |false=>cases q y<;>simp<;>omega
structure AHE (all:List AAD)(B:Nat->Nat->Prop):Prop where
 dec:∀i o j,all[i]? =BY o->B j i->∃e∈o.after.toList,AA8 .any e=IN/\(j=e.on\/B j e.on)
 back:∀i o,all[i]? =BY o->∀e∈o.after.toList,AA8 .any e=IN->e.on<i
theorem mg(E:AHE all B)(L:Laws ty all ρ H T B)(tr:Tr P ty all ahs all ρ H V run T)(txt:Txt P ty N φ0 ρ H V T all.length)(hN:∀o∈all,∀d,o.dst=BY d->d<N){Q:AD7->Act->ya->Prop}
  (hq:∀ψ a' w',AEp ty ψ nil (H all.length) w'->AR N ψ (ρ all.length) a'->Evo φ0 (H 0) w0 ψ (H all.length) w'->Q .normal a' w'):
  ∀(fuel:Nat) (listed:Array Bool) (φ:Phi) (C:Nat->Blk) (a:Act) (w:ya),listed.size=all.length->(zP all.length).countP (λj=> !listed.getD j IN)<=fuel->
   (∀j k,(j<all.length/\listed.getD j IT=IN)->B k j->(k<all.length/\listed.getD k IT=IN))->
   Inv ty N all ρ H T φ0 w0 (λj=>j<all.length/\listed.getD j IT=IN) φ C a w->wpAny P .any all.toArray Q fuel listed a w:=by
 have AGl:∀(listed:Array Bool),listed.size=all.length->∀j,j<all.length->listed.getD j IN=listed.getD j IT:=by
  intro listed hs j hj;rw[yw,yw,Array.getElem?_eq_getElem (by omega)];rfl
 have done:∀(listed:Array Bool) (φ:Phi) (C:Nat->Blk) (a:Act) (w:ya),listed.size=all.length->AAV .any all.toArray listed=[]->
   Inv ty N all ρ H T φ0 w0 (λj=>j<all.length/\listed.getD j IT=IN) φ C a w->(∀j,j<all.length->listed.getD j IT=IN)/\Q .normal a w:=by
  intro listed φ C a w hs hr I;have hall:∀j,j<all.length->listed.getD j IT=IN:=by
   intro j
   induction j using ABa with
   |_ j ih=>
    intro hj;cases hl:listed.getD j IT with
    |true=>rfl
    |false=>
     exfalso
     have ho:all[j]? =BY all[j]:=xc hj;have:j∈AAV .any all.toArray listed:=by
      unfold AAV;rw[zC];refine⟨AAZ.2 (by simpa using hj),?_⟩;rw[AGl listed hs j hj,hl,yV,ho];simp only[yg,AAl,zX,AB3];rw[zr];intro e he;cases hb:AA8 .any e with
      |false=>rfl
      |true=>
       have h1:=E.back j all[j] ho e (zx.2 he) hb;rw[ih e.on h1 (by omega)];rfl
     rw[hr]at this;cases this
  obtain⟨h1,h2,h3⟩:=I.fin txt L λj hj=>⟨hj,hall j hj⟩
  exact⟨hall,hq φ a w h1 h2 h3⟩
 intro fuel
 induction fuel with
 |zero=>
  intro listed φ C a w hs hc hcl I;have hr:AAV .any all.toArray listed=[]:=by
   cases hr:AAV .any all.toArray listed with
   |nil=>rfl
   |cons x xs=>
    exfalso
    have hx:x∈AAV .any all.toArray listed:=by rw[hr];exact xp
    unfold AAV at hx;rw[zC]at hx;obtain⟨h1,h2⟩:=hx;have h3:x<all.length:=by simpa using AAZ.1 h1
    simp only[yE]at h2;have:=List.countP_pos_iff (p:=λj=> !listed.getD j IN) (l:=zP all.length) |>.2 ⟨x,AAZ.2 h3,h2.1⟩;omega
  exact⟨hr,(done listed φ C a w hs hr I).2⟩
 |succ fuel ih=>
  intro listed φ C a w hs hc hcl I;refine⟨λhr=>(done listed φ C a w hs hr I).2,λi hi=>?_⟩;unfold AAV at hi;rw[zC]at hi;obtain⟨h1,h2⟩:=hi;have h3:i<all.length:=by simpa using AAZ.1 h1
  have ho:all[i]? =BY all[i]:=xc h3;rw[yE,yV,ho]at h2;obtain⟨h4,h5⟩:=h2;simp only[zX,AB3]at h5;rw[zr]at h5;have hl:listed.getD i IT=IT:=by
   rw[<- AGl listed hs i h3];simpa using h4
  have AFJ:∀j,j<all.length->(listed.setIfInBounds i IN).getD j IT=if j=i then IN else listed.getD j IT:=by
   intro j hj;rw[yw,zY,yw];by_cases hji:j=i
   ·subst hji;rw[If rfl,If (by omega),If rfl];rfl
   ·rw[No λh=>hji h.symm,No hji]
  have hpre:∀j,B j i->(j<all.length/\listed.getD j IT=IN):=by
   intro j hb;obtain⟨e,he,hbe,hor⟩:=E.dec i _ j ho hb;have hon:=h5 e (zx.1 he);rw[hbe]at hon;have hon:listed.getD e.on IT=IN:=by simpa using hon
   have hlt:e.on<all.length:=by have:=E.back i _ ho e he hbe;omega
   rcases hor with rfl|hor
   ·exact⟨hlt,hon⟩
   ·exact hcl e.on j ⟨hlt,hon⟩ hor
  refine I.step L tr txt ho (λh=>by rw[hl]at h;cases h.2) hpre hcl (hN _ (List.mem_of_getElem? ho)) λφ' C' a' w' I'=>ih _ φ' C' a' w' (by simp[hs]) ?_ ?_ ?_
  ·have:=Oo (p:=λj=> !(listed.setIfInBounds i IN).getD j IN) (q:=λj=> !listed.getD j IN) (l:=zP all.length) (λj hj hp=>?_) ⟨i,AAZ.2 h3,h4,?_⟩
   ·omega
   ·have hj:=AAZ.1 hj
    rw[AGl _ (by simp[hs]) j hj,AFJ j hj]at hp;rw[AGl _ hs j hj];by_cases hji:j=i
    ·rw[If hji]at hp;cases hp
    ·rw[No hji]at hp;exact hp
   ·rw[AGl _ (by simp[hs]) i h3,AFJ i h3,If rfl];rfl
  ·intro j k hj hb
   have hjk:k<all.length/\listed.getD k IT=IN:=by
    rw[AFJ j hj.1]at hj;by_cases hji:j=i
    ·subst hji;exact hpre k hb
    ·rw[No hji]at hj;exact hcl j k hj hb
   refine⟨hjk.1,?_⟩;rw[AFJ k hjk.1];split
   ·rfl
   ·exact hjk.2
  ·have:(λj=>(j<all.length/\listed.getD j IT=IN)\/j=i)=λj=>j<all.length/\(listed.setIfInBounds i IN).getD j IT=IN:=by
    funext j
    apply propext;constructor
    ·rintro (⟨hj,hlj⟩|rfl)
     ·refine⟨hj,?_⟩
      rw[AFJ j hj];split
      ·rfl
      ·exact hlj
     ·refine⟨h3,?_⟩
      rw[AFJ _ h3,If rfl]
    ·rintro⟨hj,hlj⟩
     rw[AFJ j hj]at hlj;by_cases hji:j=i
     ·exact .inr hji
     ·rw[No hji]at hlj;exact .inl ⟨hj,hlj⟩
   rw[<- this];exact I'
theorem Evo.AGm{φ ψ:Phi}{h h':Hp}{w w1 w':ya}(ev:Evo φ h w1 ψ h' w')(a:w1.heap=w.heap)(d:w1.tape=w.tape)(b:w1.os=w.os)(c:w1.output=w.output):Evo φ h w ψ h' w' where
 le:=ev.le
 new:=ev.new
 next:=ev.next
 size:=by rw[<- a];exact ev.size
 tape:=ev.tape.trans d
 os:=ev.os.trans b
 output:=ev.output.trans c
 frame:=by rw[<- a];exact ev.frame
 back:=by rw[<- a];exact ev.back
 kept:=ev.kept
 low:=ev.low
 high:=ev.high
 shape:=ev.shape
 only:=ev.only
 all:=ev.all
theorem lU(q:P.follows .mixedOrders=IN)(k:AHE all B)(h:Laws ty all ρ H T B)(tr:Tr P ty all ahs all ρ H V run T)(i:∀o∈all,∀d,o.dst=BY d->d<N){Q:AD7->Act->ya->Prop}{a:Act}{w:ya}{id:Nat}
  (g:AEp ty φ0 nil (H 0) w)(f:AR N φ0 (ρ 0) a)(r:∀ψ a' w',AEp ty ψ nil (H all.length) w'->AR N ψ (ρ all.length) a'->Evo φ0 (H 0) w ψ (H all.length) w'->Q .normal a' w'):
  (ADH id all.toArray IN).wp P Q a w:=by
 have c:Txt P ty N φ0 ρ H V T all.length:=by
  have b:=Qx (Q:=λ_ _ _=>Txt P ty N φ0 ρ H V T all.length) all tr i g f λc _ _ _ _ _ _=>c
  obtain⟨_,_,_,b,_⟩:=wp_region_list (id:=0) (ops:=all.toArray) (by simpa using b) (default:Frame) [] [];exact b
 refine wp_region_any q ?_;have l:AEp ty φ0 nil (H 0) {w with drawn:=w.drawn+1}:=g.of_heap rfl;have s:all.toArray.size=all.length:=by simp
 rw[s];refine mg (w0:={w with drawn:=w.drawn+1}) k h tr c i (λψ a' w' m n p=>r ψ a' w' m n (p.AGm rfl rfl rfl rfl)) all.length _ φ0 (H 0).bl.get a _ (by simp) (yS List.countP_le_length (by simp)) ?_ ?_
 ·rintro t u ⟨e,j⟩ _
  rw[yw]at j;simp[e]at j
 ·refine Inv.begin tr c h l f λt e b=>?_
  have:=b.2;rw[yw]at this;simp[e]at this
end
theorem TV{b:Type}(x:Nat):∀(k:List Nat->b) (l:List Nat),Xv x k l=k (l++[x])
 |k,[]=>rfl
 |k,a::l=>by
  unfold Xv;rw[TV x (λl=>k (a::l)) l];rfl
def EJ:List Nat->List AAD->List Nat
 |a,[]=>a
 |a,c::b=>EJ (a++[Hh a 0 c.after.toList]) b
theorem V4{b:Type}(k:List Nat->b):∀(l:List AAD) (a:List Nat),f0 k l a=k (EJ a l)
 |[],a=>rfl
 |o::l,a=>by
  unfold f0;rw[Ao,TV,V4 k l];rfl
theorem Mo:∀(l:List AAD) (a:List Nat) (j:Nat),j<a.length->(EJ a l)[j]? =a[j]?
 |[],a,j,_=>rfl
 |o::l,a,j,b=>by
  unfold EJ;rw[Mo l _ j (by simp;omega),yL b]
theorem YQ(l:List AAD):∀(a:List Nat) (j:Nat) (o:AAD),l[j]? =BY o->(EJ a l)[a.length+j]? =BY (Hh ((EJ a l).take (a.length+j)) 0 o.after.toList):=by
 induction l with
 |nil=>intro a j o c;cases c
 |cons b l m=>
  intro a j o c;have k:EJ a (b::l)=EJ (a++[Hh a 0 b.after.toList]) l:=by rw[EJ]
  rw[k];cases j with
  |zero=>
   have h:b=o:=by simpa using c
   subst h;rw[Nat.add_zero];have f:=λe d=>Mo l (a++[Hh a 0 b.after.toList]) e d
   have i:(EJ (a++[Hh a 0 b.after.toList]) l).take a.length=a:=by
    apply ADP;intro e;rw[zy];split
    ·rename_i d
     rw[f e (by rw[xY];omega),yL d]
    ·rename_i d
     rw[zR (by omega)]
   rw[i,f a.length (by rw[xY,yd];omega),yR (xW _),Nat.sub_self];rfl
  |succ j=>
   have:=m (a++[Hh a 0 b.after.toList]) j o (by simpa using c);rw[xY,yd]at this;have g:a.length+(j+1)=a.length+1+j:=by omega
   rw[g];exact this
theorem Mn:∀(l:List AAD) (a:List Nat),(EJ a l).length=a.length+l.length
 |[],a=>rfl
 |o::l,a=>by
  unfold EJ;rw[Mn l];simp;omega
theorem QS{bs:List Nat}{i j:Nat}:isB bs i j=IN↔∃b,bs[j]? =BY b/\b.testBit i=IN:=by
 unfold isB;rw[Gf];cases bs[j]? with
 |none=>simp
 |some b=>
  simp only[Option.some.injEq,exists_eq_left'];rw[A0];unfold Nat.testBit;have a:Nat.shiftRight b i=b >>> i:=rfl;have c:ABH (b >>> i) 2=(b >>> i) % 2:=rfl;rw[a,c];simp[Nat.and_one_is_mod,bne_iff_ne]
theorem K4(a:List Nat)(i:Nat):∀(es:List Edge) (m:Nat),(Hh a m es).testBit i=IN↔m.testBit i=IN\/∃e∈es,AA8 .any e=IN/\(i=e.on\/((a[e.on]?).getD 0).testBit i=IN)
 |[],m=>by unfold Hh;simp
 |e::es,m=>by
  unfold Hh;split
  ·rename_i b
   rw[K4 a i es];have f:∀c d:Nat,Nat.lor c d=c ||| d:=λ_ _=>rfl
   have g:Nat.shiftLeft 1 e.on=1 <<< e.on:=rfl;rw[f,f,g,Gf,AD1,AD1,Nat.one_shiftLeft,Nat.testBit_two_pow];simp only[ACM,decide_eq_true_eq,yC,exists_eq_or_imp,b,true_and];constructor
   ·rintro ((h|h|h)|h)
    ·exact .inl h
    ·exact .inr (.inl (.inl h.symm))
    ·exact .inr (.inl (.inr h))
    ·exact .inr (.inr h)
   ·rintro (h|(h|h)|h)
    ·exact .inl (.inl h)
    ·exact .inl (.inr (.inl h.symm))
    ·exact .inl (.inr (.inr h))
    ·exact .inr h
  ·rename_i b
   rw[K4 a i es];simp only[yC,exists_eq_or_imp,b,ye,false_and,false_or]
theorem GQ{ops:List AAD}{o:AAD}{i:Nat}:(o,i)∈ops.zipIdx↔ops[i]? =BY o:=List.mem_zipIdx_iff_getElem?
theorem Ng{d:Nat}:∀{l:List Nat},memN d l=IN↔d∈l
 |[]=>by simp[memN]
 |x::l=>by
  unfold memN;split
  ·rename_i a
   have:=A0.1 a;simp[this]
  ·rename_i a
   have:=Fh a;rw[Ng,yC];constructor
   ·exact .inr
   ·rintro (h|h)
    ·exact absurd h.symm this
    ·exact h
section
variable {ty:TTy}{all:List AAD}{bs:List Nat}
theorem RS(p:bs=EJ [] all)(f:IY all=IN):AHE all (λi j=>isB bs i j=IN):=by
 have back:∀i c,all[i]? =BY c->∀a∈c.after.toList,AA8 .any a=IN->a.on<i:=by
  intro i c e a d n;unfold IY at f;rw[AAW]at f;have:=f (c,i) (GQ.2 e);simp only[AAW]at this;have:=this a d;rw[n]at this;exact BV.1 (by simpa using this)
 refine⟨λi c j e m=>?_,back⟩;obtain⟨s,h,o⟩:=QS.1 m;have:=YQ all [] i c e;rw[<- p]at this;simp only[yU,xZ]at this;rw[this]at h;cases h;rcases (K4 _ j _ _).1 o with b|⟨a,d,k,r⟩
 ·simp at b
 ·refine⟨a,d,k,r.imp id λb=>?_⟩
  have q:=back i c e a d k;rw[zy,If q]at b;cases g:bs[a.on]? with
  |none=>rw[g]at b;simp at b
  |some l=>rw[g]at b;exact QS.2 ⟨l,g,b⟩
theorem sR(d:bs=EJ [] all)(l:IY all=IN):∀j i,isB bs i j=IN->i<j:=by
 have a:=RS d l;intro j
 induction j using ABa with
 |_ j o=>
  intro i c;have e:j<all.length:=by
   obtain⟨p,g,_⟩:=QS.1 c;have:=(yN.1 g).1;rw[d,Mn]at this
   simpa using this
  obtain⟨b,m,k,n⟩:=a.dec j _ i (xc e) c;have f:=a.back j _ (xc e) b m k;rcases n with rfl|h
  ·exact f
  ·have:=o b.on f i h;omega
theorem XN{i j:Nat}(h:isB bs (CD i j) (i+j - CD i j)=IN):isB bs i j=IN\/isB bs j i=IN:=by
 rw[BU]at h;rcases Nat.le_total i j with a|a
 ·rw[AAb a,show i+j - i=j by omega]at h;exact .inl h
 ·rw[Nat.min_eq_right a,show i+j - j=i by omega]at h;exact .inr h
theorem XM{i j:Nat}(a:isB bs i j≠IN)(h2:isB bs j i≠IN):isB bs (CD i j) (i+j - CD i j)=IT:=by
 cases h:isB bs (CD i j) (i+j - CD i j)with
 |false=>rfl
 |true=>
  rcases XN h with h|h
  ·exact absurd h a
  ·exact absurd h h2
theorem eS(c:KU all bs=IN){i j:Nat}{f b:AAD}{d:Nat}(o:i≠j)(hi:all[i]? =BY f)(p:all[j]? =BY b)(n:f.dst=BY d)
  (q:b.dst=BY d\/.tmp d∈b.op.operands.toList\/∃g w e,b.guard=BY (g,w)/\all[g]? =BY e/\e.dst=BY d):isB bs i j=IN\/isB bs j i=IN:=by
 unfold KU at c;rw[AAW]at c;have k:=c (f,i) (GQ.2 hi);simp only[n,AAW]at k;have a:=k (b,j) (GQ.2 p);simp only[ACM,ABT]at a;rcases a with (a|a)|a
 ·exact absurd (A0.1 a) o
 ·exact XN a
 ·exfalso
  have:memN d (b.dst.toList++Qw all b)=IN:=by
   rw[Ng,yO];rcases q with h|h|⟨g,w,e,h,l,m⟩
   ·left;rw[h];simp
   ·right
    unfold Qw;rw[yO];left;rw[List.mem_filterMap];exact⟨_,h,rfl⟩
   ·right
    unfold Qw;rw[yO];right;rw[h];simp only[Gf,l,m];simp
  rw[this]at a;cases a
structure AH3 (ty:TTy)(all:List AAD)(xs:List yW)(i j:Nat)(oi oj:AAD):Prop where
 ww:∀x y,kd ty oi.op=.w x->kd ty oj.op≠.w y
 wq:∀x,kd ty oi.op=.w x->kd ty oj.op≠.q
 qw:∀y,kd ty oi.op=.q->kd ty oj.op≠.w y
 wr:∀x y,kd ty oi.op=.w x->kd ty oj.op=.r y->x∈xs/\∃t,x=.tmp t/\∀k o,i<=k->k<j->all[k]? =BY o->o.dst≠BY t
 rw':∀x y,kd ty oi.op=.r x->kd ty oj.op=.w y->x∈xs/\∃t,x=.tmp t/\∀k o,i<=k->k<j->all[k]? =BY o->o.dst≠BY t
theorem Gu{j i:Nat}{x:yW}{rest:Option (List yW)}{xs:List yW}(h:SB all j x i rest=BY xs):
  ∃ys,rest=BY ys/\xs=x::ys/\∃t,x=.tmp t/\∀k o,i<=k->k<j->all[k]? =BY o->o.dst≠BY t:=by
 unfold SB at h;split at h
 ·rename_i t
  split at h
  ·cases h
  ·rename_i a
   split at h
   ·rename_i ys
    cases h;refine⟨ys,rfl,rfl,t,rfl,λk o d e g f=>?_⟩;rw[List.any_eq_false]at a;refine a (o,k) (GQ.2 g) ?_;have b:yI i k=IN:=As.2 d;have c:yp k j=IN:=BV.2 e;simp only[b,c,AAl];rw[Ng,f];simp
   ·cases h
 ·cases h
theorem KF{j:Nat}:∀{l:List (AAD×Nat)} {ys:List yW},AGK ty all bs j l=BY ys->∀c i x,(c,i)∈l->i≠j->isB bs (CD i j) (i+j - CD i j)=IT->kd ty c.op=.r x->i<j/\x∈ys/\∃t,x=.tmp t/\∀k o,i<=k->k<j->all[k]? =BY o->o.dst≠BY t
 |[],ys,_,c,i,x,b,_,_,_=>by cases b
 |(o,k)::l,ys,a,c,i,x,b,e,d,f=>by
  unfold AGK at a;rcases yC.1 b with p|b
  ·obtain⟨h,m⟩:=Prod.mk.inj p
   subst h;subst m;have g:yA i j=IT:=by
    cases g:yA i j with
    |false=>rfl
    |true=>exact absurd (A0.1 g) e
   rw[g,d]at a;simp only[yg,AAl,f]at a;split at a
   ·rename_i q
    obtain⟨z,_,rfl,t,r,s⟩:=Gu a;exact⟨BV.1 q,xp,t,r,s⟩
   ·cases a
  ·split at a
   ·exact KF a c i x b e d f
   ·split at a
    ·split at a
     ·obtain⟨z,n,rfl,_⟩:=Gu a
      obtain⟨u,w,y⟩:=KF n c i x b e d f;exact⟨u,xn _ w,y⟩
     ·cases a
    ·exact KF a c i x b e d f
theorem FD{j:Nat}{p:AAD}:∀{l:List (AAD×Nat)} {xs:List yW},apart ty all bs j p l=BY xs->∀f i,(f,i)∈l->i<j->isB bs i j=IT->AH3 ty all xs i j f p
 |[],xs,_,f,i,h,_,_=>by cases h
 |(H,G)::l,xs,b,f,i,h,n,m=>by
  unfold apart at b;have mono:∀{o:List yW} {c:yW},AH3 ty all o i j f p->AH3 ty all (c::o) i j f p:=λb=>
   {b with wr:=λq r a e=>(b.wr q r a e).imp (xn _) id,rw':=λq r a e=>(b.rw' q r a e).imp (xn _) id}
  rcases yC.1 h with A|h
  ·obtain⟨x,y⟩:=Prod.mk.inj A
   subst x;subst y;have z:(yp i j && !isB bs i j)=IN:=by rw[m,BV.2 n];rfl
   rw[z]at b;simp only at b;unfold bp at b;split at b
   ·rename_i g
    exact⟨(λc d a=>by rw[g]at a;cases a),(λc a=>by rw[g]at a;cases a),(λd a=>by rw[g]at a;cases a),(λc d a=>by rw[g]at a;cases a),(λc d a=>by rw[g]at a;cases a)⟩
   ·rename_i g _
    exact⟨(λc d _ a=>by rw[g]at a;cases a),(λc _ a=>by rw[g]at a;cases a),(λd _ a=>by rw[g]at a;cases a),(λc d _ a=>by rw[g]at a;cases a),(λc d _ a=>by rw[g]at a;cases a)⟩
   ·cases b
   ·cases b
   ·cases b
   ·rename_i k s
    obtain⟨o,_,rfl,w,t,u⟩:=Gu b;exact⟨(λc d _ a=>by rw[s]at a;cases a),(λc _ a=>by rw[s]at a;cases a),(λd a=>by rw[k]at a;cases a),(λc d a _=>by rw[k]at a;cases a;exact⟨xp,w,t,u⟩),(λc d a=>by rw[k]at a;cases a)⟩
   ·rename_i k s
    obtain⟨o,_,rfl,w,t,u⟩:=Gu b;exact⟨(λc d a=>by rw[k]at a;cases a),(λc a=>by rw[k]at a;cases a),(λd a=>by rw[k]at a;cases a),(λc d a=>by rw[k]at a;cases a),(λc d a _=>by rw[k]at a;cases a;exact⟨xp,w,t,u⟩)⟩
   ·rename_i I J B C D E F
    exact⟨λc d a e=>B c d a e,λc a e=>C c a e,λd a e=>D d a e,λc d a e=>(E c d a e).elim,λc d a e=>(F c d a e).elim⟩
  ·split at b
   ·exact FD b f i h n m
   ·unfold bp at b
    split at b
    ·exact FD b f i h n m
    ·exact FD b f i h n m
    ·cases b
    ·cases b
    ·cases b
    ·obtain⟨o,a,rfl,_⟩:=Gu b
     exact mono (FD a f i h n m)
    ·obtain⟨o,a,rfl,_⟩:=Gu b
     exact mono (FD a f i h n m)
    ·exact FD b f i h n m
theorem J2{j i:Nat}{o:AAD}{ask:Nat->Kd->Bool}(e:all[i]? =BY o)(d:i≠j)(b:isB bs i j≠IN)(h2:isB bs j i≠IN)(c:ask i (kd ty o.op)=IN):loose ty all bs j ask=IN:=by
 unfold loose;rw[List.any_eq_true];refine⟨(o,i),GQ.2 e,?_⟩;have a:yA i j=IT:=by
  cases a:yA i j with
  |false=>rfl
  |true=>exact absurd (A0.1 a) d
 simp only[a,yg,AAl,XM b h2,c]
inductive AGB (ty:TTy)(all:List AAD)(bs:List Nat)(j:Nat)(o:AAD)(xs:List yW):AFI->Prop
 |AEv (hk:kd ty o.op=.q) (hs:AFR ty all bs j=IN):AGB ty all bs j o xs (.quiet .AEv)
 |weak (hk:kd ty o.op=.q) (hs:AFR ty all bs j=IT):AGB ty all bs j o xs (.quiet .weak)
 |apart {ys:List yW} (hk:kd ty o.op=.q) (hs:AFR ty all bs j=IT) (hq:AGK ty all bs j all.zipIdx=BY ys):AGB ty all bs j o xs (.apart ys)
 |free (hk:kd ty o.op=.q) (hs:AFR ty all bs j=IT) (hl:AGQ ty all bs j=IT):AGB ty all bs j o xs (.quiet .free)
 |alloc (hk:kd ty o.op=.a):AGB ty all bs j o xs (.quiet .AEv)
 |read {x:yW} (hk:kd ty o.op=.r x):AGB ty all bs j o xs (AGf (loose ty all bs j λi k=>isQ k && !(AFR ty all bs i)) x xs)
 |write {x:yW} (hk:kd ty o.op=.w x):AGB ty all bs j o xs (.wr x xs)
 |AGH {x:yW} (hk:kd ty o.op=.w x) (hl:(loose ty all bs j λ_ k=>isR k)=IT):AGB ty all bs j o xs (.quiet .free)
 |plain (hk:kd ty o.op=.p):AGB ty all bs j o xs .plain
theorem Tn{j:Nat}{o:AAD}{f:AFI}(h:MC ty all bs j o=BY f):∃xs,apart ty all bs j o all.zipIdx=BY xs/\AGB ty all bs j o xs f:=by
 unfold MC at h;split at h
 ·cases h
 ·rename_i xs i
  refine⟨xs,i,?_⟩;split at h
  ·rename_i b
   split at h
   ·rename_i c;cases h;exact .AEv b c
   ·rename_i c _
    split at h
    ·split at h
     ·rename_i g;cases h;exact .apart b c g
     ·cases h;exact .weak b c
    ·cases h;exact .weak b c
   ·rename_i c d;cases h;exact .free b c d
  ·rename_i b;cases h;exact .alloc b
  ·rename_i b;cases h;exact .read b
  ·rename_i b
   split at h
   ·cases h;exact .write b
   ·rename_i d;cases h;exact .AGH b d
  ·rename_i k l m n
   cases h;refine .plain ?_;cases b:kd ty o.op with
   |p=>rfl
   |a=>exact absurd b l
   |r e=>exact absurd b (m e)
   |w e=>exact absurd b (n e)
   |q=>exact absurd b k
theorem Of:∀{l:List AAD} {j:Nat} {b:List AFI},Pu ty all bs j l=BY b->∀k o,l[k]? =BY o->MC ty all bs (j+k) o=BY (b.getD k .plain)
 |[],j,b,a,k,o,c=>by cases c
 |h::l,j,b,a,k,o,c=>by
  unfold Pu at a;split at a
  ·rename_i g e
   split at a
   ·rename_i i f
    cases a;cases k with
    |zero=>cases c;exact e
    |succ k=>
     have:=Of f k o c;have d:j+(k+1)=j.succ+k:=by omega
     rw[d];exact this
   ·cases a
  ·cases a
theorem Mx{old:Bool}{x:yW}{xs:List yW}:(AGf old x xs=.plain/\old=IT/\xs=[])\/AGf old x xs=.chk old x xs:=by
 unfold AGf;cases old<;>cases xs<;>first|exact .inl ⟨rfl,rfl,rfl⟩|exact .inr rfl
theorem AGB.ok{j:Nat}{o:AAD}{xs:List yW}{b:AFI}(h:AGB ty all bs j o xs b):AHD ty o b:=by
 cases h with
 |AEv a _=>exact⟨(λ_ _ h=>by rw[a]at h;rcases h with h|⟨_,h⟩<;>cases h),(λ_ _ h=>by cases h),(λ_ _ _ h=>by cases h),(λ_ h=>by cases h)⟩
 |weak a _=>exact⟨(λ_ _ h=>by rw[a]at h;rcases h with h|⟨_,h⟩<;>cases h),(λ_ _ h=>by cases h),(λ_ _ _ h=>by cases h),(λ_ h=>by cases h)⟩
 |apart a _ _=>exact⟨(λ_ h=>by cases h),(λ_ _ h=>by cases h),(λ_ _ _ h=>by cases h),(λ_ _ h=>by rw[a]at h;rcases h with h|⟨_,h⟩<;>cases h)⟩
 |free a _ _=>exact⟨(λ_ _ h=>by rw[a]at h;rcases h with h|⟨_,h⟩<;>cases h),(λ_ _ h=>by cases h),(λ_ _ _ h=>by cases h),(λ_ h=>by cases h)⟩
 |alloc a=>exact⟨(λ_ _ h=>by rw[a]at h;rcases h with h|⟨_,h⟩<;>cases h),(λ_ _ h=>by cases h),(λ_ _ _ h=>by cases h),(λ_ h=>by cases h)⟩
 |read a=>
  rcases Mx (old:=loose ty all bs j λc d=>isQ d && !(AFR ty all bs c)) (xs:=xs)with ⟨h,_⟩|h
  ·rw[h];exact .plain ty o
  ·rw[h];exact⟨(λ_ h=>by cases h),(λ_ _ h=>by cases h),(λ_ _ _ h=>by cases h;exact a),(λ_ h=>by cases h)⟩
 |write a=>exact⟨(λ_ h=>by cases h),(λ_ _ h=>by cases h;exact a),(λ_ _ _ h=>by cases h),(λ_ h=>by cases h)⟩
 |AGH a _=>exact⟨(λ_ _ h=>by rw[a]at h;rcases h with h|⟨_,h⟩<;>cases h),(λ_ _ h=>by cases h),(λ_ _ _ h=>by cases h),(λ_ h=>by cases h)⟩
 |plain a=>exact .plain ty o
theorem AGB.AHC{j:Nat}{o:AAD}{xs:List yW}{b:AFI}(h:AGB ty all bs j o xs b):AJI ty o b:=by
 cases h with
 |read a=>exact .inl (.inr ⟨_,a⟩)
 |plain a=>exact .inl (.inl a)
 |_=>exact .inr ⟨(λh=>by cases h),(λ_ _ _ h=>by cases h)⟩
end
section
variable {P:yx}{ty:TTy}{all:List AAD}{ρ:Nat->Rho}{H:Nat->Hp}{V:Nat->xU}{T:Nat->Nat->Prop}{run:Nat->Bool}{ahs:List AFI}{bs:List Nat}
theorem Ly(e:∀j o,all[j]? =BY o->∃xs,apart ty all bs j o all.zipIdx=BY xs/\AGB ty all bs j o xs (ahs.getD j .plain))(tr:Tr P ty all ahs all ρ H V run T){j:Nat}(h:j<all.length):
  (H (j+1)).low<=(H j).low/\(H j).high<=(H (j+1)).high/\(∀c,T j c->(H (j+1)).low<=c/\c<=(H (j+1)).high)/\(H (j+1)).mark=(H j).mark:=by
 have a:all[j]? =BY all[j]:=xc h;obtain⟨xs,_,d⟩:=e j _ a;rcases (tr.sf j _ a).core with ⟨_,core⟩|⟨_,_,g,b⟩
 ·exact core.AHC d.AHC
 ·rw[g];exact⟨xW _,xW _,λc f=>absurd f (b c),rfl⟩
theorem Ef(l:∀j o,all[j]? =BY o->∃xs,apart ty all bs j o all.zipIdx=BY xs/\AGB ty all bs j o xs (ahs.getD j .plain))(tr:Tr P ty all ahs all ρ H V run T){i:Nat}:
  ∀{k:Nat},i<=k->k<=all.length->(H k).low<=(H i).low/\(H i).high<=(H k).high/\(H k).mark=(H i).mark:=by
 intro k h n
 induction k with
 |zero=>have:i=0:=ABd.1 h;subst this;exact⟨xW _,xW _,rfl⟩
 |succ k m=>
  rcases yM k i with a|a
  ·have:i=k+1:=by omega
   subst this;exact⟨xW _,xW _,rfl⟩
  ·obtain⟨b,c,d⟩:=m a (by omega)
   obtain⟨e,f,_,g⟩:=Ly l tr (j:=k) (by omega);exact⟨yS e b,yS c f,g.trans d⟩
theorem NF(tr:Tr P ty all ahs all ρ H V run T){t:Nat}{u:xU}{i k:Nat}(h:i<=k)(hk:k<=all.length)(a:∀m o,i<=m->m<k->all[m]? =BY o->o.dst≠BY t)(b:evR (ρ k) (.tmp t)=BY u):evR (ρ i) (.tmp t)=BY u:=
 tr.backward h hk a b
theorem jL(b2:bs=EJ [] all)(he:IY all=IN)(hs:KU all bs=IN)
  (s:∀j o,all[j]? =BY o->∃xs,apart ty all bs j o all.zipIdx=BY xs/\AGB ty all bs j o xs (ahs.getD j .plain))(tr:Tr P ty all ahs all ρ H V run T):
  Laws ty all ρ H T (λi j=>isB bs i j=IN):=by
 have len:∀{i:Nat} {o:AAD},all[i]? =BY o->i<all.length:=λh=>(yN.1 h).1
 have W:∀j k c,all[j]? =BY k->T j c->Core P ty k (ahs.getD j .plain) (ρ j) (H j) (H (j+1)) (V j) (T j):=by
  intro j k c e f;rcases (tr.sf j k e).core with ⟨_,core⟩|⟨_,_,_,hT⟩
  ·exact core
  ·exact absurd f (hT c)
 have kinds:∀j k c,all[j]? =BY k->T j c->(∃x,kd ty k.op=.w x)\/(kd ty k.op=.q/\AFR ty all bs j=IT):=by
  intro j k c e f;have core:=W j k c e f;obtain⟨xs,_,l⟩:=s j k e;generalize ahs.getD j .plain=D at l core;cases l with
  |AEv a _=>exact absurd f (core.AEv rfl c)
  |weak a h=>exact .inr ⟨a,h⟩
  |apart a h _=>exact .inr ⟨a,h⟩
  |free a h _=>exact .inr ⟨a,h⟩
  |alloc a=>exact absurd f (core.AEv rfl c)
  |read a=>exact absurd f ((core.tp (.inr ⟨_,a⟩)).1 c)
  |write a=>exact .inl ⟨_,a⟩
  |AGH a _=>exact .inl ⟨_,a⟩
  |plain a=>exact absurd f ((core.tp (.inl a)).1 c)
 have J:∀{i j n k},all[i]? =BY n->all[j]? =BY k->i<j->¬isB bs i j=IN->∃xs,AGB ty all bs j k xs (ahs.getD j .plain)/\AH3 ty all xs i j n k:=by
  intro i j n k g e m hB;obtain⟨xs,E,l⟩:=s j k e;exact⟨xs,l,FD E n i (GQ.2 g) m (by cases h:isB bs i j<;>first|rfl|exact absurd h hB)⟩
 refine {lt:=λi j h=>sR b2 he j i h,slots:=λi j n k b7 m g e hd hn=>eS hs m g e hd hn,kinds:=λj k c e f=>(kinds j k c e f).imp id (·.1),fixed:=?_,reads:=?_,tlt:=?_,AH2:=?_,low:=?_,high:=?_}
 ·
  intro i j n c m g t f b;have e:all[j]? =BY all[j]:=xc t;by_cases p:isB bs i j=IN
  ·exact .inl p
  by_cases q:isB bs j i=IN
  ·exact .inr q
  exfalso
  have b1:∀{i j:Nat} {n:AAD},all[i]? =BY n->i≠j->¬isB bs i j=IN->¬isB bs j i=IN->kd ty n.op=.q->AFR ty all bs j=IN:=λg m p q a=>by
   unfold AFR;exact J2 g m p q (by rw[a];rfl)
  rcases kinds j _ c e f with ⟨u,d⟩|⟨d,L⟩
  ·rcases AB1 m with h|h
   ·obtain⟨xs,_,r⟩:=J g e h p
    rcases b with ⟨x,b⟩|b
    ·exact r.ww x u b d
    ·exact r.qw u b d
   ·obtain⟨xs,_,r⟩:=J e g h q
    rcases b with ⟨x,b⟩|b
    ·exact r.ww u x d b
    ·exact r.wq u d b
  ·rcases b with ⟨x,b⟩|b
   ·rcases AB1 m with h|h
    ·obtain⟨xs,_,r⟩:=J g e h p
     exact r.wq x b d
    ·obtain⟨xs,_,r⟩:=J e g h q
     exact r.qw x d b
   ·rw[b1 g m p q b]at L;cases L
 ·
  intro i j n x c a0 m g t f b S Q;have e:all[j]? =BY all[j]:=xc t;by_cases p:isB bs i j=IN
  ·exact .inl p
  by_cases q:isB bs j i=IN
  ·exact .inr q
  exfalso
  have core:=W j _ c e f;have a6:=len g;have Z:=(tr.sf i n g).side (by rw[b];intro h;cases h);rcases kinds j _ c e f with ⟨u,d⟩|⟨d,L⟩
  ·
   have a9:∃xs,ahs.getD j .plain=.wr u xs/\apart ty all bs j all[j] all.zipIdx=BY xs:=by
    obtain⟨xs,E,l⟩:=s j _ e;generalize ahs.getD j .plain=D at l;cases l with
    |write a=>rw[d]at a;cases a;exact⟨xs,rfl,E⟩
    |AGH a K=>
     have:=J2 (ty:=ty) (ask:=λ_ C=>isR C) g m p q (by simp only[b];rfl);rw[K]at this;cases this
    |AEv a _=>rw[d]at a;cases a
    |weak a _=>rw[d]at a;cases a
    |apart a _ _=>rw[d]at a;cases a
    |free a _ _=>rw[d]at a;cases a
    |alloc a=>rw[d]at a;cases a
    |read a=>rw[d]at a;cases a
    |plain a=>rw[d]at a;cases a
   obtain⟨a4,B,b6⟩:=a9;obtain⟨u',a7,a5⟩:=core.wr u a4 B c f;have U:=(tr.sf j _ e).side (by rw[d];intro h;cases h);rcases AB1 m with h|h
   ·
    have r:=FD b6 n i (GQ.2 g) h (by cases h:isB bs i j<;>first|rfl|exact absurd h p);obtain⟨w,a8,rfl,M⟩:=r.rw' x u b d;obtain⟨_,Y⟩:=U.known u a4 (.inl B);obtain⟨u2,A⟩:=Y _ w;have y:=NF tr (zO h) (zO t) (λN o F G I=>M N o F G I) A;rw[S]at y;cases y;exact U.wrx u a4 B _ w u' a0 c a7 A a5 Q
   ·
    obtain⟨xs,l,r⟩:=J e g h q;obtain⟨w,a8,rfl,M⟩:=r.wr u x d b;have b0:∃old,ahs.getD i .plain=.chk old x xs:=by
     generalize ahs.getD i .plain=D at l;cases l with
     |read a=>
      rw[b]at a;cases a;rcases Mx (x:=x) (old:=loose ty all bs i λi C=>isQ C && !(AFR ty all bs i)) (xs:=xs)with ⟨_,_,h⟩|h
      ·subst h;cases w
      ·exact⟨_,h⟩
     |AEv a _=>rw[b]at a;cases a
     |weak a _=>rw[b]at a;cases a
     |apart a _ _=>rw[b]at a;cases a
     |free a _ _=>rw[b]at a;cases a
     |alloc a=>rw[b]at a;cases a
     |write a=>rw[b]at a;cases a
     |AGH a _=>rw[b]at a;cases a
     |plain a=>rw[b]at a;cases a
    obtain⟨old,R⟩:=b0;obtain⟨_,Y⟩:=Z.known x xs (.inr ⟨old,R⟩);obtain⟨u2,A⟩:=Y _ w;have y:=NF tr (zO h) (zO a6) (λN o F G I=>M N o F G I) A;rw[a7]at y;cases y;exact Z.chk old x xs R _ w a0 u' c S A Q a5
  ·
   by_cases X:∃O,ahs.getD j .plain=.apart O
   ·obtain⟨O,B⟩:=X
    obtain⟨xs,E,l⟩:=s j _ e;generalize hg:ahs.getD j .plain=D at l;have z:D=.apart O:=hg.symm.trans B;cases l with
    |read a=>rw[d]at a;cases a
    |AEv _ _=>cases z
    |weak _ _=>cases z
    |free _ _ _=>cases z
    |alloc _=>cases z
    |write _=>cases z
    |AGH _ _=>cases z
    |plain _=>cases z
    |apart a _ hq=>
     cases z;obtain⟨b3,w,a8,rfl,M⟩:=KF hq n i x (GQ.2 g) m (XM p q) b;have U:=(tr.sf j _ e).side (by rw[d];intro h;cases h);obtain⟨u2,A⟩:=U.AGG O B _ w;have y:=NF tr (zO b3) (zO t) (λN o F G I=>M N o F G I) A;rw[S]at y;cases y;exact core.apart O B c f _ w _ A Q
   have b5:∀c,T j c->(H j).mark<=c:=by
    obtain⟨xs,E,l⟩:=s j _ e;generalize ahs.getD j .plain=D at l core X;cases l with
    |weak a _=>exact core.weak rfl
    |apart _ _ _=>exact absurd ⟨_,rfl⟩ X
    |free a _ K=>
     have:AGQ ty all bs j=IN:=by
      unfold AGQ;exact J2 (ty:=ty) (ask:=λ_ C=> !isP C) g m p q (by simp only[b];rfl)
     rw[K]at this;cases this
    |AEv a h=>rw[L]at h;cases h
    |alloc a=>rw[d]at a;cases a
    |read a=>rw[d]at a;cases a
    |write a=>rw[d]at a;cases a
    |AGH a _=>rw[d]at a;cases a
    |plain a=>rw[d]at a;cases a
   have b4:∃xs,ahs.getD i .plain=.chk IN x xs:=by
    obtain⟨xs,E,l⟩:=s i n g;generalize ahs.getD i .plain=D at l;cases l with
    |read a=>
     rw[b]at a;cases a;have K:(loose ty all bs i λi C=>isQ C && !(AFR ty all bs i))=IN:=
      J2 e (λh=>m h.symm) q p (by rw[d,L];rfl)
     rw[K];rcases Mx (x:=x) (old:=IN) (xs:=xs)with ⟨_,h,_⟩|h
     ·cases h
     ·exact⟨xs,h⟩
    |AEv a _=>rw[b]at a;cases a
    |weak a _=>rw[b]at a;cases a
    |apart a _ _=>rw[b]at a;cases a
    |free a _ _=>rw[b]at a;cases a
    |alloc a=>rw[b]at a;cases a
    |write a=>rw[b]at a;cases a
    |AGH a _=>rw[b]at a;cases a
    |plain a=>rw[b]at a;cases a
   obtain⟨xs,R⟩:=b4;have h3:=Z.old x xs R a0 c S Q;have h4:=b5 c f;have m1:=(Ef s tr (yH i) (zO a6)).2.2;have m2:=(Ef s tr (yH j) (zO t)).2.2;omega
 ·intro j c t f
  exact(W j _ c (xc t) f).tlt c f
 ·intro j c t f
  obtain⟨_,_,h3,_⟩:=Ly s tr t;obtain⟨h4,h5⟩:=h3 c f;obtain⟨h6,h7,_⟩:=Ef s tr (i:=j+1) t (xW _);omega
 ·exact(Ef s tr (yH _) (xW _)).1
 ·exact(Ef s tr (yH _) (xW _)).2.1
theorem bM(h:Wj ty all=BY ahs):∃bs,bs=EJ [] all/\IY all=IN/\KU all bs=IN/\∀j o,all[j]? =BY o->∃xs,apart ty all bs j o all.zipIdx=BY xs/\AGB ty all bs j o xs (ahs.getD j .plain):=by
 unfold Wj at h;rw[V4]at h;split at h
 ·rename_i a
  simp only[yE]at a;refine⟨_,rfl,a.1,a.2.2,λj o b=>?_⟩;have:=Of h j o b;rw[xZ]at this;exact Tn this
 ·cases h
end
theorem FF{a b:Bool}(h:(bif a then b else IT)=IN):a=IN/\b=IN:=by cases a<;>first|exact⟨rfl,h⟩|cases h
section

end
def Ag(S:List Nat)(e b:Env):Prop:=∀a,a<240->a∉S->b.get a=e.get a
theorem Ag.refl(S:List Nat)(e:Env):Ag S e e:=λ_ _ _=>rfl
theorem Ag.trans{S:List Nat}{e a b:Env}(h:Ag S e a)(h2:Ag S a b):Ag S e b:=λf d c=>(h2 f d c).trans (h f d c)
def He(S:List Nat)(e:Env):X->Prop
 |.no=>True
 |.norm a _=>Ag S e a
 |.exit _ a _=>Ag S e a
 |.ret a _=>Ag S e a
theorem He.of{S:List Nat}{e a:Env}{x:X}(h:Ag S e a)(h2:He S a x):He S e x:=by
 cases x with
 |no=>trivial
 |norm _ _=>exact h.trans h2
 |exit _ _ _=>exact h.trans h2
 |ret _ _=>exact h.trans h2
def CS(S:List Nat)(c:C):Prop:=∀b a d,He S a (c b a d)
theorem Pt{S:List Nat}{d:Nat}(a:d∈S)(b:d<240)(v:xU)(e:Env):Ag S e (Env.set d v e):=λg f c=>by
 rw[Env.AEy _ _ _ _ b f,No (by rintro rfl;exact c a)]
theorem Q6{S:List Nat}:∀(l:List Nat) (e:Env),(∀d∈l,d∈S/\d<240)->Ag S e (DC e l)
 |[],e,_=>.refl _ _
 |d::l,e,a=>(Pt (a d xp).1 (a d xp).2 _ e).trans (Q6 l _ λd b=>a d (xn _ b))
section
variable {S:List Nat}
theorem Cp:CS S cNo:=λ_ _ _=>trivial
theorem Uo:CS S Ar:=λ_ a _=>.refl _ a
theorem Ym:CS S Ai:=λ_ a _=>.refl _ a
theorem Um(id:Nat):CS S (CC id):=λ_ a _=>.refl _ a
theorem SK{d:Nat}{f:OpF}{k:C}(h:d∈S)(e:d<240)(hk:CS S k):CS S (Tk (FX d) f k):=λb a g=>by
 unfold Tk;cases f b a g with
 |no=>trivial
 |ok v c=>
  show He S a (FX d (λa=>k b a c) v a);rw[EP d e];exact .of (Pt h e v a) (hk b _ c)
theorem cK{f:OpF}{k:C}(hk:CS S k):CS S (cDo f k):=λa b c=>by
 unfold cDo;cases f a b c with
 |no=>trivial
 |ok v d=>exact hk a b d
theorem jI{g:Env->xU}{w:Bool}{d:Nat}{f:OpF}{k:C}(i:d∈S)(e:d<240)(hk:CS S k):CS S (cG g w (FX d) f k):=λb a c=>by
 have h:He S a (FX d (λa=>k b a c) AEl a):=by
  rw[EP d e];exact .of (Pt i e _ a) (hk b _ c)
 unfold cG;split
 ·rename_i j _
  cases (w == j)with
  |true=>exact SK i e hk b a c
  |false=>exact h
 ·exact h
 ·trivial
theorem LJ{w:Env->xU}{d:List (Env->xU)}{k:C}(hk:CS S k):CS S (Ci w d k):=λb a c=>by
 unfold Ci;split
 ·rename_i e _
  cases Ch e a d with
  |true=>exact hk b a c
  |false=>trivial
 ·exact hk b a c
theorem Yl{x:O}{k:C}(hk:CS S k):CS S (Ee x k):=λb c a=>by
 unfold Ee;split
 ·rename_i d _
  cases yp d a.mark with
  |true=>exact hk b c a
  |false=>trivial
 ·exact hk b c a
theorem Un{k:C}(hk:CS S k):CS S (B2 k):=λa b c=>hk a b _
theorem PK{a b:C}(i:CS S a)(j:CS S b):CS S (BB a b):=λc g h=>by
 have:=i c g h;unfold BB;cases f:a c g h with
 |no=>trivial
 |norm d e=>rw[f]at this;exact .of this (j c d e)
 |exit k d e=>rw[f]at this;exact this
 |ret d e=>rw[f]at this;exact this
theorem JN{c:O}{a b:C}(g:CS S a)(h:CS S b):CS S (Iy c a b):=λe d f=>by
 show He S d (mK (c d) (a e d f) (b e d f));cases c d<;>first|trivial|skip
 rename_i i;cases i with
 |true=>exact g e d f
 |false=>exact h e d f
theorem Lo{id:Nat}{a:C}(i:CS S a):CS S (AY id a):=λg d h=>by
 have:=i g d h;unfold AY;cases e:a g d h with
 |no=>trivial
 |norm b c=>rw[e]at this;exact this
 |exit f b c=>
  rw[e]at this;show He S d (bif yA f id then .norm b c else .exit f b c);cases yA f id<;>exact this
 |ret b c=>rw[e]at this;exact this
theorem NW{a:C}(h:CS S a):∀n,CS S (iter a n)
 |0=>λ_ _ _=>trivial
 |n+1=>λb f g=>by
  have:=h b f g;unfold iter;cases e:a b f g with
  |no=>trivial
  |norm c d=>rw[e]at this;exact .of this (NW h n b c d)
  |exit i c d=>rw[e]at this;exact this
  |ret c d=>rw[e]at this;exact this
theorem NX{a:C}(b:CS S a):CS S (A3 a):=NW b rounds
theorem PJ{e:Env}{c:Bool}{x:X}(a:He S e x):He S e (bif c then x else .no):=by
 cases c
 ·trivial
 ·exact a
theorem Up{k:Walk}{a:C}(p:∀d∈k.ws,d∈S/\d<240)(j:k.more∈S/\k.more<240)(s:∀d∈k.rs,d∈S/\d<240)(n:CS S a):CS S (Jh k a):=λg b c=>by
 have f:=NX n g b c;have o:∀i,He S b (GH k a g b c i):=λi=>by
  unfold GH;split
  ·exact(Q6 _ _ p).trans (Pt j.1 j.2 _ _)
  ·trivial
 unfold Jh;cases J k.it b<;>first|trivial|skip
 rename_i q;cases q with
 |none=>trivial
 |some e=>
  simp only;cases Ej (c.bl.get e.block)with
  |ok h u seen t=>
   cases h with
   |none=>exact f
   |some h=>
    cases seen with
    |cons _ _=>trivial
    |nil=>
     simp only;cases Bp c h with
     |no=>trivial
     |ok m r=>
      cases m with
      |nil=>exact f
      |cons w l=>
       cases l with
       |nil=>exact f
       |cons x l=>
        show He S b (bif yA e.off 0 then(bif yI 256 e.block then GH k a g b c e.block else .no)else .no);exact PJ (PJ (o _))
  |_=>exact f
end
theorem bO{o:AAD}{d:Nat}(a:o.dst=BY d):∀(l:List AAD),o∈l->d∈Jp l:=by
 intro l
 induction l with
 |nil=>intro h;cases h
 |cons c l b=>
  intro h;unfold Jp;rcases yC.1 h with h|h
  ·rw[<- h,a];exact xp
  ·have:=b h
   split
   ·exact xn _ this
   ·exact this
theorem Ep:∀{c:ADb} {d:Nat},d∈JX c->d∈wrs c
 |.seq a b,d,h=>by
  have e:d∈JX a++JX b->d∈wrs a++wrs b:=λh=>by
   rcases yO.1 h with h|h
   ·exact yh _ (Ep h)
   ·exact yc _ (Ep h)
  unfold JX at h;split at h
  ·split at h
   ·exact yh _ h
   ·exact yh _ (Ep h)
  ·exact e h
 |.cond _ a b,d,h=>by
  have h:d∈JX a++JX b:=h;rcases yO.1 h with h|h
  ·exact yh _ (Ep h)
  ·exact yc _ (Ep h)
 |.block _ a,d,h=>Ep (c:=a) h
 |.loop a,d,h=>Ep (c:=a) h
 |.scope a,d,h=>Ep (c:=a) h
 |.region _ _ _,d,h=>by cases h
 |.skip,d,h=>by cases h
 |.exit _,d,h=>by cases h
 |.ret,d,h=>by cases h
 |.rangeFunc _ _ _ _,d,h=>by cases h
 |.label _,d,h=>by cases h
 |.goto _,d,h=>by cases h
 |.refuse _,d,h=>by cases h
theorem Wn:∀{l:List Nat},ik l=IN->∀d∈l,d<240
 |d::l,a,c,hx=>by
  unfold ik at a;split at a
  ·rename_i b
   rcases yC.1 hx with rfl|hx
   ·exact BV.1 b
   ·exact Wn a c hx
  ·cases a
structure AF7 (A:List Nat)(a:ADb)(k:Walk)(id:Nat)(o1 o2:AAD)(r2:ADb):Prop where
 code:a=.seq (.region id #[o1,o2] IT) (.seq (.cond (.tmp k.more) .skip (.exit k.out)) r2)
 op1:o1.op=.next (.tmp k.it) IT
 AG0:o1.dst=BY k.nx
 AIS:o1.guard=By
 op2:o2.op=.extract (.tmp k.nx) 0
 AHF:o2.dst=BY k.more
 AIT:o2.guard=By
 ne:k.nx≠k.more
 itA:memN k.it A=IT
 nxA:memN k.nx A=IT
 moA:memN k.more A=IT
 itL:k.it<240
 nxL:k.nx<240
 moL:k.more<240
 ws:k.ws=wrs a
 itW:k.it∉k.ws
 few:∀d∈k.ws,d<240
 rs:∀d∈k.rs,d∈k.ws
theorem Nf{t:Nat}:∀{l:List Nat},memN t l=IT->t∉l
 |d::l,a,b=>by
  unfold memN at a;split at a
  ·cases a
  ·rename_i c
   rcases yC.1 b with rfl|b
   ·rw[zU]at c;cases c
   ·exact Nf a b
theorem kN{more out:Nat}{c:ADb}(h:wJ more c=BY out):∃f,c=.seq (.cond (.tmp more) .skip (.exit out)) f:=by
 cases c with
 |seq d e=>cases d with
  |cond c g i=>cases c with
   |tmp b=>cases g with
    |skip=>cases i with
     |exit id=>
      have h:(match yA b more with|true=>BY id|false=>By)=BY out:=h;cases a:yA b more with
      |false=>rw[a]at h;cases h
      |true=>
       rw[a]at h;cases h;have:=A0.1 a;subst this;exact⟨e,rfl⟩
     |_=>cases h
    |_=>cases h
   |_=>cases h
  |_=>cases h
 |_=>cases h
theorem Tg{A:List Nat}{a:ADb}{k:Walk}(h:YE A a=BY k):∃id b c d,AF7 A a k id b c d:=by
 unfold YE at h;split at h
 case h_2=>cases h
 rename_i w rest;split at h
 case h_2=>cases h
 rename_i id u x;split at h
 case h_2=>cases h
 unfold YD at h;split at h
 case h_2=>cases h
 rename_i b B s;split at h
 case h_2=>cases h
 rename_i c C;split at h
 case h_2=>cases h
 split at h
 case h_2=>cases h
 rename_i w str g;split at h
 case h_2=>cases h
 rename_i z;split at h
 case h_2=>cases h
 split at h
 case h_2=>cases h
 rename_i nx hd1 q;split at h
 case h_2=>cases h
 rename_i F y i;split at h
 case h_2=>cases h
 rename_i D;split at h
 case h_2=>cases h
 rename_i more hd2 r;split at h
 case h_2=>cases h
 rename_i f;split at h
 case h_2=>cases h
 rename_i E t;cases h;simp only[yE,ABT]at f;obtain⟨l,m,n,b4,b5,b6,b7,b8,b9,b10,b11⟩:=f;obtain⟨d,rfl⟩:=kN t;have o:=A0.1 l;have p:=A0.1 m;subst o;subst p;have j:u= #[b,c]:=zT s;subst j;refine⟨id,b,c,d,{code:=rfl,op1:=g,AG0:=hd1,AIS:=q,op2:=i,AHF:=hd2,AIT:=r,ne:=Fh n,itA:=b4,nxA:=b5,moA:=b6,itL:=BV.1 b7,nxL:=BV.1 b8,moL:=BV.1 b9,ws:=?_,itW:=Nf b10,few:=?_,rs:=?_}⟩
 ·show _=Jp [b,c]++_
  simp only[Jp,hd1,hd2];rfl
 ·intro e hd
  rcases yC.1 hd with rfl|hd
  ·exact BV.1 b8
  ·rcases yC.1 hd with rfl|hd
   ·exact BV.1 b9
   ·exact Wn b11 e hd
 ·intro e hd
  exact xn _ (xn _ (Ep hd))
section
variable {ty:TTy}{A S:List Nat}
theorem H5{f:Fr}{a:AFI}{o:OpF}{k:OpF->C}(hk:∀p,CS S (k p)):CS S (HC f a o k):=by
 unfold HC;split
 ·exact hk _
 ·exact hk _
 ·split
  ·exact hk _
  ·exact Cp
 ·split
  ·exact LJ (hk _)
  ·exact Cp
 ·split
  ·split
   ·exact Yl (LJ (hk _))
   ·exact LJ (hk _)
  ·exact Cp
theorem LL{all:List AAD}{k:Sg->C}(hk:∀σ,CS S (k σ)):∀(l:List AAD) (a:List AFI) (σ:Sg),(∀o∈l,∀d,o.dst=BY d->d∈S)->CS S (HS ty A all k a l σ)
 |[],a,σ,_=>by unfold HS;exact hk σ
 |o::l,a,σ,f=>by
  have b:∀a σ,CS S (HS ty A all k a l σ):=λa σ=>LL hk l a σ λo i=>f o (xn _ i)
  have g:=f o xp;unfold HS;split
  ·exact H5 λh=>cK (b _ _)
  ·rename_i d _ e
   split
   ·split
    ·split
     ·exact b _ _
     ·exact Cp
    ·exact Cp
   ·split
    ·rename_i c
     exact H5 λh=>SK (g d e) (BV.1 c) (b _ _)
    ·exact Cp
  ·rename_i d _ e
   split
   ·exact Cp
   ·split
    ·split
     ·split
      ·split
       ·rename_i c
        exact H5 λh=>jI (g d e) (BV.1 c) (b _ _)
       ·exact Cp
      ·exact Cp
     ·exact Cp
    ·exact Cp
  ·exact Cp
theorem HM{k:Option (Sg->C)}(hk:∀k',k=BY k'->∀σ,CS S (k' σ))(σ:Sg):CS S (Lz k σ):=by
 cases k with
 |none=>exact Uo
 |some k=>exact hk k rfl σ
theorem Ck:∀(c:ADb) {σ:Sg} {k:Option (Sg->C)},(∀d∈wrs c,d∈S)->(∀k',k=BY k'->∀σ,CS S (k' σ))->CS S (B3 ty A c σ k)
 |.skip,σ,k,b,a=>HM a σ
 |.region _ r s,σ,k,b,a=>by
  have m:∀o∈r.toList,∀d,o.dst=BY d->d∈S:=λo m d g=>b d (bO g _ m)
  unfold B3;split
  ·exact LL (λσ=>HM a σ) _ _ _ m
  ·split
   ·exact Un (LL (λσ=>HM a σ) _ _ _ m)
   ·exact Cp
 |.seq e i,σ,k,b,a=>by
  have h:∀d∈wrs e,d∈S:=λd g=>b d (yh _ g)
  have j:∀d∈wrs i,d∈S:=λd g=>b d (yc _ g)
  exact Ck e (σ:=σ) (k:=BY λσ=>B3 ty A i σ k) h λk' f σ=>by cases f;exact Ck i j a
 |.cond c e i,σ,k,b,a=>by
  have h:∀d∈wrs e,d∈S:=λd g=>b d (yh _ g)
  have j:∀d∈wrs i,d∈S:=λd g=>b d (yc _ g)
  unfold B3;split
  ·split
   ·exact JN (Ck e h λ_ f=>by cases f) (Ck i j λ_ f=>by cases f)
   ·rename_i k'
    split
    ·exact PK (JN (Ck e h λ_ f=>by cases f) (Ck i j λ_ f=>by cases f)) (a k' rfl [])
    ·exact JN (Ck e h a) (Ck i j a)
  ·exact Cp
 |.block id e,σ,k,b,a=>by
  have h:∀d∈wrs e,d∈S:=b;unfold B3;split
  ·exact Lo (Ck e h λ_ f=>by cases f)
  ·rename_i k'
   exact PK (Lo (Ck e h λ_ f=>by cases f)) (a k' rfl [])
 |.loop e,σ,k,b,a=>by
  have h:∀d∈wrs e,d∈S:=b;have j:CS S (B3 ty A e [] By):=Ck e h λ_ f=>by cases f
  unfold B3;split
  ·rename_i k a
   obtain⟨id,p,q,t,l⟩:=Tg a;have n:∀d∈k.ws,d∈S/\d<240:=λd g=>⟨h d (l.ws ▸ g),l.few d g⟩
   refine Up n (n _ ?_) (λd g=>n d (l.rs d g)) j;rw[l.ws,l.code];show _∈Jp [p,q]++_;simp[Jp,l.AG0,l.AHF]
  ·exact NX j
 |.exit id,σ,k,b,a=>Um id
 |.ret,σ,k,b,a=>Ym
 |.scope e,σ,k,b,a=>Ck e (σ:=σ) (k:=k) b a
 |.label _,σ,k,b,a=>HM a σ
 |.rangeFunc _ _ _ _,σ,k,b,a=>Cp
 |.goto _,σ,k,b,a=>Cp
 |.refuse _,σ,k,b,a=>Cp
end
structure Good (ty:TTy)(A:List Nat)(N:Nat)(φ:Phi)(h:Hp)(w:ya)(σ:Sg)(e:Env)(h':Hp)(ψ:Phi)(a:Act)(w':ya):Prop where
 sg:AF4 A σ
 rel:AEp ty ψ nil h' w'
 ar:AR N ψ (AE6 A σ e) a
 evo:Evo φ h w ψ h' w'
section
variable {P:yx}{ty:TTy}{F:AEh}{A:List Nat}{N:Nat}
theorem lC{σ:Sg}(a:AF4 A σ){e:Env}{t:Nat}{u:xU}(h:AE6 A [] e t=BY u):AE6 A σ e t=BY u:=by
 rw[Er]at h ⊢;have h:(match memN t A with|true=>By|false=>match yp t 240 with|true=>BY (J t e)|false=>By)=BY u:=h;cases b:Ds t σ with
 |some c=>
  have:=a.mem _ (Ez b);simp only at this;rw[this]at h;cases h
 |none=>exact h
theorem AR.nil{φ:Phi}{σ:Sg}{e:Env}{a:Act}(b:AF4 A σ)(h:AR N φ (AE6 A σ e) a):AR N φ (AE6 A [] e) a:=⟨h.size,h.defs,λd f c=>h.rel d f (lC b c)⟩
theorem Good.nil{φ ψ:Phi}{h h':Hp}{w w':ya}{σ:Sg}{e:Env}{a:Act}(g:Good ty A N φ h w σ e h' ψ a w'):Good ty A N φ h w [] e h' ψ a w':=⟨.nil A,g.rel,g.ar.nil g.sg,g.evo⟩
theorem Good.trans{φ ψ χ:Phi}{h h' h2:Hp}{w w' w2:ya}{σ d:Sg}{e c:Env}{a b:Act}(g:Good ty A N φ h w σ e h' ψ a w')(g2:Good ty A N ψ h' w' d c h2 χ b w2):Good ty A N φ h w d c h2 χ b w2:=
 ⟨g2.sg,g2.rel,g2.ar,g.evo.trans g2.evo⟩
structure Post (ty:TTy)(A:List Nat)(N:Nat)(F:AEh)(φ:Phi)(h:Hp)(w:ya)(k:Option (Sg->C))(X:X)(Q:AD7->Act->ya->Prop):Prop where
 go:∀k',k=BY k'->∀σ e h' ψ a' w',Good ty A N φ h w σ e h' ψ a' w'->k' σ F e h'=X->Q .normal a' w'
 norm:k=By->∀e h' ψ a' w',Good ty A N φ h w [] e h' ψ a' w'->X=.norm e h'->Q .normal a' w'
 exit:∀id e h' ψ a' w',Good ty A N φ h w [] e h' ψ a' w'->X=.exit id e h'->Q (.exit id) a' w'
 ret:∀e h' ψ a' w',Good ty A N φ h w [] e h' ψ a' w'->X=.ret e h'->Q .ret a' w'
theorem Post.then{φ:Phi}{h:Hp}{w:ya}{k:Option (Sg->C)}{X:X}{Q:AD7->Act->ya->Prop}(p:Post ty A N F φ h w k X Q){σ:Sg}{e:Env}{h':Hp}{ψ:Phi}{a':Act}{w':ya}(g:Good ty A N φ h w σ e h' ψ a' w')(a:Lz k σ F e h'=X):Q .normal a' w':=by
 cases k with
 |none=>exact p.norm rfl e h' ψ a' w' g.nil a.symm
 |some b=>exact p.go b rfl σ e h' ψ a' w' g a
theorem cd{w:ya}{pb mb clk:Nat}{seen:List Nat}{es:List zH}{t:TypeId}(h:w.heap[pb]? =BY (.mapIter (BY mb) clk ⟨seen⟩ clk))(p:w.heap[mb]? =BY (.map ⟨es⟩ clk))(m:∀x∈es,x.born<clk):
  ((∀x∈es,x.born∈seen)/\(zz (.pointer (BY ⟨pb,0,By⟩)) IT t).run P w=.ok (.tuple #[.bool IT]) w)\/
  ∃x∈es,x.born∉seen/\∃w1:ya,w1.heap=w.heap/\w1.tape=w.tape/\w1.os=w.os/\w1.output=w.output/\
   (zz (.pointer (BY ⟨pb,0,By⟩)) IT t).run P w=.ok (.tuple #[.bool IN,x.key,x.val]) {w1 with heap:=w1.heap.setIfInBounds pb (.mapIter (BY mb) clk ⟨seen++[x.born]⟩ clk)}:=by
 have u:(!(⟨seen⟩:Array Nat).isEmpty && !(⟨es⟩:Array zH).isEmpty && (⟨es⟩:Array zH).all (λc=>decide (c.born>=clk)))=IT:=by
  cases es with
  |nil=>simp
  |cons x I=>
   have:=m x xp;simp[Nat.not_le.2 this]
 generalize g:es.filter (λc=> !seen.contains c.born)=left;have q:∀x∈left,x∈es/\x.born∉seen:=λx b=>by
  rw[<- g,zC]at b;exact⟨b.1,by simpa using b.2⟩
 have o:∀x∈left,x.born<clk:=λx b=>m x (q x b).1
 have i:(⟨es⟩:Array zH).filter (λc=> !(⟨seen⟩:Array Nat).contains c.born)=⟨left⟩:=by
  rw[<- g];apply zT;simp
 have j:(⟨left⟩:Array zH).filter (λc=>decide (c.born<clk))=⟨left⟩:=by
  apply zT;rw[ABy];exact List.filter_eq_self.2 λx b=>by simpa using o x b
 have k:(⟨left⟩:Array zH).filter (λc=>decide (c.born>=clk))= #[]:=by
  apply zT;rw[ABy];exact List.filter_eq_nil_iff.2 λx b=>by simpa using o x b
 cases e:left with
 |nil=>
  left;refine⟨λx b=>?_,?_⟩
  ·by_cases s:x.born∈seen
   ·exact s
   ·have:x∈left:=by rw[<- g,zC];exact⟨b,by simpa using s⟩
    rw[e]at this;cases this
  ·subst e
   simp only[zz,xr,CR h rfl,xd,CR p rfl,u,ye,if_false,i,j,k];simp[run_choose,ABL]
 |cons J K=>
  right;have r:0<left.length:=by rw[e];simp
  have G:(⟨left⟩:Array zH).isEmpty=IT:=by rw[e];simp
  have key:∀(a:Nat) (d:a<left.length) (w1:ya),(choose (.mapNext left.length)).run P w=.ok a w1->w1.heap=w.heap->
    (zz (.pointer (BY ⟨pb,0,By⟩)) IT t).run P w=.ok (.tuple #[.bool IN,(left[a]).key,(left[a]).val]) {w1 with heap:=w1.heap.setIfInBounds pb (.mapIter (BY mb) clk ⟨seen++[(left[a]).born]⟩ clk)}:=by
   intro a d w1 f F;have B:((#[]:Array (Option zH))++((⟨left⟩:Array zH)++ #[]).map BY)[a]? =BY (BY left[a]):=by
    simp[xc d]
   have H:((#[]:Array (Option zH))++((⟨left⟩:Array zH)++ #[]).map BY).size=left.length:=by simp
   have z:=F1 (P:=P) (w:=w1) (ob':=.mapIter (BY mb) clk ⟨seen++[(left[a]).born]⟩ clk) (by rw[F];exact h) rfl;simp only[zz,xr,CR h rfl,xd,CR p rfl,u,ye,if_false,i,j,k,G,H,f,B];have A:(⟨seen⟩:Array Nat).push (left[a]).born=⟨seen++[(left[a]).born]⟩:=by apply zT;simp
   rw[A,z];simp
  have y:∀(a:Nat) (d:a<left.length) (w1:ya),(choose (.mapNext left.length)).run P w=.ok a w1->w1.heap=w.heap->w1.tape=w.tape->w1.os=w.os->w1.output=w.output->
    ∃x∈es,x.born∉seen/\∃w1:ya,w1.heap=w.heap/\w1.tape=w.tape/\w1.os=w.os/\w1.output=w.output/\
     (zz (.pointer (BY ⟨pb,0,By⟩)) IT t).run P w=.ok (.tuple #[.bool IN,x.key,x.val]) {w1 with heap:=w1.heap.setIfInBounds pb (.mapIter (BY mb) clk ⟨seen++[x.born]⟩ clk)}:=by
   intro a d w1 f l C D E;have:=q left[a] (List.getElem_mem d);exact⟨left[a],this.1,this.2,w1,l,C,D,E,key a d w1 f l⟩
  by_cases n:left.length<=1
  ·exact y 0 r w (by rw[run_choose];simp[ABL,n]) rfl rfl rfl rfl
  ·exact y (w.tape w.drawn (.mapNext left.length) % left.length) (Nat.mod_lt _ r) {w with drawn:=w.drawn+1} (by rw[run_choose];simp[ABL,n,Question.cut]) rfl rfl rfl rfl
theorem Kg{o:AAD}(h:o.guard=By)(f:Nat->Option Bool):ABs o f=IN:=by
 unfold ABs;rw[h]
theorem kr(a:Act)(d:Nat)(v:xU)(t:Nat):(a.put (BY d) v).eval (.tmp t)=if d=t/\t<a.tmps.size then v else a.eval (.tmp t):=by
 show(a.put (BY d) v).tmps.getD t undef=_;rw[IE];by_cases b:d=t
 ·subst b;simp[Act.eval]
 ·rw[No (λc=>b (Option.some.inj c.1)),No (λc=>b c.1)];rfl
theorem ZJ{k:Walk}{a0:ADb}{id:Nat}{o1 o2:AAD}{r2:ADb}(W:AF7 A a0 k id o1 o2 r2){a:Act}{w:ya}{pb mb clk:Nat}{seen:List Nat}{es:List zH}
  (hit:a.eval (.tmp k.it)=.pointer (BY ⟨pb,0,By⟩))(hnx:k.nx<a.tmps.size)(hw:w.heap[pb]? =BY (.mapIter (BY mb) clk ⟨seen⟩ clk))(hm:w.heap[mb]? =BY (.map ⟨es⟩ clk))(hb:∀x∈es,x.born<clk)
  {Q:AD7->Act->ya->Prop}(AIV:(∀x∈es,x.born∈seen)->Q .normal ((a.put (BY k.nx) (.tuple #[.bool IT])).put (BY k.more) (.bool IT)) w)
  (hgo:∀x∈es,x.born∉seen->∀w1:ya,w1.heap=w.heap.setIfInBounds pb (.mapIter (BY mb) clk ⟨seen++[x.born]⟩ clk)->w1.tape=w.tape->w1.os=w.os->w1.output=w.output->
   Q .normal ((a.put (BY k.nx) (.tuple #[.bool IN,x.key,x.val])).put (BY k.more) (.bool IN)) w1):
  (ADH id #[o1,o2] IT).wp P Q a w:=by
 refine wp_region_list ?_;have hx1:execOp a.eval o1=(do pure (.value (<- zz (a.eval (.tmp k.it)) IT o1.type))):=by unfold execOp;rw[W.op1]
 have two:∀(c:Bool) (vs:Array xU) (w1:ya),Q .normal ((a.put (BY k.nx) (.tuple (#[.bool c]++vs))).put (BY k.more) (.bool c)) w1->wpList P #[o1,o2] Q [o2] (a.put (BY k.nx) (.tuple (#[.bool c]++vs))) w1:=by
  intro c vs w1 hq;unfold wpList;rw[If (Kg W.AIT _)];refine .inl ?_;have hx2:execOp (a.put (BY k.nx) (.tuple (#[.bool c]++vs))).eval o2=(do pure (.value (<- AB6 ((a.put (BY k.nx) (.tuple (#[.bool c]++vs))).eval (.tmp k.nx)) 0))):=by unfold execOp;rw[W.op2]
  unfold Oper.wp;rw[hx2,kr,If ⟨rfl,hnx⟩];have hex:(AB6 (.tuple (#[.bool c]++vs)) 0).run P w1=.ok (.bool c) w1:=by
   have h0:(#[Value.bool c]++vs)[0]? =BY (.bool c):=by simp[Array.getElem?_append]
   simp only[AB6,h0,xu]
  rw[xr,hex,xd,xu,ABp,W.AHF];exact hq
 show wpList P #[o1,o2] Q [o1,o2] a w;rw[show wpList P #[o1,o2] Q [o1,o2] a w=(if ABs o1 (yielded #[o1,o2] a.tmps)then o1.wp P a w (wpList P #[o1,o2] Q [o2]) Q\/(o1.asks P a w/\LetsOut Q)else wpList P #[o1,o2] Q [o2] (a.put o1.dst undef) w)from rfl];rw[If (Kg W.AIS _)];refine .inl ?_;unfold Oper.wp;rw[hx1,hit];rcases cd (P:=P) (t:=o1.type) hw hm hb with ⟨hall,hrun⟩|⟨x,hx,hns,w1,e1,e2,e3,e4,hrun⟩
 ·rw[xr,hrun,xd,xu,ABp,W.AG0]
  exact two IT #[] w (AIV hall)
 ·rw[xr,hrun,xd,xu,ABp,W.AG0]
  exact two IN #[x.key,x.val] _ (hgo x hx hns _ (by rw[e1]) e2 e3 e4)
theorem Jd{φ:Phi}{e:Env}{a:Act}:AR N φ (AE6 A [] e) a↔a.tmps.size=N/\a.defers=[]/\∀t,t<240->memN t A=IT->AEm φ (e.get t) (a.tmps.getD t undef):=by
 have f:∀t b,AE6 A [] e t=BY b↔(memN t A=IT/\t<240/\e.get t=b):=λt b=>by
  rw[Er];show(match memN t A with|true=>By|false=>match yp t 240 with|true=>BY (J t e)|false=>By)=BY b↔_;cases memN t A with
  |true=>simp
  |false=>
   cases d:yp t 240 with
   |true=>
    have:=BV.1 d;simp only[DI t this,Option.some.injEq,true_and,this]
   |false=>
    have:¬t<240:=λc=>by rw[BV.2 c]at d;cases d
    simp[this]
 constructor
 ·exact λc=>⟨c.size,c.defs,λt k j=>c.rel t _ ((f t _).2 ⟨j,k,rfl⟩)⟩
 ·exact λ⟨g,h,i⟩=>⟨g,h,λt b l=>by obtain⟨m,n,rfl⟩:=(f t b).1 l;exact i t n m⟩
theorem JH:∀(l:List Nat) (e:Env) (t:Nat),(∀d∈l,d<240)->t<240->(DC e l).get t=if t∈l then .chan By else e.get t
 |[],e,t,_,_=>by simp[DC]
 |d::l,e,t,c,f=>by
  unfold DC;rw[JH l _ t (λd g=>c d (xn _ g)) f,Env.AEy _ _ _ _ (c d xp) f];by_cases a:t∈l
  ·simp[a]
  ·by_cases b:t=d
   ·simp[a,b]
   ·simp[a,b]
theorem JY{clk:Nat}:∀{es:List Ent} {lo:Nat},Fd clk lo es=IN->∀x∈es,lo<=x.born/\x.born<clk
 |e::f,lo,a,x,hx=>by
  unfold Fd at a;obtain⟨b,a⟩:=FF a;obtain⟨c,a⟩:=FF a;have b:=As.1 b;have c:=BV.1 c;rcases yC.1 hx with rfl|hx
  ·exact⟨b,c⟩
  ·have:=JY a x hx
   have d:e.born+1<=x.born:=this.1;exact⟨by omega,this.2⟩
theorem Qq{φ:Phi}:∀{es:List Ent} {c:List zH} {a:zH},AFg φ es c->a∈c->∃x∈es,x.born=a.born
 |_,_,a,.cons (k:=k) (v:=v) (b:=b) g h f,hx=>by
  rcases yC.1 hx with rfl|hx
  ·exact⟨⟨k,v,b⟩,xp,rfl⟩
  ·obtain⟨x,d,e⟩:=Qq f hx
   exact⟨x,xn _ d,e⟩
theorem TC{φ:Phi}{clk:Nat}:∀{es:List Ent} {e:List zH} {lo:Nat} {c:zH},AFg φ es e->Fd clk lo es=IN->c∈e->∃x,Gl c.born es=BY x/\AEm φ x.key c.key/\AEm φ x.val c.val
 |_,_,lo,c,.cons (k:=k) (v:=v) (b:=b) (l:=l) h i f,a,hx=>by
  unfold Gl;rcases yC.1 hx with rfl|hx
  ·rw[zU];exact⟨_,rfl,h,i⟩
  ·unfold Fd at a
   obtain⟨_,a⟩:=FF a;obtain⟨_,a⟩:=FF a;obtain⟨g,j,n⟩:=Qq f hx;have m:b+1<=g.born:=(JY a g j).1;have d:yA b c.born=IT:=by
    cases d:yA b c.born with
    |false=>rfl
    |true=>have:=A0.1 d;omega
   rw[d];exact TC f a hx
theorem fU{k:Walk}{h:ADb}{id:Nat}{c d:AAD}{e:ADb}(a:AF7 A h k id c d e):
  B3 ty A h [] By=Tk (FX k.nx) (Hj (J k.it)) (Tk (FX k.more) (AU 0 (J k.nx)) (B3 ty A (.seq (.cond (.tmp k.more) .skip (.exit k.out)) e) [] By)):=by
 have i:∀b,memN b A=IT->b<240->cO ⟨A,[]⟩ (.tmp b)=BY (J b):=λb m n=>by
  show(match Qs A [] (.tmp b)with|some f=>BY (MB f)|none=>By)=_;show(match (match memN b A with|true=>By|false=>match yp b 240 with|true=>BY (Src.s b)|false=>By)with|some f=>BY (MB f)|none=>By)=_;rw[m,BV.2 n];rfl
 rw[a.code];show B3 ty A (.region id #[c,d] IT) [] (BY λg=>B3 ty A (.seq (.cond (.tmp k.more) .skip (.exit k.out)) e) g By)=_;show HS ty A [c,d] (Lz (BY λg=>B3 ty A (.seq (.cond (.tmp k.more) .skip (.exit k.out)) e) g By)) [] [c,d] []=_;unfold HS;rw[a.AIS,a.AG0];simp only[a.nxA,BV.2 a.nxL];unfold HS;rw[a.AIT,a.AHF];simp only[a.moA,BV.2 a.moL];have j:opC ty ⟨A,[]⟩ c.op=Hj (J k.it):=by
  rw[a.op1];show w1 ⟨A,[]⟩ (.tmp k.it) (λo=>Hj o)=_;unfold w1;rw[i _ a.itA a.itL]
 have l:opC ty ⟨A,GI k.nx []⟩ d.op=AU 0 (J k.nx):=by
  rw[a.op2];show w1 ⟨A,[]⟩ (.tmp k.nx) (λb=>AU 0 b)=_;unfold w1;rw[i _ a.nxA a.nxL]
 rw[j,l];rfl
theorem Z7{t:(Env->X)->xU->Env->X}{f:OpF}{k:C}{e:Env}{h h':Hp}{v:xU}(a:f F e h=.ok v h'):Tk t f k F e h=t (λe=>k F e h') v e:=by
 unfold Tk;rw[a]
theorem oH{t:(Env->X)->xU->Env->X}{f:OpF}{k:C}{e:Env}{h:Hp}(a:f F e h=.no):Tk t f k F e h=.no:=by
 unfold Tk;rw[a]
theorem kU{k:Walk}{l:ADb}{id:Nat}{D E:AAD}{p:ADb}(d:AF7 A l k id D E p){e:Env}{h:Hp}{a:ABD}{m s f c lo hi mk:Nat}{es:List Ent}{x:Ent}{bl:BT}{g:Option (List Nat)}{Y:Go.Proofs.YtldjiljipddebaaGreat.X}
  (t:J k.it e=.pointer (BY a))(B:yA a.off 0=IN)(u:Bp h m=.ok es c)(w:m≠a.block)(C:Gl s es=BY x)(n:h.bl.set a.block (.pick m s f g)=BY bl)
  (j:B3 ty A l [] By F e {next:=h.next,low:=lo,high:=hi,mark:=mk,bl:=bl}=Y)(z:Y≠.no):
  ∃b,bl.set a.block (Nu m s f g)=BY b/\
   B3 ty A (.seq (.cond (.tmp k.more) .skip (.exit k.out)) p) [] By F (Env.set k.more (.bool IN) (Env.set k.nx (.tuple ⟨[.bool IN,x.key,x.val]⟩) e)) {next:=h.next,low:=lo,high:=hi,mark:=mk,bl:=b}=Y:=by
 rw[fU d]at j;have q:bl.get a.block=.pick m s f g:=by rw[BT.AEy _ _ _ _ n,If rfl]
 have y:Bp ({next:=h.next,low:=lo,high:=hi,mark:=mk,bl:=bl}:Hp) m=.ok es c:=by
  show rT (bl.get m)=_;rw[BT.AEy _ _ _ _ n,No w];exact u
 have i:Hj (J k.it) F e {next:=h.next,low:=lo,high:=hi,mark:=mk,bl:=bl}=match bl.set a.block (Nu m s f g)with
   |some b=>.ok (.tuple ⟨[.bool IN,x.key,x.val]⟩) {next:=h.next,low:=lo,high:=hi,mark:=mk,bl:=b}
   |none=>.no:=by
  unfold Hj;rw[t];show(bif yA a.off 0 then Gz a _ else .no)=_;rw[B];show Gz a _=_;unfold Gz;simp only;rw[q];show(match Bp ({next:=h.next,low:=lo,high:=hi,mark:=mk,bl:=bl}:Hp) m with|.ok es _=>_|.no=>_)=_;rw[y];simp only[C];cases bl.set a.block (Nu m s f g)<;>rfl
 cases o:bl.set a.block (Nu m s f g)with
 |none=>
  rw[o]at i;rw[oH i]at j;exact absurd j.symm z
 |some b=>
  refine⟨b,rfl,?_⟩;rw[o]at i;rw[<- j];have r:AU 0 (J k.nx) F (Env.set k.nx (.tuple ⟨[.bool IN,x.key,x.val]⟩) e) {next:=h.next,low:=lo,high:=hi,mark:=mk,bl:=b}=.ok (.bool IN) {next:=h.next,low:=lo,high:=hi,mark:=mk,bl:=b}:=by
   unfold AU;rw[DI _ d.nxL,Env.AEy _ _ _ _ d.nxL d.nxL,If rfl];rfl
  symm
  rw[Z7 i,EP _ d.nxL,Z7 r,EP _ d.moL]
structure Rd (A:List Nat)(N:Nat)(φ:Phi)(ws:List Nat)(e:Env)(w:ya)(pb qb c:Nat)(seen:List Nat)(ak:Act)(wk:ya):Prop where
 size:ak.tmps.size=N
 defs:ak.defers=[]
 slots:∀t,t<240->memN t A=IT->t∉ws->AEm φ (e.get t) (ak.tmps.getD t undef)
 grow:w.heap.size<=wk.heap.size
 same:∀j,j<w.heap.size->j≠pb->wk.heap[j]? =w.heap[j]?
 tape:wk.tape=w.tape
 os:wk.os=w.os
 output:wk.output=w.output
 iter:wk.heap[pb]? =BY (.mapIter (BY qb) c ⟨seen⟩ c)
theorem TF{φ:Phi}:∀{es:List Ent} {a:List zH} {x:Ent},AFg φ es a->x∈es->∃g∈a,g.born=x.born
 |_,_,x,.cons (k':=e) (v':=v) (b:=b) h i f,hx=>by
  rcases yC.1 hx with rfl|hx
  ·exact⟨⟨e,v,b⟩,xp,rfl⟩
  ·obtain⟨x,c,d⟩:=TF f hx
   exact⟨x,xn _ c,d⟩
theorem LA{n:Nat}:∀{es:List Ent} {x:Ent},Gl n es=BY x->x∈es/\x.born=n
 |y::e,x,a=>by
  unfold Gl at a;cases b:yA y.born n with
  |true=>rw[b]at a;cases a;exact⟨xp,A0.1 b⟩
  |false=>
   rw[b]at a;obtain⟨c,d⟩:=LA a;exact⟨xn _ c,d⟩
theorem uf{b:Bool}{Y X:Go.Proofs.YtldjiljipddebaaGreat.X}(h:(bif b then Y else .no)=X)(a:X≠.no):b=IN/\Y=X:=by
 cases b with
 |false=>exact absurd h.symm a
 |true=>exact⟨rfl,h⟩
theorem TM{seen:List Nat}:∀{es:List Ent},(∀x∈es,x.born∈seen)->AFG seen es=[]
 |[],_=>rfl
 |x::d,a=>by
  unfold AFG;rw[MO,show seen.contains x.born=IN by simpa using a x xp];exact TM λc b=>a c (xn _ b)
theorem N1{seen:List Nat}:∀{es:List Ent} {x:Ent},x∈es->x.born∉seen->x∈AFG seen es
 |y::c,x,hx,a=>by
  unfold AFG;rcases yC.1 hx with rfl|hx
  ·rw[MO,show seen.contains x.born=IT by simpa using a]
   exact xp
  ·have b:=N1 hx a
   cases GD y.born seen with
   |true=>exact b
   |false=>exact xn _ b
theorem Mg{f:Ent->Bool}:∀{l:List Ent},Q7 f l=IN->∀x∈l,f x=IN
 |[],_,x,hx=>by cases hx
 |y::l,a,x,hx=>by
  obtain⟨b,c⟩:=FF a;rcases yC.1 hx with rfl|hx
  ·exact b
  ·exact Mg c x hx
theorem AEp.one{φ:Phi}{h:Hp}{w w':ya}{b:Nat}{pb:Pl}{o:Blk}{bl:BT}(H:AEp ty φ nil h w)(k:φ b=BY pb)(hin:pb.inp=IT)(l:Live h b)(g:∀i,bl.get i=if i=b then o else h.bl.get i)
  (z:w.heap.size<=w'.heap.size)(A:∀j,j<w.heap.size->j≠pb.blk->w'.heap[j]? =w.heap[j]?)(p:AFh ty φ pb o w'.heap[pb.blk]?)(u:∀f s el,o≠.cells f s el)(lo hi mk:Nat):
  AEp ty φ nil {next:=h.next,low:=lo,high:=hi,mark:=mk,bl:=bl} w' where
 dom:=λi c a=>⟨(H.dom i c a).1,zG (H.dom i c a).2 z⟩
 inj:=λi j c B a y _ _ hi t r x=>by
  have n:∀i,bl.get i≠.dead->Live h i:=λi hi=>by
   by_cases d:i=b
   ·rw[d];exact l
   ·rw[g,No d]at hi;exact hi
  exact H.inj i j c B a y (λh=>h) (λh=>h) (n i hi) (n j t) r x
 row:=λi c a _=>by
  show AFh ty φ c (bl.get i) _;rw[g];by_cases d:i=b
  ·rw[If d]
   subst d;rw[k]at a;cases a;exact p
  ·rw[No d]
   by_cases m:h.bl.get i=.dead
   ·rw[m];exact .dead
   ·rw[A c.blk (H.dom i c a).2 (λq=>d (H.inj i b c pb a k (λh=>h) (λh=>h) m l (.inr hin) q))]
    exact H.row i c a (λh=>h)
 fresh:=λi hi=>by
  have hi:h.next<=i:=hi;show bl.get i=_;have:=(H.dom _ _ k).1;rw[g,No (by omega)];exact H.fresh i hi
 kind:=λi c f s el a e=>by
  have e:bl.get i=.cells f s el:=e;rw[g]at e;by_cases d:i=b
  ·rw[If d]at e;exact absurd e (u _ _ _)
  ·rw[No d]at e;exact H.kind i c f s el a e
 inp:=H.inp
theorem Evo.one{φ:Phi}{h:Hp}{w w':ya}{b:Nat}{pb:Pl}{o:Blk}{bl:BT}(l:φ b=BY pb)(hin:pb.inp=IT)(g:Live h b)(c:∀i,bl.get i=if i=b then o else h.bl.get i)
  (y:w.heap.size<=w'.heap.size)(z:∀j,j<w.heap.size->j≠pb.blk->w'.heap[j]? =w.heap[j]?)(A:w'.tape=w.tape)(t:w'.os=w.os)(u:w'.output=w.output)(s:AE2 (h.bl.get b) o)(mk:Nat):
  Evo φ h w φ {next:=h.next,low:=CD h.low b,high:=C9 h.high b,mark:=mk,bl:=bl} w' where
 le:=.refl φ
 new:=λ_ _ e=>.inl e
 next:=xW _
 size:=y
 tape:=A
 os:=t
 output:=u
 frame:=λj q p=>z j q λr=>p b pb l hin (by show CD _ _<=_;rw[BU];exact Nat.min_le_right _ _) (by show _<=C9 _ _;rw[B8];exact ABl _ _) g r.symm
 back:=λi B x d _=>by
  refine⟨i,B,x,?_,rfl,rfl,.inl rfl⟩;by_cases a:i=b
  ·rw[a];exact g
  ·have d:bl.get i≠.dead:=d
   rw[c,No a]at d;exact d
 kept:=λi _ f=>by
  show bl.get i=_;have f:i<CD h.low b\/C9 h.high b<i:=f;rw[BU,B8]at f;rw[c,No (by omega)]
 low:=by show CD _ _<=_;rw[BU];exact ABU _ _
 high:=by show _<=C9 _ _;rw[B8];exact ACx _ _
 shape:=λi _=>by
  show AE2 _ (bl.get i);rw[c];by_cases a:i=b
  ·rw[If a,a];exact s
  ·rw[No a];exact .refl _
 only:=λi _ k=>by
  show bl.get i=_;rw[c,No (λe=>by rw[e,l]at k;cases k)]
 all:=λ_ m n=>absurd n (ABS.2 m)
theorem ij{k:Walk}{a0:ADb}{id:Nat}{o1 o2:AAD}{r2:ADb}(W:AF7 A a0 k id o1 o2 r2)(hd:k.nx<N/\k.more<N)
  (ih:∀{e:Env} {h:Hp} {X:Go.Proofs.YtldjiljipddebaaGreat.X},B3 ty A (.seq (.cond (.tmp k.more) .skip (.exit k.out)) r2) [] By F e h=X->X≠.no->∀(φ:Phi) (w:ya) (a:Act),AEp ty φ nil h w->AR N φ (AE6 A [] e) a->∀(Q:AD7->Act->ya->Prop),Post ty A N F φ h w By X Q->(ACk (.cond (.tmp k.more) .skip (.exit k.out)) r2).wp P Q a w)
  {e:Env}{ad:ABD}(hit:J k.it e=.pointer (BY ad))(hoff:yA ad.off 0=IN)(AEs:256<=ad.block){φ0:Phi}{hr:Hp}{w0:ya}{a:Act}(AF8:∀t,t<240->memN t A=IT->AEm φ0 (e.get t) (a.tmps.getD t undef))
  {fin:Hp->Rds->Bool}{Q:AD7->Act->ya->Prop}
  (AKF:∀(hk:Hp) (tr:Rds) (φk:Phi) (wk:ya),AEp ty φk nil hk wk->Evo φ0 hr w0 φk hk wk->(∃pb,φk ad.block=BY pb)->Live hk ad.block->fin hk tr=IN->∀ak:Act,ak.tmps.size=N->ak.defers=[]->
   (∀t,t<240->memN t A=IT->t∉k.ws->AEm φ0 (e.get t) (ak.tmps.getD t undef))->ak.tmps.getD k.more undef=.bool IT->Q (.exit k.out) ak wk):
  ∀(n:Nat) (hk:Hp) (tr:Rds) (φk:Phi) (wk:ya) (ak:Act),AEp ty φk nil hk wk->Evo φ0 hr w0 φk hk wk->ak.tmps.size=N->ak.defers=[]->
   (∀t,t<240->memN t A=IT->t∉k.ws->AEm φ0 (e.get t) (ak.tmps.getD t undef))->Lj k (B3 ty A a0 [] By) F e ad.block fin n hk tr=IN->ACK P a0 Q n ak wk:=by
 intro n
 induction n with
 |zero=>intro hk tr φk wk ak _ _ _ _ _ hx;cases hx
 |succ n ihn=>
 intro hk tr φk wk ak H E hsz hdf hsl hx;unfold Lj PB at hx;cases AGY:Ej (hk.bl.get ad.block)with
 |no=>rw[AGY]at hx;cases hx
 |cur _ _ _=>rw[AGY]at hx;cases hx
 |pick _ _ _ _=>rw[AGY]at hx;cases hx
 |ok m' since seen last=>
 rw[AGY]at hx;cases m' with
 |none=>cases hx
 |some m=>
 simp only at hx;cases AGZ:Bp hk m with
 |no=>rw[AGZ]at hx;cases hx
 |ok es c=>
 rw[AGZ]at hx;simp only at hx;obtain⟨AHS,hx1⟩:=FF hx;obtain⟨AJL,hx2⟩:=FF hx1;obtain⟨hris,hx3⟩:=FF hx2;clear hx hx1 hx2;have hcs:=A0.1 AHS;have hcl:=A0.1 AJL;clear AHS AJL;subst hcs;subst hcl;have hx:=hx3;clear hx3;have hbi:=Ie AGY;have AHm:=AF8 k.it W.itL W.itA;rw[<- DI k.it W.itL,hit]at AHm;obtain⟨ad',AKG,hra⟩:=AHm.AFm;obtain⟨pb,AH5,rfl⟩:=hra.eq;have hpb:=E.le _ _ AH5;have AIW:ad.off=0:=A0.1 hoff;have hrow:=H.row ad.block pb hpb (λh=>h);rw[hbi]at hrow;obtain⟨q,hp0,hq,hwi⟩:∃q,pb.off=0/\φk m=BY q/\wk.heap[pb.blk]? =BY (.mapIter (BY q.blk) c ⟨seen⟩ c):=by
  generalize wk.heap[pb.blk]? =ob at hrow;cases hrow with
  |iter h1 h2=>exact⟨_,h1,h2,rfl⟩
 obtain⟨es',hwm,AFM⟩:=H.AFx hq (λh=>h) AGZ;have hmb:m≠ad.block:=λh=>by
  have:=Ib AGZ;rw[h,hbi]at this;cases this
 have hin:=H.AFj hpb AEs;have AFU:Live hk ad.block:=by unfold Live;rw[hbi];intro h;cases h
 have AKH:=(H.dom _ _ hpb).2;have AIX:∀x∈es',x.born<c:=λx hx=>by
  obtain⟨y,hy,he⟩:=Qq AFM hx;rw[<- he];exact(JY hris y hy).2
 have hkeep:CS k.ws (B3 ty A (.seq (.cond (.tmp k.more) .skip (.exit k.out)) r2) [] By):=Ck _ (λd hd=>by
  rw[W.ws,W.code];exact yc _ hd) (λ_ h=>by cases h)
 have AJM:k.nx∈k.ws:=by rw[W.ws,W.code];show _∈Jp [o1,o2]++_;simp[Jp,W.AG0,W.AHF]
 have AJN:k.more∈k.ws:=by rw[W.ws,W.code];show _∈Jp [o1,o2]++_;simp[Jp,W.AG0,W.AHF]
 have hcg:∀t,t<240->(DC e k.ws).get t=if t∈k.ws then .chan By else e.get t:=λt ht=>JH _ _ _ W.few ht
 have AGJ:∀{ψ:Phi} {v v' v'':xU},φ0.Le ψ->AEm ψ v v'->AEm φ0 v v''->AEm φ0 v v':=λ{ψ v v' v''} hle h1 h2=>AEm.cut (χ:=φ0) (λb p hp ⟨q,hq⟩=>by
  have:=hle b q hq;rw[hp]at this;cases this;exact hq) h1 h2
 have AIY:ak.eval (.tmp k.it)=.pointer (BY ⟨pb.blk,0,By⟩):=by
  have h1:=hsl k.it W.itL W.itA W.itW;rw[<- DI k.it W.itL,hit]at h1;obtain⟨a2,ha2,hr2⟩:=h1.AFm;obtain⟨p2,hp2,rfl⟩:=hr2.eq;rw[AH5]at hp2;cases hp2;show ak.tmps.getD k.it undef=_;rw[ha2,hp0,AIW]
 have AH6:∀(v1 v2:xU) (t:Nat),t<240->((ak.put (BY k.nx) v1).put (BY k.more) v2).tmps.getD t undef=if t=k.more then v2 else if t=k.nx then v1 else ak.tmps.getD t undef:=λv1 v2 t ht=>by
  rw[IE,F0,IE];by_cases h1:t=k.more
  ·rw[If ⟨by rw[h1],by rw[h1,hsz];exact hd.2⟩,If h1]
  ·rw[No (λh=>h1 (Option.some.inj h.1).symm),No h1]
   by_cases h2:t=k.nx
   ·rw[If ⟨by rw[h2],by rw[h2,hsz];exact hd.1⟩,If h2]
   ·rw[No (λh=>h2 (Option.some.inj h.1).symm),No h2]
 show a0.wp P (Exit.then (ACK P a0 Q n) Q) ak wk;generalize hK:ACK P a0 Q n=K;rw[W.code];refine wp_seq (ZJ W (pb:=pb.blk) (mb:=q.blk) (clk:=c) (seen:=seen) (es:=es') AIY (by rw[hsz];exact hd.1) hwi hwm AIX (λhall=>?_) (λx' hx' hns w1 e1 e2' e3 e4=>?_))
 ·
  show(ACk (.cond (.tmp k.more) .skip (.exit k.out)) r2).wp P (Exit.then K Q) ((ak.put (BY k.nx) (.tuple #[.bool IT])).put (BY k.more) (.bool IT)) wk;refine wp_seq (wp_cond_false ?_ (wp_exit ?_))
  ·show((ak.put (BY k.nx) (.tuple #[.bool IT])).put (BY k.more) (.bool IT)).tmps.getD k.more undef=_
   rw[AH6 _ _ _ W.moL,If rfl]
  ·show Q (.exit k.out) ((ak.put (BY k.nx) (.tuple #[.bool IT])).put (BY k.more) (.bool IT)) wk
   rw[TM (es:=es) λx hx=>by
    obtain⟨x',hx',he⟩:=TF AFM hx;rw[<- he];exact hall x' hx']at hx
   refine AKF hk tr φk wk H E ⟨_,hpb⟩ AFU hx _ (by rw[F0,F0];exact hsz) (by rw[G4,G4];exact hdf) (λt ht hA hw=>?_) (by rw[AH6 _ _ _ W.moL,If rfl]);rw[AH6 _ _ _ ht,No (λh:t=k.more=>hw (h ▸ AJN)),No (λh:t=k.nx=>hw (h ▸ AJM))];exact hsl t ht hA hw
 ·
  show(ACk (.cond (.tmp k.more) .skip (.exit k.out)) r2).wp P (Exit.then K Q) ((ak.put (BY k.nx) (.tuple #[.bool IN,x'.key,x'.val])).put (BY k.more) (.bool IN)) w1;obtain⟨x,hfx,hkr,hvr⟩:=TC AFM hris hx';obtain⟨hxm,hxb⟩:=LA hfx;have hmem:=N1 hxm (by rw[hxb];exact hns);generalize AGE:AFG seen es=rest at hx hmem;cases rest with
  |nil=>cases hmem
  |cons y l=>
  have hx:=Mg hx x hmem;unfold Pi at hx;cases hbl:hk.bl.set ad.block (.pick m x.born c (BY seen))with
  |none=>rw[hbl]at hx;cases hx
  |some bl=>
  rw[hbl]at hx;simp only at hx;have AKI:J k.it (DC e k.ws)=.pointer (BY ad):=by
   rw[DI _ W.itL,hcg _ W.itL,No W.itW,<- DI _ W.itL];exact hit
  generalize hY:B3 ty A a0 [] By F (DC e k.ws) {next:=hk.next,low:=CD hk.low ad.block,high:=C9 hk.high ad.block,mark:=hk.mark,bl:=bl}=Y at hx;cases Y with
  |no=>cases hx
  |exit _ _ _=>cases hx
  |ret _ _=>cases hx
  |norm e1' h1'=>
  simp only at hx;obtain⟨bl',AIZ,hB⟩:=kU W (x:=x) (s:=x.born) AKI hoff AGZ hmb (by rw[hxb];exact hfx) hbl hY (λh=>by cases h);have AIZ:bl.set ad.block (.iter (BY m) c (KE x.born seen) c)=BY bl':=AIZ;have AJO:∀i,bl'.get i=if i=ad.block then .iter (BY m) c (KE x.born seen) c else hk.bl.get i:=λi=>by
   rw[BT.AEy _ _ _ _ AIZ,BT.AEy _ _ _ _ hbl];split<;>rfl
  have AJP:w1.heap.size=wk.heap.size:=by rw[e1];simp
  have AKJ:w1.heap[pb.blk]? =BY (.mapIter (BY q.blk) c ⟨seen++[x'.born]⟩ c):=by
   rw[e1,zY,If rfl,If AKH]
  have AJQ:∀j,j<wk.heap.size->j≠pb.blk->w1.heap[j]? =wk.heap[j]?:=λj hj hjp=>by
   rw[e1,zY,No (λh=>hjp h.symm)]
  have HR:=H.one hpb hin AFU AJO (ABe AJP.symm) AJQ (by rw[AKJ,Nz,hxb];exact .iter hp0 hq) (λ_ _ _ h=>by cases h) (CD hk.low ad.block) (C9 hk.high ad.block) hk.mark;have E1:=Evo.one (w':=w1) hpb hin AFU AJO (ABe AJP.symm) AJQ e2' e3 e4 (by rw[hbi];exact .inr trivial) hk.mark;have HAR:AR N φk (AE6 A [] (Env.set k.more (.bool IN) (Env.set k.nx (.tuple ⟨[.bool IN,x.key,x.val]⟩) (DC e k.ws)))) ((ak.put (BY k.nx) (.tuple #[.bool IN,x'.key,x'.val])).put (BY k.more) (.bool IN)):=by
   refine Jd.2 ⟨by rw[F0,F0];exact hsz,by rw[G4,G4];exact hdf,λt ht hA=>?_⟩;rw[AH6 _ _ _ ht,Env.AEy _ _ _ _ W.moL ht,Env.AEy _ _ _ _ W.nxL ht,hcg t ht];by_cases q1:t=k.more
   ·rw[If q1,If q1];exact .bool _
   ·rw[No q1,No q1]
    by_cases q2:t=k.nx
    ·rw[If q2,If q2];exact .tuple (.cons (.bool _) (.cons hkr (.cons hvr .nil)))
    ·rw[No q2,No q2]
     by_cases q3:t∈k.ws
     ·rw[If q3];exact .unk
     ·rw[No q3];exact(hsl t ht hA q3).mono E.le
  refine ih hB (λh=>by cases h) φk w1 _ HR HAR _ {go:=(λ_ h=>by cases h),norm:=λ_ e2 h2 ψ a2 w2 g hx2=>?_,exit:=(λi e2 h2 ψ a2 w2 g hx2=>by cases hx2),ret:=(λe2 h2 ψ a2 w2 g hx2=>by cases hx2)};cases hx2;obtain⟨g1,g2,g3⟩:=Jd.1 g.ar;have hag:=hkeep F (Env.set k.more (.bool IN) (Env.set k.nx (.tuple ⟨[.bool IN,x.key,x.val]⟩) (DC e k.ws))) {next:=hk.next,low:=CD hk.low ad.block,high:=C9 hk.high ad.block,mark:=hk.mark,bl:=bl'};rw[hB]at hag;have hag:Ag k.ws (Env.set k.more (.bool IN) (Env.set k.nx (.tuple ⟨[.bool IN,x.key,x.val]⟩) (DC e k.ws))) e1':=hag;have E2:=(E.trans E1).trans g.evo;show K a2 w2;rw[<- hK];refine ihn h1' _ ψ w2 a2 g.rel E2 g1 g2 (λt ht hA hw=>?_) hx;have q1:=g3 t ht hA;rw[hag t ht hw,Env.AEy _ _ _ _ W.moL ht,No (λh:t=k.more=>hw (h ▸ AJN)),Env.AEy _ _ _ _ W.nxL ht,No (λh:t=k.nx=>hw (h ▸ AJM)),hcg t ht,No hw]at q1;exact AGJ E2.le q1 (AF8 t ht hA)
theorem ig{b e:Nat}{r d:Hp}{tr:Rds}:Yc b e r d tr=IN↔bQ b e r d:=by
 unfold Yc;split
 ·rename_i c _;exact⟨λ_=>c,λ_=>rfl⟩
 ·rename_i c _;exact⟨λa=>(by cases a),λa=>absurd a c⟩
theorem AEp.AIa{φ:Phi}{h:Hp}{w:ya}{bl:BT}{b q:Nat}(H:AEp ty φ nil h w)(e:∀i,bl.get i=if i=b\/q<=i then .dead else h.bl.get i)(lo hi mk:Nat):
  AEp ty φ nil {next:=h.next,low:=lo,high:=hi,mark:=mk,bl:=bl} w where
 dom:=H.dom
 inj:=λi j c r d p _ _ hi n m o=>by
  have k:∀i,bl.get i≠.dead->Live h i:=λi hi=>by
   rw[e]at hi;split at hi
   ·exact absurd rfl hi
   ·exact hi
  exact H.inj i j c r d p (λh=>h) (λh=>h) (k i hi) (k j n) m o
 row:=λi c d _=>by
  show AFh ty φ c (bl.get i) _;rw[e];split
  ·exact .dead
  ·exact H.row i c d (λh=>h)
 fresh:=λi hi=>by
  have hi:h.next<=i:=hi;show bl.get i=_;rw[e];split
  ·rfl
  ·exact H.fresh i hi
 kind:=λi c f l g d a=>by
  have a:bl.get i=.cells f l g:=a;rw[e]at a;split at a
  ·cases a
  ·exact H.kind i c f l g d a
 inp:=H.inp
theorem Evo.join{φ ψ:Phi}{h r hk:Hp}{w s:ya}{b:Nat}{pb:Pl}(a:Evo φ {next:=h.next,low:=h.next,high:=0,mark:=h.mark,bl:=h.bl} w ψ hk s)(D:φ b=BY pb)
  (J:hk.next=r.next)(o:r.low<=CD hk.low b)(p:C9 hk.high b<=r.high)(g:∀i,r.bl.get i=if i=b\/h.next<=i then .dead else hk.bl.get i):Evo φ h w ψ (mP h r) s where
 le:=a.le
 new:=a.new
 next:=by
  have d:h.next<=hk.next:=a.next;show h.next<=r.next;omega
 size:=a.size
 tape:=a.tape
 os:=a.os
 output:=a.output
 frame:=λF A z=>a.frame F A λi n j B c I E=>z i n j B (by
  rw[BU]at o;show CD h.low r.low<=i;rw[BU];omega) (by
  rw[B8]at p;show i<=C9 h.high r.high;rw[B8];omega) E
 back:=λi n j c C=>by
  have c:r.bl.get i≠.dead:=c;rw[g]at c;split at c
  ·exact absurd rfl c
  obtain⟨m,G,t,u,x,y,f⟩:=a.back i n j c C;refine⟨m,G,t,u,x,y,?_⟩;rw[BU]at o;rw[B8]at p;rcases f with f|⟨f,H⟩
  ·exact .inl f
  ·refine .inr ⟨?_,?_⟩
   ·show CD h.low r.low<=m
    rw[BU];omega
   ·show m<=C9 h.high r.high
    rw[B8];omega
 kept:=λi e l=>by
  have l:i<CD h.low r.low\/C9 h.high r.high<i:=l;rw[BU,B8]at l;rw[BU]at o;rw[B8]at p;show r.bl.get i=_;rw[g,No (by omega)];exact a.kept i e (by omega)
 low:=by show CD _ _<=_;rw[BU];exact ABU _ _
 high:=by show _<=C9 _ _;rw[B8];exact ACx _ _
 shape:=λi e=>by
  show AE2 _ (r.bl.get i);rw[g];split
  ·exact .inl rfl
  ·exact a.shape i e
 only:=λi e k=>by
  show r.bl.get i=_;rw[g,No (by
   rintro (d|d)
   ·rw[d,D]at k;cases k
   ·omega)]
  exact a.only i e k
 all:=λi d q=>a.all i d (by
  have q:i<r.next:=q;show i<hk.next;omega)
theorem UL{k:Walk}{m:ADb}{id:Nat}{W Y:AAD}{o:ADb}(d:AF7 A m k id W Y o)(L:k.nx<N/\k.more<N)
  (V:∀{e:Env} {h:Hp} {X:Go.Proofs.YtldjiljipddebaaGreat.X},B3 ty A (.seq (.cond (.tmp k.more) .skip (.exit k.out)) o) [] By F e h=X->X≠.no->∀(φ:Phi) (w:ya) (a:Act),AEp ty φ nil h w->AR N φ (AE6 A [] e) a->∀(Q:AD7->Act->ya->Prop),Post ty A N F φ h w By X Q->(ACk (.cond (.tmp k.more) .skip (.exit k.out)) o).wp P Q a w)
  {e:Env}{h:Hp}{X:Go.Proofs.YtldjiljipddebaaGreat.X}{j:ABD}(u:J k.it e=.pointer (BY j))(S:yA j.off 0=IN)(z:256<=j.block)
  (g:GH k (B3 ty A m [] By) F e h j.block=X)(R:X≠.no){φ:Phi}{w:ya}{a:Act}(H:AEp ty φ nil h w)(E:AR N φ (AE6 A [] e) a){Q:AD7->Act->ya->Prop}
  (Z:∀id e h' ψ a' w',Good ty A N φ h w [] e h' ψ a' w'->X=.exit id e h'->Q (.exit id) a' w'):
  (AEZ m).wp P Q a w:=by
 unfold GH at g;split at g
 case h_2=>exact absurd g.symm R
 rename_i x _;obtain⟨C,q⟩:=ACL x;generalize ACl x=y at g C q;obtain⟨U,M,l⟩:=Jd.1 E;have K:∀b,b<240->(DC e k.ws).get b=if b∈k.ws then .chan By else e.get b:=λb c=>JH _ _ _ d.few c
 refine wp_loop_rounds 64 (ij d L V u S z (φ0:=φ) (w0:=w) l (λhk tr φk wk G D ⟨a5,a3⟩ a1 O I s1 s2 s3 s4=>?_) 64 {next:=h.next,low:=h.next,high:=0,mark:=h.mark,bl:=h.bl} [] φ w a (H.AGA rfl rfl) (.refl _ _ _) U M (λb c n _=>l b c n) q);obtain⟨f,i,q3,t⟩:=ig.1 O;have s:=G.AIa t (CD h.low y.low) (C9 h.high y.high) h.mark;have p:=l k.it d.itL d.itA;rw[<- DI k.it d.itL,u]at p;obtain⟨a4,a2,T⟩:=p.AFm;obtain⟨pb,B,rfl⟩:=T.eq;have r:=D.join B f (ABe i) (ABe q3.symm) t;rw[f]at s;refine Z k.out _ _ φk I wk ⟨.nil A,s,Jd.2 ⟨s1,s2,λb c n=>?_⟩,r⟩ g.symm;rw[Env.AEy _ _ _ _ d.moL c,K b c];by_cases f:b=k.more
 ·rw[If f,f,s4];exact .bool _
 ·rw[No f]
  by_cases i:b∈k.ws
  ·rw[If i];exact .unk
  ·rw[No i];exact(s3 b c n i).mono r.le
end
section
variable {P:yx}{ty:TTy}{F:AEh}{A:List Nat}{N:Nat}
theorem Evo.AHo{φ ψ:Phi}{h g h':Hp}{w w':ya}(ev:Evo φ g w ψ h' w')(a:g.bl=h.bl)(h2:g.next=h.next)(b:g.low=h.low)(c:g.high=h.high):Evo φ h w ψ h' w' where
 le:=ev.le
 new:=by rw[<- h2];exact ev.new
 next:=by rw[<- h2];exact ev.next
 size:=ev.size
 tape:=ev.tape
 os:=ev.os
 output:=ev.output
 frame:=by unfold Live;rw[<- a];exact ev.frame
 back:=by
  have:=ev.back;unfold Live at this ⊢;rw[a]at this;exact this
 kept:=by rw[<- a,<- h2];exact ev.kept
 low:=by rw[<- b];exact ev.low
 high:=by rw[<- c];exact ev.high
 shape:=by rw[<- a,<- h2];exact ev.shape
 only:=by rw[<- a,<- h2];exact ev.only
 all:=by rw[<- h2];exact ev.all
theorem ZC(G:DO P ty)(B:Dn P ty F)(T:P.follows .mixedOrders=IN){id:Nat}{ops:Array AAD}{f:Bool}{σ:Sg}{k:Option (Sg->C)}{e:Env}{h:Hp}{X:X}(b:B3 ty A (.region id ops f) σ k F e h=X)(m:X≠.no)
  (j:Co N (.region id ops f)=IN){φ:Phi}{w:ya}{a:Act}(E:AF4 A σ)(y:AEp ty φ nil h w)(x:AR N φ (AE6 A σ e) a){Q:AD7->Act->ya->Prop}(p:Post ty A N F φ h w k X Q):(ADH id ops f).wp P Q a w:=by
 have D:∀c∈ops.toList,∀i,c.dst=BY i->i<N:=by
  intro c n i U;unfold Co at j;rw[AAW]at j;have:=j c n;rw[U]at this;exact BV.1 this
 unfold B3 at b;cases f with
 |false=>
  simp only at b;obtain⟨Z,L,O,W,M,σ',S,tr,o,d,q,r,s⟩:=Qk G B ops.toList [] σ e h X (λK c _=>.plain ty c) E b m;refine wp_region_list ?_;have:=Qx (Q:=Q) (a:=a) (w:=w) (φ:=φ) ops.toList tr D (by rw[d];exact y) (by rw[o];exact x) λ_ a0 R Y t u g=>p.then ⟨r,t,by rw[<- q];exact u,by rw[<- d];exact g⟩ s
  simpa using this
 |true=>
  simp only at b;cases l:Wj ty ops.toList with
  |none=>rw[l]at b;exact absurd b.symm m
  |some z=>
   rw[l]at b;obtain⟨bs,I,J,V,H⟩:=bM l;have b:HS ty A ops.toList (Lz k) z ops.toList σ F e {next:=h.next,low:=h.low,high:=h.high,mark:=h.next,bl:=h.bl}=X:=b;obtain⟨Z,L,O,W,M,σ',S,tr,o,d,q,r,s⟩:=Qk G B ops.toList z σ e _ X (λK c n=>by obtain⟨xs,_,h⟩:=H K c n;exact h.ok) E b m;have:=lU (id:=id) (Q:=Q) (a:=a) (w:=w) (φ0:=φ) T (RS I J) (jL I J V H tr) tr D (by rw[d];exact y.AGA rfl rfl) (by rw[o];exact x)
    λa0 R Y t u g=>p.then ⟨r,t,by rw[<- q];exact u,by rw[d]at g;exact g.AHo rfl rfl rfl rfl⟩ s
   simpa using this
theorem XR(x:P.follows .mixedOrders=IN){c:ADb}{s:C}(p:∀{e:Env} {h:Hp} {X:X},s F e h=X->X≠.no->∀(φ:Phi) (w:ya) (a:Act),AEp ty φ nil h w->AR N φ (AE6 A [] e) a->∀(Q:AD7->Act->ya->Prop),Post ty A N F φ h w By X Q->c.wp P Q a w):
  ∀(n:Nat) {e:Env} {h:Hp} {X:X},iter s n F e h=X->X≠.no->∀(φ:Phi) (w:ya) (a:Act),AEp ty φ nil h w->AR N φ (AE6 A [] e) a->∀(Q:AD7->Act->ya->Prop),Post ty A N F φ h w By X Q->ACK P c Q n a w
 |0,e,h,X,d,o=>by exact absurd d.symm o
 |n+1,e,h,X,d,o=>by
  intro φ w a r q Q m;unfold iter at d;cases k:s F e h with
  |no=>rw[k]at d;exact absurd d.symm o
  |norm t u=>
   rw[k]at d;simp only at d;refine p k (λh=>by cases h) φ w a r q _ {go:=(λ_ h=>by cases h),norm:=λ_ z B G y E l b=>?_,exit:=(λ_ _ _ _ _ _ _ b=>by cases b),ret:=(λ_ _ _ _ _ _ b=>by cases b)};cases b;exact XR x p n d o _ _ _ l.rel l.ar _ {go:=(λ_ h=>by cases h),norm:=λh g i j f w2 g2 b=>m.norm h g i j f w2 (l.trans g2) b,exit:=λid g i j f w2 g2 b=>m.exit id g i j f w2 (l.trans g2) b,ret:=λg i j f w2 g2 b=>m.ret g i j f w2 (l.trans g2) b}
  |exit D t u=>
   rw[k]at d;refine p k (λh=>by cases h) φ w a r q _ {go:=(λ_ h=>by cases h),norm:=(λ_ _ _ _ _ _ _ b=>by cases b),exit:=λid g i j f w2 g2 b=>m.exit id g i j f w2 g2 (d.symm.trans b),ret:=(λ_ _ _ _ _ _ b=>by cases b)}
  |ret t u=>
   rw[k]at d;refine p k (λh=>by cases h) φ w a r q _ {go:=(λ_ h=>by cases h),norm:=(λ_ _ _ _ _ _ _ b=>by cases b),exit:=(λ_ _ _ _ _ _ _ b=>by cases b),ret:=λg i j f w2 g2 b=>m.ret g i j f w2 g2 (d.symm.trans b)}
theorem TP{φ:Phi}{h:Hp}{w:ya}{k':Sg->C}{X:X}{Q:AD7->Act->ya->Prop}(p:Post ty A N F φ h w (BY k') X Q){a:C}{e:Env}(c:BB a (k' []) F e h=X)(n:X≠.no):
  ∃k,a F e h=k/\k≠.no/\Post ty A N F φ h w By k Q:=by
 unfold BB at c;cases j:a F e h with
 |no=>rw[j]at c;exact absurd c.symm n
 |norm l m=>
  rw[j]at c;exact⟨_,rfl,(λh=>by cases h),{go:=(λ_ h=>by cases h),norm:=λ_ g i f d w2 g2 b=>by cases b;exact p.go k' rfl [] _ _ f d w2 g2 c,exit:=(λ_ _ _ _ _ _ _ b=>by cases b),ret:=(λ_ _ _ _ _ _ b=>by cases b)}⟩
 |exit o l m=>
  rw[j]at c;exact⟨_,rfl,(λh=>by cases h),{go:=(λ_ h=>by cases h),norm:=(λ_ _ _ _ _ _ _ b=>by cases b),exit:=λid g i f d w2 g2 b=>p.exit id g i f d w2 g2 (c.symm.trans b),ret:=(λ_ _ _ _ _ _ b=>by cases b)}⟩
 |ret l m=>
  rw[j]at c;exact⟨_,rfl,(λh=>by cases h),{go:=(λ_ h=>by cases h),norm:=(λ_ _ _ _ _ _ _ b=>by cases b),exit:=(λ_ _ _ _ _ _ _ b=>by cases b),ret:=λg i f d w2 g2 b=>p.ret g i f d w2 g2 (c.symm.trans b)}⟩
theorem Tt{φ:Phi}{h:Hp}{w:ya}{X:X}{Q:AD7->Act->ya->Prop}(p:Post ty A N F φ h w By X Q){id:Nat}{a:C}{e:Env}(c:AY id a F e h=X)(q:X≠.no):
  ∃l,a F e h=l/\l≠.no/\Post ty A N F φ h w By l (AEG id Q):=by
 unfold AY at c;cases j:a F e h with
 |no=>rw[j]at c;exact absurd c.symm q
 |norm m n=>
  rw[j]at c;exact⟨_,rfl,(λh=>by cases h),{go:=(λ_ h=>by cases h),norm:=λh g i f d w2 g2 b=>p.norm h g i f d w2 g2 (c.symm.trans b),exit:=(λ_ _ _ _ _ _ _ b=>by cases b),ret:=(λ_ _ _ _ _ _ b=>by cases b)}⟩
 |exit o m n=>
  rw[j]at c;simp only at c;refine⟨_,rfl,(λh=>by cases h),{go:=(λ_ h=>by cases h),norm:=λ_ _ _ _ _ _ _ b=>(by cases b),exit:=λr g i f d w2 g2 b=>?_,ret:=λ_ _ _ _ _ _ b=>(by cases b)}⟩;cases b;unfold AEG;cases k:yA o id with
  |true=>
   rw[k]at c;simp only[A0.1 k,if_true];exact p.norm rfl _ _ f d w2 g2 c.symm
  |false=>
   rw[k]at c;simp only[Fh k,if_false];exact p.exit o _ _ f d w2 g2 c.symm
 |ret m n=>
  rw[j]at c;exact⟨_,rfl,(λh=>by cases h),{go:=(λ_ h=>by cases h),norm:=(λ_ _ _ _ _ _ _ b=>by cases b),exit:=(λ_ _ _ _ _ _ _ b=>by cases b),ret:=λg i f d w2 g2 b=>p.ret g i f d w2 g2 (c.symm.trans b)}⟩
theorem Eg(y:DO P ty)(x:Dn P ty F)(s:P.follows .mixedOrders=IN):∀(c:ADb) {σ:Sg} {k:Option (Sg->C)} {e:Env} {h:Hp} {X:X},B3 ty A c σ k F e h=X->X≠.no->Co N c=IN->
  ∀(φ:Phi) (w:ya) (a:Act),AF4 A σ->AEp ty φ nil h w->AR N φ (AE6 A σ e) a->∀(Q:AD7->Act->ya->Prop),Post ty A N F φ h w k X Q->c.wp P Q a w
 |.skip,σ,k,e,h,X,b,f,g=>by
  intro φ w a m l j Q d;exact wp_skip (d.then ⟨m,l,j,.refl _ _ _⟩ b)
 |.region id b2 a9,σ,k,e,h,X,b,f,g=>by
  intro φ w a m l j Q d;exact ZC y x s b f g m l j d
 |.seq i z,σ,k,e,h,X,b,f,g=>by
  intro φ w a m l j Q d;have g:(Co N i && Co N z)=IN:=g;rw[yE]at g;have b:B3 ty A i σ (BY λσ=>B3 ty A z σ k) F e h=X:=b;refine wp_seq (Eg y x s i b f g.1 _ _ _ m l j _ {go:=λJ R σ' e' h' b4 a' w' E q=>?_,norm:=λh=>(by cases h),exit:=d.exit,ret:=d.ret});cases R;exact Eg y x s z q f g.2 _ _ _ E.sg E.rel E.ar _ {go:=λJ R σ2 u n D B w2 g2 q=>d.go J R σ2 u n D B w2 (E.trans g2) q,norm:=λh u n D B w2 g2 q=>d.norm h u n D B w2 (E.trans g2) q,exit:=λid u n D B w2 g2 q=>d.exit id u n D B w2 (E.trans g2) q,ret:=λu n D B w2 g2 q=>d.ret u n D B w2 (E.trans g2) q}
 |.cond c i z,σ,k,e,h,X,b,f,g=>by
  intro φ w a m l j Q d;have g:(Co N i && Co N z)=IN:=g;rw[yE]at g;unfold B3 at b;cases O:cO ⟨A,σ⟩ c with
  |none=>rw[O]at b;exact absurd b.symm f
  |some W=>
   rw[O]at b;simp only at b;have U:=j.ev (FV O e);have T:∀{K:Option (Sg->C)} {t:Go.Proofs.YtldjiljipddebaaGreat.X},Iy W (B3 ty A i σ K) (B3 ty A z σ K) F e h=t->t≠.no->Post ty A N F φ h w K t Q->(Code.cond c i z).wp P Q a w:=by
    intro K t b f d;unfold Iy at b;cases hv:W e with
    |bool a5=>
     rw[hv]at b U;have Z:=U.AFc;cases a5 with
     |true=>exact wp_cond_true Z (Eg y x s i b f g.1 _ _ _ m l j _ d)
     |false=>exact wp_cond_false Z (Eg y x s z b f g.2 _ _ _ m l j _ d)
    |_=>rw[hv]at b;exact absurd b.symm f
   cases k with
   |none=>exact T b f d
   |some J=>
    simp only at b;cases hf:(Lk i && Lk z)with
    |false=>rw[hf]at b;exact T b f d
    |true=>
     rw[hf]at b;obtain⟨V,o,n,H⟩:=TP d b f;exact T o n H
 |.block id i,σ,k,e,h,X,b,f,g=>by
  intro φ w a m l j Q d;have g:Co N i=IN:=g;have one:∀{t:Go.Proofs.YtldjiljipddebaaGreat.X},AY id (B3 ty A i [] By) F e h=t->t≠.no->Post ty A N F φ h w By t Q->(Code.block id i).wp P Q a w:=by
   intro t b f d;obtain⟨V,o,n,H⟩:=Tt d b f;exact wp_block (Eg y x s i o n g _ _ _ (.nil A) l (j.nil m) _ H)
  unfold B3 at b;cases k with
  |none=>exact one b f d
  |some J=>
   simp only at b;obtain⟨V,o,n,H⟩:=TP d b f;exact one o n H
 |.loop i,σ,k,e,h,X,b,f,g=>by
  intro φ w a m l j Q d;have g:Co N i=IN:=g;have plain:iter (B3 ty A i [] By) rounds F e h=X->(AEZ i).wp P Q a w:=by
   intro b;refine wp_loop_rounds rounds (XR s (λo n φ w a l j Q d=>Eg y x s i o n g _ _ _ (.nil A) l j _ d) rounds b f _ _ _ l (j.nil m) _ {go:=λ_ h=>(by cases h),norm:=λ_ u n D B w2 g2 q=>?_,exit:=d.exit,ret:=d.ret})
   exfalso
   subst q;have:∀(L:Nat) (e:Env) (h:Hp),iter (B3 ty A i [] By) L F e h≠.norm u n:=by
    intro L
    induction L with
    |zero=>intro e h p;cases p
    |succ L ih=>
     intro e h p;unfold iter at p;cases I:B3 ty A i [] By F e h with
     |norm e1 o=>rw[I]at p;exact ih e1 o p
     |no=>rw[I]at p;cases p
     |exit _ _ _=>rw[I]at p;cases p
     |ret _ _=>rw[I]at p;cases p
   exact this _ e h b
  unfold B3 at b;cases S:YE A i with
  |none=>rw[S]at b;exact plain b
  |some r=>
   rw[S]at b;have b:Jh r (B3 ty A i [] By) F e h=X:=b;obtain⟨id,o1,o2,M,G⟩:=Tg S;unfold Jh at b;split at b
   case h_2=>exact absurd b.symm f
   rename_i ad a1;split at b
   case h_2=>exact plain b
   rename_i b1 b3 seen b0 a6;split at b
   case h_2=>exact absurd b.symm f
   split at b
   case h_2=>exact absurd b.symm f
   rename_i es c a7;split at b
   case h_2=>exact plain b
   have Y:Co N (.region id #[o1,o2] IT)=IN/\Co N (.seq (.cond (.tmp r.more) .skip (.exit r.out)) M)=IN:=by
    rw[G.code]at g;have g:(Co N (.region id #[o1,o2] IT) && Co N (.seq (.cond (.tmp r.more) .skip (.exit r.out)) M))=IN:=g;exact Bool.and_eq_true_iff.1 g
   have a3:r.nx<N/\r.more<N:=by
    have:=Y.1;unfold Co at this;simp only[List.all_cons,List.all_nil,Bool.and_true,yE,G.AG0,G.AHF]at this;exact⟨BV.1 this.1,BV.1 this.2⟩
   have a8:ACU (ACk (.cond (.tmp r.more) .skip (.exit r.out)) M)<ACU i:=by
    rw[G.code];simp;omega
   obtain⟨a4,b⟩:=uf b f;obtain⟨a0,b⟩:=uf b f;exact UL G a3 (λo n φ w a l j Q d=>Eg y x s (.seq (.cond (.tmp r.more) .skip (.exit r.out)) M) o n Y.2 _ _ _ (.nil A) l j _ d) a1 a4 (As.1 a0) b f l (j.nil m) d.exit
 |.exit id,σ,k,e,h,X,b,f,g=>by
  intro φ w a m l j Q d;have b:(.exit id e h:Go.Proofs.YtldjiljipddebaaGreat.X)=X:=b;exact wp_exit (d.exit id e h φ a w ⟨.nil A,l,j.nil m,.refl _ _ _⟩ b.symm)
 |.ret,σ,k,e,h,X,b,f,g=>by
  intro φ w a m l j Q d;have b:(.ret e h:Go.Proofs.YtldjiljipddebaaGreat.X)=X:=b;exact wp_ret (d.ret e h φ a w ⟨.nil A,l,j.nil m,.refl _ _ _⟩ b.symm)
 |.rangeFunc _ _ _ _,_,_,_,_,X,b,f,_=>by exact absurd b.symm f
 |.scope i,σ,k,e,h,X,b,f,g=>by
  intro φ w a m l j Q d;have g:Co N i=IN:=g;have b:B3 ty A i σ k F e h=X:=b;exact wp_scope_straight (Eg y x s i b f g _ _ _ m l j _ {go:=d.go,norm:=d.norm,exit:=d.exit,ret:=d.ret})
 |.label _,σ,k,e,h,X,b,f,g=>by
  intro φ w a m l j Q d;exact wp_label (d.then ⟨m,l,j,.refl _ _ _⟩ b)
 |.goto _,_,_,_,_,X,b,f,_=>by exact absurd b.symm f
 |.refuse _,_,_,_,_,X,b,f,_=>by exact absurd b.symm f
termination_by c=>ACU c
decreasing_by
 all_goals simp_wf
 all_goals first|omega|(simp_all;omega)
end
section
variable {P:yx}{ty:TTy}{A:List Nat}{N:Nat}{φ:Phi}{h h':Hp}{w:ya}{e:Env}{a:Act}{v:xU}
theorem PT{t:Nat}(h:Qi A t=IN)(e:Env):AE6 A [] e t=BY (J t e):=by
 unfold Qi at h;rw[Er];show(match memN t A with|true=>By|false=>match yp t 240 with|true=>BY (J t e)|false=>By)=_;cases a:memN t A with
 |true=>rw[a]at h;cases h
 |false=>
  rw[a]at h;have h:yp t 240=IN:=h;simp only[h]
def TJ(tmps:Array xU):ACq->Sem xU
 |.tmp t=>pure (tmps.getD t undef)
 |.cell a t=>do loadVar t (<- asAddr (tmps.getD a undef))
theorem VL(fn:Func)(tmps:Array xU):ADq fn tmps=(do let vs <- fn.results.mapM (TJ tmps);pure (if h:vs.size=1 then vs[0]else .tuple vs)):=by
 unfold ADq
 congr 2
theorem Zk(f:ACq->Sem xU)(l:Array ACq){vs:List xU}(h:(l.toList.mapM f).run P w=.ok vs w):(l.mapM f).run P w=.ok ⟨vs⟩ w:=by
 have:l.mapM f=List.toArray <$> l.toList.mapM f:=by
  conv=>lhs;rw[<- Array.toArray_toList (xs:=l)]
  rw[List.mapM_toArray]
 rw[this,map_eq_pure_bind,xr,h,xd,xu]
theorem HV(hT:DO P ty)(H:AEp ty φ nil h w)(HA:AR N φ (AE6 A [] e) a):∀{l:List ACq} {rs:List RV} {k:List xU->R},rsC ty A l=BY rs->Go.Proofs.YtldjiljipddebaaGreat.results e h k rs=.ok v h'->
  ∃vs vs',AE5 φ vs vs'/\k vs=.ok v h'/\(l.mapM (TJ a.tmps)).run P w=.ok vs' w
 |[],rs,k,hc,hr=>by
  cases hc;exact⟨[],[],.nil,hr,by simp⟩
 |.tmp t::l,rs,k,hc,hr=>by
  unfold rsC at hc;split at hc
  ·cases hc
  rename_i ht;split at hc
  case h_2=>cases hc
  rename_i r hrs;cases hc;unfold Go.Proofs.YtldjiljipddebaaGreat.results at hr;have hr:AEw (J t e) (λv=>Go.Proofs.YtldjiljipddebaaGreat.results e h (λvs=>k (v::vs)) r)=.ok v h':=hr;rw[Ba]at hr;obtain⟨vs,vs',h1,h2,h3⟩:=HV hT H HA hrs hr;have h4:=HA.rel t _ (PT ht e);exact⟨_,_,.cons h4 h1,h2,by simp[AB2,TJ,h3]⟩
 |.cell c t::l,rs,k,hc,hr=>by
  unfold rsC at hc;split at hc
  ·cases hc
  rename_i ht;split at hc
  case h_2=>cases hc
  rename_i ti hti;split at hc
  case h_2=>cases hc
  rename_i r hrs;have T:=hT t ti hti;have h4:=HA.rel c _ (PT ht e);cases hag:ti.k.agg with
  |true=>
   rw[hag]at hc;cases hc;unfold Go.Proofs.YtldjiljipddebaaGreat.results Fc at hr;simp only at hr;cases AHG:EI (J c e)with
   |no=>rw[AHG]at hr;cases hr
   |ok ad=>
    rw[AHG]at hr;simp only at hr;cases hl:loadN ti.size ad h with
    |no=>rw[hl]at hr;cases hr
    |ok u h2=>
     rw[hl]at hr;simp only[Ba]at hr;rw[IU AHG]at h4;obtain⟨a',ha',hra⟩:=h4.AFm;obtain⟨_,l',hv,hrun⟩:=SU (P:=P) H hl hra (λh=>h);obtain⟨vs,vs',h1,h5,h3⟩:=HV hT H HA hrs hr;refine⟨_,_,.cons hv h1,h5,?_⟩;have:(TJ a.tmps (.cell c t)).run P w=.ok (.agg l'.toArray) w:=by
      unfold TJ;simp only[ha',asAddr,xr,xu,xd,loadVar,T.agg,hag,if_true,T.size,hrun]
     simp[AB2,this,h3]
  |false=>
   rw[hag]at hc;cases hc;unfold Go.Proofs.YtldjiljipddebaaGreat.results Fc at hr;simp only at hr;cases AHG:EI (J c e)with
   |no=>rw[AHG]at hr;cases hr
   |ok ad=>
    rw[AHG]at hr;simp only at hr;cases hl:AEi ad h with
    |no=>rw[hl]at hr;cases hr
    |ok u h2=>
     rw[hl]at hr;simp only[Ba]at hr;rw[IU AHG]at h4;obtain⟨a',ha',hra⟩:=h4.AFm;obtain⟨_,v',hcell,hv⟩:=ST H hl hra (λh=>h);obtain⟨vs,vs',h1,h5,h3⟩:=HV hT H HA hrs hr;refine⟨_,_,.cons hv h1,h5,?_⟩;have:(TJ a.tmps (.cell c t)).run P w=.ok v' w:=by
      unfold TJ;simp only[ha',asAddr,xr,xu,xd,loadVar,T.agg,hag,ye,if_false,run_load,hcell]
     simp[AB2,this,h3]
theorem Ow(m:DO P ty)(H:AEp ty φ nil h w)(k:AR N φ (AE6 A [] e) a){c:Func}{i:List RV}(n:rsC ty A c.results.toList=BY i)(g:E0 i e h=.ok v h'):
  h'=h/\∃v',AEm φ v v'/\(ADq c a.tmps).run P w=.ok v' w:=by
 unfold E0 at g;obtain⟨vs,j,d,b,l⟩:=HV m H k n g;have p:=Zk (P:=P) (w:=w) (TJ a.tmps) c.results l;rw[VL];simp only[xr,p,xd,xu];unfold Jv at b;split at b
 ·cases b
  cases d with
  |cons s r=>cases r;exact⟨rfl,_,s,rfl⟩
 ·rename_i o
  cases b;refine⟨rfl,_,.tuple d,?_⟩;have:j.length≠1:=by
   rw[d.length];intro f;cases vs with
   |nil=>cases f
   |cons u t=>
    cases t with
    |nil=>exact o u rfl
    |cons _ _=>simp at f
  have q:¬(Array.mk j).size=1:=this;rw[dif_neg q]
theorem TR:∀(a:List xU) (e:Env) (i t:Nat),i+a.length<=240->t<240->(Au e i a).get t=if i<=t/\t<i+a.length then a.getD (t - i) AEl else e.get t
 |[],e,i,t,_,_=>by
  rw[No (by simp)];rfl
 |v::f,e,i,t,g,d=>by
  simp only[xh]at g;unfold Au;rw[TR f _ (i+1) t (by omega) d];by_cases b:i+1<=t/\t<i+1+f.length
  ·rw[If b,If (by simp only[xh];omega)]
   have:t - i=(t - (i+1))+1:=by omega
   rw[this,List.getD_cons_succ]
  ·rw[No b,Env.AEy _ _ _ _ (by omega) d]
   by_cases c:t=i
   ·subst c
    rw[If rfl,If (by simp only[xh];omega)];simp
   ·rw[No c,No (by simp only[xh];omega)]
theorem rS{t:Nat}(b:t<240):e0.get t=AEl:=by
 have a:Mc (λc=>e0.get c=AEl) 240:=by
  repeat' (first|exact trivial|refine⟨rfl,?_⟩)
 exact a.at t b
theorem fq{c d:List xU}(f:AE5 φ c d)(q:c.length<=240)(n:Nat):
  AR (max c.length n) φ (AE6 A [] (Au e0 0 c)) {tmps:=(⟨d⟩:Array xU)++Array.replicate (n - (⟨d⟩:Array xU).size) undef,defers:=[]} where
 size:=by
  have:=f.length;simp only[Array.size_append,Array.size_replicate,AB5];omega
 defs:=rfl
 rel:=λa m b=>by
  rw[Er]at b;have b:(match memN a A with|true=>By|false=>match yp a 240 with|true=>BY (J a (Au e0 0 c))|false=>By)=BY m:=b;cases i:memN a A with
  |true=>rw[i]at b;cases b
  |false=>
   rw[i]at b;simp only at b;cases e:yp a 240 with
   |false=>rw[e]at b;cases b
   |true=>
    rw[e]at b;cases b;have g:=BV.1 e;rw[DI a g,TR c e0 0 a (by omega) g,rS g];have p:=f.length;simp only[yw];by_cases h:a<c.length
    ·rw[If (by omega),Nat.sub_zero,Array.getElem?_append_left (by simp only[AB5];omega)]
     obtain⟨o,k,l⟩:=f.get a c[a] (xc h);have:c.getD a AEl=c[a]:=by rw[xe,xc h];rfl
     rw[this];have j:(⟨d⟩:Array xU)[a]? =BY o:=by simpa using k
     rw[j];exact l
    ·rw[No (by omega),Array.getElem?_append_right (by simp only[AB5];omega),Array.getElem?_replicate]
     split<;>exact .tuple .nil
theorem ZE{l:List ACq}{b:List RV}(a:rsC ty A l=BY b):Qz b=By:=by
 cases l with
 |nil=>cases a;rfl
 |cons d l=>
  cases d with
  |tmp c=>
   unfold rsC at a;split at a
   ·cases a
   ·split at a
    ·cases a;rfl
    ·cases a
  |cell e c=>
   unfold rsC at a;split at a
   ·cases a
   ·split at a
    ·split at a
     ·split at a
      ·cases a;rfl
      ·cases a;rfl
     ·cases a
    ·cases a
def ub(P:yx)(ty:TTy)(g:Nat)(b:Body):Prop:=∃a A,P.funcs[g]? =BY a/\a.name≠"runtime.NumGoroutine" /\Zx ty A a=BY b
def A6:Body:=⟨[],cNo⟩
theorem Du{n m:Nat}(h:n<=m):∀{c:ADb},Co n c=IN->Co m c=IN
 |.region _ g _,b=>by
  unfold Co at b ⊢;rw[AAW]at b ⊢;intro f e;have:=b f e;split at this
  ·have:=BV.1 this
   exact BV.2 (by omega)
  ·rfl
 |.seq a d,b=>by
  have b:(Co n a && Co n d)=IN:=b;rw[yE]at b;show(Co m a && Co m d)=IN;rw[Du h b.1,Du h b.2];rfl
 |.cond _ a d,b=>by
  have b:(Co n a && Co n d)=IN:=b;rw[yE]at b;show(Co m a && Co m d)=IN;rw[Du h b.1,Du h b.2];rfl
 |.block _ a,b=>Du (c:=a) h b
 |.loop a,b=>Du (c:=a) h b
 |.skip,_=>rfl
 |.exit _,_=>rfl
 |.ret,_=>rfl
 |.rangeFunc _ _ _ _,_=>rfl
 |.scope a,b=>Du (c:=a) h b
 |.label _,_=>rfl
 |.goto _,_=>rfl
 |.refuse _,_=>rfl
theorem bV(n:DO P ty){F:AEh}(C:Dn P ty F)(E:P.follows .mixedOrders=IN){g:Nat}{b:Body}(D:ub P ty g b){i:List xU}(c:enter F b i h=.ok v h'):
  (∃d,P.funcs[g]? =BY d/\d.name≠"runtime.NumGoroutine" /\d.body.isNone=IT)/\
  ∀φ w l,AE5 φ i l->AEp ty φ nil h w->
   Calls P g ⟨l⟩ w λen w'=>∃v' ψ,en=.returned v'/\AEm ψ v v'/\AEp ty ψ nil h' w'/\Evo φ h w ψ h' w':=by
 obtain⟨d,A,x,H,a⟩:=D;unfold Zx at a;cases k:d.body with
 |none=>rw[k]at a;cases a
 |some m=>
  rw[k]at a;simp only at a;cases j:rsC ty A d.results.toList with
  |none=>rw[j]at a;cases a
  |some I=>
   rw[j]at a;simp only at a;cases o:Co d.ntmps m with
   |false=>rw[o]at a;cases a
   |true=>
    rw[o]at a;cases a;refine⟨⟨d,x,H,by rw[k];rfl⟩,λφ w l y z=>?_⟩;unfold enter at c
    dsimp only at c
    rw[ZE j]at c;obtain⟨p,c⟩:=B1 c;have p:i.length<=240:=by rw[<- Bm];exact As.1 p
    have B:=fq (A:=A) y p d.ntmps;refine calls_of_wp x k ?_;have G:B3 ty A m [] By F (Au e0 0 i) h≠.no:=by
     intro f;rw[f]at c;cases c
    refine Eg n C E m (e:=Au e0 0 i) (h:=h) rfl G (Du (ABl _ _) o) _ _ _ (.nil A) z B _ {go:=λ_ h=>(by cases h),norm:=λ_ t u ψ s w1 g1 f=>?_,exit:=λid t u ψ s w1 g1 f=>?_,ret:=λt u ψ s w1 g1 f=>?_}
    ·rw[f]at c
     obtain⟨rfl,v',r,q⟩:=Ow n g1.rel g1.ar j c;exact⟨g1.ar.defs,v',q,v',ψ,rfl,r,g1.rel,g1.evo⟩
    ·rw[f]at c;cases c
    ·rw[f]at c
     obtain⟨rfl,v',r,q⟩:=Ow n g1.rel g1.ar j c;exact⟨g1.ar.defs,v',q,v',ψ,rfl,r,g1.rel,g1.evo⟩
def Md(P:yx)(ty:TTy)(g:Nat)(b:Body):Prop:=∀(d:AEh) (e:List xU) (h:Hp) (v:xU) (h':Hp),Dn P ty d->enter d b e h=.ok v h'->
 (∃a,P.funcs[g]? =BY a/\a.name≠"runtime.NumGoroutine" /\a.body.isNone=IT)/\
 ∀φ w f,AE5 φ e f->AEp ty φ nil h w->
  Calls P g ⟨f⟩ w λk j=>∃i c,k=.returned i/\AEm c v i/\AEp ty c nil h' j/\Evo φ h w c h' j
def BH(P:yx)(ty:TTy)(g:Nat)(b:Body):Prop:=ub P ty g b\/b=A6\/Md P ty g b
def FT.All(p:Nat->Body->Prop):FT->(Nat->Nat)->Prop
 |.mt,_=>True
 |.nd c d e,a=>p (a 0) c/\FT.All p d (λb=>a (2*b+1))/\FT.All p e (λb=>a (2*b+2))
theorem FT.All.get{p:Nat->Body->Prop}:∀{t:FT} {c:Nat->Nat},FT.All p t c->∀{i:Nat} {b:Body},t.get i=BY b->p (c i) b
 |.mt,c,_,i,b,h=>by cases h
 |.nd j m n,c,⟨d,f,g⟩,0,b,h=>by cases h;exact d
 |.nd j m n,c,⟨d,f,g⟩,a+1,b,h=>by
  unfold FT.get at h;have k:ABH a 2=a % 2:=rfl;have l:AAS a 2=a / 2:=rfl;rw[k,l]at h;rcases zq a with hk|hk
  ·rw[hk]at h
   have:=f.get (i:=a/2) h;have e:2*(a/2)+1=a+1:=by omega
   simp only[e]at this;exact this
  ·rw[hk]at h
   have:=g.get (i:=a/2) h;have e:2*(a/2)+2=a+1:=by omega
   simp only[e]at this;exact this
theorem Jj(d:DO P ty)(g:P.follows .mixedOrders=IN){bs:FT}(e:FT.All (BH P ty) bs id):∀n,Dn P ty (call bs n)
 |0=>λc b h v h' a=>by cases a
 |n+1=>λc b h v h' a=>by
  have a:(match bs.get c with|some i=>enter (call bs n) i b h|none=>.no)=.ok v h':=a;cases f:bs.get c with
  |none=>rw[f]at a;cases a
  |some i=>
   rw[f]at a;rcases e.get f with k|rfl|j
   ·exact bV d (Jj d g e n) g k a
   ·exfalso
    have a:(bif yI (Dw b) 240 then H7 [] .no else .no)=.ok v h':=a;obtain⟨_,a⟩:=B1 a;cases a
   ·exact j _ b h v h' (Jj d g e n) a
end
end
noncomputable section
open Go Go.RowKit Go.WideShapes Go.ChangeShapes
def dP:R->Bool
 |.ok (.bool a) _=>a
 |_=>IT
def tL:Phi:=λ_=>By
theorem Ph(ty:TTy)(w:ya):AEp ty tL nil I8 w where
 dom:=λb c a=>by cases a
 inj:=λb f c g a=>by cases a
 row:=λb c a=>by cases a
 fresh:=λb _=>LC 9 b
 kind:=λb c d h e a=>by cases a
 inp:=λb c a=>by cases a
theorem eH{P:yx}{ty:TTy}{bs:FT}(d:∀n,Dn P ty (call bs n)){n f:Nat}(h:dP (call bs n f [] I8)=IN)(w:ya):
  Calls P f #[] w λe w'=>e=.returned (.bool IN)/\Below w.heap.size w w':=by
 cases a:call bs n f [] I8 with
 |no=>rw[a]at h;cases h
 |ok v c=>
  rw[a]at h;obtain⟨_,g⟩:=d n f [] I8 v c a;refine(g tL w [] .nil (Ph ty w)).mono λe w' ⟨q,r,i,l,_,ev⟩=>?_
  cases v with
  |bool b=>
   have h:b=IN:=h;subst h;have:=l.AFc;subst this;exact⟨i,⟨ev.os,ev.tape,ev.output,ev.size,λm j=>ev.frame m j λo p k=>by cases k⟩⟩
  |_=>cases h
section
variable {H:Type}{enc:TypeId×xU->H}{P:yx}
theorem Oc{f:Func}{s:ChangeSpec}{apart fresh handsOn again:Bool}{W W':ya}{args:Array xU}{v:xU}{ds gs:List (DataW H)}{before pa pv:List MemPlace}
  (hW:DataW.Whole enc P f.params.toList s.vars apart W args.toList ds gs before)
  (hres:∀(b:Nat) (sp:Nat->Bool) (hd:Bool),ADz enc P W' b sp hd f.resultTypes.toList (v.resultList f.resultTypes.size) (s.fn H (ds++gs)).results [])
  (hargs:∀sp:Nat->Bool,(∀p∈before,sp p.block=IN)->ADz enc P W' 0 sp IN f.params.toList args.toList (s.fn H (ds++gs)).args pa)
  (hvars:∀sp:Nat->Bool,(∀p∈before,sp p.block=IN)->DataW.TrodVars enc P W' sp s.vars (s.fn H (ds++gs)).vars pv)
  (hps:before=pa++pv)(hb:Below W.heap.size W W')
  (hok:∀(j:Nat) (t:TypeId) (r:xU),f.resultTypes[j]? =BY t->(v.resultList f.resultTypes.size)[j]? =BY r->AAr P W' .any 0 t r):
  s.post enc P f apart fresh handsOn again W args v W':=by
 have hlt:∀p∈before,p.block<W.heap.size:=λp hp=>hW.lt p hp
 have hold:∀p∈before,(λb=>decide (b<W.heap.size)) p.block=IN:=λp hp=>by simpa using hlt p hp
 refine⟨ds,gs,before,[],pa,pv,hW,hres _ _ _,hargs _ hold,hvars _ hold,World.keptBut_mono (λp hp=>⟨hp,?_⟩) (hb.frame (· ∈before)),λ_=>?_⟩
 ·rw[hps,yO]at hp
  exact Or.inr hp
 ·obtain⟨_,_,_,_,_,hz,hn⟩:=hW
  refine⟨hok,_,_,([]++pa)++pv,⟨[]++pa,pv,trodAll_append (hargs _ (λ_ _=>rfl)) (hres _ _ _),hvars _ (λ_ _=>rfl),rfl,?_,?_⟩,?_⟩
  ·intro b off hp
   have hin:MemPlace.cell b off∈before:=by rw[hps];simpa using hp
   rw[hb.frozen (hlt _ hin)];exact hz b off hin
  ·intro ha
   have:=hn ha;rw[hps]at this
   simpa using this
  ·intro p hp _
   rw[hps]
   simpa using hp
end
end
noncomputable section
open Go
namespace VT
def has:VT->Nat->Prop
 |.mt,_=>False
 |.nd _ _ _,0=>True
 |.nd _ b c,a+1=>if a % 2=0 then b.has (a/2)else c.has (a/2)
theorem AEu(v:xU)(l r:VT)(k:Nat):(VT.nd v l r).has (k+1)=if k % 2=0 then l.has (k/2)else r.has (k/2):=by rw[has]
theorem F2:∀(t:VT) (i:Nat) (x:xU),(∀j,j<i->t.has j)->∃t',t.set i x=BY t'
 |.mt,0,x,_=>⟨_,rfl⟩
 |.mt,i+1,x,h=>(h 0 (ABE i)).elim
 |.nd v l r,0,x,_=>⟨_,rfl⟩
 |.nd v l r,k+1,x,h=>by
  rw[AFE];by_cases hk:k % 2=0
  ·rw[If hk]
   obtain⟨l',hl⟩:=F2 l (k/2) x λj hj=>by
    have:=h (2*j+1) (by omega);rw[AEu,If (by omega)]at this;have e:2*j/2=j:=by omega
    rwa [e]at this
   rw[hl];exact⟨_,rfl⟩
  ·rw[No hk]
   obtain⟨r',hr⟩:=F2 r (k/2) x λj hj=>by
    have:=h (2*j+1+1) (by omega);rw[AEu,No (by omega)]at this;have e:(2*j+1)/2=j:=by omega
    rwa [e]at this
   rw[hr];exact⟨_,rfl⟩
theorem HY:∀(t:VT) (i:Nat) (x:xU) (c:VT),t.set i x=BY c->∀j,(j=i\/t.has j)->c.has j
 |.mt,0,x,c,b,j,a=>by
  obtain rfl:VT.nd x .mt .mt=c:=Option.some.inj b;rcases a with rfl|a
  ·exact trivial
  ·exact a.elim
 |.mt,i+1,x,c,b,j,a=>by cases b
 |.nd v f g,0,x,c,b,j,a=>by
  obtain rfl:VT.nd x f g=c:=Option.some.inj b;cases j with
  |zero=>exact trivial
  |succ j=>
   rcases a with a|a
   ·cases a
   ·rw[AEu]at a ⊢;exact a
 |.nd v f g,i+1,x,c,b,j,a=>by
  rw[AFE]at b;split at b
  ·rename_i h
   cases e:f.set (i/2) x with
   |none=>rw[e]at b;cases b
   |some k=>
    rw[e]at b;obtain rfl:VT.nd v k g=c:=Option.some.inj b;cases j with
    |zero=>exact trivial
    |succ j=>
     rw[AEu];split
     ·rename_i d
      refine HY f _ x k e _ ?_;rcases a with a|a
      ·left;have:j=i:=by omega
       rw[this]
      ·right;rw[AEu,If d]at a;exact a
     ·rename_i d
      rcases a with a|a
      ·have:j=i:=by omega
       exact absurd (this ▸ h) d
      ·rw[AEu,No d]at a;exact a
  ·rename_i h
   cases e:g.set (i/2) x with
   |none=>rw[e]at b;cases b
   |some l=>
    rw[e]at b;obtain rfl:VT.nd v f l=c:=Option.some.inj b;cases j with
    |zero=>exact trivial
    |succ j=>
     rw[AEu];split
     ·rename_i d
      rcases a with a|a
      ·have:j=i:=by omega
       exact absurd (this ▸ d) h
      ·rw[AEu,If d]at a;exact a
     ·rename_i d
      refine HY g _ x l e _ ?_;rcases a with a|a
      ·left;have:j=i:=by omega
       rw[this]
      ·right;rw[AEu,No d]at a;exact a
def lay(t:VT)(i:Nat)(x:xU):VT:=(t.set i x).getD t
theorem AFO{t:VT}{i:Nat}{x:xU}(h:∀j,j<i->t.has j):t.set i x=BY (t.lay i x):=by
 obtain⟨b,a⟩:=F2 t i x h;unfold lay;rw[a];rfl
theorem AFf{t:VT}{i:Nat}{x:xU}(h:∀j,j<i->t.has j)(j:Nat):(t.lay i x).get j=if j=i then x else t.get j:=AEy _ _ _ _ (AFO h) j
theorem AFo{t:VT}{i:Nat}{x:xU}(h:∀j,j<i->t.has j)(j:Nat)(a:j=i\/t.has j):(t.lay i x).has j:=HY _ _ _ _ (AFO h) j a
end VT
namespace BT
theorem AEu(v:Blk)(l r:BT)(k:Nat):(BT.nd v l r).has (k+1)=if k % 2=0 then l.has (k/2)else r.has (k/2):=by rw[has]
theorem F2:∀(t:BT) (i:Nat) (x:Blk),(∀j,j<i->t.has j)->∃t',t.set i x=BY t'
 |.mt,0,x,_=>⟨_,rfl⟩
 |.mt,i+1,x,h=>(h 0 (ABE i)).elim
 |.nd v l r,0,x,_=>⟨_,rfl⟩
 |.nd v l r,k+1,x,h=>by
  rw[AFE];by_cases hk:k % 2=0
  ·rw[If hk]
   obtain⟨l',hl⟩:=F2 l (k/2) x λj hj=>by
    have:=h (2*j+1) (by omega);rw[AEu,If (by omega)]at this;have e:2*j/2=j:=by omega
    rwa [e]at this
   rw[hl];exact⟨_,rfl⟩
  ·rw[No hk]
   obtain⟨r',hr⟩:=F2 r (k/2) x λj hj=>by
    have:=h (2*j+1+1) (by omega);rw[AEu,No (by omega)]at this;have e:(2*j+1)/2=j:=by omega
    rwa [e]at this
   rw[hr];exact⟨_,rfl⟩
theorem HY:∀(t:BT) (i:Nat) (x:Blk) (c:BT),t.set i x=BY c->∀j,(j=i\/t.has j)->c.has j
 |.mt,0,x,c,b,j,a=>by
  obtain rfl:BT.nd x .mt .mt=c:=Option.some.inj b;rcases a with rfl|a
  ·exact trivial
  ·exact a.elim
 |.mt,i+1,x,c,b,j,a=>by cases b
 |.nd v f g,0,x,c,b,j,a=>by
  obtain rfl:BT.nd x f g=c:=Option.some.inj b;cases j with
  |zero=>exact trivial
  |succ j=>
   rcases a with a|a
   ·cases a
   ·rw[AEu]at a ⊢;exact a
 |.nd v f g,i+1,x,c,b,j,a=>by
  rw[AFE]at b;split at b
  ·rename_i h
   cases e:f.set (i/2) x with
   |none=>rw[e]at b;cases b
   |some k=>
    rw[e]at b;obtain rfl:BT.nd v k g=c:=Option.some.inj b;cases j with
    |zero=>exact trivial
    |succ j=>
     rw[AEu];split
     ·rename_i d
      refine HY f _ x k e _ ?_;rcases a with a|a
      ·left;have:j=i:=by omega
       rw[this]
      ·right;rw[AEu,If d]at a;exact a
     ·rename_i d
      rcases a with a|a
      ·have:j=i:=by omega
       exact absurd (this ▸ h) d
      ·rw[AEu,No d]at a;exact a
  ·rename_i h
   cases e:g.set (i/2) x with
   |none=>rw[e]at b;cases b
   |some l=>
    rw[e]at b;obtain rfl:BT.nd v f l=c:=Option.some.inj b;cases j with
    |zero=>exact trivial
    |succ j=>
     rw[AEu];split
     ·rename_i d
      rcases a with a|a
      ·have:j=i:=by omega
       exact absurd (this ▸ d) h
      ·rw[AEu,If d]at a;exact a
     ·rename_i d
      refine HY g _ x l e _ ?_;rcases a with a|a
      ·left;have:j=i:=by omega
       rw[this]
      ·right;rw[AEu,No d]at a;exact a
def lay(t:BT)(i:Nat)(x:Blk):BT:=(t.set i x).getD t
theorem AFO{t:BT}{i:Nat}{x:Blk}(h:∀j,j<i->t.has j):t.set i x=BY (t.lay i x):=by
 obtain⟨b,a⟩:=F2 t i x h;unfold lay;rw[a];rfl
theorem AFf{t:BT}{i:Nat}{x:Blk}(h:∀j,j<i->t.has j)(j:Nat):(t.lay i x).get j=if j=i then x else t.get j:=AEy _ _ _ _ (AFO h) j
theorem AFo{t:BT}{i:Nat}{x:Blk}(h:∀j,j<i->t.has j)(j:Nat)(a:j=i\/t.has j):(t.lay i x).has j:=HY _ _ _ _ (AFO h) j a
end BT
section
variable {F:AEh}{e:Env}{h:Hp}{k a b:C}{f:OpF}{x y:O}
def opX(i:Nat)(r:R)(k:C)(F:AEh)(e:Env):X:=match r with
 |.ok v h=>k F (Env.set i v e) h
 |.no=>.no
def doX(r:R)(k:C)(F:AEh)(e:Env):X:=match r with
 |.ok _ h=>k F e h
 |.no=>.no
def ZF(x:X)(b:C)(F:AEh):X:=match x with
 |.norm e h=>b F e h
 |x=>x
def Ko(id:Nat)(x:X):X:=match x with
 |.exit a e h=>bif yA a id then .norm e h else .exit a e h
 |x=>x
def RK(v:xU)(a b:C)(F:AEh)(e:Env)(h:Hp):X:=match v with
 |.bool c=>(bif c then a else b) F e h
 |_=>.no
def Xr(i:Nat)(k:C):C:=λF e h=>k F (Env.set i AEl e) h
def Hz(v:xU)(d:Bool)(a b:C)(F:AEh)(e:Env)(h:Hp):X:=match v with
 |.bool c=>(bif d == c then a else b) F e h
 |.tuple _=>b F e h
 |_=>.no
theorem ID{i:Nat}{v:xU}:opX i (.ok v h) k F e=k F (Env.set i v e) h:=rfl
theorem bK{v:xU}:doX (.ok v h) k F e=k F e h:=rfl
theorem Ay:ZF (.norm e h) b F=b F e h:=rfl
theorem Cr:ZF (.ret e h) b F=.ret e h:=rfl
theorem Pb{i:Nat}:ZF (.exit i e h) b F=.exit i e h:=rfl
theorem Bt{i:Nat}:Ko i (.norm e h)=.norm e h:=rfl
theorem CE{i:Nat}:Ko i (.ret e h)=.ret e h:=rfl
theorem A5{i:Nat}:Ko i (.exit i e h)=.norm e h:=by
 show(bif yA i i then _ else _)=_;rw[zU];rfl
theorem JI:RK (.bool IN) a b F e h=a F e h:=rfl
theorem Ht:RK (.bool IT) a b F e h=b F e h:=rfl
theorem PA:Hz (.bool IN) IN a b F e h=a F e h:=rfl
theorem O9:Hz (.bool IN) IT a b F e h=b F e h:=rfl
theorem O8:Hz (.bool IT) IN a b F e h=b F e h:=rfl
theorem O7:Hz (.bool IT) IT a b F e h=a F e h:=rfl
theorem Ll{w:Bool}:Hz AEl w a b F e h=b F e h:=rfl
theorem TT{i:Nat}:Xr i k F e h=k F (Env.set i AEl e) h:=rfl
theorem oG{i:Nat}(hi:i<240):Tk (FX i) f k F e h=opX i (f F e h) k F e:=by
 unfold Tk opX;cases f F e h with
 |ok v h=>exact EP i hi _ v e
 |no=>rfl
theorem Z5:cDo f k F e h=doX (f F e h) k F e:=by
 unfold cDo doX;cases f F e h<;>rfl
theorem ug{g:O}{w:Bool}{i:Nat}(hi:i<240):cG g w (FX i) f k F e h=Hz (g e) w (Tk (FX i) f k) (Xr i k) F e h:=by
 unfold cG Hz Xr;cases g e with
 |bool a=>
  simp only;cases w == a
  ·exact EP i hi _ _ e
  ·rfl
 |tuple b=>exact EP i hi _ _ e
 |_=>rfl
theorem A7:BB a b F e h=ZF (a F e h) b F:=by
 unfold BB ZF;cases a F e h<;>rfl
theorem Ap{i:Nat}:AY i a F e h=Ko i (a F e h):=by
 unfold AY Ko;cases a F e h<;>rfl
theorem Hr:Iy x a b F e h=RK (x e) a b F e h:=by
 unfold Iy RK;cases x e with
 |bool c=>cases c<;>rfl
 |_=>rfl
theorem Mr:Ar F e h=.norm e h:=rfl
theorem WE:Ai F e h=.ret e h:=rfl
theorem RG{i:Nat}:CC i F e h=.exit i e h:=rfl
theorem AG{i j:Nat}{v:xU}(hi:i<240)(a:j<240):J j (Env.set i v e)=if j=i then v else J j e:=by
 rw[DI j a,Env.AEy _ _ _ _ hi a,DI j a]
theorem EY{v:xU}:W v e=v:=rfl
theorem A4:vals e []=[]:=rfl
theorem AV{l:List O}:vals e (x::l)=x e::vals e l:=rfl
theorem Lx{i:Nat}:Au e i []=e:=rfl
theorem KR{i:Nat}{v:xU}{l:List xU}:Au e i (v::l)=Au (Env.set i v e) (xz i) l:=rfl
theorem En:AP x F e h=.ok (x e) h:=FK _ _
theorem Hs{i:Nat}(hi:i<240):G i f k F e h=opX i (f F e h) k F e:=oG hi
theorem Z6{a:Nat}{w:Bool}{i:Nat}(hi:i<240):Ae a w i f k F e h=Hz (J a e) w (G i f k) (Xr i k) F e h:=ug hi
theorem Px{i:Nat}:Bg i a b F e h=RK (J i e) a b F e h:=Hr
theorem IB{i:Nat}:Aa i F e h=.ok (J i e) h:=En
theorem FB{j:yJ}{n:Int}:C6 j (.int j n)=.ok n:=by cases j<;>rfl
theorem jW{j:yJ}{n:Nat}:Gy j (.int j (.ofNat n))=.ok n:=by cases j<;>rfl
theorem Ih{j:yJ}{n:Nat}:Gy j (.int j (n:Int))=.ok n:=jW
theorem Dm{j:yJ}{n:Nat}:Db (.int j (n:Int))=.ok n:=rfl
theorem FU{c:Bool}:okB c h=.ok (.bool c) h:=by cases c<;>rfl
theorem HJ(a b:Int):iGt a b=decide (b<a):=Da b a
theorem QM(a b:Int):iLe a b=decide (a<=b):=by
 show(!iLt b a)=_;rw[Da,<- decide_not]
 congr 1;simp
theorem Ue(a b:Int):iGe a b=decide (b<=a):=QM b a
theorem H3(a b:Int):iNe a b= !(a == b):=by
 show(!iEq a b)=_;rw[Dv]
def qB(f:Int->Int->Bool)(j:yJ)(a b:xU)(h:Hp):R:=gm f (C6 j a) (C6 j b) h
def Fp(f:Int->Int->Int)(j:yJ)(a b:xU)(h:Hp):R:=mh f j (C6 j a) (C6 j b) h
theorem AK{f:Int->Int->Bool}{j:yJ}:Af f j x y F e h=qB f j (x e) (y e) h:=rfl
theorem B6{f:Int->Int->Int}{j:yJ}:C8 f j x y F e h=Fp f j (x e) (y e) h:=rfl
theorem AJ{f:Int->Int->Bool}{j:yJ}{m n:Int}:qB f j (.int j m) (.int j n) h=.ok (.bool (f m n)) h:=by
 unfold qB;rw[FB,FB];exact FU
theorem Cn{f:Int->Int->Int}{j:yJ}{m n:Int}:Fp f j (.int j m) (.int j n) h=.ok (.int j (j.wrap (f m n))) h:=by
 unfold Fp;rw[FB,FB];show okI j (Ev j (f m n)) h=_;rw[E6,DT]
def GC(j:yJ)(a b:xU)(h:Hp):R:=fp j (BE j) (C6 j a) (C6 j b) h
theorem BW{j:yJ}:CH j (BE j) x y F e h=GC j (x e) (y e) h:=rfl
theorem fX{j:yJ}{n:Nat}(a:yI n (BE j)=IN):j.wrap (n:Int)=n:=by
 rw[<- DT];show AAk (motive:=λ_=>Int) (j.wrap (.ofNat n)) (.ofNat n) (yI n (BE j))=_;rw[a];rfl
theorem EQ{j:yJ}{m n:Int}:GC j (.int j m) (.int j n) h=.ok (.int j (j.wrap (m+n))) h:=by
 unfold GC;rw[FB,FB];cases m with
 |negSucc m=>show okI j (Ev j _) h=_;rw[E6,DT]
 |ofNat m=>
  cases n with
  |negSucc n=>show okI j (Ev j _) h=_;rw[E6,DT]
  |ofNat n=>
   show AAk (motive:=λ_=>R) (okI j (j.wrap (.ofNat m+.ofNat n)) h) (AE4 (zV m n) λn=>.ok (.int j (.ofNat n)) h) (yI (zV m n) (BE j))=_;cases a:yI (zV m n) (BE j)with
   |false=>simp only;rw[E6]
   |true=>
    simp only;rw[Ao];have:=fX a;have e:(zZ m+zZ n:Int)=((zV m n:Nat):Int):=by
     show((m:Int)+(n:Int))=((m+n:Nat):Int);omega
    rw[e,this];rfl
def UT(j:yJ)(a b:xU)(h:Hp):R:=bH j (C6 j a) (C6 j b) h
def eC(j:yJ)(a b:xU)(h:Hp):R:=eB j (C6 j a) (C6 j b) h
theorem J9{j:yJ}:L8 j x y F e h=UT j (x e) (y e) h:=rfl
theorem Qg{j:yJ}:Sk j x y F e h=eC j (x e) (y e) h:=rfl
theorem MJ{j:yJ}{m n:Int}(a:n≠0):UT j (.int j m) (.int j n) h=.ok (.int j (j.wrap (m.tdiv n))) h:=by
 unfold UT;rw[FB,FB];show(bif iEq n 0 then R.no else okI j (Ev j (m.tdiv n)) h)=_;rw[Dv,E6,DT,beq_false_of_ne a];rfl
theorem Xm{j:yJ}{m n:Int}(a:n≠0):eC j (.int j m) (.int j n) h=.ok (.int j (m.tmod n)) h:=by
 unfold eC;rw[FB,FB];show(bif iEq n 0 then R.no else okI j (m.tmod n) h)=_;rw[Dv,E6,beq_false_of_ne a];rfl
def Zu(f:Nat->Nat->Nat)(j:yJ)(a b:xU)(h:Hp):R:=Zt f j (Gy j a) (Gy j b) h
theorem ji{f:Nat->Nat->Nat}{j:yJ}:LU f j x y F e h=Zu f j (x e) (y e) h:=rfl
theorem V5{f:Nat->Nat->Nat}{j:yJ}{m n:Nat}(a:m<=BE j)(b:n<=BE j):Zu f j (.int j (m:Int)) (.int j (n:Int)) h=.ok (.int j (f m n:Nat)) h:=by
 unfold Zu;rw[Ih,Ih];show(bif yI m (BE j)then(bif yI n (BE j)then okI j (.ofNat (f m n)) h else R.no)else R.no)=_;rw[As.2 a,As.2 b,E6];rfl
def lG(j:yJ)(a b:xU)(h:Hp):R:=eM j (Gy j a) (Db b) h
def eO(j:yJ)(a b:xU)(h:Hp):R:=eN j (Gy j a) (Db b) h
theorem Xa{j:yJ}:Ob j x y F e h=lG j (x e) (y e) h:=rfl
theorem Xb{j:yJ}:L9 j x y F e h=eO j (x e) (y e) h:=rfl
theorem lH{j q:yJ}{m n:Nat}:lG j (.int j (m:Int)) (.int q (n:Int)) h=.ok (.int j (j.wrap ((m*2 ^ min n j.bits:Nat):Int))) h:=by
 unfold lG;rw[Ih,Dm];show okI j (Ev j (.ofNat (yv m (Nat.pow 2 (CD n j.bits))))) h=_;rw[E6,DT,BU];rfl
theorem Xp{j q:yJ}{m n:Nat}:eO j (.int j (m:Int)) (.int q (n:Int)) h=.ok (.int j ((m/2 ^ min n j.bits:Nat):Int)) h:=by
 unfold eO;rw[Ih,Dm];show okI j (.ofNat (AAS m (Nat.pow 2 (CD n j.bits)))) h=_;rw[E6,BU];rfl
def Ct(j:yJ)(a:xU)(h:Hp):R:=match Yk a with
 |.ok b=>okI j (Ev j b) h
 |.no=>.no
theorem Bi{j:yJ}:CW j x F e h=Ct j (x e) h:=rfl
theorem Bu{j q:yJ}{n:Int}:Ct j (.int q n) h=.ok (.int j (j.wrap n)) h:=by
 show okI j (Ev j n) h=_;rw[E6,DT]
def vL(a:xU)(h:Hp):R:=match a with
 |.bool b=>okB (!b) h
 |_=>.no
theorem BJ:DG x F e h=vL (x e) h:=rfl
theorem BI{c:Bool}:vL (.bool c) h=.ok (.bool (!c)) h:=FU
def dh(c a b:xU)(h:Hp):R:=dj c a b h
theorem Sj{c:O}:A2 c x y F e h=dh (c e) (x e) (y e) h:=rfl
theorem Nv{v u:xU}:dh (.bool IN) v u h=.ok v h:=FK _ _
theorem Lr{v u:xU}:dh (.bool IT) v u h=.ok u h:=FK _ _
theorem BX{g:Nat}{l:List O}:AS g l F e h=F g (vals e l) h:=DE _ _
theorem P6{bs:FT}{n f:Nat}{b:Body}(c:bs.get f=BY b){a:List xU}:call bs (xz n) f a h=enter (call bs n) b a h:=by
 show(match bs.get f with|some b=>enter (call bs n) b a h|none=>.no)=_;rw[c]
theorem bU{b:List RV}{c:C}{a:List xU}(d:yI (Dw a) 240=IN)(e:Qz b=By:=by rfl):enter F ⟨b,c⟩ a h=H7 b (c F (Au e0 0 a) h):=by
 unfold enter;rw[e];show(bif yI (Dw a) 240 then H7 b (c F (Au e0 0 a) h)else .no)=_;rw[d];rfl
theorem Av{a:List RV}:H7 a (.ret e h)=E0 a e h:=rfl
theorem ET{a:List RV}:H7 a (.norm e h)=E0 a e h:=rfl
theorem Re{g:O}:E0 [.t g] e h=.ok (g e) h:=by
 show AEw (g e) _=_;rw[Ba];rfl
theorem CO{g a:O}:E0 [.t g,.t a] e h=.ok (.tuple ⟨[g e,a e]⟩) h:=by
 show AEw (g e) (λv=>AEw (a e) _)=_;rw[Ba,Ba];rfl
theorem Eh{g a b:O}:E0 [.t g,.t a,.t b] e h=.ok (.tuple ⟨[g e,a e,b e]⟩) h:=by
 show AEw (g e) (λv=>AEw (a e) (λv=>AEw (b e) _))=_;rw[Ba,Ba,Ba];rfl
def Gk(i:Nat)(a:xU)(h:Hp):R:=match a with
 |.tuple vs=>match nth vs.toList i with
  |some v=>.ok v h
  |none=>.no
 |_=>.no
theorem Aq{i:Nat}:AU i x F e h=Gk i (x e) h:=by
 show(match x e with|.tuple vs=>(match nth vs.toList i with|some v=>AEw v λv=>.ok v h|none=>.no)|_=>.no)=_;unfold Gk;cases x e with
 |tuple vs=>
  simp only;cases nth vs.toList i with
  |some v=>exact Ba _ _
  |none=>rfl
 |_=>rfl
theorem Az{v:xU}{l:List xU}:Gk 0 (.tuple ⟨v::l⟩) h=.ok v h:=rfl
theorem A1{u v:xU}{l:List xU}:Gk 1 (.tuple ⟨u::v::l⟩) h=.ok v h:=rfl
theorem Bx{t u v:xU}{l:List xU}:Gk 2 (.tuple ⟨t::u::v::l⟩) h=.ok v h:=rfl
end
section
variable {F:AEh}{e:Env}{h h':Hp}{x y:O}
structure Hp.Wf (h:Hp):Prop where
 big:256<=h.next
 has:∀i,i<h.next->h.bl.has i
 fresh:∀i,h.next<=i->h.bl.get i=.dead
def Hp.push(h:Hp)(o:Blk):Hp:={next:=xz h.next,low:=h.low,high:=h.high,mark:=h.mark,bl:=h.bl.lay h.next o}
def Hp.put(h:Hp)(b:Nat)(o:Blk):Hp:={next:=h.next,low:=CD h.low b,high:=C9 h.high b,mark:=h.mark,bl:=h.bl.lay b o}
theorem C7(a:h.Wf){o:Blk}{K:Nat->Hp->R}:Gd h o K=K h.next (h.push o):=by
 unfold Gd;rw[BT.AFO λc b=>a.has c b];simp only[Ao];rfl
theorem Ea(c:h.Wf){b:Nat}(a:256<=b)(d:b<h.next){o:Blk}{K:Hp->R}:E8 h b o K=K (h.put b o):=by
 unfold E8;rw[BT.AFO λf e=>c.has f (AC3 e d),As.2 a];simp only[Ao];rfl
theorem Hp.Wf.AE8(a:h.Wf)(o:Blk)(i:Nat):(h.push o).bl.get i=if i=h.next then o else h.bl.get i:=BT.AFf (λc b=>a.has c b) i
theorem Hp.Wf.AFL(a:h.Wf){b:Nat}(c:b<h.next)(o:Blk)(i:Nat):(h.put b o).bl.get i=if i=b then o else h.bl.get i:=BT.AFf (λe d=>a.has e (AC3 d c)) i
theorem Hp.Wf.push(b:h.Wf)(o:Blk):(h.push o).Wf where
 big:=AB7 b.big
 has:=λa c=>BT.AFo (λf e=>b.has f e) a (by
  have c:a<h.next+1:=c;rcases yM a h.next with d|d
  ·exact .inr (b.has a d)
  ·exact .inl (by omega))
 fresh:=λa c=>by
  have c:h.next+1<=a:=c;rw[b.AE8 o a,No (by omega)];exact b.fresh a (by omega)
theorem Hp.Wf.put(c:h.Wf){b:Nat}(e:b<h.next)(o:Blk):(h.put b o).Wf where
 big:=c.big
 has:=λa d=>BT.AFo (λg f=>c.has g (AC3 f e)) a (.inr (c.has a d))
 fresh:=λa d=>by
  have d:h.next<=a:=d;rw[c.AFL e o a,No (by omega)];exact c.fresh a d
structure Hp.Ext (h h':Hp):Prop where
 next:h.next<=h'.next
 get:∀i,i<h.next->h'.bl.get i=h.bl.get i
 low:min h.low h.next<=h'.low
 wf:h'.Wf
theorem Hp.Ext.refl(a:h.Wf):h.Ext h:=⟨xW _,λ_ _=>rfl,ABU _ _,a⟩
theorem Hp.Ext.trans{d e f:Hp}(a:d.Ext e)(b:e.Ext f):d.Ext f where
 next:=yS a.next b.next
 get:=λg c=>by rw[b.get g (zG c a.next),a.get g c]
 low:=by have:=a.low;have:=b.low;have:=a.next;omega
 wf:=b.wf
theorem Hp.Ext.push(a:h.Ext h')(o:Blk):h.Ext (h'.push o) where
 next:=AB7 a.next
 get:=λc b=>by rw[a.wf.AE8,No (by have:=a.next;omega),a.get c b]
 low:=a.low
 wf:=a.wf.push o
theorem Hp.Ext.put(a:h.Ext h'){b:Nat}(f:h.next<=b)(c:b<h'.next)(o:Blk):h.Ext (h'.put b o) where
 next:=a.next
 get:=λe d=>by rw[a.wf.AFL c,No (by omega),a.get e d]
 low:=by
  show _<=CD h'.low b;rw[BU];have:=a.low;omega
 wf:=a.wf.put c o
def VT.Is(t:VT)(l:List xU):Prop:=∀a,a<l.length->t.has a/\t.get a=l.getD a AEl
theorem EF:∀(vs:List xU) (t:VT) (l:List xU) (i:Nat),t.Is l->i+vs.length<=l.length\/i=l.length->∃c,Bs t i vs=BY c/\c.Is (l.take i++vs++l.drop (i+vs.length))
 |[],t,l,i,f,j=>⟨t,rfl,by simpa using f⟩
 |v::vs,t,l,i,f,j=>by
  have r:i<=l.length:=by simp only[xh]at j;omega
  have h:∀a,a<i->t.has a:=λa k=>(f a (by omega)).1
  have p:(t.lay i v).Is (l.take i++[v]++l.drop (i+1)):=λa k=>by
   have b:(l.take i).length=i:=by simp;omega
   refine⟨VT.AFo h a ?_,?_⟩
   ·by_cases d:a=i
    ·exact .inl d
    ·right
     refine(f a ?_).1;simp only[xY,xh,yU,yX,yP]at k;omega
   ·rw[VT.AFf h]
    by_cases d:a=i
    ·rw[If d,d,xe,yD,yR (by omega)]
     simp[b]
    ·rw[No d]
     have q:a<l.length:=by
      simp only[xY,xh,yU,yX,yP]at k;omega
     rw[(f a q).2,xe,xe]
     congr 1
     rcases yM a i with g|g
     ·rw[yD,yL (by omega),zy,If g]
     ·rw[yR (by simp only[xY,b,xh,yU];omega),ABJ]
      congr 1
      simp only[xY,b,xh,yU];omega
  have s:(l.take i++[v]++l.drop (i+1)).length=max l.length (i+1):=by
   simp only[xY,xh,yU,yX,yP];omega
  obtain⟨c,g,m⟩:=EF vs (t.lay i v) _ (i+1) p (by simp only[xh]at j;omega);refine⟨c,?_,?_⟩
  ·show(match t.set i v with|some c=>Bs c (xz i) vs|none=>By)=_
   rw[VT.AFO h];exact g
  ·have e:(l.take i++[v]++l.drop (i+1)).take (i+1)++vs++(l.take i++[v]++l.drop (i+1)).drop (i+1+vs.length)=l.take i++(v::vs)++l.drop (i+(v::vs).length):=by
    have b:(l.take i++[v]).length=i+1:=by simp;omega
    rw[List.take_left' b];have n:i+1+vs.length=(l.take i++[v]).length+vs.length:=by rw[b]
    rw[n,List.drop_length_add_append,List.drop_drop];have o:i+1+vs.length=i+(v::vs).length:=by simp only[xh];omega
    rw[o];simp
   rw[e]at m;exact m
theorem vH:VT.mt.Is []:=λa h=>by cases h
def ofL(l:List xU):VT:=(Bs .mt 0 l).getD .mt
theorem IC(l:List xU):Bs .mt 0 l=BY (ofL l)/\(ofL l).Is l:=by
 obtain⟨c,a,b⟩:=EF l .mt [] 0 vH (.inr rfl);unfold ofL;rw[a];refine⟨rfl,?_⟩
 simpa using b
theorem VT.Is.of{t:VT}{l:List xU}(h:Bs .mt 0 l=BY t):t.Is l:=by
 have:=IC l;rw[h]at this;rw[Option.some.inj this.1];exact this.2
def Hp.Row(h:Hp)(b el:Nat)(l:List xU):Prop:=∃a,h.bl.get b=.cells a l.length el/\a.Is l
def Hp.AEg(h:Hp)(el:Nat)(l:List xU):Hp:=h.push (.cells (ofL l) l.length el)
theorem Cm(a:h.Wf){el:Nat}{l:List xU}{K:Nat->Hp->R}:newRow h el l K=K h.next (h.AEg el l):=by
 unfold newRow;rw[(IC l).1];show Cb h el (ofL l) (Dw l) K=_;unfold Cb;rw[Ao,C7 a,Bm];rfl
theorem Hp.Row.lt(d:h.Wf){b el:Nat}{l:List xU}(r:h.Row b el l):b<h.next:=by
 obtain⟨e,c,_⟩:=r;rcases yM b h.next with a|a
 ·exact a
 ·rw[d.fresh b a]at c;cases c
theorem Hp.Row.new(a:h.Wf)(el:Nat)(l:List xU):(h.AEg el l).Row h.next el l:=⟨ofL l,by unfold Hp.AEg;rw[a.AE8,If rfl],(IC l).2⟩
theorem Hp.Row.ext{b el:Nat}{l:List xU}(r:h.Row b el l)(a:h.Wf)(x:h.Ext h'):h'.Row b el l:=by
 have:=r.lt a;obtain⟨c,d,e⟩:=r;exact⟨c,(x.get b this).trans d,e⟩
theorem Hp.Row.push{b el:Nat}{l:List xU}(r:h.Row b el l)(a:h.Wf)(o:Blk):(h.push o).Row b el l:=r.ext a ((Hp.Ext.refl a).push o)
theorem Hp.Ext.AEg(a:h.Ext h')(el:Nat)(l:List xU):h.Ext (h'.AEg el l):=a.push _
theorem Hp.Row.rowOf{b el:Nat}{l:List xU}(r:h.Row b el l):∃c,rowOf h b=.ok c l.length el/\c.Is l:=by
 obtain⟨c,a,d⟩:=r;exact⟨c,by unfold Go.Proofs.YtldjiljipddebaaGreat.rowOf;rw[a];rfl,d⟩
theorem Hp.Row.AEi{b el off:Nat}{l:List xU}(r:h.Row b el l)(a:off<l.length):AEi ⟨b,off,By⟩ h=.ok (l.getD off AEl) h:=by
 obtain⟨e,c,d⟩:=r.rowOf;unfold Go.Proofs.YtldjiljipddebaaGreat.AEi;simp only[c];rw[BV.2 a];simp only[Ba,(d off a).2]
theorem Is.AF2{c:VT}{l:List xU}(d:c.Is l)(off n:Nat)(e:off+n<=l.length):AF2 c off n=(l.drop off).take n:=by
 refine ADP λb=>?_
 unfold Go.Proofs.YtldjiljipddebaaGreat.AF2;rw[List.getElem?_map,zy,ABJ];by_cases a:b<n
 ·rw[If a,List.getElem?_range a]
  have:=(d (off+b) (by omega)).2;rw[xe,xc (by omega)]at this;show BY (c.get (off+b))=_;rw[this,xc (by omega)];rfl
 ·rw[No a,zR (by simpa using a)];rfl
theorem Hp.Row.loadN{b el off n:Nat}{l:List xU}(r:h.Row b el l)(a:off+n<=l.length):loadN n ⟨b,off,By⟩ h=.ok (.agg ⟨(l.drop off).take n⟩) h:=by
 obtain⟨e,c,d⟩:=r.rowOf;unfold Go.Proofs.YtldjiljipddebaaGreat.loadN;simp only[c,zS];rw[As.2 a];simp only[cond_true,GK,yF,Is.AF2 d off n a]
theorem Hp.Row.src{b el off n c:Nat}{l:List xU}(r:h.Row b el l)(a:off+n<=l.length){sl:Nat}{k:List xU->R}:BM h 1 (.slice (BY ⟨b,off,By⟩) sl c) n k=k ((l.drop off).take n):=by
 obtain⟨g,d,f⟩:=r.rowOf;unfold BM;simp only[d];have e:yv n 1=n:=zw n;rw[e];simp only[zS];rw[As.2 a];simp only[cond_true,GK,yF,Is.AF2 f off n a]
def Hp.wr(h:Hp)(b off:Nat)(vs:List xU):Hp:=match rowOf h b with
 |.ok a c e=>h.put b (.cells ((Bs a off vs).getD a) c e)
 |.no=>h
def over(l:List xU)(off:Nat)(vs:List xU):List xU:=l.take off++vs++l.drop (off+vs.length)
theorem Sr{l vs:List xU}{off:Nat}(a:off+vs.length<=l.length):(over l off vs).length=l.length:=by
 unfold over;simp only[xY,yP,yX];omega
theorem Hp.Row.AFt{b el off:Nat}{l vs:List xU}(r:h.Row b el l)(d:off+vs.length<=l.length):∃c,c.Is (over l off vs)/\h.wr b off vs=h.put b (.cells c (over l off vs).length el)/\
  ∀(a:h.Wf) (f:256<=b) (i:Bc vs=IN) (K:Hp->R),DA ⟨b,off,By⟩ vs h K=K (h.wr b off vs):=by
 obtain⟨c,k,n⟩:=r.rowOf;obtain⟨g,j,m⟩:=EF vs c l off n (.inl d);have e:h.wr b off vs=h.put b (.cells g l.length el):=by
  unfold Hp.wr;rw[k];simp only[j,AB3]
 refine⟨g,m,by rw[Sr d];exact e,λa f i K=>?_⟩;unfold DA;simp only[k,zS];rw[Bm,As.2 d,i];simp only[cond_true,j];rw[e,Ea a f (r.lt a)]
theorem Hp.Row.store{b el off:Nat}{l vs:List xU}(r:h.Row b el l)(c:h.Wf)(a:256<=b)(f:off+vs.length<=l.length)(d:Bc vs=IN)(K:Hp->R):DA ⟨b,off,By⟩ vs h K=K (h.wr b off vs):=by
 obtain⟨_,_,_,e⟩:=r.AFt f;exact e c a d K
theorem Hp.Row.AEt{b el off:Nat}{l vs:List xU}(r:h.Row b el l)(a:h.Wf)(f:off+vs.length<=l.length):(h.wr b off vs).Row b el (over l off vs):=by
 obtain⟨c,d,e,_⟩:=r.AFt f;exact⟨c,by rw[e,a.AFL (r.lt a),If rfl],d⟩
theorem Hp.Row.AFw{b el off b' c:Nat}{l vs l':List xU}(r:h.Row b el l)(a:h.Wf)(j:off+vs.length<=l.length)(k:h.Row b' c l')(f:b'≠b):(h.wr b off vs).Row b' c l':=by
 obtain⟨m,n,e,_⟩:=r.AFt j;obtain⟨d,g,i⟩:=k;exact⟨d,by rw[e,a.AFL (r.lt a),No f,g],i⟩
theorem Hp.Row.AFC{h0:Hp}{b el off:Nat}{l vs:List xU}(r:h.Row b el l)(x:h0.Ext h)(a:h0.next<=b)(c:off+vs.length<=l.length):h0.Ext (h.wr b off vs):=by
 obtain⟨d,f,e,_⟩:=r.AFt c;rw[e];exact x.put a (r.lt x.wf) _
theorem Hp.Row.AFP{b el off:Nat}{l vs:List xU}(r:h.Row b el l)(a:off+vs.length<=l.length):(h.wr b off vs).next=h.next:=by
 obtain⟨c,d,e,_⟩:=r.AFt a;rw[e];rfl
def I7(v:xU)(h:Hp):R:=match EI v with
 |.ok a=>AEi a h
 |.no=>.no
theorem AN:AM x F e h=I7 (x e) h:=by
 unfold AM I7;cases EI (x e)<;>rfl
theorem AQ{a:ABD}:I7 (.pointer (BY a)) h=AEi a h:=rfl
def HN(n:Nat)(v:xU)(h:Hp):R:=match EI v with
 |.ok a=>loadN n a h
 |.no=>.no
theorem An{n:Nat}:BC n x F e h=HN n (x e) h:=rfl
theorem Ah{n:Nat}{a:ABD}:HN n (.pointer (BY a)) h=loadN n a h:=rfl
def AEn(n:Nat)(p v:xU)(h:Hp):R:=match EI p with
 |.ok a=>bif yA (Dw (cellsOf v)) n then DA a (cellsOf v) h EV else .no
 |.no=>.no
theorem AW{n:Nat}:AZ n x y F e h=AEn n (x e) (y e) h:=by
 unfold AZ AEn;simp only[Ba];cases EI (x e)<;>rfl
theorem Hp.Row.AEn{n b el off:Nat}{l:List xU}{v:xU}(r:h.Row b el l)(c:h.Wf)(a:256<=b)(e:(cellsOf v).length=n)(f:off+(cellsOf v).length<=l.length)(d:Bc (cellsOf v)=IN):
  AEn n (.pointer (BY ⟨b,off,By⟩)) v h=.ok AEl (h.wr b off (cellsOf v)):=by
 show(bif yA (Dw (cellsOf v)) n then DA ⟨b,off,By⟩ (cellsOf v) h EV else .no)=_;rw[Bm,A0.2 e,r.store c a f d];rfl
def gB(v:xU)(h:Hp):R:=bif known v then newRow h 0 (cellsOf v) JW else .no
theorem DN:CV x F e h=gB (x e) h:=by
 unfold CV gB;simp only[Ba]
theorem DM(a:h.Wf){v:xU}(hk:known v=IN:=by rfl):gB v h=.ok (.pointer (BY ⟨h.next,0,By⟩)) (h.AEg 0 (cellsOf v)):=by
 unfold gB;rw[hk,cond_true,Cm a];rfl
theorem BO(a:h.Wf){n:Nat}{t:VT}:BN n t F e h=.ok (.pointer (BY ⟨h.next,0,By⟩)) (h.push (.cells t n 0)):=by
 unfold BN;rw[C7 a];rfl
theorem Hp.Row.alloc(a:h.Wf){n:Nat}{t:VT}{l:List xU}(c:Bs .mt 0 l=BY t)(b:l.length=n):(h.push (.cells t n 0)).Row h.next 0 l:=⟨t,by rw[a.AE8,If rfl,b],.of c⟩
theorem OY{n:Nat}:AE n x F e h=match EI (x e)with|.ok a=>.ok (.pointer (BY ⟨a.block,a.off+n,By⟩)) h|.no=>.no:=by
 unfold AE;cases EI (x e)with
 |ok a=>exact Ao _ _
 |no=>rfl
def Wo(n:Nat)(v:xU)(h:Hp):R:=match EI v with
 |.ok a=>.ok (.pointer (BY ⟨a.block,a.off+n,By⟩)) h
 |.no=>.no
theorem AH{n:Nat}:AE n x F e h=Wo n (x e) h:=OY
theorem AO{n b off:Nat}:Wo n (.pointer (BY ⟨b,off,By⟩)) h=.ok (.pointer (BY ⟨b,off+n,By⟩)) h:=rfl
def OV(n es:Nat)(p i:xU)(h:Hp):R:=NR n es (EI p) (Db i) h
theorem Dc{n es:Nat}:Cv n es x y F e h=OV n es (x e) (y e) h:=rfl
theorem XD{n es b off i:Nat}(hi:i<n):NR n es (.ok ⟨b,off,By⟩) (.ok i) h=.ok (.pointer (BY ⟨b,off+i*es,By⟩)) h:=by
 show AAk (motive:=λ_=>R) .no (PW ⟨b,off,By⟩ (yv i es) h) (yp i n)=_;rw[BV.2 hi];exact Ao _ _
theorem XG{n es b off i:Nat}{k:yJ}(hi:i<n):OV n es (.pointer (BY ⟨b,off,By⟩)) (.int k (i:Int)) h=.ok (.pointer (BY ⟨b,off+i*es,By⟩)) h:=XD hi
def AFV(es:Nat)(s i:xU)(h:Hp):R:=match s with
 |.slice (BY a) b _=>NR b es (.ok a) (Db i) h
 |_=>.no
theorem BA{es:Nat}:CI es x y F e h=AFV es (x e) (y e) h:=rfl
theorem Cy{n c es b off i:Nat}{k:yJ}(hi:i<n):AFV es (.slice (BY ⟨b,off,By⟩) n c) (.int k (i:Int)) h=.ok (.pointer (BY ⟨b,off+i*es,By⟩)) h:=XD hi
def AFB(v:xU)(h:Hp):R:=match v with
 |.slice _ a _=>.ok (AI AT (.ofNat a)) h
 |.chan (BY _)=>.ok (AI AT (.ofNat 0)) h
 |_=>.no
theorem AX:BZ x F e h=AFB (x e) h:=rfl
theorem EO{o:Option ABD}{n c:Nat}:AFB (.slice o n c) h=.ok (AI AT (n:Int)) h:=rfl
end
section
variable {F:AEh}{e:Env}{h h':Hp}{x y:O}
def bS:X->Bool
 |.norm _ _=>IT
 |.no=>IT
 |_=>IN
theorem SJ{c:C}{I:Nat->Env->Hp->Prop}{Q:X->Prop}(N:Nat)
  (step:∀i e h,I i e h->(i<N/\∃a h',c F e h=.norm a h'/\I (i+1) a h')\/(bS (c F e h)=IN/\Q (c F e h))):
  ∀n i e h,N - i<n->I i e h->Q (iter c n F e h)
 |0,i,e,h,g,_=>absurd g (Nat.not_lt_zero _)
 |n+1,i,e,h,g,k=>by
  unfold iter;rcases step i e h k with ⟨d,a,h',b,j⟩|⟨d,b⟩
  ·rw[b]
   exact SJ N step n (i+1) a h' (by omega) j
  ·cases f:c F e h with
   |norm a h'=>rw[f]at d;cases d
   |no=>rw[f]at d;cases d
   |exit i a h'=>rw[f]at b;exact b
   |ret a h'=>rw[f]at b;exact b
theorem Bd{a:C}(I:Nat->Env->Hp->Prop)(Q:X->Prop)(N:Nat)(c:N<8796093022208)
  (step:∀i e h,I i e h->(i<N/\∃b h',a F e h=.norm b h'/\I (i+1) b h')\/(bS (a F e h)=IN/\Q (a F e h)))(h0:I 0 e h):Q (A3 a F e h):=
 SJ N step rounds 0 e h (by show N - 0<8796093022208;omega) h0
theorem Bf{n:Nat}(h:n<=9223372036854775807):AAX.wrap (n:Int)=n:=IR h
theorem fV{n:Int}(h0:0<=n)(h:n<=9223372036854775807):AAX.wrap n=n:=by
 obtain⟨a,rfl⟩:=Int.eq_ofNat_of_zero_le h0;exact IR (by omega)
theorem DJ{n:Nat}(h:n<=18446744073709551615):IntKind.u64.wrap (n:Int)=n:=EB .u64 n h
theorem Ff(n:Nat):AD6.wrap (n:Int)=((n % 256:Nat):Int):=by
 have:AD6.wrap (n:Int)=(n:Int) % 256:=rfl;rw[this];omega
def bv(n:Nat):xU:=.int .u8 (n:Int)
theorem Mp:∀l:List Nat,FA (l.map bv)=BY (l.map AAw)
 |[]=>rfl
 |n::l=>by
  show(match FA (l.map bv)with|some a=>AE4 n λn=>BY (AAw n::a)|none=>By)=_;rw[Mp l];exact Ao _ _
theorem DD:∀l:List Nat,Bc (l.map bv)=IN
 |[]=>rfl
 |n::l=>DD l
def Hp.Bytes(h:Hp)(v:xU)(l:List Nat):Prop:=(v=.slice By 0 0/\l=[])\/∃c b d e a,v=.slice (BY ⟨c,b,By⟩) l.length d/\h.Row c e a/\b+l.length<=a.length/\(a.drop b).take l.length=l.map bv
theorem Hp.Bytes.src{v:xU}{l:List Nat}(b:h.Bytes v l){n:Nat}(f:n=l.length)(k:List xU->R):BM h 1 v n k=k (l.map bv):=by
 subst f;rcases b with ⟨a,c⟩|⟨b,m,i,j,g,a,c,d,e⟩
 ·rw[a,c];rfl
 ·rw[a,c.src d,e]
theorem Hp.Bytes.shape{v:xU}{l:List Nat}(b:h.Bytes v l):∃a c,v=.slice a l.length c:=by
 rcases b with ⟨d,e⟩|⟨b,k,c,g,f,d,e,i,j⟩
 ·exact⟨By,0,by rw[d,e];rfl⟩
 ·exact⟨_,_,d⟩
def tw(v:xU)(h:Hp):R:=match v with
 |.slice b a d=>BM h 1 (.slice b a d) a λe=>match FA e with
  |some c=>.ok (.string ⟨⟨c⟩⟩) h
  |none=>.no
 |.chan f=>match f with
  |some _=>.ok (.string ⟨⟨[]⟩⟩) h
  |none=>.no
 |_=>.no
theorem Im:Fw x F e h=tw (x e) h:=rfl
theorem Hp.Bytes.str{v:xU}{l:List Nat}(b:h.Bytes v l):tw v h=.ok (.string ⟨⟨l.map AAw⟩⟩) h:=by
 obtain⟨a,d,rfl⟩:=b.shape;show BM h 1 (.slice a l.length d) l.length (λe=>match FA e with
  |some c=>.ok (.string ⟨⟨c⟩⟩) h
  |none=>.no)=_
 rw[b.src rfl,Mp]
def uw(f:List UInt8->List UInt8->Bool)(a b:xU)(h:Hp):R:=ef f a b h
theorem MS{f:List UInt8->List UInt8->Bool}:KA f x y F e h=uw f (x e) (y e) h:=rfl
theorem MK{f:List UInt8->List UInt8->Bool}{a b:List UInt8}:uw f (.string ⟨⟨a⟩⟩) (.string ⟨⟨b⟩⟩) h=.ok (.bool (f a b)) h:=FU
theorem Xx{v:xU}{l:List Nat}(b:h.Bytes v l):lenV v=.ok l.length:=by
 obtain⟨a,c,rfl⟩:=b.shape;rfl
theorem Q9{eb en b c:Nat}{l:List xU}{v:xU}{m:List Nat}(d:h.Wf)(r:h.Row b 0 l)(i:h.Bytes v m)(u:c<l.length+m.length)(t:(l.length+m.length+1)*(eb+1)<=1099511627776):
  ∃h',DL 1 eb en (.slice (BY ⟨b,0,By⟩) l.length c) v h=.ok (.slice (BY ⟨h.next,0,By⟩) (l.length+m.length) (l.length+m.length)) h'/\h.Ext h'/\h'.Row h.next (en+1) (l++m.map bv)/\h'.next=h.next+1:=by
 obtain⟨j,g,q⟩:=r.rowOf;obtain⟨f,p,a⟩:=EF (m.map bv) j l l.length q (.inr rfl);have a:f.Is (l++m.map bv):=by
  have e:l.drop (l.length+(m.map bv).length)=[]:=ym (by omega);rw[e]at a
  simpa using a
 have s:(l++m.map bv).length=l.length+m.length:=by simp
 refine⟨h.push (.cells f (l.length+m.length) (en+1)),?_,(Hp.Ext.refl d).push _,⟨f,by rw[d.AE8,If rfl,s],a⟩,rfl⟩;unfold DL;simp only[Xx i,i.src rfl,Ao,zS];have k:yI (l.length+m.length) c=IT:=by
  cases e:yI (l.length+m.length) c
  ·rfl
  ·have:=As.1 e;omega
 have n:yI (yv (xz (l.length+m.length)) (xz eb)) JP=IN:=As.2 (HO t);rw[k];simp only[n,cond_true,DD];unfold Gs;have o:yA l.length (yv l.length 1)=IN:=A0.2 (zw _).symm;simp only[g,o,p];unfold Eu;simp only[g,Bm,xa,zS];unfold Cb;rw[Ao,C7 d];rfl
theorem RA{eb en b n c el:Nat}{l:List xU}{v:xU}(e:h.Wf)(d:256<=b)(r:h.Row b el l)(a:h.Bytes v [])(i:n<=c)(j:n<=l.length):
  DL 1 eb en (.slice (BY ⟨b,0,By⟩) n c) v h=.ok (.slice (BY ⟨b,0,By⟩) n c) (h.wr b n []):=by
 unfold DL;simp only[Xx a,a.src rfl,Ao,zS];have f:yI n c=IN:=As.2 i;have e0:n+([]:List Nat).length=n:=rfl;simp only[e0,f,List.map_nil];have g:Ew ⟨b,0,By⟩ (yv n 1)=⟨b,n,By⟩:=by
  rw[show yv n 1=n from zw n];cases n with
  |zero=>rfl
  |succ n=>show(⟨b,zV 0 (xz n),By⟩:ABD)=_;rw[zS,xZ]
 rw[g,r.store e d (by simpa using j) rfl]
def DU(es eb en:Nat)(s v:xU)(h:Hp):R:=DL es eb en s v h
theorem Bb{es eb en:Nat}:Bk es eb en x y F e h=DU es eb en (x e) (y e) h:=rfl
theorem Bo{cs:List xU}{k:List xU->R}:Et cs e k []=k cs:=DE _ _
theorem Ad{cs:List xU}{k:List xU->R}{off size:Nat}{rest:List (Nat×Nat×O)}(hk:known (x e)=IN:=by rfl):Et cs e k ((off,size,x)::rest)=(if(cellsOf (x e)).length=size then(if off+size<=cs.length then Et (over cs off (cellsOf (x e))) e k rest else .no)else .no):=by
 have e0:Et cs e k ((off,size,x)::rest)=(bif known (x e)then(bif yA (Dw (cellsOf (x e))) size then(bif yI (zV off size) (Dw cs)then Et (lay cs off (cellsOf (x e))) e k rest else .no)else .no)else .no):=Ba _ _;have c:Et cs e k ((off,size,x)::rest)=(bif yA (Dw (cellsOf (x e))) size then(bif yI (zV off size) (Dw cs)then Et (lay cs off (cellsOf (x e))) e k rest else .no)else .no):=by rw[e0,hk];rfl
 rw[c,Bm,Bm,AFO];by_cases a:(cellsOf (x e)).length=size
 ·rw[If a,A0.2 a]
  by_cases b:off+size<=cs.length
  ·rw[If b,show yI (zV off size) cs.length=IN from As.2 b];rfl
  ·rw[No b]
   have:yI (zV off size) cs.length=IT:=by
    cases e:yI (zV off size) cs.length
    ·rfl
    ·exact absurd (As.1 e) b
   rw[this];rfl
 ·rw[No a]
  have:yA (cellsOf (x e)).length size=IT:=by
   cases e:yA (cellsOf (x e)).length size
   ·rfl
   ·exact absurd (A0.1 e) a
  rw[this];rfl
theorem Cj{k:yJ}{n:Int}:cellsOf (.int k n)=[.int k n]:=rfl
theorem EW{l vs:List xU}(a:l.length=vs.length):over l 0 vs=vs:=by
 unfold over;rw[List.take_zero,yT,ym (by omega),yF]
theorem CX{a:List xU}{ps:List (Nat×Nat×O)}:BG a ps F e h=Et a e (λcs=>.ok (.agg ⟨cs⟩) h) ps:=rfl
theorem B5{n:Nat}{a:List xU}{ps:List (Nat×Nat×O)}:Ab n a ps F e h=Et a e (λcs=>newRow h 0 cs (Gh n n)) ps:=rfl
def Hp.marked(h:Hp):Hp:={next:=h.next,low:=h.low,high:=h.high,mark:=h.next,bl:=h.bl}
def Hp.quiet(h:Hp):Hp:={next:=h.next,low:=h.next,high:=0,mark:=h.mark,bl:=h.bl}
def Hp.back(h h':Hp):Hp:={next:=h'.next,low:=CD h.low h'.low,high:=C9 h.high h'.high,mark:=h.mark,bl:=h'.bl}
theorem Aw{k:C}:B2 k F e h=k F e h.marked:=rfl
theorem Hp.Wf.marked(a:h.Wf):h.marked.Wf:=⟨a.big,a.has,a.fresh⟩
theorem Hp.Wf.quiet(a:h.Wf):h.quiet.Wf:=⟨a.big,a.has,a.fresh⟩
theorem Hp.Ext.marked{h0:Hp}(x:h0.Ext h):h0.Ext h.marked:=⟨x.next,x.get,x.low,x.wf.marked⟩
theorem Hp.Row.same{b el:Nat}{l:List xU}(r:h.Row b el l)(c:h'.bl=h.bl):h'.Row b el l:=by
 obtain⟨a,d,e⟩:=r;exact⟨a,by rw[c];exact d,e⟩
theorem Hp.Ext.back(x:h.quiet.Ext h'):h.Ext (h.back h') where
 next:=x.next
 get:=x.get
 low:=by
  show _<=CD h.low h'.low;rw[BU];have a:min h.next h.next<=h'.low:=x.low;omega
 wf:=⟨x.wf.big,x.wf.has,x.wf.fresh⟩
theorem Cq{f:OpF}{m:Qm}{v:xU}(a:f F e h.quiet=.ok v h')(x:h.quiet.Ext h')(d:h.mark<=h.next):Ac m f F e h=.ok v (h.back h'):=by
 have c:min h.next h.next<=h'.low:=x.low;have b:qOk m h h'.low=IN:=by
  cases m with
  |AEv=>exact As.2 (by omega)
  |weak=>exact As.2 (by omega)
  |free=>rfl
 show(match f F e h.quiet with|.ok v h'=>bif qOk m h h'.low then DP h v h' else .no|.no=>.no)=_;rw[a];simp only[b,cond_true];unfold DP;simp only[Ao];rfl
theorem BF{f:OpF}{v:xU}(a:f F e h.quiet=.ok v h'):Ac .free f F e h=.ok v (h.back h'):=by
 show(match f F e h.quiet with|.ok v h'=>bif qOk .free h h'.low then DP h v h' else .no|.no=>.no)=_;rw[a];show DP h v h'=_;unfold DP;simp only[Ao];rfl
theorem Zi{f:OpF}{xs:List O}{v:xU}(b:f F e h.quiet=.ok v h')(a:FS e h'.low h'.high xs=IN):Fv xs f F e h=.ok v (h.back h'):=by
 show(match f F e h.quiet with|.ok v h'=>bif FS e h'.low h'.high xs then DP h v h' else .no|.no=>.no)=_;rw[b];simp only[a,cond_true];unfold DP;simp only[Ao];rfl
def Ir(v:xU)(k:C)(F:AEh)(e:Env)(h:Hp):X:=match AE9 v with
 |.ok a=>bif yp a h.mark then k F e h else .no
 |.no=>k F e h
theorem ED{k:C}:Ee x k F e h=Ir (x e) k F e h:=rfl
theorem Df{b off:Nat}{k:C}(a:b<h.mark):Ir (.pointer (BY ⟨b,off,By⟩)) k F e h=k F e h:=by
 show(bif yp b h.mark then k F e h else .no)=_;rw[BV.2 a];rfl
theorem DQ{k:C}:Ci x [] k F e h=k F e h:=by
 unfold Ci;cases AE9 (x e)<;>rfl
theorem Hp.Ext.quiet{h0:Hp}(x:h0.Ext h):h0.Ext h.quiet:=⟨x.next,x.get,by show _<=h.next;have:=x.next;omega,x.wf.quiet⟩
theorem Hp.Ext.AFp{h0:Hp}(x:h0.Ext h)(y:h0.Ext h'):h0.Ext (h.back h') where
 next:=y.next
 get:=y.get
 low:=by
  show _<=CD h.low h'.low;rw[BU];have:=x.low;have:=y.low;omega
 wf:=⟨y.wf.big,y.wf.has,y.wf.fresh⟩
end
end
noncomputable section
open Go Go.RowKit Go.WideShapes Go.ChangeShapes
def sliceAt(b:Nat)(a:ABD)(n c:Nat):Phi:=λd=>if d=b then BY {blk:=a.block,off:=a.off,sz:=c,room:=c,es:=1,inp:=IN}else By
theorem ZI{P:yx}{b:ya}{base t e:Nat}{v:xU}(g:P.underlying t=BY (.slice e))(h:AAr P b .any base t v):
  v=.slice By 0 0\/∃a n c,v=.slice (BY a) n c/\n<=c/\a.spot=By/\a.block<b.heap.size:=by
 unfold AAr at h;rw[g]at h;simp only at h;unfold AEM at h;rw[g]at h;have h:Cell.ok P b .any base t v:=by cases v<;>exact h
 unfold Cell.ok at h;rw[g]at h;split at h<;>first|(exact h.elim;done)|skip
 all_goals (rename_i i _;cases i)
 ·exact .inl rfl
 ·obtain⟨j,_,k⟩:=h
  obtain⟨_,l,row,cells,d,_⟩:=k;refine .inr ⟨_,_,_,rfl,j,l,?_⟩;unfold World.shape? at d;split at d
  ·rename_i f;exact(AAN.1 f).1
  all_goals first|(cases d;done)|(rename_i f;exact(AAN.1 f).1)
theorem VP{P:yx}{b:ya}{base t e:Nat}{v:xU}(d:P.underlying t=BY (.slice e))(h:AEM P b .any base t v):
  v=.slice By 0 0\/∃a n c,v=.slice (BY a) n c/\n<=c/\a.spot=By/\a.block<b.heap.size:=
 ZI (base:=base) d (by unfold AAr;rw[d];exact h)
end
noncomputable section
open Go Go.RowKit Go.WideShapes Go.ChangeShapes
theorem lE{P:yx}{ty:TTy}{bs:FT}(b:∀n,Dn P ty (call bs n)){n f:Nat}{xs a:List xU}{φ:Phi}{w:ya}{h0 h':Hp}(j:call bs n f xs h0=.ok (.bool IN) h')(x:h0.Ext h')(s:h0.low=h0.next)
  (c:AE5 φ xs a)(H:AEp ty φ nil h0 w):Calls P f ⟨a⟩ w λe w'=>e=.returned (.bool IN)/\Below w.heap.size w w':=by
 obtain⟨_,d⟩:=b n f xs h0 _ h' j;refine(d φ w a c H).mono λe w' ⟨u,y,g,k,_,ev⟩=>?_
 have:=k.AFc;subst this;refine⟨g,⟨ev.os,ev.tape,ev.output,ev.size,λm h=>ev.frame m h λl o i t p _ _=>?_⟩⟩;have q:=(H.dom l o i).1;have r:=x.low;omega
theorem O0:∀(n i:Nat),i+1<2 ^ n->(Ft n).has i
 |0,i,a=>by rw[Nat.pow_zero]at a;omega
 |n+1,0,_=>trivial
 |n+1,b+1,a=>by
  show(BT.nd .dead (Ft n) (Ft n)).has (b+1);rw[BT.AEu];have c:b/2+1<2 ^ n:=by
   have:2 ^ (n+1)=2*2 ^ n:=by rw[AEK,zb]
   omega
  split<;>exact O0 n _ c
def Ln(a:List xU):Blk:=.cells (ofL a) a.length 0
def inB:List (List xU)->Nat->BT->BT
 |[],_,a=>a
 |L::c,b,a=>inB c (b+1) (a.lay b (Ln L))
theorem QP:∀(a:List (List xU)) (i:Nat) (t:BT),(∀j,j<256->t.has j)->i+a.length<=256->
  (∀j,j<256->(inB a i t).has j)/\(∀k L,a[k]? =BY L->(inB a i t).get (i+k)=Ln L)/\(∀j,j<i\/i+a.length<=j->(inB a i t).get j=t.get j)
 |[],i,t,d,_=>⟨d,(λk L b=>by cases b),λ_ _=>rfl⟩
 |L::a,i,t,d,m=>by
  have n:i+1+a.length<=256:=by simp only[xh]at m;omega
  have e:∀j,j<i->t.has j:=λj c=>d j (by omega)
  obtain⟨h,l,g⟩:=QP a (i+1) (t.lay i (Ln L)) (λj c=>BT.AFo e j (.inr (d j c))) n;refine⟨h,λk f b=>?_,λj c=>?_⟩
  ·cases k with
   |zero=>
    obtain rfl:L=f:=Option.some.inj b;show(inB a (i+1) (t.lay i (Ln L))).get i=_;rw[g i (.inl (ADi i)),BT.AFf e,If rfl]
   |succ k=>
    have:=l k f b;rw[show i+1+k=i+(k+1)by omega]at this;exact this
  ·show(inB a (i+1) (t.lay i (Ln L))).get j=_
   simp only[xh]at c;rw[g j (by omega),BT.AFf e,No (by omega)]
def inH(a:List (List xU)):Hp:={next:=256,low:=256,high:=0,mark:=256,bl:=inB a 0 (Ft 9)}
theorem NM(j:Nat)(a:j<256):(Ft 9).has j:=O0 9 j (by omega)
theorem QQ{Ls:List (List xU)}(hl:Ls.length<=256){i:Nat}{L:List xU}(h:Ls[i]? =BY L):(inH Ls).bl.get i=Ln L:=by
 have:=(QP Ls 0 (Ft 9) NM (by omega)).2.1 i L h
 rwa [xZ]at this
theorem cA{a:List (List xU)}(d:a.length<=256):(inH a).Wf where
 big:=xW _
 has:=(QP a 0 (Ft 9) NM (by omega)).1
 fresh:=λb c=>by
  have c:256<=b:=c;have:=(QP a 0 (Ft 9) NM (by omega)).2.2 b (.inr (by omega));show(inB a 0 (Ft 9)).get b=_;rw[this];exact LC 9 b
theorem XH{b:List (List xU)}(c:b.length<=256){i:Nat}{a:List xU}(h:b[i]? =BY a):(inH b).Row i 0 a:=⟨ofL a,QQ c h,(IC a).2⟩
def Me(e:ya)(a:ABD)(c:List xU):Prop:=∃d f fr,e.heap[a.block]? =BY (.cells d f fr)/\(∀b,b<c.length->d[a.off+b]? =BY (c.getD b AEl))/\∀b,b<c.length->¬(fr.1<=a.off+b/\a.off+b<fr.2)
def Sy(a:ABD)(c:Nat):Pl:={blk:=a.block,off:=if c=0 then 0 else a.off,sz:=c,room:=c,es:=1,inp:=IN}
def PC(ps:List (Option Pl)):Phi:=λa=>(ps[a]?).getD By
theorem dm{k:ya}{ty:TTy}{φ:Phi}{a:ABD}{b g:List xU}(h:Me k a g)(m:AE5 φ b g):AFh ty φ (Sy a b.length) (Ln b) k.heap[a.block]?:=by
 obtain⟨l,u,fr,p,i,n⟩:=h;have q:g.length=b.length:=m.length;rw[q]at i n;rw[p];refine .cells {kind:=⟨rfl,.inl ⟨rfl,rfl,rfl,.inr rfl⟩⟩,room:=xW _,fits:=?_,loose:=.inr ⟨rfl,rfl,λe c f=>?_⟩,cell:=λd j=>?_}
 ·show(if b.length=0 then 0 else a.off)+b.length<=l.size
  rcases yl b.length with h0|h0
  ·rw[If h0,h0];exact yH _
  ·rw[No (by omega)]
   have:=(AAN.1 (i (b.length - 1) (by omega))).1;omega
 ·have c:(if b.length=0 then 0 else a.off)<=e:=c
  have f:e<(if b.length=0 then 0 else a.off)+b.length:=f;rcases yl b.length with h0|h0
  ·rw[If h0]at f;omega
  ·rw[No (by omega)]at c f
   have:=n (e - a.off) (by omega);have o:a.off+(e - a.off)=e:=by omega
   rw[o]at this;exact this
 ·have c:=i d j
  obtain⟨t,r,s⟩:=m.get d (b.getD d AEl) (by rw[xe,xc j];rfl);refine⟨t,?_,?_⟩
  ·show l[(if b.length=0 then 0 else a.off)+d]? =_
   rw[No (by omega),c,xe,r];rfl
  ·rw[((IC b).2 d j).2];exact s
theorem Me.lt{b:ya}{a:ABD}{c:List xU}(h:Me b a c):a.block<b.heap.size:=by
 obtain⟨e,f,fr,d,_⟩:=h;exact(AAN.1 d).1
theorem sQ{k:ya}{ty:TTy}{ps:List (Option Pl)}{j:List (List xU)}(g:j.length<=256)
  (h:∀i p,PC ps i=BY p->∃a b,p=Sy a b.length/\j[i]? =BY b/\a.block<k.heap.size/\AFh ty (PC ps) (Sy a b.length) (Ln b) k.heap[a.block]?):AEp ty (PC ps) nil (inH j) k where
 dom:=λi p d=>by
  obtain⟨a,b,rfl,c,l,_⟩:=h i p d;have e:=(yN.1 c).1;exact⟨by show i<256;omega,l⟩
 inj:=λi q p r c l _ _ _ _ n=>by
  obtain⟨a,b,rfl,_⟩:=h i p c;obtain⟨u,t,rfl,_⟩:=h q r l;rcases n with e|e<;>cases e
 row:=λi p d _=>by
  obtain⟨a,b,rfl,c,_,e⟩:=h i p d;rw[QQ g c];exact e
 fresh:=(cA g).fresh
 kind:=λi p m s d o f=>by
  obtain⟨a,b,rfl,c,_,e⟩:=h i p o;rw[QQ g c]at f;have f:Blk.cells (ofL b) b.length 0=.cells m s d:=f;cases f;exact⟨rfl,.inl ⟨rfl,rfl,rfl,.inr rfl⟩⟩
 inp:=λi p d _=>by
  obtain⟨a,b,rfl,c,_⟩:=h i p d;have e:=(yN.1 c).1;omega
def ints(k:yJ)(Z:List Int):List xU:=Z.map (.int k)
def Hp.AE7(h:Hp)(v:xU)(xs:List xU):Prop:=(v=.slice By 0 0/\xs=[])\/∃c b d e a,v=.slice (BY ⟨c,b,By⟩) xs.length d/\h.Row c e a/\b+xs.length<=a.length/\(a.drop b).take xs.length=xs
def ZZ(c:ya)(a:List xU)(q:Option Pl):Prop:=q=By\/∃b,q=BY (Sy b a.length)/\Me c b a
end
noncomputable section
open Go Go.RowKit Go.ChangeShapes
theorem sT:type_of% (yK @IB (yK @Px (yK @Hs (yK @Z5 (yK @Hr (yK @A7 (yK @Ap (yK @Mr (yK @WE (yK @RG (yK @ID (yK @bK (yK @JI (yK @Ht (yK @Ay (yK @Pb (yK @Cr (yK @Bt (yK @CE (yK @A5 (yK @En (yK @EY @AG)))))))))))))))))))))):=yK @IB (yK @Px (yK @Hs (yK @Z5 (yK @Hr (yK @A7 (yK @Ap (yK @Mr (yK @WE (yK @RG (yK @ID (yK @bK (yK @JI (yK @Ht (yK @Ay (yK @Pb (yK @Cr (yK @Bt (yK @CE (yK @A5 (yK @En (yK @EY @AG)))))))))))))))))))))
theorem iN:type_of% (yK @KR (yK @Lx (yK @ADJ @xZ))):=yK @KR (yK @Lx (yK @ADJ @xZ))
theorem cA0:type_of% (yK @BX (yK @AV @A4)):=(yK @BX (yK @AV @A4))
theorem lV0:type_of% (yK @Av @Re):=(yK @Av @Re)
theorem gD:type_of% (yK @Z6 (yK @PA (yK @O9 (yK @O8 (yK @O7 (yK @Ll (yK @TT (yK @Sj (yK @Nv @Lr))))))))):=yK @Z6 (yK @PA (yK @O9 (yK @O8 (yK @O7 (yK @Ll (yK @TT (yK @Sj (yK @Nv @Lr))))))))
section
variable {F:AEh}{e:Env}{h h':Hp}{x y:O}
theorem Hp.AE7.ext{v:xU}{l:List xU}(b:h.AE7 v l)(d:h.Wf)(x:h.Ext h'):h'.AE7 v l:=by
 rcases b with a|⟨b,j,e,f,c,a,g,i⟩
 ·exact .inl a
 ·exact .inr ⟨b,j,e,f,c,a,g.ext d x,i⟩
theorem Hp.AE7.same{v:xU}{l:List xU}(b:h.AE7 v l)(i:h'.bl=h.bl):h'.AE7 v l:=by
 rcases b with a|⟨b,j,d,e,c,a,f,g⟩
 ·exact .inl a
 ·exact .inr ⟨b,j,d,e,c,a,f.same i,g⟩
theorem Hp.AE7.src{v:xU}{l:List xU}(b:h.AE7 v l){n:Nat}(f:n=l.length)(k:List xU->R):BM h 1 v n k=k l:=by
 subst f;rcases b with ⟨a,c⟩|⟨b,m,i,j,g,a,c,d,e⟩
 ·rw[a,c];rfl
 ·rw[a,c.src d,e]
theorem Hp.AE7.shape{v:xU}{l:List xU}(b:h.AE7 v l):∃a c,v=.slice a l.length c:=by
 rcases b with ⟨d,e⟩|⟨b,k,c,g,f,d,e,i,j⟩
 ·exact⟨By,0,by rw[d,e];rfl⟩
 ·exact⟨_,_,d⟩
theorem Hp.AE7.len{v:xU}{l:List xU}(b:h.AE7 v l):AFB v h=.ok (AI AT (l.length:Int)) h:=by
 obtain⟨a,c,rfl⟩:=b.shape;rfl
theorem Hp.AE7.lenV{v:xU}{l:List xU}(b:h.AE7 v l):lenV v=.ok l.length:=by
 obtain⟨a,c,rfl⟩:=b.shape;rfl
theorem Hp.AE7.at{v:xU}{l:List xU}(b:h.AE7 v l){i:Nat}(hi:i<l.length):∃a,AFV 1 v (AI AT (i:Int)) h=.ok (.pointer (BY a)) h/\I7 (.pointer (BY a)) h=.ok (l.getD i AEl) h:=by
 rcases b with ⟨d,c⟩|⟨b,g,k,m,j,d,c,n,e⟩
 ·rw[c]at hi;cases hi
 ·refine⟨⟨b,g+i*1,By⟩,by rw[d];exact Cy hi,?_⟩
  rw[AQ,c.AEi (by omega)];have:=congrArg (λf=>f[i]?) e;simp only[zy,ABJ,If hi]at this;rw[xe,zw,this,xe]
theorem Hp.AE7.bytes{v:xU}{l:List Nat}(b:h.AE7 v (l.map bv)):h.Bytes v l:=by
 rcases b with ⟨a,c⟩|⟨b,j,g,i,f,a,c,d,e⟩
 ·exact .inl ⟨a,by cases l with
   |nil=>rfl
   |cons k l=>cases c⟩
 ·rw[xa]at a d e
  exact .inr ⟨b,j,g,i,f,a,c,d,e⟩
theorem Hp.AE7.cut{v:xU}{l:List xU}(b:h.AE7 v l){n:Nat}(f:n<l.length):∃o c,v=.slice (BY o) l.length c/\h.AE7 (.slice (BY o) n c) (l.take n):=by
 rcases b with ⟨d,a⟩|⟨b,g,c,j,i,d,a,m,k⟩
 ·rw[a]at f;cases f
 ·have e:(l.take n).length=n:=by rw[yP];omega
  refine⟨⟨b,g,By⟩,c,d,.inr ⟨b,g,c,j,i,by rw[e],a,by omega,?_⟩⟩;rw[e,<- k,List.take_take,AAb (by omega)]
def AE1(v:xU)(b:Nat):Prop:=∃d c a,v=.slice (BY ⟨b,d,By⟩) c a
theorem Jf{b:Nat}:¬AE1 (.slice By 0 0) b:=λ⟨_,_,_,h⟩=>by cases h
theorem ME{b b' n c:Nat}(h:b'≠b):¬AE1 (.slice (BY ⟨b,0,By⟩) n c) b':=λ⟨_,_,_,e⟩=>by
 injection e with e _ _
 injection e with e
 injection e with e _ _
 exact h e.symm
def Hp.Own(h:Hp)(k en:Nat)(v:xU)(xs:List xU):Prop:=(v=.slice By 0 0/\xs=[])\/∃a,v=.slice (BY ⟨a,0,By⟩) xs.length xs.length/\h.Row a (en+1) xs/\k<=a/\256<=a
theorem Hp.Own.vals{k en:Nat}{v:xU}{xs:List xU}(o:h.Own k en v xs):h.AE7 v xs:=by
 rcases o with a|⟨b,a,c,_⟩
 ·exact .inl a
 ·exact .inr ⟨b,0,_,_,xs,a,c,by omega,by rw[List.drop_zero,List.take_length]⟩
theorem Hp.Own.le{k k' en:Nat}{v:xU}{xs:List xU}(o:h.Own k en v xs)(hk:k'<=k):h.Own k' en v xs:=by
 rcases o with a|⟨b,a,c,d,e⟩
 ·exact .inl a
 ·exact .inr ⟨b,a,c,yS hk d,e⟩
theorem Hp.Own.keep{k en:Nat}{v:xU}{xs:List xU}(o:h.Own k en v xs)(hk:∀b el c,AE1 v b->h.Row b el c->h'.Row b el c):h'.Own k en v xs:=by
 rcases o with a|⟨b,a,d,e,f⟩
 ·exact .inl a
 ·exact .inr ⟨b,a,hk b _ _ ⟨0,_,_,a⟩ d,e,f⟩
theorem Hp.Own.ext{k en:Nat}{v:xU}{xs:List xU}(o:h.Own k en v xs)(a:h.Wf)(x:h.Ext h'):h'.Own k en v xs:=o.keep λ_ _ _ _ b=>b.ext a x
theorem Hp.Own.same{k en:Nat}{v:xU}{xs:List xU}(o:h.Own k en v xs)(a:h'.bl=h.bl):h'.Own k en v xs:=o.keep λ_ _ _ _ b=>b.same a
theorem E7{h0:Hp}{eb en k:Nat}{v u:xU}{xs ys:List xU}(n:h0.Ext h)(hk:h0.next<=k)(s:k<=h.next)(o:h.Own k en v xs)(y:h.AE7 u ys)(Q:0<ys.length)(q:Bc ys=IN)(w:(xs.length+ys.length+1)*(eb+1)<=1099511627776):
  ∃h' v',DU 1 eb en v u h=.ok v' h'/\h0.Ext h'/\h'.Own k en v' (xs++ys)/\h'.next=h.next+1/\∀b el p,¬AE1 v b->h.Row b el p->h'.Row b el p/\¬AE1 v' b:=by
 have a:=n.wf;rcases o with ⟨rfl,rfl⟩|⟨b,rfl,z,O,I⟩
 ·obtain⟨t1,t2⟩:=IC ys
  refine⟨h.push (.cells (ofL ys) ys.length (en+1)),.slice (BY ⟨h.next,0,By⟩) ys.length ys.length,?_,n.push _,.inr ⟨h.next,rfl,⟨ofL ys,by rw[a.AE8,If rfl];rfl,t2⟩,s,a.big⟩,rfl,λd G B _ c=>⟨c.push a _,ME (by have:=c.lt a;omega)⟩⟩;unfold DU DL;simp only[y.lenV,y.src rfl,Ao,zS,xZ];have l:yI ys.length 0=IT:=by
   cases e:yI ys.length 0
   ·rfl
   ·have:=As.1 e;omega
  have m:yI (yv (xz ys.length) (xz eb)) JP=IN:=As.2 (HO (by
   have:=w;simp only[yU,xZ]at this;exact this))
  rw[l];simp only[m,cond_true,q];unfold Gs BM J0;simp only[yT,t1];unfold Eu;simp only[Bm];unfold Cb;rw[Ao,C7 a];rfl
 ·obtain⟨D,r,K⟩:=z.rowOf
  obtain⟨i,H,f⟩:=EF ys D xs xs.length K (.inr rfl);have f:i.Is (xs++ys):=by
   have e:xs.drop (xs.length+ys.length)=[]:=ym (by omega);rw[e]at f
   simpa using f
  have t:(xs++ys).length=xs.length+ys.length:=xY;have g:=z.lt a;have j:(h.put b .dead).Wf:=a.put g _;have N:h0.Ext (h.put b .dead):=n.put (by omega) g _;refine⟨(h.put b .dead).push (.cells i (xs.length+ys.length) (en+1)),.slice (BY ⟨h.next,0,By⟩) (xs.length+ys.length) (xs.length+ys.length),?_,N.push _,.inr ⟨h.next,by rw[t],⟨i,by
   have:=j.AE8 (.cells i (xs.length+ys.length) (en+1)) h.next;rw[this,If (show h.next=(h.put b .dead).next from rfl),t],f⟩,s,a.big⟩,rfl,λd G B M c=>?_⟩
  ·unfold DU DL
   simp only[y.lenV,y.src rfl,Ao,zS];have l:yI (xs.length+ys.length) xs.length=IT:=by
    cases e:yI (xs.length+ys.length) xs.length
    ·rfl
    ·have:=As.1 e;omega
   have m:yI (yv (xz (xs.length+ys.length)) (xz eb)) JP=IN:=As.2 (HO w);rw[l];simp only[m,cond_true,q];unfold Gs;have E:yA xs.length (yv xs.length 1)=IN:=A0.2 (zw _).symm;simp only[r,E,H];unfold Eu;have F:Lg 0 xs.length 1 xs.length=IN:=by
    unfold Lg;cases xs.length with
    |zero=>rfl
    |succ x=>exact A0.2 (by show 0+(x+1)*1=x+1;omega)
   simp only[r,Bm,zS,zU,cond_true,F];rw[Ea a I g];unfold Cb;rw[Ao,C7 j];rfl
  ·have A:d≠b:=λe=>M ⟨0,_,_,by rw[e]⟩
   have P:d<h.next:=c.lt a;obtain⟨C,J,L⟩:=c;refine⟨⟨C,?_,L⟩,ME (by omega)⟩;rw[j.AE8,No (by show d≠h.next;omega),a.AFL g,No A,J]
theorem Fk(b:h.Wf){g:O}{z v:xU}(a:g e=v)(hk:known v=IN)(c:cellsOf v=[v]):Ab 1 [z] [(0,1,g)] F e h=.ok (.slice (BY ⟨h.next,0,By⟩) 1 1) (h.AEg 0 [v]):=by
 rw[B5,Ad (hk:=by rw[a];exact hk),a,c,If (show [v].length=1 from rfl),If (show 0+1<=[z].length from xW _),Bo,Cm b];rfl
theorem Nq(a:h.Wf){v:xU}:(h.AEg 0 [v]).AE7 (.slice (BY ⟨h.next,0,By⟩) 1 1) [v]:=.inr ⟨h.next,0,1,0,[v],rfl,Hp.Row.new a 0 [v],by simp,rfl⟩
theorem Hn(k:yJ):∀Z:List Int,Bc (ints k Z)=IN
 |[]=>rfl
 |z::Z=>Hn k Z
theorem kR{h0:Hp}{eb en k:Nat}{v:xU}{xs:List xU}{n:Int}{kd:yJ}(d:h0.Ext h)(hk:h0.next<=k)(m:k<=h.next)(o:h.Own k en v xs)(p:(xs.length+2)*(eb+1)<=1099511627776):
  ∃h' v',DU 1 eb en v (.slice (BY ⟨h.next,0,By⟩) 1 1) (h.AEg 0 [.int kd n])=.ok v' h'/\h0.Ext h'/\h'.Own k en v' (xs++[.int kd n])/\h'.next=h.next+2/\∀b el a,¬AE1 v b->h.Row b el a->h'.Row b el a/\¬AE1 v' b:=by
 have c:=d.wf;have s:=d.AEg 0 [.int kd n];have q:(h.AEg 0 [.int kd n]).Own k en v xs:=o.ext c ((Hp.Ext.refl c).AEg _ _);obtain⟨h',v',e,b,g,i,j⟩:=E7 (eb:=eb) s hk (AB7 m) q (Nq c) (by simp) rfl (by simpa using p);exact⟨h',v',e,b,g,i,λf el a l r=>j f el a l (r.push c _)⟩
def JC(F:AEh)(v:xU)(a:List xU)(h:Hp):R:=match v with
 |.func (.func b) first cap=>F b (first.toList++(a++cap.toList)) h
 |_=>.no
theorem CU{f:O}{l:List O}:B4 f l F e h=JC F (f e) (vals e l) h:=by
 show(match f e with|.func (.func b) first cap=>AFT (vals e l) (λa=>F b (first.toList++(a++cap.toList)) h)|_=>.no)=_;unfold JC;split<;>simp only[DE]
theorem Cf{g:Nat}{l c a:List xU}:JC F (.func (.func g) ⟨l⟩ ⟨c⟩) a h=F g (l++(a++c)) h:=rfl
theorem Dx{a:Fn}{l c:List O}:EZ a l c F e h=.ok (.func a ⟨vals e l⟩ ⟨vals e c⟩) h:=by
 show AFT (vals e l) (λb=>AFT (vals e c) λc=>.ok (.func a ⟨b⟩ ⟨c⟩) h)=_;rw[DE,DE]
end
def Zn(a:List xU)(h:Hp):R:=match a with
 |[]=>.ok (.bool IN) h
 |_::_=>.no
def Kn:Body:=⟨[.x (λ_=>Zn)],cNo⟩
theorem HU{ty:TTy}{φ:Phi}{E:Nat->Prop}{h:Hp}{w w':ya}(H:AEp ty φ E h w)(hb:Below w.heap.size w w'):AEp ty φ E h w'/\Evo φ h w φ h w':=
 ⟨{dom:=λi p e=>⟨(H.dom i p e).1,zG (H.dom i p e).2 hb.size⟩
   inj:=H.inj
   row:=λi p e hE=>(by rw[hb.block _ (H.dom i p e).2];exact H.row i p e hE)
   fresh:=H.fresh
   kind:=H.kind
   inp:=H.inp},
  {le:=.refl _
   new:=λ_ _ e=>.inl e
   next:=xW _
   size:=hb.size
   tape:=hb.tape
   os:=hb.os
   output:=hb.output
   frame:=λk hk _=>hb.block k hk
   back:=λi p e hl _=>⟨i,p,e,hl,rfl,rfl,.inl rfl⟩
   kept:=λ_ _ _=>rfl
   low:=xW _
   high:=xW _
   shape:=λ_ _=>.refl _
   only:=λ_ _ _=>rfl
   all:=λ_ h1 h2=>absurd h2 (ABS.2 h1)}⟩
theorem ZS{P:yx}{ty:TTy}{f:Nat}(k:∃b,P.funcs[f]? =BY b/\b.name≠"runtime.NumGoroutine" /\b.body.isNone=IT)(l:∀w:ya,Calls P f #[] w λe w'=>e=.returned (.bool IN)/\Below w.heap.size w w'):Md P ty f Kn:=λo d i v j _ a=>⟨k,λn w q h c=>by
 have a:Zn d i=.ok v j:=a;cases d with
 |cons p r=>cases a
 |nil=>
  cases a;cases h;exact(l w).mono λe w' ⟨m,g⟩=>⟨_,n,m,.bool IN,(HU c g).1,(HU c g).2⟩⟩
theorem UH{bs:FT}{n f:Nat}(a:bs.get f=BY Kn){h:Hp}:call bs (xz n) f [] h=.ok (.bool IN) h:=by
 rw[P6 a];rfl
end
noncomputable section
open Go
def BD(n:Nat):List Nat:=if a:n<128 then [n]else(n % 128+128)::BD (n/128)
termination_by n
decreasing_by exact ACQ (by omega) (by omega)
theorem FP{n:Nat}(h:n<128):BD n=[n]:=by rw[BD,dif_pos h]
theorem G8{n:Nat}(h:128<=n):BD n=(n % 128+128)::BD (n/128):=by rw[BD,dif_neg (by omega)]
theorem IQ:∀(n x:Nat),x∈BD n->x<256:=by
 intro n
 induction n using ABa with
 |_ n b=>
  intro x hx;by_cases a:n<128
  ·rw[FP a,List.mem_singleton]at hx
   omega
  ·rw[G8 (by omega)]at hx
   rcases yC.1 hx with rfl|hx
   ·omega
   ·exact b (n/128) (ACQ (by omega) (by omega)) x hx
theorem Lc(n:Nat):0<(BD n).length:=by
 by_cases a:n<128
 ·rw[FP a];exact Nat.one_pos
 ·rw[G8 (by omega)];exact ABE _
theorem Ed:∀(k n:Nat),n<128 ^ (k+1)->(BD n).length<=k+1
 |0,n,a=>by
  have a:n<128:=by simpa using a
  rw[FP a];exact xW _
 |k+1,n,a=>by
  by_cases b:n<128
  ·rw[FP b];show 1<=_;omega
  ·rw[G8 (by omega),xh]
   have c:n<128*128 ^ (k+1):=by rw[AEK]at a;rw[zb];exact a
   have:=Ed k (n/128) (ADB c);omega
theorem G9{n:Nat}(h:n<18446744073709551616):(BD n).length<=10:=Ed 9 n (by
 have:(128:Nat) ^ (9+1)=1180591620717411303424:=by decide
 rw[this];omega)
def Fe:Nat->Nat->List Nat->Option (Nat×Nat)
 |_,_,[]=>By
 |k,b,a::c=>if(0<k/\a=0)\/(8<k/\1<a)then By else if a<128 then BY (b+a*2 ^ (7*k),k+1)else Fe (k+1) (b+a % 128*2 ^ (7*k)) c
theorem Ny(k:Nat):2 ^ (7*(k+1))=128*2 ^ (7*k):=by
 rw[show 7*(k+1)=7+7*k by omega,AER,show(2:Nat) ^ 7=128 from rfl]
theorem S0{k:Nat}(hk:k<=8):2 ^ (64 - 7*k)=128*2 ^ (64 - 7*(k+1)):=by
 rw[show 64 - 7*k=7+(64 - 7*(k+1))by omega,AER,show(2:Nat) ^ 7=128 from rfl]
theorem fP:∀(n k a:Nat) (r:List Nat),k<=9->n<2 ^ (64 - 7*k)->(0<k->n≠0)->Fe k a (BD n++r)=BY (a+n*2 ^ (7*k),k+(BD n).length):=by
 intro n
 induction n using ABa with
 |_ n p=>
  intro k a r q c j;by_cases f:n<128
  ·rw[FP f]
   show Fe k a (n::r)=_;have b:¬((0<k/\n=0)\/(8<k/\1<n)):=by
    rintro (⟨d,e⟩|⟨d,e⟩)
    ·exact j d e
    ·have:k=9:=by omega
     subst this;have:n<2:=c;omega
   rw[Fe,No b,If f];rfl
  ·have m:k<=8:=by
    rcases yM k 9 with b|b
    ·omega
    ·have:k=9:=by omega
     subst this;have:n<2:=c;omega
   rw[G8 (by omega)];show Fe k a ((n % 128+128)::(BD (n/128)++r))=_;have b:¬((0<k/\n % 128+128=0)\/(8<k/\1<n % 128+128)):=by omega
   have l:¬n % 128+128<128:=by omega
   rw[Fe,No b,No l];have o:n/128<2 ^ (64 - 7*(k+1)):=by
    rw[S0 m]at c;exact ADB c
   rw[p (n/128) (ACQ (by omega) (by omega)) (k+1) _ r (by omega) o (by omega)];have g:(n % 128+128) % 128=n % 128:=by omega
   have h:a+n % 128*2 ^ (7*k)+n/128*(128*2 ^ (7*k))=a+n*2 ^ (7*k):=by
    have i:n*2 ^ (7*k)=(128*(n/128)+n % 128)*2 ^ (7*k):=by rw[Nat.div_add_mod]
    rw[i,ABf,zb 128 (n/128),AEA];omega
   rw[g,Ny,h,xh,show k+1+(BD (n/128)).length=k+((BD (n/128)).length+1)by omega]
theorem Tf:∀(l:List Nat) (k b v j:Nat),k<=9->(∀x∈l,x<256)->Fe k b l=BY (v,j)->∃n r,l=BD n++r/\v=b+n*2 ^ (7*k)/\j=k+(BD n).length/\(0<k->n≠0)/\n<2 ^ (64 - 7*k)
 |[],k,b,v,j,_,_,a=>by cases a
 |c::r,k,b,v,j,C,e,a=>by
  rw[Fe]at a;split at a
  ·cases a
  ·rename_i y
   split at a
   ·rename_i d
    cases a;refine⟨c,r,by rw[FP d];rfl,rfl,by rw[FP d];rfl,by omega,?_⟩;rcases yM k 9 with q|q
    ·have z:2 ^ 8<=2 ^ (64 - 7*k):=Nat.pow_le_pow_right (by omega) (by omega)
     have A:(2:Nat) ^ 8=256:=rfl;omega
    ·have:k=9:=by omega
     subst this;show c<2;omega
   ·rename_i d
    have s:k<=8:=by omega
    obtain⟨n,u,rfl,i,m,o,w⟩:=Tf r (k+1) _ v j (by omega) (λx t=>e x (xn _ t)) a;have B:=e c xp;have D:n≠0:=o (ABE k);have f:BD (c % 128+128*n)=c::BD n:=by
     rw[G8 (by omega)];have g:(c % 128+128*n) % 128+128=c:=by omega
     have h:(c % 128+128*n)/128=n:=by omega
     rw[g,h]
    refine⟨c % 128+128*n,u,by rw[f];rfl,?_,?_,λ_=>by omega,?_⟩
    ·have p:n*(128*2 ^ (7*k))=128*n*2 ^ (7*k):=by rw[<- AEA,zb n 128]
     rw[i,Ny,ABf,p];omega
    ·rw[m,f,xh];omega
    ·rw[S0 s];omega
theorem VZ{v:Nat}(h:v<18446744073709551616)(r:List Nat):Fe 0 0 (BD v++r)=BY (v,(BD v).length):=by
 have:=fP v 0 0 r (by omega) h (by omega)
 simpa using this
theorem fO{l:List Nat}{v j:Nat}(f:∀x∈l,x<256)(h:Fe 0 0 l=BY (v,j)):l=BD v++l.drop j/\j=(BD v).length/\v<18446744073709551616:=by
 obtain⟨i,k,c,d,e,_,a⟩:=Tf l 0 0 v j (by omega) f h;have g:v=i:=by simpa using d
 subst g;have b:j=(BD v).length:=by simpa using e
 have a:v<18446744073709551616:=a;refine⟨?_,b,a⟩;subst c;rw[b,List.drop_left]
theorem YB{l:List Nat}{v j:Nat}(b:∀x∈l,x<256)(h:Fe 0 0 l=BY (v,j)):j<=l.length:=by
 obtain⟨a,c,_⟩:=fO b h;have:=congrArg List.length a;rw[xY]at this;omega
def veq:xU->xU->Bool
 |.bool a,.bool b=>a == b
 |.int c a,.int d b=>Dz c d && iEq a b
 |.string a,.string b=>bEq a.data.toList b.data.toList
 |.pointer By,.pointer By=>IN
 |.slice By 0 0,.slice By 0 0=>IN
 |.map By,.map By=>IN
 |.nilFunc,.nilFunc=>IN
 |.nilIface,.nilIface=>IN
 |_,_=>IT
def leq:List xU->List xU->Bool
 |[],[]=>IN
 |a::c,b::d=>veq a b && leq c d
 |_,_=>IT
def zeq:xU->xU->Bool
 |.agg a,.agg b=>leq a.toList b.toList
 |.agg _,_=>IT
 |a,b=>veq a b
theorem fT{a b:xU}(h:veq a b=IN):a=b:=by
 unfold veq at h;split at h
 ·simpa using h
 ·rw[yE,Dv]at h
  have h1:=II h.1;rw[h1,eq_of_beq h.2]
 ·rw[Mi]at h
  rename_i a b;have e1:=NB (a:=a) (eq_of_beq h);have e2:=NB (a:=b) rfl;exact congrArg Value.string (e1.trans e2.symm)
 all_goals first|rfl|cases h
theorem cS:∀{a b:List xU},leq a b=IN->a=b
 |[],[],_=>rfl
 |x::a,d::b,c=>by
  have c:(veq x d && leq a b)=IN:=c;rw[yE]at c;rw[fT c.1,cS c.2]
 |[],_::_,c=>by cases c
 |_::_,[],c=>by cases c
theorem uT{a b:xU}(h:zeq a b=IN):a=b:=by
 unfold zeq at h;split at h
 ·rename_i c d
  have:=cS h
  congr 1
  exact zT this
 ·cases h
 ·exact fT h
def ii:List (Nat×Nat×Nat)->List (Nat×Nat×Nat)->Bool
 |[],[]=>IN
 |(a,b,c)::g,(d,e,f)::h=>yA a d && (yA b e && (yA c f && ii g h))
 |_,_=>IT
theorem Wl:∀{x y:List (Nat×Nat×Nat)},ii x y=IN->x=y
 |[],[],_=>rfl
 |(b,c,d)::x,(e,f,g)::y,a=>by
  have a:(yA b e && (yA c f && (yA d g && ii x y)))=IN:=a;simp only[yE]at a;rw[A0.1 a.1,A0.1 a.2.1,A0.1 a.2.2.1,Wl a.2.2.2]
 |[],_::_,a=>by cases a
 |_::_,[],a=>by cases a
def cM(P:yx)(k:TK)(d:AB9):Bool:=match k,d with
 |.int a,.int b=>Dz a b
 |.bool,.bool=>IN
 |.string,.string=>IN
 |.ptr a,.pointer b=>yA a b
 |.slice a,.slice b=>yA a b
 |.arr f a,.array e b=>yA f e && yA a b
 |.map f a,.map e b=>yA f e && yA a b
 |.struct h,.struct g=>ii (g.toList.map λc=>(c.offset,P.cellsOf c.type,c.type)) h && g.toList.all λc=>(P.info? c.type).isSome
 |.iface,.interface _=>IN
 |.func,.func _ _ _=>IN
 |.other,.struct _=>IT
 |.other,.array _ _=>IT
 |.other,.interface _=>IT
 |.other,_=>IN
 |_,_=>IT
theorem cP{P:yx}{k:TK}{d:AB9}(h:cM P k d=IN):KOk P k d:=by
 unfold cM at h;split at h
 ·rw[II h];exact .int _
 ·exact .bool
 ·exact .string
 ·rw[A0.1 h];exact .ptr _
 ·rw[A0.1 h];exact .slice _
 ·rw[yE]at h
  rw[A0.1 h.1,A0.1 h.2];exact .arr _ _
 ·rw[yE]at h
  rw[A0.1 h.1,A0.1 h.2];exact .map _ _
 ·rw[yE]at h
  exact .struct (Wl h.1) h.2
 ·exact .iface _
 ·exact .func _ _ _
 ·cases h
 ·cases h
 ·cases h
 ·rename_i f g i
  refine .other ?_;split
  ·rename_i b;exact absurd rfl (f b)
  ·rename_i e a;exact absurd rfl (g e a)
  ·rename_i c;exact absurd rfl (i c)
  ·rfl
 ·cases h
def fd(a:TI)(z:Option xU):Bool:=
 (match a.zero with
  |[]=>yp 0 a.size
  |_::_=>IT) ||
 (match zeroV a,z with
  |some b,BY c=>zeq b c && (a.zero.all plainV && yA (Dw a.zero) a.size)
  |_,_=>IT)
theorem fe{a:TI}{z:Option xU}(h:fd a z=IN):(a.zero=[]/\0<a.size)\/∃y,zeroV a=BY y/\z=BY y/\a.zero.all plainV=IN/\a.zero.length=a.size:=by
 unfold fd at h;rw[ACM]at h;rcases h with h|h
 ·left
  split at h
  ·rename_i e;exact⟨e,BV.1 h⟩
  ·cases h
 ·right
  split at h
  ·rename_i c f d
   simp only[yE]at h;have b:=A0.1 h.2.2;rw[Bm]at b;exact⟨c,d,by rw[uT h.1],h.2.1,b⟩
  ·cases h
def xF(b:Bool):AB9->Bool
 |.pointer _=>b
 |_=>not b
def XT(P:yx)(t:Nat)(g:String)(f:Nat):Bool:=match P.info? t with
 |some e=>match e.methods.find? (·.name == g)with
  |some a=>match a.path.toList with
   |[]=>match a.func with
    |some (d,b)=>match P.underlying t with
     |some c=>yA d f && xF b c
     |none=>IT
    |none=>IT
   |_::_=>IT
  |none=>IT
 |none=>IT
theorem cY{P:yx}{t:Nat}{d:String}{f:Nat}(h:XT P t d f=IN)(v:xU)(w:ya):(method (P.types.size+AEU) t v d).run P w=.ok (f,v) w:=by
 unfold XT at h;split at h
 ·rename_i p k
  split at h
  ·rename_i q l
   split at h
   ·rename_i m
    split at h
    ·rename_i o b j
     split at h
     ·rename_i e i
      rw[yE]at h;have g:=A0.1 h.1;subst g;have a:=h.2;show(method ((P.types.size+99)+1) t v d).run P w=_;unfold method;simp only[typeInfo,xr,run_program,xd,k,xu,l,m,follow,j,receiverAt,underlying,i];cases e with
      |pointer n=>
       have c:b=IN:=a;subst c;simp only[AEP,xr,xu,xd]
      |_=>
       have c:b=IT:=by
        have a:(!b)=IN:=a;cases b with
        |true=>cases a
        |false=>rfl
       subst c;simp only[AEP,xr,xu,xd]
     ·cases h
    ·cases h
   ·cases h
  ·cases h
 ·cases h
def XU(P:yx)(t:Nat):List (String×Nat)->Bool
 |[]=>IN
 |x::a=>XT P t x.1 x.2 && XU P t a
theorem SX{P:yx}{t:Nat}:∀{l:List (String×Nat)},XU P t l=IN->∀name f,findM name l=BY f->∀v w,(method (P.types.size+AEU) t v name).run P w=.ok (f,v) w
 |[],_,name,f,h=>by cases h
 |x::l,hb,name,f,h=>by
  have hb:(XT P t x.1 x.2 && XU P t l)=IN:=hb;rw[yE]at hb;unfold findM at h;split at h
  ·rename_i hn
   cases h;rw[<- eq_of_beq hn];exact λv w=>cY hb.1 v w
  ·exact SX hb.2 name f h
def tyB(P:yx)(t:Nat)(a:TI):Bool:=match P.info? t with
 |some b=>match P.underlying t with
  |some c=>yA b.size a.size && (yA b.bytes a.bytes && (fd a b.zero && (cM P a.k c && (AGt P t && XU P t a.ms))))
  |none=>IT
 |none=>IT
theorem uM{P:yx}(c:8<=P.depth){t:Nat}{a:TI}(h:tyB P t a=IN):AFD P t a:=by
 unfold tyB at h;split at h
 ·rename_i f d
  split at h
  ·rename_i b e
   simp only[yE]at h;exact⟨h.2.2.2.2.1,c,⟨f,d,A0.1 h.1,A0.1 h.2.1,fe h.2.2.1⟩,⟨b,e,cP h.2.2.2.1⟩,SX h.2.2.2.2.2⟩
  ·cases h
 ·cases h
def wW(P:yx)(t:Nat):Option TI->Bool
 |some a=>tyB P t a
 |none=>IN
def ZO(P:yx):TTy->(Nat->Nat)->Bool
 |.mt,_=>IN
 |.nd e c d,a=>wW P (a 0) e && (ZO P c (λb=>a (xz (yv 2 b))) && ZO P d (λb=>a (xz (xz (yv 2 b)))))
theorem OE{P:yx}(g:8<=P.depth):∀{t:TTy} {c:Nat->Nat},ZO P t c=IN->∀i j,t.get i=BY j->AFD P (c i) j
 |.mt,c,_,i,e,b=>by cases b
 |.nd h m n,c,d,i,e,b=>by
  have d:(wW P (c 0) h && (ZO P m (λa=>c (xz (yv 2 a))) && ZO P n (λa=>c (xz (xz (yv 2 a))))))=IN:=d;simp only[yE]at d;cases i with
  |zero=>
   have b:h=BY e:=b;subst b;exact uM g d.1
  |succ a=>
   unfold TTy.get at b;have k:ABH a 2=a % 2:=rfl;have l:AAS a 2=a / 2:=rfl;rw[k,l]at b;rcases zq a with hk|hk
   ·rw[hk]at b
    have:=OE g d.2.1 (a/2) e b;have f:xz (yv 2 (a/2))=a+1:=by show 2*(a/2)+1=a+1;omega
    simp only[f]at this;exact this
   ·rw[hk]at b
    have:=OE g d.2.2 (a/2) e b;have f:xz (xz (yv 2 (a/2)))=a+1:=by show 2*(a/2)+1+1=a+1;omega
    simp only[f]at this;exact this
theorem uB{P:yx}{ty:TTy}(a:yI 8 P.depth=IN)(h:ZO P ty (λk=>k)=IN):DO P ty:=λc d b=>OE (As.1 a) h c d b
def ty3:TI:=⟨.int .i64,1,8,[AI AT 0],[]⟩
def ty4:TI:=⟨.bool,1,1,[.bool IT],[]⟩
def ty5:TI:=⟨.int .u8,1,1,[.int .u8 0],[]⟩
def ty9:TI:=⟨.string,1,16,[.string .empty],[]⟩
def xK:TI:=⟨.slice 37,1,24,[.slice By 0 0],[]⟩
def xL:TI:=⟨.int .u32,1,4,[.int .u32 0],[]⟩
def lY:TI:=⟨.arr 256 24,256,1024,BP [.int .u32 0] 256,[]⟩
def ZT:TI:=⟨.ptr 69,1,8,[.pointer By],[("Arm",7),("Cached",38),("Crash",14),("Down",10),("Flush",121),("Read",106),("Size",67),("Write",120),("cooperage/disk.none",26),("cooperage/disk.operation",144),("cooperage/disk.there",130)]⟩
def Qy:TI:=⟨.ptr 76,1,8,[.pointer By],[("All",17),("Do",9),("Handle",21),("Life",16),("Over",11),("cooperage/node.abort",31),("cooperage/node.commit",30),("cooperage/node.drop",34),("cooperage/node.infos",57),("cooperage/node.list",33),("cooperage/node.prepare",29),("cooperage/node.read",32),("cooperage/node.told",28),("cooperage/node.up",27)]⟩
def Td:TI:=⟨.ptr 26,1,8,[.pointer By],[]⟩
def xM:TI:=⟨.int .u8,1,1,[.int .u8 0],[]⟩
def Ja:TI:=⟨.slice 5,1,24,[.slice By 0 0],[]⟩
def OK:TI:=⟨.struct [(0,1,3),(1,1,3),(2,1,34),(3,1,3),(4,1,3),(5,1,3),(6,1,35)],7,72,[AI AT 0,AI AT 0,.int .u8 0,AI AT 0,AI AT 0,AI AT 0,.slice By 0 0],[]⟩
def xN:TI:=⟨.int .i64,1,8,[AI AT 0],[]⟩
def xO:TI:=⟨.slice 90,1,24,[.slice By 0 0],[]⟩
def F9:TI:=⟨.struct [(0,1,3),(1,1,3),(2,1,34),(3,1,39),(4,1,40),(5,1,35),(6,1,3)],7,88,[AI AT 0,AI AT 0,.int .u8 0,AI AT 0,.slice By 0 0,.slice By 0 0,AI AT 0],[]⟩
def xP:TI:=⟨.slice 93,1,24,[.slice By 0 0],[]⟩
def xQ:TI:=⟨.slice 82,1,24,[.slice By 0 0],[]⟩
def lZ:TI:=⟨.map 3 82,1,8,[.map By],[]⟩
def lg:TI:=⟨.struct [(0,1,66),(1,1,67),(2,1,3),(3,1,4)],4,48,[.slice By 0 0,.map By,AI AT 0,.bool IT],[]⟩
def Te:TI:=⟨.func,1,8,[.nilFunc],[]⟩
def IP:TI:=⟨.ptr 118,1,8,[.pointer By],[("Abort",56),("All",40),("Bad",180),("Commit",55),("Drop",63),("Get",59),("Over",35),("Prepare",54),("Room",53),("Sound",60),("cooperage/slots.all",98),("cooperage/slots.at",97),("cooperage/slots.find",92),("cooperage/slots.gone",101),("cooperage/slots.look",69),("cooperage/slots.now",125),("cooperage/slots.out",102),("cooperage/slots.read",110),("cooperage/slots.stale",94),("cooperage/slots.strike",77),("cooperage/slots.up",89),("cooperage/slots.write",96)]⟩
def li:TI:=⟨.struct [(0,1,28),(1,1,32),(2,1,74),(3,1,3)],4,32,[.pointer By,.pointer By,.pointer By,AI AT 0],[]⟩
def VY:TI:=⟨.slice 3,1,24,[.slice By 0 0],[]⟩
def Lb:TI:=⟨.arr 64 5,64,64,BP [.int .u8 0] 64,[]⟩
def xR:TI:=⟨.int .u8,1,1,[.int .u8 0],[]⟩
def KZ:TI:=⟨.struct [(0,1,3),(1,1,3),(2,1,3),(3,1,88)],4,32,[AI AT 0,AI AT 0,AI AT 0,.int .u8 0],[]⟩
def Iu:TI:=⟨.struct [(0,1,3),(1,1,3),(2,1,3),(3,1,88),(4,1,35)],5,56,[AI AT 0,AI AT 0,AI AT 0,.int .u8 0,.slice By 0 0],[]⟩
def wP:TI:=⟨.int .u64,1,8,[.int .u64 0],[]⟩
def Pm:TI:=⟨.slice 124,1,24,[.slice By 0 0],[]⟩
def Tb:TI:=⟨.struct [(0,1,28),(1,1,32),(2,1,3),(3,1,116),(4,1,79),(5,1,3),(6,1,4)],7,88,[.pointer By,.pointer By,AI AT 0,.slice By 0 0,.slice By 0 0,AI AT 0,.bool IT],[]⟩
def EA:TI:=⟨.struct [(0,5,93),(5,1,3)],6,64,[AI AT 0,AI AT 0,AI AT 0,.int .u8 0,.slice By 0 0,AI AT 0],[]⟩
def Tc:TI:=⟨.int .u64,1,8,[.int .u64 0],[]⟩
def wQ:TI:=⟨.slice 70,1,24,[.slice By 0 0],[]⟩
def wR:TI:=⟨.slice 35,1,24,[.slice By 0 0],[]⟩
def wS:TI:=⟨.slice 137,1,24,[.slice By 0 0],[]⟩
def wT:TI:=⟨.arr 6 137,6,48,BP [.int .u64 0] 6,[]⟩
def wU:TI:=⟨.int .i64,1,8,[AI AT 0],[]⟩
def ty:TTy:=(.nd By (.nd By (.nd (BY ty3) (.nd By (.nd By .mt (.nd (BY xP) (.nd (BY VY) .mt .mt) .mt)) (.nd By (.nd (BY xN) .mt .mt) .mt)) (.nd By (.nd By (.nd (BY Ja) (.nd (BY lZ) .mt .mt) .mt) .mt) (.nd By (.nd By .mt (.nd (BY wP) .mt .mt)) .mt))) (.nd (BY ty5) (.nd (BY ty9) .mt (.nd By (.nd By (.nd By (.nd (BY Tc) .mt .mt) .mt) (.nd By (.nd (BY wR) .mt .mt) .mt)) .mt)) (.nd By (.nd By (.nd (BY OK) (.nd (BY lg) .mt .mt) .mt) .mt) (.nd (BY Qy) .mt (.nd By (.nd (BY Iu) .mt .mt) .mt))))) (.nd By (.nd (BY ty4) (.nd By (.nd By (.nd (BY Td) .mt .mt) .mt) (.nd (BY xL) (.nd (BY xO) .mt .mt) (.nd By (.nd (BY xR) .mt .mt) .mt))) (.nd By (.nd By .mt (.nd By .mt (.nd (BY Pm) (.nd (BY wU) .mt .mt) .mt))) (.nd (BY ZT) (.nd By (.nd (BY li) .mt .mt) (.nd By (.nd (BY wS) .mt .mt) .mt)) (.nd By .mt (.nd (BY EA) .mt .mt))))) (.nd By (.nd By (.nd By (.nd (BY xM) (.nd (BY xQ) .mt .mt) .mt) (.nd By (.nd (BY Lb) .mt .mt) (.nd By (.nd (BY wT) .mt .mt) .mt))) (.nd (BY lY) (.nd (BY F9) (.nd (BY IP) .mt .mt) .mt) (.nd By (.nd (BY KZ) .mt .mt) .mt))) (.nd By (.nd (BY xK) (.nd By (.nd (BY Te) .mt .mt) .mt) (.nd By (.nd By (.nd (BY wQ) .mt .mt) .mt) (.nd (BY Tb) .mt .mt))) .mt))))
end
end Go.Proofs.YtldjiljipddebaaGreat
