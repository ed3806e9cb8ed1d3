/-
  Part ZC of what Lawnk stands on: printed by program, names and spaces cut.
-/
import Derived.Test.YtldjiljipddebaaGreatZB
import Derived.Orders
import Derived.LoopN
import Derived.Scope
import Derived.Below
import Derived.ChangeSame
import Derived.ChangeSlices
import Derived.ChangeArms
import Derived.Test.YtldjiljipddebaaGreatProg
open Option renaming some→BY,none→By
open Bool renaming false→IS,true→IN
open Go.Value renaming int→AI
open Go.IntKind renaming i64→AT
open Go renaming Value→vz,IntKind→we,Operand→xE,World→xG,Program→xU,MapEntry→xu,Oper→zA,Addr→AAG,TypeDesc→ABT,ResultVar→ACD,Code→AC3,results→ADK,Exit→ADc
open Nat renaming le_refl→wB,zero_add→wC,succ→wQ,beq→wU,ble→wY,lt_or_ge→wh,zero_le→wl,le_trans→wy,eq_zero_or_pos→xL,blt→xQ,mul→xW,lt_of_lt_of_le→xr,add_zero→xy,beq_refl→yG,add_eq→yH,le_of_lt→yJ,add→yK,mul_comm→yR,mod_two_eq_zero_or_one→ye,mul_one→yp,min_eq_left→yz,div→zQ,succ_pos→AAB,min_le_left→AAJ,mod→AAR,not_lt→AAg,strongRecOn→AAq,lt_irrefl→AAs,le_zero→AAt,le_of_eq→AAu,add_mul→AAv,le_max_right→AAz,lt_or_gt_of_ne→ABH,le_succ_of_le→ABR,div_lt_self→ABl,le_max_left→ACK,lt_trans→ACR,div_lt_of_lt_mul→ACZ,succ_eq_add_one→ACh,lt_succ_self→ADC,testBit_or→ADY,mul_assoc→ADn,pow_succ→AD2,pow_add→AEA
open List renaming length_append→wD,getElem?_eq_getElem→wE,length_map→wF,getD_eq_getElem?_getD→wG,mem_cons_of_mem→wI,mem_cons_self→wJ,length_cons→wK,mem_cons→wS,append_nil→wT,getElem?_eq_some_iff→wW,getElem?_append_left→wX,append_assoc→wa,mem_filter→wb,mem_append→wd,getElem?_append_right→wi,length_take→wu,mem_append_right→wz,getElem?_toArray→xC,length_nil→xD,mem_append_left→xF,nil_append→xI,length_singleton→xM,length_drop→xT,drop_of_length_le→xV,range→xx,getElem?_eq_none→yF,getElem?_take→yY,mem_range→yg,all_eq_true→zU,getElem?_drop→AAV,mapM_cons→ABI,size_toArray→ABM,ext_getElem?→ACr,countP_cons→AC2
open Go.Result renaming andThen_ok→wH
open Go.Sem renaming run_bind→wM,run_pure→wN
open Bool renaming and_eq_true→wV,false_eq_true→xJ,not_false→xP,rec→zd,true_and→AAF,not_eq_true'→AAi,or_eq_true→ABh
open And renaming intro→wg
open Int renaming ofNat→xR
open Array renaming getD_eq_getD_getElem?→xY,ext'→yD,getElem?_setIfInBounds→yQ,all_eq_true_iff_forall_mem→yf,mem_toList_iff→yj,getElem?_eq_some_iff→zJ,toList_filter→ABE
open Option renaming map_some→yN,getD_some→ABK
open Go.Value renaming okWide→yc
open Go.Instr renaming next→yl,extract→ABP
open Go.Region renaming ready→zT,binds→AAH,wanted→ABA
open Go.IntKind renaming i64→zV,u8→ADb
open UInt8 renaming ofNat→zr
open Go.Question renaming forced→AAX
open Go.Oper renaming upon_value→AA5
open Go.Code renaming rounds→ABf,seq→AB6,region→ACe,loop→AEJ
open Classical renaming choose_spec→ABg,choose→AB7
open SizeOf renaming sizeOf→ABp
open Go.Cell renaming okWide→AB8
open Go.DataW renaming TrodAll→ADU
open Go.Exit renaming inBlock→ADu
open Go.Place renaming get→AD7
open Go.Made renaming depth→AED
set_option linter.unusedSimpArgs false
set_option linter.unusedVariables false
namespace Go.Proofs.YtldjiljipddebaaGreat
set_option maxRecDepth 100000
noncomputable section
open Go
section
variable {φ ψ χ:Phi}
theorem AFq.cut(f:∀b p,φ b=BY p->(∃q,ψ b=BY q)->χ b=BY p){a a' c:AAG}:AFq φ a a'->AFq ψ a c->AFq χ a a'
 |⟨h,i,p,d,g⟩,⟨_,_,q,e,_⟩=>⟨h,i,p,f _ _ d ⟨q,e⟩,g⟩
theorem AGL.cut(h:∀b p,φ b=BY p->(∃q,ψ b=BY q)->χ b=BY p){a a' d:AAG}{c c' e:Nat}:AGL φ a c a' c'->AGL ψ a c d e->AGL χ a c a' c'
 |⟨j,k,p,f,i⟩,⟨_,_,q,g,_⟩=>⟨j,k,p,h _ _ f ⟨q,g⟩,i⟩
mutual
theorem AEX.cut(a:∀b p,φ b=BY p->(∃q,ψ b=BY q)->χ b=BY p):∀{v v' c:vz},AEX φ v v'->AEX ψ v c->AEX χ v v'
 |_,_,_,.bool b,_=>.bool b
 |_,_,_,.int k n,_=>.int k n
 |_,_,_,.string s,_=>.string s
 |_,_,_,.AHF,_=>.AHF
 |_,_,_,.ptr h,h2=>by cases h2 with|ptr h2=>exact .ptr (h.cut a h2)
 |_,_,_,.AFL,_=>.AFL
 |_,_,_,.slice f h,h2=>by cases h2 with|slice _ h2=>exact .slice f (h.cut a h2)
 |_,_,_,.AHG,_=>.AHG
 |_,_,_,.map h,h2=>by cases h2 with|map h2=>exact .map (a _ _ h ⟨_,h2⟩)
 |_,_,_,.func d h h',h2=>by cases h2 with|func _ h2 e=>exact .func d (AEp.cut a h h2) (AEp.cut a h' e)
 |_,_,_,.nilFunc,_=>.nilFunc
 |_,_,_,.iface t h,h2=>by cases h2 with|iface _ h2=>exact .iface t (AEX.cut a h h2)
 |_,_,_,.nilIface,_=>.nilIface
 |_,_,_,.agg h,h2=>by cases h2 with|agg h2=>exact .agg (AEp.cut a h h2)
 |_,_,_,.tuple h,h2=>by cases h2 with|tuple h2=>exact .tuple (AEp.cut a h h2)
 |_,_,_,.unk,_=>.unk
 |_,_,_,.AGp,_=>.AGp
theorem AEp.cut(a:∀b p,φ b=BY p->(∃q,ψ b=BY q)->χ b=BY p):∀{v v' c:List vz},AEp φ v v'->AEp ψ v c->AEp χ v v'
 |_,_,_,.nil,_=>.nil
 |_,_,_,.cons h t,h2=>by cases h2 with|cons h2 t2=>exact .cons (AEX.cut a h h2) (AEp.cut a t t2)
end
theorem AFX.cut(a:∀b p,φ b=BY p->(∃q,ψ b=BY q)->χ b=BY p):∀{l:List Ent} {l' h:List xu},AFX φ l l'->AFX ψ l h->AFX χ l l'
 |_,_,_,.nil,_=>.nil
 |_,_,_,.cons d f i,c=>by cases c with|cons e g t2=>exact .cons (d.cut a e) (f.cut a g) (AFX.cut a i t2)
theorem AFT.cut{ty:TTy}(a:∀b p,φ b=BY p->(∃q,ψ b=BY q)->χ b=BY p){p j:Pl}{b:Blk}{o i:Option Obj}(h:AFT ty φ p b o)(h2:AFT ty ψ j b i):AFT ty χ p b o:=by
 cases h with
 |cells h=>cases h2 with
  |cells h2=>exact .cells {h with cell:=λe d=>let ⟨v,f,k⟩:=h.cell e d;let ⟨m,_,l⟩:=h2.cell e d;⟨v,f,k.cut a l⟩}
 |map h=>cases h2 with
  |map h2=>exact .map (h.cut a h2)
 |AGN h=>exact .AGN h
 |iter c h=>cases h2 with
  |iter _ h2=>exact .iter c (a _ _ h ⟨_,h2⟩)
 |cur c h g=>cases h2 with
  |cur _ h2 _=>exact .cur c (a _ _ h ⟨_,h2⟩) g
 |dead=>exact .dead
end
structure Laws (ty:TTy)(all:List zA)(ρ:Nat->Rho)(H:Nat->Hp)(T:Nat->Nat->Prop)(B:Nat->Nat->Prop):Prop where
 lt:∀i j,B i j->i<j
 slots:∀i j oi oj d,i≠j->all[i]? =BY oi->all[j]? =BY oj->oi.dst=BY d->
  (oj.dst=BY d\/.tmp d∈oj.op.operands.toList\/∃g w og,oj.guard=BY (g,w)/\all[g]? =BY og/\og.dst=BY d)->B i j\/B j i
 kinds:∀j oj c,all[j]? =BY oj->T j c->(∃x,kd ty oj.op=.w x)\/kd ty oj.op=.q
 fixed:∀i j oi c,i≠j->all[i]? =BY oi->j<all.length->T j c->((∃x,kd ty oi.op=.w x)\/kd ty oi.op=.q)->B i j\/B j i
 reads:∀i j oi x c u,i≠j->all[i]? =BY oi->j<all.length->T j c->kd ty oi.op=.r x->evR (ρ i) x=BY u->AE0 u=.ok c->B i j\/B j i
 tlt:∀j c,j<all.length->T j c->c<(H j).next
 AHs:∀j c,j<all.length->T j c->(H all.length).low<=c/\c<=(H all.length).high
 low:(H all.length).low<=(H 0).low
 high:(H 0).high<=(H all.length).high
structure Inv (ty:TTy)(N:Nat)(all:List zA)(ρ:Nat->Rho)(H:Nat->Hp)(T:Nat->Nat->Prop)(φ0:Phi)(w0:xG)(S:Nat->Prop)(φ:Phi)(C:Nat->Blk)(a:Act)(w:xG):Prop where
 dom:∀b p,φ b=BY p->p.blk<w.heap.size/\(b<(H 0).next\/∃j,S j/\j<all.length/\(H j).next<=b/\b<(H (j+1)).next)
 inj:∀b c p q,φ b=BY p->φ c=BY q->C b≠.dead->C c≠.dead->(p.inp=IS\/q.inp=IS)->p.blk=q.blk->b=c
 row:∀b p,φ b=BY p->AFT ty φ p (C b) w.heap[p.blk]?
 kind:∀k,k<=all.length->∀b p c s e,φ b=BY p->b<(H k).next->(H k).bl.get b=.cells c s e->Kind ty p s e
 inp:∀b p,φ b=BY p->p.inp=IN->b<256
 link:∀k,k<=all.length->∀b p,φ b=BY p->b<(H k).next->(∀j,j<all.length->T j b->(j<k->S j)/\(k<=j->¬S j))->C b=(H k).bl.get b
 chg:∀j,S j->j<all.length->∀b,b<(H j).next->(H (j+1)).bl.get b≠(H j).bl.get b->∃p,φ b=BY p
 full:∀j,S j->j<all.length->∀b,(H j).next<=b->b<(H (j+1)).next->∃p,φ b=BY p
 slot:∀k,k<=all.length->∀t u,(∀j o,all[j]? =BY o->o.dst=BY t->(j<k->S j)/\(k<=j->¬S j))->ρ k t=BY u->AEX φ u (a.tmps.getD t undef)
 size:a.tmps.size=N
 defs:a.defers=[]
 le:φ0.Le φ
 new:∀b p,φ b=BY p->φ0 b=BY p\/(H 0).next<=b
 sz:w0.heap.size<=w.heap.size
 tape:w.tape=w0.tape
 os:w.os=w0.os
 output:w.output=w0.output
 frame:∀k,k<w0.heap.size->(∀c p,φ0 c=BY p->p.inp=IS->(H all.length).low<=c->c<=(H all.length).high->Live (H 0) c->p.blk≠k)->w.heap[k]? =w0.heap[k]?
 back:∀b p,φ b=BY p->C b≠.dead->p.blk<w0.heap.size->∃c q,φ0 c=BY q/\Live (H 0) c/\q.blk=p.blk/\q.inp=p.inp/\(c=b\/(H all.length).low<=c/\c<=(H all.length).high)
section
variable {P:xU}{ty:TTy}{N:Nat}{all:List zA}{ρ:Nat->Rho}{H:Nat->Hp}{V:Nat->vz}{T:Nat->Nat->Prop}{φ0:Phi}{w0:xG}
theorem Txt.mono{φ:Phi}{n:Nat}(t:Txt P ty N φ ρ H V T n){i:Nat}:∀{k:Nat},i<=k->k<=n->(H i).next<=(H k).next:=by
 intro k b d
 induction k with
 |zero=>have:i=0:=AAt.1 b;subst this;exact wB _
 |succ k c=>
  rcases wh k i with a|a
  ·have:i=k+1:=by omega
   subst this;exact wB _
  ·exact wy (c a (by omega)) (t.next k (by omega))
theorem Txt.AGY{φ:Phi}{n:Nat}(t:Txt P ty N φ ρ H V T n){i:Nat}{b:Nat}(d:b<(H i).next):∀{k:Nat},i<=k->k<=n->AEo ((H i).bl.get b) ((H k).bl.get b):=by
 intro k c f
 induction k with
 |zero=>have:i=0:=AAt.1 c;subst this;exact .refl _
 |succ k e=>
  rcases wh k i with a|a
  ·have:i=k+1:=by omega
   subst this;exact .refl _
  ·exact(e a (by omega)).trans (t.shape k (by omega) b (xr d (t.mono a (by omega))))
theorem Txt.same{φ:Phi}{n:Nat}(t:Txt P ty N φ ρ H V T n){i:Nat}{b:Nat}:∀{k:Nat},i<=k->k<=n->(∀m,i<=m->m<k->(H (m+1)).bl.get b=(H m).bl.get b)->(H k).bl.get b=(H i).bl.get b:=by
 intro k d g c
 induction k with
 |zero=>have:i=0:=AAt.1 d;subst this;rfl
 |succ k f=>
  rcases wh k i with a|a
  ·have:i=k+1:=by omega
   subst this;rfl
  ·rw[c k a (by omega)];exact f a (by omega) λm e a=>c m e (by omega)
theorem Tr.backward{l:Nat->Bool}{e:List AE5}(tr:Tr P ty all e all ρ H V l T){t:Nat}{u:vz}{i:Nat}:∀{k:Nat},i<=k->k<=all.length->(∀m o,i<=m->m<k->all[m]? =BY o->o.dst≠BY t)->ρ k t=BY u->ρ i t=BY u:=by
 intro k f n d b
 induction k with
 |zero=>have:i=0:=AAt.1 f;subst this;exact b
 |succ k j=>
  rcases wh k i with a|a
  ·have:i=k+1:=by omega
   subst this;exact b
  ·have h:k<all.length:=by omega
   have c:all[k]? =BY all[k]:=wE h;have:=(tr.sf k all[k] c).slot t u b;rw[If (d k all[k] a (ADC _) c)]at this;exact j a (by omega) (λm o g a=>d m o g (by omega)) this
def Qt(n:Nat)(T:Nat->Nat->Prop)(S:Nat->Prop)(h:Hp)(i:Nat):Nat->Prop:=λb=>b<h.next/\¬ ∀a,a<n->T a b->(a<i->S a)/\(i<=a->¬S a)
def upto(φ:Phi)(n:Nat):Phi:=λa=>if a<n then φ a else By
theorem Cj{φ:Phi}{n b:Nat}{p:Pl}(h:upto φ n b=BY p):b<n/\φ b=BY p:=by
 unfold upto at h;split at h
 ·exact⟨‹_›,h⟩
 ·cases h
theorem Inv.AJ4{φ:Phi}{C:Nat->Blk}{a:Act}{w:xG}{S:Nat->Prop}(I:Inv ty N all ρ H T φ0 w0 S φ C a w)(y:Txt P ty N φ0 ρ H V T all.length){i:Nat}(hi:i<=all.length):
  AEZ ty (upto φ (H i).next) (Qt all.length T S (H i) i) (H i) w/\∃(ψ:Phi) (b:Act),AR N ψ (ρ i) b/\∀b p,φ b=BY p->(∃q,ψ b=BY q)->upto φ (H i).next b=BY p:=by
 obtain⟨ψ,Y,A,r,z,U,m⟩:=y.AHr i hi;have u:∀b p,φ b=BY p->(∃q,ψ b=BY q)->upto φ (H i).next b=BY p:=by
  rintro b p g ⟨q,n⟩;unfold upto;rw[IT (r.dom b q n).1];exact g
 have O:∀b p,φ b=BY p->b<(H i).next->∃q,ψ b=BY q:=by
  intro b p g f;rcases I.new b p g with h|h
  ·exact⟨p,U b p h⟩
  ·exact m b h f
 have o:∀b p,φ b=BY p->b<(H i).next->¬Qt all.length T S (H i) i b->C b=(H i).bl.get b:=by
  intro b p g f l;refine I.link i hi b p g f λj R K=>?_
  by_cases t:(j<i->S j)/\(i<=j->¬S j)
  ·exact t
  ·exact absurd ⟨f,λm=>t (m j R K)⟩ l
 refine⟨{dom:=λb p e=>?_,inj:=λb k p q D E G J f L Q W=>?_,row:=λb p e l=>?_,fresh:=y.fresh i hi,kind:=λb p k X B e M=>?_,inp:=λb p e=>I.inp b p (Cj e).2},ψ,A,z,u⟩
 ·obtain⟨d,c⟩:=Cj e
  exact⟨d,(I.dom b p c).1⟩
 ·obtain⟨d,c⟩:=Cj D
  obtain⟨F,s⟩:=Cj E;exact I.inj b k p q c s (by rw[o b p c d G];exact f) (by rw[o k q s F J];exact L) Q W
 ·obtain⟨d,c⟩:=Cj e
  have x:=I.row b p c;rw[o b p c d l]at x;obtain⟨q,n⟩:=O b p c d;exact x.cut u (r.row b q n λh=>h)
 ·obtain⟨d,c⟩:=Cj e
  exact I.kind i hi b p k X B c d M
end
section
variable {P:xU}{ty:TTy}{N:Nat}{all:List zA}{ρ:Nat->Rho}{H:Nat->Hp}{V:Nat->vz}{T:Nat->Nat->Prop}{φ0:Phi}{w0:xG}{B:Nat->Nat->Prop}
def join(φ ψ:Phi)(lo hi:Nat):Phi:=λa=>if lo<=a/\a<hi then ψ a else φ a
open Classical in
def XT(C:Nat->Blk)(h:Hp)(lo:Nat)(b:Prop):Nat->Blk:=λa=>if a<h.next/\(lo<=a\/b)then h.bl.get a else C a
theorem Inv.after(R:Laws ty all ρ H T B){d8:Nat->Bool}{c8:List AE5}(tr:Tr P ty all c8 all ρ H V d8 T)(E:Txt P ty N φ0 ρ H V T all.length){S:Nat->Prop}{φ:Phi}{C:Nat->Blk}{a:Act}{w:xG}(I:Inv ty N all ρ H T φ0 w0 S φ C a w)
  {i:Nat}{o:zA}(Y:all[i]? =BY o)(hS:¬S i)(d5:∀j,B j i->S j)(d1:∀j k,S j->B k j->S k)(hN:∀d,o.dst=BY d->d<N)
  {ψ:Phi}{v':vz}{w':xG}(hv:AEX ψ (V i) v')(HW:AEZ ty ψ (Qt all.length T S (H i) i) (H (i+1)) w')(eff:Eff (T i) (upto φ (H i).next) (H i) w ψ (H (i+1)) w'):
  Inv ty N all ρ H T φ0 w0 (λj=>S j\/j=i) (join φ ψ (H i).next (H (i+1)).next) (XT C (H (i+1)) (H i).next (∃c,T i c)) (a.put o.dst v') w':=by
 have A:i<all.length:=by
  rcases wh i all.length with h|h
  ·exact h
  ·rw[yF h]at Y;cases Y
 have d2:∀j,B i j->¬S j:=λj f p=>hS (d1 j i p f)
 have fx:∀j,j≠i->(B i j\/B j i)->(j<i->S j)/\(i<=j->¬S j):=by
  intro j p f;rcases f with f|f
  ·have:=R.lt i j f
   exact⟨λh=>by omega,λ_=>d2 j f⟩
  ·have:=R.lt j i f
   exact⟨λ_=>d5 j f,λh=>by omega⟩
 have e7:=E.next i A;have e0:i+1<=all.length:=A;have hE:(∃c,T i c)->∀b,¬Qt all.length T S (H i) i b:=by
  rintro⟨c,hc⟩ b ⟨f,d4⟩;refine d4 λj p t=>?_
  by_cases a7:j=i
  ·subst a7;exact⟨λh=>absurd h (AAs _),λ_=>hS⟩
  ·exact fx j a7 (R.fixed i j o b (λh=>a7 h.symm) Y p t (R.kinds i o c Y hc))
 have c3:∀b,(H i).next<=b->b<(H (i+1)).next->φ b=By:=by
  intro b m n;cases f:φ b with
  |none=>rfl
  |some e=>
   exfalso
   rcases (I.dom b e f).2 with h|⟨j,p,a8,g,h4⟩
   ·have:=E.mono (wl i) (yJ A)
    omega
   ·rcases Nat.lt_trichotomy j i with h|h|h
    ·have:=E.mono (i:=j+1) (k:=i) h (yJ A);omega
    ·subst h;exact hS p
    ·have:=E.mono (i:=i+1) (k:=j) h (yJ a8);omega
 have b6:∀{b},(H i).next<=b->b<(H (i+1)).next->join φ ψ (H i).next (H (i+1)).next b=ψ b:=λm n=>IT ⟨m,n⟩
 have Z:∀{b},¬((H i).next<=b/\b<(H (i+1)).next)->join φ ψ (H i).next (H (i+1)).next b=φ b:=λh=>If h
 have a3:φ.Le (join φ ψ (H i).next (H (i+1)).next):=by
  intro b e f;rw[Z λh=>by rw[c3 b h.1 h.2]at f;cases f];exact f
 have jψ:ψ.Le (join φ ψ (H i).next (H (i+1)).next):=by
  intro b e f;have n:=(HW.dom b e f).1;rcases wh b (H i).next with h|h
  ·rw[Z (by omega)]
   rcases eff.new b e f with g|g
   ·exact(Cj g).2
   ·omega
  ·rw[b6 h n];exact f
 have K:∀{b e},join φ ψ (H i).next (H (i+1)).next b=BY e->((H i).next<=b/\b<(H (i+1)).next/\ψ b=BY e)\/((b<(H i).next\/(H (i+1)).next<=b)/\φ b=BY e):=by
  intro b e f;by_cases h:(H i).next<=b/\b<(H (i+1)).next
  ·rw[b6 h.1 h.2]at f;exact .inl ⟨h.1,h.2,f⟩
  ·rw[Z h]at f;exact .inr ⟨by omega,f⟩
 have c7:∀{b e},φ b=BY e->b<(H i).next->ψ b=BY e:=by
  intro b e f h;refine eff.le b e ?_;unfold upto;rw[IT h];exact f
 have G:∀{b},b<(H (i+1)).next->((H i).next<=b\/∃c,T i c)->XT C (H (i+1)) (H i).next (∃c,T i c) b=(H (i+1)).bl.get b:=λm n=>IT ⟨m,n⟩
 have L:∀{b},¬(b<(H (i+1)).next/\((H i).next<=b\/∃c,T i c))->XT C (H (i+1)) (H i).next (∃c,T i c) b=C b:=λh=>If h
 have lk:(∃c,T i c)->∀b e,φ b=BY e->b<(H i).next->C b=(H i).bl.get b:=by
  intro q b e f h;refine I.link i (yJ A) b e f h λj p t=>?_
  by_cases hh:(j<i->S j)/\(i<=j->¬S j)
  ·exact hh
  ·exact absurd ⟨h,λc9=>hh (c9 j p t)⟩ (hE q b)
 have live:∀{b},b<(H i).next->(H (i+1)).bl.get b≠.dead->(H i).bl.get b≠.dead:=λh X=>(eff.shape _ h).live X
 have b7:∀{b c e r},(H (i+1)).next<=c->φ c=BY r->C c≠.dead->b<(H (i+1)).next->join φ ψ (H i).next (H (i+1)).next b=BY e->XT C (H (i+1)) (H i).next (∃c,T i c) b≠.dead->(e.inp=IS\/r.inp=IS)->e.blk≠r.blk:=by
  intro b c e r hc y z f l u a1 J;rcases K l with ⟨m,n,g⟩|⟨m,g⟩
  ·rw[G n (.inl m)]at u
   obtain⟨j,q',M,O,U,ei,s⟩:=eff.back b e g u (J ▸ (I.dom c r y).1);obtain⟨e5,Q⟩:=Cj M;rcases s with rfl|s
   ·omega
   ·have:=I.inj j c q' r Q y (by rw[lk ⟨j,s⟩ j q' Q e5];exact O) z (by rw[ei];exact a1) (U.trans J)
    omega
  ·have a5:b<(H i).next:=by omega
   have X:C b≠.dead:=by
    by_cases q:∃c,T i c
    ·rw[G f (.inr q)]at u
     rw[lk q b e g a5];exact live a5 u
    ·rw[L (by rintro⟨_,h|h⟩;omega;exact q h)]at u;exact u
   have:=I.inj b c e r g y X z a1 J;omega
 refine {dom:=?_,inj:=?_,row:=?_,kind:=?_,inp:=(λb e l A=>by rcases K l with ⟨_,_,g⟩|⟨_,g⟩;exact HW.inp b e g A;exact I.inp b e g A),link:=?_,chg:=?_,full:=?_,slot:=?_,size:=(by rw[F8];exact I.size),defs:=(by rw[G3];exact I.defs),le:=I.le.trans a3,new:=?_,sz:=wy I.sz eff.size,tape:=eff.tape.trans I.tape,os:=eff.os.trans I.os,output:=eff.output.trans I.output,frame:=?_,back:=?_}
 ·
  intro b e l;rcases K l with ⟨m,n,g⟩|⟨m,g⟩
  ·exact⟨(HW.dom b e g).2,.inr ⟨i,.inr rfl,A,m,n⟩⟩
  ·obtain⟨q1,q2⟩:=I.dom b e g
   exact⟨xr q1 eff.size,q2.imp id λ⟨j,p,d7⟩=>⟨j,.inl p,d7⟩⟩
 ·
  intro b c e r l y u z a1 J;rcases wh b (H (i+1)).next with f|f
  ·rcases wh c (H (i+1)).next with hc|hc
   ·have c6:∀{b e},b<(H (i+1)).next->join φ ψ (H i).next (H (i+1)).next b=BY e->ψ b=BY e:=by
     intro b e f l;rcases K l with ⟨_,_,g⟩|⟨m,g⟩
     ·exact g
     ·exact c7 g (by omega)
    have pb:=c6 f l;have pc:=c6 hc y;by_cases q:∃c,T i c
    ·rw[G f (.inr q)]at u
     rw[G hc (.inr q)]at z;exact HW.inj b c e r pb pc (hE q b) (hE q c) u z a1 J
    ·rcases wh b (H i).next with b9|b9
     ·rcases wh c (H i).next with a6|a6
      ·rw[L (by rintro⟨_,h|h⟩;omega;exact q h)]at u
       rw[L (by rintro⟨_,h|h⟩;omega;exact q h)]at z;rw[Z (by omega)]at l y;exact I.inj b c e r l y u z a1 J
      ·exfalso
       rw[Z (by omega)]at l;rw[G hc (.inl a6)]at z;obtain⟨j,q',M,O,U,_,s⟩:=eff.back c r pc z (J ▸ (I.dom b e l).1);rcases s with rfl|s
       ·have:=(Cj M).1;omega
       ·exact q ⟨j,s⟩
     ·rw[G f (.inl b9)]at u
      rcases wh c (H i).next with a6|a6
      ·exfalso
       rw[Z (by omega)]at y;obtain⟨j,q',M,O,U,_,s⟩:=eff.back b e pb u (J ▸ (I.dom c r y).1);rcases s with rfl|s
       ·have:=(Cj M).1;omega
       ·exact q ⟨j,s⟩
      ·rw[G hc (.inl a6)]at z
       exact HW.inj b c e r pb pc (λh=>by have:=h.1;omega) (λh=>by have:=h.1;omega) u z a1 J
   ·rw[Z (by omega)]at y
    rw[L (by omega)]at z;exact absurd J (b7 hc y z f l u a1)
  ·rcases wh c (H (i+1)).next with hc|hc
   ·rw[Z (by omega)]at l
    rw[L (by omega)]at u;exact absurd J.symm (b7 f l u hc y z a1.symm)
   ·rw[Z (by omega)]at l y
    rw[L (by omega)]at u z;exact I.inj b c e r l y u z a1 J
 ·
  intro b e l;by_cases f:b<(H (i+1)).next/\((H i).next<=b\/∃c,T i c)
  ·rw[G f.1 f.2]
   have hψ:ψ b=BY e:=by
    rcases K l with ⟨_,_,g⟩|⟨m,g⟩
    ·exact g
    ·exact c7 g (by omega)
   refine(HW.row b e hψ ?_).mono jψ;rcases f.2 with h|h
   ·intro hE;have:=hE.1;omega
   ·exact hE h b
  ·rw[L f]
   have hφ:φ b=BY e:=by
    rcases K l with ⟨m,n,_⟩|⟨_,g⟩
    ·exact absurd ⟨n,.inl m⟩ f
    ·exact g
   by_cases W:C b=.dead
   ·rw[W];exact .dead
   ·have hr:=(I.row b e hφ).mono a3
    rw[eff.frame e.blk (I.dom b e hφ).1 λc r M en O U s=>?_]
    ·exact hr
    ·obtain⟨e5,Q⟩:=Cj M
     have:=I.inj c b r e Q hφ (by rw[lk ⟨c,O⟩ c r Q e5];exact U) W (.inl en) s;subst this;exact f ⟨by omega,.inr ⟨c,O⟩⟩
 ·
  intro k D b e c c5 b8 l f he;rcases K l with ⟨m,n,g⟩|⟨_,g⟩
  ·have a0:i+1<=k:=by
    rcases wh i k with h|h
    ·exact h
    ·have:=E.mono (i:=k) (k:=i) h (yJ A);omega
   have hs:=E.AGY (i:=i+1) (k:=k) n a0 D;rw[he]at hs;obtain⟨c',d0⟩:=hs.cells;exact HW.kind b e c' c5 b8 g d0
  ·exact I.kind k D b e c c5 b8 g f he
 ·
  intro k D b e l f F;rcases wh i k with a0|a0
  ·
   rcases K l with ⟨m,n,g⟩|⟨m,g⟩
   ·rw[G n (.inl m)]
    refine(E.same (i:=i+1) a0 D λx a9 b4=>?_).symm;by_cases hm:S x
    ·by_cases hc:(H (x+1)).bl.get b=(H x).bl.get b
     ·exact hc
     ·have:=E.mono (i:=i+1) (k:=x) a9 (by omega)
      obtain⟨r,y⟩:=I.chg x hm (by omega) b (by omega) hc;rw[c3 b m n]at y;cases y
    ·have:=E.mono (i:=i+1) (k:=x) a9 (by omega)
     refine E.kept x (by omega) b (by omega) λt=>?_
     rcases (F x (by omega) t).1 b4 with h|h
     ·exact hm h
     ·omega
   ·rcases m with m|m
    ·by_cases q:∃c,T i c
     ·rw[G (by omega) (.inr q)]
      refine(E.same (i:=i+1) a0 D λx a9 b4=>?_).symm;have:=E.mono (i:=i+1) (k:=x) a9 (by omega);refine E.kept x (by omega) b (by omega) λt=>?_
      obtain⟨c,hc⟩:=q;have b2:=fx x (by omega) (R.fixed i x o b (by omega) Y (by omega) t (R.kinds i o c Y hc));rcases (F x (by omega) t).1 b4 with h|h
      ·exact b2.2 (by omega) h
      ·omega
     ·rw[L (by rintro⟨_,h|h⟩;omega;exact q h)]
      refine I.link k D b e g f λj p t=>⟨λh=>?_,λh=>?_⟩
      ·rcases (F j p t).1 h with h|h
       ·exact h
       ·subst h;exact absurd ⟨b,t⟩ q
      ·exact λa2=>(F j p t).2 h (.inl a2)
    ·rw[L (by omega)]
     refine I.link k D b e g f λj p t=>⟨λh=>?_,λh=>?_⟩
     ·rcases (F j p t).1 h with h|h
      ·exact h
      ·subst h;have:=R.tlt j b p t;omega
     ·exact λa2=>(F j p t).2 h (.inl a2)
  ·
   have d9:=E.mono (i:=k) (k:=i) a0 (yJ A);have g:φ b=BY e:=by
    rcases K l with ⟨m,_,_⟩|⟨_,g⟩
    ·omega
    ·exact g
   have l1:C b=(H k).bl.get b:=I.link k D b e g f λj p t=>⟨λh=>by
     rcases (F j p t).1 h with n|n
     ·exact n
     ·omega,λh a2=>(F j p t).2 h (.inl a2)⟩
   by_cases q:∃c,T i c
   ·rw[G (by omega) (.inr q)]
    have d3:¬T i b:=λt=>(F i A t).2 a0 (.inr rfl)
    rw[eff.kept b (by omega) d3,<- lk q b e g (by omega)];exact l1
   ·rw[L (by rintro⟨_,h|h⟩;omega;exact q h)];exact l1
 ·
  intro j p a8 b f hc;rcases p with p|rfl
  ·obtain⟨e,l⟩:=I.chg j p a8 b f hc
   exact⟨e,a3 b e l⟩
  ·cases hu:upto φ (H j).next b with
   |none=>exact absurd (eff.only b f hu) hc
   |some e=>exact⟨e,a3 b e (Cj hu).2⟩
 ·
  intro j p a8 b m n;rcases p with p|rfl
  ·obtain⟨e,l⟩:=I.full j p a8 b m n
   exact⟨e,a3 b e l⟩
  ·obtain⟨e,l⟩:=eff.all b m n
   exact⟨e,jψ b e l⟩
 ·
  intro k D a4 b5 F hu;rw[IW];by_cases W:o.dst=BY a4
  ·rw[IT ⟨W,by rw[I.size];exact hN a4 W⟩]
   have a0:i<k:=by
    rcases wh i k with h|h
    ·exact h
    ·exact absurd (.inr rfl) ((F i o Y W).2 h)
   have d6:ρ (i+1) a4=BY b5:=by
    refine tr.backward (i:=i+1) a0 D (λx om m n c4 c1=>?_) hu;have b2:=fx x (by omega) (R.slots i x o om a4 (by omega) Y c4 W (.inl c1));rcases (F x om c4 c1).1 n with h|h
    ·exact b2.2 (by omega) h
    ·omega
   have:=(tr.sf i o Y).slot a4 b5 d6;rw[IT W]at this;rw[this];exact hv.mono jψ
  ·rw[If λh=>W h.1]
   refine(I.slot k D a4 b5 (λj oj b0 b1=>?_) hu).mono a3;have a7:j≠i:=λh=>by subst h;rw[Y]at b0;cases b0;exact W b1
   refine⟨λh=>?_,λh a2=>(F j oj b0 b1).2 h (.inl a2)⟩;rcases (F j oj b0 b1).1 h with n|n
   ·exact n
   ·exact absurd n a7
 ·
  intro b e l;rcases K l with ⟨m,_,_⟩|⟨_,g⟩
  ·have:=E.mono (wl i) (yJ A)
   exact .inr (by omega)
  ·exact I.new b e g
 ·
  intro k D hc;rw[eff.frame k (xr D I.sz) λc r M en O U s=>?_]
  ·exact I.frame k D hc
  ·obtain⟨e5,Q⟩:=Cj M
   obtain⟨c0,q0,f1,f2,f3,fi,f4⟩:=I.back c r Q (by rw[lk ⟨c,O⟩ c r Q e5];exact U) (by rw[s];exact D);have c2:(H all.length).low<=c0/\c0<=(H all.length).high:=by
    rcases f4 with rfl|f4
    ·exact R.AHs i _ A O
    ·exact f4
   exact hc c0 q0 f1 (fi.trans en) c2.1 c2.2 f2 (f3.trans s)
 ·
  intro b e l X b3;rcases K l with ⟨m,n,g⟩|⟨m,g⟩
  ·rw[G n (.inl m)]at X
   obtain⟨j,r,M,O,U,ei,s⟩:=eff.back b e g X (xr b3 I.sz);obtain⟨e5,Q⟩:=Cj M;rcases s with rfl|s
   ·omega
   ·obtain⟨c0,q0,f1,f2,f3,fi,f4⟩:=I.back j r Q (by rw[lk ⟨j,s⟩ j r Q e5];exact O) (by rw[U];exact b3)
    refine⟨c0,q0,f1,f2,f3.trans U,fi.trans ei,.inr ?_⟩;rcases f4 with rfl|f4
    ·exact R.AHs i _ A s
    ·exact f4
  ·refine I.back b e g ?_ b3
   by_cases f:b<(H (i+1)).next/\((H i).next<=b\/∃c,T i c)
   ·have a5:b<(H i).next:=by omega
    rw[G f.1 f.2]at X;have q:∃c,T i c:=f.2.resolve_left (by omega);rw[lk q b e g a5];exact live a5 X
   ·rw[L f]at X;exact X
end
section
variable {P:xU}{ty:TTy}{N:Nat}{all:List zA}{ρ:Nat->Rho}{H:Nat->Hp}{V:Nat->vz}{T:Nat->Nat->Prop}{φ0:Phi}{w0:xG}{B:Nat->Nat->Prop}{run:Nat->Bool}{ahs:List AE5}
theorem Inv.step(L:Laws ty all ρ H T B)(tr:Tr P ty all ahs all ρ H V run T)(txt:Txt P ty N φ0 ρ H V T all.length){S:Nat->Prop}{φ:Phi}{C:Nat->Blk}{a:Act}{w:xG}(I:Inv ty N all ρ H T φ0 w0 S φ C a w)
  {i:Nat}{o:zA}(ho:all[i]? =BY o)(hS:¬S i)(hpre:∀j,B j i->S j)(hcl:∀j k,S j->B k j->S k)(hN:∀d,o.dst=BY d->d<N)
  {K:Act->xG->Prop}{Q:ADc->Act->xG->Prop}(hK:∀φ' C' a' w',Inv ty N all ρ H T φ0 w0 (λj=>S j\/j=i) φ' C' a' w'->K a' w'):wpOp P all.toArray Q i K a w:=by
 have hi:i<all.length:=by
  rcases wh i all.length with h|h
  ·exact h
  ·rw[yF h]at ho;cases ho
 have fx:∀j,j≠i->(B i j\/B j i)->(j<i->S j)/\(i<=j->¬S j):=by
  intro j hj hb;rcases hb with hb|hb
  ·have:=L.lt i j hb
   exact⟨λh=>by omega,λ_ hSj=>hS (hcl j i hSj hb)⟩
  ·have:=L.lt j i hb
   exact⟨λ_=>hpre j hb,λh=>by omega⟩
 have named:∀d,(o.dst=BY d\/.tmp d∈o.op.operands.toList\/∃g w og,o.guard=BY (g,w)/\all[g]? =BY og/\og.dst=BY d)->∀u,ρ i d=BY u->AEX φ u (a.tmps.getD d undef):=by
  intro d hd u hu;refine I.slot i (yJ hi) d u (λj oj hoj hdj=>?_) hu;by_cases hji:j=i
  ·subst hji;exact⟨λh=>absurd h (AAs _),λ_=>hS⟩
  ·exact fx j hji ((L.slots j i oj o d hji hoj ho hdj hd).symm)
 have s:=tr.sf i o ho;have hw:=PS s (a:=a) (φ:=φ) λg want og d u h1 h2 h3 hu=>named d (.inr (.inr ⟨g,want,og,h1,h2,h3⟩)) u hu
 obtain⟨HR,ψ,b,HA,hx⟩:=I.AJ4 txt (yJ hi);have names:∀x∈o.op.operands.toList,∀u,evR (ρ i) x=BY u->AEX (upto φ (H i).next) u (a.eval x):=by
  intro x hxm u hu;have h1:AEX φ u (a.eval x):=by
   cases x with
   |tmp t=>exact named t (.inr (.inl hxm)) u hu
   |const v=>
    have hu:(if F6 v then BY v else By)=BY u:=hu;split at hu
    ·rename_i hp;cases hu;exact Ns hp
    ·cases hu
   |func g=>cases hu;exact .func _ .nil .nil
   |global g=>cases hu
  exact h1.cut hx (HA.ev hu)
 unfold wpOp;rw[xC,ho];simp only;rcases s.core with ⟨hrun,core⟩|⟨hrun,hv,hh,hT⟩
 ·rw[hw,hrun,IT rfl]
  refine .inl (core.AHJ _ _ w a HR names ?_ _ _ λψ' v' w' hv HW' eff _=>hK _ _ _ _ (I.after L tr txt ho hS hpre hcl hN hv HW' eff));have noE:((∃x,kd ty o.op=.w x)\/kd ty o.op=.q)->∀b,¬Qt all.length T S (H i) i b:=by
   rintro hk b ⟨hb,hne⟩;refine hne λj hj hT=>?_
   by_cases hji:j=i
   ·subst hji;exact⟨λh=>absurd h (AAs _),λ_=>hS⟩
   ·exact fx j hji (L.fixed i j o b (λh=>hji h.symm) ho hj hT hk)
  unfold TouchR;cases hk:kd ty o.op with
  |p=>trivial
  |a=>trivial
  |r x=>
   rintro u hu c hc ⟨hb,hne⟩;refine hne λj hj hT=>?_
   by_cases hji:j=i
   ·subst hji;exact⟨λh=>absurd h (AAs _),λ_=>hS⟩
   ·exact fx j hji (L.reads i j o x c u (λh=>hji h.symm) ho hj hT hk hu hc)
  |w x=>exact noE (.inl ⟨x,hk⟩)
  |q=>exact noE (.inr hk)
 ·rw[hw,hrun,If (by simp)]
  refine hK _ _ _ _ (I.after L tr txt ho hS hpre hcl hN (ψ:=upto φ (H i).next) (v':=undef) (w':=w) (by rw[hv];exact .tuple .nil) (by rw[hh];exact HR) ?_);rw[hh];exact {Eff.refl (upto φ (H i).next) (H i) w with frame:=λ_ _ _=>rfl,back:=λi p e hl _=>⟨i,p,e,hl,rfl,rfl,.inl rfl⟩,kept:=λ_ _ _=>rfl}
theorem Inv.begin(tr:Tr P ty all ahs all ρ H V run T)(m:Txt P ty N φ0 ρ H V T all.length)(R:Laws ty all ρ H T B){a:Act}(e:AEZ ty φ0 nil (H 0) w0)(n:AR N φ0 (ρ 0) a){S:Nat->Prop}(l:∀j,j<all.length->¬S j):
  Inv ty N all ρ H T φ0 w0 S φ0 (H 0).bl.get a w0 where
 dom:=λb d c=>⟨(e.dom b d c).2,.inl (e.dom b d c).1⟩
 inj:=λb t d L c I o z E f=>e.inj b t d L c I (λf=>f) (λf=>f) o z E f
 row:=λb d c=>e.row b d c λf=>f
 kind:=λk h b d t M x c o D=>by
  have u:=m.AGY (i:=0) (k:=k) (e.dom b d c).1 (wl _) h;rw[D]at u;obtain⟨w,A⟩:=u.cells;exact e.kind b d w M x c A
 inp:=e.inp
 link:=λk h b d c o s=>by
  refine(m.same (i:=0) (wl _) h λg _ r=>?_).symm;have U:=(e.dom b d c).1;have:=m.mono (i:=0) (k:=g) (wl _) (by omega);exact m.kept g (by omega) b (by omega) λy=>l g (by omega) ((s g (by omega) y).1 r)
 chg:=λj p q=>absurd p (l j q)
 full:=λj p q=>absurd p (l j q)
 slot:=λk h O Q s J=>by
  refine n.rel O Q (tr.backward (i:=0) (wl _) h (λg K _ r G C=>?_) J);exact l g (by omega) ((s g K G C).1 r)
 size:=n.size
 defs:=n.defs
 le:=.refl _
 new:=λb d c=>.inl c
 sz:=wB _
 tape:=rfl
 os:=rfl
 output:=rfl
 frame:=λ_ _ _=>rfl
 back:=λb d c F _=>⟨b,d,c,F,rfl,rfl,.inl rfl⟩
theorem Inv.fin(e:Txt P ty N φ0 ρ H V T all.length)(r:Laws ty all ρ H T B){S:Nat->Prop}{φ:Phi}{C:Nat->Blk}{a:Act}{w:xG}(I:Inv ty N all ρ H T φ0 w0 S φ C a w)(o:∀j,j<all.length->S j):
  AEZ ty φ nil (H all.length) w/\AR N φ (ρ all.length) a/\Evo φ0 (H 0) w0 φ (H all.length) w:=by
 have t:∀b c,φ b=BY c->b<(H all.length).next:=by
  intro b c d;rcases (I.dom b c d).2 with h|⟨j,_,l,_,h⟩
  ·have:=e.mono (wl all.length) (wB _);omega
  ·have:=e.mono (i:=j+1) (k:=all.length) l (wB _);omega
 have q:∀b c,φ b=BY c->C b=(H all.length).bl.get b:=λb c d=>
  I.link _ (wB _) b c d (t b c d) λj l _=>⟨λ_=>o j l,λh=>by omega⟩
 refine⟨{dom:=λb c d=>⟨t b c d,(I.dom b c d).1⟩,inj:=λb n c y d x _ _ g p G h=>I.inj b n c y d x (by rw[q b c d];exact g) (by rw[q n y x];exact p) G h,row:=λb c d _=>by rw[<- q b c d];exact I.row b c d,fresh:=e.fresh _ (wB _),kind:=λb c n O z d F=>I.kind _ (wB _) b c n O z d (t b c d) F,inp:=I.inp},
  ⟨I.size,I.defs,λQ R L=>I.slot _ (wB _) Q R (λj Y u _=>?_) L⟩,
  {le:=I.le,new:=I.new,next:=e.mono (wl _) (wB _),size:=I.sz,tape:=I.tape,os:=I.os,output:=I.output,frame:=I.frame,back:=λb c d J K=>I.back b c d (by rw[q b c d];exact J) K,kept:=λb g X=>?_,low:=r.low,high:=r.high,shape:=λb g=>e.AGY (i:=0) g (wl _) (wB _),only:=λb g A=>?_,all:=λb U D=>?_}⟩
 ·have l:j<all.length:=by
   rcases wh j all.length with h|h
   ·exact h
   ·rw[yF h]at u;cases u
  exact⟨λ_=>o j l,λh=>by omega⟩
 ·refine e.same (i:=0) (wl _) (wB _) λf _ m=>?_
  have:=e.mono (i:=0) (k:=f) (wl _) (by omega);exact e.kept f m b (by omega) λE=>by have:=r.AHs f b m E;omega
 ·refine e.same (i:=0) (wl _) (wB _) λf _ m=>?_
  have:=e.mono (i:=0) (k:=f) (wl _) (by omega);by_cases p:(H (f+1)).bl.get b=(H f).bl.get b
  ·exact p
  ·obtain⟨c,d⟩:=I.chg f (o f m) m b (by omega) p
   rcases I.new b c d with h|h
   ·rw[A]at h;cases h
   ·omega
 ·
  have:∀k,k<=all.length->b<(H k).next->∃c,φ b=BY c:=by
   intro k
   induction k with
   |zero=>intro _ h;omega
   |succ k M=>
    intro W h;rcases wh b (H k).next with s|s
    ·exact M (by omega) s
    ·exact I.full k (o k (by omega)) (by omega) b s h
  exact this _ (wB _) D
theorem OW{e:Type}{p q:e->Bool}:∀{l:List e},(∀x∈l,p x=IN->q x=IN)->(∃x∈l,q x=IN/\p x=IS)->l.countP p<l.countP q
 |[],_,f=>by obtain⟨x,hx,_⟩:=f;cases hx
 |y::l,b,g=>by
  have i:l.countP p<=l.countP q:=List.countP_mono_left λx hx a=>b x (wI _ hx) a
  rw[AC2,AC2];by_cases c:q y=IN/\p y=IS
  ·rw[c.1,c.2];simp;omega
  ·obtain⟨x,hx,d,a⟩:=g
   rcases wS.1 hx with rfl|hx
   ·exact absurd ⟨d,a⟩ c
   ·have:=OW (λx hx=>b x (wI _ hx)) ⟨x,hx,d,a⟩
    cases h:p y with
    |true=>rw[b y wJ h];simp;omega
    |false=>cases q y<;>simp<;>omega
structure AG5 (all:List zA)(B:Nat->Nat->Prop):Prop where
 dec:∀i o j,all[i]? =BY o->B j i->∃e∈o.after.toList,AAH .any e=IN/\(j=e.on\/B j e.on)
 back:∀i o,all[i]? =BY o->∀e∈o.after.toList,AAH .any e=IN->e.on<i
theorem mN(E:AG5 all B)(L:Laws ty all ρ H T B)(tr:Tr P ty all ahs all ρ H V run T)(txt:Txt P ty N φ0 ρ H V T all.length)(hN:∀o∈all,∀d,o.dst=BY d->d<N){Q:ADc->Act->xG->Prop}
  (hq:∀ψ a' w',AEZ ty ψ nil (H all.length) w'->AR N ψ (ρ all.length) a'->Evo φ0 (H 0) w0 ψ (H all.length) w'->Q .normal a' w'):
  ∀(fuel:Nat) (listed:Array Bool) (φ:Phi) (C:Nat->Blk) (a:Act) (w:xG),listed.size=all.length->(xx all.length).countP (λj=> !listed.getD j IN)<=fuel->
   (∀j k,(j<all.length/\listed.getD j IS=IN)->B k j->(k<all.length/\listed.getD k IS=IN))->
   Inv ty N all ρ H T φ0 w0 (λj=>j<all.length/\listed.getD j IS=IN) φ C a w->wpAny P .any all.toArray Q fuel listed a w:=by
 have AGa:∀(listed:Array Bool),listed.size=all.length->∀j,j<all.length->listed.getD j IN=listed.getD j IS:=by
  intro listed hs j hj;rw[xY,xY,Array.getElem?_eq_getElem (by omega)];rfl
 have done:∀(listed:Array Bool) (φ:Phi) (C:Nat->Blk) (a:Act) (w:xG),listed.size=all.length->zT .any all.toArray listed=[]->
   Inv ty N all ρ H T φ0 w0 (λj=>j<all.length/\listed.getD j IS=IN) φ C a w->(∀j,j<all.length->listed.getD j IS=IN)/\Q .normal a w:=by
  intro listed φ C a w hs hr I;have hall:∀j,j<all.length->listed.getD j IS=IN:=by
   intro j
   induction j using AAq with
   |_ j ih=>
    intro hj;cases hl:listed.getD j IS with
    |true=>rfl
    |false=>
     exfalso
     have ho:all[j]? =BY all[j]:=wE hj;have:j∈zT .any all.toArray listed:=by
      unfold zT;rw[wb];refine⟨yg.2 (by simpa using hj),?_⟩;rw[AGa listed hs j hj,hl,xC,ho];simp only[xP,AAF,yN,ABK];rw[yf];intro e he;cases hb:AAH .any e with
      |false=>rfl
      |true=>
       have h1:=E.back j all[j] ho e (yj.2 he) hb;rw[ih e.on h1 (by omega)];rfl
     rw[hr]at this;cases this
  obtain⟨h1,h2,h3⟩:=I.fin txt L λj hj=>⟨hj,hall j hj⟩
  exact⟨hall,hq φ a w h1 h2 h3⟩
 intro fuel
 induction fuel with
 |zero=>
  intro listed φ C a w hs hc hcl I;have hr:zT .any all.toArray listed=[]:=by
   cases hr:zT .any all.toArray listed with
   |nil=>rfl
   |cons x xs=>
    exfalso
    have hx:x∈zT .any all.toArray listed:=by rw[hr];exact wJ
    unfold zT at hx;rw[wb]at hx;obtain⟨h1,h2⟩:=hx;have h3:x<all.length:=by simpa using yg.1 h1
    simp only[wV]at h2;have:=List.countP_pos_iff (p:=λj=> !listed.getD j IN) (l:=xx all.length) |>.2 ⟨x,yg.2 h3,h2.1⟩;omega
  exact⟨hr,(done listed φ C a w hs hr I).2⟩
 |succ fuel ih=>
  intro listed φ C a w hs hc hcl I;refine⟨λhr=>(done listed φ C a w hs hr I).2,λi hi=>?_⟩;unfold zT at hi;rw[wb]at hi;obtain⟨h1,h2⟩:=hi;have h3:i<all.length:=by simpa using yg.1 h1
  have ho:all[i]? =BY all[i]:=wE h3;rw[wV,xC,ho]at h2;obtain⟨h4,h5⟩:=h2;simp only[yN,ABK]at h5;rw[yf]at h5;have hl:listed.getD i IS=IS:=by
   rw[<- AGa listed hs i h3];simpa using h4
  have AEz:∀j,j<all.length->(listed.setIfInBounds i IN).getD j IS=if j=i then IN else listed.getD j IS:=by
   intro j hj;rw[xY,yQ,xY];by_cases hji:j=i
   ·subst hji;rw[IT rfl,IT (by omega),IT rfl];rfl
   ·rw[If λh=>hji h.symm,If hji]
  have hpre:∀j,B j i->(j<all.length/\listed.getD j IS=IN):=by
   intro j hb;obtain⟨e,he,hbe,hor⟩:=E.dec i _ j ho hb;have hon:=h5 e (yj.1 he);rw[hbe]at hon;have hon:listed.getD e.on IS=IN:=by simpa using hon
   have hlt:e.on<all.length:=by have:=E.back i _ ho e he hbe;omega
   rcases hor with rfl|hor
   ·exact⟨hlt,hon⟩
   ·exact hcl e.on j ⟨hlt,hon⟩ hor
  refine I.step L tr txt ho (λh=>by rw[hl]at h;cases h.2) hpre hcl (hN _ (List.mem_of_getElem? ho)) λφ' C' a' w' I'=>ih _ φ' C' a' w' (by simp[hs]) ?_ ?_ ?_
  ·have:=OW (p:=λj=> !(listed.setIfInBounds i IN).getD j IN) (q:=λj=> !listed.getD j IN) (l:=xx all.length) (λj hj hp=>?_) ⟨i,yg.2 h3,h4,?_⟩
   ·omega
   ·have hj:=yg.1 hj
    rw[AGa _ (by simp[hs]) j hj,AEz j hj]at hp;rw[AGa _ hs j hj];by_cases hji:j=i
    ·rw[IT hji]at hp;cases hp
    ·rw[If hji]at hp;exact hp
   ·rw[AGa _ (by simp[hs]) i h3,AEz i h3,IT rfl];rfl
  ·intro j k hj hb
   have hjk:k<all.length/\listed.getD k IS=IN:=by
    rw[AEz j hj.1]at hj;by_cases hji:j=i
    ·subst hji;exact hpre k hb
    ·rw[If hji]at hj;exact hcl j k hj hb
   refine⟨hjk.1,?_⟩;rw[AEz k hjk.1];split
   ·rfl
   ·exact hjk.2
  ·have:(λj=>(j<all.length/\listed.getD j IS=IN)\/j=i)=λj=>j<all.length/\(listed.setIfInBounds i IN).getD j IS=IN:=by
    funext j
    apply propext;constructor
    ·rintro (⟨hj,hlj⟩|rfl)
     ·refine⟨hj,?_⟩
      rw[AEz j hj];split
      ·rfl
      ·exact hlj
     ·refine⟨h3,?_⟩
      rw[AEz _ h3,IT rfl]
    ·rintro⟨hj,hlj⟩
     rw[AEz j hj]at hlj;by_cases hji:j=i
     ·exact .inr hji
     ·rw[If hji]at hlj;exact .inl ⟨hj,hlj⟩
   rw[<- this];exact I'
theorem Evo.AGb{φ ψ:Phi}{h h':Hp}{w w1 w':xG}(ev:Evo φ h w1 ψ h' w')(a:w1.heap=w.heap)(d:w1.tape=w.tape)(b:w1.os=w.os)(c:w1.output=w.output):Evo φ h w ψ h' w' where
 le:=ev.le
 new:=ev.new
 next:=ev.next
 size:=by rw[<- a];exact ev.size
 tape:=ev.tape.trans d
 os:=ev.os.trans b
 output:=ev.output.trans c
 frame:=by rw[<- a];exact ev.frame
 back:=by rw[<- a];exact ev.back
 kept:=ev.kept
 low:=ev.low
 high:=ev.high
 shape:=ev.shape
 only:=ev.only
 all:=ev.all
theorem lH(q:P.follows .mixedOrders=IN)(k:AG5 all B)(h:Laws ty all ρ H T B)(tr:Tr P ty all ahs all ρ H V run T)(i:∀o∈all,∀d,o.dst=BY d->d<N){Q:ADc->Act->xG->Prop}{a:Act}{w:xG}{id:Nat}
  (g:AEZ ty φ0 nil (H 0) w)(f:AR N φ0 (ρ 0) a)(r:∀ψ a' w',AEZ ty ψ nil (H all.length) w'->AR N ψ (ρ all.length) a'->Evo φ0 (H 0) w ψ (H all.length) w'->Q .normal a' w'):
  (ACe id all.toArray IN).wp P Q a w:=by
 have c:Txt P ty N φ0 ρ H V T all.length:=by
  have b:=Qk (Q:=λ_ _ _=>Txt P ty N φ0 ρ H V T all.length) all tr i g f λc _ _ _ _ _ _=>c
  obtain⟨_,_,_,b,_⟩:=wp_region_list (id:=0) (ops:=all.toArray) (by simpa using b) (default:Frame) [] [];exact b
 refine wp_region_any q ?_;have l:AEZ ty φ0 nil (H 0) {w with drawn:=w.drawn+1}:=g.of_heap rfl;have s:all.toArray.size=all.length:=by simp
 rw[s];refine mN (w0:={w with drawn:=w.drawn+1}) k h tr c i (λψ a' w' m n p=>r ψ a' w' m n (p.AGb rfl rfl rfl rfl)) all.length _ φ0 (H 0).bl.get a _ (by simp) (wy List.countP_le_length (by simp)) ?_ ?_
 ·rintro t u ⟨e,j⟩ _
  rw[xY]at j;simp[e]at j
 ·refine Inv.begin tr c h l f λt e b=>?_
  have:=b.2;rw[xY]at this;simp[e]at this
end
theorem TU{b:Type}(x:Nat):∀(k:List Nat->b) (l:List Nat),X7 x k l=k (l++[x])
 |k,[]=>rfl
 |k,a::l=>by
  unfold X7;rw[TU x (λl=>k (a::l)) l];rfl
def EI:List Nat->List zA->List Nat
 |a,[]=>a
 |a,c::b=>EI (a++[Hl a 0 c.after.toList]) b
theorem V5{b:Type}(k:List Nat->b):∀(l:List zA) (a:List Nat),gH k l a=k (EI a l)
 |[],a=>rfl
 |o::l,a=>by
  unfold gH;rw[Ae,TU,V5 k l];rfl
theorem Ms:∀(l:List zA) (a:List Nat) (j:Nat),j<a.length->(EI a l)[j]? =a[j]?
 |[],a,j,_=>rfl
 |o::l,a,j,b=>by
  unfold EI;rw[Ms l _ j (by simp;omega),wX b]
theorem YX(l:List zA):∀(a:List Nat) (j:Nat) (o:zA),l[j]? =BY o->(EI a l)[a.length+j]? =BY (Hl ((EI a l).take (a.length+j)) 0 o.after.toList):=by
 induction l with
 |nil=>intro a j o c;cases c
 |cons b l m=>
  intro a j o c;have k:EI a (b::l)=EI (a++[Hl a 0 b.after.toList]) l:=by rw[EI]
  rw[k];cases j with
  |zero=>
   have h:b=o:=by simpa using c
   subst h;rw[xy];have f:=λe d=>Ms l (a++[Hl a 0 b.after.toList]) e d
   have i:(EI (a++[Hl a 0 b.after.toList]) l).take a.length=a:=by
    apply ACr;intro e;rw[yY];split
    ·rename_i d
     rw[f e (by rw[wD];omega),wX d]
    ·rename_i d
     rw[yF (by omega)]
   rw[i,f a.length (by rw[wD,xM];omega),wi (wB _),Nat.sub_self];rfl
  |succ j=>
   have:=m (a++[Hl a 0 b.after.toList]) j o (by simpa using c);rw[wD,xM]at this;have g:a.length+(j+1)=a.length+1+j:=by omega
   rw[g];exact this
theorem Mr:∀(l:List zA) (a:List Nat),(EI a l).length=a.length+l.length
 |[],a=>rfl
 |o::l,a=>by
  unfold EI;rw[Mr l];simp;omega
theorem P6{bs:List Nat}{i j:Nat}:isB bs i j=IN↔∃b,bs[j]? =BY b/\b.testBit i=IN:=by
 unfold isB;rw[Gh];cases bs[j]? with
 |none=>simp
 |some b=>
  simp only[Option.some.injEq,exists_eq_left'];rw[Ax];unfold Nat.testBit;have a:Nat.shiftRight b i=b >>> i:=rfl;have c:AAR (b >>> i) 2=(b >>> i) % 2:=rfl;rw[a,c];simp[Nat.and_one_is_mod,bne_iff_ne]
theorem LG(a:List Nat)(i:Nat):∀(es:List Edge) (m:Nat),(Hl a m es).testBit i=IN↔m.testBit i=IN\/∃e∈es,AAH .any e=IN/\(i=e.on\/((a[e.on]?).getD 0).testBit i=IN)
 |[],m=>by unfold Hl;simp
 |e::es,m=>by
  unfold Hl;split
  ·rename_i b
   rw[LG a i es];have f:∀c d:Nat,Nat.lor c d=c ||| d:=λ_ _=>rfl
   have g:Nat.shiftLeft 1 e.on=1 <<< e.on:=rfl;rw[f,f,g,Gh,ADY,ADY,Nat.one_shiftLeft,Nat.testBit_two_pow];simp only[ABh,decide_eq_true_eq,wS,exists_eq_or_imp,b,true_and];constructor
   ·rintro ((h|h|h)|h)
    ·exact .inl h
    ·exact .inr (.inl (.inl h.symm))
    ·exact .inr (.inl (.inr h))
    ·exact .inr (.inr h)
   ·rintro (h|(h|h)|h)
    ·exact .inl (.inl h)
    ·exact .inl (.inr (.inl h.symm))
    ·exact .inl (.inr (.inr h))
    ·exact .inr h
  ·rename_i b
   rw[LG a i es];simp only[wS,exists_eq_or_imp,b,xJ,false_and,false_or]
theorem HO{ops:List zA}{o:zA}{i:Nat}:(o,i)∈ops.zipIdx↔ops[i]? =BY o:=List.mem_zipIdx_iff_getElem?
theorem KD{d:Nat}:∀{l:List Nat},memN d l=IN↔d∈l
 |[]=>by simp[memN]
 |x::l=>by
  unfold memN;split
  ·rename_i a
   have:=Ax.1 a;simp[this]
  ·rename_i a
   have:=Fo a;rw[KD,wS];constructor
   ·exact .inr
   ·rintro (h|h)
    ·exact absurd h.symm this
    ·exact h
section
variable {ty:TTy}{all:List zA}{bs:List Nat}
theorem RL(p:bs=EI [] all)(f:In all=IN):AG5 all (λi j=>isB bs i j=IN):=by
 have back:∀i c,all[i]? =BY c->∀a∈c.after.toList,AAH .any a=IN->a.on<i:=by
  intro i c e a d n;unfold In at f;rw[zU]at f;have:=f (c,i) (HO.2 e);simp only[zU]at this;have:=this a d;rw[n]at this;exact BM.1 (by simpa using this)
 refine⟨λi c j e m=>?_,back⟩;obtain⟨s,h,o⟩:=P6.1 m;have:=YX all [] i c e;rw[<- p]at this;simp only[xD,wC]at this;rw[this]at h;cases h;rcases (LG _ j _ _).1 o with b|⟨a,d,k,r⟩
 ·simp at b
 ·refine⟨a,d,k,r.imp id λb=>?_⟩
  have q:=back i c e a d k;rw[yY,IT q]at b;cases g:bs[a.on]? with
  |none=>rw[g]at b;simp at b
  |some l=>rw[g]at b;exact P6.2 ⟨l,g,b⟩
theorem rC(d:bs=EI [] all)(l:In all=IN):∀j i,isB bs i j=IN->i<j:=by
 have a:=RL d l;intro j
 induction j using AAq with
 |_ j o=>
  intro i c;have e:j<all.length:=by
   obtain⟨p,g,_⟩:=P6.1 c;have:=(wW.1 g).1;rw[d,Mr]at this
   simpa using this
  obtain⟨b,m,k,n⟩:=a.dec j _ i (wE e) c;have f:=a.back j _ (wE e) b m k;rcases n with rfl|h
  ·exact f
  ·have:=o b.on f i h;omega
theorem XS{i j:Nat}(h:isB bs (B9 i j) (i+j - B9 i j)=IN):isB bs i j=IN\/isB bs j i=IN:=by
 rw[BV]at h;rcases Nat.le_total i j with a|a
 ·rw[yz a,show i+j - i=j by omega]at h;exact .inl h
 ·rw[Nat.min_eq_right a,show i+j - j=i by omega]at h;exact .inr h
theorem jA{i j:Nat}(a:isB bs i j≠IN)(h2:isB bs j i≠IN):isB bs (B9 i j) (i+j - B9 i j)=IS:=by
 cases h:isB bs (B9 i j) (i+j - B9 i j)with
 |false=>rfl
 |true=>
  rcases XS h with h|h
  ·exact absurd h a
  ·exact absurd h h2
theorem eo(c:Kh all bs=IN){i j:Nat}{f b:zA}{d:Nat}(o:i≠j)(hi:all[i]? =BY f)(p:all[j]? =BY b)(n:f.dst=BY d)
  (q:b.dst=BY d\/.tmp d∈b.op.operands.toList\/∃g w e,b.guard=BY (g,w)/\all[g]? =BY e/\e.dst=BY d):isB bs i j=IN\/isB bs j i=IN:=by
 unfold Kh at c;rw[zU]at c;have k:=c (f,i) (HO.2 hi);simp only[n,zU]at k;have a:=k (b,j) (HO.2 p);simp only[ABh,AAi]at a;rcases a with (a|a)|a
 ·exact absurd (Ax.1 a) o
 ·exact XS a
 ·exfalso
  have:memN d (b.dst.toList++Qj all b)=IN:=by
   rw[KD,wd];rcases q with h|h|⟨g,w,e,h,l,m⟩
   ·left;rw[h];simp
   ·right
    unfold Qj;rw[wd];left;rw[List.mem_filterMap];exact⟨_,h,rfl⟩
   ·right
    unfold Qj;rw[wd];right;rw[h];simp only[Gh,l,m];simp
  rw[this]at a;cases a
structure AHt (ty:TTy)(all:List zA)(xs:List xE)(i j:Nat)(oi oj:zA):Prop where
 ww:∀x y,kd ty oi.op=.w x->kd ty oj.op≠.w y
 wq:∀x,kd ty oi.op=.w x->kd ty oj.op≠.q
 qw:∀y,kd ty oi.op=.q->kd ty oj.op≠.w y
 wr:∀x y,kd ty oi.op=.w x->kd ty oj.op=.r y->x∈xs/\∃t,x=.tmp t/\∀k o,i<=k->k<j->all[k]? =BY o->o.dst≠BY t
 rw':∀x y,kd ty oi.op=.r x->kd ty oj.op=.w y->x∈xs/\∃t,x=.tmp t/\∀k o,i<=k->k<j->all[k]? =BY o->o.dst≠BY t
theorem J9{j i:Nat}{x:xE}{rest:Option (List xE)}{xs:List xE}(h:XI all j x i rest=BY xs):
  ∃ys,rest=BY ys/\xs=x::ys/\∃t,x=.tmp t/\∀k o,i<=k->k<j->all[k]? =BY o->o.dst≠BY t:=by
 unfold XI at h;split at h
 ·rename_i t
  split at h
  ·cases h
  ·rename_i a
   split at h
   ·rename_i ys
    cases h;refine⟨ys,rfl,rfl,t,rfl,λk o d e g f=>?_⟩;rw[List.any_eq_false]at a;refine a (o,k) (HO.2 g) ?_;have b:wY i k=IN:=Am.2 d;have c:xQ k j=IN:=BM.2 e;simp only[b,c,AAF];rw[KD,f];simp
   ·cases h
 ·cases h
theorem FO{j:Nat}{p:zA}:∀{l:List (zA×Nat)} {xs:List xE},apart ty all bs j p l=BY xs->∀f i,(f,i)∈l->i<j->isB bs i j=IS->AHt ty all xs i j f p
 |[],xs,_,f,i,h,_,_=>by cases h
 |(H,G)::l,xs,b,f,i,h,n,m=>by
  unfold apart at b;have mono:∀{o:List xE} {c:xE},AHt ty all o i j f p->AHt ty all (c::o) i j f p:=λb=>
   {b with wr:=λq r a e=>(b.wr q r a e).imp (wI _) id,rw':=λq r a e=>(b.rw' q r a e).imp (wI _) id}
  rcases wS.1 h with A|h
  ·obtain⟨x,y⟩:=Prod.mk.inj A
   subst x;subst y;have z:(xQ i j && !isB bs i j)=IN:=by rw[m,BM.2 n];rfl
   rw[z]at b;simp only at b;unfold cH at b;split at b
   ·rename_i g
    exact⟨(λc d a=>by rw[g]at a;cases a),(λc a=>by rw[g]at a;cases a),(λd a=>by rw[g]at a;cases a),(λc d a=>by rw[g]at a;cases a),(λc d a=>by rw[g]at a;cases a)⟩
   ·rename_i g _
    exact⟨(λc d _ a=>by rw[g]at a;cases a),(λc _ a=>by rw[g]at a;cases a),(λd _ a=>by rw[g]at a;cases a),(λc d _ a=>by rw[g]at a;cases a),(λc d _ a=>by rw[g]at a;cases a)⟩
   ·cases b
   ·cases b
   ·cases b
   ·rename_i k s
    obtain⟨o,_,rfl,w,t,u⟩:=J9 b;exact⟨(λc d _ a=>by rw[s]at a;cases a),(λc _ a=>by rw[s]at a;cases a),(λd a=>by rw[k]at a;cases a),(λc d a _=>by rw[k]at a;cases a;exact⟨wJ,w,t,u⟩),(λc d a=>by rw[k]at a;cases a)⟩
   ·rename_i k s
    obtain⟨o,_,rfl,w,t,u⟩:=J9 b;exact⟨(λc d a=>by rw[k]at a;cases a),(λc a=>by rw[k]at a;cases a),(λd a=>by rw[k]at a;cases a),(λc d a=>by rw[k]at a;cases a),(λc d a _=>by rw[k]at a;cases a;exact⟨wJ,w,t,u⟩)⟩
   ·rename_i I J B C D E F
    exact⟨λc d a e=>B c d a e,λc a e=>C c a e,λd a e=>D d a e,λc d a e=>(E c d a e).elim,λc d a e=>(F c d a e).elim⟩
  ·split at b
   ·exact FO b f i h n m
   ·unfold cH at b
    split at b
    ·exact FO b f i h n m
    ·exact FO b f i h n m
    ·cases b
    ·cases b
    ·cases b
    ·obtain⟨o,a,rfl,_⟩:=J9 b
     exact mono (FO a f i h n m)
    ·obtain⟨o,a,rfl,_⟩:=J9 b
     exact mono (FO a f i h n m)
    ·exact FO b f i h n m
theorem KC{j i:Nat}{o:zA}{ask:Nat->Kd->Bool}(e:all[i]? =BY o)(d:i≠j)(b:isB bs i j≠IN)(h2:isB bs j i≠IN)(c:ask i (kd ty o.op)=IN):loose ty all bs j ask=IN:=by
 unfold loose;rw[List.any_eq_true];refine⟨(o,i),HO.2 e,?_⟩;have a:wU i j=IS:=by
  cases a:wU i j with
  |false=>rfl
  |true=>exact absurd (Ax.1 a) d
 simp only[a,xP,AAF,jA b h2,c]
inductive AF1 (ty:TTy)(all:List zA)(bs:List Nat)(j:Nat)(o:zA)(xs:List xE):AE5->Prop
 |AEk (hk:kd ty o.op=.q) (hs:AFF ty all bs j=IN):AF1 ty all bs j o xs (.quiet .AEk)
 |weak (hk:kd ty o.op=.q) (hs:AFF ty all bs j=IS):AF1 ty all bs j o xs (.quiet .weak)
 |free (hk:kd ty o.op=.q) (hs:AFF ty all bs j=IS) (hl:AGH ty all bs j=IS):AF1 ty all bs j o xs (.quiet .free)
 |alloc (hk:kd ty o.op=.a):AF1 ty all bs j o xs (.quiet .AEk)
 |read {x:xE} (hk:kd ty o.op=.r x):AF1 ty all bs j o xs (AGU (loose ty all bs j λi k=>isQ k && !(AFF ty all bs i)) x xs)
 |write {x:xE} (hk:kd ty o.op=.w x):AF1 ty all bs j o xs (.wr x xs)
 |AGE {x:xE} (hk:kd ty o.op=.w x) (hl:(loose ty all bs j λ_ k=>isR k)=IS):AF1 ty all bs j o xs (.quiet .free)
 |plain (hk:kd ty o.op=.p):AF1 ty all bs j o xs .plain
theorem Tv{j:Nat}{o:zA}{f:AE5}(h:MJ ty all bs j o=BY f):∃xs,apart ty all bs j o all.zipIdx=BY xs/\AF1 ty all bs j o xs f:=by
 unfold MJ at h;split at h
 ·cases h
 ·rename_i xs g
  refine⟨xs,g,?_⟩;split at h
  ·rename_i b
   split at h
   ·rename_i c;cases h;exact .AEk b c
   ·rename_i c _;cases h;exact .weak b c
   ·rename_i c d;cases h;exact .free b c d
  ·rename_i b;cases h;exact .alloc b
  ·rename_i b;cases h;exact .read b
  ·rename_i b
   split at h
   ·cases h;exact .write b
   ·rename_i d;cases h;exact .AGE b d
  ·rename_i i k l m
   cases h;refine .plain ?_;cases b:kd ty o.op with
   |p=>rfl
   |a=>exact absurd b k
   |r e=>exact absurd b (l e)
   |w e=>exact absurd b (m e)
   |q=>exact absurd b i
theorem OO:∀{l:List zA} {j:Nat} {b:List AE5},PX ty all bs j l=BY b->∀k o,l[k]? =BY o->MJ ty all bs (j+k) o=BY (b.getD k .plain)
 |[],j,b,a,k,o,c=>by cases c
 |h::l,j,b,a,k,o,c=>by
  unfold PX at a;split at a
  ·rename_i g e
   split at a
   ·rename_i i f
    cases a;cases k with
    |zero=>cases c;exact e
    |succ k=>
     have:=OO f k o c;have d:j+(k+1)=j.succ+k:=by omega
     rw[d];exact this
   ·cases a
  ·cases a
theorem Mz{old:Bool}{x:xE}{xs:List xE}:(AGU old x xs=.plain/\old=IS/\xs=[])\/AGU old x xs=.chk old x xs:=by
 unfold AGU;cases old<;>cases xs<;>first|exact .inl ⟨rfl,rfl,rfl⟩|exact .inr rfl
theorem AF1.ok{j:Nat}{o:zA}{xs:List xE}{b:AE5}(h:AF1 ty all bs j o xs b):AG4 ty o b:=by
 cases h with
 |AEk a _=>exact⟨(λ_ _ h=>by rw[a]at h;rcases h with h|⟨_,h⟩<;>cases h),(λ_ _ h=>by cases h),(λ_ _ _ h=>by cases h)⟩
 |weak a _=>exact⟨(λ_ _ h=>by rw[a]at h;rcases h with h|⟨_,h⟩<;>cases h),(λ_ _ h=>by cases h),(λ_ _ _ h=>by cases h)⟩
 |free a _ _=>exact⟨(λ_ _ h=>by rw[a]at h;rcases h with h|⟨_,h⟩<;>cases h),(λ_ _ h=>by cases h),(λ_ _ _ h=>by cases h)⟩
 |alloc a=>exact⟨(λ_ _ h=>by rw[a]at h;rcases h with h|⟨_,h⟩<;>cases h),(λ_ _ h=>by cases h),(λ_ _ _ h=>by cases h)⟩
 |read a=>
  rcases Mz (old:=loose ty all bs j λc d=>isQ d && !(AFF ty all bs c)) (xs:=xs)with ⟨h,_⟩|h
  ·rw[h];exact .plain ty o
  ·rw[h];exact⟨(λ_ h=>by cases h),(λ_ _ h=>by cases h),(λ_ _ _ h=>by cases h;exact a)⟩
 |write a=>exact⟨(λ_ h=>by cases h),(λ_ _ h=>by cases h;exact a),(λ_ _ _ h=>by cases h)⟩
 |AGE a _=>exact⟨(λ_ _ h=>by rw[a]at h;rcases h with h|⟨_,h⟩<;>cases h),(λ_ _ h=>by cases h),(λ_ _ _ h=>by cases h)⟩
 |plain a=>exact .plain ty o
theorem AF1.AG3{j:Nat}{o:zA}{xs:List xE}{b:AE5}(h:AF1 ty all bs j o xs b):AI6 ty o b:=by
 cases h with
 |read a=>exact .inl (.inr ⟨_,a⟩)
 |plain a=>exact .inl (.inl a)
 |_=>exact .inr ⟨(λh=>by cases h),(λ_ _ _ h=>by cases h)⟩
end
section
variable {P:xU}{ty:TTy}{all:List zA}{ρ:Nat->Rho}{H:Nat->Hp}{V:Nat->vz}{T:Nat->Nat->Prop}{run:Nat->Bool}{ahs:List AE5}{bs:List Nat}
theorem L4(e:∀j o,all[j]? =BY o->∃xs,apart ty all bs j o all.zipIdx=BY xs/\AF1 ty all bs j o xs (ahs.getD j .plain))(tr:Tr P ty all ahs all ρ H V run T){j:Nat}(h:j<all.length):
  (H (j+1)).low<=(H j).low/\(H j).high<=(H (j+1)).high/\(∀c,T j c->(H (j+1)).low<=c/\c<=(H (j+1)).high)/\(H (j+1)).mark=(H j).mark:=by
 have a:all[j]? =BY all[j]:=wE h;obtain⟨xs,_,d⟩:=e j _ a;rcases (tr.sf j _ a).core with ⟨_,core⟩|⟨_,_,g,b⟩
 ·exact core.AG3 d.AG3
 ·rw[g];exact⟨wB _,wB _,λc f=>absurd f (b c),rfl⟩
theorem Ef(h:∀j o,all[j]? =BY o->∃xs,apart ty all bs j o all.zipIdx=BY xs/\AF1 ty all bs j o xs (ahs.getD j .plain))(tr:Tr P ty all ahs all ρ H V run T){i:Nat}:
  ∀{k:Nat},i<=k->k<=all.length->(H k).low<=(H i).low/\(H i).high<=(H k).high/\(H k).mark=(H i).mark:=by
 intro k g m
 induction k with
 |zero=>have:i=0:=AAt.1 g;subst this;exact⟨wB _,wB _,rfl⟩
 |succ k l=>
  rcases wh k i with a|a
  ·have:i=k+1:=by omega
   subst this;exact⟨wB _,wB _,rfl⟩
  ·obtain⟨b,c,d⟩:=l a (by omega)
   obtain⟨e,f,_,b3⟩:=L4 h tr (j:=k) (by omega);exact⟨wy e b,wy c f,b3.trans d⟩
theorem RP(tr:Tr P ty all ahs all ρ H V run T){t:Nat}{u:vz}{i k:Nat}(h:i<=k)(hk:k<=all.length)(a:∀m o,i<=m->m<k->all[m]? =BY o->o.dst≠BY t)(b:evR (ρ k) (.tmp t)=BY u):evR (ρ i) (.tmp t)=BY u:=
 tr.backward h hk a b
theorem jF(a8:bs=EI [] all)(he:In all=IN)(hs:Kh all bs=IN)
  (s:∀j o,all[j]? =BY o->∃xs,apart ty all bs j o all.zipIdx=BY xs/\AF1 ty all bs j o xs (ahs.getD j .plain))(tr:Tr P ty all ahs all ρ H V run T):
  Laws ty all ρ H T (λi j=>isB bs i j=IN):=by
 have len:∀{i:Nat} {o:zA},all[i]? =BY o->i<all.length:=λh=>(wW.1 h).1
 have I:∀j g c,all[j]? =BY g->T j c->Core P ty g (ahs.getD j .plain) (ρ j) (H j) (H (j+1)) (V j) (T j):=by
  intro j g c e f;rcases (tr.sf j g e).core with ⟨_,core⟩|⟨_,_,_,hT⟩
  ·exact core
  ·exact absurd f (hT c)
 have kinds:∀j g c,all[j]? =BY g->T j c->(∃x,kd ty g.op=.w x)\/(kd ty g.op=.q/\AFF ty all bs j=IS):=by
  intro j g c e f;have core:=I j g c e f;obtain⟨xs,_,l⟩:=s j g e;generalize ahs.getD j .plain=F at l core;cases l with
  |AEk a _=>exact absurd f (core.AEk rfl c)
  |weak a h=>exact .inr ⟨a,h⟩
  |free a h _=>exact .inr ⟨a,h⟩
  |alloc a=>exact absurd f (core.AEk rfl c)
  |read a=>exact absurd f ((core.tp (.inr ⟨_,a⟩)).1 c)
  |write a=>exact .inl ⟨_,a⟩
  |AGE a _=>exact .inl ⟨_,a⟩
  |plain a=>exact absurd f ((core.tp (.inl a)).1 c)
 have A:∀{i j p g},all[i]? =BY p->all[j]? =BY g->i<j->¬isB bs i j=IN->∃xs,AF1 ty all bs j g xs (ahs.getD j .plain)/\AHt ty all xs i j p g:=by
  intro i j p g k e m hB;obtain⟨xs,E,l⟩:=s j g e;exact⟨xs,l,FO E p i (HO.2 k) m (by cases h:isB bs i j<;>first|rfl|exact absurd h hB)⟩
 refine {lt:=λi j h=>rC a8 he j i h,slots:=λi j p g b3 m k e hd hn=>eo hs m k e hd hn,kinds:=λj g c e f=>(kinds j g c e f).imp id (·.1),fixed:=?_,reads:=?_,tlt:=?_,AHs:=?_,low:=?_,high:=?_}
 ·
  intro i j p c m k u f b;have e:all[j]? =BY all[j]:=wE u;by_cases q:isB bs i j=IN
  ·exact .inl q
  by_cases r:isB bs j i=IN
  ·exact .inr r
  exfalso
  have a7:∀{i j:Nat} {p:zA},all[i]? =BY p->i≠j->¬isB bs i j=IN->¬isB bs j i=IN->kd ty p.op=.q->AFF ty all bs j=IN:=λk m q r a=>by
   unfold AFF;exact KC k m q r (by rw[a];rfl)
  rcases kinds j _ c e f with ⟨t,d⟩|⟨d,C⟩
  ·rcases ABH m with h|h
   ·obtain⟨xs,_,n⟩:=A k e h q
    rcases b with ⟨x,b⟩|b
    ·exact n.ww x t b d
    ·exact n.qw t b d
   ·obtain⟨xs,_,n⟩:=A e k h r
    rcases b with ⟨x,b⟩|b
    ·exact n.ww t x d b
    ·exact n.wq t d b
  ·rcases b with ⟨x,b⟩|b
   ·rcases ABH m with h|h
    ·obtain⟨xs,_,n⟩:=A k e h q
     exact n.wq x b d
    ·obtain⟨xs,_,n⟩:=A e k h r
     exact n.qw x d b
   ·rw[a7 k m q r b]at C;cases C
 ·
  intro i j p x c W m k u f b Q M;have e:all[j]? =BY all[j]:=wE u;by_cases q:isB bs i j=IN
  ·exact .inl q
  by_cases r:isB bs j i=IN
  ·exact .inr r
  exfalso
  have core:=I j _ c e f;have a0:=len k;have U:=(tr.sf i p k).side (by rw[b];intro h;cases h);rcases kinds j _ c e f with ⟨t,d⟩|⟨d,C⟩
  ·
   have a5:∃xs,ahs.getD j .plain=.wr t xs/\apart ty all bs j all[j] all.zipIdx=BY xs:=by
    obtain⟨xs,E,l⟩:=s j _ e;generalize ahs.getD j .plain=F at l;cases l with
    |write a=>rw[d]at a;cases a;exact⟨xs,rfl,E⟩
    |AGE a B=>
     have:=KC (ty:=ty) (ask:=λ_ w=>isR w) k m q r (by simp only[b];rfl);rw[B]at this;cases this
    |AEk a _=>rw[d]at a;cases a
    |weak a _=>rw[d]at a;cases a
    |free a _ _=>rw[d]at a;cases a
    |alloc a=>rw[d]at a;cases a
    |read a=>rw[d]at a;cases a
    |plain a=>rw[d]at a;cases a
   obtain⟨X,N,b1⟩:=a5;obtain⟨u',a4,Z⟩:=core.wr t X N c f;have sj:=(tr.sf j _ e).side (by rw[d];intro h;cases h);rcases ABH m with h|h
   ·
    have n:=FO b1 p i (HO.2 k) h (by cases h:isB bs i j<;>first|rfl|exact absurd h q);obtain⟨y,b2,rfl,R⟩:=n.rw' x t b d;obtain⟨_,O⟩:=sj.known t X (.inl N);obtain⟨u2,D⟩:=O _ y;have z:=RP tr (yJ h) (yJ u) (λS o J K L=>R S o J K L) D;rw[Q]at z;cases z;exact sj.wrx t X N _ y u' W c a4 D Z M
   ·
    obtain⟨xs,l,n⟩:=A e k h r;obtain⟨y,b2,rfl,R⟩:=n.wr t x d b;have a6:∃old,ahs.getD i .plain=.chk old x xs:=by
     generalize ahs.getD i .plain=F at l;cases l with
     |read a=>
      rw[b]at a;cases a;rcases Mz (x:=x) (old:=loose ty all bs i λi w=>isQ w && !(AFF ty all bs i)) (xs:=xs)with ⟨_,_,h⟩|h
      ·subst h;cases y
      ·exact⟨_,h⟩
     |AEk a _=>rw[b]at a;cases a
     |weak a _=>rw[b]at a;cases a
     |free a _ _=>rw[b]at a;cases a
     |alloc a=>rw[b]at a;cases a
     |write a=>rw[b]at a;cases a
     |AGE a _=>rw[b]at a;cases a
     |plain a=>rw[b]at a;cases a
    obtain⟨old,G⟩:=a6;obtain⟨_,O⟩:=U.known x xs (.inr ⟨old,G⟩);obtain⟨u2,D⟩:=O _ y;have z:=RP tr (yJ h) (yJ a0) (λS o J K L=>R S o J K L) D;rw[a4]at z;cases z;exact U.chk old x xs G _ y W u' c Q D M Z
  ·
   have b0:∀c,T j c->(H j).mark<=c:=by
    obtain⟨xs,E,l⟩:=s j _ e;generalize ahs.getD j .plain=F at l core;cases l with
    |weak a _=>exact core.weak rfl
    |free a _ B=>
     have:AGH ty all bs j=IN:=by
      unfold AGH;exact KC (ty:=ty) (ask:=λ_ w=> !isP w) k m q r (by simp only[b];rfl)
     rw[B]at this;cases this
    |AEk a h=>rw[C]at h;cases h
    |alloc a=>rw[d]at a;cases a
    |read a=>rw[d]at a;cases a
    |write a=>rw[d]at a;cases a
    |AGE a _=>rw[d]at a;cases a
    |plain a=>rw[d]at a;cases a
   have a9:∃xs,ahs.getD i .plain=.chk IN x xs:=by
    obtain⟨xs,E,l⟩:=s i p k;generalize ahs.getD i .plain=F at l;cases l with
    |read a=>
     rw[b]at a;cases a;have B:(loose ty all bs i λi w=>isQ w && !(AFF ty all bs i))=IN:=
      KC e (λh=>m h.symm) r q (by rw[d,C];rfl)
     rw[B];rcases Mz (x:=x) (old:=IN) (xs:=xs)with ⟨_,h,_⟩|h
     ·cases h
     ·exact⟨xs,h⟩
    |AEk a _=>rw[b]at a;cases a
    |weak a _=>rw[b]at a;cases a
    |free a _ _=>rw[b]at a;cases a
    |alloc a=>rw[b]at a;cases a
    |write a=>rw[b]at a;cases a
    |AGE a _=>rw[b]at a;cases a
    |plain a=>rw[b]at a;cases a
   obtain⟨xs,G⟩:=a9;have Y:=U.old x xs G W c Q M;have h4:=b0 c f;have m1:=(Ef s tr (wl i) (yJ a0)).2.2;have m2:=(Ef s tr (wl j) (yJ u)).2.2;omega
 ·intro j c u f
  exact(I j _ c (wE u) f).tlt c f
 ·intro j c u f
  obtain⟨_,_,Y,_⟩:=L4 s tr u;obtain⟨h4,h5⟩:=Y c f;obtain⟨h6,h7,_⟩:=Ef s tr (i:=j+1) u (wB _);omega
 ·exact(Ef s tr (wl _) (wB _)).1
 ·exact(Ef s tr (wl _) (wB _)).2.1
theorem bZ(h:Wq ty all=BY ahs):∃bs,bs=EI [] all/\In all=IN/\Kh all bs=IN/\∀j o,all[j]? =BY o->∃xs,apart ty all bs j o all.zipIdx=BY xs/\AF1 ty all bs j o xs (ahs.getD j .plain):=by
 unfold Wq at h;rw[V5]at h;split at h
 ·rename_i a
  simp only[wV]at a;refine⟨_,rfl,a.1,a.2.2,λj o b=>?_⟩;have:=OO h j o b;rw[wC]at this;exact Tv this
 ·cases h
end
theorem FP{a b:Bool}(h:(bif a then b else IS)=IN):a=IN/\b=IN:=by cases a<;>first|exact⟨rfl,h⟩|cases h
section

end
def Ag(S:List Nat)(e b:Env):Prop:=∀a,a<240->a∉S->b.get a=e.get a
theorem Ag.refl(S:List Nat)(e:Env):Ag S e e:=λ_ _ _=>rfl
theorem Ag.trans{S:List Nat}{e a b:Env}(h:Ag S e a)(h2:Ag S a b):Ag S e b:=λf d c=>(h2 f d c).trans (h f d c)
def Hi(S:List Nat)(e:Env):X->Prop
 |.no=>True
 |.norm a _=>Ag S e a
 |.exit _ a _=>Ag S e a
 |.ret a _=>Ag S e a
theorem Hi.of{S:List Nat}{e a:Env}{x:X}(h:Ag S e a)(h2:Hi S a x):Hi S e x:=by
 cases x with
 |no=>trivial
 |norm _ _=>exact h.trans h2
 |exit _ _ _=>exact h.trans h2
 |ret _ _=>exact h.trans h2
def CI(S:List Nat)(c:C):Prop:=∀b a d,Hi S a (c b a d)
theorem PW{S:List Nat}{d:Nat}(a:d∈S)(b:d<240)(v:vz)(e:Env):Ag S e (Env.set d v e):=λg f c=>by
 rw[Env.AEm _ _ _ _ b f,If (by rintro rfl;exact c a)]
theorem Qu{S:List Nat}:∀(l:List Nat) (e:Env),(∀d∈l,d∈S/\d<240)->Ag S e (C6 e l)
 |[],e,_=>.refl _ _
 |d::l,e,a=>(PW (a d wJ).1 (a d wJ).2 _ e).trans (Qu l _ λd b=>a d (wI _ b))
section
variable {S:List Nat}
theorem Cn:CI S cNo:=λ_ _ _=>trivial
theorem Uo:CI S Aq:=λ_ a _=>.refl _ a
theorem Yy:CI S Ao:=λ_ a _=>.refl _ a
theorem Um(id:Nat):CI S (CD id):=λ_ a _=>.refl _ a
theorem SK{d:Nat}{f:OpF}{k:C}(h:d∈S)(e:d<240)(hk:CI S k):CI S (Tu (Ff d) f k):=λb a g=>by
 unfold Tu;cases f b a g with
 |no=>trivial
 |ok v c=>
  show Hi S a (Ff d (λa=>k b a c) v a);rw[EN d e];exact .of (PW h e v a) (hk b _ c)
theorem cU{f:OpF}{k:C}(hk:CI S k):CI S (cDo f k):=λa b c=>by
 unfold cDo;cases f a b c with
 |no=>trivial
 |ok v d=>exact hk a b d
theorem jC{g:Env->vz}{w:Bool}{d:Nat}{f:OpF}{k:C}(i:d∈S)(e:d<240)(hk:CI S k):CI S (cG g w (Ff d) f k):=λb a c=>by
 have h:Hi S a (Ff d (λa=>k b a c) AEU a):=by
  rw[EN d e];exact .of (PW i e _ a) (hk b _ c)
 unfold cG;split
 ·rename_i j _
  cases (w == j)with
  |true=>exact SK i e hk b a c
  |false=>exact h
 ·exact h
 ·trivial
theorem LT{w:Env->vz}{d:List (Env->vz)}{k:C}(hk:CI S k):CI S (Ck w d k):=λb a c=>by
 unfold Ck;split
 ·rename_i e _
  cases DE e a d with
  |true=>exact hk b a c
  |false=>trivial
 ·exact hk b a c
theorem Yx{x:O}{k:C}(hk:CI S k):CI S (Ee x k):=λb c a=>by
 unfold Ee;split
 ·rename_i d _
  cases xQ d a.mark with
  |true=>exact hk b c a
  |false=>trivial
 ·exact hk b c a
theorem Un{k:C}(hk:CI S k):CI S (B4 k):=λa b c=>hk a b _
theorem Ow{a b:C}(i:CI S a)(j:CI S b):CI S (BJ a b):=λc g h=>by
 have:=i c g h;unfold BJ;cases f:a c g h with
 |no=>trivial
 |norm d e=>rw[f]at this;exact .of this (j c d e)
 |exit k d e=>rw[f]at this;exact this
 |ret d e=>rw[f]at this;exact this
theorem JX{c:O}{a b:C}(g:CI S a)(h:CI S b):CI S (JH c a b):=λe d f=>by
 show Hi S d (lq (c d) (a e d f) (b e d f));cases c d<;>first|trivial|skip
 rename_i i;cases i with
 |true=>exact g e d f
 |false=>exact h e d f
theorem Lv{id:Nat}{a:C}(i:CI S a):CI S (Ab id a):=λg d h=>by
 have:=i g d h;unfold Ab;cases e:a g d h with
 |no=>trivial
 |norm b c=>rw[e]at this;exact this
 |exit f b c=>
  rw[e]at this;show Hi S d (bif wU f id then .norm b c else .exit f b c);cases wU f id<;>exact this
 |ret b c=>rw[e]at this;exact this
theorem NP{a:C}(h:CI S a):∀n,CI S (iter a n)
 |0=>λ_ _ _=>trivial
 |n+1=>λb f g=>by
  have:=h b f g;unfold iter;cases e:a b f g with
  |no=>trivial
  |norm c d=>rw[e]at this;exact .of this (NP h n b c d)
  |exit i c d=>rw[e]at this;exact this
  |ret c d=>rw[e]at this;exact this
theorem NQ{a:C}(b:CI S a):CI S (A4 a):=NP b rounds
theorem Ov{e:Env}{c:Bool}{x:X}(a:Hi S e x):Hi S e (bif c then x else .no):=by
 cases c
 ·trivial
 ·exact a
theorem Up{k:Walk}{a:C}(p:∀d∈k.ws,d∈S/\d<240)(j:k.more∈S/\k.more<240)(s:∀d∈k.rs,d∈S/\d<240)(n:CI S a):CI S (Jo k a):=λg b c=>by
 have f:=NQ n g b c;have o:∀i,Hi S b (GL k a g b c i):=λi=>by
  unfold GL;split
  ·exact(Qu _ _ p).trans (PW j.1 j.2 _ _)
  ·trivial
 unfold Jo;cases J k.it b<;>first|trivial|skip
 rename_i q;cases q with
 |none=>trivial
 |some e=>
  simp only;cases Ei (c.bl.get e.block)with
  |ok h u seen t=>
   cases h with
   |none=>exact f
   |some h=>
    cases seen with
    |cons _ _=>trivial
    |nil=>
     simp only;cases Bi c h with
     |no=>trivial
     |ok m r=>
      cases m with
      |nil=>exact f
      |cons w l=>
       cases l with
       |nil=>exact f
       |cons x l=>
        show Hi S b (bif wU e.off 0 then(bif wY 256 e.block then GL k a g b c e.block else .no)else .no);exact Ov (Ov (o _))
  |_=>exact f
end
theorem bf{o:zA}{d:Nat}(a:o.dst=BY d):∀(l:List zA),o∈l->d∈Jw l:=by
 intro l
 induction l with
 |nil=>intro h;cases h
 |cons c l b=>
  intro h;unfold Jw;rcases wS.1 h with h|h
  ·rw[<- h,a];exact wJ
  ·have:=b h
   split
   ·exact wI _ this
   ·exact this
theorem Ep:∀{c:AC3} {d:Nat},d∈Je c->d∈wrs c
 |.seq a b,d,h=>by
  have e:d∈Je a++Je b->d∈wrs a++wrs b:=λh=>by
   rcases wd.1 h with h|h
   ·exact xF _ (Ep h)
   ·exact wz _ (Ep h)
  unfold Je at h;split at h
  ·split at h
   ·exact xF _ h
   ·exact xF _ (Ep h)
  ·exact e h
 |.cond _ a b,d,h=>by
  have h:d∈Je a++Je b:=h;rcases wd.1 h with h|h
  ·exact xF _ (Ep h)
  ·exact wz _ (Ep h)
 |.block _ a,d,h=>Ep (c:=a) h
 |.loop a,d,h=>Ep (c:=a) h
 |.scope a,d,h=>Ep (c:=a) h
 |.region _ _ _,d,h=>by cases h
 |.skip,d,h=>by cases h
 |.exit _,d,h=>by cases h
 |.ret,d,h=>by cases h
 |.rangeFunc _ _ _ _,d,h=>by cases h
 |.label _,d,h=>by cases h
 |.goto _,d,h=>by cases h
 |.refuse _,d,h=>by cases h
theorem Ws:∀{l:List Nat},ie l=IN->∀d∈l,d<240
 |d::l,a,c,hx=>by
  unfold ie at a;split at a
  ·rename_i b
   rcases wS.1 hx with rfl|hx
   ·exact BM.1 b
   ·exact Ws a c hx
  ·cases a
structure AFv (A:List Nat)(a:AC3)(k:Walk)(id:Nat)(o1 o2:zA)(r2:AC3):Prop where
 code:a=.seq (.region id #[o1,o2] IS) (.seq (.cond (.tmp k.more) .skip (.exit k.out)) r2)
 op1:o1.op=.next (.tmp k.it) IS
 AGr:o1.dst=BY k.nx
 AIL:o1.guard=By
 op2:o2.op=.extract (.tmp k.nx) 0
 AG6:o2.dst=BY k.more
 AIM:o2.guard=By
 ne:k.nx≠k.more
 itA:memN k.it A=IS
 nxA:memN k.nx A=IS
 moA:memN k.more A=IS
 itL:k.it<240
 nxL:k.nx<240
 moL:k.more<240
 ws:k.ws=wrs a
 itW:k.it∉k.ws
 few:∀d∈k.ws,d<240
 rs:∀d∈k.rs,d∈k.ws
theorem NY{t:Nat}:∀{l:List Nat},memN t l=IS->t∉l
 |d::l,a,b=>by
  unfold memN at a;split at a
  ·cases a
  ·rename_i c
   rcases wS.1 b with rfl|b
   ·rw[yG]at c;cases c
   ·exact NY a b
theorem kG{more out:Nat}{c:AC3}(h:ue more c=BY out):∃f,c=.seq (.cond (.tmp more) .skip (.exit out)) f:=by
 cases c with
 |seq d e=>cases d with
  |cond c g i=>cases c with
   |tmp b=>cases g with
    |skip=>cases i with
     |exit id=>
      have h:(match wU b more with|true=>BY id|false=>By)=BY out:=h;cases a:wU b more with
      |false=>rw[a]at h;cases h
      |true=>
       rw[a]at h;cases h;have:=Ax.1 a;subst this;exact⟨e,rfl⟩
     |_=>cases h
    |_=>cases h
   |_=>cases h
  |_=>cases h
 |_=>cases h
theorem To{A:List Nat}{a:AC3}{k:Walk}(h:YM A a=BY k):∃id b c d,AFv A a k id b c d:=by
 unfold YM at h;split at h
 case h_2=>cases h
 rename_i y rest;split at h
 case h_2=>cases h
 rename_i id x z;split at h
 case h_2=>cases h
 unfold YL at h;split at h
 case h_2=>cases h
 rename_i b D u;split at h
 case h_2=>cases h
 rename_i c E;split at h
 case h_2=>cases h
 split at h
 case h_2=>cases h
 rename_i y str j;split at h
 case h_2=>cases h
 rename_i C;split at h
 case h_2=>cases h
 split at h
 case h_2=>cases h
 rename_i G g s;split at h
 case h_2=>cases h
 rename_i H B l;split at h
 case h_2=>cases h
 rename_i F;split at h
 case h_2=>cases h
 rename_i more i t;split at h
 case h_2=>cases h
 rename_i f;split at h
 case h_2=>cases h
 rename_i out w;cases h;simp only[wV,AAi]at f;obtain⟨n,o,b3,p,b5,b6,b7,b8,b9,b10,b11⟩:=f;obtain⟨d,rfl⟩:=kG w;have q:=Ax.1 n;have r:=Ax.1 o;subst q;subst r;have m:x= #[b,c]:=yD u;subst m;refine⟨id,b,c,d,{code:=rfl,op1:=j,AGr:=g,AIL:=s,op2:=l,AG6:=i,AIM:=t,ne:=Fo b3,itA:=p,nxA:=b5,moA:=b6,itL:=BM.1 b7,nxL:=BM.1 b8,moL:=BM.1 b9,ws:=?_,itW:=NY b10,few:=?_,rs:=?_}⟩
 ·show _=Jw [b,c]++_
  simp only[Jw,g,i];rfl
 ·intro e hd
  rcases wS.1 hd with rfl|hd
  ·exact BM.1 b8
  ·rcases wS.1 hd with rfl|hd
   ·exact BM.1 b9
   ·exact Ws b11 e hd
 ·intro e hd
  exact wI _ (wI _ (Ep hd))
section
variable {ty:TTy}{A S:List Nat}
theorem IC{f:Fr}{a:AE5}{o:OpF}{k:OpF->C}(hk:∀p,CI S (k p)):CI S (Hu f a o k):=by
 unfold Hu;split
 ·exact hk _
 ·exact hk _
 ·split
  ·exact LT (hk _)
  ·exact Cn
 ·split
  ·split
   ·exact Yx (LT (hk _))
   ·exact LT (hk _)
  ·exact Cn
theorem LU{all:List zA}{k:Sg->C}(hk:∀σ,CI S (k σ)):∀(l:List zA) (a:List AE5) (σ:Sg),(∀o∈l,∀d,o.dst=BY d->d∈S)->CI S (HU ty A all k a l σ)
 |[],a,σ,_=>by unfold HU;exact hk σ
 |o::l,a,σ,f=>by
  have b:∀a σ,CI S (HU ty A all k a l σ):=λa σ=>LU hk l a σ λo i=>f o (wI _ i)
  have g:=f o wJ;unfold HU;split
  ·exact IC λh=>cU (b _ _)
  ·rename_i d _ e
   split
   ·split
    ·split
     ·exact b _ _
     ·exact Cn
    ·exact Cn
   ·split
    ·rename_i c
     exact IC λh=>SK (g d e) (BM.1 c) (b _ _)
    ·exact Cn
  ·rename_i d _ e
   split
   ·exact Cn
   ·split
    ·split
     ·split
      ·split
       ·rename_i c
        exact IC λh=>jC (g d e) (BM.1 c) (b _ _)
       ·exact Cn
      ·exact Cn
     ·exact Cn
    ·exact Cn
  ·exact Cn
theorem HN{k:Option (Sg->C)}(hk:∀k',k=BY k'->∀σ,CI S (k' σ))(σ:Sg):CI S (L7 k σ):=by
 cases k with
 |none=>exact Uo
 |some k=>exact hk k rfl σ
theorem CX:∀(c:AC3) {σ:Sg} {k:Option (Sg->C)},(∀d∈wrs c,d∈S)->(∀k',k=BY k'->∀σ,CI S (k' σ))->CI S (Bu ty A c σ k)
 |.skip,σ,k,b,a=>HN a σ
 |.region _ r s,σ,k,b,a=>by
  have m:∀o∈r.toList,∀d,o.dst=BY d->d∈S:=λo m d g=>b d (bf g _ m)
  unfold Bu;split
  ·exact LU (λσ=>HN a σ) _ _ _ m
  ·split
   ·exact Un (LU (λσ=>HN a σ) _ _ _ m)
   ·exact Cn
 |.seq e i,σ,k,b,a=>by
  have h:∀d∈wrs e,d∈S:=λd g=>b d (xF _ g)
  have j:∀d∈wrs i,d∈S:=λd g=>b d (wz _ g)
  exact CX e (σ:=σ) (k:=BY λσ=>Bu ty A i σ k) h λk' f σ=>by cases f;exact CX i j a
 |.cond c e i,σ,k,b,a=>by
  have h:∀d∈wrs e,d∈S:=λd g=>b d (xF _ g)
  have j:∀d∈wrs i,d∈S:=λd g=>b d (wz _ g)
  unfold Bu;split
  ·split
   ·exact JX (CX e h λ_ f=>by cases f) (CX i j λ_ f=>by cases f)
   ·rename_i k'
    split
    ·exact Ow (JX (CX e h λ_ f=>by cases f) (CX i j λ_ f=>by cases f)) (a k' rfl [])
    ·exact JX (CX e h a) (CX i j a)
  ·exact Cn
 |.block id e,σ,k,b,a=>by
  have h:∀d∈wrs e,d∈S:=b;unfold Bu;split
  ·exact Lv (CX e h λ_ f=>by cases f)
  ·rename_i k'
   exact Ow (Lv (CX e h λ_ f=>by cases f)) (a k' rfl [])
 |.loop e,σ,k,b,a=>by
  have h:∀d∈wrs e,d∈S:=b;have j:CI S (Bu ty A e [] By):=CX e h λ_ f=>by cases f
  unfold Bu;split
  ·rename_i k a
   obtain⟨id,p,q,t,l⟩:=To a;have n:∀d∈k.ws,d∈S/\d<240:=λd g=>⟨h d (l.ws ▸ g),l.few d g⟩
   refine Up n (n _ ?_) (λd g=>n d (l.rs d g)) j;rw[l.ws,l.code];show _∈Jw [p,q]++_;simp[Jw,l.AGr,l.AG6]
  ·exact NQ j
 |.exit id,σ,k,b,a=>Um id
 |.ret,σ,k,b,a=>Yy
 |.scope e,σ,k,b,a=>CX e (σ:=σ) (k:=k) b a
 |.label _,σ,k,b,a=>HN a σ
 |.rangeFunc _ _ _ _,σ,k,b,a=>Cn
 |.goto _,σ,k,b,a=>Cn
 |.refuse _,σ,k,b,a=>Cn
end
structure Good (ty:TTy)(A:List Nat)(N:Nat)(φ:Phi)(h:Hp)(w:xG)(σ:Sg)(e:Env)(h':Hp)(ψ:Phi)(a:Act)(w':xG):Prop where
 sg:AFs A σ
 rel:AEZ ty ψ nil h' w'
 ar:AR N ψ (AEt A σ e) a
 evo:Evo φ h w ψ h' w'
section
variable {P:xU}{ty:TTy}{F:AES}{A:List Nat}{N:Nat}
theorem kS{σ:Sg}(a:AFs A σ){e:Env}{t:Nat}{u:vz}(h:AEt A [] e t=BY u):AEt A σ e t=BY u:=by
 rw[Er]at h ⊢;have h:(match memN t A with|true=>By|false=>match xQ t 240 with|true=>BY (J t e)|false=>By)=BY u:=h;cases b:Dl t σ with
 |some c=>
  have:=a.mem _ (E8 b);simp only at this;rw[this]at h;cases h
 |none=>exact h
theorem AR.nil{φ:Phi}{σ:Sg}{e:Env}{a:Act}(b:AFs A σ)(h:AR N φ (AEt A σ e) a):AR N φ (AEt A [] e) a:=⟨h.size,h.defs,λd f c=>h.rel d f (kS b c)⟩
theorem Good.nil{φ ψ:Phi}{h h':Hp}{w w':xG}{σ:Sg}{e:Env}{a:Act}(g:Good ty A N φ h w σ e h' ψ a w'):Good ty A N φ h w [] e h' ψ a w':=⟨.nil A,g.rel,g.ar.nil g.sg,g.evo⟩
theorem Good.trans{φ ψ χ:Phi}{h h' h2:Hp}{w w' w2:xG}{σ d:Sg}{e c:Env}{a b:Act}(g:Good ty A N φ h w σ e h' ψ a w')(g2:Good ty A N ψ h' w' d c h2 χ b w2):Good ty A N φ h w d c h2 χ b w2:=
 ⟨g2.sg,g2.rel,g2.ar,g.evo.trans g2.evo⟩
structure Post (ty:TTy)(A:List Nat)(N:Nat)(F:AES)(φ:Phi)(h:Hp)(w:xG)(k:Option (Sg->C))(X:X)(Q:ADc->Act->xG->Prop):Prop where
 go:∀k',k=BY k'->∀σ e h' ψ a' w',Good ty A N φ h w σ e h' ψ a' w'->k' σ F e h'=X->Q .normal a' w'
 norm:k=By->∀e h' ψ a' w',Good ty A N φ h w [] e h' ψ a' w'->X=.norm e h'->Q .normal a' w'
 exit:∀id e h' ψ a' w',Good ty A N φ h w [] e h' ψ a' w'->X=.exit id e h'->Q (.exit id) a' w'
 ret:∀e h' ψ a' w',Good ty A N φ h w [] e h' ψ a' w'->X=.ret e h'->Q .ret a' w'
theorem Post.then{φ:Phi}{h:Hp}{w:xG}{k:Option (Sg->C)}{X:X}{Q:ADc->Act->xG->Prop}(p:Post ty A N F φ h w k X Q){σ:Sg}{e:Env}{h':Hp}{ψ:Phi}{a':Act}{w':xG}(g:Good ty A N φ h w σ e h' ψ a' w')(a:L7 k σ F e h'=X):Q .normal a' w':=by
 cases k with
 |none=>exact p.norm rfl e h' ψ a' w' g.nil a.symm
 |some b=>exact p.go b rfl σ e h' ψ a' w' g a
theorem dC{w:xG}{pb mb clk:Nat}{seen:List Nat}{es:List xu}{t:TypeId}(h:w.heap[pb]? =BY (.mapIter (BY mb) clk ⟨seen⟩ clk))(o:w.heap[mb]? =BY (.map ⟨es⟩ clk))(l:∀x∈es,x.born<clk):
  ((∀x∈es,x.born∈seen)/\(yl (.pointer (BY ⟨pb,0,By⟩)) IS t).run P w=.ok (.tuple #[.bool IS]) w)\/
  ∃x∈es,x.born∉seen/\∃w1:xG,w1.heap=w.heap/\w1.tape=w.tape/\w1.os=w.os/\w1.output=w.output/\
   (yl (.pointer (BY ⟨pb,0,By⟩)) IS t).run P w=.ok (.tuple #[.bool IN,x.key,x.val]) {w1 with heap:=w1.heap.setIfInBounds pb (.mapIter (BY mb) clk ⟨seen++[x.born]⟩ clk)}:=by
 have s:(!(⟨seen⟩:Array Nat).isEmpty && !(⟨es⟩:Array xu).isEmpty && (⟨es⟩:Array xu).all (λc=>decide (c.born>=clk)))=IS:=by
  cases es with
  |nil=>simp
  |cons x H=>
   have:=l x wJ;simp[Nat.not_le.2 this]
 generalize g:es.filter (λc=> !seen.contains c.born)=left;have p:∀x∈left,x∈es/\x.born∉seen:=λx b=>by
  rw[<- g,wb]at b;exact⟨b.1,by simpa using b.2⟩
 have n:∀x∈left,x.born<clk:=λx b=>l x (p x b).1
 have i:(⟨es⟩:Array xu).filter (λc=> !(⟨seen⟩:Array Nat).contains c.born)=⟨left⟩:=by
  rw[<- g];apply yD;simp
 have j:(⟨left⟩:Array xu).filter (λc=>decide (c.born<clk))=⟨left⟩:=by
  apply yD;rw[ABE];exact List.filter_eq_self.2 λx b=>by simpa using n x b
 have f3:(⟨left⟩:Array xu).filter (λc=>decide (c.born>=clk))= #[]:=by
  apply yD;rw[ABE];exact List.filter_eq_nil_iff.2 λx b=>by simpa using n x b
 cases e:left with
 |nil=>
  left;refine⟨λx b=>?_,?_⟩
  ·by_cases r:x.born∈seen
   ·exact r
   ·have:x∈left:=by rw[<- g,wb];exact⟨b,by simpa using r⟩
    rw[e]at this;cases this
  ·subst e
   simp only[yl,wM,CH h rfl,wH,CH o rfl,s,xJ,if_false,i,j,f3];simp[run_choose,AAX]
 |cons I J=>
  right;have q:0<left.length:=by rw[e];simp
  have F:(⟨left⟩:Array xu).isEmpty=IS:=by rw[e];simp
  have key:∀(a:Nat) (d:a<left.length) (w1:xG),(choose (.mapNext left.length)).run P w=.ok a w1->w1.heap=w.heap->
    (yl (.pointer (BY ⟨pb,0,By⟩)) IS t).run P w=.ok (.tuple #[.bool IN,(left[a]).key,(left[a]).val]) {w1 with heap:=w1.heap.setIfInBounds pb (.mapIter (BY mb) clk ⟨seen++[(left[a]).born]⟩ clk)}:=by
   intro a d w1 f E;have A:((#[]:Array (Option xu))++((⟨left⟩:Array xu)++ #[]).map BY)[a]? =BY (BY left[a]):=by
    simp[wE d]
   have G:((#[]:Array (Option xu))++((⟨left⟩:Array xu)++ #[]).map BY).size=left.length:=by simp
   have y:=GA (P:=P) (w:=w1) (ob':=.mapIter (BY mb) clk ⟨seen++[(left[a]).born]⟩ clk) (by rw[E];exact h) rfl;simp only[yl,wM,CH h rfl,wH,CH o rfl,s,xJ,if_false,i,j,f3,F,G,f,A];have z:(⟨seen⟩:Array Nat).push (left[a]).born=⟨seen++[(left[a]).born]⟩:=by apply yD;simp
   rw[z,y];simp
  have u:∀(a:Nat) (d:a<left.length) (w1:xG),(choose (.mapNext left.length)).run P w=.ok a w1->w1.heap=w.heap->w1.tape=w.tape->w1.os=w.os->w1.output=w.output->
    ∃x∈es,x.born∉seen/\∃w1:xG,w1.heap=w.heap/\w1.tape=w.tape/\w1.os=w.os/\w1.output=w.output/\
     (yl (.pointer (BY ⟨pb,0,By⟩)) IS t).run P w=.ok (.tuple #[.bool IN,x.key,x.val]) {w1 with heap:=w1.heap.setIfInBounds pb (.mapIter (BY mb) clk ⟨seen++[x.born]⟩ clk)}:=by
   intro a d w1 f k B C D;have:=p left[a] (List.getElem_mem d);exact⟨left[a],this.1,this.2,w1,k,B,C,D,key a d w1 f k⟩
  by_cases m:left.length<=1
  ·exact u 0 q w (by rw[run_choose];simp[AAX,m]) rfl rfl rfl rfl
  ·exact u (w.tape w.drawn (.mapNext left.length) % left.length) (Nat.mod_lt _ q) {w with drawn:=w.drawn+1} (by rw[run_choose];simp[AAX,m,Question.cut]) rfl rfl rfl rfl
theorem Ku{o:zA}(h:o.guard=By)(f:Nat->Option Bool):ABA o f=IN:=by
 unfold ABA;rw[h]
theorem kQ(a:Act)(d:Nat)(v:vz)(t:Nat):(a.put (BY d) v).eval (.tmp t)=if d=t/\t<a.tmps.size then v else a.eval (.tmp t):=by
 show(a.put (BY d) v).tmps.getD t undef=_;rw[IW];by_cases b:d=t
 ·subst b;simp[Act.eval]
 ·rw[If (λc=>b (Option.some.inj c.1)),If (λc=>b c.1)];rfl
theorem Ze{k:Walk}{a0:AC3}{id:Nat}{o1 o2:zA}{r2:AC3}(W:AFv A a0 k id o1 o2 r2){a:Act}{w:xG}{pb mb clk:Nat}{seen:List Nat}{es:List xu}
  (hit:a.eval (.tmp k.it)=.pointer (BY ⟨pb,0,By⟩))(hnx:k.nx<a.tmps.size)(hw:w.heap[pb]? =BY (.mapIter (BY mb) clk ⟨seen⟩ clk))(hm:w.heap[mb]? =BY (.map ⟨es⟩ clk))(hb:∀x∈es,x.born<clk)
  {Q:ADc->Act->xG->Prop}(AIO:(∀x∈es,x.born∈seen)->Q .normal ((a.put (BY k.nx) (.tuple #[.bool IS])).put (BY k.more) (.bool IS)) w)
  (hgo:∀x∈es,x.born∉seen->∀w1:xG,w1.heap=w.heap.setIfInBounds pb (.mapIter (BY mb) clk ⟨seen++[x.born]⟩ clk)->w1.tape=w.tape->w1.os=w.os->w1.output=w.output->
   Q .normal ((a.put (BY k.nx) (.tuple #[.bool IN,x.key,x.val])).put (BY k.more) (.bool IN)) w1):
  (ACe id #[o1,o2] IS).wp P Q a w:=by
 refine wp_region_list ?_;have hx1:execOp a.eval o1=(do pure (.value (<- yl (a.eval (.tmp k.it)) IS o1.type))):=by unfold execOp;rw[W.op1]
 have two:∀(c:Bool) (vs:Array vz) (w1:xG),Q .normal ((a.put (BY k.nx) (.tuple (#[.bool c]++vs))).put (BY k.more) (.bool c)) w1->wpList P #[o1,o2] Q [o2] (a.put (BY k.nx) (.tuple (#[.bool c]++vs))) w1:=by
  intro c vs w1 hq;unfold wpList;rw[IT (Ku W.AIM _)];refine .inl ?_;have hx2:execOp (a.put (BY k.nx) (.tuple (#[.bool c]++vs))).eval o2=(do pure (.value (<- ABP ((a.put (BY k.nx) (.tuple (#[.bool c]++vs))).eval (.tmp k.nx)) 0))):=by unfold execOp;rw[W.op2]
  unfold Oper.wp;rw[hx2,kQ,IT ⟨rfl,hnx⟩];have hex:(ABP (.tuple (#[.bool c]++vs)) 0).run P w1=.ok (.bool c) w1:=by
   have h0:(#[Value.bool c]++vs)[0]? =BY (.bool c):=by simp[Array.getElem?_append]
   simp only[ABP,h0,wN]
  rw[wM,hex,wH,wN,AA5,W.AG6];exact hq
 show wpList P #[o1,o2] Q [o1,o2] a w;rw[show wpList P #[o1,o2] Q [o1,o2] a w=(if ABA o1 (yielded #[o1,o2] a.tmps)then o1.wp P a w (wpList P #[o1,o2] Q [o2]) Q\/(o1.asks P a w/\LetsOut Q)else wpList P #[o1,o2] Q [o2] (a.put o1.dst undef) w)from rfl];rw[IT (Ku W.AIL _)];refine .inl ?_;unfold Oper.wp;rw[hx1,hit];rcases dC (P:=P) (t:=o1.type) hw hm hb with ⟨hall,hrun⟩|⟨x,hx,hns,w1,e1,e2,e3,e4,hrun⟩
 ·rw[wM,hrun,wH,wN,AA5,W.AGr]
  exact two IS #[] w (AIO hall)
 ·rw[wM,hrun,wH,wN,AA5,W.AGr]
  exact two IN #[x.key,x.val] _ (hgo x hx hns _ (by rw[e1]) e2 e3 e4)
theorem Jl{φ:Phi}{e:Env}{a:Act}:AR N φ (AEt A [] e) a↔a.tmps.size=N/\a.defers=[]/\∀t,t<240->memN t A=IS->AEX φ (e.get t) (a.tmps.getD t undef):=by
 have f:∀t b,AEt A [] e t=BY b↔(memN t A=IS/\t<240/\e.get t=b):=λt b=>by
  rw[Er];show(match memN t A with|true=>By|false=>match xQ t 240 with|true=>BY (J t e)|false=>By)=BY b↔_;cases memN t A with
  |true=>simp
  |false=>
   cases d:xQ t 240 with
   |true=>
    have:=BM.1 d;simp only[DD t this,Option.some.injEq,true_and,this]
   |false=>
    have:¬t<240:=λc=>by rw[BM.2 c]at d;cases d
    simp[this]
 constructor
 ·exact λc=>⟨c.size,c.defs,λt k j=>c.rel t _ ((f t _).2 ⟨j,k,rfl⟩)⟩
 ·exact λ⟨g,h,i⟩=>⟨g,h,λt b l=>by obtain⟨m,n,rfl⟩:=(f t b).1 l;exact i t n m⟩
theorem JR:∀(l:List Nat) (e:Env) (t:Nat),(∀d∈l,d<240)->t<240->(C6 e l).get t=if t∈l then .chan By else e.get t
 |[],e,t,_,_=>by simp[C6]
 |d::l,e,t,c,f=>by
  unfold C6;rw[JR l _ t (λd g=>c d (wI _ g)) f,Env.AEm _ _ _ _ (c d wJ) f];by_cases a:t∈l
  ·simp[a]
  ·by_cases b:t=d
   ·simp[a,b]
   ·simp[a,b]
theorem Jf{clk:Nat}:∀{es:List Ent} {lo:Nat},Fl clk lo es=IN->∀x∈es,lo<=x.born/\x.born<clk
 |e::f,lo,a,x,hx=>by
  unfold Fl at a;obtain⟨b,a⟩:=FP a;obtain⟨c,a⟩:=FP a;have b:=Am.1 b;have c:=BM.1 c;rcases wS.1 hx with rfl|hx
  ·exact⟨b,c⟩
  ·have:=Jf a x hx
   have d:e.born+1<=x.born:=this.1;exact⟨by omega,this.2⟩
theorem QZ{φ:Phi}:∀{es:List Ent} {a:List xu} {x':xu},AFX φ es a->x'∈a->∃x∈es,x.born=x'.born
 |_,_,x',.cons (k:=k) (v:=v) (b:=b) f g e,hx=>by
  rcases wS.1 hx with rfl|hx
  ·exact⟨⟨k,v,b⟩,wJ,rfl⟩
  ·obtain⟨x,c,d⟩:=QZ e hx
   exact⟨x,wI _ c,d⟩
theorem S9{φ:Phi}{clk:Nat}:∀{es:List Ent} {d:List xu} {lo:Nat} {x':xu},AFX φ es d->Fl clk lo es=IN->x'∈d->∃x,Gq x'.born es=BY x/\AEX φ x.key x'.key/\AEX φ x.val x'.val
 |_,_,lo,x',.cons (k:=k) (v:=v) (b:=b) (l:=l) g h e,a,hx=>by
  unfold Gq;rcases wS.1 hx with rfl|hx
  ·rw[yG];exact⟨_,rfl,g,h⟩
  ·unfold Fl at a
   obtain⟨_,a⟩:=FP a;obtain⟨_,a⟩:=FP a;obtain⟨f,i,m⟩:=QZ e hx;have j:b+1<=f.born:=(Jf a f i).1;have c:wU b x'.born=IS:=by
    cases c:wU b x'.born with
    |false=>rfl
    |true=>have:=Ax.1 c;omega
   rw[c];exact S9 e a hx
theorem fd{k:Walk}{h:AC3}{id:Nat}{c d:zA}{e:AC3}(a:AFv A h k id c d e):
  Bu ty A h [] By=Tu (Ff k.nx) (Hq (J k.it)) (Tu (Ff k.more) (AW 0 (J k.nx)) (Bu ty A (.seq (.cond (.tmp k.more) .skip (.exit k.out)) e) [] By)):=by
 have i:∀b,memN b A=IS->b<240->cO ⟨A,[]⟩ (.tmp b)=BY (J b):=λb m n=>by
  show(match Qe A [] (.tmp b)with|some f=>BY (MH f)|none=>By)=_;show(match (match memN b A with|true=>By|false=>match xQ b 240 with|true=>BY (Src.s b)|false=>By)with|some f=>BY (MH f)|none=>By)=_;rw[m,BM.2 n];rfl
 rw[a.code];show Bu ty A (.region id #[c,d] IS) [] (BY λg=>Bu ty A (.seq (.cond (.tmp k.more) .skip (.exit k.out)) e) g By)=_;show HU ty A [c,d] (L7 (BY λg=>Bu ty A (.seq (.cond (.tmp k.more) .skip (.exit k.out)) e) g By)) [] [c,d] []=_;unfold HU;rw[a.AIL,a.AGr];simp only[a.nxA,BM.2 a.nxL];unfold HU;rw[a.AIM,a.AG6];simp only[a.moA,BM.2 a.moL];have j:opC ty ⟨A,[]⟩ c.op=Hq (J k.it):=by
  rw[a.op1];show w1 ⟨A,[]⟩ (.tmp k.it) (λo=>Hq o)=_;unfold w1;rw[i _ a.itA a.itL]
 have l:opC ty ⟨A,GM k.nx []⟩ d.op=AW 0 (J k.nx):=by
  rw[a.op2];show w1 ⟨A,[]⟩ (.tmp k.nx) (λb=>AW 0 b)=_;unfold w1;rw[i _ a.nxA a.nxL]
 rw[j,l];rfl
theorem aN{t:(Env->X)->vz->Env->X}{f:OpF}{k:C}{e:Env}{h h':Hp}{v:vz}(a:f F e h=.ok v h'):Tu t f k F e h=t (λe=>k F e h') v e:=by
 unfold Tu;rw[a]
theorem nV{t:(Env->X)->vz->Env->X}{f:OpF}{k:C}{e:Env}{h:Hp}(a:f F e h=.no):Tu t f k F e h=.no:=by
 unfold Tu;rw[a]
theorem kM{k:Walk}{l:AC3}{id:Nat}{D E:zA}{p:AC3}(d:AFv A l k id D E p){e:Env}{h:Hp}{a:AAG}{m s f c lo hi mk:Nat}{es:List Ent}{x:Ent}{bl:BT}{g:Option (List Nat)}{Y:Go.Proofs.YtldjiljipddebaaGreat.X}
  (t:J k.it e=.pointer (BY a))(B:wU a.off 0=IN)(u:Bi h m=.ok es c)(w:m≠a.block)(C:Gq s es=BY x)(n:h.bl.set a.block (.pick m s f g)=BY bl)
  (j:Bu ty A l [] By F e {next:=h.next,low:=lo,high:=hi,mark:=mk,bl:=bl}=Y)(z:Y≠.no):
  ∃b,bl.set a.block (Np m s f g)=BY b/\
   Bu ty A (.seq (.cond (.tmp k.more) .skip (.exit k.out)) p) [] By F (Env.set k.more (.bool IN) (Env.set k.nx (.tuple ⟨[.bool IN,x.key,x.val]⟩) e)) {next:=h.next,low:=lo,high:=hi,mark:=mk,bl:=b}=Y:=by
 rw[fd d]at j;have q:bl.get a.block=.pick m s f g:=by rw[BT.AEm _ _ _ _ n,IT rfl]
 have y:Bi ({next:=h.next,low:=lo,high:=hi,mark:=mk,bl:=bl}:Hp) m=.ok es c:=by
  show iZ (bl.get m)=_;rw[BT.AEm _ _ _ _ n,If w];exact u
 have i:Hq (J k.it) F e {next:=h.next,low:=lo,high:=hi,mark:=mk,bl:=bl}=match bl.set a.block (Np m s f g)with
   |some b=>.ok (.tuple ⟨[.bool IN,x.key,x.val]⟩) {next:=h.next,low:=lo,high:=hi,mark:=mk,bl:=b}
   |none=>.no:=by
  unfold Hq;rw[t];show(bif wU a.off 0 then Gz a _ else .no)=_;rw[B];show Gz a _=_;unfold Gz;simp only;rw[q];show(match Bi ({next:=h.next,low:=lo,high:=hi,mark:=mk,bl:=bl}:Hp) m with|.ok es _=>_|.no=>_)=_;rw[y];simp only[C];cases bl.set a.block (Np m s f g)<;>rfl
 cases o:bl.set a.block (Np m s f g)with
 |none=>
  rw[o]at i;rw[nV i]at j;exact absurd j.symm z
 |some b=>
  refine⟨b,rfl,?_⟩;rw[o]at i;rw[<- j];have r:AW 0 (J k.nx) F (Env.set k.nx (.tuple ⟨[.bool IN,x.key,x.val]⟩) e) {next:=h.next,low:=lo,high:=hi,mark:=mk,bl:=b}=.ok (.bool IN) {next:=h.next,low:=lo,high:=hi,mark:=mk,bl:=b}:=by
   unfold AW;rw[DD _ d.nxL,Env.AEm _ _ _ _ d.nxL d.nxL,IT rfl];rfl
  symm
  rw[aN i,EN _ d.nxL,aN r,EN _ d.moL]
structure Rd (A:List Nat)(N:Nat)(φ:Phi)(ws:List Nat)(e:Env)(w:xG)(pb qb c:Nat)(seen:List Nat)(ak:Act)(wk:xG):Prop where
 size:ak.tmps.size=N
 defs:ak.defers=[]
 slots:∀t,t<240->memN t A=IS->t∉ws->AEX φ (e.get t) (ak.tmps.getD t undef)
 grow:w.heap.size<=wk.heap.size
 same:∀j,j<w.heap.size->j≠pb->wk.heap[j]? =w.heap[j]?
 tape:wk.tape=w.tape
 os:wk.os=w.os
 output:wk.output=w.output
 iter:wk.heap[pb]? =BY (.mapIter (BY qb) c ⟨seen⟩ c)
theorem TA{φ:Phi}:∀{es:List Ent} {a:List xu} {x:Ent},AFX φ es a->x∈es->∃x'∈a,x'.born=x.born
 |_,_,x,.cons (k':=e) (v':=v) (b:=b) g h f,hx=>by
  rcases wS.1 hx with rfl|hx
  ·exact⟨⟨e,v,b⟩,wJ,rfl⟩
  ·obtain⟨x,c,d⟩:=TA f hx
   exact⟨x,wI _ c,d⟩
theorem LL{n:Nat}:∀{es:List Ent} {x:Ent},Gq n es=BY x->x∈es/\x.born=n
 |y::e,x,a=>by
  unfold Gq at a;cases b:wU y.born n with
  |true=>rw[b]at a;cases a;exact⟨wJ,Ax.1 b⟩
  |false=>
   rw[b]at a;obtain⟨c,d⟩:=LL a;exact⟨wI _ c,d⟩
theorem sx{b:Bool}{Y X:Go.Proofs.YtldjiljipddebaaGreat.X}(h:(bif b then Y else .no)=X)(a:X≠.no):b=IN/\Y=X:=by
 cases b with
 |false=>exact absurd h.symm a
 |true=>exact⟨rfl,h⟩
theorem TG{seen:List Nat}:∀{es:List Ent},(∀x∈es,x.born∈seen)->AE2 seen es=[]
 |[],_=>rfl
 |x::d,a=>by
  unfold AE2;rw[MT,show seen.contains x.born=IN by simpa using a x wJ];exact TG λc b=>a c (wI _ b)
theorem Nw{seen:List Nat}:∀{es:List Ent} {x:Ent},x∈es->x.born∉seen->x∈AE2 seen es
 |y::c,x,hx,a=>by
  unfold AE2;rcases wS.1 hx with rfl|hx
  ·rw[MT,show seen.contains x.born=IS by simpa using a]
   exact wJ
  ·have b:=Nw hx a
   cases GG y.born seen with
   |true=>exact b
   |false=>exact wI _ b
theorem Mo{f:Ent->Bool}:∀{l:List Ent},Qv f l=IN->∀x∈l,f x=IN
 |[],_,x,hx=>by cases hx
 |y::l,a,x,hx=>by
  obtain⟨b,c⟩:=FP a;rcases wS.1 hx with rfl|hx
  ·exact b
  ·exact Mo c x hx
theorem AEZ.one{φ:Phi}{h:Hp}{w w':xG}{b:Nat}{pb:Pl}{o:Blk}{bl:BT}(H:AEZ ty φ nil h w)(l:φ b=BY pb)(hin:pb.inp=IS)(m:Live h b)(k:∀i,bl.get i=if i=b then o else h.bl.get i)
  (A:w.heap.size<=w'.heap.size)(B:∀j,j<w.heap.size->j≠pb.blk->w'.heap[j]? =w.heap[j]?)(q:AFT ty φ pb o w'.heap[pb.blk]?)(x:∀f s g,o≠.cells f s g)(lo hi mk:Nat):
  AEZ ty φ nil {next:=h.next,low:=lo,high:=hi,mark:=mk,bl:=bl} w' where
 dom:=λi c a=>⟨(H.dom i c a).1,xr (H.dom i c a).2 A⟩
 inj:=λi j c C a z _ _ hi u t y=>by
  have p:∀i,bl.get i≠.dead->Live h i:=λi hi=>by
   by_cases d:i=b
   ·rw[d];exact m
   ·rw[k,If d]at hi;exact hi
  exact H.inj i j c C a z (λh=>h) (λh=>h) (p i hi) (p j u) t y
 row:=λi c a _=>by
  show AFT ty φ c (bl.get i) _;rw[k];by_cases d:i=b
  ·rw[IT d]
   subst d;rw[l]at a;cases a;exact q
  ·rw[If d]
   by_cases n:h.bl.get i=.dead
   ·rw[n];exact .dead
   ·rw[B c.blk (H.dom i c a).2 (λr=>d (H.inj i b c pb a l (λh=>h) (λh=>h) n m (.inr hin) r))]
    exact H.row i c a (λh=>h)
 fresh:=λi hi=>by
  have hi:h.next<=i:=hi;show bl.get i=_;have:=(H.dom _ _ l).1;rw[k,If (by omega)];exact H.fresh i hi
 kind:=λi c f s g a e=>by
  have e:bl.get i=.cells f s g:=e;rw[k]at e;by_cases d:i=b
  ·rw[IT d]at e;exact absurd e (x _ _ _)
  ·rw[If d]at e;exact H.kind i c f s g a e
 inp:=H.inp
theorem Evo.one{φ:Phi}{h:Hp}{w w':xG}{b:Nat}{pb:Pl}{o:Blk}{bl:BT}(l:φ b=BY pb)(hin:pb.inp=IS)(g:Live h b)(c:∀i,bl.get i=if i=b then o else h.bl.get i)
  (y:w.heap.size<=w'.heap.size)(z:∀j,j<w.heap.size->j≠pb.blk->w'.heap[j]? =w.heap[j]?)(A:w'.tape=w.tape)(t:w'.os=w.os)(u:w'.output=w.output)(s:AEo (h.bl.get b) o)(mk:Nat):
  Evo φ h w φ {next:=h.next,low:=B9 h.low b,high:=Cu h.high b,mark:=mk,bl:=bl} w' where
 le:=.refl φ
 new:=λ_ _ e=>.inl e
 next:=wB _
 size:=y
 tape:=A
 os:=t
 output:=u
 frame:=λj q p=>z j q λr=>p b pb l hin (by show B9 _ _<=_;rw[BV];exact Nat.min_le_right _ _) (by show _<=Cu _ _;rw[Bz];exact AAz _ _) g r.symm
 back:=λi B x d _=>by
  refine⟨i,B,x,?_,rfl,rfl,.inl rfl⟩;by_cases a:i=b
  ·rw[a];exact g
  ·have d:bl.get i≠.dead:=d
   rw[c,If a]at d;exact d
 kept:=λi _ f=>by
  show bl.get i=_;have f:i<B9 h.low b\/Cu h.high b<i:=f;rw[BV,Bz]at f;rw[c,If (by omega)]
 low:=by show B9 _ _<=_;rw[BV];exact AAJ _ _
 high:=by show _<=Cu _ _;rw[Bz];exact ACK _ _
 shape:=λi _=>by
  show AEo _ (bl.get i);rw[c];by_cases a:i=b
  ·rw[IT a,a];exact s
  ·rw[If a];exact .refl _
 only:=λi _ k=>by
  show bl.get i=_;rw[c,If (λe=>by rw[e,l]at k;cases k)]
 all:=λ_ m n=>absurd n (AAg.2 m)
theorem ib{k:Walk}{a0:AC3}{id:Nat}{o1 o2:zA}{r2:AC3}(W:AFv A a0 k id o1 o2 r2)(hd:k.nx<N/\k.more<N)
  (ih:∀{e:Env} {h:Hp} {X:Go.Proofs.YtldjiljipddebaaGreat.X},Bu ty A (.seq (.cond (.tmp k.more) .skip (.exit k.out)) r2) [] By F e h=X->X≠.no->∀(φ:Phi) (w:xG) (a:Act),AEZ ty φ nil h w->AR N φ (AEt A [] e) a->∀(Q:ADc->Act->xG->Prop),Post ty A N F φ h w By X Q->(AB6 (.cond (.tmp k.more) .skip (.exit k.out)) r2).wp P Q a w)
  {e:Env}{ad:AAG}(hit:J k.it e=.pointer (BY ad))(hoff:wU ad.off 0=IN)(AEd:256<=ad.block){φ0:Phi}{hr:Hp}{w0:xG}{a:Act}(AFw:∀t,t<240->memN t A=IS->AEX φ0 (e.get t) (a.tmps.getD t undef))
  {fin:Hp->Rds->Bool}{Q:ADc->Act->xG->Prop}
  (AJ9:∀(hk:Hp) (tr:Rds) (φk:Phi) (wk:xG),AEZ ty φk nil hk wk->Evo φ0 hr w0 φk hk wk->(∃pb,φk ad.block=BY pb)->Live hk ad.block->fin hk tr=IN->∀ak:Act,ak.tmps.size=N->ak.defers=[]->
   (∀t,t<240->memN t A=IS->t∉k.ws->AEX φ0 (e.get t) (ak.tmps.getD t undef))->ak.tmps.getD k.more undef=.bool IS->Q (.exit k.out) ak wk):
  ∀(n:Nat) (hk:Hp) (tr:Rds) (φk:Phi) (wk:xG) (ak:Act),AEZ ty φk nil hk wk->Evo φ0 hr w0 φk hk wk->ak.tmps.size=N->ak.defers=[]->
   (∀t,t<240->memN t A=IS->t∉k.ws->AEX φ0 (e.get t) (ak.tmps.getD t undef))->Lp k (Bu ty A a0 [] By) F e ad.block fin n hk tr=IN->ABf P a0 Q n ak wk:=by
 intro n
 induction n with
 |zero=>intro hk tr φk wk ak _ _ _ _ _ hx;cases hx
 |succ n ihn=>
 intro hk tr φk wk ak H E hsz hdf hsl hx;unfold Lp Ok at hx;cases AGR:Ei (hk.bl.get ad.block)with
 |no=>rw[AGR]at hx;cases hx
 |cur _ _ _=>rw[AGR]at hx;cases hx
 |pick _ _ _ _=>rw[AGR]at hx;cases hx
 |ok m' since seen last=>
 rw[AGR]at hx;cases m' with
 |none=>cases hx
 |some m=>
 simp only at hx;cases AGS:Bi hk m with
 |no=>rw[AGS]at hx;cases hx
 |ok es c=>
 rw[AGS]at hx;simp only at hx;obtain⟨AHH,hx1⟩:=FP hx;obtain⟨AI9,hx2⟩:=FP hx1;obtain⟨hris,hx3⟩:=FP hx2;clear hx hx1 hx2;have hcs:=Ax.1 AHH;have hcl:=Ax.1 AI9;clear AHH AI9;subst hcs;subst hcl;have hx:=hx3;clear hx3;have hbi:=Iu AGR;have AHY:=AFw k.it W.itL W.itA;rw[<- DD k.it W.itL,hit]at AHY;obtain⟨ad',AKA,hra⟩:=AHY.AFb;obtain⟨pb,AHv,rfl⟩:=hra.eq;have hpb:=E.le _ _ AHv;have AIP:ad.off=0:=Ax.1 hoff;have hrow:=H.row ad.block pb hpb (λh=>h);rw[hbi]at hrow;obtain⟨q,hp0,hq,hwi⟩:∃q,pb.off=0/\φk m=BY q/\wk.heap[pb.blk]? =BY (.mapIter (BY q.blk) c ⟨seen⟩ c):=by
  generalize wk.heap[pb.blk]? =ob at hrow;cases hrow with
  |iter h1 h2=>exact⟨_,h1,h2,rfl⟩
 obtain⟨es',hwm,AE4⟩:=H.AFm hq (λh=>h) AGS;have hmb:m≠ad.block:=λh=>by
  have:=Iq AGS;rw[h,hbi]at this;cases this
 have hin:=H.AFZ hpb AEd;have AFK:Live hk ad.block:=by unfold Live;rw[hbi];intro h;cases h
 have AKB:=(H.dom _ _ hpb).2;have AIQ:∀x∈es',x.born<c:=λx hx=>by
  obtain⟨y,hy,he⟩:=QZ AE4 hx;rw[<- he];exact(Jf hris y hy).2
 have hkeep:CI k.ws (Bu ty A (.seq (.cond (.tmp k.more) .skip (.exit k.out)) r2) [] By):=CX _ (λd hd=>by
  rw[W.ws,W.code];exact wz _ hd) (λ_ h=>by cases h)
 have AJA:k.nx∈k.ws:=by rw[W.ws,W.code];show _∈Jw [o1,o2]++_;simp[Jw,W.AGr,W.AG6]
 have AJB:k.more∈k.ws:=by rw[W.ws,W.code];show _∈Jw [o1,o2]++_;simp[Jw,W.AGr,W.AG6]
 have hcg:∀t,t<240->(C6 e k.ws).get t=if t∈k.ws then .chan By else e.get t:=λt ht=>JR _ _ _ W.few ht
 have AF6:∀{ψ:Phi} {v v' v'':vz},φ0.Le ψ->AEX ψ v v'->AEX φ0 v v''->AEX φ0 v v':=λ{ψ v v' v''} hle h1 h2=>AEX.cut (χ:=φ0) (λb p hp ⟨q,hq⟩=>by
  have:=hle b q hq;rw[hp]at this;cases this;exact hq) h1 h2
 have AIR:ak.eval (.tmp k.it)=.pointer (BY ⟨pb.blk,0,By⟩):=by
  have h1:=hsl k.it W.itL W.itA W.itW;rw[<- DD k.it W.itL,hit]at h1;obtain⟨a2,ha2,hr2⟩:=h1.AFb;obtain⟨p2,hp2,rfl⟩:=hr2.eq;rw[AHv]at hp2;cases hp2;show ak.tmps.getD k.it undef=_;rw[ha2,hp0,AIP]
 have AHw:∀(v1 v2:vz) (t:Nat),t<240->((ak.put (BY k.nx) v1).put (BY k.more) v2).tmps.getD t undef=if t=k.more then v2 else if t=k.nx then v1 else ak.tmps.getD t undef:=λv1 v2 t ht=>by
  rw[IW,F8,IW];by_cases h1:t=k.more
  ·rw[IT ⟨by rw[h1],by rw[h1,hsz];exact hd.2⟩,IT h1]
  ·rw[If (λh=>h1 (Option.some.inj h.1).symm),If h1]
   by_cases h2:t=k.nx
   ·rw[IT ⟨by rw[h2],by rw[h2,hsz];exact hd.1⟩,IT h2]
   ·rw[If (λh=>h2 (Option.some.inj h.1).symm),If h2]
 show a0.wp P (Exit.then (ABf P a0 Q n) Q) ak wk;generalize hK:ABf P a0 Q n=K;rw[W.code];refine wp_seq (Ze W (pb:=pb.blk) (mb:=q.blk) (clk:=c) (seen:=seen) (es:=es') AIR (by rw[hsz];exact hd.1) hwi hwm AIQ (λhall=>?_) (λx' hx' hns w1 e1 e2' e3 e4=>?_))
 ·
  show(AB6 (.cond (.tmp k.more) .skip (.exit k.out)) r2).wp P (Exit.then K Q) ((ak.put (BY k.nx) (.tuple #[.bool IS])).put (BY k.more) (.bool IS)) wk;refine wp_seq (wp_cond_false ?_ (wp_exit ?_))
  ·show((ak.put (BY k.nx) (.tuple #[.bool IS])).put (BY k.more) (.bool IS)).tmps.getD k.more undef=_
   rw[AHw _ _ _ W.moL,IT rfl]
  ·show Q (.exit k.out) ((ak.put (BY k.nx) (.tuple #[.bool IS])).put (BY k.more) (.bool IS)) wk
   rw[TG (es:=es) λx hx=>by
    obtain⟨x',hx',he⟩:=TA AE4 hx;rw[<- he];exact hall x' hx']at hx
   refine AJ9 hk tr φk wk H E ⟨_,hpb⟩ AFK hx _ (by rw[F8,F8];exact hsz) (by rw[G3,G3];exact hdf) (λt ht hA hw=>?_) (by rw[AHw _ _ _ W.moL,IT rfl]);rw[AHw _ _ _ ht,If (λh:t=k.more=>hw (h ▸ AJB)),If (λh:t=k.nx=>hw (h ▸ AJA))];exact hsl t ht hA hw
 ·
  show(AB6 (.cond (.tmp k.more) .skip (.exit k.out)) r2).wp P (Exit.then K Q) ((ak.put (BY k.nx) (.tuple #[.bool IN,x'.key,x'.val])).put (BY k.more) (.bool IN)) w1;obtain⟨x,hfx,hkr,hvr⟩:=S9 AE4 hris hx';obtain⟨hxm,hxb⟩:=LL hfx;have hmem:=Nw hxm (by rw[hxb];exact hns);generalize AF4:AE2 seen es=rest at hx hmem;cases rest with
  |nil=>cases hmem
  |cons y l=>
  have hx:=Mo hx x hmem;unfold PO at hx;cases hbl:hk.bl.set ad.block (.pick m x.born c (BY seen))with
  |none=>rw[hbl]at hx;cases hx
  |some bl=>
  rw[hbl]at hx;simp only at hx;have AKC:J k.it (C6 e k.ws)=.pointer (BY ad):=by
   rw[DD _ W.itL,hcg _ W.itL,If W.itW,<- DD _ W.itL];exact hit
  generalize hY:Bu ty A a0 [] By F (C6 e k.ws) {next:=hk.next,low:=B9 hk.low ad.block,high:=Cu hk.high ad.block,mark:=hk.mark,bl:=bl}=Y at hx;cases Y with
  |no=>cases hx
  |exit _ _ _=>cases hx
  |ret _ _=>cases hx
  |norm e1' h1'=>
  simp only at hx;obtain⟨bl',AIS,hB⟩:=kM W (x:=x) (s:=x.born) AKC hoff AGS hmb (by rw[hxb];exact hfx) hbl hY (λh=>by cases h);have AIS:bl.set ad.block (.iter (BY m) c (KV x.born seen) c)=BY bl':=AIS;have AJC:∀i,bl'.get i=if i=ad.block then .iter (BY m) c (KV x.born seen) c else hk.bl.get i:=λi=>by
   rw[BT.AEm _ _ _ _ AIS,BT.AEm _ _ _ _ hbl];split<;>rfl
  have AJD:w1.heap.size=wk.heap.size:=by rw[e1];simp
  have AKD:w1.heap[pb.blk]? =BY (.mapIter (BY q.blk) c ⟨seen++[x'.born]⟩ c):=by
   rw[e1,yQ,IT rfl,IT AKB]
  have AJE:∀j,j<wk.heap.size->j≠pb.blk->w1.heap[j]? =wk.heap[j]?:=λj hj hjp=>by
   rw[e1,yQ,If (λh=>hjp h.symm)]
  have HR:=H.one hpb hin AFK AJC (AAu AJD.symm) AJE (by rw[AKD,Nu,hxb];exact .iter hp0 hq) (λ_ _ _ h=>by cases h) (B9 hk.low ad.block) (Cu hk.high ad.block) hk.mark;have E1:=Evo.one (w':=w1) hpb hin AFK AJC (AAu AJD.symm) AJE e2' e3 e4 (by rw[hbi];exact .inr trivial) hk.mark;have HAR:AR N φk (AEt A [] (Env.set k.more (.bool IN) (Env.set k.nx (.tuple ⟨[.bool IN,x.key,x.val]⟩) (C6 e k.ws)))) ((ak.put (BY k.nx) (.tuple #[.bool IN,x'.key,x'.val])).put (BY k.more) (.bool IN)):=by
   refine Jl.2 ⟨by rw[F8,F8];exact hsz,by rw[G3,G3];exact hdf,λt ht hA=>?_⟩;rw[AHw _ _ _ ht,Env.AEm _ _ _ _ W.moL ht,Env.AEm _ _ _ _ W.nxL ht,hcg t ht];by_cases q1:t=k.more
   ·rw[IT q1,IT q1];exact .bool _
   ·rw[If q1,If q1]
    by_cases q2:t=k.nx
    ·rw[IT q2,IT q2];exact .tuple (.cons (.bool _) (.cons hkr (.cons hvr .nil)))
    ·rw[If q2,If q2]
     by_cases q3:t∈k.ws
     ·rw[IT q3];exact .unk
     ·rw[If q3];exact(hsl t ht hA q3).mono E.le
  refine ih hB (λh=>by cases h) φk w1 _ HR HAR _ {go:=(λ_ h=>by cases h),norm:=λ_ e2 h2 ψ a2 w2 g hx2=>?_,exit:=(λi e2 h2 ψ a2 w2 g hx2=>by cases hx2),ret:=(λe2 h2 ψ a2 w2 g hx2=>by cases hx2)};cases hx2;obtain⟨g1,g2,g3⟩:=Jl.1 g.ar;have hag:=hkeep F (Env.set k.more (.bool IN) (Env.set k.nx (.tuple ⟨[.bool IN,x.key,x.val]⟩) (C6 e k.ws))) {next:=hk.next,low:=B9 hk.low ad.block,high:=Cu hk.high ad.block,mark:=hk.mark,bl:=bl'};rw[hB]at hag;have hag:Ag k.ws (Env.set k.more (.bool IN) (Env.set k.nx (.tuple ⟨[.bool IN,x.key,x.val]⟩) (C6 e k.ws))) e1':=hag;have E2:=(E.trans E1).trans g.evo;show K a2 w2;rw[<- hK];refine ihn h1' _ ψ w2 a2 g.rel E2 g1 g2 (λt ht hA hw=>?_) hx;have q1:=g3 t ht hA;rw[hag t ht hw,Env.AEm _ _ _ _ W.moL ht,If (λh:t=k.more=>hw (h ▸ AJB)),Env.AEm _ _ _ _ W.nxL ht,If (λh:t=k.nx=>hw (h ▸ AJA)),hcg t ht,If hw]at q1;exact AF6 E2.le q1 (AFw t ht hA)
theorem iY{b e:Nat}{r d:Hp}{tr:Rds}:Yk b e r d tr=IN↔bh b e r d:=by
 unfold Yk;split
 ·rename_i c _;exact⟨λ_=>c,λ_=>rfl⟩
 ·rename_i c _;exact⟨λa=>(by cases a),λa=>absurd a c⟩
theorem AEZ.AIT{φ:Phi}{h:Hp}{w:xG}{bl:BT}{b q:Nat}(H:AEZ ty φ nil h w)(e:∀i,bl.get i=if i=b\/q<=i then .dead else h.bl.get i)(lo hi mk:Nat):
  AEZ ty φ nil {next:=h.next,low:=lo,high:=hi,mark:=mk,bl:=bl} w where
 dom:=H.dom
 inj:=λi j c r d p _ _ hi n m o=>by
  have k:∀i,bl.get i≠.dead->Live h i:=λi hi=>by
   rw[e]at hi;split at hi
   ·exact absurd rfl hi
   ·exact hi
  exact H.inj i j c r d p (λh=>h) (λh=>h) (k i hi) (k j n) m o
 row:=λi c d _=>by
  show AFT ty φ c (bl.get i) _;rw[e];split
  ·exact .dead
  ·exact H.row i c d (λh=>h)
 fresh:=λi hi=>by
  have hi:h.next<=i:=hi;show bl.get i=_;rw[e];split
  ·rfl
  ·exact H.fresh i hi
 kind:=λi c f l g d a=>by
  have a:bl.get i=.cells f l g:=a;rw[e]at a;split at a
  ·cases a
  ·exact H.kind i c f l g d a
 inp:=H.inp
theorem Evo.join{φ ψ:Phi}{h r hk:Hp}{w s:xG}{b:Nat}{pb:Pl}(a:Evo φ {next:=h.next,low:=h.next,high:=0,mark:=h.mark,bl:=h.bl} w ψ hk s)(D:φ b=BY pb)
  (J:hk.next=r.next)(o:r.low<=B9 hk.low b)(p:Cu hk.high b<=r.high)(g:∀i,r.bl.get i=if i=b\/h.next<=i then .dead else hk.bl.get i):Evo φ h w ψ (lz h r) s where
 le:=a.le
 new:=a.new
 next:=by
  have d:h.next<=hk.next:=a.next;show h.next<=r.next;omega
 size:=a.size
 tape:=a.tape
 os:=a.os
 output:=a.output
 frame:=λF A z=>a.frame F A λi n j B c I E=>z i n j B (by
  rw[BV]at o;show B9 h.low r.low<=i;rw[BV];omega) (by
  rw[Bz]at p;show i<=Cu h.high r.high;rw[Bz];omega) E
 back:=λi n j c C=>by
  have c:r.bl.get i≠.dead:=c;rw[g]at c;split at c
  ·exact absurd rfl c
  obtain⟨m,G,t,u,x,y,f⟩:=a.back i n j c C;refine⟨m,G,t,u,x,y,?_⟩;rw[BV]at o;rw[Bz]at p;rcases f with f|⟨f,H⟩
  ·exact .inl f
  ·refine .inr ⟨?_,?_⟩
   ·show B9 h.low r.low<=m
    rw[BV];omega
   ·show m<=Cu h.high r.high
    rw[Bz];omega
 kept:=λi e l=>by
  have l:i<B9 h.low r.low\/Cu h.high r.high<i:=l;rw[BV,Bz]at l;rw[BV]at o;rw[Bz]at p;show r.bl.get i=_;rw[g,If (by omega)];exact a.kept i e (by omega)
 low:=by show B9 _ _<=_;rw[BV];exact AAJ _ _
 high:=by show _<=Cu _ _;rw[Bz];exact ACK _ _
 shape:=λi e=>by
  show AEo _ (r.bl.get i);rw[g];split
  ·exact .inl rfl
  ·exact a.shape i e
 only:=λi e k=>by
  show r.bl.get i=_;rw[g,If (by
   rintro (d|d)
   ·rw[d,D]at k;cases k
   ·omega)]
  exact a.only i e k
 all:=λi d q=>a.all i d (by
  have q:i<r.next:=q;show i<hk.next;omega)
theorem UP{k:Walk}{m:AC3}{id:Nat}{W Y:zA}{o:AC3}(d:AFv A m k id W Y o)(L:k.nx<N/\k.more<N)
  (V:∀{e:Env} {h:Hp} {X:Go.Proofs.YtldjiljipddebaaGreat.X},Bu ty A (.seq (.cond (.tmp k.more) .skip (.exit k.out)) o) [] By F e h=X->X≠.no->∀(φ:Phi) (w:xG) (a:Act),AEZ ty φ nil h w->AR N φ (AEt A [] e) a->∀(Q:ADc->Act->xG->Prop),Post ty A N F φ h w By X Q->(AB6 (.cond (.tmp k.more) .skip (.exit k.out)) o).wp P Q a w)
  {e:Env}{h:Hp}{X:Go.Proofs.YtldjiljipddebaaGreat.X}{j:AAG}(u:J k.it e=.pointer (BY j))(S:wU j.off 0=IN)(z:256<=j.block)
  (g:GL k (Bu ty A m [] By) F e h j.block=X)(R:X≠.no){φ:Phi}{w:xG}{a:Act}(H:AEZ ty φ nil h w)(E:AR N φ (AEt A [] e) a){Q:ADc->Act->xG->Prop}
  (Z:∀id e h' ψ a' w',Good ty A N φ h w [] e h' ψ a' w'->X=.exit id e h'->Q (.exit id) a' w'):
  (AEJ m).wp P Q a w:=by
 unfold GL at g;split at g
 case h_2=>exact absurd g.symm R
 rename_i x _;obtain⟨C,q⟩:=ABg x;generalize AB7 x=y at g C q;obtain⟨U,M,l⟩:=Jl.1 E;have K:∀b,b<240->(C6 e k.ws).get b=if b∈k.ws then .chan By else e.get b:=λb c=>JR _ _ _ d.few c
 refine wp_loop_rounds 64 (ib d L V u S z (φ0:=φ) (w0:=w) l (λhk tr φk wk G D ⟨a5,a2⟩ a1 O I s1 s2 s3 s4=>?_) 64 {next:=h.next,low:=h.next,high:=0,mark:=h.mark,bl:=h.bl} [] φ w a (H.AFy rfl rfl) (.refl _ _ _) U M (λb c n _=>l b c n) q);obtain⟨f,i,q3,t⟩:=iY.1 O;have s:=G.AIT t (B9 h.low y.low) (Cu h.high y.high) h.mark;have p:=l k.it d.itL d.itA;rw[<- DD k.it d.itL,u]at p;obtain⟨a4,a3,T⟩:=p.AFb;obtain⟨pb,B,rfl⟩:=T.eq;have r:=D.join B f (AAu i) (AAu q3.symm) t;rw[f]at s;refine Z k.out _ _ φk I wk ⟨.nil A,s,Jl.2 ⟨s1,s2,λb c n=>?_⟩,r⟩ g.symm;rw[Env.AEm _ _ _ _ d.moL c,K b c];by_cases f:b=k.more
 ·rw[IT f,f,s4];exact .bool _
 ·rw[If f]
  by_cases i:b∈k.ws
  ·rw[IT i];exact .unk
  ·rw[If i];exact(s3 b c n i).mono r.le
end
section
variable {P:xU}{ty:TTy}{F:AES}{A:List Nat}{N:Nat}
theorem Evo.AHa{φ ψ:Phi}{h g h':Hp}{w w':xG}(ev:Evo φ g w ψ h' w')(a:g.bl=h.bl)(h2:g.next=h.next)(b:g.low=h.low)(c:g.high=h.high):Evo φ h w ψ h' w' where
 le:=ev.le
 new:=by rw[<- h2];exact ev.new
 next:=by rw[<- h2];exact ev.next
 size:=ev.size
 tape:=ev.tape
 os:=ev.os
 output:=ev.output
 frame:=by unfold Live;rw[<- a];exact ev.frame
 back:=by
  have:=ev.back;unfold Live at this ⊢;rw[a]at this;exact this
 kept:=by rw[<- a,<- h2];exact ev.kept
 low:=by rw[<- b];exact ev.low
 high:=by rw[<- c];exact ev.high
 shape:=by rw[<- a,<- h2];exact ev.shape
 only:=by rw[<- a,<- h2];exact ev.only
 all:=by rw[<- h2];exact ev.all
theorem ZX(G:DI P ty)(B:Dg P ty F)(T:P.follows .mixedOrders=IN){id:Nat}{ops:Array zA}{f:Bool}{σ:Sg}{k:Option (Sg->C)}{e:Env}{h:Hp}{X:X}(b:Bu ty A (.region id ops f) σ k F e h=X)(m:X≠.no)
  (j:Cc N (.region id ops f)=IN){φ:Phi}{w:xG}{a:Act}(E:AFs A σ)(y:AEZ ty φ nil h w)(x:AR N φ (AEt A σ e) a){Q:ADc->Act->xG->Prop}(p:Post ty A N F φ h w k X Q):(ACe id ops f).wp P Q a w:=by
 have D:∀c∈ops.toList,∀i,c.dst=BY i->i<N:=by
  intro c n i U;unfold Cc at j;rw[zU]at j;have:=j c n;rw[U]at this;exact BM.1 this
 unfold Bu at b;cases f with
 |false=>
  simp only at b;obtain⟨Z,L,O,W,M,σ',S,tr,o,d,q,r,s⟩:=QU G B ops.toList [] σ e h X (λK c _=>.plain ty c) E b m;refine wp_region_list ?_;have:=Qk (Q:=Q) (a:=a) (w:=w) (φ:=φ) ops.toList tr D (by rw[d];exact y) (by rw[o];exact x) λ_ a0 R Y t u g=>p.then ⟨r,t,by rw[<- q];exact u,by rw[<- d];exact g⟩ s
  simpa using this
 |true=>
  simp only at b;cases l:Wq ty ops.toList with
  |none=>rw[l]at b;exact absurd b.symm m
  |some z=>
   rw[l]at b;obtain⟨bs,I,J,V,H⟩:=bZ l;have b:HU ty A ops.toList (L7 k) z ops.toList σ F e {next:=h.next,low:=h.low,high:=h.high,mark:=h.next,bl:=h.bl}=X:=b;obtain⟨Z,L,O,W,M,σ',S,tr,o,d,q,r,s⟩:=QU G B ops.toList z σ e _ X (λK c n=>by obtain⟨xs,_,h⟩:=H K c n;exact h.ok) E b m;have:=lH (id:=id) (Q:=Q) (a:=a) (w:=w) (φ0:=φ) T (RL I J) (jF I J V H tr) tr D (by rw[d];exact y.AFy rfl rfl) (by rw[o];exact x)
    λa0 R Y t u g=>p.then ⟨r,t,by rw[<- q];exact u,by rw[d]at g;exact g.AHa rfl rfl rfl rfl⟩ s
   simpa using this
theorem XX(x:P.follows .mixedOrders=IN){c:AC3}{s:C}(p:∀{e:Env} {h:Hp} {X:X},s F e h=X->X≠.no->∀(φ:Phi) (w:xG) (a:Act),AEZ ty φ nil h w->AR N φ (AEt A [] e) a->∀(Q:ADc->Act->xG->Prop),Post ty A N F φ h w By X Q->c.wp P Q a w):
  ∀(n:Nat) {e:Env} {h:Hp} {X:X},iter s n F e h=X->X≠.no->∀(φ:Phi) (w:xG) (a:Act),AEZ ty φ nil h w->AR N φ (AEt A [] e) a->∀(Q:ADc->Act->xG->Prop),Post ty A N F φ h w By X Q->ABf P c Q n a w
 |0,e,h,X,d,o=>by exact absurd d.symm o
 |n+1,e,h,X,d,o=>by
  intro φ w a r q Q m;unfold iter at d;cases k:s F e h with
  |no=>rw[k]at d;exact absurd d.symm o
  |norm t u=>
   rw[k]at d;simp only at d;refine p k (λh=>by cases h) φ w a r q _ {go:=(λ_ h=>by cases h),norm:=λ_ z B G y E l b=>?_,exit:=(λ_ _ _ _ _ _ _ b=>by cases b),ret:=(λ_ _ _ _ _ _ b=>by cases b)};cases b;exact XX x p n d o _ _ _ l.rel l.ar _ {go:=(λ_ h=>by cases h),norm:=λh g i j f w2 g2 b=>m.norm h g i j f w2 (l.trans g2) b,exit:=λid g i j f w2 g2 b=>m.exit id g i j f w2 (l.trans g2) b,ret:=λg i j f w2 g2 b=>m.ret g i j f w2 (l.trans g2) b}
  |exit D t u=>
   rw[k]at d;refine p k (λh=>by cases h) φ w a r q _ {go:=(λ_ h=>by cases h),norm:=(λ_ _ _ _ _ _ _ b=>by cases b),exit:=λid g i j f w2 g2 b=>m.exit id g i j f w2 g2 (d.symm.trans b),ret:=(λ_ _ _ _ _ _ b=>by cases b)}
  |ret t u=>
   rw[k]at d;refine p k (λh=>by cases h) φ w a r q _ {go:=(λ_ h=>by cases h),norm:=(λ_ _ _ _ _ _ _ b=>by cases b),exit:=(λ_ _ _ _ _ _ _ b=>by cases b),ret:=λg i j f w2 g2 b=>m.ret g i j f w2 g2 (d.symm.trans b)}
theorem TO{φ:Phi}{h:Hp}{w:xG}{k':Sg->C}{X:X}{Q:ADc->Act->xG->Prop}(p:Post ty A N F φ h w (BY k') X Q){a:C}{e:Env}(c:BJ a (k' []) F e h=X)(n:X≠.no):
  ∃k,a F e h=k/\k≠.no/\Post ty A N F φ h w By k Q:=by
 unfold BJ at c;cases j:a F e h with
 |no=>rw[j]at c;exact absurd c.symm n
 |norm l m=>
  rw[j]at c;exact⟨_,rfl,(λh=>by cases h),{go:=(λ_ h=>by cases h),norm:=λ_ g i f d w2 g2 b=>by cases b;exact p.go k' rfl [] _ _ f d w2 g2 c,exit:=(λ_ _ _ _ _ _ _ b=>by cases b),ret:=(λ_ _ _ _ _ _ b=>by cases b)}⟩
 |exit o l m=>
  rw[j]at c;exact⟨_,rfl,(λh=>by cases h),{go:=(λ_ h=>by cases h),norm:=(λ_ _ _ _ _ _ _ b=>by cases b),exit:=λid g i f d w2 g2 b=>p.exit id g i f d w2 g2 (c.symm.trans b),ret:=(λ_ _ _ _ _ _ b=>by cases b)}⟩
 |ret l m=>
  rw[j]at c;exact⟨_,rfl,(λh=>by cases h),{go:=(λ_ h=>by cases h),norm:=(λ_ _ _ _ _ _ _ b=>by cases b),exit:=(λ_ _ _ _ _ _ _ b=>by cases b),ret:=λg i f d w2 g2 b=>p.ret g i f d w2 g2 (c.symm.trans b)}⟩
theorem Ty{φ:Phi}{h:Hp}{w:xG}{X:X}{Q:ADc->Act->xG->Prop}(p:Post ty A N F φ h w By X Q){id:Nat}{a:C}{e:Env}(c:Ab id a F e h=X)(q:X≠.no):
  ∃l,a F e h=l/\l≠.no/\Post ty A N F φ h w By l (ADu id Q):=by
 unfold Ab at c;cases j:a F e h with
 |no=>rw[j]at c;exact absurd c.symm q
 |norm m n=>
  rw[j]at c;exact⟨_,rfl,(λh=>by cases h),{go:=(λ_ h=>by cases h),norm:=λh g i f d w2 g2 b=>p.norm h g i f d w2 g2 (c.symm.trans b),exit:=(λ_ _ _ _ _ _ _ b=>by cases b),ret:=(λ_ _ _ _ _ _ b=>by cases b)}⟩
 |exit o m n=>
  rw[j]at c;simp only at c;refine⟨_,rfl,(λh=>by cases h),{go:=(λ_ h=>by cases h),norm:=λ_ _ _ _ _ _ _ b=>(by cases b),exit:=λr g i f d w2 g2 b=>?_,ret:=λ_ _ _ _ _ _ b=>(by cases b)}⟩;cases b;unfold ADu;cases k:wU o id with
  |true=>
   rw[k]at c;simp only[Ax.1 k,if_true];exact p.norm rfl _ _ f d w2 g2 c.symm
  |false=>
   rw[k]at c;simp only[Fo k,if_false];exact p.exit o _ _ f d w2 g2 c.symm
 |ret m n=>
  rw[j]at c;exact⟨_,rfl,(λh=>by cases h),{go:=(λ_ h=>by cases h),norm:=(λ_ _ _ _ _ _ _ b=>by cases b),exit:=(λ_ _ _ _ _ _ _ b=>by cases b),ret:=λg i f d w2 g2 b=>p.ret g i f d w2 g2 (c.symm.trans b)}⟩
theorem Eg(y:DI P ty)(x:Dg P ty F)(s:P.follows .mixedOrders=IN):∀(c:AC3) {σ:Sg} {k:Option (Sg->C)} {e:Env} {h:Hp} {X:X},Bu ty A c σ k F e h=X->X≠.no->Cc N c=IN->
  ∀(φ:Phi) (w:xG) (a:Act),AFs A σ->AEZ ty φ nil h w->AR N φ (AEt A σ e) a->∀(Q:ADc->Act->xG->Prop),Post ty A N F φ h w k X Q->c.wp P Q a w
 |.skip,σ,k,e,h,X,b,f,g=>by
  intro φ w a m l j Q d;exact wp_skip (d.then ⟨m,l,j,.refl _ _ _⟩ b)
 |.region id b2 a9,σ,k,e,h,X,b,f,g=>by
  intro φ w a m l j Q d;exact ZX y x s b f g m l j d
 |.seq i z,σ,k,e,h,X,b,f,g=>by
  intro φ w a m l j Q d;have g:(Cc N i && Cc N z)=IN:=g;rw[wV]at g;have b:Bu ty A i σ (BY λσ=>Bu ty A z σ k) F e h=X:=b;refine wp_seq (Eg y x s i b f g.1 _ _ _ m l j _ {go:=λJ R σ' e' h' b4 a' w' E q=>?_,norm:=λh=>(by cases h),exit:=d.exit,ret:=d.ret});cases R;exact Eg y x s z q f g.2 _ _ _ E.sg E.rel E.ar _ {go:=λJ R σ2 u n D B w2 g2 q=>d.go J R σ2 u n D B w2 (E.trans g2) q,norm:=λh u n D B w2 g2 q=>d.norm h u n D B w2 (E.trans g2) q,exit:=λid u n D B w2 g2 q=>d.exit id u n D B w2 (E.trans g2) q,ret:=λu n D B w2 g2 q=>d.ret u n D B w2 (E.trans g2) q}
 |.cond c i z,σ,k,e,h,X,b,f,g=>by
  intro φ w a m l j Q d;have g:(Cc N i && Cc N z)=IN:=g;rw[wV]at g;unfold Bu at b;cases O:cO ⟨A,σ⟩ c with
  |none=>rw[O]at b;exact absurd b.symm f
  |some W=>
   rw[O]at b;simp only at b;have U:=j.ev (GJ O e);have T:∀{K:Option (Sg->C)} {t:Go.Proofs.YtldjiljipddebaaGreat.X},JH W (Bu ty A i σ K) (Bu ty A z σ K) F e h=t->t≠.no->Post ty A N F φ h w K t Q->(Code.cond c i z).wp P Q a w:=by
    intro K t b f d;unfold JH at b;cases hv:W e with
    |bool a5=>
     rw[hv]at b U;have Z:=U.AFP;cases a5 with
     |true=>exact wp_cond_true Z (Eg y x s i b f g.1 _ _ _ m l j _ d)
     |false=>exact wp_cond_false Z (Eg y x s z b f g.2 _ _ _ m l j _ d)
    |_=>rw[hv]at b;exact absurd b.symm f
   cases k with
   |none=>exact T b f d
   |some J=>
    simp only at b;cases hf:(Lq i && Lq z)with
    |false=>rw[hf]at b;exact T b f d
    |true=>
     rw[hf]at b;obtain⟨V,o,n,H⟩:=TO d b f;exact T o n H
 |.block id i,σ,k,e,h,X,b,f,g=>by
  intro φ w a m l j Q d;have g:Cc N i=IN:=g;have one:∀{t:Go.Proofs.YtldjiljipddebaaGreat.X},Ab id (Bu ty A i [] By) F e h=t->t≠.no->Post ty A N F φ h w By t Q->(Code.block id i).wp P Q a w:=by
   intro t b f d;obtain⟨V,o,n,H⟩:=Ty d b f;exact wp_block (Eg y x s i o n g _ _ _ (.nil A) l (j.nil m) _ H)
  unfold Bu at b;cases k with
  |none=>exact one b f d
  |some J=>
   simp only at b;obtain⟨V,o,n,H⟩:=TO d b f;exact one o n H
 |.loop i,σ,k,e,h,X,b,f,g=>by
  intro φ w a m l j Q d;have g:Cc N i=IN:=g;have plain:iter (Bu ty A i [] By) rounds F e h=X->(AEJ i).wp P Q a w:=by
   intro b;refine wp_loop_rounds rounds (XX s (λo n φ w a l j Q d=>Eg y x s i o n g _ _ _ (.nil A) l j _ d) rounds b f _ _ _ l (j.nil m) _ {go:=λ_ h=>(by cases h),norm:=λ_ u n D B w2 g2 q=>?_,exit:=d.exit,ret:=d.ret})
   exfalso
   subst q;have:∀(L:Nat) (e:Env) (h:Hp),iter (Bu ty A i [] By) L F e h≠.norm u n:=by
    intro L
    induction L with
    |zero=>intro e h p;cases p
    |succ L ih=>
     intro e h p;unfold iter at p;cases I:Bu ty A i [] By F e h with
     |norm e1 o=>rw[I]at p;exact ih e1 o p
     |no=>rw[I]at p;cases p
     |exit _ _ _=>rw[I]at p;cases p
     |ret _ _=>rw[I]at p;cases p
   exact this _ e h b
  unfold Bu at b;cases S:YM A i with
  |none=>rw[S]at b;exact plain b
  |some r=>
   rw[S]at b;have b:Jo r (Bu ty A i [] By) F e h=X:=b;obtain⟨id,o1,o2,M,G⟩:=To S;unfold Jo at b;split at b
   case h_2=>exact absurd b.symm f
   rename_i ad a1;split at b
   case h_2=>exact plain b
   rename_i b1 b3 seen b0 a6;split at b
   case h_2=>exact absurd b.symm f
   split at b
   case h_2=>exact absurd b.symm f
   rename_i es c a7;split at b
   case h_2=>exact plain b
   have Y:Cc N (.region id #[o1,o2] IS)=IN/\Cc N (.seq (.cond (.tmp r.more) .skip (.exit r.out)) M)=IN:=by
    rw[G.code]at g;have g:(Cc N (.region id #[o1,o2] IS) && Cc N (.seq (.cond (.tmp r.more) .skip (.exit r.out)) M))=IN:=g;exact Bool.and_eq_true_iff.1 g
   have a3:r.nx<N/\r.more<N:=by
    have:=Y.1;unfold Cc at this;simp only[List.all_cons,List.all_nil,Bool.and_true,wV,G.AGr,G.AG6]at this;exact⟨BM.1 this.1,BM.1 this.2⟩
   have a8:ABp (AB6 (.cond (.tmp r.more) .skip (.exit r.out)) M)<ABp i:=by
    rw[G.code];simp;omega
   obtain⟨a4,b⟩:=sx b f;obtain⟨a0,b⟩:=sx b f;exact UP G a3 (λo n φ w a l j Q d=>Eg y x s (.seq (.cond (.tmp r.more) .skip (.exit r.out)) M) o n Y.2 _ _ _ (.nil A) l j _ d) a1 a4 (Am.1 a0) b f l (j.nil m) d.exit
 |.exit id,σ,k,e,h,X,b,f,g=>by
  intro φ w a m l j Q d;have b:(.exit id e h:Go.Proofs.YtldjiljipddebaaGreat.X)=X:=b;exact wp_exit (d.exit id e h φ a w ⟨.nil A,l,j.nil m,.refl _ _ _⟩ b.symm)
 |.ret,σ,k,e,h,X,b,f,g=>by
  intro φ w a m l j Q d;have b:(.ret e h:Go.Proofs.YtldjiljipddebaaGreat.X)=X:=b;exact wp_ret (d.ret e h φ a w ⟨.nil A,l,j.nil m,.refl _ _ _⟩ b.symm)
 |.rangeFunc _ _ _ _,_,_,_,_,X,b,f,_=>by exact absurd b.symm f
 |.scope i,σ,k,e,h,X,b,f,g=>by
  intro φ w a m l j Q d;have g:Cc N i=IN:=g;have b:Bu ty A i σ k F e h=X:=b;exact wp_scope_straight (Eg y x s i b f g _ _ _ m l j _ {go:=d.go,norm:=d.norm,exit:=d.exit,ret:=d.ret})
 |.label _,σ,k,e,h,X,b,f,g=>by
  intro φ w a m l j Q d;exact wp_label (d.then ⟨m,l,j,.refl _ _ _⟩ b)
 |.goto _,_,_,_,_,X,b,f,_=>by exact absurd b.symm f
 |.refuse _,_,_,_,_,X,b,f,_=>by exact absurd b.symm f
termination_by c=>ABp c
decreasing_by
 all_goals simp_wf
 all_goals first|omega|(simp_all;omega)
end
section
variable {P:xU}{ty:TTy}{A:List Nat}{N:Nat}{φ:Phi}{h h':Hp}{w:xG}{e:Env}{a:Act}{v:vz}
theorem PA{t:Nat}(h:QS A t=IN)(e:Env):AEt A [] e t=BY (J t e):=by
 unfold QS at h;rw[Er];show(match memN t A with|true=>By|false=>match xQ t 240 with|true=>BY (J t e)|false=>By)=_;cases a:memN t A with
 |true=>rw[a]at h;cases h
 |false=>
  rw[a]at h;have h:xQ t 240=IN:=h;simp only[h]
def TC(tmps:Array vz):ACD->Sem vz
 |.tmp t=>pure (tmps.getD t undef)
 |.cell a t=>do loadVar t (<- asAddr (tmps.getD a undef))
theorem VK(fn:Func)(tmps:Array vz):ADK fn tmps=(do let vs <- fn.results.mapM (TC tmps);pure (if h:vs.size=1 then vs[0]else .tuple vs)):=by
 unfold ADK
 congr 2
theorem Z1(f:ACD->Sem vz)(l:Array ACD){vs:List vz}(h:(l.toList.mapM f).run P w=.ok vs w):(l.mapM f).run P w=.ok ⟨vs⟩ w:=by
 have:l.mapM f=List.toArray <$> l.toList.mapM f:=by
  conv=>lhs;rw[<- Array.toArray_toList (xs:=l)]
  rw[List.mapM_toArray]
 rw[this,map_eq_pure_bind,wM,h,wH,wN]
theorem HZ(hT:DI P ty)(H:AEZ ty φ nil h w)(HA:AR N φ (AEt A [] e) a):∀{l:List ACD} {rs:List RV} {k:List vz->R},rsC ty A l=BY rs->Go.Proofs.YtldjiljipddebaaGreat.results e h k rs=.ok v h'->
  ∃vs vs',AEp φ vs vs'/\k vs=.ok v h'/\(l.mapM (TC a.tmps)).run P w=.ok vs' w
 |[],rs,k,hc,hr=>by
  cases hc;exact⟨[],[],.nil,hr,by simp⟩
 |.tmp t::l,rs,k,hc,hr=>by
  unfold rsC at hc;split at hc
  ·cases hc
  rename_i ht;split at hc
  case h_2=>cases hc
  rename_i r hrs;cases hc;unfold Go.Proofs.YtldjiljipddebaaGreat.results at hr;have hr:AEi (J t e) (λv=>Go.Proofs.YtldjiljipddebaaGreat.results e h (λvs=>k (v::vs)) r)=.ok v h':=hr;rw[BR]at hr;obtain⟨vs,vs',h1,h2,h3⟩:=HZ hT H HA hrs hr;have h4:=HA.rel t _ (PA ht e);exact⟨_,_,.cons h4 h1,h2,by simp[ABI,TC,h3]⟩
 |.cell c t::l,rs,k,hc,hr=>by
  unfold rsC at hc;split at hc
  ·cases hc
  rename_i ht;split at hc
  case h_2=>cases hc
  rename_i ti hti;split at hc
  case h_2=>cases hc
  rename_i r hrs;have T:=hT t ti hti;have h4:=HA.rel c _ (PA ht e);cases hag:ti.k.agg with
  |true=>
   rw[hag]at hc;cases hc;unfold Go.Proofs.YtldjiljipddebaaGreat.results Fk at hr;simp only at hr;cases AG7:EH (J c e)with
   |no=>rw[AG7]at hr;cases hr
   |ok ad=>
    rw[AG7]at hr;simp only at hr;cases hl:loadN ti.size ad h with
    |no=>rw[hl]at hr;cases hr
    |ok u h2=>
     rw[hl]at hr;simp only[BR]at hr;rw[Ig AG7]at h4;obtain⟨a',ha',hra⟩:=h4.AFb;obtain⟨_,l',hv,hrun⟩:=SW (P:=P) H hl hra (λh=>h);obtain⟨vs,vs',h1,h5,h3⟩:=HZ hT H HA hrs hr;refine⟨_,_,.cons hv h1,h5,?_⟩;have:(TC a.tmps (.cell c t)).run P w=.ok (.agg l'.toArray) w:=by
      unfold TC;simp only[ha',asAddr,wM,wN,wH,loadVar,T.agg,hag,if_true,T.size,hrun]
     simp[ABI,this,h3]
  |false=>
   rw[hag]at hc;cases hc;unfold Go.Proofs.YtldjiljipddebaaGreat.results Fk at hr;simp only at hr;cases AG7:EH (J c e)with
   |no=>rw[AG7]at hr;cases hr
   |ok ad=>
    rw[AG7]at hr;simp only at hr;cases hl:AEV ad h with
    |no=>rw[hl]at hr;cases hr
    |ok u h2=>
     rw[hl]at hr;simp only[BR]at hr;rw[Ig AG7]at h4;obtain⟨a',ha',hra⟩:=h4.AFb;obtain⟨_,v',hcell,hv⟩:=SV H hl hra (λh=>h);obtain⟨vs,vs',h1,h5,h3⟩:=HZ hT H HA hrs hr;refine⟨_,_,.cons hv h1,h5,?_⟩;have:(TC a.tmps (.cell c t)).run P w=.ok v' w:=by
      unfold TC;simp only[ha',asAddr,wM,wN,wH,loadVar,T.agg,hag,xJ,if_false,run_load,hcell]
     simp[ABI,this,h3]
theorem OZ(m:DI P ty)(H:AEZ ty φ nil h w)(k:AR N φ (AEt A [] e) a){c:Func}{i:List RV}(n:rsC ty A c.results.toList=BY i)(g:FA i e h=.ok v h'):
  h'=h/\∃v',AEX φ v v'/\(ADK c a.tmps).run P w=.ok v' w:=by
 unfold FA at g;obtain⟨vs,j,d,b,l⟩:=HZ m H k n g;have p:=Z1 (P:=P) (w:=w) (TC a.tmps) c.results l;rw[VK];simp only[wM,p,wH,wN];unfold J1 at b;split at b
 ·cases b
  cases d with
  |cons s r=>cases r;exact⟨rfl,_,s,rfl⟩
 ·rename_i o
  cases b;refine⟨rfl,_,.tuple d,?_⟩;have:j.length≠1:=by
   rw[d.length];intro f;cases vs with
   |nil=>cases f
   |cons u t=>
    cases t with
    |nil=>exact o u rfl
    |cons _ _=>simp at f
  have q:¬(Array.mk j).size=1:=this;rw[dif_neg q]
theorem TQ:∀(a:List vz) (e:Env) (i t:Nat),i+a.length<=240->t<240->(Ay e i a).get t=if i<=t/\t<i+a.length then a.getD (t - i) AEU else e.get t
 |[],e,i,t,_,_=>by
  rw[If (by simp)];rfl
 |v::f,e,i,t,g,d=>by
  simp only[wK]at g;unfold Ay;rw[TQ f _ (i+1) t (by omega) d];by_cases b:i+1<=t/\t<i+1+f.length
  ·rw[IT b,IT (by simp only[wK];omega)]
   have:t - i=(t - (i+1))+1:=by omega
   rw[this,List.getD_cons_succ]
  ·rw[If b,Env.AEm _ _ _ _ (by omega) d]
   by_cases c:t=i
   ·subst c
    rw[IT rfl,IT (by simp only[wK];omega)];simp
   ·rw[If c,If (by simp only[wK];omega)]
theorem qQ{t:Nat}(b:t<240):e0.get t=AEU:=by
 have a:Mj (λc=>e0.get c=AEU) 240:=by
  repeat' (first|exact trivial|refine⟨rfl,?_⟩)
 exact a.at t b
theorem gC{c d:List vz}(f:AEp φ c d)(q:c.length<=240)(n:Nat):
  AR (max c.length n) φ (AEt A [] (Ay e0 0 c)) {tmps:=(⟨d⟩:Array vz)++Array.replicate (n - (⟨d⟩:Array vz).size) undef,defers:=[]} where
 size:=by
  have:=f.length;simp only[Array.size_append,Array.size_replicate,ABM];omega
 defs:=rfl
 rel:=λa m b=>by
  rw[Er]at b;have b:(match memN a A with|true=>By|false=>match xQ a 240 with|true=>BY (J a (Ay e0 0 c))|false=>By)=BY m:=b;cases i:memN a A with
  |true=>rw[i]at b;cases b
  |false=>
   rw[i]at b;simp only at b;cases e:xQ a 240 with
   |false=>rw[e]at b;cases b
   |true=>
    rw[e]at b;cases b;have g:=BM.1 e;rw[DD a g,TQ c e0 0 a (by omega) g,qQ g];have p:=f.length;simp only[xY];by_cases h:a<c.length
    ·rw[IT (by omega),Nat.sub_zero,Array.getElem?_append_left (by simp only[ABM];omega)]
     obtain⟨o,k,l⟩:=f.get a c[a] (wE h);have:c.getD a AEU=c[a]:=by rw[wG,wE h];rfl
     rw[this];have j:(⟨d⟩:Array vz)[a]? =BY o:=by simpa using k
     rw[j];exact l
    ·rw[If (by omega),Array.getElem?_append_right (by simp only[ABM];omega),Array.getElem?_replicate]
     split<;>exact .tuple .nil
theorem ZZ{l:List ACD}{b:List RV}(a:rsC ty A l=BY b):Qn b=By:=by
 cases l with
 |nil=>cases a;rfl
 |cons d l=>
  cases d with
  |tmp c=>
   unfold rsC at a;split at a
   ·cases a
   ·split at a
    ·cases a;rfl
    ·cases a
  |cell e c=>
   unfold rsC at a;split at a
   ·cases a
   ·split at a
    ·split at a
     ·split at a
      ·cases a;rfl
      ·cases a;rfl
     ·cases a
    ·cases a
def su(P:xU)(ty:TTy)(g:Nat)(b:Body):Prop:=∃a A,P.funcs[g]? =BY a/\a.name≠"runtime.NumGoroutine" /\aE ty A a=BY b
def As:Body:=⟨[],cNo⟩
theorem Dt{n m:Nat}(h:n<=m):∀{c:AC3},Cc n c=IN->Cc m c=IN
 |.region _ g _,b=>by
  unfold Cc at b ⊢;rw[zU]at b ⊢;intro f e;have:=b f e;split at this
  ·have:=BM.1 this
   exact BM.2 (by omega)
  ·rfl
 |.seq a d,b=>by
  have b:(Cc n a && Cc n d)=IN:=b;rw[wV]at b;show(Cc m a && Cc m d)=IN;rw[Dt h b.1,Dt h b.2];rfl
 |.cond _ a d,b=>by
  have b:(Cc n a && Cc n d)=IN:=b;rw[wV]at b;show(Cc m a && Cc m d)=IN;rw[Dt h b.1,Dt h b.2];rfl
 |.block _ a,b=>Dt (c:=a) h b
 |.loop a,b=>Dt (c:=a) h b
 |.skip,_=>rfl
 |.exit _,_=>rfl
 |.ret,_=>rfl
 |.rangeFunc _ _ _ _,_=>rfl
 |.scope a,b=>Dt (c:=a) h b
 |.label _,_=>rfl
 |.goto _,_=>rfl
 |.refuse _,_=>rfl
theorem bo(n:DI P ty){F:AES}(C:Dg P ty F)(E:P.follows .mixedOrders=IN){g:Nat}{b:Body}(D:su P ty g b){i:List vz}(c:enter F b i h=.ok v h'):
  (∃d,P.funcs[g]? =BY d/\d.name≠"runtime.NumGoroutine" /\d.body.isNone=IS)/\
  ∀φ w l,AEp φ i l->AEZ ty φ nil h w->
   Calls P g ⟨l⟩ w λen w'=>∃v' ψ,en=.returned v'/\AEX ψ v v'/\AEZ ty ψ nil h' w'/\Evo φ h w ψ h' w':=by
 obtain⟨d,A,x,H,a⟩:=D;unfold aE at a;cases k:d.body with
 |none=>rw[k]at a;cases a
 |some m=>
  rw[k]at a;simp only at a;cases j:rsC ty A d.results.toList with
  |none=>rw[j]at a;cases a
  |some I=>
   rw[j]at a;simp only at a;cases o:Cc d.ntmps m with
   |false=>rw[o]at a;cases a
   |true=>
    rw[o]at a;cases a;refine⟨⟨d,x,H,by rw[k];rfl⟩,λφ w l y z=>?_⟩;unfold enter at c
    dsimp only at c
    rw[ZZ j]at c;obtain⟨p,c⟩:=Bx c;have p:i.length<=240:=by rw[<- Bf];exact Am.1 p
    have B:=gC (A:=A) y p d.ntmps;refine calls_of_wp x k ?_;have G:Bu ty A m [] By F (Ay e0 0 i) h≠.no:=by
     intro f;rw[f]at c;cases c
    refine Eg n C E m (e:=Ay e0 0 i) (h:=h) rfl G (Dt (AAz _ _) o) _ _ _ (.nil A) z B _ {go:=λ_ h=>(by cases h),norm:=λ_ t u ψ s w1 g1 f=>?_,exit:=λid t u ψ s w1 g1 f=>?_,ret:=λt u ψ s w1 g1 f=>?_}
    ·rw[f]at c
     obtain⟨rfl,v',r,q⟩:=OZ n g1.rel g1.ar j c;exact⟨g1.ar.defs,v',q,v',ψ,rfl,r,g1.rel,g1.evo⟩
    ·rw[f]at c;cases c
    ·rw[f]at c
     obtain⟨rfl,v',r,q⟩:=OZ n g1.rel g1.ar j c;exact⟨g1.ar.defs,v',q,v',ψ,rfl,r,g1.rel,g1.evo⟩
def JM(P:xU)(ty:TTy)(g:Nat)(b:Body):Prop:=∀(d:AES) (e:List vz) (h:Hp) (v:vz) (h':Hp),Dg P ty d->enter d b e h=.ok v h'->
 (∃a,P.funcs[g]? =BY a/\a.name≠"runtime.NumGoroutine" /\a.body.isNone=IS)/\
 ∀φ w f,AEp φ e f->AEZ ty φ nil h w->
  Calls P g ⟨f⟩ w λk j=>∃i c,k=.returned i/\AEX c v i/\AEZ ty c nil h' j/\Evo φ h w c h' j
def BQ(P:xU)(ty:TTy)(g:Nat)(b:Body):Prop:=su P ty g b\/b=As\/JM P ty g b
def FT.All(p:Nat->Body->Prop):FT->(Nat->Nat)->Prop
 |.mt,_=>True
 |.nd c d e,a=>p (a 0) c/\FT.All p d (λb=>a (2*b+1))/\FT.All p e (λb=>a (2*b+2))
theorem FT.All.get{p:Nat->Body->Prop}:∀{t:FT} {c:Nat->Nat},FT.All p t c->∀{i:Nat} {b:Body},t.get i=BY b->p (c i) b
 |.mt,c,_,i,b,h=>by cases h
 |.nd j m n,c,⟨d,f,g⟩,0,b,h=>by cases h;exact d
 |.nd j m n,c,⟨d,f,g⟩,a+1,b,h=>by
  unfold FT.get at h;have k:AAR a 2=a % 2:=rfl;have l:zQ a 2=a / 2:=rfl;rw[k,l]at h;rcases ye a with hk|hk
  ·rw[hk]at h
   have:=f.get (i:=a/2) h;have e:2*(a/2)+1=a+1:=by omega
   simp only[e]at this;exact this
  ·rw[hk]at h
   have:=g.get (i:=a/2) h;have e:2*(a/2)+2=a+1:=by omega
   simp only[e]at this;exact this
theorem Jq(d:DI P ty)(g:P.follows .mixedOrders=IN){bs:FT}(e:FT.All (BQ P ty) bs id):∀n,Dg P ty (call bs n)
 |0=>λc b h v h' a=>by cases a
 |n+1=>λc b h v h' a=>by
  have a:(match bs.get c with|some i=>enter (call bs n) i b h|none=>.no)=.ok v h':=a;cases f:bs.get c with
  |none=>rw[f]at a;cases a
  |some i=>
   rw[f]at a;rcases e.get f with k|rfl|j
   ·exact bo d (Jq d g e n) g k a
   ·exfalso
    have a:(bif wY (DH b) 240 then IG [] .no else .no)=.ok v h':=a;obtain⟨_,a⟩:=Bx a;cases a
   ·exact j _ b h v h' (Jq d g e n) a
end
end
noncomputable section
open Go Go.RowKit Go.WideShapes Go.ChangeShapes
def de:R->Bool
 |.ok (.bool a) _=>a
 |_=>IS
def ro:Phi:=λ_=>By
theorem PN(ty:TTy)(w:xG):AEZ ty ro nil JK w where
 dom:=λb c a=>by cases a
 inj:=λb f c g a=>by cases a
 row:=λb c a=>by cases a
 fresh:=λb _=>LN 9 b
 kind:=λb c d h e a=>by cases a
 inp:=λb c a=>by cases a
theorem eV{P:xU}{ty:TTy}{bs:FT}(d:∀n,Dg P ty (call bs n)){n f:Nat}(h:de (call bs n f [] JK)=IN)(w:xG):
  Calls P f #[] w λe w'=>e=.returned (.bool IN)/\Below w.heap.size w w':=by
 cases a:call bs n f [] JK with
 |no=>rw[a]at h;cases h
 |ok v c=>
  rw[a]at h;obtain⟨_,g⟩:=d n f [] JK v c a;refine(g ro w [] .nil (PN ty w)).mono λe w' ⟨q,r,i,l,_,ev⟩=>?_
  cases v with
  |bool b=>
   have h:b=IN:=h;subst h;have:=l.AFP;subst this;exact⟨i,⟨ev.os,ev.tape,ev.output,ev.size,λm j=>ev.frame m j λo p k=>by cases k⟩⟩
  |_=>cases h
section
variable {H:Type}{enc:TypeId×vz->H}{P:xU}
theorem OK{f:Func}{s:ChangeSpec}{apart fresh handsOn again:Bool}{W W':xG}{args:Array vz}{v:vz}{ds gs:List (DataW H)}{before pa pv:List MemPlace}
  (hW:DataW.Whole enc P f.params.toList s.vars apart W args.toList ds gs before)
  (hres:∀(b:Nat) (sp:Nat->Bool) (hd:Bool),ADU enc P W' b sp hd f.resultTypes.toList (v.resultList f.resultTypes.size) (s.fn H (ds++gs)).results [])
  (hargs:∀sp:Nat->Bool,(∀p∈before,sp p.block=IN)->ADU enc P W' 0 sp IN f.params.toList args.toList (s.fn H (ds++gs)).args pa)
  (hvars:∀sp:Nat->Bool,(∀p∈before,sp p.block=IN)->DataW.TrodVars enc P W' sp s.vars (s.fn H (ds++gs)).vars pv)
  (hps:before=pa++pv)(hb:Below W.heap.size W W')
  (hok:∀(j:Nat) (t:TypeId) (r:vz),f.resultTypes[j]? =BY t->(v.resultList f.resultTypes.size)[j]? =BY r->yc P W' .any 0 t r):
  s.post enc P f apart fresh handsOn again W args v W':=by
 have hlt:∀p∈before,p.block<W.heap.size:=λp hp=>hW.lt p hp
 have hold:∀p∈before,(λb=>decide (b<W.heap.size)) p.block=IN:=λp hp=>by simpa using hlt p hp
 refine⟨ds,gs,before,[],pa,pv,hW,hres _ _ _,hargs _ hold,hvars _ hold,World.keptBut_mono (λp hp=>⟨hp,?_⟩) (hb.frame (· ∈before)),λ_=>?_⟩
 ·rw[hps,wd]at hp
  exact Or.inr hp
 ·obtain⟨_,_,_,_,_,hz,hn⟩:=hW
  refine⟨hok,_,_,([]++pa)++pv,⟨[]++pa,pv,trodAll_append (hargs _ (λ_ _=>rfl)) (hres _ _ _),hvars _ (λ_ _=>rfl),rfl,?_,?_⟩,?_⟩
  ·intro b off hp
   have hin:MemPlace.cell b off∈before:=by rw[hps];simpa using hp
   rw[hb.frozen (hlt _ hin)];exact hz b off hin
  ·intro ha
   have:=hn ha;rw[hps]at this
   simpa using this
  ·intro p hp _
   rw[hps]
   simpa using hp
end
end
noncomputable section
open Go
namespace VT
def has:VT->Nat->Prop
 |.mt,_=>False
 |.nd _ _ _,0=>True
 |.nd _ b c,a+1=>if a % 2=0 then b.has (a/2)else c.has (a/2)
theorem AEe(v:vz)(l r:VT)(k:Nat):(VT.nd v l r).has (k+1)=if k % 2=0 then l.has (k/2)else r.has (k/2):=by rw[has]
theorem GB:∀(t:VT) (i:Nat) (x:vz),(∀j,j<i->t.has j)->∃t',t.set i x=BY t'
 |.mt,0,x,_=>⟨_,rfl⟩
 |.mt,i+1,x,h=>(h 0 (AAB i)).elim
 |.nd v l r,0,x,_=>⟨_,rfl⟩
 |.nd v l r,k+1,x,h=>by
  rw[AEw];by_cases hk:k % 2=0
  ·rw[IT hk]
   obtain⟨l',hl⟩:=GB l (k/2) x λj hj=>by
    have:=h (2*j+1) (by omega);rw[AEe,IT (by omega)]at this;have e:2*j/2=j:=by omega
    rwa [e]at this
   rw[hl];exact⟨_,rfl⟩
  ·rw[If hk]
   obtain⟨r',hr⟩:=GB r (k/2) x λj hj=>by
    have:=h (2*j+1+1) (by omega);rw[AEe,If (by omega)]at this;have e:(2*j+1)/2=j:=by omega
    rwa [e]at this
   rw[hr];exact⟨_,rfl⟩
theorem Hb:∀(t:VT) (i:Nat) (x:vz) (c:VT),t.set i x=BY c->∀j,(j=i\/t.has j)->c.has j
 |.mt,0,x,c,b,j,a=>by
  obtain rfl:VT.nd x .mt .mt=c:=Option.some.inj b;rcases a with rfl|a
  ·exact trivial
  ·exact a.elim
 |.mt,i+1,x,c,b,j,a=>by cases b
 |.nd v f g,0,x,c,b,j,a=>by
  obtain rfl:VT.nd x f g=c:=Option.some.inj b;cases j with
  |zero=>exact trivial
  |succ j=>
   rcases a with a|a
   ·cases a
   ·rw[AEe]at a ⊢;exact a
 |.nd v f g,i+1,x,c,b,j,a=>by
  rw[AEw]at b;split at b
  ·rename_i h
   cases e:f.set (i/2) x with
   |none=>rw[e]at b;cases b
   |some k=>
    rw[e]at b;obtain rfl:VT.nd v k g=c:=Option.some.inj b;cases j with
    |zero=>exact trivial
    |succ j=>
     rw[AEe];split
     ·rename_i d
      refine Hb f _ x k e _ ?_;rcases a with a|a
      ·left;have:j=i:=by omega
       rw[this]
      ·right;rw[AEe,IT d]at a;exact a
     ·rename_i d
      rcases a with a|a
      ·have:j=i:=by omega
       exact absurd (this ▸ h) d
      ·rw[AEe,If d]at a;exact a
  ·rename_i h
   cases e:g.set (i/2) x with
   |none=>rw[e]at b;cases b
   |some l=>
    rw[e]at b;obtain rfl:VT.nd v f l=c:=Option.some.inj b;cases j with
    |zero=>exact trivial
    |succ j=>
     rw[AEe];split
     ·rename_i d
      rcases a with a|a
      ·have:j=i:=by omega
       exact absurd (this ▸ d) h
      ·rw[AEe,IT d]at a;exact a
     ·rename_i d
      refine Hb g _ x l e _ ?_;rcases a with a|a
      ·left;have:j=i:=by omega
       rw[this]
      ·right;rw[AEe,If d]at a;exact a
def lay(t:VT)(i:Nat)(x:vz):VT:=(t.set i x).getD t
theorem AFA{t:VT}{i:Nat}{x:vz}(h:∀j,j<i->t.has j):t.set i x=BY (t.lay i x):=by
 obtain⟨b,a⟩:=GB t i x h;unfold lay;rw[a];rfl
theorem AFV{t:VT}{i:Nat}{x:vz}(h:∀j,j<i->t.has j)(j:Nat):(t.lay i x).get j=if j=i then x else t.get j:=AEm _ _ _ _ (AFA h) j
theorem AFd{t:VT}{i:Nat}{x:vz}(h:∀j,j<i->t.has j)(j:Nat)(a:j=i\/t.has j):(t.lay i x).has j:=Hb _ _ _ _ (AFA h) j a
end VT
namespace BT
theorem AEe(v:Blk)(l r:BT)(k:Nat):(BT.nd v l r).has (k+1)=if k % 2=0 then l.has (k/2)else r.has (k/2):=by rw[has]
theorem GB:∀(t:BT) (i:Nat) (x:Blk),(∀j,j<i->t.has j)->∃t',t.set i x=BY t'
 |.mt,0,x,_=>⟨_,rfl⟩
 |.mt,i+1,x,h=>(h 0 (AAB i)).elim
 |.nd v l r,0,x,_=>⟨_,rfl⟩
 |.nd v l r,k+1,x,h=>by
  rw[AEw];by_cases hk:k % 2=0
  ·rw[IT hk]
   obtain⟨l',hl⟩:=GB l (k/2) x λj hj=>by
    have:=h (2*j+1) (by omega);rw[AEe,IT (by omega)]at this;have e:2*j/2=j:=by omega
    rwa [e]at this
   rw[hl];exact⟨_,rfl⟩
  ·rw[If hk]
   obtain⟨r',hr⟩:=GB r (k/2) x λj hj=>by
    have:=h (2*j+1+1) (by omega);rw[AEe,If (by omega)]at this;have e:(2*j+1)/2=j:=by omega
    rwa [e]at this
   rw[hr];exact⟨_,rfl⟩
theorem Hb:∀(t:BT) (i:Nat) (x:Blk) (c:BT),t.set i x=BY c->∀j,(j=i\/t.has j)->c.has j
 |.mt,0,x,c,b,j,a=>by
  obtain rfl:BT.nd x .mt .mt=c:=Option.some.inj b;rcases a with rfl|a
  ·exact trivial
  ·exact a.elim
 |.mt,i+1,x,c,b,j,a=>by cases b
 |.nd v f g,0,x,c,b,j,a=>by
  obtain rfl:BT.nd x f g=c:=Option.some.inj b;cases j with
  |zero=>exact trivial
  |succ j=>
   rcases a with a|a
   ·cases a
   ·rw[AEe]at a ⊢;exact a
 |.nd v f g,i+1,x,c,b,j,a=>by
  rw[AEw]at b;split at b
  ·rename_i h
   cases e:f.set (i/2) x with
   |none=>rw[e]at b;cases b
   |some k=>
    rw[e]at b;obtain rfl:BT.nd v k g=c:=Option.some.inj b;cases j with
    |zero=>exact trivial
    |succ j=>
     rw[AEe];split
     ·rename_i d
      refine Hb f _ x k e _ ?_;rcases a with a|a
      ·left;have:j=i:=by omega
       rw[this]
      ·right;rw[AEe,IT d]at a;exact a
     ·rename_i d
      rcases a with a|a
      ·have:j=i:=by omega
       exact absurd (this ▸ h) d
      ·rw[AEe,If d]at a;exact a
  ·rename_i h
   cases e:g.set (i/2) x with
   |none=>rw[e]at b;cases b
   |some l=>
    rw[e]at b;obtain rfl:BT.nd v f l=c:=Option.some.inj b;cases j with
    |zero=>exact trivial
    |succ j=>
     rw[AEe];split
     ·rename_i d
      rcases a with a|a
      ·have:j=i:=by omega
       exact absurd (this ▸ d) h
      ·rw[AEe,IT d]at a;exact a
     ·rename_i d
      refine Hb g _ x l e _ ?_;rcases a with a|a
      ·left;have:j=i:=by omega
       rw[this]
      ·right;rw[AEe,If d]at a;exact a
def lay(t:BT)(i:Nat)(x:Blk):BT:=(t.set i x).getD t
theorem AFA{t:BT}{i:Nat}{x:Blk}(h:∀j,j<i->t.has j):t.set i x=BY (t.lay i x):=by
 obtain⟨b,a⟩:=GB t i x h;unfold lay;rw[a];rfl
theorem AFV{t:BT}{i:Nat}{x:Blk}(h:∀j,j<i->t.has j)(j:Nat):(t.lay i x).get j=if j=i then x else t.get j:=AEm _ _ _ _ (AFA h) j
theorem AFd{t:BT}{i:Nat}{x:Blk}(h:∀j,j<i->t.has j)(j:Nat)(a:j=i\/t.has j):(t.lay i x).has j:=Hb _ _ _ _ (AFA h) j a
end BT
section
variable {F:AES}{e:Env}{h:Hp}{k a b:C}{f:OpF}{x y:O}
def opX(i:Nat)(r:R)(k:C)(F:AES)(e:Env):X:=match r with
 |.ok v h=>k F (Env.set i v e) h
 |.no=>.no
def doX(r:R)(k:C)(F:AES)(e:Env):X:=match r with
 |.ok _ h=>k F e h
 |.no=>.no
def Za(x:X)(b:C)(F:AES):X:=match x with
 |.norm e h=>b F e h
 |x=>x
def K2(id:Nat)(x:X):X:=match x with
 |.exit a e h=>bif wU a id then .norm e h else .exit a e h
 |x=>x
def RD(v:vz)(a b:C)(F:AES)(e:Env)(h:Hp):X:=match v with
 |.bool c=>(bif c then a else b) F e h
 |_=>.no
def X3(i:Nat)(k:C):C:=λF e h=>k F (Env.set i AEU e) h
def H7(v:vz)(d:Bool)(a b:C)(F:AES)(e:Env)(h:Hp):X:=match v with
 |.bool c=>(bif d == c then a else b) F e h
 |.tuple _=>b F e h
 |_=>.no
theorem HT{i:Nat}{v:vz}:opX i (.ok v h) k F e=k F (Env.set i v e) h:=rfl
theorem bW{v:vz}:doX (.ok v h) k F e=k F e h:=rfl
theorem BA:Za (.norm e h) b F=b F e h:=rfl
theorem Ce:Za (.ret e h) b F=.ret e h:=rfl
theorem PI{i:Nat}:Za (.exit i e h) b F=.exit i e h:=rfl
theorem DU{i:Nat}:K2 i (.norm e h)=.norm e h:=rfl
theorem B7{i:Nat}:K2 i (.ret e h)=.ret e h:=rfl
theorem A6{i:Nat}:K2 i (.exit i e h)=.norm e h:=by
 show(bif wU i i then _ else _)=_;rw[yG];rfl
theorem JS:RD (.bool IN) a b F e h=a F e h:=rfl
theorem Hz:RD (.bool IS) a b F e h=b F e h:=rfl
theorem Oj:H7 (.bool IN) IN a b F e h=a F e h:=rfl
theorem Oi:H7 (.bool IN) IS a b F e h=b F e h:=rfl
theorem Oh:H7 (.bool IS) IN a b F e h=b F e h:=rfl
theorem Og:H7 (.bool IS) IS a b F e h=a F e h:=rfl
theorem Lr{w:Bool}:H7 AEU w a b F e h=b F e h:=rfl
theorem TR{i:Nat}:X3 i k F e h=k F (Env.set i AEU e) h:=rfl
theorem nU{i:Nat}(hi:i<240):Tu (Ff i) f k F e h=opX i (f F e h) k F e:=by
 unfold Tu opX;cases f F e h with
 |ok v h=>exact EN i hi _ v e
 |no=>rfl
theorem aM:cDo f k F e h=doX (f F e h) k F e:=by
 unfold cDo doX;cases f F e h<;>rfl
theorem sy{g:O}{w:Bool}{i:Nat}(hi:i<240):cG g w (Ff i) f k F e h=H7 (g e) w (Tu (Ff i) f k) (X3 i k) F e h:=by
 unfold cG H7 X3;cases g e with
 |bool a=>
  simp only;cases w == a
  ·exact EN i hi _ _ e
  ·rfl
 |tuple b=>exact EN i hi _ _ e
 |_=>rfl
theorem BC:BJ a b F e h=Za (a F e h) b F:=by
 unfold BJ Za;cases a F e h<;>rfl
theorem Aw{i:Nat}:Ab i a F e h=K2 i (a F e h):=by
 unfold Ab K2;cases a F e h<;>rfl
theorem Hx:JH x a b F e h=RD (x e) a b F e h:=by
 unfold JH RD;cases x e with
 |bool c=>cases c<;>rfl
 |_=>rfl
theorem Mv:Aq F e h=.norm e h:=rfl
theorem WC:Ao F e h=.ret e h:=rfl
theorem Q7{i:Nat}:CD i F e h=.exit i e h:=rfl
theorem AG{i j:Nat}{v:vz}(hi:i<240)(a:j<240):J j (Env.set i v e)=if j=i then v else J j e:=by
 rw[DD j a,Env.AEm _ _ _ _ hi a,DD j a]
theorem Gw{v:vz}:W v e=v:=rfl
theorem Av:vals e []=[]:=rfl
theorem AS{l:List O}:vals e (x::l)=x e::vals e l:=rfl
theorem L3{i:Nat}:Ay e i []=e:=rfl
theorem Kf{i:Nat}{v:vz}{l:List vz}:Ay e i (v::l)=Ay (Env.set i v e) (wQ i) l:=rfl
theorem EM:AQ x F e h=.ok (x e) h:=FV _ _
theorem HF{i:Nat}(hi:i<240):G i f k F e h=opX i (f F e h) k F e:=nU hi
theorem UC{a:Nat}{w:Bool}{i:Nat}(hi:i<240):Ah a w i f k F e h=H7 (J a e) w (G i f k) (X3 i k) F e h:=sy hi
theorem Pb{i:Nat}:Bj i a b F e h=RD (J i e) a b F e h:=Hx
theorem HS{i:Nat}:Af i F e h=.ok (J i e) h:=EM
theorem FM{j:we}{n:Int}:Ct j (.int j n)=.ok n:=by cases j<;>rfl
theorem jS{j:we}{n:Nat}:Gx j (.int j (.ofNat n))=.ok n:=by cases j<;>rfl
theorem Iw{j:we}{n:Nat}:Gx j (.int j (n:Int))=.ok n:=jS
theorem DM{j:we}{n:Nat}:Dj (.int j (n:Int))=.ok n:=rfl
theorem Fd{c:Bool}:okB c h=.ok (.bool c) h:=by cases c<;>rfl
theorem HL(a b:Int):iGt a b=decide (b<a):=DG b a
theorem Pu(a b:Int):iLe a b=decide (a<=b):=by
 show(!iLt b a)=_;rw[DG,<- decide_not]
 congr 1;simp
theorem Pt(a b:Int):iGe a b=decide (b<=a):=Pu b a
theorem H8(a b:Int):iNe a b= !(a == b):=by
 show(!iEq a b)=_;rw[Dh]
def pF(f:Int->Int->Bool)(j:we)(a b:vz)(h:Hp):R:=gq f (Ct j a) (Ct j b) h
def Ge(f:Int->Int->Int)(j:we)(a b:vz)(h:Hp):R:=mO f j (Ct j a) (Ct j b) h
theorem AM{f:Int->Int->Bool}{j:we}:Aj f j x y F e h=pF f j (x e) (y e) h:=rfl
theorem B6{f:Int->Int->Int}{j:we}:C7 f j x y F e h=Ge f j (x e) (y e) h:=rfl
theorem AK{f:Int->Int->Bool}{j:we}{m n:Int}:pF f j (.int j m) (.int j n) h=.ok (.bool (f m n)) h:=by
 unfold pF;rw[FM,FM];exact Fd
theorem Co{f:Int->Int->Int}{j:we}{m n:Int}:Ge f j (.int j m) (.int j n) h=.ok (.int j (j.wrap (f m n))) h:=by
 unfold Ge;rw[FM,FM];show okI j (E4 j (f m n)) h=_;rw[FE,DS]
def GF(j:we)(a b:vz)(h:Hp):R:=f0 j (BH j) (Ct j a) (Ct j b) h
theorem BL{j:we}:CO j (BH j) x y F e h=GF j (x e) (y e) h:=rfl
theorem ff{j:we}{n:Nat}(a:wY n (BH j)=IN):j.wrap (n:Int)=n:=by
 rw[<- DS];show zd (motive:=λ_=>Int) (j.wrap (.ofNat n)) (.ofNat n) (wY n (BH j))=_;rw[a];rfl
theorem FK{j:we}{m n:Int}:GF j (.int j m) (.int j n) h=.ok (.int j (j.wrap (m+n))) h:=by
 unfold GF;rw[FM,FM];cases m with
 |negSucc m=>show okI j (E4 j _) h=_;rw[FE,DS]
 |ofNat m=>
  cases n with
  |negSucc n=>show okI j (E4 j _) h=_;rw[FE,DS]
  |ofNat n=>
   show zd (motive:=λ_=>R) (okI j (j.wrap (.ofNat m+.ofNat n)) h) (AEn (yK m n) λn=>.ok (.int j (.ofNat n)) h) (wY (yK m n) (BH j))=_;cases a:wY (yK m n) (BH j)with
   |false=>simp only;rw[FE]
   |true=>
    simp only;rw[Ae];have:=ff a;have e:(xR m+xR n:Int)=((yK m n:Nat):Int):=by
     show((m:Int)+(n:Int))=((m+n:Nat):Int);omega
    rw[e,this];rfl
def UU(j:we)(a b:vz)(h:Hp):R:=bV j (Ct j a) (Ct j b) h
def VJ(j:we)(a b:vz)(h:Hp):R:=eQ j (Ct j a) (Ct j b) h
theorem KK{j:we}:MC j x y F e h=UU j (x e) (y e) h:=rfl
theorem MW{j:we}:QP j x y F e h=VJ j (x e) (y e) h:=rfl
theorem MP{j:we}{m n:Int}(a:n≠0):UU j (.int j m) (.int j n) h=.ok (.int j (j.wrap (m.tdiv n))) h:=by
 unfold UU;rw[FM,FM];show(bif iEq n 0 then R.no else okI j (E4 j (m.tdiv n)) h)=_;rw[Dh,FE,DS,beq_false_of_ne a];rfl
theorem Qa{j:we}{m n:Int}(a:n≠0):VJ j (.int j m) (.int j n) h=.ok (.int j (m.tmod n)) h:=by
 unfold VJ;rw[FM,FM];show(bif iEq n 0 then R.no else okI j (m.tmod n) h)=_;rw[Dh,FE,beq_false_of_ne a];rfl
def aA(f:Nat->Nat->Nat)(j:we)(a b:vz)(h:Hp):R:=Z9 f j (Gx j a) (Gx j b) h
theorem jf{f:Nat->Nat->Nat}{j:we}:LY f j x y F e h=aA f j (x e) (y e) h:=rfl
theorem V6{f:Nat->Nat->Nat}{j:we}{m n:Nat}(a:m<=BH j)(b:n<=BH j):aA f j (.int j (m:Int)) (.int j (n:Int)) h=.ok (.int j (f m n:Nat)) h:=by
 unfold aA;rw[Iw,Iw];show(bif wY m (BH j)then(bif wY n (BH j)then okI j (.ofNat (f m n)) h else R.no)else R.no)=_;rw[Am.2 a,Am.2 b,FE];rfl
def kX(j:we)(a b:vz)(h:Hp):R:=ed j (Gx j a) (Dj b) h
def ef(j:we)(a b:vz)(h:Hp):R:=ee j (Gx j a) (Dj b) h
theorem Xh{j:we}:OJ j x y F e h=kX j (x e) (y e) h:=rfl
theorem Xi{j:we}:MD j x y F e h=ef j (x e) (y e) h:=rfl
theorem kY{j q:we}{m n:Nat}:kX j (.int j (m:Int)) (.int q (n:Int)) h=.ok (.int j (j.wrap ((m*2 ^ min n j.bits:Nat):Int))) h:=by
 unfold kX;rw[Iw,DM];show okI j (E4 j (.ofNat (xW m (Nat.pow 2 (B9 n j.bits))))) h=_;rw[FE,DS,BV];rfl
theorem X0{j q:we}{m n:Nat}:ef j (.int j (m:Int)) (.int q (n:Int)) h=.ok (.int j ((m/2 ^ min n j.bits:Nat):Int)) h:=by
 unfold ef;rw[Iw,DM];show okI j (.ofNat (zQ m (Nat.pow 2 (B9 n j.bits)))) h=_;rw[FE,BV];rfl
def Ds(j:we)(a:vz)(h:Hp):R:=match Yt a with
 |.ok b=>okI j (E4 j b) h
 |.no=>.no
theorem CU{j:we}:C5 j x F e h=Ds j (x e) h:=rfl
theorem Cz{j q:we}{n:Int}:Ds j (.int q n) h=.ok (.int j (j.wrap n)) h:=by
 show okI j (E4 j n) h=_;rw[FE,DS]
def tY(a:vz)(h:Hp):R:=match a with
 |.bool b=>okB (!b) h
 |_=>.no
theorem BO:Dq x F e h=tY (x e) h:=rfl
theorem BN{c:Bool}:tY (.bool c) h=.ok (.bool (!c)) h:=Fd
def eF(c a b:vz)(h:Hp):R:=eG c a b h
theorem Sn{c:O}:A0 c x y F e h=eF (c e) (x e) (y e) h:=rfl
theorem Nq{v u:vz}:eF (.bool IN) v u h=.ok v h:=FV _ _
theorem Ly{v u:vz}:eF (.bool IS) v u h=.ok u h:=FV _ _
theorem BG{g:Nat}{l:List O}:AU g l F e h=F g (vals e l) h:=C9 _ _
theorem MN{bs:FT}{n f:Nat}{b:Body}(c:bs.get f=BY b){a:List vz}:call bs (wQ n) f a h=enter (call bs n) b a h:=by
 show(match bs.get f with|some b=>enter (call bs n) b a h|none=>.no)=_;rw[c]
theorem bj{b:List RV}{c:C}{a:List vz}(d:wY (DH a) 240=IN)(e:Qn b=By:=by rfl):enter F ⟨b,c⟩ a h=IG b (c F (Ay e0 0 a) h):=by
 unfold enter;rw[e];show(bif wY (DH a) 240 then IG b (c F (Ay e0 0 a) h)else .no)=_;rw[d];rfl
theorem A7{a:List RV}:IG a (.ret e h)=FA a e h:=rfl
theorem Dw{a:List RV}:IG a (.norm e h)=FA a e h:=rfl
theorem NB{g:O}:FA [.t g] e h=.ok (g e) h:=by
 show AEi (g e) _=_;rw[BR];rfl
theorem C0{g a:O}:FA [.t g,.t a] e h=.ok (.tuple ⟨[g e,a e]⟩) h:=by
 show AEi (g e) (λv=>AEi (a e) _)=_;rw[BR,BR];rfl
theorem NC{g a b:O}:FA [.t g,.t a,.t b] e h=.ok (.tuple ⟨[g e,a e,b e]⟩) h:=by
 show AEi (g e) (λv=>AEi (a e) (λv=>AEi (b e) _))=_;rw[BR,BR,BR];rfl
def Gp(i:Nat)(a:vz)(h:Hp):R:=match a with
 |.tuple vs=>match nth vs.toList i with
  |some v=>.ok v h
  |none=>.no
 |_=>.no
theorem Az{i:Nat}:AW i x F e h=Gp i (x e) h:=by
 show(match x e with|.tuple vs=>(match nth vs.toList i with|some v=>AEi v λv=>.ok v h|none=>.no)|_=>.no)=_;unfold Gp;cases x e with
 |tuple vs=>
  simp only;cases nth vs.toList i with
  |some v=>exact BR _ _
  |none=>rfl
 |_=>rfl
theorem A8{v:vz}{l:List vz}:Gp 0 (.tuple ⟨v::l⟩) h=.ok v h:=rfl
theorem A9{u v:vz}{l:List vz}:Gp 1 (.tuple ⟨u::v::l⟩) h=.ok v h:=rfl
theorem Cm{t u v:vz}{l:List vz}:Gp 2 (.tuple ⟨t::u::v::l⟩) h=.ok v h:=rfl
end
section
variable {F:AES}{e:Env}{h h':Hp}{x y:O}
structure Hp.Wf (h:Hp):Prop where
 big:256<=h.next
 has:∀i,i<h.next->h.bl.has i
 fresh:∀i,h.next<=i->h.bl.get i=.dead
def Hp.push(h:Hp)(o:Blk):Hp:={next:=wQ h.next,low:=h.low,high:=h.high,mark:=h.mark,bl:=h.bl.lay h.next o}
def Hp.put(h:Hp)(b:Nat)(o:Blk):Hp:={next:=h.next,low:=B9 h.low b,high:=Cu h.high b,mark:=h.mark,bl:=h.bl.lay b o}
theorem Cv(a:h.Wf){o:Blk}{K:Nat->Hp->R}:Gg h o K=K h.next (h.push o):=by
 unfold Gg;rw[BT.AFA λc b=>a.has c b];simp only[Ae];rfl
theorem EE(c:h.Wf){b:Nat}(a:256<=b)(d:b<h.next){o:Blk}{K:Hp->R}:FH h b o K=K (h.put b o):=by
 unfold FH;rw[BT.AFA λf e=>c.has f (ACR e d),Am.2 a];simp only[Ae];rfl
theorem Hp.Wf.AEr(a:h.Wf)(o:Blk)(i:Nat):(h.push o).bl.get i=if i=h.next then o else h.bl.get i:=BT.AFV (λc b=>a.has c b) i
theorem Hp.Wf.AE1(a:h.Wf){b:Nat}(c:b<h.next)(o:Blk)(i:Nat):(h.put b o).bl.get i=if i=b then o else h.bl.get i:=BT.AFV (λe d=>a.has e (ACR d c)) i
theorem Hp.Wf.push(b:h.Wf)(o:Blk):(h.push o).Wf where
 big:=ABR b.big
 has:=λa c=>BT.AFd (λf e=>b.has f e) a (by
  have c:a<h.next+1:=c;rcases wh a h.next with d|d
  ·exact .inr (b.has a d)
  ·exact .inl (by omega))
 fresh:=λa c=>by
  have c:h.next+1<=a:=c;rw[b.AEr o a,If (by omega)];exact b.fresh a (by omega)
theorem Hp.Wf.put(c:h.Wf){b:Nat}(e:b<h.next)(o:Blk):(h.put b o).Wf where
 big:=c.big
 has:=λa d=>BT.AFd (λg f=>c.has g (ACR f e)) a (.inr (c.has a d))
 fresh:=λa d=>by
  have d:h.next<=a:=d;rw[c.AE1 e o a,If (by omega)];exact c.fresh a d
structure Hp.Ext (h h':Hp):Prop where
 next:h.next<=h'.next
 get:∀i,i<h.next->h'.bl.get i=h.bl.get i
 low:min h.low h.next<=h'.low
 wf:h'.Wf
theorem Hp.Ext.refl(a:h.Wf):h.Ext h:=⟨wB _,λ_ _=>rfl,AAJ _ _,a⟩
theorem Hp.Ext.trans{d e f:Hp}(a:d.Ext e)(b:e.Ext f):d.Ext f where
 next:=wy a.next b.next
 get:=λg c=>by rw[b.get g (xr c a.next),a.get g c]
 low:=by have:=a.low;have:=b.low;have:=a.next;omega
 wf:=b.wf
theorem Hp.Ext.push(a:h.Ext h')(o:Blk):h.Ext (h'.push o) where
 next:=ABR a.next
 get:=λc b=>by rw[a.wf.AEr,If (by have:=a.next;omega),a.get c b]
 low:=a.low
 wf:=a.wf.push o
theorem Hp.Ext.put(a:h.Ext h'){b:Nat}(f:h.next<=b)(c:b<h'.next)(o:Blk):h.Ext (h'.put b o) where
 next:=a.next
 get:=λe d=>by rw[a.wf.AE1 c,If (by omega),a.get e d]
 low:=by
  show _<=B9 h'.low b;rw[BV];have:=a.low;omega
 wf:=a.wf.put c o
def VT.Is(t:VT)(l:List vz):Prop:=∀a,a<l.length->t.has a/\t.get a=l.getD a AEU
theorem EG:∀(vs:List vz) (t:VT) (l:List vz) (i:Nat),t.Is l->i+vs.length<=l.length\/i=l.length->∃c,Bt t i vs=BY c/\c.Is (l.take i++vs++l.drop (i+vs.length))
 |[],t,l,i,f,j=>⟨t,rfl,by simpa using f⟩
 |v::vs,t,l,i,f,j=>by
  have r:i<=l.length:=by simp only[wK]at j;omega
  have h:∀a,a<i->t.has a:=λa k=>(f a (by omega)).1
  have p:(t.lay i v).Is (l.take i++[v]++l.drop (i+1)):=λa k=>by
   have b:(l.take i).length=i:=by simp;omega
   refine⟨VT.AFd h a ?_,?_⟩
   ·by_cases d:a=i
    ·exact .inl d
    ·right
     refine(f a ?_).1;simp only[wD,wK,xD,xT,wu]at k;omega
   ·rw[VT.AFV h]
    by_cases d:a=i
    ·rw[IT d,d,wG,wa,wi (by omega)]
     simp[b]
    ·rw[If d]
     have q:a<l.length:=by
      simp only[wD,wK,xD,xT,wu]at k;omega
     rw[(f a q).2,wG,wG]
     congr 1
     rcases wh a i with g|g
     ·rw[wa,wX (by omega),yY,IT g]
     ·rw[wi (by simp only[wD,b,wK,xD];omega),AAV]
      congr 1
      simp only[wD,b,wK,xD];omega
  have s:(l.take i++[v]++l.drop (i+1)).length=max l.length (i+1):=by
   simp only[wD,wK,xD,xT,wu];omega
  obtain⟨c,g,m⟩:=EG vs (t.lay i v) _ (i+1) p (by simp only[wK]at j;omega);refine⟨c,?_,?_⟩
  ·show(match t.set i v with|some c=>Bt c (wQ i) vs|none=>By)=_
   rw[VT.AFA h];exact g
  ·have e:(l.take i++[v]++l.drop (i+1)).take (i+1)++vs++(l.take i++[v]++l.drop (i+1)).drop (i+1+vs.length)=l.take i++(v::vs)++l.drop (i+(v::vs).length):=by
    have b:(l.take i++[v]).length=i+1:=by simp;omega
    rw[List.take_left' b];have n:i+1+vs.length=(l.take i++[v]).length+vs.length:=by rw[b]
    rw[n,List.drop_length_add_append,List.drop_drop];have o:i+1+vs.length=i+(v::vs).length:=by simp only[wK];omega
    rw[o];simp
   rw[e]at m;exact m
theorem tT:VT.mt.Is []:=λa h=>by cases h
def ofL(l:List vz):VT:=(Bt .mt 0 l).getD .mt
theorem IR(l:List vz):Bt .mt 0 l=BY (ofL l)/\(ofL l).Is l:=by
 obtain⟨c,a,b⟩:=EG l .mt [] 0 tT (.inr rfl);unfold ofL;rw[a];refine⟨rfl,?_⟩
 simpa using b
theorem VT.Is.of{t:VT}{l:List vz}(h:Bt .mt 0 l=BY t):t.Is l:=by
 have:=IR l;rw[h]at this;rw[Option.some.inj this.1];exact this.2
def Hp.Row(h:Hp)(b c:Nat)(l:List vz):Prop:=∃a,h.bl.get b=.cells a l.length c/\a.Is l
def Hp.AER(h:Hp)(a:Nat)(l:List vz):Hp:=h.push (.cells (ofL l) l.length a)
theorem Cw(b:h.Wf){a:Nat}{l:List vz}{K:Nat->Hp->R}:newRow h a l K=K h.next (h.AER a l):=by
 unfold newRow;rw[(IR l).1];show CP h a (ofL l) (DH l) K=_;unfold CP;rw[Ae,Cv b,Bf];rfl
theorem Hp.Row.lt(d:h.Wf){b e:Nat}{l:List vz}(r:h.Row b e l):b<h.next:=by
 obtain⟨f,c,_⟩:=r;rcases wh b h.next with a|a
 ·exact a
 ·rw[d.fresh b a]at c;cases c
theorem Hp.Row.new(b:h.Wf)(a:Nat)(l:List vz):(h.AER a l).Row h.next a l:=⟨ofL l,by unfold Hp.AER;rw[b.AEr,IT rfl],(IR l).2⟩
theorem Hp.Row.ext{b a:Nat}{l:List vz}(r:h.Row b a l)(c:h.Wf)(x:h.Ext h'):h'.Row b a l:=by
 have:=r.lt c;obtain⟨d,e,f⟩:=r;exact⟨d,(x.get b this).trans e,f⟩
theorem Hp.Row.push{b c:Nat}{l:List vz}(r:h.Row b c l)(a:h.Wf)(o:Blk):(h.push o).Row b c l:=r.ext a ((Hp.Ext.refl a).push o)
theorem Hp.Ext.AER(a:h.Ext h')(b:Nat)(l:List vz):h.Ext (h'.AER b l):=a.push _
theorem Hp.Row.rowOf{b a:Nat}{l:List vz}(r:h.Row b a l):∃c,rowOf h b=.ok c l.length a/\c.Is l:=by
 obtain⟨c,d,e⟩:=r;exact⟨c,by unfold Go.Proofs.YtldjiljipddebaaGreat.rowOf;rw[d];rfl,e⟩
theorem Hp.Row.AEV{b c off:Nat}{l:List vz}(r:h.Row b c l)(a:off<l.length):AEV ⟨b,off,By⟩ h=.ok (l.getD off AEU) h:=by
 obtain⟨f,d,e⟩:=r.rowOf;unfold Go.Proofs.YtldjiljipddebaaGreat.AEV;simp only[d];rw[BM.2 a];simp only[BR,(e off a).2]
theorem Is.AFr{c:VT}{l:List vz}(d:c.Is l)(off n:Nat)(e:off+n<=l.length):AFr c off n=(l.drop off).take n:=by
 refine ACr λb=>?_
 unfold Go.Proofs.YtldjiljipddebaaGreat.AFr;rw[List.getElem?_map,yY,AAV];by_cases a:b<n
 ·rw[IT a,List.getElem?_range a]
  have:=(d (off+b) (by omega)).2;rw[wG,wE (by omega)]at this;show BY (c.get (off+b))=_;rw[this,wE (by omega)];rfl
 ·rw[If a,yF (by simpa using a)];rfl
theorem Hp.Row.loadN{b c off n:Nat}{l:List vz}(r:h.Row b c l)(a:off+n<=l.length):loadN n ⟨b,off,By⟩ h=.ok (.agg ⟨(l.drop off).take n⟩) h:=by
 obtain⟨f,d,e⟩:=r.rowOf;unfold Go.Proofs.YtldjiljipddebaaGreat.loadN;simp only[d,yH];rw[Am.2 a];simp only[cond_true,GO,wT,Is.AFr e off n a]
theorem Hp.Row.src{b d off n c:Nat}{l:List vz}(r:h.Row b d l)(a:off+n<=l.length){sl:Nat}{k:List vz->R}:BP h 1 (.slice (BY ⟨b,off,By⟩) sl c) n k=k ((l.drop off).take n):=by
 obtain⟨i,f,g⟩:=r.rowOf;unfold BP;simp only[f];have e:xW n 1=n:=yp n;rw[e];simp only[yH];rw[Am.2 a];simp only[cond_true,GO,wT,Is.AFr g off n a]
def Hp.wr(h:Hp)(b off:Nat)(vs:List vz):Hp:=match rowOf h b with
 |.ok a c e=>h.put b (.cells ((Bt a off vs).getD a) c e)
 |.no=>h
def over(l:List vz)(off:Nat)(vs:List vz):List vz:=l.take off++vs++l.drop (off+vs.length)
theorem Su{l vs:List vz}{off:Nat}(a:off+vs.length<=l.length):(over l off vs).length=l.length:=by
 unfold over;simp only[wD,wu,xT];omega
theorem Hp.Row.AFf{b d off:Nat}{l vs:List vz}(r:h.Row b d l)(f:off+vs.length<=l.length):∃c,c.Is (over l off vs)/\h.wr b off vs=h.put b (.cells c (over l off vs).length d)/\
  ∀(a:h.Wf) (g:256<=b) (j:Bd vs=IN) (K:Hp->R),C3 ⟨b,off,By⟩ vs h K=K (h.wr b off vs):=by
 obtain⟨c,m,o⟩:=r.rowOf;obtain⟨i,k,n⟩:=EG vs c l off o (.inl f);have e:h.wr b off vs=h.put b (.cells i l.length d):=by
  unfold Hp.wr;rw[m];simp only[k,ABK]
 refine⟨i,n,by rw[Su f];exact e,λa g j K=>?_⟩;unfold C3;simp only[m,yH];rw[Bf,Am.2 f,j];simp only[cond_true,k];rw[e,EE a g (r.lt a)]
theorem Hp.Row.store{b d off:Nat}{l vs:List vz}(r:h.Row b d l)(c:h.Wf)(a:256<=b)(g:off+vs.length<=l.length)(e:Bd vs=IN)(K:Hp->R):C3 ⟨b,off,By⟩ vs h K=K (h.wr b off vs):=by
 obtain⟨_,_,_,f⟩:=r.AFf g;exact f c a e K
theorem Hp.Row.AEf{b c off:Nat}{l vs:List vz}(r:h.Row b c l)(a:h.Wf)(g:off+vs.length<=l.length):(h.wr b off vs).Row b c (over l off vs):=by
 obtain⟨d,f,e,_⟩:=r.AFf g;exact⟨d,by rw[e,a.AE1 (r.lt a),IT rfl],f⟩
theorem Hp.Row.AFg{b f off b' c:Nat}{l vs l':List vz}(r:h.Row b f l)(a:h.Wf)(k:off+vs.length<=l.length)(m:h.Row b' c l')(g:b'≠b):(h.wr b off vs).Row b' c l':=by
 obtain⟨n,o,e,_⟩:=r.AFf k;obtain⟨d,i,j⟩:=m;exact⟨d,by rw[e,a.AE1 (r.lt a),If g,i],j⟩
theorem Hp.Row.AEy{h0:Hp}{b a off:Nat}{l vs:List vz}(r:h.Row b a l)(x:h0.Ext h)(c:h0.next<=b)(d:off+vs.length<=l.length):h0.Ext (h.wr b off vs):=by
 obtain⟨f,g,e,_⟩:=r.AFf d;rw[e];exact x.put c (r.lt x.wf) _
theorem Hp.Row.AE7{b a off:Nat}{l vs:List vz}(r:h.Row b a l)(c:off+vs.length<=l.length):(h.wr b off vs).next=h.next:=by
 obtain⟨d,f,e,_⟩:=r.AFf c;rw[e];rfl
def Ho(v:vz)(h:Hp):R:=match EH v with
 |.ok a=>AEV a h
 |.no=>.no
theorem AJ:AO x F e h=Ho (x e) h:=by
 unfold AO Ho;cases EH (x e)<;>rfl
theorem AP{a:AAG}:Ho (.pointer (BY a)) h=AEV a h:=rfl
def II(n:Nat)(v:vz)(h:Hp):R:=match EH v with
 |.ok a=>loadN n a h
 |.no=>.no
theorem Ai{n:Nat}:BK n x F e h=II n (x e) h:=rfl
theorem Ac{n:Nat}{a:AAG}:II n (.pointer (BY a)) h=loadN n a h:=rfl
def AEa(n:Nat)(p v:vz)(h:Hp):R:=match EH p with
 |.ok a=>bif wU (DH (cellsOf v)) n then C3 a (cellsOf v) h EU else .no
 |.no=>.no
theorem AV{n:Nat}:Ad n x y F e h=AEa n (x e) (y e) h:=by
 unfold Ad AEa;simp only[BR];cases EH (x e)<;>rfl
theorem Hp.Row.AEa{n b d off:Nat}{l:List vz}{v:vz}(r:h.Row b d l)(c:h.Wf)(a:256<=b)(f:(cellsOf v).length=n)(g:off+(cellsOf v).length<=l.length)(e:Bd (cellsOf v)=IN):
  AEa n (.pointer (BY ⟨b,off,By⟩)) v h=.ok AEU (h.wr b off (cellsOf v)):=by
 show(bif wU (DH (cellsOf v)) n then C3 ⟨b,off,By⟩ (cellsOf v) h EU else .no)=_;rw[Bf,Ax.2 f,r.store c a g e];rfl
def gL(v:vz)(h:Hp):R:=bif known v then newRow h 0 (cellsOf v) Jd else .no
theorem EQ:CT x F e h=gL (x e) h:=by
 unfold CT gL;simp only[BR]
theorem EO(a:h.Wf){v:vz}(hk:known v=IN:=by rfl):gL v h=.ok (.pointer (BY ⟨h.next,0,By⟩)) (h.AER 0 (cellsOf v)):=by
 unfold gL;rw[hk,cond_true,Cw a];rfl
theorem BU(a:h.Wf){n:Nat}{t:VT}:Bc n t F e h=.ok (.pointer (BY ⟨h.next,0,By⟩)) (h.push (.cells t n 0)):=by
 unfold Bc;rw[Cv a];rfl
theorem Hp.Row.alloc(a:h.Wf){n:Nat}{t:VT}{l:List vz}(c:Bt .mt 0 l=BY t)(b:l.length=n):(h.push (.cells t n 0)).Row h.next 0 l:=⟨t,by rw[a.AEr,IT rfl,b],.of c⟩
theorem OG{n:Nat}:AE n x F e h=match EH (x e)with|.ok a=>.ok (.pointer (BY ⟨a.block,a.off+n,By⟩)) h|.no=>.no:=by
 unfold AE;cases EH (x e)with
 |ok a=>exact Ae _ _
 |no=>rfl
def Wt(n:Nat)(v:vz)(h:Hp):R:=match EH v with
 |.ok a=>.ok (.pointer (BY ⟨a.block,a.off+n,By⟩)) h
 |.no=>.no
theorem AH{n:Nat}:AE n x F e h=Wt n (x e) h:=OG
theorem AN{n b off:Nat}:Wt n (.pointer (BY ⟨b,off,By⟩)) h=.ok (.pointer (BY ⟨b,off+n,By⟩)) h:=rfl
def OD(n es:Nat)(p i:vz)(h:Hp):R:=NJ n es (EH p) (Dj i) h
theorem Da{n es:Nat}:Ci n es x y F e h=OD n es (x e) (y e) h:=rfl
theorem XJ{n es b off i:Nat}(hi:i<n):NJ n es (.ok ⟨b,off,By⟩) (.ok i) h=.ok (.pointer (BY ⟨b,off+i*es,By⟩)) h:=by
 show zd (motive:=λ_=>R) .no (PD ⟨b,off,By⟩ (xW i es) h) (xQ i n)=_;rw[BM.2 hi];exact Ae _ _
theorem XM{n es b off i:Nat}{k:we}(hi:i<n):OD n es (.pointer (BY ⟨b,off,By⟩)) (.int k (i:Int)) h=.ok (.pointer (BY ⟨b,off+i*es,By⟩)) h:=XJ hi
def AFM(es:Nat)(s i:vz)(h:Hp):R:=match s with
 |.slice (BY a) b _=>NJ b es (.ok a) (Dj i) h
 |_=>.no
theorem A1{es:Nat}:CF es x y F e h=AFM es (x e) (y e) h:=rfl
theorem DB{n c es b off i:Nat}{k:we}(hi:i<n):AFM es (.slice (BY ⟨b,off,By⟩) n c) (.int k (i:Int)) h=.ok (.pointer (BY ⟨b,off+i*es,By⟩)) h:=XJ hi
def AFB(v:vz)(h:Hp):R:=match v with
 |.slice _ a _=>.ok (AI AT (.ofNat a)) h
 |.chan (BY _)=>.ok (AI AT (.ofNat 0)) h
 |_=>.no
theorem Aa:Bh x F e h=AFB (x e) h:=rfl
theorem EK{o:Option AAG}{n c:Nat}:AFB (.slice o n c) h=.ok (AI AT (n:Int)) h:=rfl
end
section
variable {F:AES}{e:Env}{h h':Hp}{x y:O}
def bi:X->Bool
 |.norm _ _=>IS
 |.no=>IS
 |_=>IN
theorem SI{c:C}{I:Nat->Env->Hp->Prop}{Q:X->Prop}(N:Nat)
  (step:∀i e h,I i e h->(i<N/\∃a h',c F e h=.norm a h'/\I (i+1) a h')\/(bi (c F e h)=IN/\Q (c F e h))):
  ∀n i e h,N - i<n->I i e h->Q (iter c n F e h)
 |0,i,e,h,g,_=>absurd g (Nat.not_lt_zero _)
 |n+1,i,e,h,g,k=>by
  unfold iter;rcases step i e h k with ⟨d,a,h',b,j⟩|⟨d,b⟩
  ·rw[b]
   exact SI N step n (i+1) a h' (by omega) j
  ·cases f:c F e h with
   |norm a h'=>rw[f]at d;cases d
   |no=>rw[f]at d;cases d
   |exit i a h'=>rw[f]at b;exact b
   |ret a h'=>rw[f]at b;exact b
theorem Bb{a:C}(I:Nat->Env->Hp->Prop)(Q:X->Prop)(N:Nat)(c:N<8796093022208)
  (step:∀i e h,I i e h->(i<N/\∃b h',a F e h=.norm b h'/\I (i+1) b h')\/(bi (a F e h)=IN/\Q (a F e h)))(h0:I 0 e h):Q (A4 a F e h):=
 SI N step rounds 0 e h (by show N - 0<8796093022208;omega) h0
theorem Bl{n:Nat}(h:n<=9223372036854775807):zV.wrap (n:Int)=n:=Ie h
theorem fe{n:Int}(h0:0<=n)(h:n<=9223372036854775807):zV.wrap n=n:=by
 obtain⟨a,rfl⟩:=Int.eq_ofNat_of_zero_le h0;exact Ie (by omega)
theorem Eu{n:Nat}(h:n<=18446744073709551615):IntKind.u64.wrap (n:Int)=n:=D5 .u64 n h
theorem JC(n:Nat):ADb.wrap (n:Int)=((n % 256:Nat):Int):=by
 have:ADb.wrap (n:Int)=(n:Int) % 256:=rfl;rw[this];omega
def bv(n:Nat):vz:=.int .u8 (n:Int)
theorem Mt:∀l:List Nat,FL (l.map bv)=BY (l.map zr)
 |[]=>rfl
 |n::l=>by
  show(match FL (l.map bv)with|some a=>AEn n λn=>BY (zr n::a)|none=>By)=_;rw[Mt l];exact Ae _ _
theorem C8:∀l:List Nat,Bd (l.map bv)=IN
 |[]=>rfl
 |n::l=>C8 l
def Hp.Bytes(h:Hp)(v:vz)(l:List Nat):Prop:=(v=.slice By 0 0/\l=[])\/∃c b d e a,v=.slice (BY ⟨c,b,By⟩) l.length d/\h.Row c e a/\b+l.length<=a.length/\(a.drop b).take l.length=l.map bv
theorem Hp.Bytes.src{v:vz}{l:List Nat}(b:h.Bytes v l){n:Nat}(f:n=l.length)(k:List vz->R):BP h 1 v n k=k (l.map bv):=by
 subst f;rcases b with ⟨a,c⟩|⟨b,m,i,j,g,a,c,d,e⟩
 ·rw[a,c];rfl
 ·rw[a,c.src d,e]
theorem Hp.Bytes.shape{v:vz}{l:List Nat}(b:h.Bytes v l):∃a c,v=.slice a l.length c:=by
 rcases b with ⟨d,e⟩|⟨b,k,c,g,f,d,e,i,j⟩
 ·exact⟨By,0,by rw[d,e];rfl⟩
 ·exact⟨_,_,d⟩
def ur(v:vz)(h:Hp):R:=match v with
 |.slice b a d=>BP h 1 (.slice b a d) a λe=>match FL e with
  |some c=>.ok (.string ⟨⟨c⟩⟩) h
  |none=>.no
 |.chan f=>match f with
  |some _=>.ok (.string ⟨⟨[]⟩⟩) h
  |none=>.no
 |_=>.no
theorem La:F4 x F e h=ur (x e) h:=rfl
theorem Hp.Bytes.str{v:vz}{l:List Nat}(b:h.Bytes v l):ur v h=.ok (.string ⟨⟨l.map zr⟩⟩) h:=by
 obtain⟨a,d,rfl⟩:=b.shape;show BP h 1 (.slice a l.length d) l.length (λe=>match FL e with
  |some c=>.ok (.string ⟨⟨c⟩⟩) h
  |none=>.no)=_
 rw[b.src rfl,Mt]
def tJ(f:List UInt8->List UInt8->Bool)(a b:vz)(h:Hp):R:=fF f a b h
theorem QQ{f:List UInt8->List UInt8->Bool}:KM f x y F e h=tJ f (x e) (y e) h:=rfl
theorem Pk{f:List UInt8->List UInt8->Bool}{a b:List UInt8}:tJ f (.string ⟨⟨a⟩⟩) (.string ⟨⟨b⟩⟩) h=.ok (.bool (f a b)) h:=Fd
theorem X9{v:vz}{l:List Nat}(b:h.Bytes v l):lenV v=.ok l.length:=by
 obtain⟨a,c,rfl⟩:=b.shape;rfl
theorem Qy{eb en b c:Nat}{l:List vz}{v:vz}{m:List Nat}(d:h.Wf)(r:h.Row b 0 l)(i:h.Bytes v m)(u:c<l.length+m.length)(t:(l.length+m.length+1)*(eb+1)<=1099511627776):
  ∃h',DY 1 eb en (.slice (BY ⟨b,0,By⟩) l.length c) v h=.ok (.slice (BY ⟨h.next,0,By⟩) (l.length+m.length) (l.length+m.length)) h'/\h.Ext h'/\h'.Row h.next (en+1) (l++m.map bv)/\h'.next=h.next+1:=by
 obtain⟨j,g,q⟩:=r.rowOf;obtain⟨f,p,a⟩:=EG (m.map bv) j l l.length q (.inr rfl);have a:f.Is (l++m.map bv):=by
  have e:l.drop (l.length+(m.map bv).length)=[]:=xV (by omega);rw[e]at a
  simpa using a
 have s:(l++m.map bv).length=l.length+m.length:=by simp
 refine⟨h.push (.cells f (l.length+m.length) (en+1)),?_,(Hp.Ext.refl d).push _,⟨f,by rw[d.AEr,IT rfl,s],a⟩,rfl⟩;unfold DY;simp only[X9 i,i.src rfl,Ae,yH];have k:wY (l.length+m.length) c=IS:=by
  cases e:wY (l.length+m.length) c
  ·rfl
  ·have:=Am.1 e;omega
 have n:wY (xW (wQ (l.length+m.length)) (wQ eb)) JZ=IN:=Am.2 (HP t);rw[k];simp only[n,cond_true,C8];unfold Gv;have o:wU l.length (xW l.length 1)=IN:=Ax.2 (yp _).symm;simp only[g,o,p];unfold Ez;simp only[g,Bf,wF,yH];unfold CP;rw[Ae,Cv d];rfl
theorem Qz{eb en b n c i:Nat}{l:List vz}{v:vz}(e:h.Wf)(d:256<=b)(r:h.Row b i l)(a:h.Bytes v [])(j:n<=c)(k:n<=l.length):
  DY 1 eb en (.slice (BY ⟨b,0,By⟩) n c) v h=.ok (.slice (BY ⟨b,0,By⟩) n c) (h.wr b n []):=by
 unfold DY;simp only[X9 a,a.src rfl,Ae,yH];have f:wY n c=IN:=Am.2 j;have e0:n+([]:List Nat).length=n:=rfl;simp only[e0,f,List.map_nil];have g:Fc ⟨b,0,By⟩ (xW n 1)=⟨b,n,By⟩:=by
  rw[show xW n 1=n from yp n];cases n with
  |zero=>rfl
  |succ n=>show(⟨b,yK 0 (wQ n),By⟩:AAG)=_;rw[yH,wC]
 rw[g,r.store e d (by simpa using k) rfl]
def DX(es eb en:Nat)(s v:vz)(h:Hp):R:=DY es eb en s v h
theorem BD{es eb en:Nat}:Bm es eb en x y F e h=DX es eb en (x e) (y e) h:=rfl
theorem Bw{cs:List vz}{k:List vz->R}:Ey cs e k []=k cs:=C9 _ _
theorem A3{cs:List vz}{k:List vz->R}{off size:Nat}{rest:List (Nat×Nat×O)}(hk:known (x e)=IN:=by rfl):Ey cs e k ((off,size,x)::rest)=(if(cellsOf (x e)).length=size then(if off+size<=cs.length then Ey (over cs off (cellsOf (x e))) e k rest else .no)else .no):=by
 have e0:Ey cs e k ((off,size,x)::rest)=(bif known (x e)then(bif wU (DH (cellsOf (x e))) size then(bif wY (yK off size) (DH cs)then Ey (lay cs off (cellsOf (x e))) e k rest else .no)else .no)else .no):=BR _ _;have c:Ey cs e k ((off,size,x)::rest)=(bif wU (DH (cellsOf (x e))) size then(bif wY (yK off size) (DH cs)then Ey (lay cs off (cellsOf (x e))) e k rest else .no)else .no):=by rw[e0,hk];rfl
 rw[c,Bf,Bf,AFA];by_cases a:(cellsOf (x e)).length=size
 ·rw[IT a,Ax.2 a]
  by_cases b:off+size<=cs.length
  ·rw[IT b,show wY (yK off size) cs.length=IN from Am.2 b];rfl
  ·rw[If b]
   have:wY (yK off size) cs.length=IS:=by
    cases e:wY (yK off size) cs.length
    ·rfl
    ·exact absurd (Am.1 e) b
   rw[this];rfl
 ·rw[If a]
  have:wU (cellsOf (x e)).length size=IS:=by
   cases e:wU (cellsOf (x e)).length size
   ·rfl
   ·exact absurd (Ax.1 e) a
  rw[this];rfl
theorem Cr{k:we}{n:Int}:cellsOf (.int k n)=[.int k n]:=rfl
theorem FF{l vs:List vz}(a:l.length=vs.length):over l 0 vs=vs:=by
 unfold over;rw[List.take_zero,xI,xV (by omega),wT]
theorem Cx{a:List vz}{ps:List (Nat×Nat×O)}:BW a ps F e h=Ey a e (λcs=>.ok (.agg ⟨cs⟩) h) ps:=rfl
theorem CQ{n:Nat}{a:List vz}{ps:List (Nat×Nat×O)}:Ap n a ps F e h=Ey a e (λcs=>newRow h 0 cs (FI n n)) ps:=rfl
def Hp.marked(h:Hp):Hp:={next:=h.next,low:=h.low,high:=h.high,mark:=h.next,bl:=h.bl}
def Hp.quiet(h:Hp):Hp:={next:=h.next,low:=h.next,high:=0,mark:=h.mark,bl:=h.bl}
def Hp.back(h h':Hp):Hp:={next:=h'.next,low:=B9 h.low h'.low,high:=Cu h.high h'.high,mark:=h.mark,bl:=h'.bl}
theorem Ar{k:C}:B4 k F e h=k F e h.marked:=rfl
theorem Hp.Wf.marked(a:h.Wf):h.marked.Wf:=⟨a.big,a.has,a.fresh⟩
theorem Hp.Wf.quiet(a:h.Wf):h.quiet.Wf:=⟨a.big,a.has,a.fresh⟩
theorem Hp.Ext.marked{h0:Hp}(x:h0.Ext h):h0.Ext h.marked:=⟨x.next,x.get,x.low,x.wf.marked⟩
theorem Hp.Row.same{b a:Nat}{l:List vz}(r:h.Row b a l)(d:h'.bl=h.bl):h'.Row b a l:=by
 obtain⟨c,e,f⟩:=r;exact⟨c,by rw[d];exact e,f⟩
theorem Hp.Ext.back(x:h.quiet.Ext h'):h.Ext (h.back h') where
 next:=x.next
 get:=x.get
 low:=by
  show _<=B9 h.low h'.low;rw[BV];have a:min h.next h.next<=h'.low:=x.low;omega
 wf:=⟨x.wf.big,x.wf.has,x.wf.fresh⟩
theorem Cd{f:OpF}{m:Qm}{v:vz}(a:f F e h.quiet=.ok v h')(x:h.quiet.Ext h')(d:h.mark<=h.next):AZ m f F e h=.ok v (h.back h'):=by
 have c:min h.next h.next<=h'.low:=x.low;have b:qOk m h h'.low=IN:=by
  cases m with
  |AEk=>exact Am.2 (by omega)
  |weak=>exact Am.2 (by omega)
  |free=>rfl
 show(match f F e h.quiet with|.ok v h'=>bif qOk m h h'.low then DK h v h' else .no|.no=>.no)=_;rw[a];simp only[b,cond_true];unfold DK;simp only[Ae];rfl
theorem BE{f:OpF}{v:vz}(a:f F e h.quiet=.ok v h'):AZ .free f F e h=.ok v (h.back h'):=by
 show(match f F e h.quiet with|.ok v h'=>bif qOk .free h h'.low then DK h v h' else .no|.no=>.no)=_;rw[a];show DK h v h'=_;unfold DK;simp only[Ae];rfl
def IU(v:vz)(k:C)(F:AES)(e:Env)(h:Hp):X:=match AE0 v with
 |.ok a=>bif xQ a h.mark then k F e h else .no
 |.no=>k F e h
theorem D7{k:C}:Ee x k F e h=IU (x e) k F e h:=rfl
theorem DO{b off:Nat}{k:C}(a:b<h.mark):IU (.pointer (BY ⟨b,off,By⟩)) k F e h=k F e h:=by
 show(bif xQ b h.mark then k F e h else .no)=_;rw[BM.2 a];rfl
theorem DL{k:C}:Ck x [] k F e h=k F e h:=by
 unfold Ck;cases AE0 (x e)<;>rfl
theorem Hp.Ext.quiet{h0:Hp}(x:h0.Ext h):h0.Ext h.quiet:=⟨x.next,x.get,by show _<=h.next;have:=x.next;omega,x.wf.quiet⟩
theorem Hp.Ext.AFY{h0:Hp}(x:h0.Ext h)(y:h0.Ext h'):h0.Ext (h.back h') where
 next:=y.next
 get:=y.get
 low:=by
  show _<=B9 h.low h'.low;rw[BV];have:=x.low;have:=y.low;omega
 wf:=⟨y.wf.big,y.wf.has,y.wf.fresh⟩
end
end
noncomputable section
open Go Go.RowKit Go.WideShapes Go.ChangeShapes
def sliceAt(b:Nat)(a:AAG)(n c:Nat):Phi:=λd=>if d=b then BY {blk:=a.block,off:=a.off,sz:=c,room:=c,es:=1,inp:=IN}else By
theorem Zc{P:xU}{b:xG}{base t e:Nat}{v:vz}(g:P.underlying t=BY (.slice e))(h:yc P b .any base t v):
  v=.slice By 0 0\/∃a n c,v=.slice (BY a) n c/\n<=c/\a.spot=By/\a.block<b.heap.size:=by
 unfold yc at h;rw[g]at h;simp only at h;unfold AB8 at h;rw[g]at h;have h:Cell.ok P b .any base t v:=by cases v<;>exact h
 unfold Cell.ok at h;rw[g]at h;split at h<;>first|(exact h.elim;done)|skip
 all_goals (rename_i i _;cases i)
 ·exact .inl rfl
 ·obtain⟨j,_,k⟩:=h
  obtain⟨_,l,row,cells,d,_⟩:=k;refine .inr ⟨_,_,_,rfl,j,l,?_⟩;unfold World.shape? at d;split at d
  ·rename_i f;exact(zJ.1 f).1
  all_goals first|(cases d;done)|(rename_i f;exact(zJ.1 f).1)
theorem VN{P:xU}{b:xG}{base t e:Nat}{v:vz}(d:P.underlying t=BY (.slice e))(h:AB8 P b .any base t v):
  v=.slice By 0 0\/∃a n c,v=.slice (BY a) n c/\n<=c/\a.spot=By/\a.block<b.heap.size:=
 Zc (base:=base) d (by unfold yc;rw[d];exact h)
end
noncomputable section
open Go Go.RowKit Go.WideShapes Go.ChangeShapes
theorem kU{P:xU}{ty:TTy}{bs:FT}(b:∀n,Dg P ty (call bs n)){n f:Nat}{xs a:List vz}{φ:Phi}{w:xG}{h0 h':Hp}(j:call bs n f xs h0=.ok (.bool IN) h')(x:h0.Ext h')(s:h0.low=h0.next)
  (c:AEp φ xs a)(H:AEZ ty φ nil h0 w):Calls P f ⟨a⟩ w λe w'=>e=.returned (.bool IN)/\Below w.heap.size w w':=by
 obtain⟨_,d⟩:=b n f xs h0 _ h' j;refine(d φ w a c H).mono λe w' ⟨u,y,g,k,_,ev⟩=>?_
 have:=k.AFP;subst this;refine⟨g,⟨ev.os,ev.tape,ev.output,ev.size,λm h=>ev.frame m h λl o i t p _ _=>?_⟩⟩;have q:=(H.dom l o i).1;have r:=x.low;omega
theorem Od:∀(n i:Nat),i+1<2 ^ n->(Fz n).has i
 |0,i,a=>by rw[Nat.pow_zero]at a;omega
 |n+1,0,_=>trivial
 |n+1,b+1,a=>by
  show(BT.nd .dead (Fz n) (Fz n)).has (b+1);rw[BT.AEe];have c:b/2+1<2 ^ n:=by
   have:2 ^ (n+1)=2*2 ^ n:=by rw[AD2,yR]
   omega
  split<;>exact Od n _ c
def Lu(a:List vz):Blk:=.cells (ofL a) a.length 0
def inB:List (List vz)->Nat->BT->BT
 |[],_,a=>a
 |L::c,b,a=>inB c (b+1) (a.lay b (Lu L))
theorem Px:∀(a:List (List vz)) (i:Nat) (t:BT),(∀j,j<256->t.has j)->i+a.length<=256->
  (∀j,j<256->(inB a i t).has j)/\(∀k L,a[k]? =BY L->(inB a i t).get (i+k)=Lu L)/\(∀j,j<i\/i+a.length<=j->(inB a i t).get j=t.get j)
 |[],i,t,d,_=>⟨d,(λk L b=>by cases b),λ_ _=>rfl⟩
 |L::a,i,t,d,m=>by
  have n:i+1+a.length<=256:=by simp only[wK]at m;omega
  have e:∀j,j<i->t.has j:=λj c=>d j (by omega)
  obtain⟨h,l,g⟩:=Px a (i+1) (t.lay i (Lu L)) (λj c=>BT.AFd e j (.inr (d j c))) n;refine⟨h,λk f b=>?_,λj c=>?_⟩
  ·cases k with
   |zero=>
    obtain rfl:L=f:=Option.some.inj b;show(inB a (i+1) (t.lay i (Lu L))).get i=_;rw[g i (.inl (ADC i)),BT.AFV e,IT rfl]
   |succ k=>
    have:=l k f b;rw[show i+1+k=i+(k+1)by omega]at this;exact this
  ·show(inB a (i+1) (t.lay i (Lu L))).get j=_
   simp only[wK]at c;rw[g j (by omega),BT.AFV e,If (by omega)]
def inH(a:List (List vz)):Hp:={next:=256,low:=256,high:=0,mark:=256,bl:=inB a 0 (Fz 9)}
theorem NE(j:Nat)(a:j<256):(Fz 9).has j:=Od 9 j (by omega)
theorem Py{Ls:List (List vz)}(hl:Ls.length<=256){i:Nat}{L:List vz}(h:Ls[i]? =BY L):(inH Ls).bl.get i=Lu L:=by
 have:=(Px Ls 0 (Fz 9) NE (by omega)).2.1 i L h
 rwa [wC]at this
theorem cJ{a:List (List vz)}(d:a.length<=256):(inH a).Wf where
 big:=wB _
 has:=(Px a 0 (Fz 9) NE (by omega)).1
 fresh:=λb c=>by
  have c:256<=b:=c;have:=(Px a 0 (Fz 9) NE (by omega)).2.2 b (.inr (by omega));show(inB a 0 (Fz 9)).get b=_;rw[this];exact LN 9 b
theorem Pz{b:List (List vz)}(c:b.length<=256){i:Nat}{a:List vz}(h:b[i]? =BY a):(inH b).Row i 0 a:=⟨ofL a,Py c h,(IR a).2⟩
def Lk(e:xG)(a:AAG)(c:List vz):Prop:=∃d f fr,e.heap[a.block]? =BY (.cells d f fr)/\(∀b,b<c.length->d[a.off+b]? =BY (c.getD b AEU))/\∀b,b<c.length->¬(fr.1<=a.off+b/\a.off+b<fr.2)
def QX(a:AAG)(c:Nat):Pl:={blk:=a.block,off:=if c=0 then 0 else a.off,sz:=c,room:=c,es:=1,inp:=IN}
def Ol(ps:List (Option Pl)):Phi:=λa=>(ps[a]?).getD By
theorem eH{k:xG}{ty:TTy}{φ:Phi}{a:AAG}{b g:List vz}(h:Lk k a g)(m:AEp φ b g):AFT ty φ (QX a b.length) (Lu b) k.heap[a.block]?:=by
 obtain⟨l,u,fr,p,i,n⟩:=h;have q:g.length=b.length:=m.length;rw[q]at i n;rw[p];refine .cells {kind:=⟨rfl,.inl ⟨rfl,rfl,rfl,.inr rfl⟩⟩,room:=wB _,fits:=?_,loose:=.inr ⟨rfl,rfl,λe c f=>?_⟩,cell:=λd j=>?_}
 ·show(if b.length=0 then 0 else a.off)+b.length<=l.size
  rcases xL b.length with h0|h0
  ·rw[IT h0,h0];exact wl _
  ·rw[If (by omega)]
   have:=(zJ.1 (i (b.length - 1) (by omega))).1;omega
 ·have c:(if b.length=0 then 0 else a.off)<=e:=c
  have f:e<(if b.length=0 then 0 else a.off)+b.length:=f;rcases xL b.length with h0|h0
  ·rw[IT h0]at f;omega
  ·rw[If (by omega)]at c f
   have:=n (e - a.off) (by omega);have o:a.off+(e - a.off)=e:=by omega
   rw[o]at this;exact this
 ·have c:=i d j
  obtain⟨t,r,s⟩:=m.get d (b.getD d AEU) (by rw[wG,wE j];rfl);refine⟨t,?_,?_⟩
  ·show l[(if b.length=0 then 0 else a.off)+d]? =_
   rw[If (by omega),c,wG,r];rfl
  ·rw[((IR b).2 d j).2];exact s
theorem Lk.lt{b:xG}{a:AAG}{c:List vz}(h:Lk b a c):a.block<b.heap.size:=by
 obtain⟨e,f,fr,d,_⟩:=h;exact(zJ.1 d).1
theorem rA{k:xG}{ty:TTy}{ps:List (Option Pl)}{j:List (List vz)}(g:j.length<=256)
  (h:∀i p,Ol ps i=BY p->∃a b,p=QX a b.length/\j[i]? =BY b/\a.block<k.heap.size/\AFT ty (Ol ps) (QX a b.length) (Lu b) k.heap[a.block]?):AEZ ty (Ol ps) nil (inH j) k where
 dom:=λi p d=>by
  obtain⟨a,b,rfl,c,l,_⟩:=h i p d;have e:=(wW.1 c).1;exact⟨by show i<256;omega,l⟩
 inj:=λi q p r c l _ _ _ _ n=>by
  obtain⟨a,b,rfl,_⟩:=h i p c;obtain⟨u,t,rfl,_⟩:=h q r l;rcases n with e|e<;>cases e
 row:=λi p d _=>by
  obtain⟨a,b,rfl,c,_,e⟩:=h i p d;rw[Py g c];exact e
 fresh:=(cJ g).fresh
 kind:=λi p m s d o f=>by
  obtain⟨a,b,rfl,c,_,e⟩:=h i p o;rw[Py g c]at f;have f:Blk.cells (ofL b) b.length 0=.cells m s d:=f;cases f;exact⟨rfl,.inl ⟨rfl,rfl,rfl,.inr rfl⟩⟩
 inp:=λi p d _=>by
  obtain⟨a,b,rfl,c,_⟩:=h i p d;have e:=(wW.1 c).1;omega
theorem uq{φ:Phi}{a:AAG}{n c i:Nat}(e:a.spot=By)(b:n<=c)(d:φ i=BY (QX a c)):AEX φ (.slice (BY ⟨i,0,By⟩) n c) (.slice (BY a) n c):=by
 refine .slice b ⟨rfl,e,_,d,rfl,?_⟩;rcases xL c with h|h
 ·exact .inr ⟨h,.inl h⟩
 ·refine .inl ⟨h,?_,.inl rfl⟩
  show a.off=(if c=0 then 0 else a.off)+0;rw[If (by omega),xy]
def ints(k:we)(Z:List Int):List vz:=Z.map (.int k)
def vN(k:we)(e:xG)(v:vz)(zs:List Int):Prop:=(v=.slice By 0 0/\zs=[])\/∃(b:AAG) (d c:Nat) (a:List Int),v=.slice (BY b) d c/\d<=c/\b.spot=By/\a.length=c/\zs=a.take d/\Lk e b (ints k a)
def Hp.AEs(h:Hp)(v:vz)(xs:List vz):Prop:=(v=.slice By 0 0/\xs=[])\/∃c b d e a,v=.slice (BY ⟨c,b,By⟩) xs.length d/\h.Row c e a/\b+xs.length<=a.length/\(a.drop b).take xs.length=xs
def Zq(c:xG)(a:List vz)(q:Option Pl):Prop:=q=By\/∃b,q=BY (QX b a.length)/\Lk c b a
end
noncomputable section
open Go Go.RowKit Go.ChangeShapes
theorem sT:type_of% (wg @HS (wg @Pb (wg @HF (wg @aM (wg @Hx (wg @BC (wg @Aw (wg @Mv (wg @WC (wg @Q7 (wg @HT (wg @bW (wg @JS (wg @Hz (wg @BA (wg @PI (wg @Ce (wg @DU (wg @B7 (wg @A6 (wg @EM (wg @Gw @AG)))))))))))))))))))))):=wg @HS (wg @Pb (wg @HF (wg @aM (wg @Hx (wg @BC (wg @Aw (wg @Mv (wg @WC (wg @Q7 (wg @HT (wg @bW (wg @JS (wg @Hz (wg @BA (wg @PI (wg @Ce (wg @DU (wg @B7 (wg @A6 (wg @EM (wg @Gw @AG)))))))))))))))))))))
theorem iN:type_of% (wg @Kf (wg @L3 (wg @ACh @wC))):=wg @Kf (wg @L3 (wg @ACh @wC))
theorem cA0:type_of% (wg @BG (wg @AS @Av)):=(wg @BG (wg @AS @Av))
theorem lV0:type_of% (wg @A7 @NB):=(wg @A7 @NB)
theorem gD:type_of% (wg @UC (wg @Oj (wg @Oi (wg @Oh (wg @Og (wg @Lr (wg @TR (wg @Sn (wg @Nq @Ly))))))))):=wg @UC (wg @Oj (wg @Oi (wg @Oh (wg @Og (wg @Lr (wg @TR (wg @Sn (wg @Nq @Ly))))))))
section
variable {F:AES}{e:Env}{h h':Hp}{x y:O}
theorem Hp.AEs.ext{v:vz}{l:List vz}(b:h.AEs v l)(d:h.Wf)(x:h.Ext h'):h'.AEs v l:=by
 rcases b with a|⟨b,j,e,f,c,a,g,i⟩
 ·exact .inl a
 ·exact .inr ⟨b,j,e,f,c,a,g.ext d x,i⟩
theorem Hp.AEs.same{v:vz}{l:List vz}(b:h.AEs v l)(i:h'.bl=h.bl):h'.AEs v l:=by
 rcases b with a|⟨b,j,d,e,c,a,f,g⟩
 ·exact .inl a
 ·exact .inr ⟨b,j,d,e,c,a,f.same i,g⟩
theorem Hp.AEs.src{v:vz}{l:List vz}(b:h.AEs v l){n:Nat}(f:n=l.length)(k:List vz->R):BP h 1 v n k=k l:=by
 subst f;rcases b with ⟨a,c⟩|⟨b,m,i,j,g,a,c,d,e⟩
 ·rw[a,c];rfl
 ·rw[a,c.src d,e]
theorem Hp.AEs.shape{v:vz}{l:List vz}(b:h.AEs v l):∃a c,v=.slice a l.length c:=by
 rcases b with ⟨d,e⟩|⟨b,k,c,g,f,d,e,i,j⟩
 ·exact⟨By,0,by rw[d,e];rfl⟩
 ·exact⟨_,_,d⟩
theorem Hp.AEs.len{v:vz}{l:List vz}(b:h.AEs v l):AFB v h=.ok (AI AT (l.length:Int)) h:=by
 obtain⟨a,c,rfl⟩:=b.shape;rfl
theorem Hp.AEs.lenV{v:vz}{l:List vz}(b:h.AEs v l):lenV v=.ok l.length:=by
 obtain⟨a,c,rfl⟩:=b.shape;rfl
theorem Hp.AEs.at{v:vz}{l:List vz}(b:h.AEs v l){i:Nat}(hi:i<l.length):∃a,AFM 1 v (AI AT (i:Int)) h=.ok (.pointer (BY a)) h/\Ho (.pointer (BY a)) h=.ok (l.getD i AEU) h:=by
 rcases b with ⟨d,c⟩|⟨b,g,k,m,j,d,c,n,e⟩
 ·rw[c]at hi;cases hi
 ·refine⟨⟨b,g+i*1,By⟩,by rw[d];exact DB hi,?_⟩
  rw[AP,c.AEV (by omega)];have:=congrArg (λf=>f[i]?) e;simp only[yY,AAV,IT hi]at this;rw[wG,yp,this,wG]
theorem Hp.AEs.bytes{v:vz}{l:List Nat}(b:h.AEs v (l.map bv)):h.Bytes v l:=by
 rcases b with ⟨a,c⟩|⟨b,j,g,i,f,a,c,d,e⟩
 ·exact .inl ⟨a,by cases l with
   |nil=>rfl
   |cons k l=>cases c⟩
 ·rw[wF]at a d e
  exact .inr ⟨b,j,g,i,f,a,c,d,e⟩
theorem Hp.AEs.cut{v:vz}{l:List vz}(b:h.AEs v l){n:Nat}(f:n<l.length):∃o c,v=.slice (BY o) l.length c/\h.AEs (.slice (BY o) n c) (l.take n):=by
 rcases b with ⟨d,a⟩|⟨b,g,c,j,i,d,a,m,k⟩
 ·rw[a]at f;cases f
 ·have e:(l.take n).length=n:=by rw[wu];omega
  refine⟨⟨b,g,By⟩,c,d,.inr ⟨b,g,c,j,i,by rw[e],a,by omega,?_⟩⟩;rw[e,<- k,List.take_take,yz (by omega)]
def AEu(v:vz)(b:Nat):Prop:=∃d c a,v=.slice (BY ⟨b,d,By⟩) c a
theorem Gl{b:Nat}:¬AEu (.slice By 0 0) b:=λ⟨_,_,_,h⟩=>by cases h
theorem MK{b b' n c:Nat}(h:b'≠b):¬AEu (.slice (BY ⟨b,0,By⟩) n c) b':=λ⟨_,_,_,e⟩=>by
 injection e with e _ _
 injection e with e
 injection e with e _ _
 exact h e.symm
def Hp.Own(h:Hp)(k en:Nat)(v:vz)(xs:List vz):Prop:=(v=.slice By 0 0/\xs=[])\/∃a,v=.slice (BY ⟨a,0,By⟩) xs.length xs.length/\h.Row a (en+1) xs/\k<=a/\256<=a
theorem Hp.Own.vals{k en:Nat}{v:vz}{xs:List vz}(o:h.Own k en v xs):h.AEs v xs:=by
 rcases o with a|⟨b,a,c,_⟩
 ·exact .inl a
 ·exact .inr ⟨b,0,_,_,xs,a,c,by omega,by rw[List.drop_zero,List.take_length]⟩
theorem Hp.Own.le{k k' en:Nat}{v:vz}{xs:List vz}(o:h.Own k en v xs)(hk:k'<=k):h.Own k' en v xs:=by
 rcases o with a|⟨b,a,c,d,e⟩
 ·exact .inl a
 ·exact .inr ⟨b,a,c,wy hk d,e⟩
theorem Hp.Own.keep{k en:Nat}{v:vz}{xs:List vz}(o:h.Own k en v xs)(hk:∀b d c,AEu v b->h.Row b d c->h'.Row b d c):h'.Own k en v xs:=by
 rcases o with a|⟨b,a,e,f,g⟩
 ·exact .inl a
 ·exact .inr ⟨b,a,hk b _ _ ⟨0,_,_,a⟩ e,f,g⟩
theorem Hp.Own.ext{k en:Nat}{v:vz}{xs:List vz}(o:h.Own k en v xs)(a:h.Wf)(x:h.Ext h'):h'.Own k en v xs:=o.keep λ_ _ _ _ b=>b.ext a x
theorem Hp.Own.same{k en:Nat}{v:vz}{xs:List vz}(o:h.Own k en v xs)(a:h'.bl=h.bl):h'.Own k en v xs:=o.keep λ_ _ _ _ b=>b.same a
theorem FG{h0:Hp}{eb en k:Nat}{v u:vz}{xs ys:List vz}(n:h0.Ext h)(hk:h0.next<=k)(t:k<=h.next)(o:h.Own k en v xs)(y:h.AEs u ys)(R:0<ys.length)(r:Bd ys=IN)(x:(xs.length+ys.length+1)*(eb+1)<=1099511627776):
  ∃h' v',DX 1 eb en v u h=.ok v' h'/\h0.Ext h'/\h'.Own k en v' (xs++ys)/\h'.next=h.next+1/\∀b q p,¬AEu v b->h.Row b q p->h'.Row b q p/\¬AEu v' b:=by
 have a:=n.wf;rcases o with ⟨rfl,rfl⟩|⟨b,rfl,A,P,J⟩
 ·obtain⟨t1,t2⟩:=IR ys
  refine⟨h.push (.cells (ofL ys) ys.length (en+1)),.slice (BY ⟨h.next,0,By⟩) ys.length ys.length,?_,n.push _,.inr ⟨h.next,rfl,⟨ofL ys,by rw[a.AEr,IT rfl];rfl,t2⟩,t,a.big⟩,rfl,λd H C _ c=>⟨c.push a _,MK (by have:=c.lt a;omega)⟩⟩;unfold DX DY;simp only[y.lenV,y.src rfl,Ae,yH,wC];have l:wY ys.length 0=IS:=by
   cases e:wY ys.length 0
   ·rfl
   ·have:=Am.1 e;omega
  have m:wY (xW (wQ ys.length) (wQ eb)) JZ=IN:=Am.2 (HP (by
   have:=x;simp only[xD,wC]at this;exact this))
  rw[l];simp only[m,cond_true,r];unfold Gv BP J7;simp only[xI,t1];unfold Ez;simp only[Bf];unfold CP;rw[Ae,Cv a];rfl
 ·obtain⟨E,s,L⟩:=A.rowOf
  obtain⟨i,I,f⟩:=EG ys E xs xs.length L (.inr rfl);have f:i.Is (xs++ys):=by
   have e:xs.drop (xs.length+ys.length)=[]:=xV (by omega);rw[e]at f
   simpa using f
  have w:(xs++ys).length=xs.length+ys.length:=wD;have g:=A.lt a;have j:(h.put b .dead).Wf:=a.put g _;have O:h0.Ext (h.put b .dead):=n.put (by omega) g _;refine⟨(h.put b .dead).push (.cells i (xs.length+ys.length) (en+1)),.slice (BY ⟨h.next,0,By⟩) (xs.length+ys.length) (xs.length+ys.length),?_,O.push _,.inr ⟨h.next,by rw[w],⟨i,by
   have:=j.AEr (.cells i (xs.length+ys.length) (en+1)) h.next;rw[this,IT (show h.next=(h.put b .dead).next from rfl),w],f⟩,t,a.big⟩,rfl,λd H C N c=>?_⟩
  ·unfold DX DY
   simp only[y.lenV,y.src rfl,Ae,yH];have l:wY (xs.length+ys.length) xs.length=IS:=by
    cases e:wY (xs.length+ys.length) xs.length
    ·rfl
    ·have:=Am.1 e;omega
   have m:wY (xW (wQ (xs.length+ys.length)) (wQ eb)) JZ=IN:=Am.2 (HP x);rw[l];simp only[m,cond_true,r];unfold Gv;have F:wU xs.length (xW xs.length 1)=IN:=Ax.2 (yp _).symm;simp only[s,F,I];unfold Ez;have G:Lm 0 xs.length 1 xs.length=IN:=by
    unfold Lm;cases xs.length with
    |zero=>rfl
    |succ z=>exact Ax.2 (by show 0+(z+1)*1=z+1;omega)
   simp only[s,Bf,yH,yG,cond_true,G];rw[EE a J g];unfold CP;rw[Ae,Cv j];rfl
  ·have B:d≠b:=λe=>N ⟨0,_,_,by rw[e]⟩
   have Q:d<h.next:=c.lt a;obtain⟨D,K,M⟩:=c;refine⟨⟨D,?_,M⟩,MK (by omega)⟩;rw[j.AEr,If (by show d≠h.next;omega),a.AE1 g,If B,K]
theorem I4(b:h.Wf){g:O}{z v:vz}(a:g e=v)(hk:known v=IN)(c:cellsOf v=[v]):Ap 1 [z] [(0,1,g)] F e h=.ok (.slice (BY ⟨h.next,0,By⟩) 1 1) (h.AER 0 [v]):=by
 rw[CQ,A3 (hk:=by rw[a];exact hk),a,c,IT (show [v].length=1 from rfl),IT (show 0+1<=[z].length from wB _),Bw,Cw b];rfl
theorem Nk(a:h.Wf){v:vz}:(h.AER 0 [v]).AEs (.slice (BY ⟨h.next,0,By⟩) 1 1) [v]:=.inr ⟨h.next,0,1,0,[v],rfl,Hp.Row.new a 0 [v],by simp,rfl⟩
theorem Hv(k:we):∀Z:List Int,Bd (ints k Z)=IN
 |[]=>rfl
 |z::Z=>Hv k Z
theorem MY{h0:Hp}{eb en k:Nat}{v:vz}{xs:List vz}{n:Int}{kd:we}(e:h0.Ext h)(hk:h0.next<=k)(p:k<=h.next)(o:h.Own k en v xs)(q:(xs.length+2)*(eb+1)<=1099511627776):
  ∃h' v',DX 1 eb en v (.slice (BY ⟨h.next,0,By⟩) 1 1) (h.AER 0 [.int kd n])=.ok v' h'/\h0.Ext h'/\h'.Own k en v' (xs++[.int kd n])/\h'.next=h.next+2/\∀b d a,¬AEu v b->h.Row b d a->h'.Row b d a/\¬AEu v' b:=by
 have c:=e.wf;have t:=e.AER 0 [.int kd n];have r:(h.AER 0 [.int kd n]).Own k en v xs:=o.ext c ((Hp.Ext.refl c).AER _ _);obtain⟨h',v',f,b,i,j,l⟩:=FG (eb:=eb) t hk (ABR p) r (Nk c) (by simp) rfl (by simpa using q);exact⟨h',v',f,b,i,j,λg d a m s=>l g d a m (s.push c _)⟩
def HD(F:AES)(v:vz)(a:List vz)(h:Hp):R:=match v with
 |.func (.func b) first cap=>F b (first.toList++(a++cap.toList)) h
 |_=>.no
theorem CN{f:O}{l:List O}:ET f l F e h=HD F (f e) (vals e l) h:=by
 show(match f e with|.func (.func b) first cap=>AFI (vals e l) (λa=>F b (first.toList++(a++cap.toList)) h)|_=>.no)=_;unfold HD;split<;>simp only[C9]
theorem CJ{g:Nat}{l c a:List vz}:HD F (.func (.func g) ⟨l⟩ ⟨c⟩) a h=F g (l++(a++c)) h:=rfl
theorem DN{a:Fn}{l c:List O}:Em a l c F e h=.ok (.func a ⟨vals e l⟩ ⟨vals e c⟩) h:=by
 show AFI (vals e l) (λb=>AFI (vals e c) λc=>.ok (.func a ⟨b⟩ ⟨c⟩) h)=_;rw[C9,C9]
end
def Z3(a:List vz)(h:Hp):R:=match a with
 |[]=>.ok (.bool IN) h
 |_::_=>.no
def Ky:Body:=⟨[.x (λ_=>Z3)],cNo⟩
theorem HY{ty:TTy}{φ:Phi}{E:Nat->Prop}{h:Hp}{w w':xG}(H:AEZ ty φ E h w)(hb:Below w.heap.size w w'):AEZ ty φ E h w'/\Evo φ h w φ h w':=
 ⟨{dom:=λi p e=>⟨(H.dom i p e).1,xr (H.dom i p e).2 hb.size⟩
   inj:=H.inj
   row:=λi p e hE=>(by rw[hb.block _ (H.dom i p e).2];exact H.row i p e hE)
   fresh:=H.fresh
   kind:=H.kind
   inp:=H.inp},
  {le:=.refl _
   new:=λ_ _ e=>.inl e
   next:=wB _
   size:=hb.size
   tape:=hb.tape
   os:=hb.os
   output:=hb.output
   frame:=λk hk _=>hb.block k hk
   back:=λi p e hl _=>⟨i,p,e,hl,rfl,rfl,.inl rfl⟩
   kept:=λ_ _ _=>rfl
   low:=wB _
   high:=wB _
   shape:=λ_ _=>.refl _
   only:=λ_ _ _=>rfl
   all:=λ_ h1 h2=>absurd h2 (AAg.2 h1)}⟩
theorem Zk{P:xU}{ty:TTy}{f:Nat}(k:∃b,P.funcs[f]? =BY b/\b.name≠"runtime.NumGoroutine" /\b.body.isNone=IS)(l:∀w:xG,Calls P f #[] w λe w'=>e=.returned (.bool IN)/\Below w.heap.size w w'):JM P ty f Ky:=λo d i v j _ a=>⟨k,λn w q h c=>by
 have a:Z3 d i=.ok v j:=a;cases d with
 |cons p r=>cases a
 |nil=>
  cases a;cases h;exact(l w).mono λe w' ⟨m,g⟩=>⟨_,n,m,.bool IN,(HY c g).1,(HY c g).2⟩⟩
theorem UL{bs:FT}{n f:Nat}(a:bs.get f=BY Ky){h:Hp}:call bs (wQ n) f [] h=.ok (.bool IN) h:=by
 rw[MN a];rfl
end
noncomputable section
open Go
def CA(n:Nat):List Nat:=if a:n<128 then [n]else(n % 128+128)::CA (n/128)
termination_by n
decreasing_by exact ABl (by omega) (by omega)
theorem FY{n:Nat}(h:n<128):CA n=[n]:=by rw[CA,dif_pos h]
theorem HB{n:Nat}(h:128<=n):CA n=(n % 128+128)::CA (n/128):=by rw[CA,dif_neg (by omega)]
theorem fX:∀(n x:Nat),x∈CA n->x<256:=by
 intro n
 induction n using AAq with
 |_ n b=>
  intro x hx;by_cases a:n<128
  ·rw[FY a,List.mem_singleton]at hx
   omega
  ·rw[HB (by omega)]at hx
   rcases wS.1 hx with rfl|hx
   ·omega
   ·exact b (n/128) (ABl (by omega) (by omega)) x hx
theorem Zl(n:Nat):0<(CA n).length:=by
 by_cases a:n<128
 ·rw[FY a];exact Nat.one_pos
 ·rw[HB (by omega)];exact AAB _
theorem Eb:∀(k n:Nat),n<128 ^ (k+1)->(CA n).length<=k+1
 |0,n,a=>by
  have a:n<128:=by simpa using a
  rw[FY a];exact wB _
 |k+1,n,a=>by
  by_cases b:n<128
  ·rw[FY b];show 1<=_;omega
  ·rw[HB (by omega),wK]
   have c:n<128*128 ^ (k+1):=by rw[AD2]at a;rw[yR];exact a
   have:=Eb k (n/128) (ACZ c);omega
theorem Li{n:Nat}(h:n<18446744073709551616):(CA n).length<=10:=Eb 9 n (by
 have:(128:Nat) ^ (9+1)=1180591620717411303424:=by decide
 rw[this];omega)
def GH:Nat->Nat->List Nat->Option (Nat×Nat)
 |_,_,[]=>By
 |k,b,a::c=>if(0<k/\a=0)\/(8<k/\1<a)then By else if a<128 then BY (b+a*2 ^ (7*k),k+1)else GH (k+1) (b+a % 128*2 ^ (7*k)) c
theorem Nt(k:Nat):2 ^ (7*(k+1))=128*2 ^ (7*k):=by
 rw[show 7*(k+1)=7+7*k by omega,AEA,show(2:Nat) ^ 7=128 from rfl]
theorem S2{k:Nat}(hk:k<=8):2 ^ (64 - 7*k)=128*2 ^ (64 - 7*(k+1)):=by
 rw[show 64 - 7*k=7+(64 - 7*(k+1))by omega,AEA,show(2:Nat) ^ 7=128 from rfl]
theorem fV:∀(n k a:Nat) (r:List Nat),k<=9->n<2 ^ (64 - 7*k)->(0<k->n≠0)->GH k a (CA n++r)=BY (a+n*2 ^ (7*k),k+(CA n).length):=by
 intro n
 induction n using AAq with
 |_ n p=>
  intro k a r q c j;by_cases f:n<128
  ·rw[FY f]
   show GH k a (n::r)=_;have b:¬((0<k/\n=0)\/(8<k/\1<n)):=by
    rintro (⟨d,e⟩|⟨d,e⟩)
    ·exact j d e
    ·have:k=9:=by omega
     subst this;have:n<2:=c;omega
   rw[GH,If b,IT f];rfl
  ·have m:k<=8:=by
    rcases wh k 9 with b|b
    ·omega
    ·have:k=9:=by omega
     subst this;have:n<2:=c;omega
   rw[HB (by omega)];show GH k a ((n % 128+128)::(CA (n/128)++r))=_;have b:¬((0<k/\n % 128+128=0)\/(8<k/\1<n % 128+128)):=by omega
   have l:¬n % 128+128<128:=by omega
   rw[GH,If b,If l];have o:n/128<2 ^ (64 - 7*(k+1)):=by
    rw[S2 m]at c;exact ACZ c
   rw[p (n/128) (ABl (by omega) (by omega)) (k+1) _ r (by omega) o (by omega)];have g:(n % 128+128) % 128=n % 128:=by omega
   have h:a+n % 128*2 ^ (7*k)+n/128*(128*2 ^ (7*k))=a+n*2 ^ (7*k):=by
    have i:n*2 ^ (7*k)=(128*(n/128)+n % 128)*2 ^ (7*k):=by rw[Nat.div_add_mod]
    rw[i,AAv,yR 128 (n/128),ADn];omega
   rw[g,Nt,h,wK,show k+1+(CA (n/128)).length=k+((CA (n/128)).length+1)by omega]
theorem Tm:∀(l:List Nat) (k b v j:Nat),k<=9->(∀x∈l,x<256)->GH k b l=BY (v,j)->∃n r,l=CA n++r/\v=b+n*2 ^ (7*k)/\j=k+(CA n).length/\(0<k->n≠0)/\n<2 ^ (64 - 7*k)
 |[],k,b,v,j,_,_,a=>by cases a
 |c::r,k,b,v,j,C,e,a=>by
  rw[GH]at a;split at a
  ·cases a
  ·rename_i y
   split at a
   ·rename_i d
    cases a;refine⟨c,r,by rw[FY d];rfl,rfl,by rw[FY d];rfl,by omega,?_⟩;rcases wh k 9 with q|q
    ·have z:2 ^ 8<=2 ^ (64 - 7*k):=Nat.pow_le_pow_right (by omega) (by omega)
     have A:(2:Nat) ^ 8=256:=rfl;omega
    ·have:k=9:=by omega
     subst this;show c<2;omega
   ·rename_i d
    have s:k<=8:=by omega
    obtain⟨n,u,rfl,i,m,o,w⟩:=Tm r (k+1) _ v j (by omega) (λx t=>e x (wI _ t)) a;have B:=e c wJ;have D:n≠0:=o (AAB k);have f:CA (c % 128+128*n)=c::CA n:=by
     rw[HB (by omega)];have g:(c % 128+128*n) % 128+128=c:=by omega
     have h:(c % 128+128*n)/128=n:=by omega
     rw[g,h]
    refine⟨c % 128+128*n,u,by rw[f];rfl,?_,?_,λ_=>by omega,?_⟩
    ·have p:n*(128*2 ^ (7*k))=128*n*2 ^ (7*k):=by rw[<- ADn,yR n 128]
     rw[i,Nt,AAv,p];omega
    ·rw[m,f,wK];omega
    ·rw[S2 s];omega
theorem sO{v:Nat}(h:v<18446744073709551616)(r:List Nat):GH 0 0 (CA v++r)=BY (v,(CA v).length):=by
 have:=fV v 0 0 r (by omega) h (by omega)
 simpa using this
theorem fU{l:List Nat}{v j:Nat}(f:∀x∈l,x<256)(h:GH 0 0 l=BY (v,j)):l=CA v++l.drop j/\j=(CA v).length/\v<18446744073709551616:=by
 obtain⟨i,k,c,d,e,_,a⟩:=Tm l 0 0 v j (by omega) f h;have g:v=i:=by simpa using d
 subst g;have b:j=(CA v).length:=by simpa using e
 have a:v<18446744073709551616:=a;refine⟨?_,b,a⟩;subst c;rw[b,List.drop_left]
theorem mC{l:List Nat}{v j:Nat}(b:∀x∈l,x<256)(h:GH 0 0 l=BY (v,j)):j<=l.length:=by
 obtain⟨a,c,_⟩:=fU b h;have:=congrArg List.length a;rw[wD]at this;omega
def veq:vz->vz->Bool
 |.bool a,.bool b=>a == b
 |.int c a,.int d b=>F9 c d && iEq a b
 |.string a,.string b=>bEq a.data.toList b.data.toList
 |.pointer By,.pointer By=>IN
 |.slice By 0 0,.slice By 0 0=>IN
 |.map By,.map By=>IN
 |.nilFunc,.nilFunc=>IN
 |.nilIface,.nilIface=>IN
 |_,_=>IS
def leq:List vz->List vz->Bool
 |[],[]=>IN
 |a::c,b::d=>veq a b && leq c d
 |_,_=>IS
def zeq:vz->vz->Bool
 |.agg a,.agg b=>leq a.toList b.toList
 |.agg _,_=>IS
 |a,b=>veq a b
theorem fc{a b:vz}(h:veq a b=IN):a=b:=by
 unfold veq at h;split at h
 ·simpa using h
 ·rw[wV,Dh]at h
  have h1:=IZ h.1;rw[h1,eq_of_beq h.2]
 ·rw[Mq]at h
  rename_i a b;have e1:=M6 (a:=a) (eq_of_beq h);have e2:=M6 (a:=b) rfl;exact congrArg Value.string (e1.trans e2.symm)
 all_goals first|rfl|cases h
theorem ci:∀{a b:List vz},leq a b=IN->a=b
 |[],[],_=>rfl
 |x::a,d::b,c=>by
  have c:(veq x d && leq a b)=IN:=c;rw[wV]at c;rw[fc c.1,ci c.2]
 |[],_::_,c=>by cases c
 |_::_,[],c=>by cases c
theorem sU{a b:vz}(h:zeq a b=IN):a=b:=by
 unfold zeq at h;split at h
 ·rename_i c d
  have:=ci h
  congr 1
  exact yD this
 ·cases h
 ·exact fc h
def ia:List (Nat×Nat×Nat)->List (Nat×Nat×Nat)->Bool
 |[],[]=>IN
 |(a,b,c)::g,(d,e,f)::h=>wU a d && (wU b e && (wU c f && ia g h))
 |_,_=>IS
theorem Wr:∀{x y:List (Nat×Nat×Nat)},ia x y=IN->x=y
 |[],[],_=>rfl
 |(b,c,d)::x,(e,f,g)::y,a=>by
  have a:(wU b e && (wU c f && (wU d g && ia x y)))=IN:=a;simp only[wV]at a;rw[Ax.1 a.1,Ax.1 a.2.1,Ax.1 a.2.2.1,Wr a.2.2.2]
 |[],_::_,a=>by cases a
 |_::_,[],a=>by cases a
def cY(P:xU)(k:TK)(d:ABT):Bool:=match k,d with
 |.int a,.int b=>F9 a b
 |.bool,.bool=>IN
 |.string,.string=>IN
 |.ptr a,.pointer b=>wU a b
 |.slice a,.slice b=>wU a b
 |.arr f a,.array e b=>wU f e && wU a b
 |.map f a,.map e b=>wU f e && wU a b
 |.struct h,.struct g=>ia (g.toList.map λc=>(c.offset,P.cellsOf c.type,c.type)) h && g.toList.all λc=>(P.info? c.type).isSome
 |.iface,.interface _=>IN
 |.func,.func _ _ _=>IN
 |.other,.struct _=>IS
 |.other,.array _ _=>IS
 |.other,.interface _=>IS
 |.other,_=>IN
 |_,_=>IS
theorem cZ{P:xU}{k:TK}{d:ABT}(h:cY P k d=IN):KOk P k d:=by
 unfold cY at h;split at h
 ·rw[IZ h];exact .int _
 ·exact .bool
 ·exact .string
 ·rw[Ax.1 h];exact .ptr _
 ·rw[Ax.1 h];exact .slice _
 ·rw[wV]at h
  rw[Ax.1 h.1,Ax.1 h.2];exact .arr _ _
 ·rw[wV]at h
  rw[Ax.1 h.1,Ax.1 h.2];exact .map _ _
 ·rw[wV]at h
  exact .struct (Wr h.1) h.2
 ·exact .iface _
 ·exact .func _ _ _
 ·cases h
 ·cases h
 ·cases h
 ·rename_i f g i
  refine .other ?_;split
  ·rename_i b;exact absurd rfl (f b)
  ·rename_i e a;exact absurd rfl (g e a)
  ·rename_i c;exact absurd rfl (i c)
  ·rfl
 ·cases h
def fl(ti:TI)(z:Option vz):Bool:=
 (match ti.zero with
  |[]=>xQ 0 ti.size
  |_::_=>IS) ||
 (match zeroV ti,z with
  |some a,BY b=>zeq a b && (ti.zero.all plainV && wU (DH ti.zero) ti.size)
  |_,_=>IS)
theorem fp{ti:TI}{z:Option vz}(h:fl ti z=IN):(ti.zero=[]/\0<ti.size)\/∃y,zeroV ti=BY y/\z=BY y/\ti.zero.all plainV=IN/\ti.zero.length=ti.size:=by
 unfold fl at h;rw[ABh]at h;rcases h with h|h
 ·left
  split at h
  ·rename_i d;exact⟨d,BM.1 h⟩
  ·cases h
 ·right
  split at h
  ·rename_i b e c
   simp only[wV]at h;have a:=Ax.1 h.2.2;rw[Bf]at a;exact⟨b,c,by rw[sU h.1],h.2.1,a⟩
  ·cases h
def vd(b:Bool):ABT->Bool
 |.pointer _=>b
 |_=>not b
def XZ(P:xU)(t:Nat)(g:String)(f:Nat):Bool:=match P.info? t with
 |some e=>match e.methods.find? (·.name == g)with
  |some a=>match a.path.toList with
   |[]=>match a.func with
    |some (d,b)=>match P.underlying t with
     |some c=>wU d f && vd b c
     |none=>IS
    |none=>IS
   |_::_=>IS
  |none=>IS
 |none=>IS
theorem cw{P:xU}{t:Nat}{d:String}{f:Nat}(h:XZ P t d f=IN)(v:vz)(w:xG):(method (P.types.size+AED) t v d).run P w=.ok (f,v) w:=by
 unfold XZ at h;split at h
 ·rename_i p k
  split at h
  ·rename_i q l
   split at h
   ·rename_i m
    split at h
    ·rename_i o b j
     split at h
     ·rename_i e i
      rw[wV]at h;have g:=Ax.1 h.1;subst g;have a:=h.2;show(method ((P.types.size+99)+1) t v d).run P w=_;unfold method;simp only[typeInfo,wM,run_program,wH,k,wN,l,m,follow,j,receiverAt,underlying,i];cases e with
      |pointer n=>
       have c:b=IN:=a;subst c;simp only[AD7,wM,wN,wH]
      |_=>
       have c:b=IS:=by
        have a:(!b)=IN:=a;cases b with
        |true=>cases a
        |false=>rfl
       subst c;simp only[AD7,wM,wN,wH]
     ·cases h
    ·cases h
   ·cases h
  ·cases h
 ·cases h
def Xa(P:xU)(t:Nat):List (String×Nat)->Bool
 |[]=>IN
 |x::a=>XZ P t x.1 x.2 && Xa P t a
theorem SZ{P:xU}{t:Nat}:∀{l:List (String×Nat)},Xa P t l=IN->∀name f,findM name l=BY f->∀v w,(method (P.types.size+AED) t v name).run P w=.ok (f,v) w
 |[],_,name,f,h=>by cases h
 |x::l,hb,name,f,h=>by
  have hb:(XZ P t x.1 x.2 && Xa P t l)=IN:=hb;rw[wV]at hb;unfold findM at h;split at h
  ·rename_i hn
   cases h;rw[<- eq_of_beq hn];exact λv w=>cw hb.1 v w
  ·exact SZ hb.2 name f h
def tyB(P:xU)(t:Nat)(ti:TI):Bool:=match P.info? t with
 |some a=>match P.underlying t with
  |some b=>wU a.size ti.size && (wU a.bytes ti.bytes && (fl ti a.zero && (cY P ti.k b && (AGj P t && Xa P t ti.ms))))
  |none=>IS
 |none=>IS
theorem sM{P:xU}(b:8<=P.depth){t:Nat}{ti:TI}(h:tyB P t ti=IN):AEx P t ti:=by
 unfold tyB at h;split at h
 ·rename_i e c
  split at h
  ·rename_i a d
   simp only[wV]at h;exact⟨h.2.2.2.2.1,b,⟨e,c,Ax.1 h.1,Ax.1 h.2.1,fp h.2.2.1⟩,⟨a,d,cZ h.2.2.2.1⟩,SZ h.2.2.2.2.2⟩
  ·cases h
 ·cases h
def vF(P:xU)(t:Nat):Option TI->Bool
 |some a=>tyB P t a
 |none=>IN
def Zh(P:xU):TTy->(Nat->Nat)->Bool
 |.mt,_=>IN
 |.nd e c d,a=>vF P (a 0) e && (Zh P c (λb=>a (wQ (xW 2 b))) && Zh P d (λb=>a (wQ (wQ (xW 2 b)))))
theorem N3{P:xU}(g:8<=P.depth):∀{t:TTy} {c:Nat->Nat},Zh P t c=IN->∀i ti,t.get i=BY ti->AEx P (c i) ti
 |.mt,c,_,i,e,b=>by cases b
 |.nd h l m,c,d,i,e,b=>by
  have d:(vF P (c 0) h && (Zh P l (λa=>c (wQ (xW 2 a))) && Zh P m (λa=>c (wQ (wQ (xW 2 a))))))=IN:=d;simp only[wV]at d;cases i with
  |zero=>
   have b:h=BY e:=b;subst b;exact sM g d.1
  |succ a=>
   unfold TTy.get at b;have j:AAR a 2=a % 2:=rfl;have k:zQ a 2=a / 2:=rfl;rw[j,k]at b;rcases ye a with hk|hk
   ·rw[hk]at b
    have:=N3 g d.2.1 (a/2) e b;have f:wQ (xW 2 (a/2))=a+1:=by show 2*(a/2)+1=a+1;omega
    simp only[f]at this;exact this
   ·rw[hk]at b
    have:=N3 g d.2.2 (a/2) e b;have f:wQ (wQ (xW 2 (a/2)))=a+1:=by show 2*(a/2)+1+1=a+1;omega
    simp only[f]at this;exact this
theorem sJ{P:xU}{ty:TTy}(a:wY 8 P.depth=IN)(h:Zh P ty (λk=>k)=IN):DI P ty:=λc d b=>N3 (Am.1 a) h c d b
def ty3:TI:=⟨.int .i64,1,8,[AI AT 0],[]⟩
def ty4:TI:=⟨.bool,1,1,[.bool IS],[]⟩
def ty5:TI:=⟨.int .u8,1,1,[.int .u8 0],[]⟩
def ty9:TI:=⟨.string,1,16,[.string .empty],[]⟩
def vk:TI:=⟨.slice 37,1,24,[.slice By 0 0],[]⟩
def vm:TI:=⟨.slice 4,1,24,[.slice By 0 0],[]⟩
def vo:TI:=⟨.int .u32,1,4,[.int .u32 0],[]⟩
def lI:TI:=⟨.arr 256 24,256,1024,BX [.int .u32 0] 256,[]⟩
def VZ:TI:=⟨.ptr 69,1,8,[.pointer By],[("Arm",7),("Cached",38),("Crash",14),("Down",10),("Flush",121),("Read",106),("Size",67),("Write",120),("cooperage/disk.none",26),("cooperage/disk.operation",144),("cooperage/disk.there",130)]⟩
def OM:TI:=⟨.ptr 76,1,8,[.pointer By],[("All",17),("Do",9),("Handle",21),("Life",16),("Over",11),("cooperage/node.abort",31),("cooperage/node.commit",30),("cooperage/node.drop",34),("cooperage/node.infos",57),("cooperage/node.list",33),("cooperage/node.prepare",29),("cooperage/node.read",32),("cooperage/node.told",28),("cooperage/node.up",27)]⟩
def Tj:TI:=⟨.ptr 26,1,8,[.pointer By],[]⟩
def vp:TI:=⟨.int .u8,1,1,[.int .u8 0],[]⟩
def MI:TI:=⟨.slice 5,1,24,[.slice By 0 0],[]⟩
def Va:TI:=⟨.struct [(0,1,3),(1,1,3),(2,1,34),(3,1,3),(4,1,3),(5,1,3),(6,1,35)],7,72,[AI AT 0,AI AT 0,.int .u8 0,AI AT 0,AI AT 0,AI AT 0,.slice By 0 0],[]⟩
def vq:TI:=⟨.int .i64,1,8,[AI AT 0],[]⟩
def vr:TI:=⟨.slice 90,1,24,[.slice By 0 0],[]⟩
def Hf:TI:=⟨.struct [(0,1,3),(1,1,3),(2,1,34),(3,1,39),(4,1,40),(5,1,35),(6,1,3)],7,88,[AI AT 0,AI AT 0,.int .u8 0,AI AT 0,.slice By 0 0,.slice By 0 0,AI AT 0],[]⟩
def vt:TI:=⟨.slice 93,1,24,[.slice By 0 0],[]⟩
def vw:TI:=⟨.slice 82,1,24,[.slice By 0 0],[]⟩
def lJ:TI:=⟨.map 3 82,1,8,[.map By],[]⟩
def lK:TI:=⟨.struct [(0,1,66),(1,1,67),(2,1,3),(3,1,4)],4,48,[.slice By 0 0,.map By,AI AT 0,.bool IS],[]⟩
def Tk:TI:=⟨.func,1,8,[.nilFunc],[]⟩
def Hs:TI:=⟨.ptr 118,1,8,[.pointer By],[("Abort",56),("All",40),("Bad",180),("Commit",55),("Drop",63),("Get",59),("Over",35),("Prepare",54),("Room",53),("Sound",60),("cooperage/slots.all",98),("cooperage/slots.at",97),("cooperage/slots.find",92),("cooperage/slots.gone",101),("cooperage/slots.look",69),("cooperage/slots.now",125),("cooperage/slots.out",102),("cooperage/slots.read",110),("cooperage/slots.stale",94),("cooperage/slots.strike",77),("cooperage/slots.up",89),("cooperage/slots.write",96)]⟩
def lM:TI:=⟨.struct [(0,1,28),(1,1,32),(2,1,74),(3,1,3)],4,32,[.pointer By,.pointer By,.pointer By,AI AT 0],[]⟩
def Vb:TI:=⟨.slice 3,1,24,[.slice By 0 0],[]⟩
def Km:TI:=⟨.arr 64 5,64,64,BX [.int .u8 0] 64,[]⟩
def vx:TI:=⟨.int .u8,1,1,[.int .u8 0],[]⟩
def N8:TI:=⟨.struct [(0,1,3),(1,1,3),(2,1,3),(3,1,88)],4,32,[AI AT 0,AI AT 0,AI AT 0,.int .u8 0],[]⟩
def JE:TI:=⟨.struct [(0,1,3),(1,1,3),(2,1,3),(3,1,88),(4,1,35)],5,56,[AI AT 0,AI AT 0,AI AT 0,.int .u8 0,.slice By 0 0],[]⟩
def uz:TI:=⟨.int .u64,1,8,[.int .u64 0],[]⟩
def PQ:TI:=⟨.slice 124,1,24,[.slice By 0 0],[]⟩
def Th:TI:=⟨.struct [(0,1,28),(1,1,32),(2,1,3),(3,1,116),(4,1,79),(5,1,3),(6,1,4)],7,88,[.pointer By,.pointer By,AI AT 0,.slice By 0 0,.slice By 0 0,AI AT 0,.bool IS],[]⟩
def D4:TI:=⟨.struct [(0,5,93),(5,1,3)],6,64,[AI AT 0,AI AT 0,AI AT 0,.int .u8 0,.slice By 0 0,AI AT 0],[]⟩
def Ti:TI:=⟨.int .u64,1,8,[.int .u64 0],[]⟩
def vA:TI:=⟨.slice 70,1,24,[.slice By 0 0],[]⟩
def vB:TI:=⟨.slice 137,1,24,[.slice By 0 0],[]⟩
def vC:TI:=⟨.arr 6 137,6,48,BX [.int .u64 0] 6,[]⟩
def vD:TI:=⟨.int .i64,1,8,[AI AT 0],[]⟩
def ty:TTy:=(.nd By (.nd By (.nd (BY ty3) (.nd By (.nd By .mt (.nd (BY vt) (.nd (BY Vb) .mt .mt) .mt)) (.nd (BY vm) (.nd (BY vq) .mt .mt) .mt)) (.nd By (.nd By (.nd (BY MI) (.nd (BY lJ) .mt .mt) .mt) .mt) (.nd By (.nd By .mt (.nd (BY uz) .mt .mt)) .mt))) (.nd (BY ty5) (.nd (BY ty9) .mt (.nd By (.nd By (.nd By (.nd (BY Ti) .mt .mt) .mt) .mt) .mt)) (.nd By (.nd By (.nd (BY Va) (.nd (BY lK) .mt .mt) .mt) .mt) (.nd (BY OM) .mt (.nd By (.nd (BY JE) .mt .mt) .mt))))) (.nd By (.nd (BY ty4) (.nd By (.nd By (.nd (BY Tj) .mt .mt) .mt) (.nd (BY vo) (.nd (BY vr) .mt .mt) (.nd By (.nd (BY vx) .mt .mt) .mt))) (.nd By (.nd By .mt (.nd By .mt (.nd (BY PQ) (.nd (BY vD) .mt .mt) .mt))) (.nd (BY VZ) (.nd By (.nd (BY lM) .mt .mt) (.nd By (.nd (BY vB) .mt .mt) .mt)) (.nd By .mt (.nd (BY D4) .mt .mt))))) (.nd By (.nd By (.nd By (.nd (BY vp) (.nd (BY vw) .mt .mt) .mt) (.nd By (.nd (BY Km) .mt .mt) (.nd By (.nd (BY vC) .mt .mt) .mt))) (.nd (BY lI) (.nd (BY Hf) (.nd (BY Hs) .mt .mt) .mt) (.nd By (.nd (BY N8) .mt .mt) .mt))) (.nd By (.nd (BY vk) (.nd By (.nd (BY Tk) .mt .mt) .mt) (.nd By (.nd By (.nd (BY vA) .mt .mt) .mt) (.nd (BY Th) .mt .mt))) .mt))))
end
end Go.Proofs.YtldjiljipddebaaGreat
