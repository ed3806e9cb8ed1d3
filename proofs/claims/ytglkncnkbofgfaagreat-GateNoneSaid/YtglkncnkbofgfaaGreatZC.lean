/-
  Part ZC of what Lawgn stands on: printed by program, names and spaces cut.
-/
import Derived.Test.YtglkncnkbofgfaaGreatZB
import Derived.Orders
import Derived.LoopN
import Derived.Scope
import Derived.Below
import Derived.ChangeSame
set_option linter.unusedSimpArgs false
set_option linter.unusedVariables false
namespace Go.Proofs.YtglkncnkbofgfaaGreat
noncomputable section
open Go
abbrev Rho:=Nat→Option Value
def rhoOf(A:List Nat)(σ:Sg)(e:Env):Rho:=fun t=>match KV A σ (.tmp t)with
 |some s=>some (HO s e)
 |none=>none
def evR(ρ:Rho):Operand→Option Value
 |.tmp t=>ρ t
 |.const v=>if C4 v then some v else none
 |.func g=>some (.func (.func g) #[] #[])
 |.global _=>none
theorem CJ(A:List Nat)(σ:Sg)(e:Env)(t:Nat):rhoOf A σ e t=match Bm t σ with
  |some s=>some (HO s e)
  |none=>match memN t A with
   |true=>none
   |false=>match Nat.blt t 208 with
    |true=>some (slotG t e)
    |false=>none:=by
 show(match KV A σ (.tmp t)with|some s=>some (HO s e)|none=>none)=_
 show(match (match Bm t σ with|some s=>some s|none=>match memN t A with|true=>none|false=>match Nat.blt t 208 with|true=>some (Src.s t)|false=>none)with|some s=>some (HO s e)|none=>none)=_
 cases Bm t σ with
 |some s=>rfl
 |none=>
  cases memN t A with
  |true=>rfl
  |false=>cases Nat.blt t 208<;>rfl
theorem RB{A:List Nat}{σ:Sg}{x:Operand}{s:Src}(h:KV A σ x=some s)(e:Env):evR (rhoOf A σ e) x=some (HO s e):=by
 cases x with
 |tmp t=>show(match KV A σ (.tmp t)with|some s=>some (HO s e)|none=>none)=_;rw[h]
 |const v=>
  have h:(match C4 v with|true=>some (Src.c v)|false=>none)=some s:=h
  cases hp:C4 v with
  |true=>rw[hp]at h;cases h;show(if C4 v then some v else none)=_;rw[if_pos hp];rfl
  |false=>rw[hp]at h;cases h
 |func g=>cases h;rfl
 |global _=>cases h
theorem Uk{f:Fr}{x:Operand}{y:O}(h:cO f x=some y):∃ s,KV f.A f.σ x=some s∧y=HO s:=by
 unfold cO at h
 split at h
 ·rename_i s hs;cases h;exact⟨s,hs,rfl⟩
 ·cases h
theorem CQ{A:List Nat}{σ:Sg}{x:Operand}{y:O}(h:cO ⟨A,σ⟩ x=some y)(e:Env):evR (rhoOf A σ e) x=some (y e):=by
 obtain⟨s,hs,rfl⟩:=Uk h
 exact RB hs e
theorem Ik{φ:Phi}{v:Value}(h:C4 v=true):RelV φ v v:=by
 unfold C4 at h
 split at h
 ·rename_i cs
  exact .agg (l:=cs.toList) (l':=cs.toList) (.plain h)
 ·exact .plain h
structure SgOk (A:List Nat)(σ:Sg):Prop where
 mem:∀ p∈σ,memN p.1 A=true
 nodup:(σ.map (·.1)).Nodup
 lt:∀ p∈σ,∀ n,p.2=.s n→n<208
theorem SgOk.nil(A:List Nat):SgOk A [] where
 mem:=fun p hp=>by cases hp
 nodup:=List.nodup_nil
 lt:=fun p hp=>by cases hp
theorem Cu{a b:Nat}(h:Nat.beq a b=false):a≠b:=fun e=>by rw[e,Nat.beq_refl]at h;cases h
theorem CU:∀ {σ:Sg} {t:Nat} {s:Src},Bm t σ=some s→(t,s)∈σ
 |(d,s')::l,t,s,h=>by
  unfold Bm at h
  split at h
  ·rename_i hb
   cases h
   have:=Ae.1 hb
   subst this;exact List.mem_cons_self
  ·exact List.mem_cons_of_mem _ (CU h)
theorem Co:∀ {σ:Sg} {t:Nat} {s:Src},(σ.map (·.1)).Nodup→(t,s)∈σ→Bm t σ=some s
 |(d,s')::l,t,s,hn,h=>by
  unfold Bm
  rw[List.map_cons,List.nodup_cons]at hn
  rcases List.mem_cons.1 h with h|h
  ·cases h
   rw[Nat.beq_refl]
  ·have:d≠t:=by
    intro e;subst e
    exact hn.1 (List.mem_map.2 ⟨_,h,rfl⟩)
   have hb:Nat.beq d t=false:=by
    cases hb:Nat.beq d t with
    |true=>exact absurd (Ae.1 hb) this
    |false=>rfl
   rw[hb];exact Co hn.2 h
theorem CT:∀ {σ:Sg} {d:Nat},(DL d σ).Sublist σ∧∀ p∈DL d σ,p.2≠.s d
 |[],d=>⟨.slnil,fun p hp=>by cases hp⟩
 |(t,.s n)::l,d=>by
  obtain⟨h1,h2⟩:=CT (σ:=l) (d:=d)
  unfold DL
  split
  ·exact⟨h1.cons _,h2⟩
  ·rename_i hb
   refine⟨h1.cons_cons _,fun p hp=>?_⟩
   rcases List.mem_cons.1 hp with rfl|hp
   ·intro e;cases e;exact Cu hb rfl
   ·exact h2 p hp
 |(t,.c v)::l,d=>by
  obtain⟨h1,h2⟩:=CT (σ:=l) (d:=d)
  unfold DL
  refine⟨h1.cons_cons _,fun p hp=>?_⟩
  rcases List.mem_cons.1 hp with rfl|hp
  ·intro e;cases e
  ·exact h2 p hp
theorem Dr:∀ {σ:Sg} {d:Nat},(DB d σ).Sublist σ∧∀ p∈DB d σ,p.1≠d
 |[],d=>⟨.slnil,fun p hp=>by cases hp⟩
 |(t,s)::l,d=>by
  obtain⟨h1,h2⟩:=Dr (σ:=l) (d:=d)
  unfold DB
  split
  ·exact⟨h1.cons _,h2⟩
  ·rename_i hb
   refine⟨h1.cons_cons _,fun p hp=>?_⟩
   rcases List.mem_cons.1 hp with rfl|hp
   ·exact Cu hb
   ·exact h2 p hp
theorem SgOk.sub{A:List Nat}{σ σ':Sg}(h:SgOk A σ)(hs:σ'.Sublist σ):SgOk A σ':=
 ⟨fun p hp=>h.mem p (hs.subset hp),(hs.map (·.1)).nodup h.nodup,fun p hp=>h.lt p (hs.subset hp)⟩
theorem SgOk.alias{A:List Nat}{σ:Sg}(h:SgOk A σ){d:Nat}(hd:memN d A=true){s:Src}(hs:∀ n,s=.s n→n<208):SgOk A ((d,s)::DB d σ):=by
 have h':=h.sub (Dr (d:=d)).1
 refine⟨fun p hp=>?_,?_,fun p hp=>?_⟩
 ·rcases List.mem_cons.1 hp with rfl|hp
  ·exact hd
  ·exact h'.mem p hp
 rotate_left
 ·rcases List.mem_cons.1 hp with rfl|hp
  ·exact hs
  ·exact h'.lt p hp
 ·rw[List.map_cons,List.nodup_cons]
  refine⟨fun hm=>?_,h'.nodup⟩
  obtain⟨p,hp,e⟩:=List.mem_map.1 hm
  exact(Dr (d:=d)).2 p hp e
theorem TL{A:List Nat}{σ:Sg}{e:Env}(hS:SgOk A σ){d:Nat}(hd:memN d A=false)(hlt:d<208)(v:Value){t:Nat}{u:Value}
  (h:rhoOf A (DL d σ) (Env.set d v e) t=some u):if t=d then u=v else rhoOf A σ e t=some u:=by
 rw[CJ]at h
 cases hf:Bm t (DL d σ)with
 |some s=>
  simp only[hf]at h
  cases h
  have hm:=CU hf
  have hm':=CT.1.subset hm
  have hne:=(CT (σ:=σ) (d:=d)).2 _ hm
  have hA:=hS.mem _ hm'
  have ht:t≠d:=by intro e;subst e;simp only at hA;rw[hd]at hA;cases hA
  rw[if_neg ht,CJ,Co hS.nodup hm']
  simp only
  congr 1
  cases s with
  |c v=>rfl
  |s n=>
   have hn:n≠d:=fun e=>hne (by rw[e])
   show slotG n e=slotG n (Env.set d v e)
   have h3:n<208:=hS.lt _ hm' n rfl
   rw[A8 n h3,A8 n h3,Env.get_set _ _ _ _ hlt h3,if_neg hn]
 |none=>
  simp only[hf]at h
  cases hm:memN t A with
  |true=>simp only[hm]at h;cases h
  |false=>
   simp only[hm]at h
   cases hb:Nat.blt t 208 with
   |false=>simp only[hb]at h;cases h
   |true=>
    simp only[hb]at h
    have h3:=Aq.1 hb
    cases h
    have hg:slotG t (Env.set d v e)=if t=d then v else e.get t:=by
     rw[A8 t h3,Env.get_set _ _ _ _ hlt h3]
    rw[hg]
    split
    ·rfl
    ·have hf2:Bm t σ=none:=by
      cases hf2:Bm t σ with
      |none=>rfl
      |some s=>
       have:=hS.mem _ (CU hf2)
       simp only at this;rw[hm]at this;cases this
     rw[CJ]
     simp only[hf2,hm,hb]
     rw[A8 t h3]
theorem PL{A:List Nat}{σ:Sg}{e:Env}(hS:SgOk A σ){d:Nat}(hd:memN d A=true)(s:Src){t:Nat}{u:Value}
  (h:rhoOf A ((d,s)::DB d σ) e t=some u):if t=d then u=HO s e else rhoOf A σ e t=some u:=by
 rw[CJ]at h
 by_cases ht:t=d
 ·rw[if_pos ht]
  subst ht
  have:Bm t ((t,s)::DB t σ)=some s:=by unfold Bm;rw[Nat.beq_refl]
  simp only[this]at h
  cases h;rfl
 ·rw[if_neg ht]
  have hb:Nat.beq d t=false:=by
   cases hb:Nat.beq d t with
   |true=>exact absurd (Ae.1 hb).symm ht
   |false=>rfl
  have h1:Bm t ((d,s)::DB d σ)=Bm t (DB d σ):=by conv=>lhs;unfold Bm;rw[hb]
  have h2:Bm t (DB d σ)=Bm t σ:=by
   cases hf:Bm t (DB d σ)with
   |some s'=>exact(Co hS.nodup (Dr.1.subset (CU hf))).symm
   |none=>
    cases hf2:Bm t σ with
    |none=>rfl
    |some s'=>
     have hm:=CU hf2
     have:∀ {σ:Sg},(t,s')∈σ→(t,s')∈DB d σ:=by
      intro σ hm
      induction σ with
      |nil=>cases hm
      |cons p l ih=>
       obtain⟨a,b⟩:=p
       unfold DB
       rcases List.mem_cons.1 hm with h|h
       ·cases h
        have hb2:Nat.beq t d=false:=by
         cases hb:Nat.beq t d with
         |true=>exact absurd (Ae.1 hb) ht
         |false=>rfl
        rw[hb2];exact List.mem_cons_self
       ·split
        ·exact ih h
        ·exact List.mem_cons_of_mem _ (ih h)
     have:=Co (hS.sub (Dr (d:=d)).1).nodup (this hm)
     rw[hf]at this;cases this
  rw[h1,h2]at h
  rw[CJ];exact h
structure Eff (T:Nat→Prop)(φ:Phi)(h:Hp)(w:World)(φ':Phi)(h':Hp)(w':World):Prop where
 le:φ.Le φ'
 new:∀ i p,φ' i=some p→φ i=some p∨h.next≤i
 next:h.next≤h'.next
 size:w.heap.size≤w'.heap.size
 tape:w'.tape=w.tape
 os:w'.os=w.os
 output:w'.output=w.output
 frame:∀ k,k<w.heap.size→(∀ i p,φ i=some p→p.inp=false→T i→Live h i→p.blk≠k)→w'.heap[k]? =w.heap[k]?
 back:∀ i p,φ' i=some p→Live h' i→p.blk<w.heap.size→∃ j q,φ j=some q∧Live h j∧q.blk=p.blk∧q.inp=p.inp∧(j=i∨T j)
 kept:∀ i,i<h.next→¬ T i→h'.bl.get i=h.bl.get i
 shape:∀ i,i<h.next→ShapeLe (h.bl.get i) (h'.bl.get i)
 only:∀ i,i<h.next→φ i=none→h'.bl.get i=h.bl.get i
 all:∀ i,h.next≤i→i<h'.next→∃ p,φ' i=some p
theorem Evo.eff{φ ψ:Phi}{h h':Hp}{w w':World}(ev:Evo φ h w ψ h' w'):Eff (fun c=>h'.low≤c∧c≤h'.high) φ h w ψ h' w' where
 le:=ev.le
 new:=ev.new
 next:=ev.next
 size:=ev.size
 tape:=ev.tape
 os:=ev.os
 output:=ev.output
 frame:=fun k hk hf=>ev.frame k hk fun i p e hn h1 h2 hl=>hf i p e hn ⟨h1,h2⟩ hl
 back:=ev.back
 kept:=fun i hi ht=>ev.kept i hi (by
  rcases Nat.lt_or_ge i h'.low with h|h
  ·exact .inl h
  ·rcases Nat.lt_or_ge h'.high i with h2|h2
   ·exact .inr h2
   ·exact absurd ⟨h,h2⟩ ht)
 shape:=ev.shape
 only:=ev.only
 all:=ev.all
theorem Eff.of_bl{T:Nat→Prop}{φ ψ:Phi}{h h' g g':Hp}{w w':World}(ev:Eff T φ h w ψ h' w')(h1:g.bl=h.bl)(h2:g.next=h.next)(h3:g'.bl=h'.bl)(h4:g'.next=h'.next):Eff T φ g w ψ g' w' where
 le:=ev.le
 new:=by rw[h2];exact ev.new
 next:=by rw[h2,h4];exact ev.next
 size:=ev.size
 tape:=ev.tape
 os:=ev.os
 output:=ev.output
 frame:=by unfold Live;rw[h1];exact ev.frame
 back:=by unfold Live;rw[h1,h3];exact ev.back
 kept:=by rw[h1,h2,h3];exact ev.kept
 shape:=by rw[h1,h2,h3];exact ev.shape
 only:=by rw[h1,h2,h3];exact ev.only
 all:=by rw[h2,h4];exact ev.all
theorem Eff.evo{T:Nat→Prop}{φ ψ:Phi}{h h':Hp}{w w':World}(ev:Eff T φ h w ψ h' w')(hT:∀ c,T c→h'.low≤c∧c≤h'.high)(hl:h'.low≤h.low)(hh:h.high≤h'.high):Evo φ h w ψ h' w' where
 le:=ev.le
 new:=ev.new
 next:=ev.next
 size:=ev.size
 tape:=ev.tape
 os:=ev.os
 output:=ev.output
 frame:=fun k hk hf=>ev.frame k hk fun i p e hn ht hl=>hf i p e hn (hT i ht).1 (hT i ht).2 hl
 back:=fun i p e hl hp=>by
  obtain⟨j,q,e1,e2,e3,e5,e4⟩:=ev.back i p e hl hp
  exact⟨j,q,e1,e2,e3,e5,e4.imp id (hT j)⟩
 kept:=fun i hi ho=>ev.kept i hi fun ht=>by have:=hT i ht;omega
 low:=hl
 high:=hh
 shape:=ev.shape
 only:=ev.only
 all:=ev.all
theorem RelW.of_bl{ty:TTy}{φ:Phi}{E:Nat→Prop}{h g:Hp}{w:World}(H:RelW ty φ E h w)(h1:g.bl=h.bl)(h2:g.next=h.next):RelW ty φ E g w where
 dom:=by rw[h2];exact H.dom
 inj:=by unfold Live;rw[h1];exact H.inj
 row:=by rw[h1];exact H.row
 fresh:=by rw[h1,h2];exact H.fresh
 kind:=by rw[h1];exact H.kind
 inp:=H.inp
def TouchR(ty:TTy)(ρ:Rho)(E:Nat→Prop)(op:Op):Prop:=match kd ty op with
 |.p=>True
 |.a=>True
 |.r x=>∀ u,evR ρ x=some u→∀ b,blkOf u=.ok b→¬ E b
 |.w _=>∀ b,¬ E b
 |.q=>∀ b,¬ E b
theorem Eff.cut{T:Nat→Prop}{φ ψ:Phi}{h h':Hp}{w w':World}(ev:Eff T φ h w ψ h' w')(hd:∀ i p,φ i=some p→i<h.next):Eff (fun c=>T c∧c<h.next) φ h w ψ h' w' where
 le:=ev.le
 new:=ev.new
 next:=ev.next
 size:=ev.size
 tape:=ev.tape
 os:=ev.os
 output:=ev.output
 frame:=fun k hk hf=>ev.frame k hk fun i p e hn ht hl=>hf i p e hn ⟨ht,hd i p e⟩ hl
 back:=fun i p e hl hp=>by
  obtain⟨j,q,e1,e2,e3,e5,e4⟩:=ev.back i p e hl hp
  exact⟨j,q,e1,e2,e3,e5,e4.imp id fun ht=>⟨ht,hd j q e1⟩⟩
 kept:=fun i hi ho=>ev.kept i hi fun ht=>ho ⟨ht,hi⟩
 shape:=ev.shape
 only:=ev.only
 all:=ev.all
theorem Eff.refl(φ:Phi)(h:Hp)(w:World):Eff (fun _=>False) φ h w φ h w where
 le:=.refl φ
 new:=fun _ _ e=>.inl e
 next:=Nat.le_refl _
 size:=Nat.le_refl _
 tape:=rfl
 os:=rfl
 output:=rfl
 frame:=fun _ _ _=>rfl
 back:=fun i p e hl _=>⟨i,p,e,hl,rfl,rfl,.inl rfl⟩
 kept:=fun _ _ _=>rfl
 shape:=fun _ _=>.refl _
 only:=fun _ _ _=>rfl
 all:=fun _ h1 h2=>absurd h2 (Nat.not_lt.2 h1)
def Tame(ty:TTy)(o:Oper)(ah:Ahead):Prop:=(kd ty o.op=.p∨∃ x,kd ty o.op=.r x)∨(ah≠.plain∧∀ old x xs,ah≠.chk old x xs)
structure Core (P:Program)(ty:TTy)(o:Oper)(ah:Ahead)(ρ:Rho)(h h':Hp)(v:Value)(T:Nat→Prop):Prop where
 does:∀ (φ:Phi) (E:Nat→Prop) (w:World) (a:Act),RelW ty φ E h w→(∀ x∈o.op.operands.toList,∀ u,evR ρ x=some u→RelV φ u (a.eval x))→TouchR ty ρ E o.op→
  ∀ (next:Act→World→Prop) (Q:Exit→Act→World→Prop),(∀ ψ v' w',RelV ψ v v'→RelW ty ψ E h' w'→Eff T φ h w ψ h' w'→Evo φ h w ψ h' w'→next (a.put o.dst v') w')→o.wp P a w next Q
 tame:Tame ty o ah→h'.low≤h.low∧h.high≤h'.high∧(∀ c,T c→h'.low≤c∧c≤h'.high)∧h'.mark=h.mark
 tlt:∀ c,T c→c<h.next
 tp:(kd ty o.op=.p∨∃ x,kd ty o.op=.r x)→(∀ c,¬ T c)∧h'=h
 strong:ah=.quiet .strong→∀ c,¬ T c
 weak:ah=.quiet .weak→∀ c,T c→h.mark≤c
 apart:∀ xs,ah=.apart xs→∀ c,T c→∀ y∈xs,∀ u,evR ρ y=some u→blkOf u≠.ok c
 fad:∀ t x i,o.op=.fieldAddr t x i→∀ b,blkOf v=.ok b→∃ u,evR ρ x=some u∧blkOf u=.ok b
 wr:∀ x xs,ah=.wr x xs→∀ c,T c→∃ u,evR ρ x=some u∧blkOf u=.ok c
structure Side (ah:Ahead)(ρ:Rho)(h:Hp):Prop where
 wrx:∀ x xs,ah=.wr x xs→∀ y∈xs,∀ u u' b,evR ρ x=some u→evR ρ y=some u'→blkOf u=.ok b→blkOf u'≠.ok b
 chk:∀ old x xs,ah=.chk old x xs→∀ y∈xs,∀ u u' b,evR ρ x=some u→evR ρ y=some u'→blkOf u=.ok b→blkOf u'≠.ok b
 old:∀ x xs,ah=.chk true x xs→∀ u b,evR ρ x=some u→blkOf u=.ok b→b<h.mark
 known:∀ x xs,(ah=.wr x xs∨∃ old,ah=.chk old x xs)→(∃ u,evR ρ x=some u)∧∀ y∈xs,∃ u,evR ρ y=some u
 knownA:∀ xs,ah=.apart xs→∀ y∈xs,∃ u,evR ρ y=some u
structure SF (P:Program)(ty:TTy)(ops:List Oper)(o:Oper)(ah:Ahead)(ρ ρ':Rho)(h h':Hp)(v:Value)(run:Bool)(T:Nat→Prop):Prop where
 slot:∀ t u,ρ' t=some u→if o.dst=some t then u=v else ρ t=some u
 grd:match o.guard with
  |none=>run=true
  |some (g,want)=>∃ og d c,ops[g]? =some og∧og.dst=some d∧ρ d=some c∧((∃ b,c=.bool b∧run=(want == b))∨(∃ l,c=.tuple l∧run=false))
 side:kd ty o.op≠.p→Side ah ρ h
 core:(run=true∧Core P ty o ah ρ h h' v T)∨(run=false∧v=noRes∧h'=h∧∀ c,¬ T c)
section
variable {P:Program}{ty:TTy}{F:CallF}
theorem Fu(hT:BN P ty)(hF:BM P ty F){A:List Nat}{σ:Sg}{e:Env}{o:Oper}{g g':Hp}{v:Value}(hr:opC ty ⟨A,σ⟩ o.op F e g=.ok v g')(φ:Phi)(E:Nat→Prop)(w:World)(a:Act)(H:RelW ty φ E g w)
  (hn:∀ x∈o.op.operands.toList,∀ u,evR (rhoOf A σ e) x=some u→RelV φ u (a.eval x))(ht:TouchR ty (rhoOf A σ e) E o.op):CR P ty φ E g v g' o a w:=by
 refine VX hT hF H (f:=⟨A,σ⟩) (e:=e) (F:=F) (fun x hx y hy=>hn x hx _ (CQ hy e)) ?_ hr
 unfold ET
 unfold TouchR at ht
 cases hk:kd ty o.op with
 |p=>trivial
 |a=>trivial
 |r x=>rw[hk]at ht;exact fun y hy b hb=>ht _ (CQ hy e) b hb
 |w x=>rw[hk]at ht;exact ht
 |q=>rw[hk]at ht;exact ht
def Ew(h:Hp):Hp:={next:=h.next,low:=h.next,high:=0,mark:=h.mark,bl:=h.bl}
theorem J9{A:List Nat}{σ:Sg}{e:Env}{o:Oper}{g g':Hp}{v:Value}(hr:opC ty ⟨A,σ⟩ o.op F e g=.ok v g')(t:TypeId)(x:Operand)(i:Nat)(ho:o.op=.fieldAddr t x i)(b:Nat)(hb:blkOf v=.ok b):
  ∃ u,evR (rhoOf A σ e) x=some u∧blkOf u=.ok b:=by
 rw[ho]at hr
 obtain⟨ti,_,hr⟩:=Ay hr
 obtain⟨x',hx',hr⟩:=Bb hr
 refine⟨_,CQ hx' e,?_⟩
 cases hk:ti.k with
 |struct fs=>
  simp only[hk]at hr
  cases hn:nth fs i with
  |none=>rw[hn]at hr;cases hr
  |some q=>
   obtain⟨off,s,ft⟩:=q
   rw[hn]at hr
   cases s with
   |zero=>cases hr
   |succ s=>
    have hr:AA.rec (motive:=fun _=>R) .no (fun a=>GF a off g) (Cn (x' e))=.ok v g':=hr
    cases hadr:Cn (x' e)with
    |no=>rw[hadr]at hr;cases hr
    |ok a=>
     rw[hadr]at hr
     rw[Dt hadr]
     have hr:GF a off g=.ok v g':=hr
     unfold GF at hr
     rw[As]at hr
     cases hr
     exact hb
 |_=>simp only[hk]at hr;cases hr
theorem H4(hT:BN P ty)(hF:BM P ty F){A:List Nat}{σ:Sg}{e:Env}{o:Oper}{ah:Ahead}(hah:ah=.plain∨∃ old x xs,ah=.chk old x xs){h h':Hp}{v:Value}(hr:opC ty ⟨A,σ⟩ o.op F e h=.ok v h'):∃ T,Core P ty o ah (rhoOf A σ e) h h' v T:=by
 have hns:ah≠.quiet .strong:=by rcases hah with rfl|⟨_,_,_,rfl⟩<;>exact fun h=>by cases h
 have hnw:ah≠.quiet .weak:=by rcases hah with rfl|⟨_,_,_,rfl⟩<;>exact fun h=>by cases h
 have hnr:∀ x xs,ah≠.wr x xs:=by rcases hah with rfl|⟨_,_,_,rfl⟩<;>exact fun _ _ h=>by cases h
 have hna:∀ xs,ah≠.apart xs:=by rcases hah with rfl|⟨_,_,_,rfl⟩<;>exact fun _ h=>by cases h
 have hnm:¬ (ah≠.plain∧∀ old x xs,ah≠.chk old x xs):=by
  rcases hah with rfl|⟨_,_,_,rfl⟩
  ·exact fun h=>h.1 rfl
  ·exact fun h=>h.2 _ _ _ rfl
 by_cases hk:kd ty o.op=.p∨∃ x,kd ty o.op=.r x
 ·have K:=VW (ty:=ty) (f:=⟨A,σ⟩) hk F e
  have hh:=K.same hr
  have hr2:=K.at hr (Ew h) rfl
  subst hh
  refine⟨fun _=>False,{does:=fun φ E w a H hn ht next Q hnx=>?_,tame:=fun _=>⟨Nat.le_refl _,Nat.le_refl _,fun _ h=>h.elim,rfl⟩,tlt:=fun _ h=>h.elim,tp:=fun _=>⟨fun _ h=>h,rfl⟩,strong:=fun h=>absurd h hns,weak:=fun h=>absurd h hnw,apart:=fun _ h=>absurd h (hna _),fad:=J9 hr,wr:=fun _ _ h=>absurd h (hnr _ _)}⟩
  have key:∀ ψ v' w',RelV ψ v v'→RelW ty ψ E (Ew h') w'→Evo φ (Ew h') w ψ (Ew h') w'→Eff (fun _=>False) φ h' w ψ h' w':=?_
  ·exact Fu hT hF hr2 φ E w a (H.of_bl rfl rfl) hn ht next Q fun ψ v' w' hv H' ev=>hnx ψ v' w' hv (H'.of_bl rfl rfl) (key ψ v' w' hv H' ev) ((key ψ v' w' hv H' ev).evo (fun _ h=>h.elim) (Nat.le_refl _) (Nat.le_refl _))
  intro ψ v' w' hv H' ev
  have e1:Eff (fun c=>h'.next≤c∧c≤0) φ h' w ψ h' w':=ev.eff.of_bl rfl rfl rfl rfl
  have hd:∀ i p,φ i=some p→i<h'.next:=fun i p e=>(H.dom i p e).1
  have e2:=e1.cut hd
  exact {e2 with
   frame:=fun k hk hf=>e2.frame k hk fun i p e hn ht=>by omega
   back:=fun i p e hl hp=>by
    obtain⟨j,q,e1,e2,e3,e5,e4⟩:=e2.back i p e hl hp
    exact⟨j,q,e1,e2,e3,e5,e4.imp id fun ht=>by omega⟩
   kept:=fun i hi _=>e2.kept i hi fun ht=>by omega}
 ·refine⟨fun c=>(h'.low≤c∧c≤h'.high)∧c<h.next,{does:=fun φ E w a H hn ht next Q hnx=>?_,tame:=fun h=>absurd h (fun h=>h.elim hk hnm),tlt:=fun _ h=>h.2,tp:=fun h=>absurd h hk,strong:=fun h=>absurd h hns,weak:=fun h=>absurd h hnw,apart:=fun _ h=>absurd h (hna _),fad:=J9 hr,wr:=fun _ _ h=>absurd h (hnr _ _)}⟩
  exact Fu hT hF hr φ E w a H hn ht next Q fun ψ v' w' hv H' ev=>hnx ψ v' w' hv H' (ev.eff.cut fun i p e=>(H.dom i p e).1) ev
theorem Dy(hT:BN P ty)(hF:BM P ty F){A:List Nat}{σ:Sg}{e:Env}{o:Oper}{ah:Ahead}{h h' g':Hp}{v:Value}(hr:opC ty ⟨A,σ⟩ o.op F e (Ew h)=.ok v g')
  (h1:h'.bl=g'.bl)(h2:h'.next=g'.next)(h3:h'.low=min h.low g'.low)(h4:h'.high=max h.high g'.high)(h5:h'.mark=h.mark)
  (hs:ah=.quiet .strong→h.next≤g'.low)(hw:ah=.quiet .weak→h.mark≤g'.low)(ha:∀ xs,ah=.apart xs→∀ c,g'.low≤c→c≤g'.high→∀ y∈xs,∀ u,evR (rhoOf A σ e) y=some u→blkOf u≠.ok c)
  (hx:∀ x xs,ah=.wr x xs→∀ c,g'.low≤c→c≤g'.high→c<h.next→∃ u,evR (rhoOf A σ e) x=some u∧blkOf u=.ok c)(hnk:¬ (kd ty o.op=.p∨∃ x,kd ty o.op=.r x)):∃ T,Core P ty o ah (rhoOf A σ e) h h' v T:=by
 refine⟨fun c=>(g'.low≤c∧c≤g'.high)∧c<h.next,{does:=fun φ E w a H hn ht next Q hnx=>?_,tame:=fun _=>⟨by omega,by omega,fun c h=>by omega,h5⟩,tlt:=fun _ h=>h.2,tp:=fun h=>absurd h hnk,strong:=fun h c hc=>?_,weak:=fun h c hc=>?_,apart:=fun xs h c hc=>ha xs h c hc.1.1 hc.1.2,fad:=J9 hr,wr:=fun x xs h c hc=>hx x xs h c hc.1.1 hc.1.2 hc.2}⟩
 ·refine Fu hT hF hr φ E w a (H.of_bl rfl rfl) hn ht next Q fun ψ v' w' hv H' ev=>?_
  have e1:Eff (fun c=>g'.low≤c∧c≤g'.high) φ h w ψ h' w':=ev.eff.of_bl rfl rfl h1 h2
  exact hnx ψ v' w' hv (H'.of_bl h1 h2) (e1.cut fun i p e=>(H.dom i p e).1) (e1.evo (fun c h=>by omega) (by omega) (by omega))
 ·have:=hs h;omega
 ·have:=hw h;omega
theorem Tv{φ ψ:Phi}{h h0 h1 h':Hp}{w w':World}{T:Nat→Prop}(H:RelW ty φ (fun _=>False) h w)(hn0:h0.next=h.next)(h00:∀ i,h0.bl.get i=.dead∨h0.bl.get i=h.bl.get i)
  (H1:RelW ty ψ (fun _=>False) h1 w')(ev:Evo φ h0 w ψ h1 w')(hn1:h'.next=h1.next)
  (hb:∀ i,(h'.bl.get i=h1.bl.get i∧(i<h.next→h0.bl.get i≠.dead))∨(h'.bl.get i=.dead∧h.next≤i)∨(i<h.next∧h0.bl.get i=.dead∧h'.bl.get i=h.bl.get i))
  (hTc:∀ c,h1.low≤c→c≤h1.high→c<h.next→h0.bl.get c≠.dead→T c):RelW ty ψ (fun _=>False) h' w'∧Eff T φ h w ψ h' w':=by
 have live0:∀ i,Live h0 i→Live h i:=fun i hi hd=>by
  rcases h00 i with h2|h2
  ·exact hi h2
  ·exact hi (h2.trans hd)
 have dead1:∀ i,i<h.next→h0.bl.get i=.dead→h1.bl.get i=.dead:=fun i hi hd=>by
  have:=ev.shape i (by rw[hn0];exact hi)
  rw[hd]at this;exact this.of_dead
 have keep:∀ i p,φ i=some p→i<h.next→h0.bl.get i=.dead→Live h i→w'.heap[p.blk]? =w.heap[p.blk]?:=fun i p hp hi hd hv=>
  ev.frame p.blk (H.dom i p hp).2 fun j q hq hn _ _ hj hpq=>by
   have:=H.inj j i q p hq hp id id (live0 j hj) hv (.inl hn) hpq
   subst this
   exact hj hd
 have old:∀ i p,ψ i=some p→i<h.next→φ i=some p:=fun i p hp hi=>by
  rcases ev.new i p hp with h2|h2
  ·exact h2
  ·rw[hn0]at h2;omega
 have cross:∀ i j p q,ψ i=some p→ψ j=some q→Live h1 i→j<h.next→h0.bl.get j=.dead→Live h j→(p.inp=false∨q.inp=false)→p.blk≠q.blk:=fun i j p q hp hq hi hj hd hv hio hpq=>by
  have hq':=old j q hq hj
  obtain⟨k,r,hr,lk,hrp,hri,_⟩:=ev.back i p hp hi (by rw[hpq];exact(H.dom j q hq').2)
  have:=H.inj k j r q hr hq' id id (live0 k lk) hv (by rw[hri];exact hio) (hrp.trans hpq)
  subst this
  exact lk hd
 refine⟨{dom:=fun i p hp=>⟨by rw[hn1];exact(H1.dom i p hp).1,(H1.dom i p hp).2⟩,inj:=fun i j p q hp hq _ _ hi hj hio hpq=>?_,row:=fun i p hp _=>?_,fresh:=fun i hi=>?_,kind:=fun i p c s e hp hc=>?_,inp:=H1.inp},?_⟩
 ·have li:=hb i
  have lj:=hb j
  rcases li with ⟨li,_⟩|⟨li,_⟩|⟨i1,i2,i3⟩
  ·rcases lj with ⟨lj,_⟩|⟨lj,_⟩|⟨j1,j2,j3⟩
   ·exact H1.inj i j p q hp hq id id (fun hd=>hi (li.trans hd)) (fun hd=>hj (lj.trans hd)) hio hpq
   ·exact absurd lj hj
   ·exact absurd hpq (cross i j p q hp hq (fun hd=>hi (li.trans hd)) j1 j2 (fun hd=>hj (j3.trans hd)) hio)
  ·exact absurd li hi
  ·rcases lj with ⟨lj,_⟩|⟨lj,_⟩|⟨j1,j2,j3⟩
   ·exact absurd hpq.symm (cross j i q p hq hp (fun hd=>hj (lj.trans hd)) i1 i2 (fun hd=>hi (i3.trans hd)) hio.symm)
   ·exact absurd lj hj
   ·exact H.inj i j p q (old i p hp i1) (old j q hq j1) id id (fun hd=>hi (i3.trans hd)) (fun hd=>hj (j3.trans hd)) hio hpq
 ·rcases hb i with ⟨li,_⟩|⟨li,_⟩|⟨i1,i2,i3⟩
  ·rw[li];exact H1.row i p hp id
  ·rw[li];exact .dead
  ·rw[i3]
   by_cases hd:h.bl.get i=.dead
   ·rw[hd];exact .dead
   ·have hp':=old i p hp i1
    rw[keep i p hp' i1 i2 hd]
    exact(H.row i p hp' id).mono ev.le
 ·have hi1:h1.next≤i:=hn1 ▸ hi
  have:=ev.next
  rcases hb i with ⟨li,_⟩|⟨li,_⟩|⟨i1,i2,i3⟩
  ·rw[li];exact H1.fresh i hi1
  ·exact li
  ·omega
 ·rcases hb i with ⟨li,_⟩|⟨li,_⟩|⟨i1,i2,i3⟩
  ·exact H1.kind i p c s e hp (li ▸ hc)
  ·rw[li]at hc;cases hc
  ·exact H.kind i p c s e (old i p hp i1) (i3 ▸ hc)
 ·have fromOld:∀ i,i<h.next→(h'.bl.get i=h1.bl.get i∧h0.bl.get i=h.bl.get i)∨h'.bl.get i=h.bl.get i:=fun i hi=>by
   rcases hb i with ⟨li,l2⟩|⟨_,li⟩|⟨i1,i2,i3⟩
   ·exact .inl ⟨li,(h00 i).resolve_left (l2 hi)⟩
   ·omega
   ·exact .inr i3
  exact {
   le:=ev.le
   new:=fun i p hp=>by rw[← hn0];exact ev.new i p hp
   next:=by rw[hn1,← hn0];exact ev.next
   size:=ev.size
   tape:=ev.tape
   os:=ev.os
   output:=ev.output
   frame:=fun k hk hf=>ev.frame k hk fun i p hp hn hl' hh' hv=>hf i p hp hn (hTc i hl' hh' (H.dom i p hp).1 hv) (live0 i hv)
   back:=fun i p hp hv hk=>by
    rcases hb i with ⟨li,_⟩|⟨li,_⟩|⟨i1,i2,i3⟩
    ·obtain⟨j,q,hj,lj,hq,hqi,hor⟩:=ev.back i p hp (fun hd=>hv (li.trans hd)) hk
     refine⟨j,q,hj,live0 j lj,hq,hqi,hor.imp id fun⟨a,b⟩=>hTc j a b (H.dom j q hj).1 lj⟩
    ·exact absurd li hv
    ·exact⟨i,p,old i p hp i1,fun hd=>hv (i3.trans hd),rfl,rfl,.inl rfl⟩
   kept:=fun i hi hr=>by
    rcases fromOld i hi with ⟨li,l2⟩|li
    ·rw[li,← l2]
     by_cases hd:h0.bl.get i=.dead
     ·rw[hd];exact dead1 i hi hd
     ·exact ev.kept i (by rw[hn0];exact hi) (by
       rcases Nat.lt_or_ge i h1.low with h|h
       ·exact .inl h
       ·rcases Nat.lt_or_ge h1.high i with h2|h2
        ·exact .inr h2
        ·exact absurd (hTc i h h2 hi hd) hr)
    ·exact li
   shape:=fun i hi=>by
    rcases fromOld i hi with ⟨li,l2⟩|li
    ·rw[li,← l2];exact ev.shape i (by rw[hn0];exact hi)
    ·rw[li];exact .refl _
   only:=fun i hi hp=>by
    rcases fromOld i hi with ⟨li,l2⟩|li
    ·rw[li,ev.only i (by rw[hn0];exact hi) hp,l2]
    ·exact li
   all:=fun i hi h2=>ev.all i (by rw[hn0];exact hi) (by rw[← hn1];exact h2)}
theorem RelW.part{φ:Phi}{h h0:Hp}{w:World}(H:RelW ty φ (fun _=>False) h w)(hn0:h0.next=h.next)(h00:∀ i,h0.bl.get i=.dead∨h0.bl.get i=h.bl.get i):RelW ty φ (fun _=>False) h0 w where
 dom:=fun i p hp=>by rw[hn0];exact H.dom i p hp
 inj:=fun i j p q hp hq _ _ hi hj hio hpq=>H.inj i j p q hp hq id id
  (fun hd=>(h00 i).elim (fun h2=>hi h2) (fun h2=>hi (h2.trans hd))) (fun hd=>(h00 j).elim (fun h2=>hj h2) (fun h2=>hj (h2.trans hd))) hio hpq
 row:=fun i p hp _=>by
  rcases h00 i with h2|h2
  ·rw[h2];exact .dead
  ·rw[h2];exact H.row i p hp id
 fresh:=fun i hi=>by
  rcases h00 i with h2|h2
  ·exact h2
  ·rw[h2];exact H.fresh i (hn0 ▸ hi)
 kind:=fun i p c s e hp hc=>by
  rcases h00 i with h2|h2
  ·rw[h2]at hc;cases hc
  ·exact H.kind i p c s e hp (h2 ▸ hc)
 inp:=H.inp
theorem Oe(hT:BN P ty)(hF:BM P ty F){A:List Nat}{σ:Sg}{e:Env}{o:Oper}{ah:Ahead}{xs:List Operand}{D:Nat→Prop}{h h' g0 g1:Hp}{v:Value}(hr:opC ty ⟨A,σ⟩ o.op F e g0=.ok v g1)
  (a1:g0.next=h.next)(hD:∀ i,(D i∧i<h.next∧g0.bl.get i=.dead)∨(¬ D i∧g0.bl.get i=h.bl.get i))(hL:∀ i,(D i∧h'.bl.get i=h.bl.get i)∨(¬ D i∧h'.bl.get i=g1.bl.get i))
  (q2:h'.next=g1.next)(q3:h'.low=min h.low g1.low)(q4:h'.high=max h.high g1.high)(q5:h'.mark=h.mark)(hk:kd ty o.op=.q)(hah:ah=.apart xs)
  (hx:∀ y∈xs,∀ u,evR (rhoOf A σ e) y=some u→∀ c,blkOf u=.ok c→D c):∃ T,Core P ty o ah (rhoOf A σ e) h h' v T:=by
 subst hah
 have h00:∀ i,g0.bl.get i=.dead∨g0.bl.get i=h.bl.get i:=fun i=>(hD i).imp (fun h=>h.2.2) (fun h=>h.2)
 refine⟨fun c=>((g1.low≤c∧c≤g1.high)∧c<h.next)∧¬ D c,{does:=fun φ E w a H hn ht next Q hnx=>?_,tame:=fun _=>⟨by omega,by omega,fun c h=>by omega,q5⟩,tlt:=fun _ h=>h.1.2,tp:=fun h=>?_,strong:=fun h=>(by cases h),weak:=fun h=>(by cases h),apart:=fun ys he c hc y hy u hu hb=>?_,fad:=J9 hr,wr:=fun _ _ h=>(by cases h)}⟩
 ·have hE:E=fun _=>False:=funext fun b=>propext ⟨fun hb=>(by unfold TouchR at ht;rw[hk]at ht;exact ht b hb),False.elim⟩
  subst hE
  refine Fu hT hF hr φ _ w a (RelW.part H a1 h00) hn ht next Q fun ψ v' w' hv H1 ev=>?_
  have hb:∀ i,(h'.bl.get i=g1.bl.get i∧(i<h.next→g0.bl.get i≠.dead))∨(h'.bl.get i=.dead∧h.next≤i)∨(i<h.next∧g0.bl.get i=.dead∧h'.bl.get i=h.bl.get i):=fun i=>by
   rcases hL i with ⟨d,l⟩|⟨d,l⟩
   ·rcases hD i with ⟨_,d2,d3⟩|⟨d2,_⟩
    ·exact .inr (.inr ⟨d2,d3,l⟩)
    ·exact absurd d d2
   ·by_cases hi:i<h.next∧g0.bl.get i=.dead
    ·refine .inr (.inr ⟨hi.1,hi.2,?_⟩)
     have hs:=ev.shape i (by rw[a1];exact hi.1)
     rw[hi.2]at hs
     rcases hD i with ⟨d2,_⟩|⟨_,d3⟩
     ·exact absurd d2 d
     ·rw[l,hs.of_dead,← d3,hi.2]
    ·exact .inl ⟨l,fun a b=>hi ⟨a,b⟩⟩
  obtain⟨H',ef⟩:=Tv (T:=fun c=>((g1.low≤c∧c≤g1.high)∧c<h.next)∧¬ D c) H a1 h00 H1 ev q2 hb fun c c1 c2 c3 c4=>⟨⟨⟨c1,c2⟩,c3⟩,fun d=>by
   rcases hD c with ⟨_,_,d3⟩|⟨d2,_⟩
   ·exact c4 d3
   ·exact d2 d⟩
  exact hnx ψ v' w' hv H' ef (ef.evo (fun c h=>by omega) (by omega) (by omega))
 ·rw[hk]at h;rcases h with h|⟨_,h⟩<;>cases h
 ·cases he;exact hc.2 (hx y hy u hu c hb)
end
end
noncomputable section
open Go
section
variable {P:Program}{ty:TTy}{F:CallF}
structure AhOk (ty:TTy)(o:Oper)(ah:Ahead):Prop where
 quiet:∀ m,ah=.quiet m→¬ (kd ty o.op=.p∨∃ x,kd ty o.op=.r x)
 wr:∀ x xs,ah=.wr x xs→kd ty o.op=.w x
 chk:∀ old x xs,ah=.chk old x xs→kd ty o.op=.r x
 apart:∀ xs,ah=.apart xs→kd ty o.op=.q
theorem AhOk.plain(ty:TTy)(o:Oper):AhOk ty o .plain:=⟨(fun _ h=>by cases h),(fun _ _ h=>by cases h),(fun _ _ _ h=>by cases h),(fun _ h=>by cases h)⟩
theorem GY{b:Nat}{e:Env}:∀ {rs:List (Env→Value)},FX b e rs=true→∀ g∈rs,blkOf (g e)≠.ok b
 |[],_,g,hg=>by cases hg
 |x::l,h,g,hg=>by
  unfold FX at h
  cases hb:blkOf (x e)with
  |no=>
   rw[hb]at h
   rcases List.mem_cons.1 hg with rfl|hg
   ·rw[hb];exact fun h=>by cases h
   ·exact GY h g hg
  |ok a=>
   rw[hb]at h
   simp only at h
   cases hq:Nat.beq a b with
   |true=>rw[hq]at h;cases h
   |false=>
    rw[hq]at h
    rcases List.mem_cons.1 hg with rfl|hg
    ·rw[hb];exact fun h=>by cases h;exact Cu hq rfl
    ·exact GY h g hg
theorem Nk{w:Env→Value}{rs:List (Env→Value)}{k:C}{e:Env}{h:Hp}{X:X}(hr:BA w rs k F e h=X)(hn:X≠.no):k F e h=X∧∀ b,blkOf (w e)=.ok b→∀ g∈rs,blkOf (g e)≠.ok b:=by
 unfold BA at hr
 cases hb:blkOf (w e)with
 |no=>rw[hb]at hr;exact⟨hr,fun b h=>by cases h⟩
 |ok b=>
  rw[hb]at hr
  simp only at hr
  cases hc:FX b e rs with
  |false=>rw[hc]at hr;exact absurd hr.symm hn
  |true=>rw[hc]at hr;exact⟨hr,fun b' h=>by cases h;exact GY hc⟩
theorem Rp{x:O}{k:C}{e:Env}{h:Hp}{X:X}(hr:Bc x k F e h=X)(hn:X≠.no):k F e h=X∧∀ b,blkOf (x e)=.ok b→b<h.mark:=by
 unfold Bc at hr
 cases hb:blkOf (x e)with
 |no=>rw[hb]at hr;exact⟨hr,fun b h=>by cases h⟩
 |ok b=>
  rw[hb]at hr
  simp only at hr
  cases hc:Nat.blt b h.mark with
  |false=>rw[hc]at hr;exact absurd hr.symm hn
  |true=>rw[hc]at hr;exact⟨hr,fun b' h=>by cases h;exact Aq.1 hc⟩
theorem DJ{f:Fr}:∀ {l:List Operand} {ys:List O},cOs f l=some ys→∀ x∈l,∃ y,cO f x=some y∧y∈ys
 |[],ys,h,x,hx=>by cases hx
 |z::l,ys,h,x,hx=>by
  unfold cOs at h
  split at h
  ·rename_i y hy
   split at h
   ·rename_i r hr
    cases h
    rcases List.mem_cons.1 hx with rfl|hx
    ·exact⟨y,hy,List.mem_cons_self⟩
    ·obtain⟨y',h1,h2⟩:=DJ hr x hx
     exact⟨y',h1,List.mem_cons_of_mem _ h2⟩
   ·cases h
  ·cases h
theorem JG{e:Env}{lo hi:Nat}:∀ {rs:List (Env→Value)},Dv e lo hi rs=true→∀ g∈rs,∀ c,lo≤c→c≤hi→blkOf (g e)≠.ok c
 |[],_,g,hg=>by cases hg
 |x::l,h,g,hg=>by
  have h0:(∀ b,blkOf (x e)=.ok b→b<lo∨hi<b)∧Dv e lo hi l=true:=by
   unfold Dv at h
   cases hb:blkOf (x e)with
   |no=>rw[hb]at h;exact⟨(fun _ h=>by cases h),h⟩
   |ok b=>
    rw[hb]at h
    simp only at h
    cases h1:Nat.blt b lo with
    |true=>rw[h1]at h;exact⟨(fun c hc=>by cases hc;exact .inl (Aq.1 h1)),h⟩
    |false=>
     rw[h1]at h
     cases h2:Nat.blt hi b with
     |true=>rw[h2]at h;exact⟨(fun c hc=>by cases hc;exact .inr (Aq.1 h2)),h⟩
     |false=>rw[h2]at h;cases h
  rcases List.mem_cons.1 hg with rfl|hg
  ·intro c c1 c2 hc
   rcases h0.1 c hc with h|h<;>omega
  ·exact JG h0.2 g hg
theorem Fs{e:Env}{n:Nat}:∀ {rs:List (Env→Value)} {t t':BT},H5 e n rs t=some t'→∀ i,((∃ g∈rs,blkOf (g e)=.ok i)∧i<n∧t'.get i=.dead)∨((¬ ∃ g∈rs,blkOf (g e)=.ok i)∧t'.get i=t.get i)
 |[],t,t',h,i=>by cases h;exact .inr ⟨fun⟨_,h,_⟩=>(by cases h),rfl⟩
 |x::l,t,t',h,i=>by
  unfold H5 at h
  cases hb:blkOf (x e)with
  |no=>
   rw[hb]at h
   rcases Fs h i with ⟨⟨g,h1,h2⟩,h3⟩|⟨h1,h2⟩
   ·exact .inl ⟨⟨g,List.mem_cons_of_mem _ h1,h2⟩,h3⟩
   ·refine .inr ⟨fun⟨g,h3,h4⟩=>?_,h2⟩
    rcases List.mem_cons.1 h3 with rfl|h3
    ·rw[hb]at h4;cases h4
    ·exact h1 ⟨g,h3,h4⟩
  |ok b=>
   rw[hb]at h
   simp only at h
   cases hn:Nat.blt b n with
   |false=>rw[hn]at h;cases h
   |true=>
    rw[hn]at h
    cases hs:t.set b .dead with
    |none=>rw[hs]at h;cases h
    |some t1=>
     rw[hs]at h
     have h:H5 e n l t1=some t':=h
     have hg:=BT.get_set _ _ _ _ hs i
     by_cases hi:i=b
     ·subst hi
      refine .inl ⟨⟨x,List.mem_cons_self,hb⟩,Aq.1 hn,?_⟩
      rcases Fs h i with ⟨_,_,h3⟩|⟨_,h3⟩
      ·exact h3
      ·rw[h3,hg,if_pos rfl]
     ·rw[if_neg hi]at hg
      rcases Fs h i with ⟨⟨g,h1,h2⟩,h3⟩|⟨h1,h2⟩
      ·exact .inl ⟨⟨g,List.mem_cons_of_mem _ h1,h2⟩,h3⟩
      ·refine .inr ⟨fun⟨g,h3,h4⟩=>?_,h2.trans hg⟩
       rcases List.mem_cons.1 h3 with rfl|h3
       ·rw[hb]at h4;cases h4;exact hi rfl
       ·exact h1 ⟨g,h3,h4⟩
theorem HX{e:Env}{s:BT}:∀ {rs:List (Env→Value)} {t t':BT},Mz e s rs t=some t'→∀ i,((∃ g∈rs,blkOf (g e)=.ok i)∧t'.get i=s.get i)∨((¬ ∃ g∈rs,blkOf (g e)=.ok i)∧t'.get i=t.get i)
 |[],t,t',h,i=>by cases h;exact .inr ⟨fun⟨_,h,_⟩=>(by cases h),rfl⟩
 |x::l,t,t',h,i=>by
  unfold Mz at h
  cases hb:blkOf (x e)with
  |no=>
   rw[hb]at h
   rcases HX h i with ⟨⟨g,h1,h2⟩,h3⟩|⟨h1,h2⟩
   ·exact .inl ⟨⟨g,List.mem_cons_of_mem _ h1,h2⟩,h3⟩
   ·refine .inr ⟨fun⟨g,h3,h4⟩=>?_,h2⟩
    rcases List.mem_cons.1 h3 with rfl|h3
    ·rw[hb]at h4;cases h4
    ·exact h1 ⟨g,h3,h4⟩
  |ok b=>
   rw[hb]at h
   simp only at h
   cases hs:t.set b (s.get b)with
   |none=>rw[hs]at h;cases h
   |some t1=>
    rw[hs]at h
    have h:Mz e s l t1=some t':=h
    have hg:=BT.get_set _ _ _ _ hs i
    by_cases hi:i=b
    ·subst hi
     refine .inl ⟨⟨x,List.mem_cons_self,hb⟩,?_⟩
     rcases HX h i with ⟨_,h3⟩|⟨_,h3⟩
     ·exact h3
     ·rw[h3,hg,if_pos rfl]
    ·rw[if_neg hi]at hg
     rcases HX h i with ⟨⟨g,h1,h2⟩,h3⟩|⟨h1,h2⟩
     ·exact .inl ⟨⟨g,List.mem_cons_of_mem _ h1,h2⟩,h3⟩
     ·refine .inr ⟨fun⟨g,h3,h4⟩=>?_,h2.trans hg⟩
      rcases List.mem_cons.1 h3 with rfl|h3
      ·rw[hb]at h4;cases h4;exact hi rfl
      ·exact h1 ⟨g,h3,h4⟩
theorem Fm{h g' h':Hp}{v u:Value}(hr:Fl h v g'=.ok u h'):u=v∧h'.bl=g'.bl∧h'.next=g'.next∧h'.low=min h.low g'.low∧h'.high=max h.high g'.high∧h'.mark=h.mark:=by
 unfold Fl at hr
 rw[As,As,A0,A6]at hr
 cases hr
 exact⟨rfl,rfl,rfl,rfl,rfl,rfl⟩
theorem Side.none{ah:Ahead}{ρ:Rho}{h:Hp}(h1:∀ x xs,ah≠.wr x xs)(h2:∀ old x xs,ah≠.chk old x xs)(h3:∀ xs,ah≠.apart xs):Side ah ρ h where
 knownA:=fun xs e=>absurd e (h3 xs)
 wrx:=fun x xs e=>absurd e (h1 x xs)
 chk:=fun old x xs e=>absurd e (h2 old x xs)
 old:=fun x xs e=>absurd e (h2 true x xs)
 known:=fun x xs e=>by
  rcases e with e|⟨old,e⟩
  ·exact absurd e (h1 x xs)
  ·exact absurd e (h2 old x xs)
theorem Hr(hT:BN P ty)(hF:BM P ty F){A:List Nat}{σ:Sg}{e:Env}{h:Hp}{o:Oper}{ah:Ahead}(hA:AhOk ty o ah){kc:OpF→C}{X:X}(hr:Du ⟨A,σ⟩ ah (opC ty ⟨A,σ⟩ o.op) kc F e h=X)(hn:X≠.no):
  ∃ p,kc p F e h=X∧(∀ v h',p F e h=.ok v h'→∃ T,Core P ty o ah (rhoOf A σ e) h h' v T)∧Side ah (rhoOf A σ e) h:=by
 cases ah with
 |plain=>exact⟨_,hr,fun v h' hp=>H4 hT hF (.inl rfl) hp,.none (fun _ _ h=>by cases h) (fun _ _ _ h=>by cases h) (fun _ h=>by cases h)⟩
 |quiet m=>
  refine⟨_,hr,fun v h' hp=>?_,.none (fun _ _ h=>by cases h) (fun _ _ _ h=>by cases h) (fun _ h=>by cases h)⟩
  have hk:=hA.quiet m rfl
  unfold AN at hp
  have hp:(match opC ty ⟨A,σ⟩ o.op F e (Ew h)with|.ok v h'=>bif qOk m h h'.low then Fl h v h' else .no|.no=>.no)=.ok v h':=hp
  cases hq:opC ty ⟨A,σ⟩ o.op F e (Ew h)with
  |no=>rw[hq]at hp;cases hp
  |ok u g'=>
   rw[hq]at hp
   obtain⟨hc,hp⟩:=Aw hp
   obtain⟨rfl,h1,h2,h3,h4,h5⟩:=Fm hp
   refine Dy hT hF hq h1 h2 h3 h4 h5 (fun e=>?_) (fun e=>?_) (fun _ e=>by cases e) (fun _ _ e=>by cases e) hk
   ·cases e;exact Ar.1 hc
   ·cases e;exact Ar.1 hc
 |apart xs=>
  have hk:=hA.apart xs rfl
  unfold Du at hr
  simp only at hr
  cases h2:cOs ⟨A,σ⟩ xs with
  |none=>simp only[h2]at hr;exact absurd hr.symm hn
  |some xs'=>
   simp only[h2]at hr
   refine⟨_,hr,fun v h' hp=>?_,{wrx:=fun _ _ h=>(by cases h),chk:=fun _ _ _ h=>(by cases h),old:=fun _ _ h=>(by cases h),known:=fun _ _ h=>(by rcases h with h|⟨_,h⟩<;>cases h),knownA:=fun ys he z hz=>?_}⟩
   ·have hp:(match opC ty ⟨A,σ⟩ o.op F e (Ew h)with|.ok v h'=>bif Dv e h'.low h'.high xs' then Fl h v h' else Jy xs' (opC ty ⟨A,σ⟩ o.op) F e h|.no=>.no)=.ok v h':=hp
    cases hq:opC ty ⟨A,σ⟩ o.op F e (Ew h)with
    |no=>rw[hq]at hp;cases hp
    |ok u g'=>
     rw[hq]at hp
     simp only at hp
     cases hc:Dv e g'.low g'.high xs' with
     |true=>
      rw[hc]at hp
      obtain⟨rfl,q1,q2,q3,q4,q5⟩:=Fm hp
      refine Dy hT hF hq q1 q2 q3 q4 q5 (fun e=>by cases e) (fun e=>by cases e) (fun ys he c c1 c2 z hz u' hu' hb=>?_) (fun _ _ e=>by cases e) (by rw[hk];rintro (h|⟨_,h⟩)<;>cases h)
      cases he
      obtain⟨z',hz1,hz2⟩:=DJ h2 z hz
      rw[CQ hz1 e]at hu';cases hu'
      exact JG hc z' hz2 c c1 c2 hb
     |false=>
      rw[hc]at hp
      have hp:Jy xs' (opC ty ⟨A,σ⟩ o.op) F e h=.ok v h':=hp
      unfold Jy at hp
      cases hd:H5 e h.next xs' h.bl with
      |none=>rw[hd]at hp;cases hp
      |some t=>
       rw[hd]at hp
       simp only at hp
       cases hq2:opC ty ⟨A,σ⟩ o.op F e {next:=h.next,low:=h.next,high:=0,mark:=h.mark,bl:=t}with
       |no=>rw[hq2]at hp;cases hp
       |ok u2 g2=>
        rw[hq2]at hp
        simp only at hp
        cases hl:Mz e h.bl xs' g2.bl with
        |none=>rw[hl]at hp;cases hp
        |some t'=>
         rw[hl]at hp
         obtain⟨rfl,q1,q2,q3,q4,q5⟩:=Fm hp
         refine Oe hT hF hq2 rfl (Fs hd) (fun i=>by rw[q1];exact HX hl i) q2 q3 q4 q5 hk rfl fun y hy u' hu' c hb=>?_
         obtain⟨z',hz1,hz2⟩:=DJ h2 y hy
         rw[CQ hz1 e]at hu';cases hu'
         exact⟨z',hz2,hb⟩
   ·cases he
    obtain⟨z',hz1,_⟩:=DJ h2 z hz
    exact⟨_,CQ hz1 e⟩
 |wr x xs=>
  have hk:=hA.wr x xs rfl
  unfold Du at hr
  simp only at hr
  cases h1:cO ⟨A,σ⟩ x with
  |none=>simp only[h1]at hr;exact absurd hr.symm hn
  |some x'=>
   cases h2:cOs ⟨A,σ⟩ xs with
   |none=>simp only[h1,h2]at hr;exact absurd hr.symm hn
   |some xs'=>
    simp only[h1,h2]at hr
    obtain⟨hr,hap⟩:=Nk hr hn
    refine⟨_,hr,fun v h' hp=>?_,?_⟩
    ·unfold Cj at hp
     have hp:(match opC ty ⟨A,σ⟩ o.op F e (Ew h)with|.ok v h'=>bif Uh (blkOf (x' e)) h h'.low h'.high then Fl h v h' else .no|.no=>.no)=.ok v h':=hp
     cases hq:opC ty ⟨A,σ⟩ o.op F e (Ew h)with
     |no=>rw[hq]at hp;cases hp
     |ok u g'=>
      rw[hq]at hp
      obtain⟨hc,hp⟩:=Aw hp
      obtain⟨rfl,q1,q2,q3,q4,q5⟩:=Fm hp
      refine Dy hT hF hq q1 q2 q3 q4 q5 (fun e=>by cases e) (fun e=>by cases e) (fun _ e=>by cases e) (fun y ys he c c1 c2 c3=>?_) (by rw[hk];rintro (h|⟨_,h⟩)<;>cases h)
      cases he
      refine⟨x' e,CQ h1 e,?_⟩
      unfold Uh at hc
      cases hb:blkOf (x' e)with
      |no=>rw[hb]at hc;have hc:=Ar.1 hc;omega
      |ok b=>
       rw[hb]at hc
       simp only at hc
       cases hb1:Nat.ble b g'.low with
       |false=>rw[hb1]at hc;cases hc
       |true=>
        rw[hb1]at hc
        have c4:=Ar.1 hb1
        have c5:=Ar.1 hc
        congr 1;omega
    ·refine {wrx:=fun y ys he z hz u u' b hu hu' hb=>?_,chk:=fun _ _ _ h=>(by cases h),old:=fun _ _ h=>(by cases h),known:=fun y ys he=>?_,knownA:=fun _ h=>(by cases h)}
     ·cases he
      obtain⟨z',hz1,hz2⟩:=DJ h2 z hz
      rw[CQ h1 e]at hu;cases hu
      rw[CQ hz1 e]at hu';cases hu'
      exact hap b hb z' hz2
     ·rcases he with he|⟨_,he⟩
      ·cases he
       exact⟨⟨_,CQ h1 e⟩,fun z hz=>by obtain⟨z',hz1,_⟩:=DJ h2 z hz;exact⟨_,CQ hz1 e⟩⟩
      ·cases he
 |chk old x xs=>
  unfold Du at hr
  simp only at hr
  cases h1:cO ⟨A,σ⟩ x with
  |none=>simp only[h1]at hr;exact absurd hr.symm hn
  |some x'=>
   cases h2:cOs ⟨A,σ⟩ xs with
   |none=>simp only[h1,h2]at hr;exact absurd hr.symm hn
   |some xs'=>
    simp only[h1,h2]at hr
    have hold:BA x' xs' (kc (opC ty ⟨A,σ⟩ o.op)) F e h=X∧(old=true→∀ b,blkOf (x' e)=.ok b→b<h.mark):=by
     cases old with
     |true=>obtain⟨q1,q2⟩:=Rp hr hn;exact⟨q1,fun _=>q2⟩
     |false=>exact⟨hr,fun h=>by cases h⟩
    obtain⟨hr,hap⟩:=Nk hold.1 hn
    refine⟨_,hr,fun v h' hp=>H4 hT hF (.inr ⟨_,_,_,rfl⟩) hp,?_⟩
    refine {wrx:=fun _ _ h=>(by cases h),chk:=fun _ y ys he z hz u u' b hu hu' hb=>?_,old:=fun y ys he u b hu hb=>?_,known:=fun y ys he=>?_,knownA:=fun _ h=>(by cases h)}
    ·cases he
     obtain⟨z',hz1,hz2⟩:=DJ h2 z hz
     rw[CQ h1 e]at hu;cases hu
     rw[CQ hz1 e]at hu';cases hu'
     exact hap b hb z' hz2
    ·cases he
     rw[CQ h1 e]at hu;cases hu
     exact hold.2 rfl b hb
    ·rcases he with he|⟨_,he⟩
     ·cases he
     ·cases he
      exact⟨⟨_,CQ h1 e⟩,fun z hz=>by obtain⟨z',hz1,_⟩:=DJ h2 z hz;exact⟨_,CQ hz1 e⟩⟩
structure Tr (P:Program)(ty:TTy)(all:List Oper)(ahs:List Ahead)(l:List Oper)(ρ:Nat→Rho)(H:Nat→Hp)(V:Nat→Value)(run:Nat→Bool)(T:Nat→Nat→Prop):Prop where
 sf:∀ j o,l[j]? =some o→SF P ty all o (ahs.getD j .plain) (ρ j) (ρ (j+1)) (H j) (H (j+1)) (V j) (run j) (T j)
def Kq{α:Type}(x:α)(f:Nat→α):Nat→α
 |0=>x
 |j+1=>f j
theorem Tr.cons{all:List Oper}{ahs:List Ahead}{o:Oper}{l:List Oper}{ρ:Nat→Rho}{H:Nat→Hp}{V:Nat→Value}{run:Nat→Bool}{T:Nat→Nat→Prop}(t:Tr P ty all ahs.tail l ρ H V run T)
  {ρ0:Rho}{h0:Hp}{v0:Value}{r0:Bool}{T0:Nat→Prop}(s:SF P ty all o (ahs.headD .plain) ρ0 (ρ 0) h0 (H 0) v0 r0 T0):Tr P ty all ahs (o::l) (Kq ρ0 ρ) (Kq h0 H) (Kq v0 V) (Kq r0 run) (Kq T0 T) where
 sf:=fun j o' hj=>by
  cases j with
  |zero=>
   cases hj
   have:ahs.getD 0 .plain=ahs.headD .plain:=by cases ahs<;>rfl
   rw[this];exact s
  |succ j=>
   have:ahs.getD (j+1) .plain=ahs.tail.getD j .plain:=by cases ahs<;>rfl
   rw[this];exact t.sf j o' hj
theorem It{A:List Nat}{σ:Sg}{e:Env}(hS:SgOk A σ){d:Nat}(hd:memN d A=false)(hlt:d<208)(v:Value){o:Oper}(ho:o.dst=some d)(t:Nat)(u:Value)
  (h:rhoOf A (DL d σ) (Env.set d v e) t=some u):if o.dst=some t then u=v else rhoOf A σ e t=some u:=by
 have:=TL hS hd hlt v h
 rw[ho]
 by_cases ht:t=d
 ·rw[if_pos ht]at this;rw[if_pos (by rw[ht])];exact this
 ·rw[if_neg ht]at this;rw[if_neg (fun e=>ht (Option.some.inj e).symm)];exact this
theorem Hc(hT:BN P ty)(hF:BM P ty F){A:List Nat}{all:List Oper}{k:Sg→C}:∀ (l:List Oper) (ahs:List Ahead) (σ:Sg) (e:Env) (h:Hp) (X:X),(∀ j o,l[j]? =some o→AhOk ty o (ahs.getD j .plain))→SgOk A σ→
  opsC ty A all k ahs l σ F e h=X→X≠.no→
  ∃ (ρ:Nat→Rho) (H:Nat→Hp) (V:Nat→Value) (run:Nat→Bool) (T:Nat→Nat→Prop) (σ':Sg) (e':Env),Tr P ty all ahs l ρ H V run T∧ρ 0=rhoOf A σ e∧H 0=h∧ρ l.length=rhoOf A σ' e'∧SgOk A σ'∧k σ' F e' (H l.length)=X
 |[],ahs,σ,e,h,X,_,hS,hr,_=>by
  refine⟨fun _=>rhoOf A σ e,fun _=>h,fun _=>noRes,fun _=>true,fun _ _=>False,σ,e,⟨fun j o hj=>by cases hj⟩,rfl,rfl,rfl,hS,?_⟩
  unfold opsC at hr;exact hr
 |o::l,ahs,σ,e,h,X,hA,hS,hr,hn=>by
  have hA0:AhOk ty o (ahs.headD .plain):=by
   have:=hA 0 o rfl
   cases ahs<;>exact this
  have hA1:∀ j o',l[j]? =some o'→AhOk ty o' (ahs.tail.getD j .plain):=fun j o' hj=>by
   have:=hA (j+1) o' hj
   cases ahs<;>exact this
  have fin:∀ {σ1:Sg} {e1:Env} {h1:Hp} {v:Value} {r:Bool} {T0:Nat→Prop},SgOk A σ1→opsC ty A all k ahs.tail l σ1 F e1 h1=X→
    SF P ty all o (ahs.headD .plain) (rhoOf A σ e) (rhoOf A σ1 e1) h h1 v r T0→
    ∃ (ρ:Nat→Rho) (H:Nat→Hp) (V:Nat→Value) (run:Nat→Bool) (T:Nat→Nat→Prop) (σ':Sg) (e':Env),Tr P ty all ahs (o::l) ρ H V run T∧ρ 0=rhoOf A σ e∧H 0=h∧ρ (o::l).length=rhoOf A σ' e'∧SgOk A σ'∧k σ' F e' (H (o::l).length)=X:=by
   intro σ1 e1 h1 v r T0 hS1 hr1 sf
   obtain⟨ρ,H,V,run,T,σ',e',t,q1,q2,q3,q4,q5⟩:=Hc hT hF l ahs.tail σ1 e1 h1 X hA1 hS1 hr1 hn
   exact⟨_,_,_,_,_,σ',e',t.cons (by rw[q1,q2];exact sf),rfl,rfl,q3,q4,q5⟩
  unfold opsC at hr
  cases hg:o.guard with
  |none=>
   cases hd:o.dst with
   |none=>
    simp only[hg,hd]at hr
    obtain⟨p,hp,hcore,hside⟩:=Hr hT hF hA0 hr hn
    unfold cDo at hp
    cases hq:p F e h with
    |no=>rw[hq]at hp;exact absurd hp.symm hn
    |ok v h1=>
     rw[hq]at hp
     obtain⟨T0,core⟩:=hcore v h1 hq
     exact fin hS hp {slot:=fun t u ht=>(by rw[hd,if_neg (by intro h;cases h)];exact ht),grd:=(by rw[hg]),side:=fun _=>hside,core:=.inl ⟨rfl,core⟩}
   |some d=>
    simp only[hg,hd]at hr
    cases hm:memN d A with
    |true=>
     simp only[hm]at hr
     cases hop:o.op with
     |move x=>
      simp only[hop]at hr
      cases hs:KV A σ x with
      |none=>simp only[hs]at hr;exact absurd hr.symm hn
      |some s=>
       simp only[hs]at hr
       have hlt:∀ n,s=.s n→n<208:=by
        intro n hn
        subst hn
        cases x with
        |tmp t=>
         have hs:(match Bm t σ with|some s=>some s|none=>match memN t A with|true=>none|false=>match Nat.blt t 208 with|true=>some (Src.s t)|false=>none)=some (.s n):=hs
         cases hf:Bm t σ with
         |some s'=>
          rw[hf]at hs;cases hs
          exact hS.lt _ (CU hf) n rfl
         |none=>
          rw[hf]at hs
          simp only at hs
          cases hm2:memN t A with
          |true=>rw[hm2]at hs;cases hs
          |false=>
           rw[hm2]at hs
           simp only at hs
           cases hb:Nat.blt t 208 with
           |false=>rw[hb]at hs;cases hs
           |true=>rw[hb]at hs;cases hs;exact Aq.1 hb
        |const v=>
         have hs:(match C4 v with|true=>some (Src.c v)|false=>none)=some (.s n):=hs
         cases hp:C4 v<;>rw[hp]at hs<;>cases hs
        |func g=>cases hs
        |global g=>cases hs
       have hkp:kd ty o.op=.p:=by rw[hop];rfl
       refine fin (hS.alias hm hlt) hr (v:=HO s e) (r:=true) (T0:=fun _=>False) {slot:=fun t u ht=>?_,grd:=(by rw[hg]),side:=fun h=>absurd hkp h,core:=.inl ⟨rfl,?_⟩}
       ·have:=PL hS hm s ht
        rw[hd]
        by_cases htd:t=d
        ·rw[if_pos htd]at this;rw[if_pos (by rw[htd])];exact this
        ·rw[if_neg htd]at this;rw[if_neg (fun e=>htd (Option.some.inj e).symm)];exact this
       ·refine {does:=fun φ E w a H hn ht next Q hnx=>?_,tame:=fun _=>⟨Nat.le_refl _,Nat.le_refl _,fun _ h=>h.elim,rfl⟩,tlt:=fun _ h=>h.elim,tp:=fun _=>⟨fun _ h=>h,rfl⟩,strong:=fun _ _ h=>h,weak:=fun _ _ h=>h.elim,apart:=fun _ _ _ h=>h.elim,fad:=fun _ _ _ h=>(by rw[hop]at h;cases h),wr:=fun _ _ _ _ h=>h.elim}
        have hv:=hn x (by rw[hop];simp[Op.operands]) _ (RB hs e)
        have hx:execOp a.eval o=(do pure (.value (← (pure (a.eval x):Sem Value)))):=by unfold execOp;rw[hop];rfl
        unfold Oper.wp
        rw[hx,Sem.run_bind,Sem.run_pure,Result.andThen_ok,Sem.run_pure,Oper.upon_value]
        exact hnx φ _ w hv H (.refl _ _ _) (.refl _ _ _)
     |_=>simp only[hop]at hr;exact absurd hr.symm hn
    |false=>
     simp only[hm]at hr
     cases hb:Nat.blt d 208 with
     |false=>simp only[hb]at hr;exact absurd hr.symm hn
     |true=>
      simp only[hb]at hr
      have hlt:=Aq.1 hb
      obtain⟨p,hp,hcore,hside⟩:=Hr hT hF hA0 hr hn
      unfold cOp at hp
      cases hq:p F e h with
      |no=>rw[hq]at hp;exact absurd hp.symm hn
      |ok v h1=>
       rw[hq]at hp
       simp only at hp
       rw[CO d hlt]at hp
       obtain⟨T0,core⟩:=hcore v h1 hq
       exact fin (hS.sub CT.1) hp {slot:=It hS hm hlt v hd,grd:=(by rw[hg]),side:=fun _=>hside,core:=.inl ⟨rfl,core⟩}
  |some gw=>
   obtain⟨g,want⟩:=gw
   cases hd:o.dst with
   |none=>simp only[hg,hd]at hr;exact absurd hr.symm hn
   |some d=>
    simp only[hg,hd]at hr
    cases hm:memN d A with
    |true=>simp only[hm]at hr;exact absurd hr.symm hn
    |false=>
     simp only[hm]at hr
     rw[DU]at hr
     cases hog:all[g]? with
     |none=>rw[hog]at hr;exact absurd hr.symm hn
     |some og=>
      rw[hog]at hr
      simp only at hr
      cases hgd:og.dst with
      |none=>simp only[hgd]at hr;exact absurd hr.symm hn
      |some dg=>
       simp only[hgd]at hr
       cases hcg:cO ⟨A,σ⟩ (.tmp dg)with
       |none=>simp only[hcg]at hr;exact absurd hr.symm hn
       |some gg=>
        simp only[hcg]at hr
        cases hb:Nat.blt d 208 with
        |false=>simp only[hb]at hr;exact absurd hr.symm hn
        |true=>
         simp only[hb]at hr
         have hlt:=Aq.1 hb
         obtain⟨p,hp,hcore,hside⟩:=Hr hT hF hA0 hr hn
         have hρ:rhoOf A σ e dg=some (gg e):=CQ hcg e
         unfold cG at hp
         have not_run:slotT d (fun e=>opsC ty A all k ahs.tail l (DL d σ) F e h) noRes e=X→(∀ r:Bool,r=false→(match o.guard with
            |none=>r=true
            |some (g,want)=>∃ og d c,all[g]? =some og∧og.dst=some d∧rhoOf A σ e d=some c∧((∃ b,c=.bool b∧r=(want == b))∨(∃ l,c=.tuple l∧r=false))))→
           ∃ (ρ:Nat→Rho) (H:Nat→Hp) (V:Nat→Value) (run:Nat→Bool) (T:Nat→Nat→Prop) (σ':Sg) (e':Env),Tr P ty all ahs (o::l) ρ H V run T∧ρ 0=rhoOf A σ e∧H 0=h∧ρ (o::l).length=rhoOf A σ' e'∧SgOk A σ'∧k σ' F e' (H (o::l).length)=X:=by
          intro hp hgrd
          rw[CO d hlt]at hp
          exact fin (hS.sub CT.1) hp (v:=noRes) (r:=false) (T0:=fun _=>False) {slot:=It hS hm hlt noRes hd,grd:=hgrd false rfl,side:=fun _=>hside,core:=.inr ⟨rfl,rfl,rfl,fun _ h=>h⟩}
         split at hp
         ·rename_i b hgb
          cases hwb:want == b with
          |true=>
           rw[hwb]at hp
           simp only[cond_true]at hp
           unfold cOp at hp
           cases hq:p F e h with
           |no=>rw[hq]at hp;exact absurd hp.symm hn
           |ok v h1=>
            rw[hq]at hp
            simp only at hp
            rw[CO d hlt]at hp
            obtain⟨T0,core⟩:=hcore v h1 hq
            exact fin (hS.sub CT.1) hp (r:=true) {slot:=It hS hm hlt v hd,grd:=(by rw[hg];exact⟨og,dg,_,hog,hgd,hρ,.inl ⟨b,hgb,hwb.symm⟩⟩),side:=fun _=>hside,core:=.inl ⟨rfl,core⟩}
          |false=>
           rw[hwb]at hp
           exact not_run hp fun r hr=>by rw[hg];exact⟨og,dg,_,hog,hgd,hρ,.inl ⟨b,hgb,by rw[hr,hwb]⟩⟩
         ·rename_i ls hgb
          exact not_run hp fun r hr=>by rw[hg];exact⟨og,dg,_,hog,hgd,hρ,.inr ⟨ls,hgb,hr⟩⟩
         ·exact absurd hp.symm hn
end
end
noncomputable section
open Go
abbrev nil:Nat→Prop:=fun _=>False
structure AR (N:Nat)(φ:Phi)(ρ:Rho)(a:Act):Prop where
 size:a.tmps.size=N
 defs:a.defers=[]
 rel:∀ t u,ρ t=some u→RelV φ u (a.tmps.getD t undef)
theorem AR.ev{N:Nat}{φ:Phi}{ρ:Rho}{a:Act}(h:AR N φ ρ a){x:Operand}{u:Value}(hu:evR ρ x=some u):RelV φ u (a.eval x):=by
 cases x with
 |tmp t=>exact h.rel t u hu
 |const v=>
  have hu:(if C4 v then some v else none)=some u:=hu
  split at hu
  ·rename_i hp;cases hu;exact Ik hp
  ·cases hu
 |func g=>cases hu;exact .func _ .nil .nil
 |global g=>cases hu
theorem AR.mono{N:Nat}{φ ψ:Phi}{ρ:Rho}{a:Act}(h:AR N φ ρ a)(hle:φ.Le ψ):AR N ψ ρ a:=⟨h.size,h.defs,fun t u hu=>(h.rel t u hu).mono hle⟩
theorem BS(a:Act)(d:Option Nat)(v:Value)(t:Nat):(a.put d v).tmps.getD t undef=if d=some t∧t<a.tmps.size then v else a.tmps.getD t undef:=by
 cases d with
 |none=>rw[if_neg (fun h=>by cases h.1)];rfl
 |some d=>
  show(a.tmps.setIfInBounds d v).getD t undef=_
  rw[Array.getD_eq_getD_getElem?,Array.getElem?_setIfInBounds,Array.getD_eq_getD_getElem?]
  by_cases h:d=t
  ·subst h
   rw[if_pos rfl]
   by_cases h2:d<a.tmps.size
   ·rw[if_pos h2,if_pos ⟨rfl,h2⟩];rfl
   ·rw[if_neg h2,if_neg (fun h=>h2 h.2),Array.getElem?_eq_none (by omega)]
  ·rw[if_neg h,if_neg (fun h2=>h (Option.some.inj h2.1))]
theorem BJ(a:Act)(d:Option Nat)(v:Value):(a.put d v).tmps.size=a.tmps.size:=by
 cases d with
 |none=>rfl
 |some d=>show(a.tmps.setIfInBounds d v).size=_;simp
theorem BZ(a:Act)(d:Option Nat)(v:Value):(a.put d v).defers=a.defers:=by cases d<;>rfl
theorem AR.put{N:Nat}{φ ψ:Phi}{ρ ρ':Rho}{a:Act}(h:AR N φ ρ a)(hle:φ.Le ψ){d:Option Nat}(hd:∀ t,d=some t→t<N){v v':Value}(hv:RelV ψ v v')
  (hs:∀ t u,ρ' t=some u→if d=some t then u=v else ρ t=some u):AR N ψ ρ' (a.put d v') where
 size:=by rw[BJ];exact h.size
 defs:=by rw[BZ];exact h.defs
 rel:=fun t u hu=>by
  have:=hs t u hu
  rw[BS]
  by_cases ht:d=some t
  ·rw[if_pos ht]at this
   rw[if_pos ⟨ht,by rw[h.size];exact hd t ht⟩,this];exact hv
  ·rw[if_neg ht]at this
   rw[if_neg (fun h=>ht h.1)]
   exact(h.rel t u this).mono hle
theorem Ju{P:Program}{ty:TTy}{all:List Oper}{o:Oper}{ah:Ahead}{ρ ρ':Rho}{h h':Hp}{v:Value}{run:Bool}{T:Nat→Prop}(s:SF P ty all o ah ρ ρ' h h' v run T){a:Act}{φ:Phi}
  (hr:∀ g want og d u,o.guard=some (g,want)→all[g]? =some og→og.dst=some d→ρ d=some u→RelV φ u (a.tmps.getD d undef)):Region.wanted o (yielded all.toArray a.tmps)=run:=by
 have hg:=s.grd
 unfold Region.wanted
 cases hgd:o.guard with
 |none=>rw[hgd]at hg;exact hg.symm
 |some gw=>
  obtain⟨g,want⟩:=gw
  rw[hgd]at hg
  obtain⟨og,d,c,h1,h2,h3,h4⟩:=hg
  have hrel:=hr g want og d c hgd h1 h2 h3
  simp only
  have hy:yielded all.toArray a.tmps g=match a.tmps[d]? with|some (.bool b)=>some b|_=>none:=by
   unfold yielded
   have:(all.toArray[g]?).bind (·.dst)=some d:=by rw[List.getElem?_toArray,h1];exact h2
   rw[this];rfl
  rw[Array.getD_eq_getD_getElem?]at hrel
  rcases h4 with ⟨b,rfl,hrun⟩|⟨ls,rfl,hrun⟩
  ·have hb:=hrel.bool_inv
   cases hq:a.tmps[d]? with
   |none=>rw[hq]at hb;cases hb
   |some x=>
    rw[hq]at hb
    have hb:x=.bool b:=hb
    rw[hy,hq,hb,hrun]
    cases b<;>cases want<;>rfl
  ·rw[hrun,hy]
   cases hq:a.tmps[d]? with
   |none=>rfl
   |some x=>
    rw[hq]at hrel
    have hrel:RelV φ (.tuple ls) x:=hrel
    cases hrel;rfl
structure Txt (P:Program)(ty:TTy)(N:Nat)(φ0:Phi)(ρ:Nat→Rho)(H:Nat→Hp)(V:Nat→Value)(T:Nat→Nat→Prop)(n:Nat):Prop where
 next:∀ j,j<n→(H j).next≤(H (j+1)).next
 shape:∀ j,j<n→∀ i,i<(H j).next→ShapeLe ((H j).bl.get i) ((H (j+1)).bl.get i)
 kept:∀ j,j<n→∀ i,i<(H j).next→¬ T j i→(H (j+1)).bl.get i=(H j).bl.get i
 fresh:∀ j,j≤n→∀ i,(H j).next≤i→(H j).bl.get i=.dead
 well:∀ j,j≤n→∃ (ψ:Phi) (w:World) (a:Act),RelW ty ψ nil (H j) w∧AR N ψ (ρ j) a∧φ0.Le ψ∧∀ i,(H 0).next≤i→i<(H j).next→∃ p,ψ i=some p
section
variable {P:Program}{ty:TTy}
theorem Hl{N:Nat}{all:List Oper}{Q:Exit→Act→World→Prop}:∀ (l:List Oper) {ahs:List Ahead} {ρ:Nat→Rho} {H:Nat→Hp} {V:Nat→Value} {run:Nat→Bool} {T:Nat→Nat→Prop} {a:Act} {w:World} {φ:Phi},
  Tr P ty all ahs l ρ H V run T→(∀ o∈l,∀ d,o.dst=some d→d<N)→RelW ty φ nil (H 0) w→AR N φ (ρ 0) a→
  (Txt P ty N φ ρ H V T l.length→∀ ψ a' w',RelW ty ψ nil (H l.length) w'→AR N ψ (ρ l.length) a'→Evo φ (H 0) w ψ (H l.length) w'→Q .normal a' w')→wpList P all.toArray Q l a w
 |[],ahs,ρ,H,V,run,T,a,w,φ,_,_,HW,HA,hq=>by
  refine hq ?_ φ a w HW HA (.refl _ _ _)
  refine {next:=fun j hj=>absurd hj (Nat.not_lt_zero _),shape:=fun j hj=>absurd hj (Nat.not_lt_zero _),kept:=fun j hj=>absurd hj (Nat.not_lt_zero _),fresh:=fun j hj i hi=>?_,well:=fun j hj=>?_}
  ·have:j=0:=Nat.le_zero.1 hj
   subst this;exact HW.fresh i hi
  ·have:j=0:=Nat.le_zero.1 hj
   subst this;exact⟨φ,w,a,HW,HA,.refl _,fun i h1 h2=>absurd h2 (Nat.not_lt.2 h1)⟩
 |o::l,ahs,ρ,H,V,run,T,a,w,φ,tr,hN,HW,HA,hq=>by
  have s:=tr.sf 0 o rfl
  have tr':Tr P ty all ahs.tail l (fun j=>ρ (j+1)) (fun j=>H (j+1)) (fun j=>V (j+1)) (fun j=>run (j+1)) (fun j=>T (j+1)):=
   ⟨fun j o' hj=>by
    have:=tr.sf (j+1) o' hj
    have e:ahs.getD (j+1) .plain=ahs.tail.getD j .plain:=by cases ahs<;>rfl
    rw[e]at this;exact this⟩
  have hd:∀ d,o.dst=some d→d<N:=hN o List.mem_cons_self
  have rest:∀ ψ v' w',RelV ψ (V 0) v'→RelW ty ψ nil (H 1) w'→Eff (T 0) φ (H 0) w ψ (H 1) w'→Evo φ (H 0) w ψ (H 1) w'→wpList P all.toArray Q l (a.put o.dst v') w':=by
   intro ψ v' w' hv HW' eff evo
   refine Hl l tr' (fun o ho=>hN o (List.mem_cons_of_mem _ ho)) HW' (HA.put eff.le hd hv s.slot) fun txt ψ2 a2 w2 q1 q2 q3=>hq ?_ ψ2 a2 w2 q1 q2 (evo.trans q3)
   refine {next:=fun j hj=>?_,shape:=fun j hj=>?_,kept:=fun j hj=>?_,fresh:=fun j hj i hi=>?_,well:=fun j hj=>?_}
   ·cases j with
    |zero=>exact eff.next
    |succ j=>exact txt.next j (by simpa using hj)
   ·cases j with
    |zero=>exact eff.shape
    |succ j=>exact txt.shape j (by simpa using hj)
   ·cases j with
    |zero=>exact eff.kept
    |succ j=>exact txt.kept j (by simpa using hj)
   ·cases j with
    |zero=>exact HW.fresh i hi
    |succ j=>exact txt.fresh j (by simpa using hj) i hi
   ·cases j with
    |zero=>exact⟨φ,w,a,HW,HA,.refl _,fun i h1 h2=>absurd h2 (Nat.not_lt.2 h1)⟩
    |succ j=>
     obtain⟨χ,w3,a3,r1,r2,r3,r4⟩:=txt.well j (by simpa using hj)
     refine⟨χ,w3,a3,r1,r2,eff.le.trans r3,fun i h1 h2=>?_⟩
     rcases Nat.lt_or_ge i (H 1).next with h|h
     ·obtain⟨p,hp⟩:=eff.all i h1 h
      exact⟨p,r3 i p hp⟩
     ·exact r4 i h h2
  have hw:=Ju s (a:=a) (φ:=φ) fun g want og d u _ _ _ hu=>HA.rel d u hu
  unfold wpList
  rcases s.core with ⟨hrun,core⟩|⟨hrun,hv,hh,hT⟩
  ·rw[hw,hrun,if_pos rfl]
   refine .inl (core.does φ nil w a HW (fun x _ u hu=>HA.ev hu) ?_ _ _ fun ψ v' w' hv HW' eff evo=>rest ψ v' w' hv HW' eff evo)
   unfold TouchR
   split<;>first|trivial|exact fun _ h=>h|exact fun _ _ _ _ h=>h
  ·rw[hw,hrun,if_neg (by simp)]
   have hu:RelV φ (V 0) undef:=by rw[hv];exact .tuple .nil
   have e1:Evo φ (H 0) w φ (H 1) w:=by
    show Evo φ (H 0) w φ (H (0+1)) w
    rw[hh];exact .refl _ _ _
   have e2:Eff (T 0) φ (H 0) w φ (H 1) w:=by
    show Eff (T 0) φ (H 0) w φ (H (0+1)) w
    rw[hh]
    exact {Eff.refl φ (H 0) w with frame:=fun _ _ _=>rfl,back:=fun i p e hl _=>⟨i,p,e,hl,rfl,rfl,.inl rfl⟩,kept:=fun _ _ _=>rfl}
   exact rest φ undef w hu (by show RelW ty φ nil (H (0+1)) w;rw[hh];exact HW) e2 e1
end
end
noncomputable section
open Go
section
variable {φ ψ χ:Phi}
theorem RelA.cut(hx:∀ b p,φ b=some p→(∃ q,ψ b=some q)→χ b=some p){a a' a'':Addr}:RelA φ a a'→RelA ψ a a''→RelA χ a a'
 |⟨s,s',p,hp,r⟩,⟨_,_,q,hq,_⟩=>⟨s,s',p,hx _ _ hp ⟨q,hq⟩,r⟩
theorem RelS.cut(hx:∀ b p,φ b=some p→(∃ q,ψ b=some q)→χ b=some p){a a' a'':Addr}{c c' c'':Nat}:RelS φ a c a' c'→RelS ψ a c a'' c''→RelS χ a c a' c'
 |⟨s,s',p,hp,r⟩,⟨_,_,q,hq,_⟩=>⟨s,s',p,hx _ _ hp ⟨q,hq⟩,r⟩
mutual
theorem RelV.cut(hx:∀ b p,φ b=some p→(∃ q,ψ b=some q)→χ b=some p):∀ {v v' v'':Value},RelV φ v v'→RelV ψ v v''→RelV χ v v'
 |_,_,_,.bool b,_=>.bool b
 |_,_,_,.int k n,_=>.int k n
 |_,_,_,.float k n,_=>.float k n
 |_,_,_,.string s,_=>.string s
 |_,_,_,.ptr0,_=>.ptr0
 |_,_,_,.ptr h,h2=>by cases h2 with|ptr h2=>exact .ptr (h.cut hx h2)
 |_,_,_,.slice0,_=>.slice0
 |_,_,_,.slice hn h,h2=>by cases h2 with|slice _ h2=>exact .slice hn (h.cut hx h2)
 |_,_,_,.map0,_=>.map0
 |_,_,_,.map h,h2=>by cases h2 with|map h2=>exact .map (hx _ _ h ⟨_,h2⟩)
 |_,_,_,.func fn h h',h2=>by cases h2 with|func _ h2 h2'=>exact .func fn (RelL.cut hx h h2) (RelL.cut hx h' h2')
 |_,_,_,.nilFunc,_=>.nilFunc
 |_,_,_,.iface t h,h2=>by cases h2 with|iface _ h2=>exact .iface t (RelV.cut hx h h2)
 |_,_,_,.nilIface,_=>.nilIface
 |_,_,_,.agg h,h2=>by cases h2 with|agg h2=>exact .agg (RelL.cut hx h h2)
 |_,_,_,.tuple h,h2=>by cases h2 with|tuple h2=>exact .tuple (RelL.cut hx h h2)
 |_,_,_,.unk,_=>.unk
 |_,_,_,.slcE,_=>.slcE
theorem RelL.cut(hx:∀ b p,φ b=some p→(∃ q,ψ b=some q)→χ b=some p):∀ {v v' v'':List Value},RelL φ v v'→RelL ψ v v''→RelL χ v v'
 |_,_,_,.nil,_=>.nil
 |_,_,_,.cons h t,h2=>by cases h2 with|cons h2 t2=>exact .cons (RelV.cut hx h h2) (RelL.cut hx t t2)
end
theorem RelE.cut(hx:∀ b p,φ b=some p→(∃ q,ψ b=some q)→χ b=some p):∀ {l:List Ent} {l' l'':List MapEntry},RelE φ l l'→RelE ψ l l''→RelE χ l l'
 |_,_,_,.nil,_=>.nil
 |_,_,_,.cons hk hv t,h2=>by cases h2 with|cons hk2 hv2 t2=>exact .cons (hk.cut hx hk2) (hv.cut hx hv2) (RelE.cut hx t t2)
theorem RelB.cut{ty:TTy}(hx:∀ b p,φ b=some p→(∃ q,ψ b=some q)→χ b=some p){p p2:Pl}{b:Blk}{o o2:Option Obj}(h:RelB ty φ p b o)(h2:RelB ty ψ p2 b o2):RelB ty χ p b o:=by
 cases h with
 |cells h=>cases h2 with
  |cells h2=>exact .cells {h with cell:=fun j hj=>let ⟨v,e,r⟩:=h.cell j hj;let ⟨v2,_,r2⟩:=h2.cell j hj;⟨v,e,r.cut hx r2⟩}
 |map h=>cases h2 with
  |map h2=>exact .map (h.cut hx h2)
 |iter0 h=>exact .iter0 h
 |iter hp h=>cases h2 with
  |iter _ h2=>exact .iter hp (hx _ _ h ⟨_,h2⟩)
 |cur hp h hl=>cases h2 with
  |cur _ h2 _=>exact .cur hp (hx _ _ h ⟨_,h2⟩) hl
 |dead=>exact .dead
end
structure Laws (ty:TTy)(all:List Oper)(ρ:Nat→Rho)(H:Nat→Hp)(T:Nat→Nat→Prop)(B:Nat→Nat→Prop):Prop where
 lt:∀ i j,B i j→i<j
 slots:∀ i j oi oj d,i≠j→all[i]? =some oi→all[j]? =some oj→oi.dst=some d→
  (oj.dst=some d∨.tmp d∈oj.op.operands.toList∨∃ g w og,oj.guard=some (g,w)∧all[g]? =some og∧og.dst=some d)→B i j∨B j i
 kinds:∀ j oj c,all[j]? =some oj→T j c→(∃ x,kd ty oj.op=.w x)∨kd ty oj.op=.q
 fixed:∀ i j oi c,i≠j→all[i]? =some oi→j<all.length→T j c→((∃ x,kd ty oi.op=.w x)∨kd ty oi.op=.q)→B i j∨B j i
 reads:∀ i j oi x c u,i≠j→all[i]? =some oi→j<all.length→T j c→kd ty oi.op=.r x→evR (ρ i) x=some u→blkOf u=.ok c→B i j∨B j i
 tlt:∀ j c,j<all.length→T j c→c<(H j).next
 tout:∀ j c,j<all.length→T j c→(H all.length).low≤c∧c≤(H all.length).high
 low:(H all.length).low≤(H 0).low
 high:(H 0).high≤(H all.length).high
structure Inv (ty:TTy)(N:Nat)(all:List Oper)(ρ:Nat→Rho)(H:Nat→Hp)(T:Nat→Nat→Prop)(φ0:Phi)(w0:World)(S:Nat→Prop)(φ:Phi)(C:Nat→Blk)(a:Act)(w:World):Prop where
 dom:∀ b p,φ b=some p→p.blk<w.heap.size∧(b<(H 0).next∨∃ j,S j∧j<all.length∧(H j).next≤b∧b<(H (j+1)).next)
 inj:∀ b c p q,φ b=some p→φ c=some q→C b≠.dead→C c≠.dead→(p.inp=false∨q.inp=false)→p.blk=q.blk→b=c
 row:∀ b p,φ b=some p→RelB ty φ p (C b) w.heap[p.blk]?
 kind:∀ k,k≤all.length→∀ b p c s e,φ b=some p→b<(H k).next→(H k).bl.get b=.cells c s e→Kind ty p s e
 inp:∀ b p,φ b=some p→p.inp=true→b<256
 link:∀ k,k≤all.length→∀ b p,φ b=some p→b<(H k).next→(∀ j,j<all.length→T j b→(j<k→S j)∧(k≤j→¬ S j))→C b=(H k).bl.get b
 chg:∀ j,S j→j<all.length→∀ b,b<(H j).next→(H (j+1)).bl.get b≠(H j).bl.get b→∃ p,φ b=some p
 full:∀ j,S j→j<all.length→∀ b,(H j).next≤b→b<(H (j+1)).next→∃ p,φ b=some p
 slot:∀ k,k≤all.length→∀ t u,(∀ j o,all[j]? =some o→o.dst=some t→(j<k→S j)∧(k≤j→¬ S j))→ρ k t=some u→RelV φ u (a.tmps.getD t undef)
 size:a.tmps.size=N
 defs:a.defers=[]
 le:φ0.Le φ
 new:∀ b p,φ b=some p→φ0 b=some p∨(H 0).next≤b
 sz:w0.heap.size≤w.heap.size
 tape:w.tape=w0.tape
 os:w.os=w0.os
 output:w.output=w0.output
 frame:∀ k,k<w0.heap.size→(∀ c p,φ0 c=some p→p.inp=false→(H all.length).low≤c→c≤(H all.length).high→Live (H 0) c→p.blk≠k)→w.heap[k]? =w0.heap[k]?
 back:∀ b p,φ b=some p→C b≠.dead→p.blk<w0.heap.size→∃ c q,φ0 c=some q∧Live (H 0) c∧q.blk=p.blk∧q.inp=p.inp∧(c=b∨(H all.length).low≤c∧c≤(H all.length).high)
section
variable {P:Program}{ty:TTy}{N:Nat}{all:List Oper}{ρ:Nat→Rho}{H:Nat→Hp}{V:Nat→Value}{T:Nat→Nat→Prop}{φ0:Phi}{w0:World}{B:Nat→Nat→Prop}
theorem Txt.mono{φ:Phi}{n:Nat}(t:Txt P ty N φ ρ H V T n){i:Nat}:∀ {k:Nat},i≤k→k≤n→(H i).next≤(H k).next:=by
 intro k h hn
 induction k with
 |zero=>have:i=0:=Nat.le_zero.1 h;subst this;exact Nat.le_refl _
 |succ k ih=>
  rcases Nat.lt_or_ge k i with h2|h2
  ·have:i=k+1:=by omega
   subst this;exact Nat.le_refl _
  ·exact Nat.le_trans (ih h2 (by omega)) (t.next k (by omega))
theorem Txt.shapes{φ:Phi}{n:Nat}(t:Txt P ty N φ ρ H V T n){i:Nat}{b:Nat}(hb:b<(H i).next):∀ {k:Nat},i≤k→k≤n→ShapeLe ((H i).bl.get b) ((H k).bl.get b):=by
 intro k h hn
 induction k with
 |zero=>have:i=0:=Nat.le_zero.1 h;subst this;exact .refl _
 |succ k ih=>
  rcases Nat.lt_or_ge k i with h2|h2
  ·have:i=k+1:=by omega
   subst this;exact .refl _
  ·exact(ih h2 (by omega)).trans (t.shape k (by omega) b (Nat.lt_of_lt_of_le hb (t.mono h2 (by omega))))
theorem Txt.same{φ:Phi}{n:Nat}(t:Txt P ty N φ ρ H V T n){i:Nat}{b:Nat}:∀ {k:Nat},i≤k→k≤n→(∀ m,i≤m→m<k→(H (m+1)).bl.get b=(H m).bl.get b)→(H k).bl.get b=(H i).bl.get b:=by
 intro k h hn hs
 induction k with
 |zero=>have:i=0:=Nat.le_zero.1 h;subst this;rfl
 |succ k ih=>
  rcases Nat.lt_or_ge k i with h2|h2
  ·have:i=k+1:=by omega
   subst this;rfl
  ·rw[hs k h2 (by omega)];exact ih h2 (by omega) fun m h1 h2=>hs m h1 (by omega)
theorem Tr.backward{run:Nat→Bool}{ahs:List Ahead}(tr:Tr P ty all ahs all ρ H V run T){t:Nat}{u:Value}{i:Nat}:∀ {k:Nat},i≤k→k≤all.length→(∀ m o,i≤m→m<k→all[m]? =some o→o.dst≠some t)→ρ k t=some u→ρ i t=some u:=by
 intro k h hn hs hu
 induction k with
 |zero=>have:i=0:=Nat.le_zero.1 h;subst this;exact hu
 |succ k ih=>
  rcases Nat.lt_or_ge k i with h2|h2
  ·have:i=k+1:=by omega
   subst this;exact hu
  ·have hk:k<all.length:=by omega
   have ho:all[k]? =some all[k]:=List.getElem?_eq_getElem hk
   have:=(tr.sf k all[k] ho).slot t u hu
   rw[if_neg (hs k all[k] h2 (Nat.lt_succ_self _) ho)]at this
   exact ih h2 (by omega) (fun m o h1 h2=>hs m o h1 (by omega)) this
def Kj(n:Nat)(T:Nat→Nat→Prop)(S:Nat→Prop)(h:Hp)(i:Nat):Nat→Prop:=fun b=>b<h.next∧¬ ∀ j,j<n→T j b→(j<i→S j)∧(i≤j→¬ S j)
def upto(φ:Phi)(n:Nat):Phi:=fun b=>if b<n then φ b else none
theorem BQ{φ:Phi}{n b:Nat}{p:Pl}(h:upto φ n b=some p):b<n∧φ b=some p:=by
 unfold upto at h
 split at h
 ·exact⟨‹_›,h⟩
 ·cases h
theorem Inv.relw{φ:Phi}{C:Nat→Blk}{a:Act}{w:World}{S:Nat→Prop}(I:Inv ty N all ρ H T φ0 w0 S φ C a w)(txt:Txt P ty N φ0 ρ H V T all.length){i:Nat}(hi:i≤all.length):
  RelW ty (upto φ (H i).next) (Kj all.length T S (H i) i) (H i) w∧∃ (ψ:Phi) (b:Act),AR N ψ (ρ i) b∧∀ b p,φ b=some p→(∃ q,ψ b=some q)→upto φ (H i).next b=some p:=by
 obtain⟨ψ,wt,at',HW,HA,hle,hall⟩:=txt.well i hi
 have hx:∀ b p,φ b=some p→(∃ q,ψ b=some q)→upto φ (H i).next b=some p:=by
  rintro b p hp ⟨q,hq⟩
  unfold upto
  rw[if_pos (HW.dom b q hq).1];exact hp
 have hin:∀ b p,φ b=some p→b<(H i).next→∃ q,ψ b=some q:=by
  intro b p hp hb
  rcases I.new b p hp with h|h
  ·exact⟨p,hle b p h⟩
  ·exact hall b h hb
 have lk:∀ b p,φ b=some p→b<(H i).next→¬ Kj all.length T S (H i) i b→C b=(H i).bl.get b:=by
  intro b p hp hb hE
  refine I.link i hi b p hp hb fun j hj hT=>?_
  by_cases hh:(j<i→S j)∧(i≤j→¬ S j)
  ·exact hh
  ·exact absurd ⟨hb,fun hall=>hh (hall j hj hT)⟩ hE
 refine⟨{dom:=fun b p e=>?_,inj:=fun b c p q eb ec hEb hEc hb hc hio hpq=>?_,row:=fun b p e hE=>?_,fresh:=txt.fresh i hi,kind:=fun b p c s e' e he=>?_,inp:=fun b p e=>I.inp b p (BQ e).2},ψ,at',HA,hx⟩
 ·obtain⟨h1,h2⟩:=BQ e
  exact⟨h1,(I.dom b p h2).1⟩
 ·obtain⟨h1,h2⟩:=BQ eb
  obtain⟨h3,h4⟩:=BQ ec
  exact I.inj b c p q h2 h4 (by rw[lk b p h2 h1 hEb];exact hb) (by rw[lk c q h4 h3 hEc];exact hc) hio hpq
 ·obtain⟨h1,h2⟩:=BQ e
  have r1:=I.row b p h2
  rw[lk b p h2 h1 hE]at r1
  obtain⟨q,hq⟩:=hin b p h2 h1
  exact r1.cut hx (HW.row b q hq fun h=>h)
 ·obtain⟨h1,h2⟩:=BQ e
  exact I.kind i hi b p c s e' h2 h1 he
end
end
noncomputable section
open Go
section
variable {P:Program}{ty:TTy}{N:Nat}{all:List Oper}{ρ:Nat→Rho}{H:Nat→Hp}{V:Nat→Value}{T:Nat→Nat→Prop}{φ0:Phi}{w0:World}{B:Nat→Nat→Prop}
def join(φ ψ:Phi)(lo hi:Nat):Phi:=fun b=>if lo≤b∧b<hi then ψ b else φ b
open Classical in
def N4(C:Nat→Blk)(h:Hp)(lo:Nat)(W:Prop):Nat→Blk:=fun b=>if b<h.next∧(lo≤b∨W)then h.bl.get b else C b
theorem Inv.after(L:Laws ty all ρ H T B){run:Nat→Bool}{ahs:List Ahead}(tr:Tr P ty all ahs all ρ H V run T)(txt:Txt P ty N φ0 ρ H V T all.length){S:Nat→Prop}{φ:Phi}{C:Nat→Blk}{a:Act}{w:World}(I:Inv ty N all ρ H T φ0 w0 S φ C a w)
  {i:Nat}{o:Oper}(ho:all[i]? =some o)(hS:¬ S i)(hpre:∀ j,B j i→S j)(hcl:∀ j k,S j→B k j→S k)(hN:∀ d,o.dst=some d→d<N)
  {ψ:Phi}{v':Value}{w':World}(hv:RelV ψ (V i) v')(HW:RelW ty ψ (Kj all.length T S (H i) i) (H (i+1)) w')(eff:Eff (T i) (upto φ (H i).next) (H i) w ψ (H (i+1)) w'):
  Inv ty N all ρ H T φ0 w0 (fun j=>S j∨j=i) (join φ ψ (H i).next (H (i+1)).next) (N4 C (H (i+1)) (H i).next (∃ c,T i c)) (a.put o.dst v') w':=by
 have hi:i<all.length:=by
  rcases Nat.lt_or_ge i all.length with h|h
  ·exact h
  ·rw[List.getElem?_eq_none h]at ho;cases ho
 have hnS:∀ j,B i j→¬ S j:=fun j hb hj=>hS (hcl j i hj hb)
 have fx:∀ j,j≠i→(B i j∨B j i)→(j<i→S j)∧(i≤j→¬ S j):=by
  intro j hj hb
  rcases hb with hb|hb
  ·have:=L.lt i j hb
   exact⟨fun h=>by omega,fun _=>hnS j hb⟩
  ·have:=L.lt j i hb
   exact⟨fun _=>hpre j hb,fun h=>by omega⟩
 have hnext:=txt.next i hi
 have hn1:i+1≤all.length:=hi
 have hE:(∃ c,T i c)→∀ b,¬ Kj all.length T S (H i) i b:=by
  rintro⟨c,hc⟩ b ⟨hb,hne⟩
  refine hne fun j hj hT=>?_
  by_cases hji:j=i
  ·subst hji;exact⟨fun h=>absurd h (Nat.lt_irrefl _),fun _=>hS⟩
  ·exact fx j hji (L.fixed i j o b (fun h=>hji h.symm) ho hj hT (L.kinds i o c ho hc))
 have hnone:∀ b,(H i).next≤b→b<(H (i+1)).next→φ b=none:=by
  intro b h1 h2
  cases hb:φ b with
  |none=>rfl
  |some p=>
   exfalso
   rcases (I.dom b p hb).2 with h|⟨j,hj,hjn,h3,h4⟩
   ·have:=txt.mono (Nat.zero_le i) (Nat.le_of_lt hi)
    omega
   ·rcases Nat.lt_trichotomy j i with h|h|h
    ·have:=txt.mono (i:=j+1) (k:=i) h (Nat.le_of_lt hi);omega
    ·subst h;exact hS hj
    ·have:=txt.mono (i:=i+1) (k:=j) h (Nat.le_of_lt hjn);omega
 have jnew:∀ {b},(H i).next≤b→b<(H (i+1)).next→join φ ψ (H i).next (H (i+1)).next b=ψ b:=fun h1 h2=>if_pos ⟨h1,h2⟩
 have jold:∀ {b},¬ ((H i).next≤b∧b<(H (i+1)).next)→join φ ψ (H i).next (H (i+1)).next b=φ b:=fun h=>if_neg h
 have jle:φ.Le (join φ ψ (H i).next (H (i+1)).next):=by
  intro b p hb
  rw[jold fun h=>by rw[hnone b h.1 h.2]at hb;cases hb];exact hb
 have jψ:ψ.Le (join φ ψ (H i).next (H (i+1)).next):=by
  intro b p hb
  have h2:=(HW.dom b p hb).1
  rcases Nat.lt_or_ge b (H i).next with h|h
  ·rw[jold (by omega)]
   rcases eff.new b p hb with h3|h3
   ·exact(BQ h3).2
   ·omega
  ·rw[jnew h h2];exact hb
 have jcase:∀ {b p},join φ ψ (H i).next (H (i+1)).next b=some p→((H i).next≤b∧b<(H (i+1)).next∧ψ b=some p)∨((b<(H i).next∨(H (i+1)).next≤b)∧φ b=some p):=by
  intro b p hb
  by_cases h:(H i).next≤b∧b<(H (i+1)).next
  ·rw[jnew h.1 h.2]at hb;exact .inl ⟨h.1,h.2,hb⟩
  ·rw[jold h]at hb;exact .inr ⟨by omega,hb⟩
 have upψ:∀ {b p},φ b=some p→b<(H i).next→ψ b=some p:=by
  intro b p hb h
  refine eff.le b p ?_
  unfold upto;rw[if_pos h];exact hb
 have cnew:∀ {b},b<(H (i+1)).next→((H i).next≤b∨∃ c,T i c)→N4 C (H (i+1)) (H i).next (∃ c,T i c) b=(H (i+1)).bl.get b:=fun h1 h2=>if_pos ⟨h1,h2⟩
 have cold:∀ {b},¬ (b<(H (i+1)).next∧((H i).next≤b∨∃ c,T i c))→N4 C (H (i+1)) (H i).next (∃ c,T i c) b=C b:=fun h=>if_neg h
 have lk:(∃ c,T i c)→∀ b p,φ b=some p→b<(H i).next→C b=(H i).bl.get b:=by
  intro hw b p hb h
  refine I.link i (Nat.le_of_lt hi) b p hb h fun j hj hT=>?_
  by_cases hh:(j<i→S j)∧(i≤j→¬ S j)
  ·exact hh
  ·exact absurd ⟨h,fun hall=>hh (hall j hj hT)⟩ (hE hw b)
 have live:∀ {b},b<(H i).next→(H (i+1)).bl.get b≠.dead→(H i).bl.get b≠.dead:=fun h hl=>(eff.shape _ h).live hl
 have injA:∀ {b c p q},(H (i+1)).next≤c→φ c=some q→C c≠.dead→b<(H (i+1)).next→join φ ψ (H i).next (H (i+1)).next b=some p→N4 C (H (i+1)) (H i).next (∃ c,T i c) b≠.dead→(p.inp=false∨q.inp=false)→p.blk≠q.blk:=by
  intro b c p q hc hq hlc hb hp hlb hio hpq
  rcases jcase hp with ⟨h1,h2,h3⟩|⟨h1,h3⟩
  ·rw[cnew h2 (.inl h1)]at hlb
   obtain⟨j,q',e1,e2,e3,ei,e4⟩:=eff.back b p h3 hlb (hpq ▸ (I.dom c q hq).1)
   obtain⟨e5,e6⟩:=BQ e1
   rcases e4 with rfl|e4
   ·omega
   ·have:=I.inj j c q' q e6 hq (by rw[lk ⟨j,e4⟩ j q' e6 e5];exact e2) hlc (by rw[ei];exact hio) (e3.trans hpq)
    omega
  ·have hb':b<(H i).next:=by omega
   have hl:C b≠.dead:=by
    by_cases hw:∃ c,T i c
    ·rw[cnew hb (.inr hw)]at hlb
     rw[lk hw b p h3 hb'];exact live hb' hlb
    ·rw[cold (by rintro⟨_,h|h⟩;omega;exact hw h)]at hlb;exact hlb
   have:=I.inj b c p q h3 hq hl hlc hio hpq
   omega
 refine {dom:=?_,inj:=?_,row:=?_,kind:=?_,inp:=(fun b p hp hi=>by rcases jcase hp with ⟨_,_,h3⟩|⟨_,h3⟩;exact HW.inp b p h3 hi;exact I.inp b p h3 hi),link:=?_,chg:=?_,full:=?_,slot:=?_,size:=(by rw[BJ];exact I.size),defs:=(by rw[BZ];exact I.defs),le:=I.le.trans jle,new:=?_,sz:=Nat.le_trans I.sz eff.size,tape:=eff.tape.trans I.tape,os:=eff.os.trans I.os,output:=eff.output.trans I.output,frame:=?_,back:=?_}
 ·
  intro b p hp
  rcases jcase hp with ⟨h1,h2,h3⟩|⟨h1,h3⟩
  ·exact⟨(HW.dom b p h3).2,.inr ⟨i,.inr rfl,hi,h1,h2⟩⟩
  ·obtain⟨q1,q2⟩:=I.dom b p h3
   exact⟨Nat.lt_of_lt_of_le q1 eff.size,q2.imp id fun⟨j,hj,r⟩=>⟨j,.inl hj,r⟩⟩
 ·
  intro b c p q hp hq hlb hlc hio hpq
  rcases Nat.lt_or_ge b (H (i+1)).next with hb|hb
  ·rcases Nat.lt_or_ge c (H (i+1)).next with hc|hc
   ·have toψ:∀ {b p},b<(H (i+1)).next→join φ ψ (H i).next (H (i+1)).next b=some p→ψ b=some p:=by
     intro b p hb hp
     rcases jcase hp with ⟨_,_,h3⟩|⟨h1,h3⟩
     ·exact h3
     ·exact upψ h3 (by omega)
    have pb:=toψ hb hp
    have pc:=toψ hc hq
    by_cases hw:∃ c,T i c
    ·rw[cnew hb (.inr hw)]at hlb
     rw[cnew hc (.inr hw)]at hlc
     exact HW.inj b c p q pb pc (hE hw b) (hE hw c) hlb hlc hio hpq
    ·rcases Nat.lt_or_ge b (H i).next with hb2|hb2
     ·rcases Nat.lt_or_ge c (H i).next with hc2|hc2
      ·rw[cold (by rintro⟨_,h|h⟩;omega;exact hw h)]at hlb
       rw[cold (by rintro⟨_,h|h⟩;omega;exact hw h)]at hlc
       rw[jold (by omega)]at hp hq
       exact I.inj b c p q hp hq hlb hlc hio hpq
      ·exfalso
       rw[jold (by omega)]at hp
       rw[cnew hc (.inl hc2)]at hlc
       obtain⟨j,q',e1,e2,e3,_,e4⟩:=eff.back c q pc hlc (hpq ▸ (I.dom b p hp).1)
       rcases e4 with rfl|e4
       ·have:=(BQ e1).1;omega
       ·exact hw ⟨j,e4⟩
     ·rw[cnew hb (.inl hb2)]at hlb
      rcases Nat.lt_or_ge c (H i).next with hc2|hc2
      ·exfalso
       rw[jold (by omega)]at hq
       obtain⟨j,q',e1,e2,e3,_,e4⟩:=eff.back b p pb hlb (hpq ▸ (I.dom c q hq).1)
       rcases e4 with rfl|e4
       ·have:=(BQ e1).1;omega
       ·exact hw ⟨j,e4⟩
      ·rw[cnew hc (.inl hc2)]at hlc
       exact HW.inj b c p q pb pc (fun h=>by have:=h.1;omega) (fun h=>by have:=h.1;omega) hlb hlc hio hpq
   ·rw[jold (by omega)]at hq
    rw[cold (by omega)]at hlc
    exact absurd hpq (injA hc hq hlc hb hp hlb hio)
  ·rcases Nat.lt_or_ge c (H (i+1)).next with hc|hc
   ·rw[jold (by omega)]at hp
    rw[cold (by omega)]at hlb
    exact absurd hpq.symm (injA hb hp hlb hc hq hlc hio.symm)
   ·rw[jold (by omega)]at hp hq
    rw[cold (by omega)]at hlb hlc
    exact I.inj b c p q hp hq hlb hlc hio hpq
 ·
  intro b p hp
  by_cases hb:b<(H (i+1)).next∧((H i).next≤b∨∃ c,T i c)
  ·rw[cnew hb.1 hb.2]
   have hψ:ψ b=some p:=by
    rcases jcase hp with ⟨_,_,h3⟩|⟨h1,h3⟩
    ·exact h3
    ·exact upψ h3 (by omega)
   refine(HW.row b p hψ ?_).mono jψ
   rcases hb.2 with h|h
   ·intro hE;have:=hE.1;omega
   ·exact hE h b
  ·rw[cold hb]
   have hφ:φ b=some p:=by
    rcases jcase hp with ⟨h1,h2,_⟩|⟨_,h3⟩
    ·exact absurd ⟨h2,.inl h1⟩ hb
    ·exact h3
   by_cases hd:C b=.dead
   ·rw[hd];exact .dead
   ·have hr:=(I.row b p hφ).mono jle
    rw[eff.frame p.blk (I.dom b p hφ).1 fun c q e1 en e2 e3 e4=>?_]
    ·exact hr
    ·obtain⟨e5,e6⟩:=BQ e1
     have:=I.inj c b q p e6 hφ (by rw[lk ⟨c,e2⟩ c q e6 e5];exact e3) hd (.inl en) e4
     subst this
     exact hb ⟨by omega,.inr ⟨c,e2⟩⟩
 ·
  intro k hk b p c s e hp hb he
  rcases jcase hp with ⟨h1,h2,h3⟩|⟨_,h3⟩
  ·have hik:i+1≤k:=by
    rcases Nat.lt_or_ge i k with h|h
    ·exact h
    ·have:=txt.mono (i:=k) (k:=i) h (Nat.le_of_lt hi);omega
   have hs:=txt.shapes (i:=i+1) (k:=k) h2 hik hk
   rw[he]at hs
   obtain⟨c',hc'⟩:=hs.cells
   exact HW.kind b p c' s e h3 hc'
  ·exact I.kind k hk b p c s e h3 hb he
 ·
  intro k hk b p hp hb hyp
  rcases Nat.lt_or_ge i k with hik|hik
  ·
   rcases jcase hp with ⟨h1,h2,h3⟩|⟨h1,h3⟩
   ·rw[cnew h2 (.inl h1)]
    refine(txt.same (i:=i+1) hik hk fun m hm1 hm2=>?_).symm
    by_cases hm:S m
    ·by_cases hc:(H (m+1)).bl.get b=(H m).bl.get b
     ·exact hc
     ·have:=txt.mono (i:=i+1) (k:=m) hm1 (by omega)
      obtain⟨q,hq⟩:=I.chg m hm (by omega) b (by omega) hc
      rw[hnone b h1 h2]at hq;cases hq
    ·have:=txt.mono (i:=i+1) (k:=m) hm1 (by omega)
     refine txt.kept m (by omega) b (by omega) fun hT=>?_
     rcases (hyp m (by omega) hT).1 hm2 with h|h
     ·exact hm h
     ·omega
   ·rcases h1 with h1|h1
    ·by_cases hw:∃ c,T i c
     ·rw[cnew (by omega) (.inr hw)]
      refine(txt.same (i:=i+1) hik hk fun m hm1 hm2=>?_).symm
      have:=txt.mono (i:=i+1) (k:=m) hm1 (by omega)
      refine txt.kept m (by omega) b (by omega) fun hT=>?_
      obtain⟨c,hc⟩:=hw
      have hfx:=fx m (by omega) (L.fixed i m o b (by omega) ho (by omega) hT (L.kinds i o c ho hc))
      rcases (hyp m (by omega) hT).1 hm2 with h|h
      ·exact hfx.2 (by omega) h
      ·omega
     ·rw[cold (by rintro⟨_,h|h⟩;omega;exact hw h)]
      refine I.link k hk b p h3 hb fun j hj hT=>⟨fun h=>?_,fun h=>?_⟩
      ·rcases (hyp j hj hT).1 h with h|h
       ·exact h
       ·subst h;exact absurd ⟨b,hT⟩ hw
      ·exact fun hSj=>(hyp j hj hT).2 h (.inl hSj)
    ·rw[cold (by omega)]
     refine I.link k hk b p h3 hb fun j hj hT=>⟨fun h=>?_,fun h=>?_⟩
     ·rcases (hyp j hj hT).1 h with h|h
      ·exact h
      ·subst h;have:=L.tlt j b hj hT;omega
     ·exact fun hSj=>(hyp j hj hT).2 h (.inl hSj)
  ·
   have hkm:=txt.mono (i:=k) (k:=i) hik (Nat.le_of_lt hi)
   have h3:φ b=some p:=by
    rcases jcase hp with ⟨h1,_,_⟩|⟨_,h3⟩
    ·omega
    ·exact h3
   have l1:C b=(H k).bl.get b:=I.link k hk b p h3 hb fun j hj hT=>⟨fun h=>by
     rcases (hyp j hj hT).1 h with h2|h2
     ·exact h2
     ·omega,fun h hSj=>(hyp j hj hT).2 h (.inl hSj)⟩
   by_cases hw:∃ c,T i c
   ·rw[cnew (by omega) (.inr hw)]
    have hnT:¬ T i b:=fun hT=>(hyp i hi hT).2 hik (.inr rfl)
    rw[eff.kept b (by omega) hnT,← lk hw b p h3 (by omega)];exact l1
   ·rw[cold (by rintro⟨_,h|h⟩;omega;exact hw h)];exact l1
 ·
  intro j hj hjn b hb hc
  rcases hj with hj|rfl
  ·obtain⟨p,hp⟩:=I.chg j hj hjn b hb hc
   exact⟨p,jle b p hp⟩
  ·cases hu:upto φ (H j).next b with
   |none=>exact absurd (eff.only b hb hu) hc
   |some p=>exact⟨p,jle b p (BQ hu).2⟩
 ·
  intro j hj hjn b h1 h2
  rcases hj with hj|rfl
  ·obtain⟨p,hp⟩:=I.full j hj hjn b h1 h2
   exact⟨p,jle b p hp⟩
  ·obtain⟨p,hp⟩:=eff.all b h1 h2
   exact⟨p,jψ b p hp⟩
 ·
  intro k hk t u hyp hu
  rw[BS]
  by_cases hd:o.dst=some t
  ·rw[if_pos ⟨hd,by rw[I.size];exact hN t hd⟩]
   have hik:i<k:=by
    rcases Nat.lt_or_ge i k with h|h
    ·exact h
    ·exact absurd (.inr rfl) ((hyp i o ho hd).2 h)
   have hu2:ρ (i+1) t=some u:=by
    refine tr.backward (i:=i+1) hik hk (fun m om h1 h2 hom hdm=>?_) hu
    have hfx:=fx m (by omega) (L.slots i m o om t (by omega) ho hom hd (.inl hdm))
    rcases (hyp m om hom hdm).1 h2 with h|h
    ·exact hfx.2 (by omega) h
    ·omega
   have:=(tr.sf i o ho).slot t u hu2
   rw[if_pos hd]at this
   rw[this];exact hv.mono jψ
  ·rw[if_neg fun h=>hd h.1]
   refine(I.slot k hk t u (fun j oj hoj hdj=>?_) hu).mono jle
   have hji:j≠i:=fun h=>by subst h;rw[ho]at hoj;cases hoj;exact hd hdj
   refine⟨fun h=>?_,fun h hSj=>(hyp j oj hoj hdj).2 h (.inl hSj)⟩
   rcases (hyp j oj hoj hdj).1 h with h2|h2
   ·exact h2
   ·exact absurd h2 hji
 ·
  intro b p hp
  rcases jcase hp with ⟨h1,_,_⟩|⟨_,h3⟩
  ·have:=txt.mono (Nat.zero_le i) (Nat.le_of_lt hi)
   exact .inr (by omega)
  ·exact I.new b p h3
 ·
  intro k hk hc
  rw[eff.frame k (Nat.lt_of_lt_of_le hk I.sz) fun c q e1 en e2 e3 e4=>?_]
  ·exact I.frame k hk hc
  ·obtain⟨e5,e6⟩:=BQ e1
   obtain⟨c0,q0,f1,f2,f3,fi,f4⟩:=I.back c q e6 (by rw[lk ⟨c,e2⟩ c q e6 e5];exact e3) (by rw[e4];exact hk)
   have hlo:(H all.length).low≤c0∧c0≤(H all.length).high:=by
    rcases f4 with rfl|f4
    ·exact L.tout i _ hi e2
    ·exact f4
   exact hc c0 q0 f1 (fi.trans en) hlo.1 hlo.2 f2 (f3.trans e4)
 ·
  intro b p hp hl hlt
  rcases jcase hp with ⟨h1,h2,h3⟩|⟨h1,h3⟩
  ·rw[cnew h2 (.inl h1)]at hl
   obtain⟨j,q,e1,e2,e3,ei,e4⟩:=eff.back b p h3 hl (Nat.lt_of_lt_of_le hlt I.sz)
   obtain⟨e5,e6⟩:=BQ e1
   rcases e4 with rfl|e4
   ·omega
   ·obtain⟨c0,q0,f1,f2,f3,fi,f4⟩:=I.back j q e6 (by rw[lk ⟨j,e4⟩ j q e6 e5];exact e2) (by rw[e3];exact hlt)
    refine⟨c0,q0,f1,f2,f3.trans e3,fi.trans ei,.inr ?_⟩
    rcases f4 with rfl|f4
    ·exact L.tout i _ hi e4
    ·exact f4
  ·refine I.back b p h3 ?_ hlt
   by_cases hb:b<(H (i+1)).next∧((H i).next≤b∨∃ c,T i c)
   ·have hb':b<(H i).next:=by omega
    rw[cnew hb.1 hb.2]at hl
    have hw:∃ c,T i c:=hb.2.resolve_left (by omega)
    rw[lk hw b p h3 hb'];exact live hb' hl
   ·rw[cold hb]at hl;exact hl
end
end
noncomputable section
open Go
section
variable {P:Program}{ty:TTy}{N:Nat}{all:List Oper}{ρ:Nat→Rho}{H:Nat→Hp}{V:Nat→Value}{T:Nat→Nat→Prop}{φ0:Phi}{w0:World}{B:Nat→Nat→Prop}{run:Nat→Bool}{ahs:List Ahead}
theorem Inv.step(L:Laws ty all ρ H T B)(tr:Tr P ty all ahs all ρ H V run T)(txt:Txt P ty N φ0 ρ H V T all.length){S:Nat→Prop}{φ:Phi}{C:Nat→Blk}{a:Act}{w:World}(I:Inv ty N all ρ H T φ0 w0 S φ C a w)
  {i:Nat}{o:Oper}(ho:all[i]? =some o)(hS:¬ S i)(hpre:∀ j,B j i→S j)(hcl:∀ j k,S j→B k j→S k)(hN:∀ d,o.dst=some d→d<N)
  {K:Act→World→Prop}{Q:Exit→Act→World→Prop}(hK:∀ φ' C' a' w',Inv ty N all ρ H T φ0 w0 (fun j=>S j∨j=i) φ' C' a' w'→K a' w'):wpOp P all.toArray Q i K a w:=by
 have hi:i<all.length:=by
  rcases Nat.lt_or_ge i all.length with h|h
  ·exact h
  ·rw[List.getElem?_eq_none h]at ho;cases ho
 have fx:∀ j,j≠i→(B i j∨B j i)→(j<i→S j)∧(i≤j→¬ S j):=by
  intro j hj hb
  rcases hb with hb|hb
  ·have:=L.lt i j hb
   exact⟨fun h=>by omega,fun _ hSj=>hS (hcl j i hSj hb)⟩
  ·have:=L.lt j i hb
   exact⟨fun _=>hpre j hb,fun h=>by omega⟩
 have named:∀ d,(o.dst=some d∨.tmp d∈o.op.operands.toList∨∃ g w og,o.guard=some (g,w)∧all[g]? =some og∧og.dst=some d)→∀ u,ρ i d=some u→RelV φ u (a.tmps.getD d undef):=by
  intro d hd u hu
  refine I.slot i (Nat.le_of_lt hi) d u (fun j oj hoj hdj=>?_) hu
  by_cases hji:j=i
  ·subst hji;exact⟨fun h=>absurd h (Nat.lt_irrefl _),fun _=>hS⟩
  ·exact fx j hji ((L.slots j i oj o d hji hoj ho hdj hd).symm)
 have s:=tr.sf i o ho
 have hw:=Ju s (a:=a) (φ:=φ) fun g want og d u h1 h2 h3 hu=>named d (.inr (.inr ⟨g,want,og,h1,h2,h3⟩)) u hu
 obtain⟨HR,ψ,b,HA,hx⟩:=I.relw txt (Nat.le_of_lt hi)
 have names:∀ x∈o.op.operands.toList,∀ u,evR (ρ i) x=some u→RelV (upto φ (H i).next) u (a.eval x):=by
  intro x hxm u hu
  have h1:RelV φ u (a.eval x):=by
   cases x with
   |tmp t=>exact named t (.inr (.inl hxm)) u hu
   |const v=>
    have hu:(if C4 v then some v else none)=some u:=hu
    split at hu
    ·rename_i hp;cases hu;exact Ik hp
    ·cases hu
   |func g=>cases hu;exact .func _ .nil .nil
   |global g=>cases hu
  exact h1.cut hx (HA.ev hu)
 unfold wpOp
 rw[List.getElem?_toArray,ho]
 simp only
 rcases s.core with ⟨hrun,core⟩|⟨hrun,hv,hh,hT⟩
 ·rw[hw,hrun,if_pos rfl]
  refine .inl (core.does _ _ w a HR names ?_ _ _ fun ψ' v' w' hv HW' eff _=>hK _ _ _ _ (I.after L tr txt ho hS hpre hcl hN hv HW' eff))
  have noE:((∃ x,kd ty o.op=.w x)∨kd ty o.op=.q)→∀ b,¬ Kj all.length T S (H i) i b:=by
   rintro hk b ⟨hb,hne⟩
   refine hne fun j hj hT=>?_
   by_cases hji:j=i
   ·subst hji;exact⟨fun h=>absurd h (Nat.lt_irrefl _),fun _=>hS⟩
   ·exact fx j hji (L.fixed i j o b (fun h=>hji h.symm) ho hj hT hk)
  unfold TouchR
  cases hk:kd ty o.op with
  |p=>trivial
  |a=>trivial
  |r x=>
   rintro u hu c hc ⟨hb,hne⟩
   refine hne fun j hj hT=>?_
   by_cases hji:j=i
   ·subst hji;exact⟨fun h=>absurd h (Nat.lt_irrefl _),fun _=>hS⟩
   ·exact fx j hji (L.reads i j o x c u (fun h=>hji h.symm) ho hj hT hk hu hc)
  |w x=>exact noE (.inl ⟨x,hk⟩)
  |q=>exact noE (.inr hk)
 ·rw[hw,hrun,if_neg (by simp)]
  refine hK _ _ _ _ (I.after L tr txt ho hS hpre hcl hN (ψ:=upto φ (H i).next) (v':=undef) (w':=w) (by rw[hv];exact .tuple .nil) (by rw[hh];exact HR) ?_)
  rw[hh]
  exact {Eff.refl (upto φ (H i).next) (H i) w with frame:=fun _ _ _=>rfl,back:=fun i p e hl _=>⟨i,p,e,hl,rfl,rfl,.inl rfl⟩,kept:=fun _ _ _=>rfl}
theorem Inv.begin(tr:Tr P ty all ahs all ρ H V run T)(txt:Txt P ty N φ0 ρ H V T all.length)(L:Laws ty all ρ H T B){a:Act}(HW:RelW ty φ0 nil (H 0) w0)(HA:AR N φ0 (ρ 0) a){S:Nat→Prop}(hS:∀ j,j<all.length→¬ S j):
  Inv ty N all ρ H T φ0 w0 S φ0 (H 0).bl.get a w0 where
 dom:=fun b p hp=>⟨(HW.dom b p hp).2,.inl (HW.dom b p hp).1⟩
 inj:=fun b c p q hp hq hb hc hio h=>HW.inj b c p q hp hq (fun h=>h) (fun h=>h) hb hc hio h
 row:=fun b p hp=>HW.row b p hp fun h=>h
 kind:=fun k hk b p c s e hp hb he=>by
  have hs:=txt.shapes (i:=0) (k:=k) (HW.dom b p hp).1 (Nat.zero_le _) hk
  rw[he]at hs
  obtain⟨c',hc'⟩:=hs.cells
  exact HW.kind b p c' s e hp hc'
 inp:=HW.inp
 link:=fun k hk b p hp hb hyp=>by
  refine(txt.same (i:=0) (Nat.zero_le _) hk fun m _ hm=>?_).symm
  have h0:=(HW.dom b p hp).1
  have:=txt.mono (i:=0) (k:=m) (Nat.zero_le _) (by omega)
  exact txt.kept m (by omega) b (by omega) fun hT=>hS m (by omega) ((hyp m (by omega) hT).1 hm)
 chg:=fun j hj hjn=>absurd hj (hS j hjn)
 full:=fun j hj hjn=>absurd hj (hS j hjn)
 slot:=fun k hk t u hyp hu=>by
  refine HA.rel t u (tr.backward (i:=0) (Nat.zero_le _) hk (fun m om _ hm hom hdm=>?_) hu)
  exact hS m (by omega) ((hyp m om hom hdm).1 hm)
 size:=HA.size
 defs:=HA.defs
 le:=.refl _
 new:=fun b p hp=>.inl hp
 sz:=Nat.le_refl _
 tape:=rfl
 os:=rfl
 output:=rfl
 frame:=fun _ _ _=>rfl
 back:=fun b p hp hl _=>⟨b,p,hp,hl,rfl,rfl,.inl rfl⟩
theorem Inv.fin(txt:Txt P ty N φ0 ρ H V T all.length)(L:Laws ty all ρ H T B){S:Nat→Prop}{φ:Phi}{C:Nat→Blk}{a:Act}{w:World}(I:Inv ty N all ρ H T φ0 w0 S φ C a w)(hS:∀ j,j<all.length→S j):
  RelW ty φ nil (H all.length) w∧AR N φ (ρ all.length) a∧Evo φ0 (H 0) w0 φ (H all.length) w:=by
 have hdom:∀ b p,φ b=some p→b<(H all.length).next:=by
  intro b p hp
  rcases (I.dom b p hp).2 with h|⟨j,_,hj,_,h⟩
  ·have:=txt.mono (Nat.zero_le all.length) (Nat.le_refl _);omega
  ·have:=txt.mono (i:=j+1) (k:=all.length) hj (Nat.le_refl _);omega
 have lk:∀ b p,φ b=some p→C b=(H all.length).bl.get b:=fun b p hp=>
  I.link _ (Nat.le_refl _) b p hp (hdom b p hp) fun j hj _=>⟨fun _=>hS j hj,fun h=>by omega⟩
 refine⟨{dom:=fun b p hp=>⟨hdom b p hp,(I.dom b p hp).1⟩,inj:=fun b c p q hp hq _ _ hb hc hio h=>I.inj b c p q hp hq (by rw[lk b p hp];exact hb) (by rw[lk c q hq];exact hc) hio h,row:=fun b p hp _=>by rw[← lk b p hp];exact I.row b p hp,fresh:=txt.fresh _ (Nat.le_refl _),kind:=fun b p c s e hp he=>I.kind _ (Nat.le_refl _) b p c s e hp (hdom b p hp) he,inp:=I.inp},
  ⟨I.size,I.defs,fun t u hu=>I.slot _ (Nat.le_refl _) t u (fun j oj hoj _=>?_) hu⟩,
  {le:=I.le,new:=I.new,next:=txt.mono (Nat.zero_le _) (Nat.le_refl _),size:=I.sz,tape:=I.tape,os:=I.os,output:=I.output,frame:=I.frame,back:=fun b p hp hl hlt=>I.back b p hp (by rw[lk b p hp];exact hl) hlt,kept:=fun b hb ho=>?_,low:=L.low,high:=L.high,shape:=fun b hb=>txt.shapes (i:=0) hb (Nat.zero_le _) (Nat.le_refl _),only:=fun b hb h0=>?_,all:=fun b h1 h2=>?_}⟩
 ·have hj:j<all.length:=by
   rcases Nat.lt_or_ge j all.length with h|h
   ·exact h
   ·rw[List.getElem?_eq_none h]at hoj;cases hoj
  exact⟨fun _=>hS j hj,fun h=>by omega⟩
 ·refine txt.same (i:=0) (Nat.zero_le _) (Nat.le_refl _) fun m _ hm=>?_
  have:=txt.mono (i:=0) (k:=m) (Nat.zero_le _) (by omega)
  exact txt.kept m hm b (by omega) fun hT=>by have:=L.tout m b hm hT;omega
 ·refine txt.same (i:=0) (Nat.zero_le _) (Nat.le_refl _) fun m _ hm=>?_
  have:=txt.mono (i:=0) (k:=m) (Nat.zero_le _) (by omega)
  by_cases hc:(H (m+1)).bl.get b=(H m).bl.get b
  ·exact hc
  ·obtain⟨p,hp⟩:=I.chg m (hS m hm) hm b (by omega) hc
   rcases I.new b p hp with h|h
   ·rw[h0]at h;cases h
   ·omega
 ·
  have:∀ k,k≤all.length→b<(H k).next→∃ p,φ b=some p:=by
   intro k
   induction k with
   |zero=>intro _ h;omega
   |succ k ih=>
    intro hk h
    rcases Nat.lt_or_ge b (H k).next with h3|h3
    ·exact ih (by omega) h3
    ·exact I.full k (hS k (by omega)) (by omega) b h3 h
  exact this _ (Nat.le_refl _) h2
theorem JK{α:Type}{p q:α→Bool}:∀ {l:List α},(∀ x∈l,p x=true→q x=true)→(∃ x∈l,q x=true∧p x=false)→l.countP p<l.countP q
 |[],_,h=>by obtain⟨x,hx,_⟩:=h;cases hx
 |y::l,h1,h2=>by
  have hmono:l.countP p≤l.countP q:=List.countP_mono_left fun x hx hp=>h1 x (List.mem_cons_of_mem _ hx) hp
  rw[List.countP_cons,List.countP_cons]
  by_cases hy:q y=true∧p y=false
  ·rw[hy.1,hy.2];simp;omega
  ·obtain⟨x,hx,hq,hp⟩:=h2
   rcases List.mem_cons.1 hx with rfl|hx
   ·exact absurd ⟨hq,hp⟩ hy
   ·have:=JK (fun x hx=>h1 x (List.mem_cons_of_mem _ hx)) ⟨x,hx,hq,hp⟩
    cases hpy:p y with
    |true=>rw[h1 y List.mem_cons_self hpy];simp;omega
    |false=>cases q y<;>simp<;>omega
structure Edges (all:List Oper)(B:Nat→Nat→Prop):Prop where
 dec:∀ i o j,all[i]? =some o→B j i→∃ e∈o.after.toList,Region.binds .any e=true∧(j=e.on∨B j e.on)
 back:∀ i o,all[i]? =some o→∀ e∈o.after.toList,Region.binds .any e=true→e.on<i
theorem Ug(E:Edges all B)(L:Laws ty all ρ H T B)(tr:Tr P ty all ahs all ρ H V run T)(txt:Txt P ty N φ0 ρ H V T all.length)(hN:∀ o∈all,∀ d,o.dst=some d→d<N){Q:Exit→Act→World→Prop}
  (hq:∀ ψ a' w',RelW ty ψ nil (H all.length) w'→AR N ψ (ρ all.length) a'→Evo φ0 (H 0) w0 ψ (H all.length) w'→Q .normal a' w'):
  ∀ (fuel:Nat) (listed:Array Bool) (φ:Phi) (C:Nat→Blk) (a:Act) (w:World),listed.size=all.length→(List.range all.length).countP (fun j=> !listed.getD j true)≤fuel→
   (∀ j k,(j<all.length∧listed.getD j false=true)→B k j→(k<all.length∧listed.getD k false=true))→
   Inv ty N all ρ H T φ0 w0 (fun j=>j<all.length∧listed.getD j false=true) φ C a w→wpAny P .any all.toArray Q fuel listed a w:=by
 have getTF:∀ (listed:Array Bool),listed.size=all.length→∀ j,j<all.length→listed.getD j true=listed.getD j false:=by
  intro listed hs j hj
  rw[Array.getD_eq_getD_getElem?,Array.getD_eq_getD_getElem?,Array.getElem?_eq_getElem (by omega)];rfl
 have done:∀ (listed:Array Bool) (φ:Phi) (C:Nat→Blk) (a:Act) (w:World),listed.size=all.length→Region.ready .any all.toArray listed=[]→
   Inv ty N all ρ H T φ0 w0 (fun j=>j<all.length∧listed.getD j false=true) φ C a w→(∀ j,j<all.length→listed.getD j false=true)∧Q .normal a w:=by
  intro listed φ C a w hs hr I
  have hall:∀ j,j<all.length→listed.getD j false=true:=by
   intro j
   induction j using Nat.strongRecOn with
   |_ j ih=>
    intro hj
    cases hl:listed.getD j false with
    |true=>rfl
    |false=>
     exfalso
     have ho:all[j]? =some all[j]:=List.getElem?_eq_getElem hj
     have:j∈Region.ready .any all.toArray listed:=by
      unfold Region.ready
      rw[List.mem_filter]
      refine⟨List.mem_range.2 (by simpa using hj),?_⟩
      rw[getTF listed hs j hj,hl,List.getElem?_toArray,ho]
      simp only[Bool.not_false,Bool.true_and,Option.map_some,Option.getD_some]
      rw[Array.all_eq_true_iff_forall_mem]
      intro e he
      cases hb:Region.binds .any e with
      |false=>rfl
      |true=>
       have h1:=E.back j all[j] ho e (Array.mem_toList_iff.2 he) hb
       rw[ih e.on h1 (by omega)];rfl
     rw[hr]at this;cases this
  obtain⟨h1,h2,h3⟩:=I.fin txt L fun j hj=>⟨hj,hall j hj⟩
  exact⟨hall,hq φ a w h1 h2 h3⟩
 intro fuel
 induction fuel with
 |zero=>
  intro listed φ C a w hs hc hcl I
  have hr:Region.ready .any all.toArray listed=[]:=by
   cases hr:Region.ready .any all.toArray listed with
   |nil=>rfl
   |cons x xs=>
    exfalso
    have hx:x∈Region.ready .any all.toArray listed:=by rw[hr];exact List.mem_cons_self
    unfold Region.ready at hx
    rw[List.mem_filter]at hx
    obtain⟨h1,h2⟩:=hx
    have h3:x<all.length:=by simpa using List.mem_range.1 h1
    simp only[Bool.and_eq_true]at h2
    have:=List.countP_pos_iff (p:=fun j=> !listed.getD j true) (l:=List.range all.length) |>.2 ⟨x,List.mem_range.2 h3,h2.1⟩
    omega
  exact⟨hr,(done listed φ C a w hs hr I).2⟩
 |succ fuel ih=>
  intro listed φ C a w hs hc hcl I
  refine⟨fun hr=>(done listed φ C a w hs hr I).2,fun i hi=>?_⟩
  unfold Region.ready at hi
  rw[List.mem_filter]at hi
  obtain⟨h1,h2⟩:=hi
  have h3:i<all.length:=by simpa using List.mem_range.1 h1
  have ho:all[i]? =some all[i]:=List.getElem?_eq_getElem h3
  rw[Bool.and_eq_true,List.getElem?_toArray,ho]at h2
  obtain⟨h4,h5⟩:=h2
  simp only[Option.map_some,Option.getD_some]at h5
  rw[Array.all_eq_true_iff_forall_mem]at h5
  have hl:listed.getD i false=false:=by
   rw[← getTF listed hs i h3];simpa using h4
  have hset:∀ j,j<all.length→(listed.setIfInBounds i true).getD j false=if j=i then true else listed.getD j false:=by
   intro j hj
   rw[Array.getD_eq_getD_getElem?,Array.getElem?_setIfInBounds,Array.getD_eq_getD_getElem?]
   by_cases hji:j=i
   ·subst hji;rw[if_pos rfl,if_pos (by omega),if_pos rfl];rfl
   ·rw[if_neg fun h=>hji h.symm,if_neg hji]
  have hpre:∀ j,B j i→(j<all.length∧listed.getD j false=true):=by
   intro j hb
   obtain⟨e,he,hbe,hor⟩:=E.dec i _ j ho hb
   have hon:=h5 e (Array.mem_toList_iff.1 he)
   rw[hbe]at hon
   have hon:listed.getD e.on false=true:=by simpa using hon
   have hlt:e.on<all.length:=by have:=E.back i _ ho e he hbe;omega
   rcases hor with rfl|hor
   ·exact⟨hlt,hon⟩
   ·exact hcl e.on j ⟨hlt,hon⟩ hor
  refine I.step L tr txt ho (fun h=>by rw[hl]at h;cases h.2) hpre hcl (hN _ (List.mem_of_getElem? ho)) fun φ' C' a' w' I'=>ih _ φ' C' a' w' (by simp[hs]) ?_ ?_ ?_
  ·have:=JK (p:=fun j=> !(listed.setIfInBounds i true).getD j true) (q:=fun j=> !listed.getD j true) (l:=List.range all.length) (fun j hj hp=>?_) ⟨i,List.mem_range.2 h3,h4,?_⟩
   ·omega
   ·have hj:=List.mem_range.1 hj
    rw[getTF _ (by simp[hs]) j hj,hset j hj]at hp
    rw[getTF _ hs j hj]
    by_cases hji:j=i
    ·rw[if_pos hji]at hp;cases hp
    ·rw[if_neg hji]at hp;exact hp
   ·rw[getTF _ (by simp[hs]) i h3,hset i h3,if_pos rfl];rfl
  ·intro j k hj hb
   have hjk:k<all.length∧listed.getD k false=true:=by
    rw[hset j hj.1]at hj
    by_cases hji:j=i
    ·subst hji;exact hpre k hb
    ·rw[if_neg hji]at hj;exact hcl j k hj hb
   refine⟨hjk.1,?_⟩
   rw[hset k hjk.1]
   split
   ·rfl
   ·exact hjk.2
  ·have:(fun j=>(j<all.length∧listed.getD j false=true)∨j=i)=fun j=>j<all.length∧(listed.setIfInBounds i true).getD j false=true:=by
    funext j
    apply propext
    constructor
    ·rintro (⟨hj,hlj⟩|rfl)
     ·refine⟨hj,?_⟩
      rw[hset j hj]
      split
      ·rfl
      ·exact hlj
     ·refine⟨h3,?_⟩
      rw[hset _ h3,if_pos rfl]
    ·rintro⟨hj,hlj⟩
     rw[hset j hj]at hlj
     by_cases hji:j=i
     ·exact .inr hji
     ·rw[if_neg hji]at hlj;exact .inl ⟨hj,hlj⟩
   rw[← this];exact I'
theorem Evo.of_worlds{φ ψ:Phi}{h h':Hp}{w w1 w':World}(ev:Evo φ h w1 ψ h' w')(hh:w1.heap=w.heap)(ht:w1.tape=w.tape)(ho:w1.os=w.os)(hout:w1.output=w.output):Evo φ h w ψ h' w' where
 le:=ev.le
 new:=ev.new
 next:=ev.next
 size:=by rw[← hh];exact ev.size
 tape:=ev.tape.trans ht
 os:=ev.os.trans ho
 output:=ev.output.trans hout
 frame:=by rw[← hh];exact ev.frame
 back:=by rw[← hh];exact ev.back
 kept:=ev.kept
 low:=ev.low
 high:=ev.high
 shape:=ev.shape
 only:=ev.only
 all:=ev.all
theorem TY(hm:P.follows .mixedOrders=true)(E:Edges all B)(L:Laws ty all ρ H T B)(tr:Tr P ty all ahs all ρ H V run T)(hN:∀ o∈all,∀ d,o.dst=some d→d<N){Q:Exit→Act→World→Prop}{a:Act}{w:World}{id:Nat}
  (HW:RelW ty φ0 nil (H 0) w)(HA:AR N φ0 (ρ 0) a)(hq:∀ ψ a' w',RelW ty ψ nil (H all.length) w'→AR N ψ (ρ all.length) a'→Evo φ0 (H 0) w ψ (H all.length) w'→Q .normal a' w'):
  (Code.region id all.toArray true).wp P Q a w:=by
 have txt:Txt P ty N φ0 ρ H V T all.length:=by
  have h:=Hl (Q:=fun _ _ _=>Txt P ty N φ0 ρ H V T all.length) all tr hN HW HA fun txt _ _ _ _ _ _=>txt
  obtain⟨_,_,_,h,_⟩:=wp_region_list (id:=0) (ops:=all.toArray) (by simpa using h) (default:Frame) [] []
  exact h
 refine wp_region_any hm ?_
 have HW1:RelW ty φ0 nil (H 0) {w with drawn:=w.drawn+1}:=HW.of_heap rfl
 have hsz:all.toArray.size=all.length:=by simp
 rw[hsz]
 refine Ug (w0:={w with drawn:=w.drawn+1}) E L tr txt hN (fun ψ a' w' h1 h2 h3=>hq ψ a' w' h1 h2 (h3.of_worlds rfl rfl rfl rfl)) all.length _ φ0 (H 0).bl.get a _ (by simp) (Nat.le_trans List.countP_le_length (by simp)) ?_ ?_
 ·rintro j k ⟨hj,hlj⟩ _
  rw[Array.getD_eq_getD_getElem?]at hlj
  simp[hj]at hlj
 ·refine Inv.begin tr txt L HW1 HA fun j hj h=>?_
  have:=h.2
  rw[Array.getD_eq_getD_getElem?]at this
  simp[hj]at this
end
end
noncomputable section
open Go
theorem L1{β:Type}(x:Nat):∀ (k:List Nat→β) (l:List Nat),OL x k l=k (l++[x])
 |k,[]=>rfl
 |k,y::l=>by
  unfold OL
  rw[L1 x (fun l=>k (y::l)) l];rfl
def Bu:List Nat→List Oper→List Nat
 |acc,[]=>acc
 |acc,o::l=>Bu (acc++[EJ acc 0 o.after.toList]) l
theorem Ni{β:Type}(k:List Nat→β):∀ (l:List Oper) (acc:List Nat),Rm k l acc=k (Bu acc l)
 |[],acc=>rfl
 |o::l,acc=>by
  unfold Rm
  rw[As,L1,Ni k l];rfl
theorem Hu:∀ (l:List Oper) (acc:List Nat) (j:Nat),j<acc.length→(Bu acc l)[j]? =acc[j]?
 |[],acc,j,_=>rfl
 |o::l,acc,j,hj=>by
  unfold Bu
  rw[Hu l _ j (by simp;omega),List.getElem?_append_left hj]
theorem Oc(l:List Oper):∀ (acc:List Nat) (j:Nat) (o:Oper),l[j]? =some o→(Bu acc l)[acc.length+j]? =some (EJ ((Bu acc l).take (acc.length+j)) 0 o.after.toList):=by
 induction l with
 |nil=>intro acc j o h;cases h
 |cons o' l ih=>
  intro acc j o h
  have hu:Bu acc (o'::l)=Bu (acc++[EJ acc 0 o'.after.toList]) l:=by rw[Bu]
  rw[hu]
  cases j with
  |zero=>
   have ho:o'=o:=by simpa using h
   subst ho
   rw[Nat.add_zero]
   have hp:=fun k hk=>Hu l (acc++[EJ acc 0 o'.after.toList]) k hk
   have ht:(Bu (acc++[EJ acc 0 o'.after.toList]) l).take acc.length=acc:=by
    apply List.ext_getElem?
    intro k
    rw[List.getElem?_take]
    split
    ·rename_i hk
     rw[hp k (by rw[List.length_append];omega),List.getElem?_append_left hk]
    ·rename_i hk
     rw[List.getElem?_eq_none (by omega)]
   rw[ht,hp acc.length (by rw[List.length_append,List.length_singleton];omega),List.getElem?_append_right (Nat.le_refl _),Nat.sub_self];rfl
  |succ j=>
   have:=ih (acc++[EJ acc 0 o'.after.toList]) j o (by simpa using h)
   rw[List.length_append,List.length_singleton]at this
   have e:acc.length+(j+1)=acc.length+1+j:=by omega
   rw[e];exact this
theorem Ht:∀ (l:List Oper) (acc:List Nat),(Bu acc l).length=acc.length+l.length
 |[],acc=>rfl
 |o::l,acc=>by
  unfold Bu;rw[Ht l];simp;omega
theorem KE{bs:List Nat}{i j:Nat}:isB bs i j=true↔∃ b,bs[j]? =some b∧b.testBit i=true:=by
 unfold isB
 rw[DU]
 cases bs[j]? with
 |none=>simp
 |some b=>
  simp only[Option.some.injEq,exists_eq_left']
  rw[Ae]
  unfold Nat.testBit
  have e:Nat.shiftRight b i=b >>> i:=rfl
  have e2:Nat.mod (b >>> i) 2=(b >>> i) % 2:=rfl
  rw[e,e2]
  simp[Nat.and_one_is_mod,bne_iff_ne]
theorem Gb(acc:List Nat)(i:Nat):∀ (es:List Edge) (m:Nat),(EJ acc m es).testBit i=true↔m.testBit i=true∨∃ e∈es,Region.binds .any e=true∧(i=e.on∨((acc[e.on]?).getD 0).testBit i=true)
 |[],m=>by unfold EJ;simp
 |e::es,m=>by
  unfold EJ
  split
  ·rename_i hb
   rw[Gb acc i es]
   have e1:∀ a b:Nat,Nat.lor a b=a ||| b:=fun _ _=>rfl
   have e2:Nat.shiftLeft 1 e.on=1 <<< e.on:=rfl
   rw[e1,e1,e2,DU,Nat.testBit_or,Nat.testBit_or,Nat.one_shiftLeft,Nat.testBit_two_pow]
   simp only[Bool.or_eq_true,decide_eq_true_eq,List.mem_cons,exists_eq_or_imp,hb,true_and]
   constructor
   ·rintro ((h|h|h)|h)
    ·exact .inl h
    ·exact .inr (.inl (.inl h.symm))
    ·exact .inr (.inl (.inr h))
    ·exact .inr (.inr h)
   ·rintro (h|(h|h)|h)
    ·exact .inl (.inl h)
    ·exact .inl (.inr (.inl h.symm))
    ·exact .inl (.inr (.inr h))
    ·exact .inr h
  ·rename_i hb
   rw[Gb acc i es]
   simp only[List.mem_cons,exists_eq_or_imp,hb,Bool.false_eq_true,false_and,false_or]
theorem CF{ops:List Oper}{o:Oper}{i:Nat}:(o,i)∈ops.zipIdx↔ops[i]? =some o:=List.mem_zipIdx_iff_getElem?
theorem C0{d:Nat}:∀ {l:List Nat},memN d l=true↔d∈l
 |[]=>by simp[memN]
 |x::l=>by
  unfold memN
  split
  ·rename_i hb
   have:=Ae.1 hb
   simp[this]
  ·rename_i hb
   have:=Cu hb
   rw[C0,List.mem_cons]
   constructor
   ·exact .inr
   ·rintro (h|h)
    ·exact absurd h.symm this
    ·exact h
section
variable {ty:TTy}{all:List Oper}{bs:List Nat}
theorem Kt(hbs:bs=Bu [] all)(he:E8 all=true):Edges all (fun i j=>isB bs i j=true):=by
 have back:∀ i o,all[i]? =some o→∀ e∈o.after.toList,Region.binds .any e=true→e.on<i:=by
  intro i o ho e hem hb
  unfold E8 at he
  rw[List.all_eq_true]at he
  have:=he (o,i) (CF.2 ho)
  simp only[List.all_eq_true]at this
  have:=this e hem
  rw[hb]at this
  exact Aq.1 (by simpa using this)
 refine⟨fun i o j ho hB=>?_,back⟩
 obtain⟨b,hb1,hb2⟩:=KE.1 hB
 have:=Oc all [] i o ho
 rw[← hbs]at this
 simp only[List.length_nil,Nat.zero_add]at this
 rw[this]at hb1
 cases hb1
 rcases (Gb _ j _ _).1 hb2 with h|⟨e,hem,hbe,hor⟩
 ·simp at h
 ·refine⟨e,hem,hbe,hor.imp id fun h=>?_⟩
  have hlt:=back i o ho e hem hbe
  rw[List.getElem?_take,if_pos hlt]at h
  cases hq:bs[e.on]? with
  |none=>rw[hq]at h;simp at h
  |some c=>rw[hq]at h;exact KE.2 ⟨c,hq,h⟩
theorem VM(hbs:bs=Bu [] all)(he:E8 all=true):∀ j i,isB bs i j=true→i<j:=by
 have E:=Kt hbs he
 intro j
 induction j using Nat.strongRecOn with
 |_ j ih=>
  intro i hB
  have hj:j<all.length:=by
   obtain⟨b,hb1,_⟩:=KE.1 hB
   have:=(List.getElem?_eq_some_iff.1 hb1).1
   rw[hbs,Ht]at this
   simpa using this
  obtain⟨e,hem,hbe,hor⟩:=E.dec j _ i (List.getElem?_eq_getElem hj) hB
  have hlt:=E.back j _ (List.getElem?_eq_getElem hj) e hem hbe
  rcases hor with rfl|h
  ·exact hlt
  ·have:=ih e.on hlt i h;omega
theorem N2{i j:Nat}(h:isB bs (A3 i j) (i+j - A3 i j)=true):isB bs i j=true∨isB bs j i=true:=by
 rw[A0]at h
 rcases Nat.le_total i j with h1|h1
 ·rw[Nat.min_eq_left h1,show i+j - i=j by omega]at h;exact .inl h
 ·rw[Nat.min_eq_right h1,show i+j - j=i by omega]at h;exact .inr h
theorem N1{i j:Nat}(h1:isB bs i j≠true)(h2:isB bs j i≠true):isB bs (A3 i j) (i+j - A3 i j)=false:=by
 cases h:isB bs (A3 i j) (i+j - A3 i j)with
 |false=>rfl
 |true=>
  rcases N2 h with h|h
  ·exact absurd h h1
  ·exact absurd h h2
theorem RA(hs:GI all bs=true){i j:Nat}{oi oj:Oper}{d:Nat}(hij:i≠j)(hi:all[i]? =some oi)(hj:all[j]? =some oj)(hd:oi.dst=some d)
  (hn:oj.dst=some d∨.tmp d∈oj.op.operands.toList∨∃ g w og,oj.guard=some (g,w)∧all[g]? =some og∧og.dst=some d):isB bs i j=true∨isB bs j i=true:=by
 unfold GI at hs
 rw[List.all_eq_true]at hs
 have h1:=hs (oi,i) (CF.2 hi)
 simp only[hd,List.all_eq_true]at h1
 have h2:=h1 (oj,j) (CF.2 hj)
 simp only[Bool.or_eq_true,Bool.not_eq_true']at h2
 rcases h2 with (h2|h2)|h2
 ·exact absurd (Ae.1 h2) hij
 ·exact N2 h2
 ·exfalso
  have:memN d (oj.dst.toList++KX all oj)=true:=by
   rw[C0,List.mem_append]
   rcases hn with h|h|⟨g,w,og,h,h3,h4⟩
   ·left;rw[h];simp
   ·right
    unfold KX
    rw[List.mem_append];left
    rw[List.mem_filterMap]
    exact⟨_,h,rfl⟩
   ·right
    unfold KX
    rw[List.mem_append];right
    rw[h]
    simp only[DU,h3,h4];simp
  rw[this]at h2;cases h2
structure Held (ty:TTy)(all:List Oper)(xs:List Operand)(i j:Nat)(oi oj:Oper):Prop where
 ww:∀ x y,kd ty oi.op=.w x→kd ty oj.op≠.w y
 wq:∀ x,kd ty oi.op=.w x→kd ty oj.op≠.q
 qw:∀ y,kd ty oi.op=.q→kd ty oj.op≠.w y
 wr:∀ x y,kd ty oi.op=.w x→kd ty oj.op=.r y→x∈xs∧∃ t,x=.tmp t∧∀ k o,i≤k→k<j→all[k]? =some o→o.dst≠some t
 rw':∀ x y,kd ty oi.op=.r x→kd ty oj.op=.w y→x∈xs∧∃ t,x=.tmp t∧∀ k o,i≤k→k<j→all[k]? =some o→o.dst≠some t
theorem Dg{j i:Nat}{x:Operand}{rest:Option (List Operand)}{xs:List Operand}(h:LA all j x i rest=some xs):
  ∃ ys,rest=some ys∧xs=x::ys∧∃ t,x=.tmp t∧∀ k o,i≤k→k<j→all[k]? =some o→o.dst≠some t:=by
 unfold LA at h
 split at h
 ·rename_i t
  split at h
  ·cases h
  ·rename_i hany
   split at h
   ·rename_i ys
    cases h
    refine⟨ys,rfl,rfl,t,rfl,fun k o h1 h2 ho hd=>?_⟩
    rw[List.any_eq_false]at hany
    refine hany (o,k) (CF.2 ho) ?_
    have e1:Nat.ble i k=true:=Ar.2 h1
    have e2:Nat.blt k j=true:=Aq.2 h2
    simp only[e1,e2,Bool.true_and]
    rw[C0,hd];simp
   ·cases h
 ·cases h
theorem JL{a b t:Nat}(h:Ft all a b t=[]):∀ k o,a≤k→k<b→all[k]? =some o→o.dst≠some t:=fun k o h1 h2 ho hd=>by
 have hm:(o,k)∈Ft all a b t:=by
  unfold Ft
  rw[List.mem_filter]
  refine⟨CF.2 ho,?_⟩
  have e1:Nat.ble a k=true:=Ar.2 h1
  have e2:Nat.blt k b=true:=Aq.2 h2
  simp only[e1,e2,Bool.true_and]
  rw[C0,hd];simp
 rw[h]at hm;cases hm
theorem Og{a b t:Nat}{p:Oper×Nat}(h:Ft all a b t=[p]):(all[p.2]? =some p.1∧a≤p.2∧p.2<b∧p.1.dst=some t)∧∀ k o,a≤k→k<b→all[k]? =some o→o.dst=some t→k=p.2:=by
 have hall:∀ q,q∈Ft all a b t↔q∈all.zipIdx∧(Nat.ble a q.2 && (Nat.blt q.2 b && memN t q.1.dst.toList))=true:=fun q=>by
  unfold Ft
  rw[List.mem_filter]
 constructor
 ·have:=(hall p).1 (by rw[h];exact List.mem_cons_self)
  obtain⟨q1,q2⟩:=this
  simp only[Bool.and_eq_true]at q2
  refine⟨CF.1 q1,Ar.1 q2.1,Aq.1 q2.2.1,?_⟩
  have:=C0.1 q2.2.2
  cases hd:p.1.dst with
  |none=>rw[hd]at this;cases this
  |some d=>rw[hd]at this;simp at this;rw[this]
 ·intro k o h1 h2 ho hd
  have hm:(o,k)∈Ft all a b t:=(hall _).2 ⟨CF.2 ho,by
   have e1:Nat.ble a k=true:=Ar.2 h1
   have e2:Nat.blt k b=true:=Aq.2 h2
   simp only[e1,e2,Bool.true_and]
   rw[C0,hd];simp⟩
  rw[h]at hm
  have:=List.mem_singleton.1 hm
  rw[← this]
inductive Apart (all:List Oper)(ys:List Operand)(j i:Nat)(x:Operand):Prop
 |ahead {t:Nat} (h:i<j) (hx:x=.tmp t) (hm:Operand.tmp t∈ys) (hw:∀ k o,i≤k→k<j→all[k]? =some o→o.dst≠some t)
 |same {t:Nat} (h:j<i) (hx:x=.tmp t) (hm:Operand.tmp t∈ys) (hw:∀ k o,j≤k→k<i→all[k]? =some o→o.dst≠some t)
 |field {t k s n:Nat} {tt:TypeId} {o:Oper} (h:j<i) (hx:x=.tmp t) (h1:j≤k) (h2:k<i) (ho:all[k]? =some o) (hd:o.dst=some t)
  (hu:∀ m o',j≤m→m<i→all[m]? =some o'→o'.dst=some t→m=k) (hop:o.op=.fieldAddr tt (.tmp s) n) (hm:Operand.tmp s∈ys) (hw:∀ m o',j≤m→m<k→all[m]? =some o'→o'.dst≠some s)
theorem Apart.cons{ys:List Operand}{j i:Nat}{x y:Operand}(h:Apart all ys j i x):Apart all (y::ys) j i x:=by
 cases h with
 |ahead h hx hm hw=>exact .ahead h hx (List.mem_cons_of_mem _ hm) hw
 |same h hx hm hw=>exact .same h hx (List.mem_cons_of_mem _ hm) hw
 |field h hx h1 h2 ho hd hu hop hm hw=>exact .field h hx h1 h2 ho hd hu hop (List.mem_cons_of_mem _ hm) hw
theorem Ou{j i:Nat}{x:Operand}{rest:Option (List Operand)}{xs:List Operand}(h:IU all j i x rest=some xs)(hij:j<i):∃ ys y,rest=some ys∧xs=y::ys∧Apart all xs j i x:=by
 unfold IU at h
 split at h
 ·rename_i t
  split at h
  ·cases h
  ·rename_i ys
   split at h
   ·rename_i hn
    cases h
    exact⟨ys,_,rfl,rfl,.same hij rfl List.mem_cons_self (JL hn)⟩
   ·rename_i p l hl
    split at h
    ·split at h
     ·rename_i y n hop
      split at h
      ·rename_i s
       split at h
       ·rename_i hn
        cases h
        obtain⟨⟨q1,q2,q3,q4⟩,q5⟩:=Og hl
        exact⟨ys,_,rfl,rfl,.field hij rfl q2 q3 q1 q4 q5 hop List.mem_cons_self (JL hn)⟩
       ·cases h
      ·cases h
     ·cases h
    ·cases h
 ·cases h
theorem My{j i:Nat}{x:Operand}{rest:Option (List Operand)}{xs:List Operand}(h:IU all j i x rest=some xs):∃ ys y,rest=some ys∧xs=y::ys∧True:=by
 unfold IU at h
 split at h
 ·split at h
  ·cases h
  ·split at h
   ·cases h;exact⟨_,_,rfl,rfl,trivial⟩
   ·split at h
    ·split at h
     ·split at h
      ·split at h
       ·cases h;exact⟨_,_,rfl,rfl,trivial⟩
       ·cases h
      ·cases h
     ·cases h
    ·cases h
 ·cases h
theorem Er{j:Nat}:∀ {l:List (Oper×Nat)} {ys:List Operand},qHeld ty all bs j l=some ys→∀ oi i x,(oi,i)∈l→i≠j→isB bs (A3 i j) (i+j - A3 i j)=false→kd ty oi.op=.r x→Apart all ys j i x
 |[],ys,_,oi,i,x,hm,_,_,_=>by cases hm
 |(o,k)::l,ys,h,oi,i,x,hm,hij,hB,hk=>by
  unfold qHeld at h
  rcases List.mem_cons.1 hm with he|hm
  ·obtain⟨e1,e2⟩:=Prod.mk.inj he
   subst e1
   subst e2
   have hb:Nat.beq i j=false:=by
    cases hb:Nat.beq i j with
    |false=>rfl
    |true=>exact absurd (Ae.1 hb) hij
   rw[hb,hB]at h
   simp only[Bool.not_false,Bool.true_and,hk]at h
   split at h
   ·rename_i hlt
    obtain⟨zs,_,rfl,t,ht,hw⟩:=Dg h
    exact .ahead (Aq.1 hlt) ht (by rw[ht];exact List.mem_cons_self) hw
   ·rename_i hlt
    obtain⟨_,_,_,_,h1⟩:=Ou h (by
     have:¬ i<j:=fun h=>by rw[Aq.2 h]at hlt;cases hlt
     omega)
    exact h1
  ·split at h
   ·exact Er h oi i x hm hij hB hk
   ·split at h
    ·split at h
     ·obtain⟨zs,h1,rfl,_⟩:=Dg h
      exact(Er h1 oi i x hm hij hB hk).cons
     ·rename_i hne _ _ _ _ hlt
      obtain⟨zs,y,h1,rfl,_⟩:=My h
      exact(Er h1 oi i x hm hij hB hk).cons
    ·exact Er h oi i x hm hij hB hk
theorem Cd{j:Nat}{oj:Oper}:∀ {l:List (Oper×Nat)} {xs:List Operand},apart ty all bs j oj l=some xs→∀ oi i,(oi,i)∈l→i<j→isB bs i j=false→Held ty all xs i j oi oj
 |[],xs,_,oi,i,hm,_,_=>by cases hm
 |(o,k)::l,xs,h,oi,i,hm,hij,hB=>by
  unfold apart at h
  have mono:∀ {ys:List Operand} {x:Operand},Held ty all ys i j oi oj→Held ty all (x::ys) i j oi oj:=fun h=>
   {h with wr:=fun a b h1 h2=>(h.wr a b h1 h2).imp (List.mem_cons_of_mem _) id,rw':=fun a b h1 h2=>(h.rw' a b h1 h2).imp (List.mem_cons_of_mem _) id}
  rcases List.mem_cons.1 hm with he|hm
  ·obtain⟨e1,e2⟩:=Prod.mk.inj he
   subst e1
   subst e2
   have hc:(Nat.blt i j && !isB bs i j)=true:=by rw[hB,Aq.2 hij];rfl
   rw[hc]at h
   simp only at h
   unfold P8 at h
   split at h
   ·rename_i hk
    exact⟨(fun x y h1=>by rw[hk]at h1;cases h1),(fun x h1=>by rw[hk]at h1;cases h1),(fun y h1=>by rw[hk]at h1;cases h1),(fun x y h1=>by rw[hk]at h1;cases h1),(fun x y h1=>by rw[hk]at h1;cases h1)⟩
   ·rename_i hk _
    exact⟨(fun x y _ h1=>by rw[hk]at h1;cases h1),(fun x _ h1=>by rw[hk]at h1;cases h1),(fun y _ h1=>by rw[hk]at h1;cases h1),(fun x y _ h1=>by rw[hk]at h1;cases h1),(fun x y _ h1=>by rw[hk]at h1;cases h1)⟩
   ·cases h
   ·cases h
   ·cases h
   ·rename_i hk1 hk2
    obtain⟨ys,_,rfl,t,ht,hw⟩:=Dg h
    exact⟨(fun x y _ h1=>by rw[hk2]at h1;cases h1),(fun x _ h1=>by rw[hk2]at h1;cases h1),(fun y h1=>by rw[hk1]at h1;cases h1),(fun x y h1 _=>by rw[hk1]at h1;cases h1;exact⟨List.mem_cons_self,t,ht,hw⟩),(fun x y h1=>by rw[hk1]at h1;cases h1)⟩
   ·rename_i hk1 hk2
    obtain⟨ys,_,rfl,t,ht,hw⟩:=Dg h
    exact⟨(fun x y h1=>by rw[hk1]at h1;cases h1),(fun x h1=>by rw[hk1]at h1;cases h1),(fun y h1=>by rw[hk1]at h1;cases h1),(fun x y h1=>by rw[hk1]at h1;cases h1),(fun x y h1 _=>by rw[hk1]at h1;cases h1;exact⟨List.mem_cons_self,t,ht,hw⟩)⟩
   ·rename_i q1 q2 q3 q4 q5 q6 q7
    exact⟨fun x y h1 h2=>q3 x y h1 h2,fun x h1 h2=>q4 x h1 h2,fun y h1 h2=>q5 y h1 h2,fun x y h1 h2=>(q6 x y h1 h2).elim,fun x y h1 h2=>(q7 x y h1 h2).elim⟩
  ·split at h
   ·exact Cd h oi i hm hij hB
   ·unfold P8 at h
    split at h
    ·exact Cd h oi i hm hij hB
    ·exact Cd h oi i hm hij hB
    ·cases h
    ·cases h
    ·cases h
    ·obtain⟨ys,h1,rfl,_⟩:=Dg h
     exact mono (Cd h1 oi i hm hij hB)
    ·obtain⟨ys,h1,rfl,_⟩:=Dg h
     exact mono (Cd h1 oi i hm hij hB)
    ·exact Cd h oi i hm hij hB
theorem GB{j i:Nat}{o:Oper}{ask:Nat→Kd→Bool}(ho:all[i]? =some o)(hij:i≠j)(h1:isB bs i j≠true)(h2:isB bs j i≠true)(ha:ask i (kd ty o.op)=true):loose ty all bs j ask=true:=by
 unfold loose
 rw[List.any_eq_true]
 refine⟨(o,i),CF.2 ho,?_⟩
 have hb:Nat.beq i j=false:=by
  cases hb:Nat.beq i j with
  |false=>rfl
  |true=>exact absurd (Ae.1 hb) hij
 simp only[hb,Bool.not_false,Bool.true_and,N1 h1 h2,ha]
inductive AhIs (ty:TTy)(all:List Oper)(bs:List Nat)(j:Nat)(o:Oper)(xs:List Operand):Ahead→Prop
 |strong (hk:kd ty o.op=.q) (hs:strongQ ty all bs j=true):AhIs ty all bs j o xs (.quiet .strong)
 |weak (hk:kd ty o.op=.q) (hs:strongQ ty all bs j=false) (hp:apQ ty all bs j=false):AhIs ty all bs j o xs (.quiet .weak)
 |apart {ys:List Operand} (hk:kd ty o.op=.q) (hs:strongQ ty all bs j=false) (hq:qHeld ty all bs j all.zipIdx=some ys):AhIs ty all bs j o xs (.apart ys)
 |free (hk:kd ty o.op=.q) (hs:strongQ ty all bs j=false) (hl:looseQ ty all bs j=false):AhIs ty all bs j o xs (.quiet .free)
 |alloc (hk:kd ty o.op=.a):AhIs ty all bs j o xs (.quiet .strong)
 |read {x:Operand} (hk:kd ty o.op=.r x):AhIs ty all bs j o xs (chkOf (loose ty all bs j fun i k=>isQ k && !(strongQ ty all bs i || apQ ty all bs i)) x xs)
 |write {x:Operand} (hk:kd ty o.op=.w x):AhIs ty all bs j o xs (.wr x xs)
 |wfree {x:Operand} (hk:kd ty o.op=.w x) (hl:(loose ty all bs j fun _ k=>isR k)=false):AhIs ty all bs j o xs (.quiet .free)
 |plain (hk:kd ty o.op=.p):AhIs ty all bs j o xs .plain
theorem MS{j:Nat}{o:Oper}{ah:Ahead}(h:HT ty all bs j o=some ah):∃ xs,apart ty all bs j o all.zipIdx=some xs∧AhIs ty all bs j o xs ah:=by
 unfold HT at h
 split at h
 ·cases h
 ·rename_i xs hx
  refine⟨xs,hx,?_⟩
  split at h
  ·rename_i hk
   split at h
   ·rename_i hs;cases h;exact .strong hk hs
   ·rename_i hs _
    split at h
    ·split at h
     ·rename_i hq;cases h;exact .apart hk hs hq
     ·rename_i hq;cases h;exact .weak hk hs (by unfold apQ;rw[hq];cases KH<;>rfl)
    ·rename_i hd;cases h;exact .weak hk hs (by unfold apQ;rw[(Bool.or_eq_false_iff.1 hd).2];rfl)
   ·rename_i hs hl;cases h;exact .free hk hs hl
  ·rename_i hk;cases h;exact .alloc hk
  ·rename_i hk;cases h;exact .read hk
  ·rename_i hk
   split at h
   ·cases h;exact .write hk
   ·rename_i hl;cases h;exact .wfree hk hl
  ·rename_i q1 q2 q3 q4
   cases h
   refine .plain ?_
   cases hk:kd ty o.op with
   |p=>rfl
   |a=>exact absurd hk q2
   |r x=>exact absurd hk (q3 x)
   |w x=>exact absurd hk (q4 x)
   |q=>exact absurd hk q1
theorem JF:∀ {l:List Oper} {j:Nat} {ahs:List Ahead},Jx ty all bs j l=some ahs→∀ k o,l[k]? =some o→HT ty all bs (j+k) o=some (ahs.getD k .plain)
 |[],j,ahs,h,k,o,hk=>by cases hk
 |o'::l,j,ahs,h,k,o,hk=>by
  unfold Jx at h
  split at h
  ·rename_i a ha
   split at h
   ·rename_i r hr
    cases h
    cases k with
    |zero=>cases hk;exact ha
    |succ k=>
     have:=JF hr k o hk
     have e:j+(k+1)=j.succ+k:=by omega
     rw[e];exact this
   ·cases h
  ·cases h
theorem H0{old:Bool}{x:Operand}{xs:List Operand}:(chkOf old x xs=.plain∧old=false∧xs=[])∨chkOf old x xs=.chk old x xs:=by
 unfold chkOf
 cases old<;>cases xs<;>first|exact .inl ⟨rfl,rfl,rfl⟩|exact .inr rfl
theorem AhIs.ok{j:Nat}{o:Oper}{xs:List Operand}{ah:Ahead}(h:AhIs ty all bs j o xs ah):AhOk ty o ah:=by
 cases h with
 |strong hk _=>exact⟨(fun _ _ h=>by rw[hk]at h;rcases h with h|⟨_,h⟩<;>cases h),(fun _ _ h=>by cases h),(fun _ _ _ h=>by cases h),(fun _ h=>by cases h)⟩
 |weak hk _ _=>exact⟨(fun _ _ h=>by rw[hk]at h;rcases h with h|⟨_,h⟩<;>cases h),(fun _ _ h=>by cases h),(fun _ _ _ h=>by cases h),(fun _ h=>by cases h)⟩
 |apart hk _ _=>exact⟨(fun _ h=>by cases h),(fun _ _ h=>by cases h),(fun _ _ _ h=>by cases h),(fun _ _=>hk)⟩
 |free hk _ _=>exact⟨(fun _ _ h=>by rw[hk]at h;rcases h with h|⟨_,h⟩<;>cases h),(fun _ _ h=>by cases h),(fun _ _ _ h=>by cases h),(fun _ h=>by cases h)⟩
 |alloc hk=>exact⟨(fun _ _ h=>by rw[hk]at h;rcases h with h|⟨_,h⟩<;>cases h),(fun _ _ h=>by cases h),(fun _ _ _ h=>by cases h),(fun _ h=>by cases h)⟩
 |read hk=>
  rcases H0 (old:=loose ty all bs j fun i k=>isQ k && !(strongQ ty all bs i || apQ ty all bs i)) (xs:=xs)with ⟨h,_⟩|h
  ·rw[h];exact .plain ty o
  ·rw[h];exact⟨(fun _ h=>by cases h),(fun _ _ h=>by cases h),(fun _ _ _ h=>by cases h;exact hk),(fun _ h=>by cases h)⟩
 |write hk=>exact⟨(fun _ h=>by cases h),(fun _ _ h=>by cases h;exact hk),(fun _ _ _ h=>by cases h),(fun _ h=>by cases h)⟩
 |wfree hk _=>exact⟨(fun _ _ h=>by rw[hk]at h;rcases h with h|⟨_,h⟩<;>cases h),(fun _ _ h=>by cases h),(fun _ _ _ h=>by cases h),(fun _ h=>by cases h)⟩
 |plain hk=>exact .plain ty o
theorem AhIs.tame{j:Nat}{o:Oper}{xs:List Operand}{ah:Ahead}(h:AhIs ty all bs j o xs ah):Tame ty o ah:=by
 cases h with
 |read hk=>exact .inl (.inr ⟨_,hk⟩)
 |plain hk=>exact .inl (.inl hk)
 |_=>exact .inr ⟨(fun h=>by cases h),(fun _ _ _ h=>by cases h)⟩
end
end
noncomputable section
open Go
section
variable {P:Program}{ty:TTy}{N:Nat}{all:List Oper}{ρ:Nat→Rho}{H:Nat→Hp}{V:Nat→Value}{T:Nat→Nat→Prop}{run:Nat→Bool}{ahs:List Ahead}{bs:List Nat}
theorem G9(hah:∀ j o,all[j]? =some o→∃ xs,apart ty all bs j o all.zipIdx=some xs∧AhIs ty all bs j o xs (ahs.getD j .plain))(tr:Tr P ty all ahs all ρ H V run T){j:Nat}(hj:j<all.length):
  (H (j+1)).low≤(H j).low∧(H j).high≤(H (j+1)).high∧(∀ c,T j c→(H (j+1)).low≤c∧c≤(H (j+1)).high)∧(H (j+1)).mark=(H j).mark:=by
 have ho:all[j]? =some all[j]:=List.getElem?_eq_getElem hj
 obtain⟨xs,_,ha⟩:=hah j _ ho
 rcases (tr.sf j _ ho).core with ⟨_,core⟩|⟨_,_,hh,hT⟩
 ·exact core.tame ha.tame
 ·rw[hh];exact⟨Nat.le_refl _,Nat.le_refl _,fun c hc=>absurd hc (hT c),rfl⟩
theorem CC(hah:∀ j o,all[j]? =some o→∃ xs,apart ty all bs j o all.zipIdx=some xs∧AhIs ty all bs j o xs (ahs.getD j .plain))(tr:Tr P ty all ahs all ρ H V run T){i:Nat}:
  ∀ {k:Nat},i≤k→k≤all.length→(H k).low≤(H i).low∧(H i).high≤(H k).high∧(H k).mark=(H i).mark:=by
 intro k h hk
 induction k with
 |zero=>have:i=0:=Nat.le_zero.1 h;subst this;exact⟨Nat.le_refl _,Nat.le_refl _,rfl⟩
 |succ k ih=>
  rcases Nat.lt_or_ge k i with h2|h2
  ·have:i=k+1:=by omega
   subst this;exact⟨Nat.le_refl _,Nat.le_refl _,rfl⟩
  ·obtain⟨a1,a2,a3⟩:=ih h2 (by omega)
   obtain⟨b1,b2,_,b3⟩:=G9 hah tr (j:=k) (by omega)
   exact⟨Nat.le_trans b1 a1,Nat.le_trans a2 b2,b3.trans a3⟩
theorem Dc(tr:Tr P ty all ahs all ρ H V run T){t:Nat}{u:Value}{i k:Nat}(h:i≤k)(hk:k≤all.length)(hs:∀ m o,i≤m→m<k→all[m]? =some o→o.dst≠some t)(hu:evR (ρ k) (.tmp t)=some u):evR (ρ i) (.tmp t)=some u:=
 tr.backward h hk hs hu
theorem SG(hbs:bs=Bu [] all)(he:E8 all=true)(hs:GI all bs=true)
  (hah:∀ j o,all[j]? =some o→∃ xs,apart ty all bs j o all.zipIdx=some xs∧AhIs ty all bs j o xs (ahs.getD j .plain))(tr:Tr P ty all ahs all ρ H V run T):
  Laws ty all ρ H T (fun i j=>isB bs i j=true):=by
 have len:∀ {i:Nat} {o:Oper},all[i]? =some o→i<all.length:=fun h=>(List.getElem?_eq_some_iff.1 h).1
 have coreOf:∀ j oj c,all[j]? =some oj→T j c→Core P ty oj (ahs.getD j .plain) (ρ j) (H j) (H (j+1)) (V j) (T j):=by
  intro j oj c hj hc
  rcases (tr.sf j oj hj).core with ⟨_,core⟩|⟨_,_,_,hT⟩
  ·exact core
  ·exact absurd hc (hT c)
 have kinds:∀ j oj c,all[j]? =some oj→T j c→(∃ x,kd ty oj.op=.w x)∨(kd ty oj.op=.q∧strongQ ty all bs j=false):=by
  intro j oj c hj hc
  have core:=coreOf j oj c hj hc
  obtain⟨xs,_,ha⟩:=hah j oj hj
  generalize ahs.getD j .plain=ah at ha core
  cases ha with
  |strong hk _=>exact absurd hc (core.strong rfl c)
  |weak hk h _=>exact .inr ⟨hk,h⟩
  |apart hk h _=>exact .inr ⟨hk,h⟩
  |free hk h _=>exact .inr ⟨hk,h⟩
  |alloc hk=>exact absurd hc (core.strong rfl c)
  |read hk=>exact absurd hc ((core.tp (.inr ⟨_,hk⟩)).1 c)
  |write hk=>exact .inl ⟨_,hk⟩
  |wfree hk _=>exact .inl ⟨_,hk⟩
  |plain hk=>exact absurd hc ((core.tp (.inl hk)).1 c)
 have held:∀ {i j oi oj},all[i]? =some oi→all[j]? =some oj→i<j→¬ isB bs i j=true→∃ xs,AhIs ty all bs j oj xs (ahs.getD j .plain)∧Held ty all xs i j oi oj:=by
  intro i j oi oj hi hj hij hB
  obtain⟨xs,hx,ha⟩:=hah j oj hj
  exact⟨xs,ha,Cd hx oi i (CF.2 hi) hij (by cases h:isB bs i j<;>first|rfl|exact absurd h hB)⟩
 refine {lt:=fun i j h=>VM hbs he j i h,slots:=fun i j oi oj d hij hi hj hd hn=>RA hs hij hi hj hd hn,kinds:=fun j oj c hj hc=>(kinds j oj c hj hc).imp id (·.1),fixed:=?_,reads:=?_,tlt:=?_,tout:=?_,low:=?_,high:=?_}
 ·
  intro i j oi c hij hi hjn hc hki
  have hj:all[j]? =some all[j]:=List.getElem?_eq_getElem hjn
  by_cases h1:isB bs i j=true
  ·exact .inl h1
  by_cases h2:isB bs j i=true
  ·exact .inr h2
  exfalso
  have hQQ:∀ {i j:Nat} {oi:Oper},all[i]? =some oi→i≠j→¬ isB bs i j=true→¬ isB bs j i=true→kd ty oi.op=.q→strongQ ty all bs j=true:=fun hi hij h1 h2 hk=>by
   unfold strongQ
   exact GB hi hij h1 h2 (by rw[hk];rfl)
  rcases kinds j _ c hj hc with ⟨xj,hkj⟩|⟨hkj,hns⟩
  ·rcases Nat.lt_or_gt_of_ne hij with h|h
   ·obtain⟨xs,_,hh⟩:=held hi hj h h1
    rcases hki with ⟨x,hki⟩|hki
    ·exact hh.ww x xj hki hkj
    ·exact hh.qw xj hki hkj
   ·obtain⟨xs,_,hh⟩:=held hj hi h h2
    rcases hki with ⟨x,hki⟩|hki
    ·exact hh.ww xj x hkj hki
    ·exact hh.wq xj hkj hki
  ·rcases hki with ⟨x,hki⟩|hki
   ·rcases Nat.lt_or_gt_of_ne hij with h|h
    ·obtain⟨xs,_,hh⟩:=held hi hj h h1
     exact hh.wq x hki hkj
    ·obtain⟨xs,_,hh⟩:=held hj hi h h2
     exact hh.qw x hkj hki
   ·rw[hQQ hi hij h1 h2 hki]at hns;cases hns
 ·
  intro i j oi x c u hij hi hjn hc hki hu hb
  have hj:all[j]? =some all[j]:=List.getElem?_eq_getElem hjn
  by_cases h1:isB bs i j=true
  ·exact .inl h1
  by_cases h2:isB bs j i=true
  ·exact .inr h2
  exfalso
  have core:=coreOf j _ c hj hc
  have hin:=len hi
  have si:=(tr.sf i oi hi).side (by rw[hki];intro h;cases h)
  rcases kinds j _ c hj hc with ⟨xj,hkj⟩|⟨hkj,hns⟩
  ·
   have hah_j:∃ xs,ahs.getD j .plain=.wr xj xs∧apart ty all bs j all[j] all.zipIdx=some xs:=by
    obtain⟨xs,hx,ha⟩:=hah j _ hj
    generalize ahs.getD j .plain=ah at ha
    cases ha with
    |write hk=>rw[hkj]at hk;cases hk;exact⟨xs,rfl,hx⟩
    |wfree hk hl=>
     have:=GB (ty:=ty) (ask:=fun _ k=>isR k) hi hij h1 h2 (by simp only[hki];rfl)
     rw[hl]at this;cases this
    |strong hk _=>rw[hkj]at hk;cases hk
    |weak hk _ _=>rw[hkj]at hk;cases hk
    |apart hk _ _=>rw[hkj]at hk;cases hk
    |free hk _ _=>rw[hkj]at hk;cases hk
    |alloc hk=>rw[hkj]at hk;cases hk
    |read hk=>rw[hkj]at hk;cases hk
    |plain hk=>rw[hkj]at hk;cases hk
   obtain⟨xsj,hej,hxj⟩:=hah_j
   obtain⟨u',hu',hb'⟩:=core.wr xj xsj hej c hc
   have sj:=(tr.sf j _ hj).side (by rw[hkj];intro h;cases h)
   rcases Nat.lt_or_gt_of_ne hij with h|h
   ·
    have hh:=Cd hxj oi i (CF.2 hi) h (by cases h:isB bs i j<;>first|rfl|exact absurd h h1)
    obtain⟨hm,t,rfl,hw⟩:=hh.rw' x xj hki hkj
    obtain⟨_,hkn⟩:=sj.known xj xsj (.inl hej)
    obtain⟨u2,hu2⟩:=hkn _ hm
    have hback:=Dc tr (Nat.le_of_lt h) (Nat.le_of_lt hjn) (fun m o a1 a2 a3=>hw m o a1 a2 a3) hu2
    rw[hu]at hback;cases hback
    exact sj.wrx xj xsj hej _ hm u' u c hu' hu2 hb' hb
   ·
    obtain⟨xs,ha,hh⟩:=held hj hi h h2
    obtain⟨hm,t,rfl,hw⟩:=hh.wr xj x hkj hki
    have hchk:∃ old,ahs.getD i .plain=.chk old x xs:=by
     generalize ahs.getD i .plain=ah at ha
     cases ha with
     |read hk=>
      rw[hki]at hk;cases hk
      rcases H0 (x:=x) (old:=loose ty all bs i fun i k=>isQ k && !(strongQ ty all bs i || apQ ty all bs i)) (xs:=xs)with ⟨_,_,h⟩|h
      ·subst h;cases hm
      ·exact⟨_,h⟩
     |strong hk _=>rw[hki]at hk;cases hk
     |weak hk _ _=>rw[hki]at hk;cases hk
     |apart hk _ _=>rw[hki]at hk;cases hk
     |free hk _ _=>rw[hki]at hk;cases hk
     |alloc hk=>rw[hki]at hk;cases hk
     |write hk=>rw[hki]at hk;cases hk
     |wfree hk _=>rw[hki]at hk;cases hk
     |plain hk=>rw[hki]at hk;cases hk
    obtain⟨old,hei⟩:=hchk
    obtain⟨_,hkn⟩:=si.known x xs (.inr ⟨old,hei⟩)
    obtain⟨u2,hu2⟩:=hkn _ hm
    have hback:=Dc tr (Nat.le_of_lt h) (Nat.le_of_lt hin) (fun m o a1 a2 a3=>hw m o a1 a2 a3) hu2
    rw[hu']at hback;cases hback
    exact si.chk old x xs hei _ hm u u' c hu hu2 hb hb'
  ·
   by_cases hapt:∃ ys,ahs.getD j .plain=.apart ys
   ·obtain⟨ys,hej⟩:=hapt
    obtain⟨xs,hx,ha⟩:=hah j _ hj
    generalize hg:ahs.getD j .plain=ah at ha
    have hej':ah=.apart ys:=hg.symm.trans hej
    cases ha with
    |read hk=>rw[hkj]at hk;cases hk
    |strong _ _=>cases hej'
    |weak _ _ _=>cases hej'
    |free _ _ _=>cases hej'
    |alloc _=>cases hej'
    |write _=>cases hej'
    |wfree _ _=>cases hej'
    |plain _=>cases hej'
    |apart hk _ hq=>
     cases hej'
     cases Er hq oi i x (CF.2 hi) hij (N1 h1 h2) hki with
     |ahead hlt hx' hm hw=>
      subst hx'
      have sj:=(tr.sf j _ hj).side (by rw[hkj];intro h;cases h)
      obtain⟨u2,hu2⟩:=sj.knownA ys hej _ hm
      have hback:=Dc tr (Nat.le_of_lt hlt) (Nat.le_of_lt hjn) (fun m o a1 a2 a3=>hw m o a1 a2 a3) hu2
      rw[hu]at hback;cases hback
      exact core.apart ys hej c hc _ hm _ hu2 hb
     |same hlt hx' hm hw=>
      subst hx'
      exact core.apart ys hej c hc _ hm _ (Dc tr (Nat.le_of_lt hlt) (Nat.le_of_lt hin) (fun m o a1 a2 a3=>hw m o a1 a2 a3) hu) hb
     |@field t k s n tt o hlt hx' k1 k2 ho hd hun hop hm hw=>
      subst hx'
      have hu1:=Dc tr (i:=k+1) (by omega) (Nat.le_of_lt hin) (fun m o' a1 a2 a3 a4=>by
       have:=hun m o' (by omega) a2 a3 a4
       omega) hu
      have hsl:=(tr.sf k o ho).slot t u hu1
      rw[hd,if_pos rfl]at hsl
      subst hsl
      rcases (tr.sf k o ho).core with ⟨_,ck⟩|⟨_,hv,_⟩
      ·obtain⟨us,e1,e2⟩:=ck.fad tt (.tmp s) n hop c hb
       exact core.apart ys hej c hc _ hm _ (Dc tr k1 (Nat.le_of_lt (len ho)) (fun m o' a1 a2 a3=>hw m o' a1 a2 a3) e1) e2
      ·rw[hv]at hb;cases hb
   have hwk:(∀ c,T j c→(H j).mark≤c)∧apQ ty all bs j=false:=by
    obtain⟨xs,hx,ha⟩:=hah j _ hj
    generalize ahs.getD j .plain=ah at ha core hapt
    cases ha with
    |weak hk _ hp=>exact⟨core.weak rfl,hp⟩
    |apart _ _ _=>exact absurd ⟨_,rfl⟩ hapt
    |free hk _ hl=>
     have:looseQ ty all bs j=true:=by
      unfold looseQ
      exact GB (ty:=ty) (ask:=fun _ k=> !isP k) hi hij h1 h2 (by simp only[hki];rfl)
     rw[hl]at this;cases this
    |strong hk h=>rw[hns]at h;cases h
    |alloc hk=>rw[hkj]at hk;cases hk
    |read hk=>rw[hkj]at hk;cases hk
    |write hk=>rw[hkj]at hk;cases hk
    |wfree hk _=>rw[hkj]at hk;cases hk
    |plain hk=>rw[hkj]at hk;cases hk
   have hold:∃ xs,ahs.getD i .plain=.chk true x xs:=by
    obtain⟨xs,hx,ha⟩:=hah i oi hi
    generalize ahs.getD i .plain=ah at ha
    cases ha with
    |read hk=>
     rw[hki]at hk;cases hk
     have hl:(loose ty all bs i fun i k=>isQ k && !(strongQ ty all bs i || apQ ty all bs i))=true:=
      GB hj (fun h=>hij h.symm) h2 h1 (by rw[hkj,hns,hwk.2];rfl)
     rw[hl]
     rcases H0 (x:=x) (old:=true) (xs:=xs)with ⟨_,h,_⟩|h
     ·cases h
     ·exact⟨xs,h⟩
    |strong hk _=>rw[hki]at hk;cases hk
    |weak hk _ _=>rw[hki]at hk;cases hk
    |apart hk _ _=>rw[hki]at hk;cases hk
    |free hk _ _=>rw[hki]at hk;cases hk
    |alloc hk=>rw[hki]at hk;cases hk
    |write hk=>rw[hki]at hk;cases hk
    |wfree hk _=>rw[hki]at hk;cases hk
    |plain hk=>rw[hki]at hk;cases hk
   obtain⟨xs,hei⟩:=hold
   have h3:=si.old x xs hei u c hu hb
   have h4:=hwk.1 c hc
   have m1:=(CC hah tr (Nat.zero_le i) (Nat.le_of_lt hin)).2.2
   have m2:=(CC hah tr (Nat.zero_le j) (Nat.le_of_lt hjn)).2.2
   omega
 ·intro j c hjn hc
  exact(coreOf j _ c (List.getElem?_eq_getElem hjn) hc).tlt c hc
 ·intro j c hjn hc
  obtain⟨_,_,h3,_⟩:=G9 hah tr hjn
  obtain⟨h4,h5⟩:=h3 c hc
  obtain⟨h6,h7,_⟩:=CC hah tr (i:=j+1) hjn (Nat.le_refl _)
  omega
 ·exact(CC hah tr (Nat.zero_le _) (Nat.le_refl _)).1
 ·exact(CC hah tr (Nat.zero_le _) (Nat.le_refl _)).2.1
theorem Pu(h:Nn ty all=some ahs):∃ bs,bs=Bu [] all∧E8 all=true∧GI all bs=true∧∀ j o,all[j]? =some o→∃ xs,apart ty all bs j o all.zipIdx=some xs∧AhIs ty all bs j o xs (ahs.getD j .plain):=by
 unfold Nn at h
 rw[Ni]at h
 split at h
 ·rename_i hc
  simp only[Bool.and_eq_true]at hc
  refine⟨_,rfl,hc.1,hc.2.2,fun j o ho=>?_⟩
  have:=JF h j o ho
  rw[Nat.zero_add]at this
  exact MS this
 ·cases h
end
end
noncomputable section
open Go
theorem Ai{a b:Bool}(h:(bif a then b else false)=true):a=true∧b=true:=by cases a<;>first|exact⟨rfl,h⟩|cases h
theorem Us{a b:Addr}(h:eqA a b=true):a=b:=by
 unfold eqA at h
 obtain⟨h1,h⟩:=Ai h
 obtain⟨h2,h⟩:=Ai h
 cases a with|mk b1 o1 s1=>cases b with|mk b2 o2 s2=>
 have e1:b1=b2:=Ae.1 h1
 have e2:o1=o2:=Ae.1 h2
 subst e1
 subst e2
 cases s1 with
 |some _=>cases h
 |none=>
  cases s2 with
  |some _=>cases h
  |none=>rfl
theorem Nr{a b:Option Addr}(h:Uu a b=true):a=b:=by
 cases a with
 |none=>cases b with
  |none=>rfl
  |some _=>cases h
 |some a=>cases b with
  |none=>cases h
  |some b=>rw[Us h]
theorem Gc{f:Value→Value→Bool}(hf:∀ a b,f a b=true→a=b):∀ {x y:List Value},eqL f x y=true→x=y
 |[],[],_=>rfl
 |[],_::_,h=>by cases h
 |_::_,[],h=>by cases h
 |a::x,b::y,h=>by
  obtain⟨h1,h2⟩:=Ai h
  rw[hf a b h1,Gc hf h2]
theorem Jz{x y:Array Value}(h:x.toList=y.toList):x=y:=by
 cases x;cases y;simp only at h;rw[h]
theorem Gd:∀ (n:Nat) (a b:Value),eqv n a b=true→a=b
 |0,_,_,h=>by cases h
 |n+1,a,b,h=>by
  have ih:=fun x y=>Gd n x y
  unfold eqv at h
  cases a<;>first|(cases h;done)|(cases b<;>first|(cases h;done)|skip)
  ·simp only[beq_iff_eq]at h;rw[h]
  ·obtain⟨h1,h2⟩:=Ai h
   rw[Ef]at h2
   rw[CM h1,eq_of_beq h2]
  ·rename_i x y
   have h:bEq x.data.toList y.data.toList=true:=h
   rw[GU]at h
   cases x with|mk x=>cases y with|mk y=>cases x with|mk x=>cases y with|mk y=>
   have h:=eq_of_beq h
   have h:x=y:=h
   rw[h]
  ·rw[Nr h]
  ·obtain⟨h1,h⟩:=Ai h
   obtain⟨h2,h⟩:=Ai h
   rw[Ae.1 h1,Ae.1 h2,Nr h]
  ·rename_i x y
   cases x with
   |none=>cases y with
    |none=>rfl
    |some _=>cases h
   |some x=>cases y with
    |none=>cases h
    |some y=>rw[Ae.1 h]
  ·rename_i f x u g y v
   cases f with
   |func f=>
    cases g with
    |func g=>
     obtain⟨h1,h⟩:=Ai h
     obtain⟨h2,h⟩:=Ai h
     rw[Ae.1 h1,Jz (Gc ih h2),Jz (Gc ih h)]
    |_=>cases h
   |_=>cases h
  ·rfl
  ·obtain⟨h1,h⟩:=Ai h
   rw[Ae.1 h1,ih _ _ h]
  ·rfl
  ·rw[Jz (Gc ih h)]
  ·rw[Jz (Gc ih h)]
theorem Mf:∀ {s t:VT},eqT s t=true→s=t
 |.mt,.mt,_=>rfl
 |.mt,.nd _ _ _,h=>by cases h
 |.nd _ _ _,.mt,h=>by cases h
 |.nd v l r,.nd u a b,h=>by
  obtain⟨h1,h⟩:=Ai h
  obtain⟨h2,h⟩:=Ai h
  rw[Gd _ _ _ h1,Mf h2,Mf h]
theorem Np:∀ {x y:List Ent},Ut x y=true→x=y
 |[],[],_=>rfl
 |[],_::_,h=>by cases h
 |_::_,[],h=>by cases h
 |⟨k,v,b⟩::x,⟨k',v',b'⟩::y,h=>by
  obtain⟨h1,h⟩:=Ai h
  obtain⟨h2,h⟩:=Ai h
  obtain⟨h3,h⟩:=Ai h
  have e1:=Gd _ _ _ h1
  have e2:=Gd _ _ _ h2
  have e3:=Ae.1 h3
  simp only at e1 e2 e3
  rw[e1,e2,e3,Np h]
theorem J7:∀ {x y:List Nat},Ry x y=true→x=y
 |[],[],_=>rfl
 |[],_::_,h=>by cases h
 |_::_,[],h=>by cases h
 |a::x,b::y,h=>by
  obtain⟨h1,h⟩:=Ai h
  rw[Ae.1 h1,J7 h]
theorem Py{a b:Blk}(h:eqB a b=true):a=b:=by
 unfold eqB at h
 cases a<;>cases b<;>first|(cases h;done)|skip
 ·obtain⟨h1,h⟩:=Ai h
  obtain⟨h2,h⟩:=Ai h
  rw[Ae.1 h1,Ae.1 h2,Mf h]
 ·obtain⟨h1,h⟩:=Ai h
  rw[Ae.1 h1,Np h]
 ·rename_i m s l t m' s' l' t'
  obtain⟨h1,h⟩:=Ai h
  obtain⟨h2,h⟩:=Ai h
  obtain⟨h3,h⟩:=Ai h
  rw[Ae.1 h1,Ae.1 h2,J7 h3]
  cases m with
  |none=>cases m' with
   |none=>rfl
   |some _=>cases h
  |some m=>cases m' with
   |none=>cases h
   |some m'=>rw[Ae.1 h]
 ·rfl
section
variable {q:Nat→Nat→Bool}{φ ψ:Phi}
theorem N3(hq:∀ i j,q i j=true→∀ p,φ i=some p→ψ j=some p){a b:Addr}(h:VN q a b=true):(∀ a',RelA φ a a'→RelA ψ b a')∧(∀ c a' c',RelS φ a c a' c'→RelS ψ b c a' c'):=by
 unfold VN at h
 obtain⟨h1,h⟩:=Ai h
 obtain⟨h2,h⟩:=Ai h
 cases a with|mk b1 o1 s1=>cases b with|mk b2 o2 s2=>
 have e2:o1=o2:=Ae.1 h2
 subst e2
 cases s1 with
 |some _=>cases h
 |none=>
  cases s2 with
  |some _=>cases h
  |none=>
   exact⟨fun a' ⟨x1,x2,p,hp,r⟩=>⟨rfl,x2,p,hq _ _ h1 p hp,r⟩,fun c a' c' ⟨x1,x2,p,hp,r⟩=>⟨rfl,x2,p,hq _ _ h1 p hp,r⟩⟩
theorem Eh{f:Value→Value→Bool}(hf:∀ a b,f a b=true→∀ v',RelV φ a v'→RelV ψ b v'):∀ {x y l:List Value},eqL f x y=true→RelL φ x l→RelL ψ y l
 |[],[],_,_,.nil=>.nil
 |[],_::_,_,h,_=>by cases h
 |_::_,[],_,h,_=>by cases h
 |a::x,b::y,_,h,.cons h1 h2=>by
  obtain⟨h3,h4⟩:=Ai h
  exact .cons (hf a b h3 _ h1) (Eh hf h4 h2)
theorem F6(hq:∀ i j,q i j=true→∀ p,φ i=some p→ψ j=some p):∀ (n:Nat) (a b:Value),IP q n a b=true→∀ v',RelV φ a v'→RelV ψ b v'
 |0,_,_,h,_,_=>by cases h
 |n+1,a,b,h,v',hv=>by
  have ih:=fun x y h v'=>F6 hq n x y h v'
  unfold IP at h
  cases a<;>first|(cases h;done)|(cases b<;>first|(cases h;done)|skip)
  ·simp only[beq_iff_eq]at h;rw[← h];cases hv;exact .bool _
  ·obtain⟨h1,h2⟩:=Ai h
   rw[Ef]at h2
   rw[CM h1,← eq_of_beq h2];cases hv;exact .int _ _
  ·rename_i x y
   have h:bEq x.data.toList y.data.toList=true:=h
   rw[GU]at h
   cases x with|mk x=>cases y with|mk y=>cases x with|mk x=>cases y with|mk y=>
   have h:=eq_of_beq h
   have h:x=y:=h
   rw[← h];cases hv;exact .string _
  ·rename_i x y
   cases x with
   |none=>cases y with
    |none=>cases hv;exact .ptr0
    |some _=>cases h
   |some x=>cases y with
    |none=>cases h
    |some y=>cases hv with|ptr hr=>exact .ptr ((N3 hq h).1 _ hr)
  ·rename_i x l c y m d
   obtain⟨h1,h⟩:=Ai h
   obtain⟨h2,h⟩:=Ai h
   rw[← Ae.1 h1,← Ae.1 h2]
   cases x with
   |none=>cases y with
    |none=>cases hv;exact .slice0
    |some _=>cases h
   |some x=>cases y with
    |none=>cases h
    |some y=>cases hv with|slice hn hr=>exact .slice hn ((N3 hq h).2 _ _ _ hr)
  ·rename_i x y
   cases x with
   |none=>cases y with
    |none=>cases hv;exact .map0
    |some _=>cases h
   |some x=>cases y with
    |none=>cases h
    |some y=>cases hv with|map hr=>exact .map (hq _ _ h _ hr)
  ·rename_i f x u g y v
   cases f with
   |func f=>
    cases g with
    |func g=>
     obtain⟨h1,h3⟩:=Ai h
     obtain⟨h2,h4⟩:=Ai h3
     rw[← Ae.1 h1]
     cases y with|mk y=>cases v with|mk v=>
     cases hv with|func _ r1 r2=>exact .func _ (Eh ih h2 r1) (Eh ih h4 r2)
    |_=>cases h
   |_=>cases h
  ·cases hv;exact .nilFunc
  ·obtain⟨h1,h⟩:=Ai h
   rw[← Ae.1 h1]
   cases hv with|iface _ r=>exact .iface _ (ih _ _ h _ r)
  ·cases hv;exact .nilIface
  ·rename_i x y
   cases y with|mk y=>
   cases hv with|agg r=>exact .agg (Eh ih h r)
  ·rename_i x y
   cases y with|mk y=>
   cases hv with|tuple r=>exact .tuple (Eh ih h r)
theorem IO:∀ {s t:VT},SC q s t=true→∀ j,IP q 8 (s.get j) (t.get j)=true
 |.mt,.mt,_,j=>by cases j<;>rfl
 |.mt,.nd _ _ _,h,_=>by cases h
 |.nd _ _ _,.mt,h,_=>by cases h
 |.nd v l r,.nd u a b,h,j=>by
  obtain⟨h1,h⟩:=Ai h
  obtain⟨h2,h⟩:=Ai h
  cases j with
  |zero=>exact h1
  |succ j=>
   rw[VT.get_nd_succ,VT.get_nd_succ]
   split
   ·exact IO h2 _
   ·exact IO h _
theorem Je(hq:∀ i j,q i j=true→∀ p,φ i=some p→ψ j=some p):∀ {x y:List Ent} {l:List MapEntry},QC q x y=true→RelE φ x l→RelE ψ y l
 |[],[],_,_,.nil=>.nil
 |[],_::_,_,h,_=>by cases h
 |_::_,[],_,h,_=>by cases h
 |⟨k,v,b⟩::x,⟨k',v',b'⟩::y,_,h,.cons hk hv t=>by
  obtain⟨h1,g1⟩:=Ai h
  obtain⟨h2,g2⟩:=Ai g1
  obtain⟨h3,g3⟩:=Ai g2
  have e3:b=b':=Ae.1 h3
  subst e3
  exact .cons (F6 hq _ _ _ h1 _ hk) (F6 hq _ _ _ h2 _ hv) (Je hq g3 t)
theorem LF{ty:TTy}(hq:∀ i j,q i j=true→∀ p,φ i=some p→ψ j=some p){a b:Blk}(h:Fb q a b=true){p:Pl}{o:Option Obj}(hr:RelB ty φ p a o):RelB ty ψ p b o:=by
 unfold Fb at h
 cases a<;>cases b<;>first|(cases h;done)|skip
 ·obtain⟨h1,h⟩:=Ai h
  obtain⟨h2,h⟩:=Ai h
  rw[← Ae.1 h1,← Ae.1 h2]
  cases hr with
  |cells R=>exact .cells {R with cell:=fun j hj=>let ⟨v,e,r⟩:=R.cell j hj;⟨v,e,F6 hq _ _ _ (IO h j) _ r⟩}
 ·obtain⟨h1,h⟩:=Ai h
  rw[← Ae.1 h1]
  cases hr with
  |map R=>exact .map (Je hq h R)
 ·rename_i m s l t m' s' l' t'
  obtain⟨h1,h⟩:=Ai h
  obtain⟨h2,h⟩:=Ai h
  obtain⟨h3,h⟩:=Ai h
  rw[← Ae.1 h1,← Ae.1 h2,← J7 h3]
  cases m with
  |none=>cases m' with
   |none=>cases hr with|iter0 hp=>exact .iter0 hp
   |some _=>cases h
  |some m=>cases m' with
   |none=>cases h
   |some m'=>cases hr with|iter hp hm=>exact .iter hp (hq _ _ h _ hm)
 ·exact .dead
theorem Mq{a b:Blk}(h:Fb q a b=true):ShapeLe a b:=by
 unfold Fb at h
 cases a<;>cases b<;>first|(cases h;done)|skip
 ·obtain⟨h1,h⟩:=Ai h
  obtain⟨h2,h⟩:=Ai h
  exact .inr ⟨Ae.1 h1,Ae.1 h2⟩
 ·exact .inr trivial
 ·exact .inr trivial
 ·exact .inl rfl
theorem Jd{a b:Blk}(h:Fb q a b=true)(hb:b≠.dead):a≠.dead:=by
 rintro rfl
 unfold Fb at h
 cases b<;>first|(cases h;done)|exact hb rfl
theorem IM{a:Blk}{c:VT}{s e:Nat}(h:Fb q a (.cells c s e)=true):∃ c',a=.cells c' s e:=by
 unfold Fb at h
 cases a<;>first|(cases h;done)|skip
 obtain⟨h1,h⟩:=Ai h
 obtain⟨h2,h⟩:=Ai h
 rw[Ae.1 h1,Ae.1 h2]
 exact⟨_,rfl⟩
end
theorem OG:∀ (l:List Nat) (n:Nat),VR n l=l[n]?
 |[],n=>by cases n<;>rfl
 |x::l,0=>rfl
 |x::l,n+1=>by rw[List.getElem?_cons_succ,← OG l n];rfl
theorem N8:∀ l:List Nat,VP l=l.length
 |[]=>rfl
 |_::l=>congrArg Nat.succ (N8 l)
theorem ML{f:Nat→Bool}:∀ {n i:Nat},RT f n i=true→∀ j,i≤j→j<i+n→f j=true
 |0,i,_,j,h1,h2=>by omega
 |n+1,i,h,j,h1,h2=>by
  obtain⟨h3,h4⟩:=Ai h
  by_cases hj:j=i
  ·rw[hj];exact h3
  ·exact ML h4 j (by have:Nat.succ i=i+1:=rfl;omega) (by have:Nat.succ i=i+1:=rfl;omega)
theorem LX{n:Nat}:∀ {l:List Nat},OE n l=true→n∉l
 |[],_=>List.not_mem_nil
 |x::l,h=>by
  unfold OE at h
  cases hb:Nat.beq x n with
  |true=>rw[hb]at h;cases h
  |false=>
   rw[hb]at h
   intro hm
   rcases List.mem_cons.1 hm with rfl|hm
   ·rw[Ae.2 rfl]at hb;cases hb
   ·exact LX h hm
theorem G4:∀ {l:List Nat},H6 l=true→l.Nodup
 |[],_=>List.nodup_nil
 |x::l,h=>by
  obtain⟨h1,h2⟩:=Ai h
  exact List.nodup_cons.2 ⟨LX h1,G4 h2⟩
theorem Nj{lo hi:Nat}:∀ {l:List Nat},Ui lo hi l=true→∀ x∈l,lo≤x∧x<hi
 |[],_,x,hx=>by cases hx
 |y::l,h,x,hx=>by
  obtain⟨h1,g⟩:=Ai h
  obtain⟨h2,h3⟩:=Ai g
  rcases List.mem_cons.1 hx with rfl|hx
  ·exact⟨Ar.1 h1,Aq.1 h2⟩
  ·exact Nj h3 x hx
theorem Jf{q:Nat→Nat→Bool}{t1 r:BT}:∀ {l:List Nat} {j:Nat},Mr q t1 r l j=true→∀ (n k:Nat),l[n]? =some k→Fb q (t1.get k) (r.get (j+n))=true
 |[],_,_,n,k,hn=>by cases n<;>cases hn
 |x::l,j,h,n,k,hn=>by
  obtain⟨h1,h2⟩:=Ai h
  cases n with
  |zero=>cases hn;exact h1
  |succ n=>
   have:=Jf h2 n k (by rw[List.getElem?_cons_succ]at hn;exact hn)
   rw[show j+(n+1)=Nat.succ j+n by have:Nat.succ j=j+1:=rfl;omega]
   exact this
theorem LW:∀ {l:List Nat} {a b k:Nat},l.Nodup→l[a]? =some k→l[b]? =some k→a=b
 |[],a,_,_,_,h,_=>by cases a<;>cases h
 |x::l,0,0,_,_,_,_=>rfl
 |x::l,0,b+1,k,hd,h,h2=>by
  cases h
  rw[List.getElem?_cons_succ]at h2
  exact absurd (List.mem_of_getElem? h2) (List.nodup_cons.1 hd).1
 |x::l,a+1,0,k,hd,h,h2=>by
  cases h2
  rw[List.getElem?_cons_succ]at h
  exact absurd (List.mem_of_getElem? h) (List.nodup_cons.1 hd).1
 |x::l,a+1,b+1,k,hd,h,h2=>by
  rw[List.getElem?_cons_succ]at h h2
  rw[LW (List.nodup_cons.1 hd).2 h h2]
theorem VO{ty:TTy}{φ φ1:Phi}{h h1 r hr:Hp}{w w1:World}{lo:Nat}{L:List Nat}(H:RelW ty φ (fun _=>False) h w)(H1:RelW ty φ1 (fun _=>False) h1 w1)(E:Evo φ hr w φ1 h1 w1)(hrn:hr.next=h.next)(hrb:hr.bl=h.bl)(hbig:256≤h.next)
  (hc:eC lo h h1 r L=true)(hlo:∀ i,i<lo→r.bl.get i=h.bl.get i)(hfr:∀ i,r.next≤i→r.bl.get i=h.bl.get i)(rlow:r.low≤lo∧r.low≤h.low)(rhigh:r.next≤r.high∧h.high≤r.high):
  ∃ ψ:Phi,RelW ty ψ (fun _=>False) r w1∧Evo φ h w ψ r w1:=by
 obtain⟨c1,hc⟩:=Ai hc
 obtain⟨c2,hc⟩:=Ai hc
 obtain⟨c3,hc⟩:=Ai hc
 obtain⟨c4,hc⟩:=Ai hc
 obtain⟨c5,c6⟩:=Ai hc
 clear hc
 have c1:=Ar.1 c1
 have c2:h.next+L.length=r.next:=by have:=Ae.1 c2;rw[N8]at this;exact this
 have c3:=G4 c3
 have c4:=Nj c4
 have c5:=fun i (a:lo≤i) (b:i<h.next)=>ML c5 i a (by have:Nat.sub h.next lo=h.next - lo:=rfl;omega)
 have c6:=Jf c6
 obtain⟨B,hB⟩:∃ B,h.next=B:=⟨_,rfl⟩
 rw[hB]at c2 c4 c5 c6 hbig hrn
 let ψ:Phi:=fun i=>if i<B then φ1 i else match L[i - B]? with|some k=>φ1 k|none=>none
 have old:∀ i,i<B→ψ i=φ1 i:=fun i hi=>if_pos hi
 have new:∀ i p,B≤i→ψ i=some p→∃ k,L[i - B]? =some k∧φ1 k=some p∧i<r.next∧B≤k∧k<h1.next:=fun i p hi hp=>by
  have hp:(if i<B then φ1 i else match L[i - B]? with|some k=>φ1 k|none=>none)=some p:=hp
  rw[if_neg (by omega)]at hp
  cases hk:L[i - B]? with
  |none=>rw[hk]at hp;cases hp
  |some k=>
   rw[hk]at hp
   have hlt:=(List.getElem?_eq_some_iff.1 hk).1
   have:=c4 k (List.mem_of_getElem? hk)
   exact⟨k,rfl,hp,by omega,this.1,this.2⟩
 have hq:∀ i j,qOf B L i j=true→∀ p,φ1 i=some p→ψ j=some p:=fun i j hij p hp=>by
  unfold qOf at hij
  cases hb:Nat.blt j B with
  |true=>
   rw[hb]at hij
   have hij:=Ae.1 hij
   rw[← hij]at hb ⊢
   rw[old i (Aq.1 hb)];exact hp
  |false=>
   rw[hb]at hij
   have hj:¬ j<B:=fun h=>by rw[Aq.2 h]at hb;cases hb
   rw[OG]at hij
   have hs:Nat.sub j B=j - B:=rfl
   rw[hs]at hij
   show(if j<B then φ1 j else match L[j - B]? with|some k=>φ1 k|none=>none)=some p
   rw[if_neg hj]
   cases hk:L[j - B]? with
   |none=>rw[hk]at hij;cases hij
   |some k=>
    rw[hk]at hij
    have hij:i=k:=Ae.1 hij
    rw[← hij];exact hp
 have f1:∀ i p,i<B→φ1 i=some p→φ i=some p:=fun i p hi hp=>by
  rcases E.new i p hp with h2|h2
  ·exact h2
  ·rw[hrn]at h2;omega
 have same1:∀ i,i<lo→i<B→h1.bl.get i=h.bl.get i:=fun i hi hb=>by
  have:=E.kept i (by rw[hrn];exact hb) (.inl (by omega))
  rw[this,hrb]
 have mid:∀ i,lo≤i→i<B→Fb (qOf B L) (h1.bl.get i) (r.bl.get i)=true∧(h.bl.get i=r.bl.get i∨Fb (qOf B L) (h.bl.get i) (r.bl.get i)=false):=fun i h3 h4=>by
  have hx:Ms (qOf B L) h.bl h1.bl r.bl i=true:=c5 i h3 h4
  unfold Ms at hx
  obtain⟨x1,x2⟩:=Ai hx
  refine⟨x1,?_⟩
  cases hy:eqB (h.bl.get i) (r.bl.get i)with
  |true=>exact .inl (Py hy)
  |false=>
   rw[hy]at x2
   right
   cases hz:Fb (qOf B L) (h.bl.get i) (r.bl.get i)with
   |true=>rw[hz]at x2;cases x2
   |false=>rfl
 have hBr:B≤r.next:=by omega
 have hle:φ.Le ψ:=fun i p hp=>by
  have:=(H.dom i p hp).1
  rw[old i (by omega)];exact E.le i p hp
 have src:∀ i p,ψ i=some p→r.bl.get i≠.dead→∃ k,φ1 k=some p∧h1.bl.get k≠.dead∧((i<B∧k=i)∨(B≤i∧B≤k∧L[i - B]? =some k)):=fun i p hp hl=>by
  by_cases hi:i<B
  ·rw[old i hi]at hp
   refine⟨i,hp,?_,.inl ⟨hi,rfl⟩⟩
   by_cases hl2:i<lo
   ·rw[same1 i hl2 hi,← hlo i hl2];exact hl
   ·exact Jd (mid i (by omega) hi).1 hl
  ·obtain⟨k,hk,hp,_,hb,_⟩:=new i p (by omega) hp
   refine⟨k,hp,?_,.inr ⟨by omega,hb,hk⟩⟩
   have:=c6 (i - B) k hk
   rw[show B+(i - B)=i by omega]at this
   exact Jd this hl
 have frame:∀ k,k<w.heap.size→(∀ i p,φ i=some p→p.inp=false→r.low≤i→i≤r.high→Live h i→p.blk≠k)→w1.heap[k]? =w.heap[k]?:=fun k hk hf=>E.frame k hk fun i p hp hn h3 h4 hl=>by
  have hd:=(H.dom i p hp).1
  refine hf i p hp hn (by omega) (by omega) ?_
  unfold Live at hl ⊢
  rw[hrb]at hl;exact hl
 refine⟨ψ,{
  dom:=fun i p hp=>by
   by_cases hi:i<B
   ·rw[old i hi]at hp;exact⟨by omega,(H1.dom i p hp).2⟩
   ·obtain⟨k,_,hp,hlt,_,_⟩:=new i p (by omega) hp
    exact⟨hlt,(H1.dom k p hp).2⟩
  inj:=fun i j p q hp hq2 _ _ hi hj hio hpq=>by
   obtain⟨k,k1,k2,k3⟩:=src i p hp hi
   obtain⟨l,l1,l2,l3⟩:=src j q hq2 hj
   have hkl:=H1.inj k l p q k1 l1 (fun h=>h) (fun h=>h) k2 l2 hio hpq
   rcases k3 with ⟨a1,a2⟩|⟨a1,a2,a3⟩<;>rcases l3 with ⟨b1,b2⟩|⟨b1,b2,b3⟩
   ·omega
   ·omega
   ·omega
   ·rw[← hkl]at b3
    have:=LW c3 a3 b3
    omega
  row:=fun i p hp _=>by
   by_cases hi:i<B
   ·rw[old i hi]at hp
    by_cases hl:i<lo
    ·have hpo:=f1 i p hi hp
     rw[hlo i hl]
     by_cases hd:h.bl.get i=.dead
     ·rw[hd];exact .dead
     ·have hw:w1.heap[p.blk]? =w.heap[p.blk]?:=E.frame p.blk (H.dom i p hpo).2 fun j x hx hn h3 h4 hlv hb=>by
       have:=H.inj j i x p hx hpo (fun h=>h) (fun h=>h) (by unfold Live at hlv ⊢;rw[hrb]at hlv;exact hlv) hd (.inl hn) hb
       omega
      rw[hw]
      exact(H.row i p hpo (fun h=>h)).mono hle
    ·exact LF hq (mid i (by omega) hi).1 (H1.row i p hp (fun h=>h))
   ·obtain⟨k,hk,hp,_,_,_⟩:=new i p (by omega) hp
    have:=c6 (i - B) k hk
    rw[show B+(i - B)=i by omega]at this
    exact LF hq this (H1.row k p hp (fun h=>h))
  fresh:=fun i hi=>by rw[hfr i hi];exact H.fresh i (by omega)
  kind:=fun i p c s e hp he=>by
   by_cases hi:i<B
   ·rw[old i hi]at hp
    by_cases hl:i<lo
    ·rw[hlo i hl]at he
     exact H.kind i p c s e (f1 i p hi hp) he
    ·have:=(mid i (by omega) hi).1
     rw[he]at this
     obtain⟨c',hc'⟩:=IM this
     exact H1.kind i p c' s e hp hc'
   ·obtain⟨k,hk,hp,_,_,_⟩:=new i p (by omega) hp
    have:=c6 (i - B) k hk
    rw[show B+(i - B)=i by omega,he]at this
    obtain⟨c',hc'⟩:=IM this
    exact H1.kind k p c' s e hp hc'
  inp:=fun i p hp hn=>by
   by_cases hi:i<B
   ·rw[old i hi]at hp;exact H1.inp i p hp hn
   ·obtain⟨k,hk,hp,_,hb,_⟩:=new i p (by omega) hp
    have:=H1.inp k p hp hn
    omega},{
  le:=hle
  new:=fun i p hp=>by
   by_cases hi:i<B
   ·rw[old i hi]at hp;exact .inl (f1 i p hi hp)
   ·right;omega
  next:=by omega
  size:=E.size
  tape:=E.tape
  os:=E.os
  output:=E.output
  frame:=frame
  back:=fun i p hp hl hs=>by
   obtain⟨k,k1,k2,k3⟩:=src i p hp hl
   obtain⟨j,q,hj,hjl,e1,e2,hor⟩:=E.back k p k1 k2 hs
   have hd:=(H.dom j q hj).1
   refine⟨j,q,hj,by unfold Live at hjl ⊢;rw[hrb]at hjl;exact hjl,e1,e2,?_⟩
   rcases hor with rfl|⟨h3,h4⟩
   ·rcases k3 with ⟨a1,a2⟩|⟨a1,a2,a3⟩
    ·exact .inl a2
    ·omega
   ·exact .inr ⟨by omega,by omega⟩
  kept:=fun i hi ho=>hlo i (by omega)
  low:=rlow.2
  high:=rhigh.2
  shape:=fun i hi=>by
   have hi:i<B:=by omega
   by_cases hl:i<lo
   ·rw[hlo i hl];exact .refl _
   ·have h3:=E.shape i (by rw[hrn];exact hi)
    rw[hrb]at h3
    exact h3.trans (Mq (mid i (by omega) hi).1)
  only:=fun i hi h0=>by
   have hi:i<B:=by omega
   by_cases hl:i<lo
   ·exact hlo i hl
   ·have h3:=E.only i (by rw[hrn];exact hi) h0
    rw[hrb]at h3
    obtain⟨x1,x2⟩:=mid i (by omega) hi
    rw[h3]at x1
    rcases x2 with x2|x2
    ·exact x2.symm
    ·rw[x1]at x2;cases x2
  all:=fun i h3 h4=>by
   have hlt:i - B<L.length:=by omega
   have hk:L[i - B]? =some L[i - B]:=List.getElem?_eq_getElem hlt
   have hb:=c4 _ (List.getElem_mem hlt)
   obtain⟨p,hp⟩:=E.all L[i - B] (by rw[hrn];exact hb.1) hb.2
   refine⟨p,?_⟩
   show(if i<B then φ1 i else match L[i - B]? with|some k=>φ1 k|none=>none)=some p
   rw[if_neg (by omega),hk]
   exact hp}⟩
end
noncomputable section
open Go
def Ag(S:List Nat)(e e':Env):Prop:=∀ t,t<208→t∉S→e'.get t=e.get t
theorem Ag.refl(S:List Nat)(e:Env):Ag S e e:=fun _ _ _=>rfl
theorem Ag.trans{S:List Nat}{e e1 e2:Env}(h:Ag S e e1)(h2:Ag S e1 e2):Ag S e e2:=fun t ht hn=>(h2 t ht hn).trans (h t ht hn)
def Cx(S:List Nat)(e:Env):X→Prop
 |.no=>True
 |.norm e' _=>Ag S e e'
 |.exit _ e' _=>Ag S e e'
 |.ret e' _=>Ag S e e'
theorem Cx.of{S:List Nat}{e e1:Env}{x:X}(h:Ag S e e1)(h2:Cx S e1 x):Cx S e x:=by
 cases x with
 |no=>trivial
 |norm _ _=>exact h.trans h2
 |exit _ _ _=>exact h.trans h2
 |ret _ _=>exact h.trans h2
def BD(S:List Nat)(c:C):Prop:=∀ F e h,Cx S e (c F e h)
theorem FU{S:List Nat}{d:Nat}(hd:d∈S)(hl:d<208)(v:Value)(e:Env):Ag S e (Env.set d v e):=fun t ht hn=>by
 rw[Env.get_set _ _ _ _ hl ht,if_neg (by rintro rfl;exact hn hd)]
theorem EV{S:List Nat}:∀ (l:List Nat) (e:Env),(∀ d∈l,d∈S∧d<208)→Ag S e (BC e l)
 |[],e,_=>.refl _ _
 |d::l,e,h=>(FU (h d List.mem_cons_self).1 (h d List.mem_cons_self).2 _ e).trans (EV l _ fun d hd=>h d (List.mem_cons_of_mem _ hd))
theorem Pc{S:List Nat}:∀ (l:List (Nat×Value)) (e:Env),(∀ d∈l,d.1∈S∧d.1<208)→Ag S e (Ov e l)
 |[],e,_=>.refl _ _
 |d::l,e,h=>(FU (h d List.mem_cons_self).1 (h d List.mem_cons_self).2 _ e).trans (Pc l _ fun d hd=>h d (List.mem_cons_of_mem _ hd))
section
variable {S:List Nat}
theorem BP:BD S cNo:=fun _ _ _=>trivial
theorem Mv:BD S cNorm:=fun _ e _=>.refl _ e
theorem Ot:BD S AL:=fun _ e _=>.refl _ e
theorem Mt(id:Nat):BD S (Af id):=fun _ e _=>.refl _ e
theorem LG{d:Nat}{f:OpF}{k:C}(hd:d∈S)(hl:d<208)(hk:BD S k):BD S (cOp (slotT d) f k):=fun F e h=>by
 unfold cOp
 cases f F e h with
 |no=>trivial
 |ok v h'=>
  show Cx S e (slotT d (fun e=>k F e h') v e)
  rw[CO d hl]
  exact .of (FU hd hl v e) (hk F _ h')
theorem QD{f:OpF}{k:C}(hk:BD S k):BD S (cDo f k):=fun F e h=>by
 unfold cDo
 cases f F e h with
 |no=>trivial
 |ok v h'=>exact hk F e h'
theorem SD{g:Env→Value}{w:Bool}{d:Nat}{f:OpF}{k:C}(hd:d∈S)(hl:d<208)(hk:BD S k):BD S (cG g w (slotT d) f k):=fun F e h=>by
 have h0:Cx S e (slotT d (fun e=>k F e h) noRes e):=by
  rw[CO d hl]
  exact .of (FU hd hl _ e) (hk F _ h)
 unfold cG
 split
 ·rename_i b _
  cases (w == b)with
  |true=>exact LG hd hl hk F e h
  |false=>exact h0
 ·exact h0
 ·trivial
theorem Gi{w:Env→Value}{rs:List (Env→Value)}{k:C}(hk:BD S k):BD S (BA w rs k):=fun F e h=>by
 unfold BA
 split
 ·rename_i b _
  cases FX b e rs with
  |true=>exact hk F e h
  |false=>trivial
 ·exact hk F e h
theorem Oq{x:O}{k:C}(hk:BD S k):BD S (Bc x k):=fun F e h=>by
 unfold Bc
 split
 ·rename_i b _
  cases Nat.blt b h.mark with
  |true=>exact hk F e h
  |false=>trivial
 ·exact hk F e h
theorem Mu{k:C}(hk:BD S k):BD S (Aa k):=fun F e h=>hk F e _
theorem Jg{a b:C}(ha:BD S a)(hb:BD S b):BD S (AY a b):=fun F e h=>by
 have:=ha F e h
 unfold AY
 cases hx:a F e h with
 |no=>trivial
 |norm e1 h1=>rw[hx]at this;exact .of this (hb F e1 h1)
 |exit i e1 h1=>rw[hx]at this;exact this
 |ret e1 h1=>rw[hx]at this;exact this
theorem Fc{c:O}{a b:C}(ha:BD S a)(hb:BD S b):BD S (AF c a b):=fun F e h=>by
 show Cx S e (Tk (c e) (a F e h) (b F e h))
 cases c e<;>first|trivial|skip
 rename_i t
 cases t with
 |true=>exact ha F e h
 |false=>exact hb F e h
theorem G6{id:Nat}{a:C}(ha:BD S a):BD S (AM id a):=fun F e h=>by
 have:=ha F e h
 unfold AM
 cases hx:a F e h with
 |no=>trivial
 |norm e1 h1=>rw[hx]at this;exact this
 |exit i e1 h1=>
  rw[hx]at this
  show Cx S e (bif Nat.beq i id then .norm e1 h1 else .exit i e1 h1)
  cases Nat.beq i id<;>exact this
 |ret e1 h1=>rw[hx]at this;exact this
theorem IQ{a:C}(ha:BD S a):∀ n,BD S (iter a n)
 |0=>fun _ _ _=>trivial
 |n+1=>fun F e h=>by
  have:=ha F e h
  unfold iter
  cases hx:a F e h with
  |no=>trivial
  |norm e1 h1=>rw[hx]at this;exact .of this (IQ ha n F e1 h1)
  |exit i e1 h1=>rw[hx]at this;exact this
  |ret e1 h1=>rw[hx]at this;exact this
theorem IR{a:C}(ha:BD S a):BD S (Ah a):=IQ ha rounds
theorem Ev{e:Env}:∀ {l:List Nat},∀ d∈Cm e l,d.1∈l
 |s::l,d,hd=>by
  unfold Cm at hd
  have ih:d∈Cm e l→d.1∈s::l:=fun h=>List.mem_cons_of_mem _ (Ev d h)
  split at hd
  ·rcases List.mem_cons.1 hd with rfl|hd
   ·exact List.mem_cons_self
   ·exact ih hd
  ·rcases List.mem_cons.1 hd with rfl|hd
   ·exact List.mem_cons_self
   ·exact ih hd
  ·exact ih hd
theorem DS{k:Walk}{body:C}{F:CallF}{e:Env}{h:Hp}{b m last:Nat}:∀ {es:List Ent} {acc:WR} {vs:List (Nat×Value)},(∀ us,acc=.stop us→∀ d∈us,d.1∈k.rs)→DC k body F e h b m last es acc=.stop vs→∀ d∈vs,d.1∈k.rs
 |[],acc,vs,ha,hr=>ha vs hr
 |x::l,acc,vs,ha,hr=>by
  unfold DC at hr
  split at hr
  case h_2=>cases hr
  split at hr
  ·rename_i h1 _
   cases hb:Nat.ble h.next h1.low with
   |false=>rw[hb]at hr;cases hr
   |true=>rw[hb]at hr;exact DS ha hr
  ·rename_i e1 h1 _
   cases hb:Nat.ble h.next h1.low with
   |false=>rw[hb]at hr;cases hr
   |true=>
    rw[hb]at hr
    have hr:E0 k e1 acc (DC k body F e h b m last l)=.stop vs:=hr
    unfold E0 at hr
    cases acc with
    |go=>exact DS (fun ws hw=>by cases hw;exact Ev) hr
    |stop ws=>
     cases hs:Ip ws (Cm e1 k.rs)with
     |false=>simp only[hs]at hr;cases hr
     |true=>simp only[hs]at hr;exact DS ha hr
    |no=>cases hr
  ·cases hr
theorem B7{e:Env}{c:Bool}{x:X}(hx:Cx S e x):Cx S e (bif c then x else .no):=by
 cases c
 ·trivial
 ·exact hx
theorem Mw{k:Walk}{a:C}(hw:∀ d∈k.ws,d∈S∧d<208)(hm:k.more∈S∧k.more<208)(hr:∀ d∈k.rs,d∈S∧d<208)(ha:BD S a):BD S (G3 k a):=fun F e h=>by
 have hl:=IR ha F e h
 have hat:∀ ad m since last es c,Cx S e (Fk k a F e h ad m since last es c):=fun ad m since last es c=>by
  unfold Fk
  refine B7 (B7 (B7 (B7 (B7 ?_))))
  unfold KZ
  cases h.bl.set ad.block .dead with
  |none=>trivial
  |some bl=>
   simp only
   cases hvs:DC k a F e h ad.block m last es .go with
   |no=>trivial
   |go=>exact(EV _ _ hw).trans (FU hm.1 hm.2 _ _)
   |stop vs=>
    have h1:=DS (fun us h=>by cases h) hvs
    exact(EV _ _ hw).trans (Pc _ _ fun d hd=>hr _ (h1 d hd))
 have hal:∀ b,Cx S e (E4 k a F e h b):=fun b=>by
  unfold E4
  cases KC k a F e b 5 {next:=h.next,low:=h.next,high:=0,mark:=h.mark,bl:=h.bl} []with
  |none=>trivial
  |some p=>
   simp only
   cases p.1.bl.set b .dead with
   |none=>trivial
   |some bc=>
    simp only
    cases JI bc (Nat.sub p.1.next p.1.low) p.1.low h.bl with
    |none=>trivial
    |some br=>exact B7 ((EV _ _ hw).trans (FU hm.1 hm.2 _ _))
 have hcl:∀ b,Cx S e (Fq k a F e h b):=fun b=>by
  unfold Fq
  split
  ·exact(EV _ _ hw).trans (FU hm.1 hm.2 _ _)
  ·trivial
 have hal:∀ b,Cx S e (E5 k a F e h b):=fun b=>by
  have h1:=hal b
  unfold E5
  cases hx:E4 k a F e h b with
  |no=>exact hcl b
  |norm _ _=>rw[hx]at h1;exact h1
  |exit _ _ _=>rw[hx]at h1;exact h1
  |ret _ _=>rw[hx]at h1;exact h1
 unfold G3
 cases slotG k.it e<;>first|trivial|skip
 rename_i o
 cases o with
 |none=>trivial
 |some ad=>
  simp only
  cases Di (h.bl.get ad.block)with
  |ok m since seen last=>
   cases m with
   |none=>exact hl
   |some m=>
    cases seen with
    |cons _ _=>trivial
    |nil=>
     simp only
     cases BG h m with
     |no=>trivial
     |ok es c=>
      cases es with
      |nil=>exact hl
      |cons x l=>
       cases l with
       |nil=>exact hl
       |cons y l=>
        show Cx S e (match Fk k a F e h ad m since last (x::y::l) c with
         |.no=>bif Nat.beq ad.off 0 then(bif Nat.ble 256 ad.block then E5 k a F e h ad.block else .no)else .no
         |x=>x)
        have h1:=hat ad m since last (x::y::l) c
        cases hx:Fk k a F e h ad m since last (x::y::l) c with
        |no=>exact B7 (B7 (hal _))
        |norm _ _=>rw[hx]at h1;exact h1
        |exit _ _ _=>rw[hx]at h1;exact h1
        |ret _ _=>rw[hx]at h1;exact h1
  |_=>exact hl
end
theorem H7{o:Oper}{d:Nat}(hd:o.dst=some d):∀ (l:List Oper),o∈l→d∈EP l:=by
 intro l
 induction l with
 |nil=>intro h;cases h
 |cons p l ih=>
  intro h
  unfold EP
  rcases List.mem_cons.1 h with h|h
  ·rw[← h,hd];exact List.mem_cons_self
  ·have:=ih h
   split
   ·exact List.mem_cons_of_mem _ this
   ·exact this
theorem CI:∀ {c:Code} {d:Nat},d∈Fe c→d∈wrs c
 |.seq a b,d,h=>by
  have h0:d∈Fe a++Fe b→d∈wrs a++wrs b:=fun h=>by
   rcases List.mem_append.1 h with h|h
   ·exact List.mem_append_left _ (CI h)
   ·exact List.mem_append_right _ (CI h)
  unfold Fe at h
  split at h
  ·split at h
   ·exact List.mem_append_left _ h
   ·exact List.mem_append_left _ (CI h)
  ·exact h0 h
 |.cond _ a b,d,h=>by
  have h:d∈Fe a++Fe b:=h
  rcases List.mem_append.1 h with h|h
  ·exact List.mem_append_left _ (CI h)
  ·exact List.mem_append_right _ (CI h)
 |.block _ a,d,h=>CI (c:=a) h
 |.loop a,d,h=>CI (c:=a) h
 |.scope a,d,h=>CI (c:=a) h
 |.region _ _ _,d,h=>by cases h
 |.skip,d,h=>by cases h
 |.exit _,d,h=>by cases h
 |.ret,d,h=>by cases h
 |.rangeFunc _ _ _ _,d,h=>by cases h
 |.label _,d,h=>by cases h
 |.goto _,d,h=>by cases h
 |.refuse _,d,h=>by cases h
theorem Nt:∀ {l:List Nat},Rz l=true→∀ d∈l,d<208
 |d::l,h,x,hx=>by
  unfold Rz at h
  split at h
  ·rename_i hb
   rcases List.mem_cons.1 hx with rfl|hx
   ·exact Aq.1 hb
   ·exact Nt h x hx
  ·cases h
structure WalkIs (A:List Nat)(a:Code)(k:Walk)(id:Nat)(o1 o2:Oper)(r2:Code):Prop where
 code:a=.seq (.region id #[o1,o2] false) (.seq (.cond (.tmp k.more) .skip (.exit k.out)) r2)
 op1:o1.op=.next (.tmp k.it) false
 dst1:o1.dst=some k.nx
 grd1:o1.guard=none
 op2:o2.op=.extract (.tmp k.nx) 0
 dst2:o2.dst=some k.more
 grd2:o2.guard=none
 ne:k.nx≠k.more
 itA:memN k.it A=false
 nxA:memN k.nx A=false
 moA:memN k.more A=false
 itL:k.it<208
 nxL:k.nx<208
 moL:k.more<208
 ws:k.ws=wrs a
 itW:k.it∉k.ws
 few:∀ d∈k.ws,d<208
 rs:∀ d∈k.rs,d∈k.ws
theorem IX{t:Nat}:∀ {l:List Nat},memN t l=false→t∉l
 |d::l,h,hm=>by
  unfold memN at h
  split at h
  ·cases h
  ·rename_i hb
   rcases List.mem_cons.1 hm with rfl|hm
   ·rw[Nat.beq_refl]at hb;cases hb
   ·exact IX h hm
theorem TC{more out:Nat}{c:Code}(h:ez more c=some out):∃ r2,c=.seq (.cond (.tmp more) .skip (.exit out)) r2:=by
 cases c with
 |seq a r=>cases a with
  |cond c x y=>cases c with
   |tmp t=>cases x with
    |skip=>cases y with
     |exit id=>
      have h:(match Nat.beq t more with|true=>some id|false=>none)=some out:=h
      cases hb:Nat.beq t more with
      |false=>rw[hb]at h;cases h
      |true=>
       rw[hb]at h
       cases h
       have:=Ae.1 hb
       subst this
       exact⟨r,rfl⟩
     |_=>cases h
    |_=>cases h
   |_=>cases h
  |_=>cases h
 |_=>cases h
theorem MM{A:List Nat}{a:Code}{k:Walk}(h:OW A a=some k):∃ id o1 o2 r2,WalkIs A a k id o1 o2 r2:=by
 unfold OW at h
 split at h
 case h_2=>cases h
 rename_i x rest
 split at h
 case h_2=>cases h
 rename_i id ops draw
 split at h
 case h_2=>cases h
 unfold OV at h
 split at h
 case h_2=>cases h
 rename_i o1 l1 hl0
 split at h
 case h_2=>cases h
 rename_i o2 l2
 split at h
 case h_2=>cases h
 split at h
 case h_2=>cases h
 rename_i x str hop1
 split at h
 case h_2=>cases h
 rename_i it
 split at h
 case h_2=>cases h
 split at h
 case h_2=>cases h
 rename_i nx hd1 hg1
 split at h
 case h_2=>cases h
 rename_i y i hop2
 split at h
 case h_2=>cases h
 rename_i n2
 split at h
 case h_2=>cases h
 rename_i more hd2 hg2
 split at h
 case h_2=>cases h
 rename_i hb
 split at h
 case h_2=>cases h
 rename_i out hout
 cases h
 simp only[Bool.and_eq_true,Bool.not_eq_true']at hb
 obtain⟨b1,b2,b3,b4,b5,b6,b7,b8,b9,b10,b11⟩:=hb
 obtain⟨r2,rfl⟩:=TC hout
 have e1:=Ae.1 b1
 have e2:=Ae.1 b2
 subst e1;subst e2
 have hops:ops= #[o1,o2]:=Array.ext' hl0
 subst hops
 refine⟨id,o1,o2,r2,{code:=rfl,op1:=hop1,dst1:=hd1,grd1:=hg1,op2:=hop2,dst2:=hd2,grd2:=hg2,ne:=Cu b3,itA:=b4,nxA:=b5,moA:=b6,itL:=Aq.1 b7,nxL:=Aq.1 b8,moL:=Aq.1 b9,ws:=?_,itW:=IX b10,few:=?_,rs:=?_}⟩
 ·show _=EP [o1,o2]++_
  simp only[EP,hd1,hd2]
  rfl
 ·intro d hd
  rcases List.mem_cons.1 hd with rfl|hd
  ·exact Aq.1 b8
  ·rcases List.mem_cons.1 hd with rfl|hd
   ·exact Aq.1 b9
   ·exact Nt b11 d hd
 ·intro d hd
  exact List.mem_cons_of_mem _ (List.mem_cons_of_mem _ (CI hd))
section
variable {ty:TTy}{A S:List Nat}
theorem Ei{f:Fr}{a:Ahead}{o:OpF}{k:OpF→C}(hk:∀ p,BD S (k p)):BD S (Du f a o k):=by
 unfold Du
 split
 ·exact hk _
 ·exact hk _
 ·split
  ·exact hk _
  ·exact BP
 ·split
  ·exact Gi (hk _)
  ·exact BP
 ·split
  ·split
   ·exact Oq (Gi (hk _))
   ·exact Gi (hk _)
  ·exact BP
theorem E9{all:List Oper}{k:Sg→C}(hk:∀ σ,BD S (k σ)):∀ (l:List Oper) (ah:List Ahead) (σ:Sg),(∀ o∈l,∀ d,o.dst=some d→d∈S)→BD S (opsC ty A all k ah l σ)
 |[],ah,σ,_=>by unfold opsC;exact hk σ
 |o::l,ah,σ,h=>by
  have ih:∀ ah σ,BD S (opsC ty A all k ah l σ):=fun ah σ=>E9 hk l ah σ fun o ho=>h o (List.mem_cons_of_mem _ ho)
  have hd:=h o List.mem_cons_self
  unfold opsC
  split
  ·exact Ei fun p=>QD (ih _ _)
  ·rename_i d _ hdd
   split
   ·split
    ·split
     ·exact ih _ _
     ·exact BP
    ·exact BP
   ·split
    ·rename_i hb
     exact Ei fun p=>LG (hd d hdd) (Aq.1 hb) (ih _ _)
    ·exact BP
  ·rename_i d _ hdd
   split
   ·exact BP
   ·split
    ·split
     ·split
      ·split
       ·rename_i hb
        exact Ei fun p=>SD (hd d hdd) (Aq.1 hb) (ih _ _)
       ·exact BP
      ·exact BP
     ·exact BP
    ·exact BP
  ·exact BP
theorem D3{k:Option (Sg→C)}(hk:∀ k',k=some k'→∀ σ,BD S (k' σ))(σ:Sg):BD S (HB k σ):=by
 cases k with
 |none=>exact Mv
 |some k=>exact hk k rfl σ
theorem BF:∀ (c:Code) {σ:Sg} {k:Option (Sg→C)},(∀ d∈wrs c,d∈S)→(∀ k',k=some k'→∀ σ,BD S (k' σ))→BD S (codeC ty A c σ k)
 |.skip,σ,k,hw,hk=>D3 hk σ
 |.region _ ops draw,σ,k,hw,hk=>by
  have ho:∀ o∈ops.toList,∀ d,o.dst=some d→d∈S:=fun o ho d hd=>hw d (H7 hd _ ho)
  unfold codeC
  split
  ·exact E9 (fun σ=>D3 hk σ) _ _ _ ho
  ·split
   ·exact Mu (E9 (fun σ=>D3 hk σ) _ _ _ ho)
   ·exact BP
 |.seq a b,σ,k,hw,hk=>by
  have h1:∀ d∈wrs a,d∈S:=fun d hd=>hw d (List.mem_append_left _ hd)
  have h2:∀ d∈wrs b,d∈S:=fun d hd=>hw d (List.mem_append_right _ hd)
  exact BF a (σ:=σ) (k:=some fun σ=>codeC ty A b σ k) h1 fun k' e σ=>by cases e;exact BF b h2 hk
 |.cond c a b,σ,k,hw,hk=>by
  have h1:∀ d∈wrs a,d∈S:=fun d hd=>hw d (List.mem_append_left _ hd)
  have h2:∀ d∈wrs b,d∈S:=fun d hd=>hw d (List.mem_append_right _ hd)
  unfold codeC
  split
  ·split
   ·exact Fc (BF a h1 fun _ e=>by cases e) (BF b h2 fun _ e=>by cases e)
   ·rename_i k'
    split
    ·exact Jg (Fc (BF a h1 fun _ e=>by cases e) (BF b h2 fun _ e=>by cases e)) (hk k' rfl [])
    ·exact Fc (BF a h1 hk) (BF b h2 hk)
  ·exact BP
 |.block id a,σ,k,hw,hk=>by
  have h1:∀ d∈wrs a,d∈S:=hw
  unfold codeC
  split
  ·exact G6 (BF a h1 fun _ e=>by cases e)
  ·rename_i k'
   exact Jg (G6 (BF a h1 fun _ e=>by cases e)) (hk k' rfl [])
 |.loop a,σ,k,hw,hk=>by
  have h1:∀ d∈wrs a,d∈S:=hw
  have h2:BD S (codeC ty A a [] none):=BF a h1 fun _ e=>by cases e
  unfold codeC
  split
  ·rename_i k hk
   obtain⟨id,o1,o2,r2,W⟩:=MM hk
   have hm:∀ d∈k.ws,d∈S∧d<208:=fun d hd=>⟨h1 d (W.ws ▸ hd),W.few d hd⟩
   refine Mw hm (hm _ ?_) (fun d hd=>hm d (W.rs d hd)) h2
   rw[W.ws,W.code]
   show _∈EP [o1,o2]++_
   simp[EP,W.dst1,W.dst2]
  ·exact IR h2
 |.exit id,σ,k,hw,hk=>Mt id
 |.ret,σ,k,hw,hk=>Ot
 |.scope a,σ,k,hw,hk=>BF a (σ:=σ) (k:=k) hw hk
 |.label _,σ,k,hw,hk=>D3 hk σ
 |.rangeFunc _ _ _ _,σ,k,hw,hk=>BP
 |.goto _,σ,k,hw,hk=>BP
 |.refuse _,σ,k,hw,hk=>BP
end
structure Good (ty:TTy)(A:List Nat)(N:Nat)(φ:Phi)(h:Hp)(w:World)(σ:Sg)(e:Env)(h':Hp)(ψ:Phi)(a:Act)(w':World):Prop where
 sg:SgOk A σ
 rel:RelW ty ψ nil h' w'
 ar:AR N ψ (rhoOf A σ e) a
 evo:Evo φ h w ψ h' w'
section
variable {P:Program}{ty:TTy}{F:CallF}{A:List Nat}{N:Nat}
theorem TM{σ:Sg}(hS:SgOk A σ){e:Env}{t:Nat}{u:Value}(h:rhoOf A [] e t=some u):rhoOf A σ e t=some u:=by
 rw[CJ]at h ⊢
 have h:(match memN t A with|true=>none|false=>match Nat.blt t 208 with|true=>some (slotG t e)|false=>none)=some u:=h
 cases hf:Bm t σ with
 |some s=>
  have:=hS.mem _ (CU hf)
  simp only at this
  rw[this]at h;cases h
 |none=>exact h
theorem AR.nil{φ:Phi}{σ:Sg}{e:Env}{a:Act}(hS:SgOk A σ)(h:AR N φ (rhoOf A σ e) a):AR N φ (rhoOf A [] e) a:=⟨h.size,h.defs,fun t u hu=>h.rel t u (TM hS hu)⟩
theorem Good.nil{φ ψ:Phi}{h h':Hp}{w w':World}{σ:Sg}{e:Env}{a:Act}(g:Good ty A N φ h w σ e h' ψ a w'):Good ty A N φ h w [] e h' ψ a w':=⟨.nil A,g.rel,g.ar.nil g.sg,g.evo⟩
theorem Good.trans{φ ψ χ:Phi}{h h' h2:Hp}{w w' w2:World}{σ σ2:Sg}{e e2:Env}{a a2:Act}(g:Good ty A N φ h w σ e h' ψ a w')(g2:Good ty A N ψ h' w' σ2 e2 h2 χ a2 w2):Good ty A N φ h w σ2 e2 h2 χ a2 w2:=
 ⟨g2.sg,g2.rel,g2.ar,g.evo.trans g2.evo⟩
structure Post (ty:TTy)(A:List Nat)(N:Nat)(F:CallF)(φ:Phi)(h:Hp)(w:World)(k:Option (Sg→C))(X:X)(Q:Exit→Act→World→Prop):Prop where
 go:∀ k',k=some k'→∀ σ e h' ψ a' w',Good ty A N φ h w σ e h' ψ a' w'→k' σ F e h'=X→Q .normal a' w'
 norm:k=none→∀ e h' ψ a' w',Good ty A N φ h w [] e h' ψ a' w'→X=.norm e h'→Q .normal a' w'
 exit:∀ id e h' ψ a' w',Good ty A N φ h w [] e h' ψ a' w'→X=.exit id e h'→Q (.exit id) a' w'
 ret:∀ e h' ψ a' w',Good ty A N φ h w [] e h' ψ a' w'→X=.ret e h'→Q .ret a' w'
theorem Post.then{φ:Phi}{h:Hp}{w:World}{k:Option (Sg→C)}{X:X}{Q:Exit→Act→World→Prop}(p:Post ty A N F φ h w k X Q){σ:Sg}{e:Env}{h':Hp}{ψ:Phi}{a':Act}{w':World}(g:Good ty A N φ h w σ e h' ψ a' w')(hx:HB k σ F e h'=X):Q .normal a' w':=by
 cases k with
 |none=>exact p.norm rfl e h' ψ a' w' g.nil hx.symm
 |some k'=>exact p.go k' rfl σ e h' ψ a' w' g hx
theorem QV{w:World}{pb mb clk:Nat}{seen:List Nat}{es:List MapEntry}{t:TypeId}(hw:w.heap[pb]? =some (.mapIter (some mb) clk ⟨seen⟩ clk))(hm:w.heap[mb]? =some (.map ⟨es⟩ clk))(hb:∀ x∈es,x.born<clk):
  ((∀ x∈es,x.born∈seen)∧(Instr.next (.pointer (some ⟨pb,0,none⟩)) false t).run P w=.ok (.tuple #[.bool false]) w)∨
  ∃ x∈es,x.born∉seen∧∃ w1:World,w1.heap=w.heap∧w1.tape=w.tape∧w1.os=w.os∧w1.output=w.output∧
   (Instr.next (.pointer (some ⟨pb,0,none⟩)) false t).run P w=.ok (.tuple #[.bool true,x.key,x.val]) {w1 with heap:=w1.heap.setIfInBounds pb (.mapIter (some mb) clk ⟨seen++[x.born]⟩ clk)}:=by
 have hstop:(!(⟨seen⟩:Array Nat).isEmpty && !(⟨es⟩:Array MapEntry).isEmpty && (⟨es⟩:Array MapEntry).all (fun e=>decide (e.born≥clk)))=false:=by
  cases es with
  |nil=>simp
  |cons x l=>
   have:=hb x List.mem_cons_self
   simp[Nat.not_le.2 this]
 generalize hl:es.filter (fun e=> !seen.contains e.born)=left
 have hmem:∀ x∈left,x∈es∧x.born∉seen:=fun x hx=>by
  rw[← hl,List.mem_filter]at hx
  exact⟨hx.1,by simpa using hx.2⟩
 have hlt:∀ x∈left,x.born<clk:=fun x hx=>hb x (hmem x hx).1
 have f1:(⟨es⟩:Array MapEntry).filter (fun e=> !(⟨seen⟩:Array Nat).contains e.born)=⟨left⟩:=by
  rw[← hl];apply Array.ext';simp
 have f2:(⟨left⟩:Array MapEntry).filter (fun e=>decide (e.born<clk))=⟨left⟩:=by
  apply Array.ext';rw[Array.toList_filter]
  exact List.filter_eq_self.2 fun x hx=>by simpa using hlt x hx
 have f3:(⟨left⟩:Array MapEntry).filter (fun e=>decide (e.born≥clk))= #[]:=by
  apply Array.ext';rw[Array.toList_filter]
  exact List.filter_eq_nil_iff.2 fun x hx=>by simpa using hlt x hx
 cases hc:left with
 |nil=>
  left
  refine⟨fun x hx=>?_,?_⟩
  ·by_cases hs:x.born∈seen
   ·exact hs
   ·have:x∈left:=by rw[← hl,List.mem_filter];exact⟨hx,by simpa using hs⟩
    rw[hc]at this;cases this
  ·subst hc
   simp only[Instr.next,Sem.run_bind,A2 hw rfl,Result.andThen_ok,A2 hm rfl,hstop,Bool.false_eq_true,if_false,f1,f2,f3]
   simp[run_choose,Question.forced]
 |cons y ys=>
  right
  have hpos:0<left.length:=by rw[hc];simp
  have hne:(⟨left⟩:Array MapEntry).isEmpty=false:=by rw[hc];simp
  have key:∀ (i:Nat) (hi:i<left.length) (w1:World),(choose (.mapNext left.length)).run P w=.ok i w1→w1.heap=w.heap→
    (Instr.next (.pointer (some ⟨pb,0,none⟩)) false t).run P w=.ok (.tuple #[.bool true,(left[i]).key,(left[i]).val]) {w1 with heap:=w1.heap.setIfInBounds pb (.mapIter (some mb) clk ⟨seen++[(left[i]).born]⟩ clk)}:=by
   intro i hi w1 hch hh
   have hcand:((#[]:Array (Option MapEntry))++((⟨left⟩:Array MapEntry)++ #[]).map some)[i]? =some (some left[i]):=by
    simp[List.getElem?_eq_getElem hi]
   have hsz:((#[]:Array (Option MapEntry))++((⟨left⟩:Array MapEntry)++ #[]).map some).size=left.length:=by simp
   have hset:=B5 (P:=P) (w:=w1) (ob':=.mapIter (some mb) clk ⟨seen++[(left[i]).born]⟩ clk) (by rw[hh];exact hw) rfl
   simp only[Instr.next,Sem.run_bind,A2 hw rfl,Result.andThen_ok,A2 hm rfl,hstop,Bool.false_eq_true,if_false,f1,f2,f3,hne,hsz,hch,hcand]
   have hpush:(⟨seen⟩:Array Nat).push (left[i]).born=⟨seen++[(left[i]).born]⟩:=by apply Array.ext';simp
   rw[hpush,hset]
   simp
  have pick:∀ (i:Nat) (hi:i<left.length) (w1:World),(choose (.mapNext left.length)).run P w=.ok i w1→w1.heap=w.heap→w1.tape=w.tape→w1.os=w.os→w1.output=w.output→
    ∃ x∈es,x.born∉seen∧∃ w1:World,w1.heap=w.heap∧w1.tape=w.tape∧w1.os=w.os∧w1.output=w.output∧
     (Instr.next (.pointer (some ⟨pb,0,none⟩)) false t).run P w=.ok (.tuple #[.bool true,x.key,x.val]) {w1 with heap:=w1.heap.setIfInBounds pb (.mapIter (some mb) clk ⟨seen++[x.born]⟩ clk)}:=by
   intro i hi w1 hch h1 h2 h3 h4
   have:=hmem left[i] (List.getElem_mem hi)
   exact⟨left[i],this.1,this.2,w1,h1,h2,h3,h4,key i hi w1 hch h1⟩
  by_cases hf:left.length≤1
  ·exact pick 0 hpos w (by rw[run_choose];simp[Question.forced,hf]) rfl rfl rfl rfl
  ·exact pick (w.tape w.drawn (.mapNext left.length) % left.length) (Nat.mod_lt _ hpos) {w with drawn:=w.drawn+1} (by rw[run_choose];simp[Question.forced,hf,Question.cut]) rfl rfl rfl rfl
theorem Ct{o:Oper}(h:o.guard=none)(f:Nat→Option Bool):Region.wanted o f=true:=by
 unfold Region.wanted;rw[h]
theorem Hf(a:Act)(d:Nat)(v:Value)(t:Nat):(a.put (some d) v).eval (.tmp t)=if d=t∧t<a.tmps.size then v else a.eval (.tmp t):=by
 show(a.put (some d) v).tmps.getD t undef=_
 rw[BS]
 by_cases h:d=t
 ·subst h;simp[Act.eval]
 ·rw[if_neg (fun h2=>h (Option.some.inj h2.1)),if_neg (fun h2=>h h2.1)];rfl
theorem Gu{k:Walk}{a0:Code}{id:Nat}{o1 o2:Oper}{r2:Code}(W:WalkIs A a0 k id o1 o2 r2){a:Act}{w:World}{pb mb clk:Nat}{seen:List Nat}{es:List MapEntry}
  (hit:a.eval (.tmp k.it)=.pointer (some ⟨pb,0,none⟩))(hnx:k.nx<a.tmps.size)(hw:w.heap[pb]? =some (.mapIter (some mb) clk ⟨seen⟩ clk))(hm:w.heap[mb]? =some (.map ⟨es⟩ clk))(hb:∀ x∈es,x.born<clk)
  {Q:Exit→Act→World→Prop}(hover:(∀ x∈es,x.born∈seen)→Q .normal ((a.put (some k.nx) (.tuple #[.bool false])).put (some k.more) (.bool false)) w)
  (hgo:∀ x∈es,x.born∉seen→∀ w1:World,w1.heap=w.heap.setIfInBounds pb (.mapIter (some mb) clk ⟨seen++[x.born]⟩ clk)→w1.tape=w.tape→w1.os=w.os→w1.output=w.output→
   Q .normal ((a.put (some k.nx) (.tuple #[.bool true,x.key,x.val])).put (some k.more) (.bool true)) w1):
  (Code.region id #[o1,o2] false).wp P Q a w:=by
 refine wp_region_list ?_
 have hx1:execOp a.eval o1=(do pure (.value (← Instr.next (a.eval (.tmp k.it)) false o1.type))):=by unfold execOp;rw[W.op1]
 have two:∀ (c:Bool) (vs:Array Value) (w1:World),Q .normal ((a.put (some k.nx) (.tuple (#[.bool c]++vs))).put (some k.more) (.bool c)) w1→wpList P #[o1,o2] Q [o2] (a.put (some k.nx) (.tuple (#[.bool c]++vs))) w1:=by
  intro c vs w1 hq
  unfold wpList
  rw[if_pos (Ct W.grd2 _)]
  refine .inl ?_
  have hx2:execOp (a.put (some k.nx) (.tuple (#[.bool c]++vs))).eval o2=(do pure (.value (← Instr.extract ((a.put (some k.nx) (.tuple (#[.bool c]++vs))).eval (.tmp k.nx)) 0))):=by unfold execOp;rw[W.op2]
  unfold Oper.wp
  rw[hx2,Hf,if_pos ⟨rfl,hnx⟩]
  have hex:(Instr.extract (.tuple (#[.bool c]++vs)) 0).run P w1=.ok (.bool c) w1:=by
   have h0:(#[Value.bool c]++vs)[0]? =some (.bool c):=by simp[Array.getElem?_append]
   simp only[Instr.extract,h0,Sem.run_pure]
  rw[Sem.run_bind,hex,Result.andThen_ok,Sem.run_pure,Oper.upon_value,W.dst2]
  exact hq
 show wpList P #[o1,o2] Q [o1,o2] a w
 rw[show wpList P #[o1,o2] Q [o1,o2] a w=(if Region.wanted o1 (yielded #[o1,o2] a.tmps)then o1.wp P a w (wpList P #[o1,o2] Q [o2]) Q∨(o1.asks P a w∧LetsOut Q)else wpList P #[o1,o2] Q [o2] (a.put o1.dst undef) w)from rfl]
 rw[if_pos (Ct W.grd1 _)]
 refine .inl ?_
 unfold Oper.wp
 rw[hx1,hit]
 rcases QV (P:=P) (t:=o1.type) hw hm hb with ⟨hall,hrun⟩|⟨x,hx,hns,w1,e1,e2,e3,e4,hrun⟩
 ·rw[Sem.run_bind,hrun,Result.andThen_ok,Sem.run_pure,Oper.upon_value,W.dst1]
  exact two false #[] w (hover hall)
 ·rw[Sem.run_bind,hrun,Result.andThen_ok,Sem.run_pure,Oper.upon_value,W.dst1]
  exact two true #[x.key,x.val] _ (hgo x hx hns _ (by rw[e1]) e2 e3 e4)
theorem BR{φ:Phi}{e:Env}{a:Act}:AR N φ (rhoOf A [] e) a↔a.tmps.size=N∧a.defers=[]∧∀ t,t<208→memN t A=false→RelV φ (e.get t) (a.tmps.getD t undef):=by
 have hr:∀ t u,rhoOf A [] e t=some u↔(memN t A=false∧t<208∧e.get t=u):=fun t u=>by
  rw[CJ]
  show(match memN t A with|true=>none|false=>match Nat.blt t 208 with|true=>some (slotG t e)|false=>none)=some u↔_
  cases memN t A with
  |true=>simp
  |false=>
   cases hb:Nat.blt t 208 with
   |true=>
    have:=Aq.1 hb
    simp only[A8 t this,Option.some.injEq,true_and,this]
   |false=>
    have:¬ t<208:=fun h=>by rw[Aq.2 h]at hb;cases hb
    simp[this]
 constructor
 ·exact fun h=>⟨h.size,h.defs,fun t ht hA=>h.rel t _ ((hr t _).2 ⟨hA,ht,rfl⟩)⟩
 ·exact fun⟨h1,h2,h3⟩=>⟨h1,h2,fun t u hu=>by obtain⟨q1,q2,rfl⟩:=(hr t u).1 hu;exact h3 t q2 q1⟩
theorem CS:∀ (l:List Nat) (e:Env) (t:Nat),(∀ d∈l,d<208)→t<208→(BC e l).get t=if t∈l then .chan none else e.get t
 |[],e,t,_,_=>by simp[BC]
 |d::l,e,t,hl,ht=>by
  unfold BC
  rw[CS l _ t (fun d hd=>hl d (List.mem_cons_of_mem _ hd)) ht,Env.get_set _ _ _ _ (hl d List.mem_cons_self) ht]
  by_cases h1:t∈l
  ·simp[h1]
  ·by_cases h2:t=d
   ·simp[h1,h2]
   ·simp[h1,h2]
theorem LJ:∀ (l:List (Nat×Value)) (e:Env) (t:Nat),(∀ d∈l,d.1<208)→t<208→(Ov e l).get t=e.get t∨(t,(Ov e l).get t)∈l
 |[],e,t,_,_=>.inl rfl
 |d::l,e,t,hl,ht=>by
  unfold Ov
  rcases LJ l (Env.set d.1 d.2 e) t (fun d hd=>hl d (List.mem_cons_of_mem _ hd)) ht with h|h
  ·rw[h,Env.get_set _ _ _ _ (hl d List.mem_cons_self) ht]
   by_cases h2:t=d.1
   ·right
    rw[if_pos h2,h2]
    exact List.mem_cons_self
   ·rw[if_neg h2];exact .inl rfl
  ·exact .inr (List.mem_cons_of_mem _ h)
theorem DP{e:Env}:∀ {l:List Nat},∀ p∈Cm e l,slotG p.1 e=p.2∧∀ (φ ψ:Phi) (v':Value),RelV φ p.2 v'→RelV ψ p.2 v'
 |s::l,p,hp=>by
  unfold Cm at hp
  split at hp
  ·rename_i b hb
   rcases List.mem_cons.1 hp with rfl|hp
   ·exact⟨hb,fun φ ψ v' h=>by cases h;exact .bool _⟩
   ·exact DP p hp
  ·rename_i k n hb
   rcases List.mem_cons.1 hp with rfl|hp
   ·exact⟨hb,fun φ ψ v' h=>by cases h;exact .int _ _⟩
   ·exact DP p hp
  ·exact DP p hp
theorem Iq:∀ {us vs:List (Nat×Value)},Ip us vs=true→us=vs
 |[],[],_=>rfl
 |[],_::_,h=>by cases h
 |_::_,[],h=>by cases h
 |(a,x)::us,(b,y)::vs,h=>by
  unfold Ip at h
  obtain⟨h1,h⟩:=Ai h
  have h1:a=b:=Ae.1 h1
  subst h1
  simp only at h
  split at h
  ·obtain⟨h2,h3⟩:=Ai h
   rw[eq_of_beq h2,Iq h3]
  ·split at h
   ·rename_i hk
    obtain⟨h2,h3⟩:=Ai h
    rw[Ef]at h2
    rw[CM hk,eq_of_beq h2,Iq h3]
   ·cases h
  ·cases h
theorem GP{k:Walk}{body:C}{F:CallF}{e:Env}{h:Hp}{b m last:Nat}:∀ {es:List Ent} {acc r:WR},DC k body F e h b m last es acc=r→r≠.no→
  (∀ us,acc=.stop us→r=.stop us)∧∀ x∈es,∃ bl,h.bl.set b (.pick m x.born last none)=some bl∧
   ((∃ e1 h1,body F (BC e k.ws) {next:=h.next,low:=h.next,high:=0,mark:=h.mark,bl:=bl}=.norm e1 h1∧h.next≤h1.low)∨
    ∃ e1 h1,body F (BC e k.ws) {next:=h.next,low:=h.next,high:=0,mark:=h.mark,bl:=bl}=.ret e1 h1∧h.next≤h1.low∧r=.stop (Cm e1 k.rs))
 |[],acc,r,hr,hn=>by
  have hr:acc=r:=hr
  subst hr
  exact⟨fun us h=>h,fun x hx=>by cases hx⟩
 |x::l,acc,r,hr,hn=>by
  unfold DC at hr
  split at hr
  case h_2=>exact absurd hr.symm hn
  rename_i bl hbl
  split at hr
  ·rename_i e1 h1 hb
   cases hq:Nat.ble h.next h1.low with
   |false=>rw[hq]at hr;exact absurd hr.symm hn
   |true=>
     rw[hq]at hr
     obtain⟨q1,q2⟩:=GP hr hn
     refine⟨q1,fun y hy=>?_⟩
     rcases List.mem_cons.1 hy with rfl|hy
     ·exact⟨bl,hbl,.inl ⟨e1,h1,hb,Ar.1 hq⟩⟩
     ·exact q2 y hy
  ·rename_i e1 h1 hb
   cases hq:Nat.ble h.next h1.low with
   |false=>rw[hq]at hr;exact absurd hr.symm hn
   |true=>
     rw[hq]at hr
     have hr:E0 k e1 acc (DC k body F e h b m last l)=r:=hr
     unfold E0 at hr
     cases acc with
     |go=>
      have hr:DC k body F e h b m last l (.stop (Cm e1 k.rs))=r:=hr
      obtain⟨q1,q2⟩:=GP hr hn
      refine⟨(fun us h=>by cases h),fun y hy=>?_⟩
      rcases List.mem_cons.1 hy with rfl|hy
      ·exact⟨bl,hbl,.inr ⟨e1,h1,hb,Ar.1 hq,q1 _ rfl⟩⟩
      ·exact q2 y hy
     |stop us=>
      cases hs:Ip us (Cm e1 k.rs)with
      |false=>simp only[hs]at hr;exact absurd hr.symm hn
      |true=>
       simp only[hs]at hr
       have hr:DC k body F e h b m last l (.stop us)=r:=hr
       have:=Iq hs
       subst this
       obtain⟨q1,q2⟩:=GP hr hn
       refine⟨q1,fun y hy=>?_⟩
       rcases List.mem_cons.1 hy with rfl|hy
       ·exact⟨bl,hbl,.inr ⟨e1,h1,hb,Ar.1 hq,q1 _ rfl⟩⟩
       ·exact q2 y hy
     |no=>exact absurd hr.symm hn
  ·exact absurd hr.symm hn
theorem CZ{clk:Nat}:∀ {es:List Ent} {lo:Nat},CL clk lo es=true→∀ x∈es,lo≤x.born∧x.born<clk
 |e::l,lo,h,x,hx=>by
  unfold CL at h
  obtain⟨h1,h⟩:=Ai h
  obtain⟨h2,h⟩:=Ai h
  have h1:=Ar.1 h1
  have h2:=Aq.1 h2
  rcases List.mem_cons.1 hx with rfl|hx
  ·exact⟨h1,h2⟩
  ·have:=CZ h x hx
   have h3:e.born+1≤x.born:=this.1
   exact⟨by omega,this.2⟩
theorem FG{φ:Phi}:∀ {es:List Ent} {es':List MapEntry} {x':MapEntry},RelE φ es es'→x'∈es'→∃ x∈es,x.born=x'.born
 |_,_,x',.cons (k:=k) (v:=v) (b:=b) hk hv t,hx=>by
  rcases List.mem_cons.1 hx with rfl|hx
  ·exact⟨⟨k,v,b⟩,List.mem_cons_self,rfl⟩
  ·obtain⟨x,h1,h2⟩:=FG t hx
   exact⟨x,List.mem_cons_of_mem _ h1,h2⟩
theorem In{φ:Phi}{clk:Nat}:∀ {es:List Ent} {es':List MapEntry} {lo:Nat} {x':MapEntry},RelE φ es es'→CL clk lo es=true→x'∈es'→∃ x,EL x'.born es=some x∧RelV φ x.key x'.key∧RelV φ x.val x'.val
 |_,_,lo,x',.cons (k:=k) (v:=v) (b:=b) (l:=l) hk hv t,hr,hx=>by
  unfold EL
  rcases List.mem_cons.1 hx with rfl|hx
  ·rw[Nat.beq_refl];exact⟨_,rfl,hk,hv⟩
  ·unfold CL at hr
   obtain⟨_,hr⟩:=Ai hr
   obtain⟨_,hr⟩:=Ai hr
   obtain⟨y,hy,he⟩:=FG t hx
   have h3:b+1≤y.born:=(CZ hr y hy).1
   have hb:Nat.beq b x'.born=false:=by
    cases hb:Nat.beq b x'.born with
    |false=>rfl
    |true=>have:=Ae.1 hb;omega
   rw[hb]
   exact In t hr hx
theorem MN{k:Walk}{body:C}{F:CallF}{e:Env}{h:Hp}{b m last:Nat}:∀ {es:List Ent} {acc r:WR},DC k body F e h b m last es acc=r→r≠.no→
  (∀ x∈es,∀ bl,h.bl.set b (.pick m x.born last none)=some bl→∃ e1 h1,body F (BC e k.ws) {next:=h.next,low:=h.next,high:=0,mark:=h.mark,bl:=bl}=.norm e1 h1)→r=acc
 |[],acc,r,hr,hn,_=>hr.symm
 |x::l,acc,r,hr,hn,hg=>by
  unfold DC at hr
  split at hr
  case h_2=>exact absurd hr.symm hn
  rename_i bl hbl
  obtain⟨e1,h1,he⟩:=hg x List.mem_cons_self bl hbl
  rw[he]at hr
  simp only at hr
  cases hq:Nat.ble h.next h1.low with
  |false=>rw[hq]at hr;exact absurd hr.symm hn
  |true=>rw[hq]at hr;exact MN hr hn fun y hy=>hg y (List.mem_cons_of_mem _ hy)
theorem RX{k:Walk}{a0:Code}{id:Nat}{o1 o2:Oper}{r2:Code}(W:WalkIs A a0 k id o1 o2 r2):
  codeC ty A a0 [] none=cOp (slotT k.nx) (Eo (slotG k.it)) (cOp (slotT k.more) (AG 0 (slotG k.nx)) (codeC ty A (.seq (.cond (.tmp k.more) .skip (.exit k.out)) r2) [] none)):=by
 have hA:∀ t,memN t A=false→t<208→cO ⟨A,[]⟩ (.tmp t)=some (slotG t):=fun t h1 h2=>by
  show(match KV A [] (.tmp t)with|some s=>some (HO s)|none=>none)=_
  show(match (match memN t A with|true=>none|false=>match Nat.blt t 208 with|true=>some (Src.s t)|false=>none)with|some s=>some (HO s)|none=>none)=_
  rw[h1,Aq.2 h2]
  rfl
 rw[W.code]
 show codeC ty A (.region id #[o1,o2] false) [] (some fun σ=>codeC ty A (.seq (.cond (.tmp k.more) .skip (.exit k.out)) r2) σ none)=_
 show opsC ty A [o1,o2] (HB (some fun σ=>codeC ty A (.seq (.cond (.tmp k.more) .skip (.exit k.out)) r2) σ none)) [] [o1,o2] []=_
 unfold opsC
 rw[W.grd1,W.dst1]
 simp only[W.nxA,Aq.2 W.nxL]
 unfold opsC
 rw[W.grd2,W.dst2]
 simp only[W.moA,Aq.2 W.moL]
 have e1:opC ty ⟨A,[]⟩ o1.op=Eo (slotG k.it):=by
  rw[W.op1]
  show w1 ⟨A,[]⟩ (.tmp k.it) (fun x=>Eo x)=_
  unfold w1
  rw[hA _ W.itA W.itL]
 have e2:opC ty ⟨A,DL k.nx []⟩ o2.op=AG 0 (slotG k.nx):=by
  rw[W.op2]
  show w1 ⟨A,[]⟩ (.tmp k.nx) (fun t=>AG 0 t)=_
  unfold w1
  rw[hA _ W.nxA W.nxL]
 rw[e1,e2]
 rfl
theorem J2{t:(Env→X)→Value→Env→X}{f:OpF}{k:C}{e:Env}{h h':Hp}{v:Value}(hf:f F e h=.ok v h'):cOp t f k F e h=t (fun e=>k F e h') v e:=by
 unfold cOp
 rw[hf]
theorem Ul{t:(Env→X)→Value→Env→X}{f:OpF}{k:C}{e:Env}{h:Hp}(hf:f F e h=.no):cOp t f k F e h=.no:=by
 unfold cOp
 rw[hf]
theorem OJ{k:Walk}{a0:Code}{id:Nat}{o1 o2:Oper}{r2:Code}(W:WalkIs A a0 k id o1 o2 r2){e:Env}{h:Hp}{ad:Addr}{m s last c lo hi mk:Nat}{es:List Ent}{x:Ent}{bl:BT}{sn:Option (List Nat)}{Y:Go.Proofs.YtglkncnkbofgfaaGreat.X}
  (hit:slotG k.it e=.pointer (some ad))(hoff:Nat.beq ad.off 0=true)(hm:BG h m=.ok es c)(hmb:m≠ad.block)(hx:EL s es=some x)(hbl:h.bl.set ad.block (.pick m s last sn)=some bl)
  (hr:codeC ty A a0 [] none F e {next:=h.next,low:=lo,high:=hi,mark:=mk,bl:=bl}=Y)(hn:Y≠.no):
  ∃ bl',bl.set ad.block (Lr m s last sn)=some bl'∧
   codeC ty A (.seq (.cond (.tmp k.more) .skip (.exit k.out)) r2) [] none F (Env.set k.more (.bool true) (Env.set k.nx (.tuple ⟨[.bool true,x.key,x.val]⟩) e)) {next:=h.next,low:=lo,high:=hi,mark:=mk,bl:=bl'}=Y:=by
 rw[RX W]at hr
 have hb:bl.get ad.block=.pick m s last sn:=by rw[BT.get_set _ _ _ _ hbl,if_pos rfl]
 have hme:BG ({next:=h.next,low:=lo,high:=hi,mark:=mk,bl:=bl}:Hp) m=.ok es c:=by
  show Rw (bl.get m)=_
  rw[BT.get_set _ _ _ _ hbl,if_neg hmb];exact hm
 have hnx:Eo (slotG k.it) F e {next:=h.next,low:=lo,high:=hi,mark:=mk,bl:=bl}=match bl.set ad.block (Lr m s last sn)with
   |some bl'=>.ok (.tuple ⟨[.bool true,x.key,x.val]⟩) {next:=h.next,low:=lo,high:=hi,mark:=mk,bl:=bl'}
   |none=>.no:=by
  unfold Eo
  rw[hit]
  show(bif Nat.beq ad.off 0 then LV ad _ else .no)=_
  rw[hoff]
  show LV ad _=_
  unfold LV
  simp only
  rw[hb]
  show(match BG ({next:=h.next,low:=lo,high:=hi,mark:=mk,bl:=bl}:Hp) m with|.ok es _=>_|.no=>_)=_
  rw[hme]
  simp only[hx]
  cases bl.set ad.block (Lr m s last sn)<;>rfl
 cases hs:bl.set ad.block (Lr m s last sn)with
 |none=>
  rw[hs]at hnx
  rw[Ul hnx]at hr
  exact absurd hr.symm hn
 |some bl'=>
  refine⟨bl',rfl,?_⟩
  rw[hs]at hnx
  rw[← hr]
  have hex:AG 0 (slotG k.nx) F (Env.set k.nx (.tuple ⟨[.bool true,x.key,x.val]⟩) e) {next:=h.next,low:=lo,high:=hi,mark:=mk,bl:=bl'}=.ok (.bool true) {next:=h.next,low:=lo,high:=hi,mark:=mk,bl:=bl'}:=by
   unfold AG
   rw[A8 _ W.nxL,Env.get_set _ _ _ _ W.nxL W.nxL,if_pos rfl]
   rfl
  symm
  rw[J2 hnx,CO _ W.nxL,J2 hex,CO _ W.moL]
structure Rd (A:List Nat)(N:Nat)(φ:Phi)(ws:List Nat)(e:Env)(w:World)(pb qb c:Nat)(seen:List Nat)(ak:Act)(wk:World):Prop where
 size:ak.tmps.size=N
 defs:ak.defers=[]
 slots:∀ t,t<208→memN t A=false→t∉ws→RelV φ (e.get t) (ak.tmps.getD t undef)
 grow:w.heap.size≤wk.heap.size
 same:∀ j,j<w.heap.size→j≠pb→wk.heap[j]? =w.heap[j]?
 tape:wk.tape=w.tape
 os:wk.os=w.os
 output:wk.output=w.output
 iter:wk.heap[pb]? =some (.mapIter (some qb) c ⟨seen⟩ c)
theorem GG{φ:Phi}:∀ {es:List Ent} {es':List MapEntry} {x:Ent},RelE φ es es'→x∈es→∃ x'∈es',x'.born=x.born
 |_,_,x,.cons (k':=k) (v':=v) (b:=b) hk hv t,hx=>by
  rcases List.mem_cons.1 hx with rfl|hx
  ·exact⟨⟨k,v,b⟩,List.mem_cons_self,rfl⟩
  ·obtain⟨x,h1,h2⟩:=GG t hx
   exact⟨x,List.mem_cons_of_mem _ h1,h2⟩
theorem Ge{n:Nat}:∀ {es:List Ent} {x:Ent},EL n es=some x→x∈es∧x.born=n
 |y::l,x,h=>by
  unfold EL at h
  cases hb:Nat.beq y.born n with
  |true=>rw[hb]at h;cases h;exact⟨List.mem_cons_self,Ae.1 hb⟩
  |false=>
   rw[hb]at h
   obtain⟨h1,h2⟩:=Ge h
   exact⟨List.mem_cons_of_mem _ h1,h2⟩
theorem JR{p q:MapEntry→Bool}(h:∀ x,p x=true→q x=true):∀ l:List MapEntry,(l.filter p).length≤(l.filter q).length
 |[]=>Nat.le_refl _
 |x::l=>by
  have ih:=JR h l
  rw[List.filter_cons,List.filter_cons]
  cases hp:p x with
  |true=>rw[h x hp];simpa using ih
  |false=>
   cases q x with
   |true=>simp;omega
   |false=>simpa using ih
theorem JS{p q:MapEntry→Bool}(h:∀ x,p x=true→q x=true){y:MapEntry}(hq:q y=true)(hp:p y=false):∀ {l:List MapEntry},y∈l→(l.filter p).length+1≤(l.filter q).length
 |x::l,hm=>by
  rw[List.filter_cons,List.filter_cons]
  rcases List.mem_cons.1 hm with rfl|hm
  ·rw[hq,hp]
   have:=JR h l
   simp;omega
  ·have ih:=JS h hq hp hm
   cases hx:p x with
   |true=>rw[h x hx];simpa using ih
   |false=>
    cases q x with
    |true=>simp;omega
    |false=>simpa using ih
theorem dO{seen:List Nat}{x':MapEntry}{es:List MapEntry}(hx:x'∈es)(hn:x'.born∉seen):(es.filter (fun x=> !(seen++[x'.born]).contains x.born)).length+1≤(es.filter (fun x=> !seen.contains x.born)).length:=
 JS (fun x h=>by
  simp only[Bool.not_eq_true',List.contains_eq_mem,decide_eq_false_iff_not]at h ⊢
  exact fun h2=>h (List.mem_append_left _ h2)) (by simpa using hn) (by simp) hx
theorem Km{b:Bool}{Y X:Go.Proofs.YtglkncnkbofgfaaGreat.X}(h:(bif b then Y else .no)=X)(hn:X≠.no):b=true∧Y=X:=by
 cases b with
 |false=>exact absurd h.symm hn
 |true=>exact⟨rfl,h⟩
theorem Td{k:Walk}{a0:Code}{id:Nat}{o1 o2:Oper}{r2:Code}(W:WalkIs A a0 k id o1 o2 r2)(hd:k.nx<N∧k.more<N)
  (ih:∀ {e:Env} {h:Hp} {X:Go.Proofs.YtglkncnkbofgfaaGreat.X},codeC ty A (.seq (.cond (.tmp k.more) .skip (.exit k.out)) r2) [] none F e h=X→X≠.no→∀ (φ:Phi) (w:World) (a:Act),RelW ty φ nil h w→AR N φ (rhoOf A [] e) a→∀ (Q:Exit→Act→World→Prop),Post ty A N F φ h w none X Q→(Code.seq (.cond (.tmp k.more) .skip (.exit k.out)) r2).wp P Q a w)
  {e:Env}{h:Hp}{X:Go.Proofs.YtglkncnkbofgfaaGreat.X}{ad:Addr}{m since last c:Nat}{es:List Ent}(hit:slotG k.it e=.pointer (some ad))(hiter:Di (h.bl.get ad.block)=.ok (some m) since [] last)(hents:BG h m=.ok es c)
  (hr:Fk k (codeC ty A a0 [] none) F e h ad m since last es c=X)(hn:X≠.no){φ:Phi}{w:World}{a:Act}(H:RelW ty φ nil h w)(HA:AR N φ (rhoOf A [] e) a){Q:Exit→Act→World→Prop}
  (pe:∀ id e h' ψ a' w',Good ty A N φ h w [] e h' ψ a' w'→X=.exit id e h'→Q (.exit id) a' w')(pr:∀ e h' ψ a' w',Good ty A N φ h w [] e h' ψ a' w'→X=.ret e h'→Q .ret a' w'):
  (Code.loop a0).wp P Q a w:=by
 unfold Fk at hr
 obtain⟨hoff,hr1⟩:=Km hr hn
 obtain⟨h256,hr2⟩:=Km hr1 hn
 obtain⟨hcs,hr3⟩:=Km hr2 hn
 obtain⟨hcl,hr4⟩:=Km hr3 hn
 obtain⟨hris,hr5⟩:=Km hr4 hn
 clear hr hr1 hr2 hr3 hr4
 have hr:=hr5
 clear hr5
 have h256:=Ar.1 h256
 have hcs:=Ae.1 hcs
 have hcl:=Ae.1 hcl
 subst hcs;subst hcl
 unfold KZ at hr
 cases hkill:h.bl.set ad.block .dead with
 |none=>rw[hkill]at hr;exact absurd hr.symm hn
 |some bld=>
 rw[hkill]at hr
 simp only at hr
 generalize hrr:DC k (codeC ty A a0 [] none) F e h ad.block m c es .go=r at hr
 have hrn:r≠.no:=fun h=>by rw[h]at hr;exact hn hr.symm
 obtain⟨_,hrounds⟩:=GP hrr hrn
 have hbi:=D2 hiter
 obtain⟨hsz,hdf,hslots⟩:=BR.1 HA
 have hitR:=hslots k.it W.itL W.itA
 rw[← A8 k.it W.itL,hit]at hitR
 obtain⟨ad',had',hra⟩:=hitR.ptr_inv
 obtain⟨pb,hpb,rfl⟩:=hra.eq
 have hoff0:ad.off=0:=Ae.1 hoff
 have hrow:=H.row ad.block pb hpb (fun h=>h)
 rw[hbi]at hrow
 obtain⟨q,hp0,hq,hwi⟩:∃ q,pb.off=0∧φ m=some q∧w.heap[pb.blk]? =some (.mapIter (some q.blk) c ⟨[]⟩ c):=by
  generalize w.heap[pb.blk]? =ob at hrow
  cases hrow with
  |iter h1 h2=>exact⟨_,h1,h2,rfl⟩
 obtain⟨es',hwm,hrel⟩:=H.entsAt hq (fun h=>h) hents
 have hqb:q.blk≠pb.blk:=fun h=>by rw[h,hwi]at hwm;cases hwm
 have hmb:m≠ad.block:=fun h=>by
  have:=CE hents
  rw[h,hbi]at this;cases this
 have hin:=H.notInp hpb h256
 have hlive:Live h ad.block:=by unfold Live;rw[hbi];intro h;cases h
 have hpbs:=(H.dom _ _ hpb).2
 have hborn:∀ x∈es',x.born<c:=fun x hx=>by
  obtain⟨y,hy,he⟩:=FG hrel hx
  rw[← he];exact(CZ hris y hy).2
 have hsep:∀ i p,φ i=some p→i≠ad.block→Live h i→p.blk≠pb.blk:=fun i p hp hi hl hb=>
  hi (H.inj i ad.block p pb hp hpb (fun h=>h) (fun h=>h) hl hlive (.inr hin) hb)
 have base:∀ (o:Blk) (bl:BT) (lo hi mk:Nat) (wk:World),(∀ i,bl.get i=if i=ad.block then o else h.bl.get i)→w.heap.size≤wk.heap.size→(∀ j,j<w.heap.size→j≠pb.blk→wk.heap[j]? =w.heap[j]?)→
   RelB ty φ pb o wk.heap[pb.blk]?→(∀ cc s el,o≠.cells cc s el)→RelW ty φ nil {next:=h.next,low:=lo,high:=hi,mark:=mk,bl:=bl} wk:=fun o bl lo hi mk wk hbl hs hsame hB hoc=>{
  dom:=fun i p hp=>⟨(H.dom i p hp).1,Nat.lt_of_lt_of_le (H.dom i p hp).2 hs⟩
  inj:=fun i j p q hp hq _ _ hi hj hio hpq=>by
   have lv:∀ i,bl.get i≠.dead→Live h i:=fun i hi=>by
    by_cases hib:i=ad.block
    ·rw[hib];exact hlive
    ·rw[hbl,if_neg hib]at hi;exact hi
   exact H.inj i j p q hp hq (fun h=>h) (fun h=>h) (lv i hi) (lv j hj) hio hpq
  row:=fun i p hp _=>by
   show RelB ty φ p (bl.get i) _
   rw[hbl]
   by_cases hib:i=ad.block
   ·rw[if_pos hib]
    subst hib
    rw[hpb]at hp;cases hp
    exact hB
   ·rw[if_neg hib]
    by_cases hdd:h.bl.get i=.dead
    ·rw[hdd];exact .dead
    ·rw[hsame p.blk (H.dom i p hp).2 (hsep i p hp hib hdd)]
     exact H.row i p hp (fun h=>h)
  fresh:=fun i hi=>by
   have hi:h.next≤i:=hi
   show bl.get i=_
   have:=(H.dom _ _ hpb).1
   rw[hbl,if_neg (by omega)];exact H.fresh i hi
  kind:=fun i p cc s el hp he=>by
   have he:bl.get i=.cells cc s el:=he
   rw[hbl]at he
   by_cases hib:i=ad.block
   ·rw[if_pos hib]at he;exact absurd he (hoc _ _ _)
   ·rw[if_neg hib]at he;exact H.kind i p cc s el hp he
  inp:=H.inp}
 let hend:Hp:={next:=h.next,low:=A3 h.low ad.block,high:=BH h.high ad.block,mark:=h.mark,bl:=bld}
 have hbld:∀ i,bld.get i=if i=ad.block then .dead else h.bl.get i:=fun i=>BT.get_set _ _ _ _ hkill i
 have evoEnd:∀ wk:World,w.heap.size≤wk.heap.size→(∀ j,j<w.heap.size→j≠pb.blk→wk.heap[j]? =w.heap[j]?)→wk.tape=w.tape→wk.os=w.os→wk.output=w.output→Evo φ h w φ hend wk:=fun wk hs hsame h1 h2 h3=>{
  le:=.refl φ
  new:=fun _ _ e=>.inl e
  next:=Nat.le_refl _
  size:=hs
  tape:=h1
  os:=h2
  output:=h3
  frame:=fun j hj hf=>hsame j hj fun hjp=>hf ad.block pb hpb hin (by show A3 _ _≤_;rw[A0];exact Nat.min_le_right _ _) (by show _≤BH _ _;rw[A6];exact Nat.le_max_right _ _) hlive hjp.symm
  back:=fun i p hp hl _=>by
   refine⟨i,p,hp,?_,rfl,rfl,.inl rfl⟩
   intro hdd;apply hl
   show bld.get i=_
   rw[hbld];split
   ·rfl
   ·exact hdd
  kept:=fun i _ hi=>by
   show bld.get i=_
   have hi:i<A3 h.low ad.block∨BH h.high ad.block<i:=hi
   rw[A0,A6]at hi
   rw[hbld,if_neg (by omega)]
  low:=by show A3 _ _≤_;rw[A0];exact Nat.min_le_left _ _
  high:=by show _≤BH _ _;rw[A6];exact Nat.le_max_left _ _
  shape:=fun i _=>by
   show ShapeLe _ (bld.get i)
   rw[hbld];split
   ·exact .inl rfl
   ·exact .refl _
  only:=fun i _ h0=>by
   show bld.get i=_
   rw[hbld,if_neg (fun e=>by rw[e,hpb]at h0;cases h0)]
  all:=fun _ h1 h2=>absurd h2 (Nat.not_lt.2 h1)}
 have hkeep:BD k.ws (codeC ty A (.seq (.cond (.tmp k.more) .skip (.exit k.out)) r2) [] none):=BF _ (fun d hd=>by
  rw[W.ws,W.code]
  exact List.mem_append_right _ hd) (fun _ h=>by cases h)
 have hnxw:k.nx∈k.ws:=by rw[W.ws,W.code];show _∈EP [o1,o2]++_;simp[EP,W.dst1,W.dst2]
 have hmow:k.more∈k.ws:=by rw[W.ws,W.code];show _∈EP [o1,o2]++_;simp[EP,W.dst1,W.dst2]
 have hcg:∀ t,t<208→(BC e k.ws).get t=if t∈k.ws then .chan none else e.get t:=fun t ht=>CS _ _ _ W.few ht
 have hcut:∀ {ψ:Phi} {v v' v'':Value},φ.Le ψ→RelV ψ v v'→RelV φ v v''→RelV φ v v':=fun {ψ v v' v''} hle h1 h2=>RelV.cut (χ:=φ) (fun b p hp ⟨q,hq⟩=>by
  have:=hle b q hq
  rw[hp]at this;cases this
  exact hq) h1 h2
 have hevit:∀ {ak:Act},RelV φ (e.get k.it) (ak.tmps.getD k.it undef)→ak.eval (.tmp k.it)=.pointer (some ⟨pb.blk,0,none⟩):=fun {ak} h1=>by
  rw[← A8 k.it W.itL,hit]at h1
  obtain⟨a2,ha2,hr2⟩:=h1.ptr_inv
  obtain⟨p2,hp2,rfl⟩:=hr2.eq
  rw[hpb]at hp2;cases hp2
  show ak.tmps.getD k.it undef=_
  rw[ha2,hp0,hoff0]
 have putD:∀ (ak:Act) (v1 v2:Value) (t:Nat),ak.tmps.size=N→t<208→((ak.put (some k.nx) v1).put (some k.more) v2).tmps.getD t undef=if t=k.more then v2 else if t=k.nx then v1 else ak.tmps.getD t undef:=fun ak v1 v2 t hs ht=>by
  rw[BS,BJ,BS]
  by_cases h1:t=k.more
  ·rw[if_pos ⟨by rw[h1],by rw[h1,hs];exact hd.2⟩,if_pos h1]
  ·rw[if_neg (fun h=>h1 (Option.some.inj h.1).symm),if_neg h1]
   by_cases h2:t=k.nx
   ·rw[if_pos ⟨by rw[h2],by rw[h2,hs];exact hd.1⟩,if_pos h2]
   ·rw[if_neg (fun h=>h2 (Option.some.inj h.1).symm),if_neg h2]
 have round:∀ (K:Act→World→Prop) (seen:List Nat) (ak:Act) (wk:World),Rd A N φ k.ws e w pb.blk q.blk c seen ak wk→
   (∀ x∈es,x.born∈seen→∀ bl,h.bl.set ad.block (.pick m x.born c none)=some bl→∃ e1 h1,codeC ty A a0 [] none F (BC e k.ws) {next:=h.next,low:=h.next,high:=0,mark:=h.mark,bl:=bl}=.norm e1 h1)→
   (∀ x'∈es',x'.born∉seen→∀ a2 w2,Rd A N φ k.ws e w pb.blk q.blk c (seen++[x'.born]) a2 w2→
    (∀ x∈es,x.born∈seen++[x'.born]→∀ bl,h.bl.set ad.block (.pick m x.born c none)=some bl→∃ e1 h1,codeC ty A a0 [] none F (BC e k.ws) {next:=h.next,low:=h.next,high:=0,mark:=h.mark,bl:=bl}=.norm e1 h1)→K a2 w2)→
   a0.wp P (Exit.then K Q) ak wk:=by
  intro K seen ak wk R hg hK
  have hmk:wk.heap[q.blk]? =some (.map ⟨es'⟩ c):=by rw[R.same q.blk (H.dom _ _ hq).2 hqb];exact hwm
  rw[W.code]
  refine wp_seq (Gu W (pb:=pb.blk) (mb:=q.blk) (clk:=c) (seen:=seen) (es:=es') (hevit (R.slots k.it W.itL W.itA W.itW)) (by rw[R.size];exact hd.1) R.iter hmk hborn (fun hall=>?_) (fun x' hx' hns w1 e1 e2' e3 e4=>?_))
  ·
   show(Code.seq (.cond (.tmp k.more) .skip (.exit k.out)) r2).wp P (Exit.then K Q) ((ak.put (some k.nx) (.tuple #[.bool false])).put (some k.more) (.bool false)) wk
   refine wp_seq (wp_cond_false ?_ (wp_exit ?_))
   ·show((ak.put (some k.nx) (.tuple #[.bool false])).put (some k.more) (.bool false)).tmps.getD k.more undef=_
    rw[putD _ _ _ _ R.size W.moL,if_pos rfl]
   ·show Q (.exit k.out) ((ak.put (some k.nx) (.tuple #[.bool false])).put (some k.more) (.bool false)) wk
    have hgo:r=.go:=MN hrr hrn fun x hx bl hbl=>hg x hx (by
     obtain⟨x',hx',he⟩:=GG hrel hx
     rw[← he];exact hall x' hx') bl hbl
    subst hgo
    refine pe k.out _ hend φ _ wk ⟨.nil A,base .dead bld _ _ _ wk hbld R.grow R.same .dead (fun _ _ _ h=>by cases h),BR.2 ⟨by rw[BJ,BJ];exact R.size,by rw[BZ,BZ];exact R.defs,fun t ht hA=>?_⟩,evoEnd wk R.grow R.same R.tape R.os R.output⟩ hr.symm
    rw[putD _ _ _ _ R.size ht,Env.get_set _ _ _ _ W.moL ht,hcg t ht]
    by_cases q1:t=k.more
    ·rw[if_pos q1,if_pos q1];exact .bool _
    ·rw[if_neg q1,if_neg q1]
     by_cases q2:t∈k.ws
     ·rw[if_pos q2];exact .unk
     ·rw[if_neg q2,if_neg (fun h:t=k.nx=>q2 (h ▸ hnxw))]
      exact R.slots t ht hA q2
  ·
   show(Code.seq (.cond (.tmp k.more) .skip (.exit k.out)) r2).wp P (Exit.then K Q) ((ak.put (some k.nx) (.tuple #[.bool true,x'.key,x'.val])).put (some k.more) (.bool true)) w1
   obtain⟨x,hfx,hkr,hvr⟩:=In hrel hris hx'
   obtain⟨hxm,hxb⟩:=Ge hfx
   obtain⟨bl,hbl,hor⟩:=hrounds x hxm
   have hitc:slotG k.it (BC e k.ws)=.pointer (some ad):=by
    rw[A8 _ W.itL,hcg _ W.itL,if_neg W.itW,← A8 _ W.itL];exact hit
   have hws1:w1.heap.size=wk.heap.size:=by rw[e1];simp
   have hw1p:w1.heap[pb.blk]? =some (.mapIter (some q.blk) c ⟨seen++[x'.born]⟩ c):=by
    have hlt:pb.blk<wk.heap.size:=Nat.lt_of_lt_of_le hpbs R.grow
    rw[e1,Array.getElem?_setIfInBounds,if_pos rfl,if_pos hlt]
   have hw1s:∀ j,j<w.heap.size→j≠pb.blk→w1.heap[j]? =w.heap[j]?:=fun j hj hjp=>by
    rw[e1,Array.getElem?_setIfInBounds,if_neg (fun h=>hjp h.symm)];exact R.same j hj hjp
   have grow1:w.heap.size≤w1.heap.size:=by rw[hws1];exact R.grow
   have step:∀ Y:Go.Proofs.YtglkncnkbofgfaaGreat.X,codeC ty A a0 [] none F (BC e k.ws) {next:=h.next,low:=h.next,high:=0,mark:=h.mark,bl:=bl}=Y→Y≠.no→
     (∀ e2 h2,(Y=.norm e2 h2∨Y=.ret e2 h2)→h.next≤h2.low)→(∀ i e2 h2,Y≠.exit i e2 h2)→
     (∀ (e2:Env) (h2:Hp) (a2:Act) (w2:World),Y=.norm e2 h2→Rd A N φ k.ws e w pb.blk q.blk c (seen++[x'.born]) a2 w2→K a2 w2)→
     (∀ (e2:Env) (h2:Hp) (ψ:Phi) (a2:Act) (w2:World),Y=.ret e2 h2→Rd A N φ k.ws e w pb.blk q.blk c (seen++[x'.born]) a2 w2→(∀ t,t<208→memN t A=false→RelV ψ (e2.get t) (a2.tmps.getD t undef))→Q .ret a2 w2)→
     (Code.seq (.cond (.tmp k.more) .skip (.exit k.out)) r2).wp P (Exit.then K Q) ((ak.put (some k.nx) (.tuple #[.bool true,x'.key,x'.val])).put (some k.more) (.bool true)) w1:=by
    intro Y hY hYn hlow hne hnorm hret
    obtain⟨bl',hbl',hB⟩:=OJ W (x:=x) (s:=x.born) hitc hoff hents hmb (by rw[hxb];exact hfx) hbl hY hYn
    have hblc:∀ i,bl'.get i=if i=ad.block then .cur m x.born c else h.bl.get i:=fun i=>by
     rw[BT.get_set _ _ _ _ hbl',BT.get_set _ _ _ _ hbl]
     split<;>rfl
    have HR:=base (.cur m x.born c) bl' h.next 0 h.mark w1 hblc grow1 hw1s (by rw[hw1p];exact .cur hp0 hq (by rw[hxb];simp)) (fun _ _ _ h=>by cases h)
    have HAR:AR N φ (rhoOf A [] (Env.set k.more (.bool true) (Env.set k.nx (.tuple ⟨[.bool true,x.key,x.val]⟩) (BC e k.ws)))) ((ak.put (some k.nx) (.tuple #[.bool true,x'.key,x'.val])).put (some k.more) (.bool true)):=by
     refine BR.2 ⟨by rw[BJ,BJ];exact R.size,by rw[BZ,BZ];exact R.defs,fun t ht hA=>?_⟩
     rw[putD _ _ _ _ R.size ht,Env.get_set _ _ _ _ W.moL ht,Env.get_set _ _ _ _ W.nxL ht,hcg t ht]
     by_cases q1:t=k.more
     ·rw[if_pos q1,if_pos q1];exact .bool _
     ·rw[if_neg q1,if_neg q1]
      by_cases q2:t=k.nx
      ·rw[if_pos q2,if_pos q2];exact .tuple (.cons (.bool _) (.cons hkr (.cons hvr .nil)))
      ·rw[if_neg q2,if_neg q2]
       by_cases q3:t∈k.ws
       ·rw[if_pos q3];exact .unk
       ·rw[if_neg q3];exact R.slots t ht hA q3
    have after:∀ (e2:Env) (h2:Hp) (ψ:Phi) (a2:Act) (w2:World),(Y=.norm e2 h2∨Y=.ret e2 h2)→Good ty A N φ {next:=h.next,low:=h.next,high:=0,mark:=h.mark,bl:=bl'} w1 [] e2 h2 ψ a2 w2→
      Rd A N φ k.ws e w pb.blk q.blk c (seen++[x'.born]) a2 w2:=fun e2 h2 ψ a2 w2 hx g=>by
     obtain⟨g1,g2,g3⟩:=BR.1 g.ar
     have hl:=hlow e2 h2 hx
     have hfr:∀ j,j<w1.heap.size→w2.heap[j]? =w1.heap[j]?:=fun j hj=>g.evo.frame j hj fun i p hp _ hl2 _ _=>by
      have:=(HR.dom i p hp).1
      have h3:i<h.next:=this
      omega
     have hag:=hkeep F (Env.set k.more (.bool true) (Env.set k.nx (.tuple ⟨[.bool true,x.key,x.val]⟩) (BC e k.ws))) {next:=h.next,low:=h.next,high:=0,mark:=h.mark,bl:=bl'}
     rw[hB]at hag
     have hag:Ag k.ws (Env.set k.more (.bool true) (Env.set k.nx (.tuple ⟨[.bool true,x.key,x.val]⟩) (BC e k.ws))) e2:=by
      rcases hx with rfl|rfl<;>exact hag
     exact {
      size:=g1
      defs:=g2
      slots:=fun t ht hA hw=>by
       have q1:=g3 t ht hA
       rw[hag t ht hw,Env.get_set _ _ _ _ W.moL ht,if_neg (fun h:t=k.more=>hw (h ▸ hmow)),Env.get_set _ _ _ _ W.nxL ht,if_neg (fun h:t=k.nx=>hw (h ▸ hnxw)),hcg t ht,if_neg hw]at q1
       exact hcut g.evo.le q1 (R.slots t ht hA hw)
      grow:=Nat.le_trans grow1 g.evo.size
      same:=fun j hj hjp=>by rw[hfr j (Nat.lt_of_lt_of_le hj grow1)];exact hw1s j hj hjp
      tape:=g.evo.tape.trans (e2'.trans R.tape)
      os:=g.evo.os.trans (e3.trans R.os)
      output:=g.evo.output.trans (e4.trans R.output)
      iter:=by rw[hfr pb.blk (Nat.lt_of_lt_of_le hpbs grow1)];exact hw1p}
    refine ih hB hYn φ w1 _ HR HAR _ {go:=(fun _ h=>by cases h),norm:=fun _ e2 h2 ψ a2 w2 g hx=>?_,exit:=fun i e2 h2 ψ a2 w2 g hx=>absurd hx (hne i e2 h2),ret:=fun e2 h2 ψ a2 w2 g hx=>?_}
    ·exact hnorm e2 h2 a2 w2 hx (after e2 h2 ψ a2 w2 (.inl hx) g)
    ·exact hret e2 h2 ψ a2 w2 hx (after e2 h2 ψ a2 w2 (.inr hx) g) (BR.1 g.ar).2.2
   rcases hor with ⟨e1',h1',hY,hlow⟩|⟨e1',h1',hY,hlow,hrs⟩
   ·refine step _ hY (fun h=>by cases h) (fun e2 h2 hx=>by rcases hx with hx|hx<;>cases hx;exact hlow) (fun _ _ _ h=>by cases h) (fun e2 h2 a2 w2 hx R2=>hK x' hx' hns a2 w2 R2 fun y hy hyb bl2 hbl2=>?_) (fun _ _ _ _ _ hx=>by cases hx)
    rcases List.mem_append.1 hyb with hyb|hyb
    ·exact hg y hy hyb bl2 hbl2
    ·have hyb:y.born=x'.born:=by simpa using hyb
     have e5:y.born=x.born:=hyb.trans hxb.symm
     rw[e5]at hbl2
     rw[hbl]at hbl2;cases hbl2
     exact⟨_,_,hY⟩
   ·refine step _ hY (fun h=>by cases h) (fun e2 h2 hx=>by rcases hx with hx|hx<;>cases hx;exact hlow) (fun _ _ _ h=>by cases h) (fun _ _ _ _ hx=>by cases hx) (fun e2 h2 ψ a2 w2 hx R2 hsl=>?_)
    cases hx
    subst hrs
    have hul:∀ d∈Cm e1' k.rs,d.1<208:=fun d hd=>W.few _ (W.rs _ (Ev d hd))
    refine pr _ hend φ a2 w2 ⟨.nil A,base .dead bld _ _ _ w2 hbld R2.grow R2.same .dead (fun _ _ _ h=>by cases h),BR.2 ⟨R2.size,R2.defs,fun t ht hA=>?_⟩,evoEnd w2 R2.grow R2.same R2.tape R2.os R2.output⟩ hr.symm
    rcases LJ (Cm e1' k.rs) (BC e k.ws) t hul ht with h3|h3
    ·rw[h3,hcg t ht]
     by_cases q3:t∈k.ws
     ·rw[if_pos q3];exact .unk
     ·rw[if_neg q3];exact R2.slots t ht hA q3
    ·obtain⟨h4,h5⟩:=DP _ h3
     have h6:=hsl t ht hA
     rw[← A8 t ht]at h6
     rw[h4]at h6
     exact h5 _ _ _ h6
 have main:∀ (n:Nat) (seen:List Nat) (ak:Act) (wk:World),(es'.filter (fun x=> !seen.contains x.born)).length≤n→Rd A N φ k.ws e w pb.blk q.blk c seen ak wk→
   (∀ x∈es,x.born∈seen→∀ bl,h.bl.set ad.block (.pick m x.born c none)=some bl→∃ e1 h1,codeC ty A a0 [] none F (BC e k.ws) {next:=h.next,low:=h.next,high:=0,mark:=h.mark,bl:=bl}=.norm e1 h1)→
   Code.rounds P a0 Q (n+1) ak wk:=by
  intro n
  induction n with
  |zero=>
   intro seen ak wk hcnt R hg
   refine round _ seen ak wk R hg fun x' hx' hns a2 w2 _ _=>?_
   exfalso
   have:x'∈es'.filter (fun x=> !seen.contains x.born):=List.mem_filter.2 ⟨hx',by simpa using hns⟩
   have:=List.length_pos_of_mem this
   omega
  |succ n ihn=>
   intro seen ak wk hcnt R hg
   refine round _ seen ak wk R hg fun x' hx' hns a2 w2 R2 hg2=>ihn _ a2 w2 ?_ R2 hg2
   have:=dO hx' hns
   omega
 refine wp_loop_rounds (es'.length+1) (main es'.length [] a w ?_ {size:=hsz,defs:=hdf,slots:=fun t ht hA _=>hslots t ht hA,grow:=Nat.le_refl _,same:=fun _ _ _=>rfl,tape:=rfl,os:=rfl,output:=rfl,iter:=hwi} (fun x hx h=>by cases h))
 exact List.length_filter_le _ _
theorem Ly{seen:List Nat}:∀ {es:List Ent},(∀ x∈es,x.born∈seen)→GH seen es=[]
 |[],_=>rfl
 |x::l,h=>by
  unfold GH
  rw[HZ,show seen.contains x.born=true by simpa using h x List.mem_cons_self]
  exact Ly fun y hy=>h y (List.mem_cons_of_mem _ hy)
theorem Lx{seen:List Nat}:∀ {es:List Ent} {x:Ent},x∈es→x.born∉seen→x∈GH seen es
 |y::l,x,hx,hn=>by
  unfold GH
  rcases List.mem_cons.1 hx with rfl|hx
  ·rw[HZ,show seen.contains x.born=false by simpa using hn]
   exact List.mem_cons_self
  ·have ih:=Lx hx hn
   cases Ow y.born seen with
   |true=>exact ih
   |false=>exact List.mem_cons_of_mem _ ih
theorem Kk{f:Ent→Bool}:∀ {l:List Ent},Pd f l=true→∀ x∈l,f x=true
 |[],_,x,hx=>by cases hx
 |y::l,h,x,hx=>by
  obtain⟨h1,h2⟩:=Ai h
  rcases List.mem_cons.1 hx with rfl|hx
  ·exact h1
  ·exact Kk h2 x hx
theorem JJ{t:BT}:∀ {n i:Nat} {r r':BT},JI t n i r=some r'→∀ j,r'.get j=if i≤j∧j<i+n then t.get j else r.get j
 |0,i,r,r',h,j=>by
  cases h
  rw[if_neg (by omega)]
 |n+1,i,r,r',h,j=>by
  unfold JI at h
  cases hs:r.set i (t.get i)with
  |none=>rw[hs]at h;cases h
  |some r1=>
   rw[hs]at h
   have ih:=JJ h j
   have he:Nat.succ i=i+1:=rfl
   rw[ih,BT.get_set _ _ _ _ hs]
   by_cases h1:j=i
   ·rw[if_neg (by omega),if_pos h1,if_pos (by omega),h1]
   ·rw[if_neg h1]
    by_cases h2:i≤j∧j<i+(n+1)
    ·rw[if_pos h2,if_pos (by omega)]
    ·rw[if_neg h2,if_neg (by omega)]
theorem RelW.one{φ:Phi}{h:Hp}{w w':World}{b:Nat}{pb:Pl}{o:Blk}{bl:BT}(H:RelW ty φ nil h w)(hpb:φ b=some pb)(hin:pb.inp=false)(hlive:Live h b)(hbl:∀ i,bl.get i=if i=b then o else h.bl.get i)
  (hs:w.heap.size≤w'.heap.size)(hsame:∀ j,j<w.heap.size→j≠pb.blk→w'.heap[j]? =w.heap[j]?)(hB:RelB ty φ pb o w'.heap[pb.blk]?)(hoc:∀ cc s el,o≠.cells cc s el)(lo hi mk:Nat):
  RelW ty φ nil {next:=h.next,low:=lo,high:=hi,mark:=mk,bl:=bl} w' where
 dom:=fun i p hp=>⟨(H.dom i p hp).1,Nat.lt_of_lt_of_le (H.dom i p hp).2 hs⟩
 inj:=fun i j p q hp hq _ _ hi hj hio hpq=>by
  have lv:∀ i,bl.get i≠.dead→Live h i:=fun i hi=>by
   by_cases hib:i=b
   ·rw[hib];exact hlive
   ·rw[hbl,if_neg hib]at hi;exact hi
  exact H.inj i j p q hp hq (fun h=>h) (fun h=>h) (lv i hi) (lv j hj) hio hpq
 row:=fun i p hp _=>by
  show RelB ty φ p (bl.get i) _
  rw[hbl]
  by_cases hib:i=b
  ·rw[if_pos hib]
   subst hib
   rw[hpb]at hp;cases hp
   exact hB
  ·rw[if_neg hib]
   by_cases hdd:h.bl.get i=.dead
   ·rw[hdd];exact .dead
   ·rw[hsame p.blk (H.dom i p hp).2 (fun hb=>hib (H.inj i b p pb hp hpb (fun h=>h) (fun h=>h) hdd hlive (.inr hin) hb))]
    exact H.row i p hp (fun h=>h)
 fresh:=fun i hi=>by
  have hi:h.next≤i:=hi
  show bl.get i=_
  have:=(H.dom _ _ hpb).1
  rw[hbl,if_neg (by omega)];exact H.fresh i hi
 kind:=fun i p cc s el hp he=>by
  have he:bl.get i=.cells cc s el:=he
  rw[hbl]at he
  by_cases hib:i=b
  ·rw[if_pos hib]at he;exact absurd he (hoc _ _ _)
  ·rw[if_neg hib]at he;exact H.kind i p cc s el hp he
 inp:=H.inp
theorem Evo.one{φ:Phi}{h:Hp}{w w':World}{b:Nat}{pb:Pl}{o:Blk}{bl:BT}(hpb:φ b=some pb)(hin:pb.inp=false)(hlive:Live h b)(hbl:∀ i,bl.get i=if i=b then o else h.bl.get i)
  (hs:w.heap.size≤w'.heap.size)(hsame:∀ j,j<w.heap.size→j≠pb.blk→w'.heap[j]? =w.heap[j]?)(ht:w'.tape=w.tape)(hos:w'.os=w.os)(hou:w'.output=w.output)(ho:ShapeLe (h.bl.get b) o)(mk:Nat):
  Evo φ h w φ {next:=h.next,low:=A3 h.low b,high:=BH h.high b,mark:=mk,bl:=bl} w' where
 le:=.refl φ
 new:=fun _ _ e=>.inl e
 next:=Nat.le_refl _
 size:=hs
 tape:=ht
 os:=hos
 output:=hou
 frame:=fun j hj hf=>hsame j hj fun hjp=>hf b pb hpb hin (by show A3 _ _≤_;rw[A0];exact Nat.min_le_right _ _) (by show _≤BH _ _;rw[A6];exact Nat.le_max_right _ _) hlive hjp.symm
 back:=fun i p hp hl _=>by
  refine⟨i,p,hp,?_,rfl,rfl,.inl rfl⟩
  by_cases hib:i=b
  ·rw[hib];exact hlive
  ·have hl:bl.get i≠.dead:=hl
   rw[hbl,if_neg hib]at hl;exact hl
 kept:=fun i _ hi=>by
  show bl.get i=_
  have hi:i<A3 h.low b∨BH h.high b<i:=hi
  rw[A0,A6]at hi
  rw[hbl,if_neg (by omega)]
 low:=by show A3 _ _≤_;rw[A0];exact Nat.min_le_left _ _
 high:=by show _≤BH _ _;rw[A6];exact Nat.le_max_left _ _
 shape:=fun i _=>by
  show ShapeLe _ (bl.get i)
  rw[hbl]
  by_cases hib:i=b
  ·rw[if_pos hib,hib];exact ho
  ·rw[if_neg hib];exact .refl _
 only:=fun i _ h0=>by
  show bl.get i=_
  rw[hbl,if_neg (fun e=>by rw[e,hpb]at h0;cases h0)]
 all:=fun _ h1 h2=>absurd h2 (Nat.not_lt.2 h1)
theorem Ns{k:Walk}{a0:Code}{id:Nat}{o1 o2:Oper}{r2:Code}(W:WalkIs A a0 k id o1 o2 r2)(hd:k.nx<N∧k.more<N)
  (ih:∀ {e:Env} {h:Hp} {X:Go.Proofs.YtglkncnkbofgfaaGreat.X},codeC ty A (.seq (.cond (.tmp k.more) .skip (.exit k.out)) r2) [] none F e h=X→X≠.no→∀ (φ:Phi) (w:World) (a:Act),RelW ty φ nil h w→AR N φ (rhoOf A [] e) a→∀ (Q:Exit→Act→World→Prop),Post ty A N F φ h w none X Q→(Code.seq (.cond (.tmp k.more) .skip (.exit k.out)) r2).wp P Q a w)
  {e:Env}{ad:Addr}(hit:slotG k.it e=.pointer (some ad))(hoff:Nat.beq ad.off 0=true)(h256:256≤ad.block){φ0:Phi}{hr:Hp}{w0:World}{a:Act}(hslots:∀ t,t<208→memN t A=false→RelV φ0 (e.get t) (a.tmps.getD t undef))
  {fin:Hp→Rds→Bool}{Q:Exit→Act→World→Prop}
  (hfin:∀ (hk:Hp) (tr:Rds) (φk:Phi) (wk:World),RelW ty φk nil hk wk→Evo φ0 hr w0 φk hk wk→(∃ pb,φk ad.block=some pb)→Live hk ad.block→fin hk tr=true→∀ ak:Act,ak.tmps.size=N→ak.defers=[]→
   (∀ t,t<208→memN t A=false→t∉k.ws→RelV φ0 (e.get t) (ak.tmps.getD t undef))→ak.tmps.getD k.more undef=.bool false→Q (.exit k.out) ak wk):
  ∀ (n:Nat) (hk:Hp) (tr:Rds) (φk:Phi) (wk:World) (ak:Act),RelW ty φk nil hk wk→Evo φ0 hr w0 φk hk wk→ak.tmps.size=N→ak.defers=[]→
   (∀ t,t<208→memN t A=false→t∉k.ws→RelV φ0 (e.get t) (ak.tmps.getD t undef))→Kv k (codeC ty A a0 [] none) F e ad.block fin n hk tr=true→Code.rounds P a0 Q n ak wk:=by
 intro n
 induction n with
 |zero=>intro hk tr φk wk ak _ _ _ _ _ hx;cases hx
 |succ n ihn=>
 intro hk tr φk wk ak H E hsz hdf hsl hx
 unfold Kv P6 at hx
 cases hiter:Di (hk.bl.get ad.block)with
 |no=>rw[hiter]at hx;cases hx
 |cur _ _ _=>rw[hiter]at hx;cases hx
 |pick _ _ _ _=>rw[hiter]at hx;cases hx
 |ok m' since seen last=>
 rw[hiter]at hx
 cases m' with
 |none=>cases hx
 |some m=>
 simp only at hx
 cases hents:BG hk m with
 |no=>rw[hents]at hx;cases hx
 |ok es c=>
 rw[hents]at hx
 simp only at hx
 obtain⟨hcs0,hx1⟩:=Ai hx
 obtain⟨hcl0,hx2⟩:=Ai hx1
 obtain⟨hris,hx3⟩:=Ai hx2
 clear hx hx1 hx2
 have hcs:=Ae.1 hcs0
 have hcl:=Ae.1 hcl0
 clear hcs0 hcl0
 subst hcs;subst hcl
 have hx:=hx3
 clear hx3
 have hbi:=D2 hiter
 have hitR:=hslots k.it W.itL W.itA
 rw[← A8 k.it W.itL,hit]at hitR
 obtain⟨ad',had',hra⟩:=hitR.ptr_inv
 obtain⟨pb,hpb0,rfl⟩:=hra.eq
 have hpb:=E.le _ _ hpb0
 have hoff0:ad.off=0:=Ae.1 hoff
 have hrow:=H.row ad.block pb hpb (fun h=>h)
 rw[hbi]at hrow
 obtain⟨q,hp0,hq,hwi⟩:∃ q,pb.off=0∧φk m=some q∧wk.heap[pb.blk]? =some (.mapIter (some q.blk) c ⟨seen⟩ c):=by
  generalize wk.heap[pb.blk]? =ob at hrow
  cases hrow with
  |iter h1 h2=>exact⟨_,h1,h2,rfl⟩
 obtain⟨es',hwm,hrel⟩:=H.entsAt hq (fun h=>h) hents
 have hmb:m≠ad.block:=fun h=>by
  have:=CE hents
  rw[h,hbi]at this;cases this
 have hin:=H.notInp hpb h256
 have hlive:Live hk ad.block:=by unfold Live;rw[hbi];intro h;cases h
 have hpbs:=(H.dom _ _ hpb).2
 have hborn:∀ x∈es',x.born<c:=fun x hx=>by
  obtain⟨y,hy,he⟩:=FG hrel hx
  rw[← he];exact(CZ hris y hy).2
 have hkeep:BD k.ws (codeC ty A (.seq (.cond (.tmp k.more) .skip (.exit k.out)) r2) [] none):=BF _ (fun d hd=>by
  rw[W.ws,W.code]
  exact List.mem_append_right _ hd) (fun _ h=>by cases h)
 have hnxw:k.nx∈k.ws:=by rw[W.ws,W.code];show _∈EP [o1,o2]++_;simp[EP,W.dst1,W.dst2]
 have hmow:k.more∈k.ws:=by rw[W.ws,W.code];show _∈EP [o1,o2]++_;simp[EP,W.dst1,W.dst2]
 have hcg:∀ t,t<208→(BC e k.ws).get t=if t∈k.ws then .chan none else e.get t:=fun t ht=>CS _ _ _ W.few ht
 have hcut:∀ {ψ:Phi} {v v' v'':Value},φ0.Le ψ→RelV ψ v v'→RelV φ0 v v''→RelV φ0 v v':=fun {ψ v v' v''} hle h1 h2=>RelV.cut (χ:=φ0) (fun b p hp ⟨q,hq⟩=>by
  have:=hle b q hq
  rw[hp]at this;cases this
  exact hq) h1 h2
 have hevit:ak.eval (.tmp k.it)=.pointer (some ⟨pb.blk,0,none⟩):=by
  have h1:=hsl k.it W.itL W.itA W.itW
  rw[← A8 k.it W.itL,hit]at h1
  obtain⟨a2,ha2,hr2⟩:=h1.ptr_inv
  obtain⟨p2,hp2,rfl⟩:=hr2.eq
  rw[hpb0]at hp2;cases hp2
  show ak.tmps.getD k.it undef=_
  rw[ha2,hp0,hoff0]
 have putD:∀ (v1 v2:Value) (t:Nat),t<208→((ak.put (some k.nx) v1).put (some k.more) v2).tmps.getD t undef=if t=k.more then v2 else if t=k.nx then v1 else ak.tmps.getD t undef:=fun v1 v2 t ht=>by
  rw[BS,BJ,BS]
  by_cases h1:t=k.more
  ·rw[if_pos ⟨by rw[h1],by rw[h1,hsz];exact hd.2⟩,if_pos h1]
  ·rw[if_neg (fun h=>h1 (Option.some.inj h.1).symm),if_neg h1]
   by_cases h2:t=k.nx
   ·rw[if_pos ⟨by rw[h2],by rw[h2,hsz];exact hd.1⟩,if_pos h2]
   ·rw[if_neg (fun h=>h2 (Option.some.inj h.1).symm),if_neg h2]
 show a0.wp P (Exit.then (Code.rounds P a0 Q n) Q) ak wk
 generalize hK:Code.rounds P a0 Q n=K
 rw[W.code]
 refine wp_seq (Gu W (pb:=pb.blk) (mb:=q.blk) (clk:=c) (seen:=seen) (es:=es') hevit (by rw[hsz];exact hd.1) hwi hwm hborn (fun hall=>?_) (fun x' hx' hns w1 e1 e2' e3 e4=>?_))
 ·
  show(Code.seq (.cond (.tmp k.more) .skip (.exit k.out)) r2).wp P (Exit.then K Q) ((ak.put (some k.nx) (.tuple #[.bool false])).put (some k.more) (.bool false)) wk
  refine wp_seq (wp_cond_false ?_ (wp_exit ?_))
  ·show((ak.put (some k.nx) (.tuple #[.bool false])).put (some k.more) (.bool false)).tmps.getD k.more undef=_
   rw[putD _ _ _ W.moL,if_pos rfl]
  ·show Q (.exit k.out) ((ak.put (some k.nx) (.tuple #[.bool false])).put (some k.more) (.bool false)) wk
   rw[Ly (es:=es) fun x hx=>by
    obtain⟨x',hx',he⟩:=GG hrel hx
    rw[← he];exact hall x' hx']at hx
   refine hfin hk tr φk wk H E ⟨_,hpb⟩ hlive hx _ (by rw[BJ,BJ];exact hsz) (by rw[BZ,BZ];exact hdf) (fun t ht hA hw=>?_) (by rw[putD _ _ _ W.moL,if_pos rfl])
   rw[putD _ _ _ ht,if_neg (fun h:t=k.more=>hw (h ▸ hmow)),if_neg (fun h:t=k.nx=>hw (h ▸ hnxw))]
   exact hsl t ht hA hw
 ·
  show(Code.seq (.cond (.tmp k.more) .skip (.exit k.out)) r2).wp P (Exit.then K Q) ((ak.put (some k.nx) (.tuple #[.bool true,x'.key,x'.val])).put (some k.more) (.bool true)) w1
  obtain⟨x,hfx,hkr,hvr⟩:=In hrel hris hx'
  obtain⟨hxm,hxb⟩:=Ge hfx
  have hmem:=Lx hxm (by rw[hxb];exact hns)
  generalize hrest:GH seen es=rest at hx hmem
  cases rest with
  |nil=>cases hmem
  |cons y l=>
  have hx:=Kk hx x hmem
  unfold RC at hx
  cases hbl:hk.bl.set ad.block (.pick m x.born c (some seen))with
  |none=>rw[hbl]at hx;cases hx
  |some bl=>
  rw[hbl]at hx
  simp only at hx
  have hitc:slotG k.it (BC e k.ws)=.pointer (some ad):=by
   rw[A8 _ W.itL,hcg _ W.itL,if_neg W.itW,← A8 _ W.itL];exact hit
  generalize hY:codeC ty A a0 [] none F (BC e k.ws) {next:=hk.next,low:=A3 hk.low ad.block,high:=BH hk.high ad.block,mark:=hk.mark,bl:=bl}=Y at hx
  cases Y with
  |no=>cases hx
  |exit _ _ _=>cases hx
  |ret _ _=>cases hx
  |norm e1' h1'=>
  simp only at hx
  obtain⟨bl',hbl',hB⟩:=OJ W (x:=x) (s:=x.born) hitc hoff hents hmb (by rw[hxb];exact hfx) hbl hY (fun h=>by cases h)
  have hbl':bl.set ad.block (.iter (some m) c (Il x.born seen) c)=some bl':=hbl'
  have hblc:∀ i,bl'.get i=if i=ad.block then .iter (some m) c (Il x.born seen) c else hk.bl.get i:=fun i=>by
   rw[BT.get_set _ _ _ _ hbl',BT.get_set _ _ _ _ hbl]
   split<;>rfl
  have hws1:w1.heap.size=wk.heap.size:=by rw[e1];simp
  have hw1p:w1.heap[pb.blk]? =some (.mapIter (some q.blk) c ⟨seen++[x'.born]⟩ c):=by
   rw[e1,Array.getElem?_setIfInBounds,if_pos rfl,if_pos hpbs]
  have hw1s:∀ j,j<wk.heap.size→j≠pb.blk→w1.heap[j]? =wk.heap[j]?:=fun j hj hjp=>by
   rw[e1,Array.getElem?_setIfInBounds,if_neg (fun h=>hjp h.symm)]
  have HR:=H.one hpb hin hlive hblc (Nat.le_of_eq hws1.symm) hw1s (by rw[hw1p,Im,hxb];exact .iter hp0 hq) (fun _ _ _ h=>by cases h) (A3 hk.low ad.block) (BH hk.high ad.block) hk.mark
  have E1:=Evo.one (w':=w1) hpb hin hlive hblc (Nat.le_of_eq hws1.symm) hw1s e2' e3 e4 (by rw[hbi];exact .inr trivial) hk.mark
  have HAR:AR N φk (rhoOf A [] (Env.set k.more (.bool true) (Env.set k.nx (.tuple ⟨[.bool true,x.key,x.val]⟩) (BC e k.ws)))) ((ak.put (some k.nx) (.tuple #[.bool true,x'.key,x'.val])).put (some k.more) (.bool true)):=by
   refine BR.2 ⟨by rw[BJ,BJ];exact hsz,by rw[BZ,BZ];exact hdf,fun t ht hA=>?_⟩
   rw[putD _ _ _ ht,Env.get_set _ _ _ _ W.moL ht,Env.get_set _ _ _ _ W.nxL ht,hcg t ht]
   by_cases q1:t=k.more
   ·rw[if_pos q1,if_pos q1];exact .bool _
   ·rw[if_neg q1,if_neg q1]
    by_cases q2:t=k.nx
    ·rw[if_pos q2,if_pos q2];exact .tuple (.cons (.bool _) (.cons hkr (.cons hvr .nil)))
    ·rw[if_neg q2,if_neg q2]
     by_cases q3:t∈k.ws
     ·rw[if_pos q3];exact .unk
     ·rw[if_neg q3];exact(hsl t ht hA q3).mono E.le
  refine ih hB (fun h=>by cases h) φk w1 _ HR HAR _ {go:=(fun _ h=>by cases h),norm:=fun _ e2 h2 ψ a2 w2 g hx2=>?_,exit:=(fun i e2 h2 ψ a2 w2 g hx2=>by cases hx2),ret:=(fun e2 h2 ψ a2 w2 g hx2=>by cases hx2)}
  cases hx2
  obtain⟨g1,g2,g3⟩:=BR.1 g.ar
  have hag:=hkeep F (Env.set k.more (.bool true) (Env.set k.nx (.tuple ⟨[.bool true,x.key,x.val]⟩) (BC e k.ws))) {next:=hk.next,low:=A3 hk.low ad.block,high:=BH hk.high ad.block,mark:=hk.mark,bl:=bl'}
  rw[hB]at hag
  have hag:Ag k.ws (Env.set k.more (.bool true) (Env.set k.nx (.tuple ⟨[.bool true,x.key,x.val]⟩) (BC e k.ws))) e1':=hag
  have E2:=(E.trans E1).trans g.evo
  show K a2 w2
  rw[← hK]
  refine ihn h1' _ ψ w2 a2 g.rel E2 g1 g2 (fun t ht hA hw=>?_) hx
  have q1:=g3 t ht hA
  rw[hag t ht hw,Env.get_set _ _ _ _ W.moL ht,if_neg (fun h:t=k.more=>hw (h ▸ hmow)),Env.get_set _ _ _ _ W.nxL ht,if_neg (fun h:t=k.nx=>hw (h ▸ hnxw)),hcg t ht,if_neg hw]at q1
  exact hcut E2.le q1 (hslots t ht hA)
theorem MU{k:Walk}{a0:Code}{id:Nat}{o1 o2:Oper}{r2:Code}(W:WalkIs A a0 k id o1 o2 r2)(hd:k.nx<N∧k.more<N)
  (ih:∀ {e:Env} {h:Hp} {X:Go.Proofs.YtglkncnkbofgfaaGreat.X},codeC ty A (.seq (.cond (.tmp k.more) .skip (.exit k.out)) r2) [] none F e h=X→X≠.no→∀ (φ:Phi) (w:World) (a:Act),RelW ty φ nil h w→AR N φ (rhoOf A [] e) a→∀ (Q:Exit→Act→World→Prop),Post ty A N F φ h w none X Q→(Code.seq (.cond (.tmp k.more) .skip (.exit k.out)) r2).wp P Q a w)
  {e:Env}{h:Hp}{X:Go.Proofs.YtglkncnkbofgfaaGreat.X}{ad:Addr}(hit:slotG k.it e=.pointer (some ad))(hoff:Nat.beq ad.off 0=true)(h256:256≤ad.block)
  (hr:E4 k (codeC ty A a0 [] none) F e h ad.block=X)(hn:X≠.no){φ:Phi}{w:World}{a:Act}(H:RelW ty φ nil h w)(HA:AR N φ (rhoOf A [] e) a){Q:Exit→Act→World→Prop}
  (pe:∀ id e h' ψ a' w',Good ty A N φ h w [] e h' ψ a' w'→X=.exit id e h'→Q (.exit id) a' w'):
  (Code.loop a0).wp P Q a w:=by
 unfold E4 at hr
 generalize hfe:KC k (codeC ty A a0 [] none) F e ad.block 5 {next:=h.next,low:=h.next,high:=0,mark:=h.mark,bl:=h.bl} []=fe at hr
 cases fe with
 |none=>exact absurd hr.symm hn
 |some p=>
 simp only at hr
 cases hbc:p.1.bl.set ad.block .dead with
 |none=>rw[hbc]at hr;exact absurd hr.symm hn
 |some bc=>
 rw[hbc]at hr
 simp only at hr
 cases hbr:JI bc (Nat.sub p.1.next p.1.low) p.1.low h.bl with
 |none=>rw[hbr]at hr;exact absurd hr.symm hn
 |some br=>
 rw[hbr]at hr
 simp only at hr
 unfold Pe at hr
 obtain⟨hexpl,hX⟩:=Km hr hn
 obtain⟨hsz,hdf,hslots⟩:=BR.1 HA
 have hitR:=hslots k.it W.itL W.itA
 rw[← A8 k.it W.itL,hit]at hitR
 obtain⟨ad',had',hra⟩:=hitR.ptr_inv
 obtain⟨pb,hpb0,rfl⟩:=hra.eq
 have hbig:256≤h.next:=by have:=(H.dom _ _ hpb0).1;omega
 have hsub:Nat.sub p.1.next p.1.low=p.1.next - p.1.low:=rfl
 have hbrg:=JJ hbr
 rw[hsub]at hbrg
 have hcg:∀ t,t<208→(BC e k.ws).get t=if t∈k.ws then .chan none else e.get t:=fun t ht=>CS _ _ _ W.few ht
 refine wp_loop_rounds 5 (Ns W hd ih hit hoff h256 (φ0:=φ) (w0:=w) hslots (fun hk tr φk wk Hk Ek ⟨pb',hpb'⟩ hlive hf ak s1 s2 s3 s4=>?_) 5 {next:=h.next,low:=h.next,high:=0,mark:=h.mark,bl:=h.bl} [] φ w a (H.of_bl rfl rfl) (.refl _ _ _) hsz hdf (fun t ht hA _=>hslots t ht hA) hexpl)
 unfold dP at hf
 cases hset:hk.bl.set ad.block .dead with
 |none=>rw[hset]at hf;cases hf
 |some blk=>
 rw[hset]at hf
 simp only at hf
 have hbg:∀ i,blk.get i=if i=ad.block then .dead else hk.bl.get i:=fun i=>BT.get_set _ _ _ _ hset i
 have HK:=Hk.one (w':=wk) hpb' (Hk.notInp hpb' h256) hlive hbg (Nat.le_refl _) (fun _ _ _=>rfl) .dead (fun _ _ _ h=>by cases h) (A3 hk.low ad.block) (BH hk.high ad.block) hk.mark
 have EK:=Ek.trans (Evo.one (w':=wk) hpb' (Hk.notInp hpb' h256) hlive hbg (Nat.le_refl _) (fun _ _ _=>rfl) rfl rfl rfl (.inl rfl) hk.mark)
 obtain⟨ψ,HR,ER⟩:=VO (r:={next:=p.1.next,low:=A3 h.low p.1.low,high:=BH h.high p.1.next,mark:=h.mark,bl:=br}) H HK EK rfl rfl hbig hf (fun i hi=>by
  show br.get i=_
  rw[hbrg,if_neg (by omega)]) (fun i hi=>by
  have hi:p.1.next≤i:=hi
  show br.get i=_
  rw[hbrg,if_neg (by omega)]) (by
  show A3 _ _≤_∧A3 _ _≤_
  rw[A0];omega) (by
  show p.1.next≤BH _ _∧_≤BH _ _
  rw[A6];omega)
 refine pe k.out _ _ ψ ak wk ⟨.nil A,HR,BR.2 ⟨s1,s2,fun t ht hA=>?_⟩,ER⟩ hX.symm
 rw[Env.get_set _ _ _ _ W.moL ht,hcg t ht]
 by_cases q1:t=k.more
 ·rw[if_pos q1,q1,s4];exact .bool _
 ·rw[if_neg q1]
  by_cases q2:t∈k.ws
  ·rw[if_pos q2];exact .unk
  ·rw[if_neg q2];exact(s3 t ht hA q2).mono ER.le
theorem Rv{b n0:Nat}{r h1:Hp}{tr:Rds}:Ur b n0 r h1 tr=true↔Tm b n0 r h1:=by
 unfold Ur
 split
 ·rename_i h _;exact⟨fun _=>h,fun _=>rfl⟩
 ·rename_i h _;exact⟨fun e=>(by cases e),fun e=>absurd e h⟩
theorem RelW.kills{φ:Phi}{h:Hp}{w:World}{bl:BT}{b n0:Nat}(H:RelW ty φ nil h w)(hbl:∀ i,bl.get i=if i=b∨n0≤i then .dead else h.bl.get i)(lo hi mk:Nat):
  RelW ty φ nil {next:=h.next,low:=lo,high:=hi,mark:=mk,bl:=bl} w where
 dom:=H.dom
 inj:=fun i j p q hp hq _ _ hi hj hio hpq=>by
  have lv:∀ i,bl.get i≠.dead→Live h i:=fun i hi=>by
   rw[hbl]at hi
   split at hi
   ·exact absurd rfl hi
   ·exact hi
  exact H.inj i j p q hp hq (fun h=>h) (fun h=>h) (lv i hi) (lv j hj) hio hpq
 row:=fun i p hp _=>by
  show RelB ty φ p (bl.get i) _
  rw[hbl]
  split
  ·exact .dead
  ·exact H.row i p hp (fun h=>h)
 fresh:=fun i hi=>by
  have hi:h.next≤i:=hi
  show bl.get i=_
  rw[hbl]
  split
  ·rfl
  ·exact H.fresh i hi
 kind:=fun i p cc s el hp he=>by
  have he:bl.get i=.cells cc s el:=he
  rw[hbl]at he
  split at he
  ·cases he
  ·exact H.kind i p cc s el hp he
 inp:=H.inp
theorem Evo.join{φ ψ:Phi}{h r hk:Hp}{w wk:World}{b:Nat}{pb:Pl}(E:Evo φ {next:=h.next,low:=h.next,high:=0,mark:=h.mark,bl:=h.bl} w ψ hk wk)(hpb:φ b=some pb)
  (q1:hk.next=r.next)(q2:r.low≤A3 hk.low b)(q3:BH hk.high b≤r.high)(q4:∀ i,r.bl.get i=if i=b∨h.next≤i then .dead else hk.bl.get i):Evo φ h w ψ (Tq h r) wk where
 le:=E.le
 new:=E.new
 next:=by
  have h1:h.next≤hk.next:=E.next
  show h.next≤r.next
  omega
 size:=E.size
 tape:=E.tape
 os:=E.os
 output:=E.output
 frame:=fun k hk' hf=>E.frame k hk' fun i p e hn hl hg hv=>hf i p e hn (by
  rw[A0]at q2
  show A3 h.low r.low≤i
  rw[A0];omega) (by
  rw[A6]at q3
  show i≤BH h.high r.high
  rw[A6];omega) hv
 back:=fun i p e hl hp=>by
  have hl:r.bl.get i≠.dead:=hl
  rw[q4]at hl
  split at hl
  ·exact absurd rfl hl
  obtain⟨j,q,a1,a2,a3,a4,a5⟩:=E.back i p e hl hp
  refine⟨j,q,a1,a2,a3,a4,?_⟩
  rw[A0]at q2
  rw[A6]at q3
  rcases a5 with a5|⟨a5,a6⟩
  ·exact .inl a5
  ·refine .inr ⟨?_,?_⟩
   ·show A3 h.low r.low≤j
    rw[A0];omega
   ·show j≤BH h.high r.high
    rw[A6];omega
 kept:=fun i hi hor=>by
  have hor:i<A3 h.low r.low∨BH h.high r.high<i:=hor
  rw[A0,A6]at hor
  rw[A0]at q2
  rw[A6]at q3
  show r.bl.get i=_
  rw[q4,if_neg (by omega)]
  exact E.kept i hi (by omega)
 low:=by show A3 _ _≤_;rw[A0];exact Nat.min_le_left _ _
 high:=by show _≤BH _ _;rw[A6];exact Nat.le_max_left _ _
 shape:=fun i hi=>by
  show ShapeLe _ (r.bl.get i)
  rw[q4]
  split
  ·exact .inl rfl
  ·exact E.shape i hi
 only:=fun i hi h0=>by
  show r.bl.get i=_
  rw[q4,if_neg (by
   rintro (h1|h1)
   ·rw[h1,hpb]at h0;cases h0
   ·omega)]
  exact E.only i hi h0
 all:=fun i h1 h2=>E.all i h1 (by
  have h2:i<r.next:=h2
  show i<hk.next
  omega)
theorem Mc{k:Walk}{a0:Code}{id:Nat}{o1 o2:Oper}{r2:Code}(W:WalkIs A a0 k id o1 o2 r2)(hd:k.nx<N∧k.more<N)
  (ih:∀ {e:Env} {h:Hp} {X:Go.Proofs.YtglkncnkbofgfaaGreat.X},codeC ty A (.seq (.cond (.tmp k.more) .skip (.exit k.out)) r2) [] none F e h=X→X≠.no→∀ (φ:Phi) (w:World) (a:Act),RelW ty φ nil h w→AR N φ (rhoOf A [] e) a→∀ (Q:Exit→Act→World→Prop),Post ty A N F φ h w none X Q→(Code.seq (.cond (.tmp k.more) .skip (.exit k.out)) r2).wp P Q a w)
  {e:Env}{h:Hp}{X:Go.Proofs.YtglkncnkbofgfaaGreat.X}{ad:Addr}(hit:slotG k.it e=.pointer (some ad))(hoff:Nat.beq ad.off 0=true)(h256:256≤ad.block)
  (hr:Fq k (codeC ty A a0 [] none) F e h ad.block=X)(hn:X≠.no){φ:Phi}{w:World}{a:Act}(H:RelW ty φ nil h w)(HA:AR N φ (rhoOf A [] e) a){Q:Exit→Act→World→Prop}
  (pe:∀ id e h' ψ a' w',Good ty A N φ h w [] e h' ψ a' w'→X=.exit id e h'→Q (.exit id) a' w'):
  (Code.loop a0).wp P Q a w:=by
 unfold Fq at hr
 split at hr
 case h_2=>exact absurd hr.symm hn
 rename_i hx _
 obtain⟨hhas,hexpl⟩:=Classical.choose_spec hx
 generalize Classical.choose hx=r at hr hhas hexpl
 obtain⟨hsz,hdf,hslots⟩:=BR.1 HA
 have hcg:∀ t,t<208→(BC e k.ws).get t=if t∈k.ws then .chan none else e.get t:=fun t ht=>CS _ _ _ W.few ht
 refine wp_loop_rounds 64 (Ns W hd ih hit hoff h256 (φ0:=φ) (w0:=w) hslots (fun hk tr φk wk Hk Ek ⟨pb',hpb'⟩ hlive hf ak s1 s2 s3 s4=>?_) 64 {next:=h.next,low:=h.next,high:=0,mark:=h.mark,bl:=h.bl} [] φ w a (H.of_bl rfl rfl) (.refl _ _ _) hsz hdf (fun t ht hA _=>hslots t ht hA) hexpl)
 obtain⟨q1,q2,q3,hbg⟩:=Rv.1 hf
 have HK:=Hk.kills hbg (A3 h.low r.low) (BH h.high r.high) h.mark
 have hitR:=hslots k.it W.itL W.itA
 rw[← A8 k.it W.itL,hit]at hitR
 obtain⟨ad',had',hra⟩:=hitR.ptr_inv
 obtain⟨pb,hpb0,rfl⟩:=hra.eq
 have ER:=Ek.join hpb0 q1 (Nat.le_of_eq q2) (Nat.le_of_eq q3.symm) hbg
 rw[q1]at HK
 refine pe k.out _ _ φk ak wk ⟨.nil A,HK,BR.2 ⟨s1,s2,fun t ht hA=>?_⟩,ER⟩ hr.symm
 rw[Env.get_set _ _ _ _ W.moL ht,hcg t ht]
 by_cases q1:t=k.more
 ·rw[if_pos q1,q1,s4];exact .bool _
 ·rw[if_neg q1]
  by_cases q2:t∈k.ws
  ·rw[if_pos q2];exact .unk
  ·rw[if_neg q2];exact(s3 t ht hA q2).mono ER.le
theorem MV{k:Walk}{a0:Code}{id:Nat}{o1 o2:Oper}{r2:Code}(W:WalkIs A a0 k id o1 o2 r2)(hd:k.nx<N∧k.more<N)
  (ih:∀ {e:Env} {h:Hp} {X:Go.Proofs.YtglkncnkbofgfaaGreat.X},codeC ty A (.seq (.cond (.tmp k.more) .skip (.exit k.out)) r2) [] none F e h=X→X≠.no→∀ (φ:Phi) (w:World) (a:Act),RelW ty φ nil h w→AR N φ (rhoOf A [] e) a→∀ (Q:Exit→Act→World→Prop),Post ty A N F φ h w none X Q→(Code.seq (.cond (.tmp k.more) .skip (.exit k.out)) r2).wp P Q a w)
  {e:Env}{h:Hp}{X:Go.Proofs.YtglkncnkbofgfaaGreat.X}{ad:Addr}(hit:slotG k.it e=.pointer (some ad))(hoff:Nat.beq ad.off 0=true)(h256:256≤ad.block)
  (hr:E5 k (codeC ty A a0 [] none) F e h ad.block=X)(hn:X≠.no){φ:Phi}{w:World}{a:Act}(H:RelW ty φ nil h w)(HA:AR N φ (rhoOf A [] e) a){Q:Exit→Act→World→Prop}
  (pe:∀ id e h' ψ a' w',Good ty A N φ h w [] e h' ψ a' w'→X=.exit id e h'→Q (.exit id) a' w'):
  (Code.loop a0).wp P Q a w:=by
 unfold E5 at hr
 split at hr
 ·exact Mc W hd ih hit hoff h256 hr hn H HA pe
 ·exact MU W hd ih hit hoff h256 hr hn H HA pe
end
end
noncomputable section
open Go
section
variable {P:Program}{ty:TTy}{F:CallF}{A:List Nat}{N:Nat}
theorem Evo.of_low{φ ψ:Phi}{h g h':Hp}{w w':World}(ev:Evo φ g w ψ h' w')(h1:g.bl=h.bl)(h2:g.next=h.next)(h3:g.low=h.low)(h4:g.high=h.high):Evo φ h w ψ h' w' where
 le:=ev.le
 new:=by rw[← h2];exact ev.new
 next:=by rw[← h2];exact ev.next
 size:=ev.size
 tape:=ev.tape
 os:=ev.os
 output:=ev.output
 frame:=by unfold Live;rw[← h1];exact ev.frame
 back:=by
  have:=ev.back
  unfold Live at this ⊢
  rw[h1]at this;exact this
 kept:=by rw[← h1,← h2];exact ev.kept
 low:=by rw[← h3];exact ev.low
 high:=by rw[← h4];exact ev.high
 shape:=by rw[← h1,← h2];exact ev.shape
 only:=by rw[← h1,← h2];exact ev.only
 all:=by rw[← h2];exact ev.all
theorem PK(hT:BN P ty)(hF:BM P ty F)(hm:P.follows .mixedOrders=true){id:Nat}{ops:Array Oper}{draw:Bool}{σ:Sg}{k:Option (Sg→C)}{e:Env}{h:Hp}{X:X}(hr:codeC ty A (.region id ops draw) σ k F e h=X)(hn:X≠.no)
  (hd:BO N (.region id ops draw)=true){φ:Phi}{w:World}{a:Act}(hS:SgOk A σ)(HW:RelW ty φ nil h w)(HA:AR N φ (rhoOf A σ e) a){Q:Exit→Act→World→Prop}(p:Post ty A N F φ h w k X Q):(Code.region id ops draw).wp P Q a w:=by
 have hN:∀ o∈ops.toList,∀ d,o.dst=some d→d<N:=by
  intro o ho d hod
  unfold BO at hd
  rw[List.all_eq_true]at hd
  have:=hd o ho
  rw[hod]at this
  exact Aq.1 this
 unfold codeC at hr
 cases draw with
 |false=>
  simp only at hr
  obtain⟨ρ,H,V,run,T,σ',e',tr,q1,q2,q3,q4,q5⟩:=Hc hT hF ops.toList [] σ e h X (fun j o _=>.plain ty o) hS hr hn
  refine wp_region_list ?_
  have:=Hl (Q:=Q) (a:=a) (w:=w) (φ:=φ) ops.toList tr hN (by rw[q2];exact HW) (by rw[q1];exact HA) fun _ ψ a' w' r1 r2 r3=>p.then ⟨q4,r1,by rw[← q3];exact r2,by rw[← q2];exact r3⟩ q5
  simpa using this
 |true=>
  simp only at hr
  cases hdr:Nn ty ops.toList with
  |none=>rw[hdr]at hr;exact absurd hr.symm hn
  |some ahs=>
   rw[hdr]at hr
   obtain⟨bs,hbs,he,hs,hah⟩:=Pu hdr
   have hr:opsC ty A ops.toList (HB k) ahs ops.toList σ F e {next:=h.next,low:=h.low,high:=h.high,mark:=h.next,bl:=h.bl}=X:=hr
   obtain⟨ρ,H,V,run,T,σ',e',tr,q1,q2,q3,q4,q5⟩:=Hc hT hF ops.toList ahs σ e _ X (fun j o ho=>by obtain⟨xs,_,h⟩:=hah j o ho;exact h.ok) hS hr hn
   have:=TY (id:=id) (Q:=Q) (a:=a) (w:=w) (φ0:=φ) hm (Kt hbs he) (SG hbs he hs hah tr) tr hN (by rw[q2];exact HW.of_bl rfl rfl) (by rw[q1];exact HA)
    fun ψ a' w' r1 r2 r3=>p.then ⟨q4,r1,by rw[← q3];exact r2,by rw[q2]at r3;exact r3.of_low rfl rfl rfl rfl⟩ q5
   simpa using this
theorem N9(hm:P.follows .mixedOrders=true){c:Code}{body:C}(ih:∀ {e:Env} {h:Hp} {X:X},body F e h=X→X≠.no→∀ (φ:Phi) (w:World) (a:Act),RelW ty φ nil h w→AR N φ (rhoOf A [] e) a→∀ (Q:Exit→Act→World→Prop),Post ty A N F φ h w none X Q→c.wp P Q a w):
  ∀ (n:Nat) {e:Env} {h:Hp} {X:X},iter body n F e h=X→X≠.no→∀ (φ:Phi) (w:World) (a:Act),RelW ty φ nil h w→AR N φ (rhoOf A [] e) a→∀ (Q:Exit→Act→World→Prop),Post ty A N F φ h w none X Q→Code.rounds P c Q n a w
 |0,e,h,X,hr,hn=>by exact absurd hr.symm hn
 |n+1,e,h,X,hr,hn=>by
  intro φ w a HW HA Q p
  unfold iter at hr
  cases hb:body F e h with
  |no=>rw[hb]at hr;exact absurd hr.symm hn
  |norm e1 h1=>
   rw[hb]at hr
   simp only at hr
   refine ih hb (fun h=>by cases h) φ w a HW HA _ {go:=(fun _ h=>by cases h),norm:=fun _ e' h' ψ a' w' g hx=>?_,exit:=(fun _ _ _ _ _ _ _ hx=>by cases hx),ret:=(fun _ _ _ _ _ _ hx=>by cases hx)}
   cases hx
   exact N9 hm ih n hr hn _ _ _ g.rel g.ar _ {go:=(fun _ h=>by cases h),norm:=fun h e2 h2 χ a2 w2 g2 hx=>p.norm h e2 h2 χ a2 w2 (g.trans g2) hx,exit:=fun id e2 h2 χ a2 w2 g2 hx=>p.exit id e2 h2 χ a2 w2 (g.trans g2) hx,ret:=fun e2 h2 χ a2 w2 g2 hx=>p.ret e2 h2 χ a2 w2 (g.trans g2) hx}
  |exit i e1 h1=>
   rw[hb]at hr
   refine ih hb (fun h=>by cases h) φ w a HW HA _ {go:=(fun _ h=>by cases h),norm:=(fun _ _ _ _ _ _ _ hx=>by cases hx),exit:=fun id e2 h2 χ a2 w2 g2 hx=>p.exit id e2 h2 χ a2 w2 g2 (hr.symm.trans hx),ret:=(fun _ _ _ _ _ _ hx=>by cases hx)}
  |ret e1 h1=>
   rw[hb]at hr
   refine ih hb (fun h=>by cases h) φ w a HW HA _ {go:=(fun _ h=>by cases h),norm:=(fun _ _ _ _ _ _ _ hx=>by cases hx),exit:=(fun _ _ _ _ _ _ _ hx=>by cases hx),ret:=fun e2 h2 χ a2 w2 g2 hx=>p.ret e2 h2 χ a2 w2 g2 (hr.symm.trans hx)}
theorem Lz{φ:Phi}{h:Hp}{w:World}{k':Sg→C}{X:X}{Q:Exit→Act→World→Prop}(p:Post ty A N F φ h w (some k') X Q){a:C}{e:Env}(hr:AY a (k' []) F e h=X)(hn:X≠.no):
  ∃ X1,a F e h=X1∧X1≠.no∧Post ty A N F φ h w none X1 Q:=by
 unfold AY at hr
 cases hb:a F e h with
 |no=>rw[hb]at hr;exact absurd hr.symm hn
 |norm e1 h1=>
  rw[hb]at hr
  exact⟨_,rfl,(fun h=>by cases h),{go:=(fun _ h=>by cases h),norm:=fun _ e2 h2 χ a2 w2 g2 hx=>by cases hx;exact p.go k' rfl [] _ _ χ a2 w2 g2 hr,exit:=(fun _ _ _ _ _ _ _ hx=>by cases hx),ret:=(fun _ _ _ _ _ _ hx=>by cases hx)}⟩
 |exit i e1 h1=>
  rw[hb]at hr
  exact⟨_,rfl,(fun h=>by cases h),{go:=(fun _ h=>by cases h),norm:=(fun _ _ _ _ _ _ _ hx=>by cases hx),exit:=fun id e2 h2 χ a2 w2 g2 hx=>p.exit id e2 h2 χ a2 w2 g2 (hr.symm.trans hx),ret:=(fun _ _ _ _ _ _ hx=>by cases hx)}⟩
 |ret e1 h1=>
  rw[hb]at hr
  exact⟨_,rfl,(fun h=>by cases h),{go:=(fun _ h=>by cases h),norm:=(fun _ _ _ _ _ _ _ hx=>by cases hx),exit:=(fun _ _ _ _ _ _ _ hx=>by cases hx),ret:=fun e2 h2 χ a2 w2 g2 hx=>p.ret e2 h2 χ a2 w2 g2 (hr.symm.trans hx)}⟩
theorem MY{φ:Phi}{h:Hp}{w:World}{X:X}{Q:Exit→Act→World→Prop}(p:Post ty A N F φ h w none X Q){id:Nat}{a:C}{e:Env}(hr:AM id a F e h=X)(hn:X≠.no):
  ∃ X1,a F e h=X1∧X1≠.no∧Post ty A N F φ h w none X1 (Exit.inBlock id Q):=by
 unfold AM at hr
 cases hb:a F e h with
 |no=>rw[hb]at hr;exact absurd hr.symm hn
 |norm e1 h1=>
  rw[hb]at hr
  exact⟨_,rfl,(fun h=>by cases h),{go:=(fun _ h=>by cases h),norm:=fun h e2 h2 χ a2 w2 g2 hx=>p.norm h e2 h2 χ a2 w2 g2 (hr.symm.trans hx),exit:=(fun _ _ _ _ _ _ _ hx=>by cases hx),ret:=(fun _ _ _ _ _ _ hx=>by cases hx)}⟩
 |exit i e1 h1=>
  rw[hb]at hr
  simp only at hr
  refine⟨_,rfl,(fun h=>by cases h),{go:=(fun _ h=>by cases h),norm:=fun _ _ _ _ _ _ _ hx=>(by cases hx),exit:=fun j e2 h2 χ a2 w2 g2 hx=>?_,ret:=fun _ _ _ _ _ _ hx=>(by cases hx)}⟩
  cases hx
  unfold Exit.inBlock
  cases hq:Nat.beq i id with
  |true=>
   rw[hq]at hr
   simp only[Ae.1 hq,if_true]
   exact p.norm rfl _ _ χ a2 w2 g2 hr.symm
  |false=>
   rw[hq]at hr
   simp only[Cu hq,if_false]
   exact p.exit i _ _ χ a2 w2 g2 hr.symm
 |ret e1 h1=>
  rw[hb]at hr
  exact⟨_,rfl,(fun h=>by cases h),{go:=(fun _ h=>by cases h),norm:=(fun _ _ _ _ _ _ _ hx=>by cases hx),exit:=(fun _ _ _ _ _ _ _ hx=>by cases hx),ret:=fun e2 h2 χ a2 w2 g2 hx=>p.ret e2 h2 χ a2 w2 g2 (hr.symm.trans hx)}⟩
theorem Bh(hT:BN P ty)(hF:BM P ty F)(hm:P.follows .mixedOrders=true):∀ (c:Code) {σ:Sg} {k:Option (Sg→C)} {e:Env} {h:Hp} {X:X},codeC ty A c σ k F e h=X→X≠.no→BO N c=true→
  ∀ (φ:Phi) (w:World) (a:Act),SgOk A σ→RelW ty φ nil h w→AR N φ (rhoOf A σ e) a→∀ (Q:Exit→Act→World→Prop),Post ty A N F φ h w k X Q→c.wp P Q a w
 |.skip,σ,k,e,h,X,hr,hn,hd=>by
  intro φ w a hS HW HA Q p
  exact wp_skip (p.then ⟨hS,HW,HA,.refl _ _ _⟩ hr)
 |.region id ops draw,σ,k,e,h,X,hr,hn,hd=>by
  intro φ w a hS HW HA Q p
  exact PK hT hF hm hr hn hd hS HW HA p
 |.seq x y,σ,k,e,h,X,hr,hn,hd=>by
  intro φ w a hS HW HA Q p
  have hd:(BO N x && BO N y)=true:=hd
  rw[Bool.and_eq_true]at hd
  have hr:codeC ty A x σ (some fun σ=>codeC ty A y σ k) F e h=X:=hr
  refine wp_seq (Bh hT hF hm x hr hn hd.1 _ _ _ hS HW HA _ {go:=fun k' hk σ' e' h' ψ a' w' g hx=>?_,norm:=fun h=>(by cases h),exit:=p.exit,ret:=p.ret})
  cases hk
  exact Bh hT hF hm y hx hn hd.2 _ _ _ g.sg g.rel g.ar _ {go:=fun k' hk σ2 e2 h2 χ a2 w2 g2 hx=>p.go k' hk σ2 e2 h2 χ a2 w2 (g.trans g2) hx,norm:=fun h e2 h2 χ a2 w2 g2 hx=>p.norm h e2 h2 χ a2 w2 (g.trans g2) hx,exit:=fun id e2 h2 χ a2 w2 g2 hx=>p.exit id e2 h2 χ a2 w2 (g.trans g2) hx,ret:=fun e2 h2 χ a2 w2 g2 hx=>p.ret e2 h2 χ a2 w2 (g.trans g2) hx}
 |.cond c x y,σ,k,e,h,X,hr,hn,hd=>by
  intro φ w a hS HW HA Q p
  have hd:(BO N x && BO N y)=true:=hd
  rw[Bool.and_eq_true]at hd
  unfold codeC at hr
  cases hc:cO ⟨A,σ⟩ c with
  |none=>rw[hc]at hr;exact absurd hr.symm hn
  |some cc=>
   rw[hc]at hr
   simp only at hr
   have hrel:=HA.ev (CQ hc e)
   have two:∀ {kx:Option (Sg→C)} {Y:Go.Proofs.YtglkncnkbofgfaaGreat.X},AF cc (codeC ty A x σ kx) (codeC ty A y σ kx) F e h=Y→Y≠.no→Post ty A N F φ h w kx Y Q→(Code.cond c x y).wp P Q a w:=by
    intro kx Y hr hn p
    unfold AF at hr
    cases hv:cc e with
    |bool t=>
     rw[hv]at hr hrel
     have hev:=hrel.bool_inv
     cases t with
     |true=>exact wp_cond_true hev (Bh hT hF hm x hr hn hd.1 _ _ _ hS HW HA _ p)
     |false=>exact wp_cond_false hev (Bh hT hF hm y hr hn hd.2 _ _ _ hS HW HA _ p)
    |_=>rw[hv]at hr;exact absurd hr.symm hn
   cases k with
   |none=>exact two hr hn p
   |some k'=>
    simp only at hr
    cases hf:(G5 x && G5 y)with
    |false=>rw[hf]at hr;exact two hr hn p
    |true=>
     rw[hf]at hr
     obtain⟨X1,h1,h2,p1⟩:=Lz p hr hn
     exact two h1 h2 p1
 |.block id x,σ,k,e,h,X,hr,hn,hd=>by
  intro φ w a hS HW HA Q p
  have hd:BO N x=true:=hd
  have one:∀ {Y:Go.Proofs.YtglkncnkbofgfaaGreat.X},AM id (codeC ty A x [] none) F e h=Y→Y≠.no→Post ty A N F φ h w none Y Q→(Code.block id x).wp P Q a w:=by
   intro Y hr hn p
   obtain⟨X1,h1,h2,p1⟩:=MY p hr hn
   exact wp_block (Bh hT hF hm x h1 h2 hd _ _ _ (.nil A) HW (HA.nil hS) _ p1)
  unfold codeC at hr
  cases k with
  |none=>exact one hr hn p
  |some k'=>
   simp only at hr
   obtain⟨X1,h1,h2,p1⟩:=Lz p hr hn
   exact one h1 h2 p1
 |.loop x,σ,k,e,h,X,hr,hn,hd=>by
  intro φ w a hS HW HA Q p
  have hd:BO N x=true:=hd
  have plain:iter (codeC ty A x [] none) rounds F e h=X→(Code.loop x).wp P Q a w:=by
   intro hr
   refine wp_loop_rounds rounds (N9 hm (fun h1 h2 φ w a HW HA Q p=>Bh hT hF hm x h1 h2 hd _ _ _ (.nil A) HW HA _ p) rounds hr hn _ _ _ HW (HA.nil hS) _ {go:=fun _ h=>(by cases h),norm:=fun _ e2 h2 χ a2 w2 g2 hx=>?_,exit:=p.exit,ret:=p.ret})
   exfalso
   subst hx
   have:∀ (n:Nat) (e:Env) (h:Hp),iter (codeC ty A x [] none) n F e h≠.norm e2 h2:=by
    intro n
    induction n with
    |zero=>intro e h hq;cases hq
    |succ n ih=>
     intro e h hq
     unfold iter at hq
     cases hb:codeC ty A x [] none F e h with
     |norm e1 h1=>rw[hb]at hq;exact ih e1 h1 hq
     |no=>rw[hb]at hq;cases hq
     |exit _ _ _=>rw[hb]at hq;cases hq
     |ret _ _=>rw[hb]at hq;cases hq
   exact this _ e h hr
  unfold codeC at hr
  cases hw:OW A x with
  |none=>rw[hw]at hr;exact plain hr
  |some kw=>
   rw[hw]at hr
   have hr:G3 kw (codeC ty A x [] none) F e h=X:=hr
   obtain⟨id,o1,o2,r2,W⟩:=MM hw
   unfold G3 at hr
   split at hr
   case h_2=>exact absurd hr.symm hn
   rename_i ad hit
   split at hr
   case h_2=>exact plain hr
   rename_i m since seen last hiter
   split at hr
   case h_2=>exact absurd hr.symm hn
   split at hr
   case h_2=>exact absurd hr.symm hn
   rename_i es c hents
   split at hr
   case h_2=>exact plain hr
   have hdd:BO N (.region id #[o1,o2] false)=true∧BO N (.seq (.cond (.tmp kw.more) .skip (.exit kw.out)) r2)=true:=by
    rw[W.code]at hd
    have hd:(BO N (.region id #[o1,o2] false) && BO N (.seq (.cond (.tmp kw.more) .skip (.exit kw.out)) r2))=true:=hd
    exact Bool.and_eq_true_iff.1 hd
   have hnm:kw.nx<N∧kw.more<N:=by
    have:=hdd.1
    unfold BO at this
    simp only[List.all_cons,List.all_nil,Bool.and_true,Bool.and_eq_true,W.dst1,W.dst2]at this
    exact⟨Aq.1 this.1,Aq.1 this.2⟩
   have hdec:SizeOf.sizeOf (Code.seq (.cond (.tmp kw.more) .skip (.exit kw.out)) r2)<SizeOf.sizeOf x:=by
    rw[W.code];simp;omega
   split at hr
   ·obtain⟨hoff,hr⟩:=Km hr hn
    obtain⟨h256,hr⟩:=Km hr hn
    exact MV W hnm (fun h1 h2 φ w a HW HA Q p=>Bh hT hF hm (.seq (.cond (.tmp kw.more) .skip (.exit kw.out)) r2) h1 h2 hdd.2 _ _ _ (.nil A) HW HA _ p) hit hoff (Ar.1 h256) hr hn HW (HA.nil hS) p.exit
   ·exact Td W hnm (fun h1 h2 φ w a HW HA Q p=>Bh hT hF hm (.seq (.cond (.tmp kw.more) .skip (.exit kw.out)) r2) h1 h2 hdd.2 _ _ _ (.nil A) HW HA _ p) hit hiter hents hr hn HW (HA.nil hS) p.exit p.ret
 |.exit id,σ,k,e,h,X,hr,hn,hd=>by
  intro φ w a hS HW HA Q p
  have hr:(.exit id e h:Go.Proofs.YtglkncnkbofgfaaGreat.X)=X:=hr
  exact wp_exit (p.exit id e h φ a w ⟨.nil A,HW,HA.nil hS,.refl _ _ _⟩ hr.symm)
 |.ret,σ,k,e,h,X,hr,hn,hd=>by
  intro φ w a hS HW HA Q p
  have hr:(.ret e h:Go.Proofs.YtglkncnkbofgfaaGreat.X)=X:=hr
  exact wp_ret (p.ret e h φ a w ⟨.nil A,HW,HA.nil hS,.refl _ _ _⟩ hr.symm)
 |.rangeFunc _ _ _ _,_,_,_,_,X,hr,hn,_=>by exact absurd hr.symm hn
 |.scope x,σ,k,e,h,X,hr,hn,hd=>by
  intro φ w a hS HW HA Q p
  have hd:BO N x=true:=hd
  have hr:codeC ty A x σ k F e h=X:=hr
  exact wp_scope_straight (Bh hT hF hm x hr hn hd _ _ _ hS HW HA _ {go:=p.go,norm:=p.norm,exit:=p.exit,ret:=p.ret})
 |.label _,σ,k,e,h,X,hr,hn,hd=>by
  intro φ w a hS HW HA Q p
  exact wp_label (p.then ⟨hS,HW,HA,.refl _ _ _⟩ hr)
 |.goto _,_,_,_,_,X,hr,hn,_=>by exact absurd hr.symm hn
 |.refuse _,_,_,_,_,X,hr,hn,_=>by exact absurd hr.symm hn
termination_by c=>SizeOf.sizeOf c
decreasing_by
 all_goals simp_wf
 all_goals first|omega|(simp_all;omega)
end
end
noncomputable section
open Go
section
variable {P:Program}{ty:TTy}{A:List Nat}{N:Nat}{φ:Phi}{h h':Hp}{w:World}{e:Env}{a:Act}{v:Value}
theorem Jn{t:Nat}(h:KQ A t=true)(e:Env):rhoOf A [] e t=some (slotG t e):=by
 unfold KQ at h
 rw[CJ]
 show(match memN t A with|true=>none|false=>match Nat.blt t 208 with|true=>some (slotG t e)|false=>none)=_
 cases hm:memN t A with
 |true=>rw[hm]at h;cases h
 |false=>
  rw[hm]at h
  have h:Nat.blt t 208=true:=h
  simp only[h]
def Lw(tmps:Array Value):ResultVar→Sem Value
 |.tmp t=>pure (tmps.getD t undef)
 |.cell a t=>do loadVar t (← asAddr (tmps.getD a undef))
theorem Io(fn:Func)(tmps:Array Value):Go.results fn tmps=(do let vs ← fn.results.mapM (Lw tmps);pure (if h:vs.size=1 then vs[0]else .tuple vs)):=by
 unfold Go.results
 congr 2
theorem Pg(f:ResultVar→Sem Value)(l:Array ResultVar){vs:List Value}(h:(l.toList.mapM f).run P w=.ok vs w):(l.mapM f).run P w=.ok ⟨vs⟩ w:=by
 have:l.mapM f=List.toArray <$> l.toList.mapM f:=by
  conv=>lhs;rw[← Array.toArray_toList (xs:=l)]
  rw[List.mapM_toArray]
 rw[this,map_eq_pure_bind,Sem.run_bind,h,Result.andThen_ok,Sem.run_pure]
theorem EA(hT:BN P ty)(H:RelW ty φ nil h w)(HA:AR N φ (rhoOf A [] e) a):∀ {l:List ResultVar} {rs:List RV} {k:List Value→R},rsC ty A l=some rs→Go.Proofs.YtglkncnkbofgfaaGreat.results e h k rs=.ok v h'→
  ∃ vs vs',RelL φ vs vs'∧k vs=.ok v h'∧(l.mapM (Lw a.tmps)).run P w=.ok vs' w
 |[],rs,k,hc,hr=>by
  cases hc
  exact⟨[],[],.nil,hr,by simp⟩
 |.tmp t::l,rs,k,hc,hr=>by
  unfold rsC at hc
  split at hc
  ·cases hc
  rename_i ht
  split at hc
  case h_2=>cases hc
  rename_i r hrs
  cases hc
  unfold Go.Proofs.YtglkncnkbofgfaaGreat.results at hr
  have hr:forceV (slotG t e) (fun v=>Go.Proofs.YtglkncnkbofgfaaGreat.results e h (fun vs=>k (v::vs)) r)=.ok v h':=hr
  rw[BB]at hr
  obtain⟨vs,vs',h1,h2,h3⟩:=EA hT H HA hrs hr
  have h4:=HA.rel t _ (Jn ht e)
  exact⟨_,_,.cons h4 h1,h2,by simp[List.mapM_cons,Lw,h3]⟩
 |.cell c t::l,rs,k,hc,hr=>by
  unfold rsC at hc
  split at hc
  ·cases hc
  rename_i ht
  split at hc
  case h_2=>cases hc
  rename_i ti hti
  split at hc
  case h_2=>cases hc
  rename_i r hrs
  have T:=hT t ti hti
  have h4:=HA.rel c _ (Jn ht e)
  cases hag:ti.k.agg with
  |true=>
   rw[hag]at hc
   cases hc
   unfold Go.Proofs.YtglkncnkbofgfaaGreat.results KR at hr
   simp only at hr
   cases hadr:Cn (slotG c e)with
   |no=>rw[hadr]at hr;cases hr
   |ok ad=>
    rw[hadr]at hr
    simp only at hr
    cases hl:loadN ti.size ad h with
    |no=>rw[hl]at hr;cases hr
    |ok u h2=>
     rw[hl]at hr
     simp only[BB]at hr
     rw[Dt hadr]at h4
     obtain⟨a',ha',hra⟩:=h4.ptr_inv
     obtain⟨_,l',hv,hrun⟩:=LP (P:=P) H hl hra (fun h=>h)
     obtain⟨vs,vs',h1,h5,h3⟩:=EA hT H HA hrs hr
     refine⟨_,_,.cons hv h1,h5,?_⟩
     have:(Lw a.tmps (.cell c t)).run P w=.ok (.agg l'.toArray) w:=by
      unfold Lw
      simp only[ha',asAddr,Sem.run_bind,Sem.run_pure,Result.andThen_ok,loadVar,T.agg,hag,if_true,T.size,hrun]
     simp[List.mapM_cons,this,h3]
  |false=>
   rw[hag]at hc
   cases hc
   unfold Go.Proofs.YtglkncnkbofgfaaGreat.results KR at hr
   simp only at hr
   cases hadr:Cn (slotG c e)with
   |no=>rw[hadr]at hr;cases hr
   |ok ad=>
    rw[hadr]at hr
    simp only at hr
    cases hl:load1 ad h with
    |no=>rw[hl]at hr;cases hr
    |ok u h2=>
     rw[hl]at hr
     simp only[BB]at hr
     rw[Dt hadr]at h4
     obtain⟨a',ha',hra⟩:=h4.ptr_inv
     obtain⟨_,v',hcell,hv⟩:=LO H hl hra (fun h=>h)
     obtain⟨vs,vs',h1,h5,h3⟩:=EA hT H HA hrs hr
     refine⟨_,_,.cons hv h1,h5,?_⟩
     have:(Lw a.tmps (.cell c t)).run P w=.ok v' w:=by
      unfold Lw
      simp only[ha',asAddr,Sem.run_bind,Sem.run_pure,Result.andThen_ok,loadVar,T.agg,hag,Bool.false_eq_true,if_false,run_load,hcell]
     simp[List.mapM_cons,this,h3]
theorem JU(hT:BN P ty)(H:RelW ty φ nil h w)(HA:AR N φ (rhoOf A [] e) a){fn:Func}{rs:List RV}(hc:rsC ty A fn.results.toList=some rs)(hr:KB rs e h=.ok v h'):
  h'=h∧∃ v',RelV φ v v'∧(Go.results fn a.tmps).run P w=.ok v' w:=by
 unfold KB at hr
 obtain⟨vs,vs',h1,h2,h3⟩:=EA hT H HA hc hr
 have hrun:=Pg (P:=P) (w:=w) (Lw a.tmps) fn.results h3
 rw[Io]
 simp only[Sem.run_bind,hrun,Result.andThen_ok,Sem.run_pure]
 unfold Nv at h2
 split at h2
 ·cases h2
  cases h1 with
  |cons hv ht=>cases ht;exact⟨rfl,_,hv,rfl⟩
 ·rename_i hne
  cases h2
  refine⟨rfl,_,.tuple h1,?_⟩
  have:vs'.length≠1:=by
   rw[h1.length]
   intro hl
   cases vs with
   |nil=>cases hl
   |cons x l=>
    cases l with
    |nil=>exact hne x rfl
    |cons _ _=>simp at hl
  have hs:¬ (Array.mk vs').size=1:=this
  rw[dif_neg hs]
theorem Ir:∀ (args:List Value) (e:Env) (i t:Nat),i+args.length≤208→t<208→(Cc e i args).get t=if i≤t∧t<i+args.length then args.getD (t - i) noRes else e.get t
 |[],e,i,t,_,_=>by
  rw[if_neg (by simp)];rfl
 |v::l,e,i,t,hn,ht=>by
  simp only[List.length_cons]at hn
  unfold Cc
  rw[Ir l _ (i+1) t (by omega) ht]
  by_cases h1:i+1≤t∧t<i+1+l.length
  ·rw[if_pos h1,if_pos (by simp only[List.length_cons];omega)]
   have:t - i=(t - (i+1))+1:=by omega
   rw[this,List.getD_cons_succ]
  ·rw[if_neg h1,Env.get_set _ _ _ _ (by omega) ht]
   by_cases h2:t=i
   ·subst h2
    rw[if_pos rfl,if_pos (by simp only[List.length_cons];omega)]
    simp
   ·rw[if_neg h2,if_neg (by simp only[List.length_cons];omega)]
set_option maxRecDepth 100000 in
theorem Pw{t:Nat}(ht:t<208):e0.get t=noRes:=by
 have H:Hq (fun i=>e0.get i=noRes) 208:=by
  repeat' (first|exact trivial|refine⟨rfl,?_⟩)
 exact H.at t ht
theorem Rl{args args':List Value}(hr:RelL φ args args')(hn:args.length≤208)(n:Nat):
  AR (max args.length n) φ (rhoOf A [] (Cc e0 0 args)) {tmps:=(⟨args'⟩:Array Value)++Array.replicate (n - (⟨args'⟩:Array Value).size) undef,defers:=[]} where
 size:=by
  have:=hr.length
  simp only[Array.size_append,Array.size_replicate,List.size_toArray]
  omega
 defs:=rfl
 rel:=fun t u hu=>by
  rw[CJ]at hu
  have hu:(match memN t A with|true=>none|false=>match Nat.blt t 208 with|true=>some (slotG t (Cc e0 0 args))|false=>none)=some u:=hu
  cases hm:memN t A with
  |true=>rw[hm]at hu;cases hu
  |false=>
   rw[hm]at hu
   simp only at hu
   cases hb:Nat.blt t 208 with
   |false=>rw[hb]at hu;cases hu
   |true=>
    rw[hb]at hu
    cases hu
    have ht:=Aq.1 hb
    rw[A8 t ht,Ir args e0 0 t (by omega) ht,Pw ht]
    have hlen:=hr.length
    simp only[Array.getD_eq_getD_getElem?]
    by_cases h1:t<args.length
    ·rw[if_pos (by omega),Nat.sub_zero,Array.getElem?_append_left (by simp only[List.size_toArray];omega)]
     obtain⟨v',h2,h3⟩:=hr.get t args[t] (List.getElem?_eq_getElem h1)
     have:args.getD t noRes=args[t]:=by rw[List.getD_eq_getElem?_getD,List.getElem?_eq_getElem h1];rfl
     rw[this]
     have e2:(⟨args'⟩:Array Value)[t]? =some v':=by simpa using h2
     rw[e2];exact h3
    ·rw[if_neg (by omega),Array.getElem?_append_right (by simp only[List.size_toArray];omega),Array.getElem?_replicate]
     split<;>exact .tuple .nil
theorem PM{l:List ResultVar}{rs:List RV}(hc:rsC ty A l=some rs):RW rs=none:=by
 cases l with
 |nil=>cases hc;rfl
 |cons x l=>
  cases x with
  |tmp t=>
   unfold rsC at hc
   split at hc
   ·cases hc
   ·split at hc
    ·cases hc;rfl
    ·cases hc
  |cell c t=>
   unfold rsC at hc
   split at hc
   ·cases hc
   ·split at hc
    ·split at hc
     ·split at hc
      ·cases hc;rfl
      ·cases hc;rfl
     ·cases hc
    ·cases hc
def V1(P:Program)(ty:TTy)(g:Nat)(b:Body):Prop:=∃ fn A,P.funcs[g]? =some fn∧fn.name≠"runtime.NumGoroutine" ∧Pm ty A fn=some b
def AS:Body:=⟨[],cNo⟩
theorem Bn{n m:Nat}(h:n≤m):∀ {c:Code},BO n c=true→BO m c=true
 |.region _ ops _,hd=>by
  unfold BO at hd ⊢
  rw[List.all_eq_true]at hd ⊢
  intro o ho
  have:=hd o ho
  split at this
  ·have:=Aq.1 this
   exact Aq.2 (by omega)
  ·rfl
 |.seq a b,hd=>by
  have hd:(BO n a && BO n b)=true:=hd
  rw[Bool.and_eq_true]at hd
  show(BO m a && BO m b)=true
  rw[Bn h hd.1,Bn h hd.2];rfl
 |.cond _ a b,hd=>by
  have hd:(BO n a && BO n b)=true:=hd
  rw[Bool.and_eq_true]at hd
  show(BO m a && BO m b)=true
  rw[Bn h hd.1,Bn h hd.2];rfl
 |.block _ a,hd=>Bn (c:=a) h hd
 |.loop a,hd=>Bn (c:=a) h hd
 |.skip,_=>rfl
 |.exit _,_=>rfl
 |.ret,_=>rfl
 |.rangeFunc _ _ _ _,_=>rfl
 |.scope a,hd=>Bn (c:=a) h hd
 |.label _,_=>rfl
 |.goto _,_=>rfl
 |.refuse _,_=>rfl
theorem Ku(hT:BN P ty){F:CallF}(hF:BM P ty F)(hm:P.follows .mixedOrders=true){g:Nat}{b:Body}(hb:V1 P ty g b){args:List Value}(hr:enter F b args h=.ok v h'):
  (∃ fn,P.funcs[g]? =some fn∧fn.name≠"runtime.NumGoroutine" ∧fn.body.isNone=false)∧
  ∀ φ w args',RelL φ args args'→RelW ty φ nil h w→
   Calls P g ⟨args'⟩ w fun en w'=>∃ v' ψ,en=.returned v'∧RelV ψ v v'∧RelW ty ψ nil h' w'∧Evo φ h w ψ h' w':=by
 obtain⟨fn,A,hfn,hname,hbody⟩:=hb
 unfold Pm at hbody
 cases hc:fn.body with
 |none=>rw[hc]at hbody;cases hbody
 |some c=>
  rw[hc]at hbody
  simp only at hbody
  cases hrs:rsC ty A fn.results.toList with
  |none=>rw[hrs]at hbody;cases hbody
  |some rs=>
   rw[hrs]at hbody
   simp only at hbody
   cases hd:BO fn.ntmps c with
   |false=>rw[hd]at hbody;cases hbody
   |true=>
    rw[hd]at hbody
    cases hbody
    refine⟨⟨fn,hfn,hname,by rw[hc];rfl⟩,fun φ w args' hrel HW=>?_⟩
    unfold enter at hr
    dsimp only at hr
    rw[PM hrs]at hr
    obtain⟨hlen,hr⟩:=Aw hr
    have hlen:args.length≤208:=by rw[← A9];exact Ar.1 hlen
    have hAR:=Rl (A:=A) hrel hlen fn.ntmps
    refine calls_of_wp hfn hc ?_
    have hn:codeC ty A c [] none F (Cc e0 0 args) h≠.no:=by
     intro hx;rw[hx]at hr;cases hr
    refine Bh hT hF hm c (e:=Cc e0 0 args) (h:=h) rfl hn (Bn (Nat.le_max_right _ _) hd) _ _ _ (.nil A) HW hAR _ {go:=fun _ h=>(by cases h),norm:=fun _ e1 h1 ψ a1 w1 g1 hx=>?_,exit:=fun id e1 h1 ψ a1 w1 g1 hx=>?_,ret:=fun e1 h1 ψ a1 w1 g1 hx=>?_}
    ·rw[hx]at hr
     obtain⟨rfl,v',hv,hrun⟩:=JU hT g1.rel g1.ar hrs hr
     exact⟨g1.ar.defs,v',hrun,v',ψ,rfl,hv,g1.rel,g1.evo⟩
    ·rw[hx]at hr;cases hr
    ·rw[hx]at hr
     obtain⟨rfl,v',hv,hrun⟩:=JU hT g1.rel g1.ar hrs hr
     exact⟨g1.ar.defs,v',hrun,v',ψ,rfl,hv,g1.rel,g1.evo⟩
def ES(P:Program)(ty:TTy)(g:Nat)(b:Body):Prop:=∀ (F:CallF) (args:List Value) (h:Hp) (v:Value) (h':Hp),BM P ty F→enter F b args h=.ok v h'→
 (∃ fn,P.funcs[g]? =some fn∧fn.name≠"runtime.NumGoroutine" ∧fn.body.isNone=false)∧
 ∀ φ w args',RelL φ args args'→RelW ty φ nil h w→
  Calls P g ⟨args'⟩ w fun en w'=>∃ v' ψ,en=.returned v'∧RelV ψ v v'∧RelW ty ψ nil h' w'∧Evo φ h w ψ h' w'
def AX(P:Program)(ty:TTy)(g:Nat)(b:Body):Prop:=V1 P ty g b∨b=AS∨ES P ty g b
def FT.All(p:Nat→Body→Prop):FT→(Nat→Nat)→Prop
 |.mt,_=>True
 |.nd b l r,ix=>p (ix 0) b∧FT.All p l (fun k=>ix (2 * k+1))∧FT.All p r (fun k=>ix (2 * k+2))
theorem FT.All.get{p:Nat→Body→Prop}:∀ {t:FT} {ix:Nat→Nat},FT.All p t ix→∀ {i:Nat} {b:Body},t.get i=some b→p (ix i) b
 |.mt,ix,_,i,b,h=>by cases h
 |.nd c l r,ix,⟨h0,hl,hr⟩,0,b,h=>by cases h;exact h0
 |.nd c l r,ix,⟨h0,hl,hr⟩,k+1,b,h=>by
  unfold FT.get at h
  have e1:Nat.mod k 2=k % 2:=rfl
  have e2:Nat.div k 2=k / 2:=rfl
  rw[e1,e2]at h
  rcases Nat.mod_two_eq_zero_or_one k with hk|hk
  ·rw[hk]at h
   have:=hl.get (i:=k / 2) h
   have e:2 * (k / 2)+1=k+1:=by omega
   simp only[e]at this;exact this
  ·rw[hk]at h
   have:=hr.get (i:=k / 2) h
   have e:2 * (k / 2)+2=k+1:=by omega
   simp only[e]at this;exact this
theorem Fo(hT:BN P ty)(hm:P.follows .mixedOrders=true){bs:FT}(hb:FT.All (AX P ty) bs id):∀ n,BM P ty (call bs n)
 |0=>fun g args h v h' hr=>by cases hr
 |n+1=>fun g args h v h' hr=>by
  have hr:(match bs.get g with|some b=>enter (call bs n) b args h|none=>.no)=.ok v h':=hr
  cases hg:bs.get g with
  |none=>rw[hg]at hr;cases hr
  |some b=>
   rw[hg]at hr
   rcases hb.get hg with hok|rfl|hdo
   ·exact Ku hT (Fo hT hm hb n) hm hok hr
   ·exfalso
    have hr:(bif Nat.ble (Bo args) 208 then LL [] .no else .no)=.ok v h':=hr
    obtain⟨_,hr⟩:=Aw hr
    cases hr
   ·exact hdo _ args h v h' (Fo hT hm hb n) hr
end
end
noncomputable section
open Go Go.RowKit Go.WideShapes Go.ChangeShapes
def D7:R→Bool
 |.ok (.bool b) _=>b
 |_=>false
def AIY:Phi:=fun _=>none
section
variable {H:Type}{enc:TypeId×Value→H}{P:Program}
theorem JC{f:Func}{s:ChangeSpec}{apart fresh handsOn again:Bool}{W W':World}{args:Array Value}{v:Value}{ds gs:List (DataW H)}{before pa pv:List MemPlace}
  (hW:DataW.Whole enc P f.params.toList s.vars apart W args.toList ds gs before)
  (hres:∀ (b:Nat) (sp:Nat→Bool) (hd:Bool),DataW.TrodAll enc P W' b sp hd f.resultTypes.toList (v.resultList f.resultTypes.size) (s.fn H (ds++gs)).results [])
  (hargs:∀ sp:Nat→Bool,(∀ p∈before,sp p.block=true)→DataW.TrodAll enc P W' 0 sp true f.params.toList args.toList (s.fn H (ds++gs)).args pa)
  (hvars:∀ sp:Nat→Bool,(∀ p∈before,sp p.block=true)→DataW.TrodVars enc P W' sp s.vars (s.fn H (ds++gs)).vars pv)
  (hps:before=pa++pv)(hb:Below W.heap.size W W')
  (hok:∀ (j:Nat) (t:TypeId) (r:Value),f.resultTypes[j]? =some t→(v.resultList f.resultTypes.size)[j]? =some r→Value.okWide P W' .any 0 t r):
  s.post enc P f apart fresh handsOn again W args v W':=by
 have hlt:∀ p∈before,p.block<W.heap.size:=fun p hp=>hW.lt p hp
 have hold:∀ p∈before,(fun b=>decide (b<W.heap.size)) p.block=true:=fun p hp=>by simpa using hlt p hp
 refine⟨ds,gs,before,[],pa,pv,hW,hres _ _ _,hargs _ hold,hvars _ hold,World.keptBut_mono (fun p hp=>⟨hp,?_⟩) (hb.frame (· ∈before)),fun _=>?_⟩
 ·rw[hps,List.mem_append]at hp
  exact Or.inr hp
 ·obtain⟨_,_,_,_,_,hz,hn⟩:=hW
  refine⟨hok,_,_,([]++pa)++pv,⟨[]++pa,pv,trodAll_append (hargs _ (fun _ _=>rfl)) (hres _ _ _),hvars _ (fun _ _=>rfl),rfl,?_,?_⟩,?_⟩
  ·intro b off hp
   have hin:MemPlace.cell b off∈before:=by rw[hps];simpa using hp
   rw[hb.frozen (hlt _ hin)]
   exact hz b off hin
  ·intro ha
   have:=hn ha
   rw[hps]at this
   simpa using this
  ·intro p hp _
   rw[hps]
   simpa using hp
end
end
noncomputable section
open Go Go.RowKit Go.WideShapes Go.ChangeShapes
def PZ(φ:Phi):Prop:=∀ i p,φ i=some p→i<256∧p.inp=true
theorem Q6{P:Program}{ty:TTy}{bs:FT}(hC:∀ n,BM P ty (call bs n)){n f:Nat}{xs args:List Value}{φ:Phi}{w:World}(h:D7 (call bs n f xs GJ)=true)(hr:RelL φ xs args)
  (hφ:PZ φ)(hd:∀ i p,φ i=some p→p.blk<w.heap.size):Calls P f ⟨args⟩ w fun e w'=>e=.returned (.bool true)∧Below w.heap.size w w':=by
 cases hq:call bs n f xs GJ with
 |no=>rw[hq]at h;cases h
 |ok v h'=>
  rw[hq]at h
  obtain⟨_,hc⟩:=hC n f xs GJ v h' hq
  have HW:RelW ty φ nil GJ w:={
   dom:=fun i p e=>⟨(hφ i p e).1,hd i p e⟩
   inj:=fun i j p q _ _ _ _ hl=>absurd (Bk 9 i) hl
   row:=fun i p _ _=>by show RelB _ _ _ ((De 9).get i) _;rw[Bk];exact .dead
   fresh:=fun i _=>Bk 9 i
   kind:=fun i p c s e _ h=>by have h:(De 9).get i=_:=h;rw[Bk]at h;cases h
   inp:=fun i p e _=>(hφ i p e).1}
  refine(hc φ w args hr HW).mono fun e w' ⟨v',ψ,he,hv,_,ev⟩=>?_
  cases v with
  |bool b=>
   have h:b=true:=h
   subst h
   have:=hv.bool_inv
   subst this
   exact⟨he,⟨ev.os,ev.tape,ev.output,ev.size,fun k hk=>ev.frame k hk fun i p hp hn=>by rw[(hφ i p hp).2]at hn;cases hn⟩⟩
  |_=>cases h
def sliceAt(b:Nat)(a:Addr)(n c:Nat):Phi:=fun i=>if i=b then some {blk:=a.block,off:=a.off,sz:=c,room:=c,es:=1,inp:=true}else none
theorem PP{P:Program}{W:World}{base t e:Nat}{v:Value}(ht:P.underlying t=some (.slice e))(h:Value.okWide P W .any base t v):
  v=.slice none 0 0∨∃ a n c,v=.slice (some a) n c∧n≤c∧a.spot=none∧a.block<W.heap.size:=by
 unfold Value.okWide at h
 rw[ht]at h
 simp only at h
 unfold Cell.okWide at h
 rw[ht]at h
 have h:Cell.ok P W .any base t v:=by cases v<;>exact h
 unfold Cell.ok at h
 rw[ht]at h
 split at h<;>first|(exact h.elim;done)|skip
 all_goals (rename_i e1 _;cases e1)
 ·exact .inl rfl
 ·obtain⟨h1,_,h2⟩:=h
  obtain⟨_,h3,row,cells,h4,_⟩:=h2
  refine .inr ⟨_,_,_,rfl,h1,h3,?_⟩
  unfold World.shape? at h4
  split at h4
  ·rename_i hb;exact(Array.getElem?_eq_some_iff.1 hb).1
  all_goals first|(cases h4;done)|(rename_i hb;exact(Array.getElem?_eq_some_iff.1 hb).1)
theorem NJ{P:Program}{W:World}{base t e:Nat}{v:Value}(ht:P.underlying t=some (.slice e))(h:Cell.okWide P W .any base t v):
  v=.slice none 0 0∨∃ a n c,v=.slice (some a) n c∧n≤c∧a.spot=none∧a.block<W.heap.size:=
 PP (base:=base) ht (by unfold Value.okWide;rw[ht];exact h)
theorem QB{P:Program}{W:World}{base t:Nat}{k:IntKind}{v:Value}(ht:P.underlying t=some (.int k))(h:Cell.okWide P W .any base t v):∃ n,v=.int k n:=by
 unfold Cell.okWide at h
 rw[ht]at h
 have h:Cell.ok P W .any base t v:=by cases v<;>exact h
 unfold Cell.ok at h
 rw[ht]at h
 split at h<;>first|(exact h.elim;done)|skip
 all_goals (rename_i e1 _;cases e1)
 exact⟨_,by rw[h.1]⟩
end
noncomputable section
open Go
namespace VT
def has:VT→Nat→Prop
 |.mt,_=>False
 |.nd _ _ _,0=>True
 |.nd _ l r,k+1=>if k % 2=0 then l.has (k / 2)else r.has (k / 2)
theorem BI(v:Value)(l r:VT)(k:Nat):(VT.nd v l r).has (k+1)=if k % 2=0 then l.has (k / 2)else r.has (k / 2):=by rw[has]
theorem C6:∀ (t:VT) (i:Nat) (x:Value),(∀ j,j<i→t.has j)→∃ t',t.set i x=some t'
 |.mt,0,x,_=>⟨_,rfl⟩
 |.mt,i+1,x,h=>(h 0 (Nat.succ_pos i)).elim
 |.nd v l r,0,x,_=>⟨_,rfl⟩
 |.nd v l r,k+1,x,h=>by
  rw[set_nd_succ]
  by_cases hk:k % 2=0
  ·rw[if_pos hk]
   obtain⟨l',hl⟩:=C6 l (k / 2) x fun j hj=>by
    have:=h (2 * j+1) (by omega)
    rw[BI,if_pos (by omega)]at this
    have e:2 * j / 2=j:=by omega
    rwa [e]at this
   rw[hl];exact⟨_,rfl⟩
  ·rw[if_neg hk]
   obtain⟨r',hr⟩:=C6 r (k / 2) x fun j hj=>by
    have:=h (2 * j+1+1) (by omega)
    rw[BI,if_neg (by omega)]at this
    have e:(2 * j+1) / 2=j:=by omega
    rwa [e]at this
   rw[hr];exact⟨_,rfl⟩
theorem ED:∀ (t:VT) (i:Nat) (x:Value) (t':VT),t.set i x=some t'→∀ j,(j=i∨t.has j)→t'.has j
 |.mt,0,x,t',h,j,hj=>by
  obtain rfl:VT.nd x .mt .mt=t':=Option.some.inj h
  rcases hj with rfl|hj
  ·exact trivial
  ·exact hj.elim
 |.mt,i+1,x,t',h,j,hj=>by cases h
 |.nd v l r,0,x,t',h,j,hj=>by
  obtain rfl:VT.nd x l r=t':=Option.some.inj h
  cases j with
  |zero=>exact trivial
  |succ j=>
   rcases hj with hj|hj
   ·cases hj
   ·rw[BI]at hj ⊢;exact hj
 |.nd v l r,i+1,x,t',h,j,hj=>by
  rw[set_nd_succ]at h
  split at h
  ·rename_i h0
   cases hs:l.set (i / 2) x with
   |none=>rw[hs]at h;cases h
   |some l'=>
    rw[hs]at h
    obtain rfl:VT.nd v l' r=t':=Option.some.inj h
    cases j with
    |zero=>exact trivial
    |succ j=>
     rw[BI]
     split
     ·rename_i h1
      refine ED l _ x l' hs _ ?_
      rcases hj with hj|hj
      ·left;have:j=i:=by omega
       rw[this]
      ·right;rw[BI,if_pos h1]at hj;exact hj
     ·rename_i h1
      rcases hj with hj|hj
      ·have:j=i:=by omega
       exact absurd (this ▸ h0) h1
      ·rw[BI,if_neg h1]at hj;exact hj
  ·rename_i h0
   cases hs:r.set (i / 2) x with
   |none=>rw[hs]at h;cases h
   |some r'=>
    rw[hs]at h
    obtain rfl:VT.nd v l r'=t':=Option.some.inj h
    cases j with
    |zero=>exact trivial
    |succ j=>
     rw[BI]
     split
     ·rename_i h1
      rcases hj with hj|hj
      ·have:j=i:=by omega
       exact absurd (this ▸ h1) h0
      ·rw[BI,if_pos h1]at hj;exact hj
     ·rename_i h1
      refine ED r _ x r' hs _ ?_
      rcases hj with hj|hj
      ·left;have:j=i:=by omega
       rw[this]
      ·right;rw[BI,if_neg h1]at hj;exact hj
def lay(t:VT)(i:Nat)(x:Value):VT:=(t.set i x).getD t
theorem lay_is{t:VT}{i:Nat}{x:Value}(h:∀ j,j<i→t.has j):t.set i x=some (t.lay i x):=by
 obtain⟨t',ht⟩:=C6 t i x h
 unfold lay;rw[ht];rfl
theorem lay_get{t:VT}{i:Nat}{x:Value}(h:∀ j,j<i→t.has j)(j:Nat):(t.lay i x).get j=if j=i then x else t.get j:=get_set _ _ _ _ (lay_is h) j
theorem lay_has{t:VT}{i:Nat}{x:Value}(h:∀ j,j<i→t.has j)(j:Nat)(hj:j=i∨t.has j):(t.lay i x).has j:=ED _ _ _ _ (lay_is h) j hj
end VT
namespace BT
theorem BI(v:Blk)(l r:BT)(k:Nat):(BT.nd v l r).has (k+1)=if k % 2=0 then l.has (k / 2)else r.has (k / 2):=by rw[has]
theorem C6:∀ (t:BT) (i:Nat) (x:Blk),(∀ j,j<i→t.has j)→∃ t',t.set i x=some t'
 |.mt,0,x,_=>⟨_,rfl⟩
 |.mt,i+1,x,h=>(h 0 (Nat.succ_pos i)).elim
 |.nd v l r,0,x,_=>⟨_,rfl⟩
 |.nd v l r,k+1,x,h=>by
  rw[set_nd_succ]
  by_cases hk:k % 2=0
  ·rw[if_pos hk]
   obtain⟨l',hl⟩:=C6 l (k / 2) x fun j hj=>by
    have:=h (2 * j+1) (by omega)
    rw[BI,if_pos (by omega)]at this
    have e:2 * j / 2=j:=by omega
    rwa [e]at this
   rw[hl];exact⟨_,rfl⟩
  ·rw[if_neg hk]
   obtain⟨r',hr⟩:=C6 r (k / 2) x fun j hj=>by
    have:=h (2 * j+1+1) (by omega)
    rw[BI,if_neg (by omega)]at this
    have e:(2 * j+1) / 2=j:=by omega
    rwa [e]at this
   rw[hr];exact⟨_,rfl⟩
theorem ED:∀ (t:BT) (i:Nat) (x:Blk) (t':BT),t.set i x=some t'→∀ j,(j=i∨t.has j)→t'.has j
 |.mt,0,x,t',h,j,hj=>by
  obtain rfl:BT.nd x .mt .mt=t':=Option.some.inj h
  rcases hj with rfl|hj
  ·exact trivial
  ·exact hj.elim
 |.mt,i+1,x,t',h,j,hj=>by cases h
 |.nd v l r,0,x,t',h,j,hj=>by
  obtain rfl:BT.nd x l r=t':=Option.some.inj h
  cases j with
  |zero=>exact trivial
  |succ j=>
   rcases hj with hj|hj
   ·cases hj
   ·rw[BI]at hj ⊢;exact hj
 |.nd v l r,i+1,x,t',h,j,hj=>by
  rw[set_nd_succ]at h
  split at h
  ·rename_i h0
   cases hs:l.set (i / 2) x with
   |none=>rw[hs]at h;cases h
   |some l'=>
    rw[hs]at h
    obtain rfl:BT.nd v l' r=t':=Option.some.inj h
    cases j with
    |zero=>exact trivial
    |succ j=>
     rw[BI]
     split
     ·rename_i h1
      refine ED l _ x l' hs _ ?_
      rcases hj with hj|hj
      ·left;have:j=i:=by omega
       rw[this]
      ·right;rw[BI,if_pos h1]at hj;exact hj
     ·rename_i h1
      rcases hj with hj|hj
      ·have:j=i:=by omega
       exact absurd (this ▸ h0) h1
      ·rw[BI,if_neg h1]at hj;exact hj
  ·rename_i h0
   cases hs:r.set (i / 2) x with
   |none=>rw[hs]at h;cases h
   |some r'=>
    rw[hs]at h
    obtain rfl:BT.nd v l r'=t':=Option.some.inj h
    cases j with
    |zero=>exact trivial
    |succ j=>
     rw[BI]
     split
     ·rename_i h1
      rcases hj with hj|hj
      ·have:j=i:=by omega
       exact absurd (this ▸ h1) h0
      ·rw[BI,if_pos h1]at hj;exact hj
     ·rename_i h1
      refine ED r _ x r' hs _ ?_
      rcases hj with hj|hj
      ·left;have:j=i:=by omega
       rw[this]
      ·right;rw[BI,if_neg h1]at hj;exact hj
def lay(t:BT)(i:Nat)(x:Blk):BT:=(t.set i x).getD t
theorem lay_is{t:BT}{i:Nat}{x:Blk}(h:∀ j,j<i→t.has j):t.set i x=some (t.lay i x):=by
 obtain⟨t',ht⟩:=C6 t i x h
 unfold lay;rw[ht];rfl
theorem lay_get{t:BT}{i:Nat}{x:Blk}(h:∀ j,j<i→t.has j)(j:Nat):(t.lay i x).get j=if j=i then x else t.get j:=get_set _ _ _ _ (lay_is h) j
theorem lay_has{t:BT}{i:Nat}{x:Blk}(h:∀ j,j<i→t.has j)(j:Nat)(hj:j=i∨t.has j):(t.lay i x).has j:=ED _ _ _ _ (lay_is h) j hj
end BT
end
noncomputable section
open Go Go.RowKit Go.WideShapes Go.ChangeShapes
abbrev BL:=List (Nat×Blk)
def KI(t:BT):BL→Option BT
 |[]=>some t
 |x::l=>match t.set x.1 x.2 with
  |some t'=>KI t' l
  |none=>none
theorem GA:∀ (l:BL) (t t':BT),KI t l=some t'→∀ j,(∃ o,(j,o)∈l∧t'.get j=o)∨((∀ o,(j,o)∉l)∧t'.get j=t.get j)
 |[],t,t',h,j=>by cases h;exact .inr ⟨fun _ h=>(by cases h),rfl⟩
 |(b,o)::l,t,t',h,j=>by
  unfold KI at h
  cases hs:t.set b o with
  |none=>rw[hs]at h;cases h
  |some t1=>
   rw[hs]at h
   rcases GA l t1 t' h j with ⟨o',h1,h2⟩|⟨h1,h2⟩
   ·exact .inl ⟨o',List.mem_cons_of_mem _ h1,h2⟩
   ·rw[h2,BT.get_set _ _ _ _ hs]
    by_cases hj:j=b
    ·rw[if_pos hj,hj]
     exact .inl ⟨o,List.mem_cons_self,rfl⟩
    ·rw[if_neg hj]
     refine .inr ⟨fun o' ho=>?_,rfl⟩
     rcases List.mem_cons.1 ho with h3|h3
     ·exact hj (congrArg Prod.fst h3)
     ·exact h1 o' h3
def holds(t:BT):BL→Bool
 |[]=>true
 |x::l=>bif eqB (t.get x.1) x.2 then holds t l else false
theorem Dh{t:BT}:∀ {l:BL},holds t l=true→∀ j o,(j,o)∈l→t.get j=o
 |[],_,j,o,h=>by cases h
 |(b,u)::l,h,j,o,hm=>by
  obtain⟨h1,h2⟩:=Ai h
  rcases List.mem_cons.1 hm with h3|h3
  ·cases h3;exact Py h1
  ·exact Dh h2 j o h3
def under(n:Nat):BL→Bool
 |[]=>true
 |x::l=>bif Nat.blt x.1 n then under n l else false
def P7:BL→BL→Bool
 |[],_=>true
 |x::l,p=>match p with
  |[]=>false
  |y::p=>bif Nat.beq x.1 y.1 then P7 l p else false
theorem K9:∀ {l p:BL},P7 l p=true→∀ j o,(j,o)∈l→∃ o',(j,o')∈p
 |[],p,_,j,o,h=>by cases h
 |(b,u)::l,[],h,j,o,hm=>by cases h
 |(b,u)::l,(c,v)::p,h,j,o,hm=>by
  obtain⟨h1,h2⟩:=Ai h
  rcases List.mem_cons.1 hm with h3|h3
  ·cases h3
   have:b=c:=Ae.1 h1
   exact⟨v,by rw[this];exact List.mem_cons_self⟩
  ·obtain⟨o',h4⟩:=K9 h2 j o h3
   exact⟨o',List.mem_cons_of_mem _ h4⟩
structure Piece where
 fn:Nat
 args:List Value
 next:Nat
 same:BL
 was:BL
 v:Value
 next1:Nat
 post:BL
 lo:Nat
 hi:Nat
def Piece.tree(p:Piece)(d:Nat):BT:=match KI (De d) p.same with
 |some t=>match KI t p.was with
  |some t=>t
  |none=>.mt
 |none=>.mt
def KM:Blk→Bool
 |.dead=>false
 |_=>true
theorem M2{b:Blk}(h:KM b=true):b≠.dead:=by rintro rfl;cases h
def FF(n:Nat)(t:BT):BL→Bool
 |[]=>true
 |x::l=>bif Nat.blt x.1 n then(bif KM (t.get x.1)then FF n t l else false)else FF n t l
theorem Ii{n:Nat}{t:BT}:∀ {l:BL},FF n t l=true→∀ j o,(j,o)∈l→j<n→t.get j≠.dead
 |[],_,j,o,h,_=>by cases h
 |(b,u)::l,h,j,o,hm,hj=>by
  have h:(bif Nat.blt b n then(bif KM (t.get b)then FF n t l else false)else FF n t l)=true:=h
  rcases List.mem_cons.1 hm with h3|h3
  ·cases h3
   rw[Aq.2 hj]at h
   exact M2 (Ai h).1
  ·refine Ii ?_ j o h3 hj
   cases hb:Nat.blt b n with
   |false=>rw[hb]at h;exact h
   |true=>rw[hb]at h;exact(Ai h).2
def Piece.h0(p:Piece)(d:Nat):Hp:={next:=p.next,low:=p.next,high:=0,mark:=p.next,bl:=p.tree d}
def Piece.right(p:Piece)(d:Nat)(r:R):Bool:=match r with
 |.ok v h=>bif eqv 8 v p.v then(bif Nat.beq h.next p.next1 then(bif Nat.ble p.lo h.low then(bif Nat.ble h.high p.hi then(bif holds h.bl p.post then(bif holds h.bl p.same then
  (bif FF p.next (p.tree d) p.post then P7 p.was p.post else false)else false)else false)else false)else false)else false)else false
 |.no=>false
def Piece.gives(p:Piece)(h:Hp):R:=match KI h.bl p.post with
 |some t=>forceN (A3 h.low p.lo) fun lo=>forceN (BH h.high p.hi) fun hi=>.ok p.v {next:=p.next1,low:=lo,high:=hi,mark:=h.mark,bl:=t}
 |none=>.no
def Piece.call(p:Piece)(args:List Value)(h:Hp)(k:R):R:=bif Nat.beq h.next p.next then(bif eqL (eqv 8) args p.args then(bif holds h.bl p.same then(bif holds h.bl p.was then p.gives h else k)else k)else k)else k
def Hd(args:List Value)(h:Hp)(k:R):List Piece→R
 |[]=>k
 |p::l=>p.call args h (Hd args h k l)
section
variable {P:Program}{ty:TTy}{φ ψ:Phi}{h h0 h1 h':Hp}{w w':World}
theorem TG(H:RelW ty φ nil h w)(hn0:h0.next=h.next)(h00:∀ i,h0.bl.get i=.dead∨h0.bl.get i=h.bl.get i)
  (H1:RelW ty ψ nil h1 w')(ev:Evo φ h0 w ψ h1 w')(hn1:h'.next=h1.next)
  (hb:∀ i,(h'.bl.get i=h1.bl.get i∧(i<h.next→h0.bl.get i≠.dead))∨(h'.bl.get i=.dead∧h.next≤i)∨(i<h.next∧h0.bl.get i=.dead∧h'.bl.get i=h.bl.get i))
  (hl:h'.low≤h.low)(hl1:h'.low≤h1.low)(hh:h.high≤h'.high)(hh1:h1.high≤h'.high):RelW ty ψ nil h' w'∧Evo φ h w ψ h' w':=by
 obtain⟨H',ef⟩:=Tv (T:=fun c=>h'.low≤c∧c≤h'.high) H hn0 h00 H1 ev hn1 hb fun c a b _ _=>⟨Nat.le_trans hl1 a,Nat.le_trans b hh1⟩
 exact⟨H',ef.evo (fun _ h=>h) hl hh⟩
def Na(P:Program)(ty:TTy)(g:Nat)(args:List Value)(h:Hp)(r:R):Prop:=∀ v h',r=.ok v h'→
 (∃ fn,P.funcs[g]? =some fn∧fn.name≠"runtime.NumGoroutine" ∧fn.body.isNone=false)∧
 ∀ φ w args',RelL φ args args'→RelW ty φ (fun _=>False) h w→
  Calls P g ⟨args'⟩ w fun en w'=>∃ v' ψ,en=.returned v'∧RelV ψ v v'∧RelW ty ψ (fun _=>False) h' w'∧Evo φ h w ψ h' w'
def Bd(P:Program)(ty:TTy)(g:Nat)(p:Piece):Prop:=p.fn=g∧∃ F0 d,BM P ty F0∧p.right d (F0 p.fn p.args (p.h0 d))=true
theorem Piece.tree_get(p:Piece)(d i:Nat):(p.tree d).get i=.dead∨∃ o,((i,o)∈p.same∨(i,o)∈p.was)∧(p.tree d).get i=o:=by
 unfold Piece.tree
 cases h1:KI (De d) p.same with
 |none=>exact .inl rfl
 |some t=>
  simp only
  cases h2:KI t p.was with
  |none=>exact .inl rfl
  |some t'=>
   simp only
   rcases GA _ _ _ h2 i with ⟨o,h3,h4⟩|⟨_,h4⟩
   ·exact .inr ⟨o,.inr h3,h4⟩
   ·rw[h4]
    rcases GA _ _ _ h1 i with ⟨o,h5,h6⟩|⟨_,h6⟩
    ·exact .inr ⟨o,.inl h5,h6⟩
    ·rw[h6];exact .inl (Bk d i)
theorem P2{p:Piece}{g:Nat}(hp:Bd P ty g p)(hn:h.next=p.next)(hs:holds h.bl p.same=true)(hw:holds h.bl p.was=true):Na P ty g p.args h (p.gives h):=by
 intro v h' hr
 obtain⟨rfl,F0,d,hF,hright⟩:=hp
 unfold Piece.gives at hr
 cases hl:KI h.bl p.post with
 |none=>rw[hl]at hr;cases hr
 |some t=>
  rw[hl]at hr
  simp only[As]at hr
  obtain⟨hv',hh'⟩:=R.ok.inj hr
  cases hrun:F0 p.fn p.args (p.h0 d)with
  |no=>rw[hrun]at hright;cases hright
  |ok v1 h1=>
   rw[hrun]at hright
   unfold Piece.right at hright
   obtain⟨e1,hright⟩:=Ai hright
   obtain⟨e2,hright⟩:=Ai hright
   obtain⟨e3,hright⟩:=Ai hright
   obtain⟨e4,hright⟩:=Ai hright
   obtain⟨e5,hright⟩:=Ai hright
   obtain⟨e6,hright⟩:=Ai hright
   obtain⟨e7,e8⟩:=Ai hright
   have e1:=Gd _ _ _ e1
   have e2:=Ae.1 e2
   have e3:=Ar.1 e3
   have e4:=Ar.1 e4
   obtain⟨hfn,hc⟩:=hF p.fn p.args (p.h0 d) v1 h1 hrun
   refine⟨hfn,fun φ w args' ha H=>?_⟩
   have h00:∀ i,(p.h0 d).bl.get i=.dead∨(p.h0 d).bl.get i=h.bl.get i:=fun i=>by
    show(p.tree d).get i=.dead∨(p.tree d).get i=h.bl.get i
    rcases p.tree_get d i with h2|⟨o,h2|h2,h3⟩
    ·exact .inl h2
    ·rw[h3,Dh hs i o h2];exact .inr rfl
    ·rw[h3,Dh hw i o h2];exact .inr rfl
   refine(hc φ w args' ha (RelW.part H (by show p.next=_;rw[hn]) h00)).mono fun e w' ⟨v',ψ,he,hv,H1,ev⟩=>?_
   have hb:∀ i,(t.get i=h1.bl.get i∧(i<h.next→(p.h0 d).bl.get i≠.dead))∨(t.get i=.dead∧h.next≤i)∨(i<h.next∧(p.h0 d).bl.get i=.dead∧t.get i=h.bl.get i):=fun i=>by
    rcases GA _ _ _ hl i with ⟨o,h2,h3⟩|⟨h2,h3⟩
    ·left
     refine⟨by rw[h3,Dh e5 i o h2],fun hi=>Ii e7 i o h2 (hn ▸ hi)⟩
    ·rcases Nat.lt_or_ge i h.next with hi|hi
     ·by_cases hd:(p.h0 d).bl.get i=.dead
      ·exact .inr (.inr ⟨hi,hd,h3⟩)
      ·left
       refine⟨?_,fun _=>hd⟩
       rw[h3]
       rcases p.tree_get d i with h4|⟨o,h4|h4,h5⟩
       ·exact absurd h4 hd
       ·rw[Dh hs i o h4,Dh e6 i o h4]
       ·obtain⟨o',h6⟩:=K9 e8 i o h4
        exact absurd h6 (h2 o')
     ·exact .inr (.inl ⟨h3.trans (H.fresh i hi),hi⟩)
   have hlo:=A0 h.low p.lo
   have hhi:=A6 h.high p.hi
   have:=TG (h':=h') H (by show p.next=_;rw[hn]) h00 H1 ev (by rw[← hh'];exact e2.symm) (by rw[← hh'];exact hb)
    (by rw[← hh'];show A3 h.low p.lo≤_;omega) (by rw[← hh'];show A3 h.low p.lo≤_;omega) (by rw[← hh'];show _≤BH h.high p.hi;omega) (by rw[← hh'];show _≤BH h.high p.hi;omega)
   exact⟨v',ψ,he,by rw[← hv',← e1];exact hv,this.1,this.2⟩
theorem Jp{g:Nat}{args:List Value}{k:R}(hk:Na P ty g args h k):∀ {l:List Piece},(∀ p∈l,Bd P ty g p)→Na P ty g args h (Hd args h k l)
 |[],_=>hk
 |p::l,hp=>by
  have ih:=Jp hk fun q hq=>hp q (List.mem_cons_of_mem _ hq)
  show Na P ty g args h (p.call args h (Hd args h k l))
  unfold Piece.call
  cases h1:Nat.beq h.next p.next with
  |false=>exact ih
  |true=>
   cases h2:eqL (eqv 8) args p.args with
   |false=>exact ih
   |true=>
    cases h3:holds h.bl p.same with
    |false=>exact ih
    |true=>
     cases h4:holds h.bl p.was with
     |false=>exact ih
     |true=>
      have:=Gc (fun a b=>Gd 8 a b) h2
      subst this
      exact P2 (hp p List.mem_cons_self) (Ae.1 h1) h3 h4
inductive MT where
 |mt
 |nd (l:List Piece) (a b:MT)
def MT.get:MT→Nat→List Piece
 |.mt,_=>[]
 |.nd l _ _,0=>l
 |.nd _ a b,Nat.succ k=>match Nat.mod k 2 with
  |0=>a.get (Nat.div k 2)
  |Nat.succ _=>b.get (Nat.div k 2)
def MT.All(p:Nat→Piece→Prop):MT→(Nat→Nat)→Prop
 |.mt,_=>True
 |.nd l a b,ix=>(∀ x∈l,p (ix 0) x)∧MT.All p a (fun k=>ix (2 * k+1))∧MT.All p b (fun k=>ix (2 * k+2))
theorem MT.All.get{p:Nat→Piece→Prop}:∀ {t:MT} {ix:Nat→Nat},MT.All p t ix→∀ {i:Nat} {x:Piece},x∈t.get i→p (ix i) x
 |.mt,ix,_,i,b,h=>by cases h
 |.nd c l r,ix,⟨h0,hl,hr⟩,0,b,h=>h0 b h
 |.nd c l r,ix,⟨h0,hl,hr⟩,k+1,b,h=>by
  unfold MT.get at h
  have e1:Nat.mod k 2=k % 2:=rfl
  have e2:Nat.div k 2=k / 2:=rfl
  rw[e1,e2]at h
  rcases Nat.mod_two_eq_zero_or_one k with hk|hk
  ·rw[hk]at h
   have:=hl.get (i:=k / 2) h
   have e:2 * (k / 2)+1=k+1:=by omega
   simp only[e]at this;exact this
  ·rw[hk]at h
   have:=hr.get (i:=k / 2) h
   have e:2 * (k / 2)+2=k+1:=by omega
   simp only[e]at this;exact this
def JH(bs:FT)(ms:MT):Nat→CallF
 |0,_,_,_=>.no
 |Nat.succ n,f,args,h=>Hd args h (match bs.get f with
  |some b=>enter (JH bs ms n) b args h
  |none=>.no) (ms.get f)
theorem E7(hT:BN P ty)(hm:P.follows .mixedOrders=true){bs:FT}(hb:FT.All (AX P ty) bs id){ms:MT}(hms:MT.All (Bd P ty) ms id):∀ n,BM P ty (JH bs ms n)
 |0=>fun g args h v h' hr=>by cases hr
 |n+1=>fun g args h v h' hr=>by
  refine Jp (k:=match bs.get g with|some b=>enter (JH bs ms n) b args h|none=>.no) ?_ (fun p hp=>hms.get hp) v h' hr
  intro v h' hr
  cases hg:bs.get g with
  |none=>rw[hg]at hr;cases hr
  |some b=>
   rw[hg]at hr
   rcases hb.get hg with hok|rfl|hdo
   ·exact Ku hT (E7 hT hm hb hms n) hm hok hr
   ·exfalso
    have hr:(bif Nat.ble (Bo args) 208 then LL [] .no else .no)=.ok v h':=hr
    obtain⟨_,hr⟩:=Aw hr
    cases hr
   ·exact hdo _ args h v h' (E7 hT hm hb hms n) hr
def Gt(d:Nat):Hp:={next:=256,low:=256,high:=0,mark:=256,bl:=De d}
theorem NM(ty:TTy)(d:Nat){φ:Phi}(hφ:PZ φ){w:World}(hd:∀ i p,φ i=some p→p.blk<w.heap.size):RelW ty φ nil (Gt d) w where
 dom:=fun i p h=>⟨(hφ i p h).1,hd i p h⟩
 inj:=fun i j p q _ _ _ _ hl=>absurd (Bk d i) hl
 row:=fun i p _ _=>by show RelB _ _ _ ((De d).get i) _;rw[Bk];exact .dead
 fresh:=fun i _=>Bk d i
 kind:=fun i p c s e _ h=>by have h:(De d).get i=_:=h;rw[Bk]at h;cases h
 inp:=fun i p h _=>(hφ i p h).1
theorem PN{F:CallF}(hC:BM P ty F){d f:Nat}{xs args:List Value}{φ:Phi}{w:World}(h:D7 (F f xs (Gt d))=true)(hr:RelL φ xs args)(hφ:PZ φ)(hd:∀ i p,φ i=some p→p.blk<w.heap.size):
  Calls P f ⟨args⟩ w fun e w'=>e=.returned (.bool true)∧Below w.heap.size w w':=by
 cases hq:F f xs (Gt d)with
 |no=>rw[hq]at h;cases h
 |ok v h'=>
  rw[hq]at h
  obtain⟨_,hc⟩:=hC f xs (Gt d) v h' hq
  refine(hc φ w args hr (NM ty d hφ hd)).mono fun e w' ⟨v',ψ,he,hv,_,ev⟩=>?_
  cases v with
  |bool b=>
   have h:b=true:=h
   subst h
   have:=hv.bool_inv
   subst this
   exact⟨he,⟨ev.os,ev.tape,ev.output,ev.size,fun k hk=>ev.frame k hk fun i p hp hn=>by rw[(hφ i p hp).2]at hn;cases hn⟩⟩
  |_=>cases h
theorem PO{F:CallF}(hC:BM P ty F){d f:Nat}(h:D7 (F f [] (Gt d))=true)(w:World):
  Calls P f #[] w fun e w'=>e=.returned (.bool true)∧Below w.heap.size w w':=
 PN (φ:=AIY) hC h .nil (fun i p h=>by cases h) (fun i p h=>by cases h)
end
end
noncomputable section
open Go
def i(n:Nat):Value:=.int .i64 (.ofNat n)
def u(n:Nat):Value:=.int .u8 (.ofNat n)
def Po:List Nat→List UInt8
 |[]=>[]
 |n::l=>UInt8.ofNat n::Po l
def sb(l:List Nat):Value:=.string ⟨⟨Po l⟩⟩
def iL:List Nat→List Value
 |[]=>[]
 |n::l=>i n::iL l
def uL:List Nat→List Value
 |[]=>[]
 |n::l=>u n::uL l
def hdT:List VT→VT
 |[]=>.mt
 |t::_=>t
def tlT:List VT→List VT
 |[]=>[]
 |_::l=>l
def uK:List Value→List VT→List VT→List VT
 |[],_,_=>[]
 |x::l,a,b=>.nd x (hdT a) (hdT b)::uK l (tlT a) (tlT b)
def Q5:Nat→Nat→List Value→List VT
 |0,_,_=>[]
 |f+1,k,l=>match l with
  |[]=>[]
  |x::r=>forceN (Nat.mul 2 k) fun q=>uK (GL k (x::r)) (Q5 f q (FP k (x::r))) (FP k (Q5 f q (FP k (x::r))))
def vT(n:Nat)(l:List Value):VT:=hdT (Q5 n 1 l)
def Vb:Nat→Nat→Nat→Nat→VT
 |0,_,_,_=>.mt
 |f+1,a,s,n=>forceN n fun n=>match n with
  |0=>.mt
  |Nat.succ m=>forceN a fun a=>forceN (Nat.mul 2 s) fun t=>.nd (i a) (Vb f (Nat.add a s) t (Nat.div (Nat.succ m) 2)) (Vb f (Nat.add a t) t (Nat.div m 2))
def TN(a n e:Nat):Blk:=.cells (Vb 24 a 1 n) n e
def An(l:List Value)(n e:Nat):Blk:=.cells (vT 24 l) n e
def NG:List (Nat×List Value)→VT→VT
 |[],t=>t
 |x::r,t=>match BX t x.1 x.2 with
  |some t=>NG r t
  |none=>.mt
def TZ:Blk→VT
 |.cells c _ _=>c
 |_=>.mt
def DX(b:Blk)(l:List (Nat×List Value))(n e:Nat):Blk:=.cells (NG l (TZ b)) n e
def VZ:Nat→Value→Nat→VT
 |0,_,_=>.mt
 |f+1,x,n=>forceN n fun n=>match n with
  |0=>.mt
  |Nat.succ m=>.nd x (VZ f x (Nat.div (Nat.succ m) 2)) (VZ f x (Nat.div m 2))
def fH(x:Value)(l:List (Nat×List Value))(n e:Nat):Blk:=.cells (NG l (VZ 24 x n)) n e
theorem Ab{p:Piece→Prop}:∀ x∈([]:List Piece),p x:=fun _ h=>by cases h
theorem Bs{p:Piece→Prop}{x:Piece}{l:List Piece}(h:p x)(t:∀ y∈l,p y):∀ y∈x::l,p y:=fun y hy=>by
 rcases List.mem_cons.1 hy with rfl|hy
 ·exact h
 ·exact t y hy
end
noncomputable section
open Go
def veq:Value→Value→Bool
 |.bool a,.bool b=>a == b
 |.int j a,.int k b=>C5 j k && iEq a b
 |.string a,.string b=>bEq a.data.toList b.data.toList
 |.pointer none,.pointer none=>true
 |.slice none 0 0,.slice none 0 0=>true
 |.map none,.map none=>true
 |.nilFunc,.nilFunc=>true
 |.nilIface,.nilIface=>true
 |.float .f64 a,.float .f64 b=>Nat.beq a b
 |_,_=>false
def leq:List Value→List Value→Bool
 |[],[]=>true
 |a::x,b::y=>veq a b && leq x y
 |_,_=>false
def zeq:Value→Value→Bool
 |.agg a,.agg b=>leq a.toList b.toList
 |.agg _,_=>false
 |a,b=>veq a b
theorem RU{a b:Value}(h:veq a b=true):a=b:=by
 unfold veq at h
 split at h
 ·simpa using h
 ·rw[Bool.and_eq_true,Ef]at h
  have h1:=CM h.1
  rw[h1,eq_of_beq h.2]
 ·rw[GU]at h
  rename_i a b
  have e1:=EX (a:=a) (eq_of_beq h)
  have e2:=EX (a:=b) rfl
  exact congrArg Value.string (e1.trans e2.symm)
 all_goals first|rfl|(cases h;done)|rw[Ae.1 h]
theorem QL:∀ {a b:List Value},leq a b=true→a=b
 |[],[],_=>rfl
 |x::a,y::b,h=>by
  have h:(veq x y && leq a b)=true:=h
  rw[Bool.and_eq_true]at h
  rw[RU h.1,QL h.2]
 |[],_::_,h=>by cases h
 |_::_,[],h=>by cases h
theorem Vy{a b:Value}(h:zeq a b=true):a=b:=by
 unfold zeq at h
 split at h
 ·rename_i x y
  have:=QL h
  congr 1
  exact Array.ext' this
 ·cases h
 ·exact RU h
def Rx:List (Nat×Nat×Nat)→List (Nat×Nat×Nat)→Bool
 |[],[]=>true
 |(a,b,c)::x,(d,e,f)::y=>Nat.beq a d && (Nat.beq b e && (Nat.beq c f && Rx x y))
 |_,_=>false
theorem Nq:∀ {x y:List (Nat×Nat×Nat)},Rx x y=true→x=y
 |[],[],_=>rfl
 |(a,b,c)::x,(d,e,f)::y,h=>by
  have h:(Nat.beq a d && (Nat.beq b e && (Nat.beq c f && Rx x y)))=true:=h
  simp only[Bool.and_eq_true]at h
  rw[Ae.1 h.1,Ae.1 h.2.1,Ae.1 h.2.2.1,Nq h.2.2.2]
 |[],_::_,h=>by cases h
 |_::_,[],h=>by cases h
def QF(P:Program)(k:TK)(d:TypeDesc):Bool:=match k,d with
 |.int a,.int b=>C5 a b
 |.bool,.bool=>true
 |.string,.string=>true
 |.ptr a,.pointer b=>Nat.beq a b
 |.slice a,.slice b=>Nat.beq a b
 |.arr n a,.array m b=>Nat.beq n m && Nat.beq a b
 |.map n a,.map m b=>Nat.beq n m && Nat.beq a b
 |.struct fs,.struct fields=>Rx (fields.toList.map fun f=>(f.offset,P.cellsOf f.type,f.type)) fs && fields.toList.all fun f=>(P.info? f.type).isSome
 |.iface,.interface _=>true
 |.func,.func _ _ _=>true
 |.flt,.float .f64=>true
 |.other,.struct _=>false
 |.other,.array _ _=>false
 |.other,.interface _=>false
 |.other,_=>true
 |_,_=>false
theorem QG{P:Program}{k:TK}{d:TypeDesc}(h:QF P k d=true):KOk P k d:=by
 unfold QF at h
 split at h
 ·rw[CM h];exact .int _
 ·exact .bool
 ·exact .string
 ·rw[Ae.1 h];exact .ptr _
 ·rw[Ae.1 h];exact .slice _
 ·rw[Bool.and_eq_true]at h
  rw[Ae.1 h.1,Ae.1 h.2];exact .arr _ _
 ·rw[Bool.and_eq_true]at h
  rw[Ae.1 h.1,Ae.1 h.2];exact .map _ _
 ·rw[Bool.and_eq_true]at h
  exact .struct (Nq h.1) h.2
 ·exact .iface _
 ·exact .func _ _ _
 ·exact .flt
 ·cases h
 ·cases h
 ·cases h
 ·rename_i q1 q2 q3
  refine .other ?_
  split
  ·rename_i f;exact absurd rfl (q1 f)
  ·rename_i n e;exact absurd rfl (q2 n e)
  ·rename_i m;exact absurd rfl (q3 m)
  ·rfl
 ·cases h
def RY(ti:TI)(z:Option Value):Bool:=
 (match ti.zero with
  |[]=>Nat.blt 0 ti.size
  |_::_=>false) ||
 (match zeroV ti,z with
  |some a,some b=>zeq a b && (ti.zero.all plainV && Nat.beq (Bo ti.zero) ti.size)
  |_,_=>false)
theorem RZ{ti:TI}{z:Option Value}(h:RY ti z=true):(ti.zero=[]∧0<ti.size)∨∃ y,zeroV ti=some y∧z=some y∧ti.zero.all plainV=true∧ti.zero.length=ti.size:=by
 unfold RY at h
 rw[Bool.or_eq_true]at h
 rcases h with h|h
 ·left
  split at h
  ·rename_i hz;exact⟨hz,Aq.1 h⟩
  ·cases h
 ·right
  split at h
  ·rename_i a b ha
   simp only[Bool.and_eq_true]at h
   have h3:=Ae.1 h.2.2
   rw[A9]at h3
   exact⟨a,ha,by rw[Vy h.1],h.2.1,h3⟩
  ·cases h
def AIZ(b:Bool):TypeDesc→Bool
 |.pointer _=>b
 |_=>not b
def OB(P:Program)(t:Nat)(name:String)(f:Nat):Bool:=match P.info? t with
 |some i=>match i.methods.find? (·.name == name)with
  |some m=>match m.path.toList with
   |[]=>match m.func with
    |some (g,b)=>match P.underlying t with
     |some d=>Nat.beq g f && AIZ b d
     |none=>false
    |none=>false
   |_::_=>false
  |none=>false
 |none=>false
theorem QQ{P:Program}{t:Nat}{name:String}{f:Nat}(h:OB P t name f=true)(v:Value)(w:World):(method (P.types.size+Made.depth) t v name).run P w=.ok (f,v) w:=by
 unfold OB at h
 split at h
 ·rename_i i hi
  split at h
  ·rename_i m hm
   split at h
   ·rename_i hp
    split at h
    ·rename_i g b hg
     split at h
     ·rename_i d hd
      rw[Bool.and_eq_true]at h
      have e1:=Ae.1 h.1
      subst e1
      have h2:=h.2
      show(method ((P.types.size+99)+1) t v name).run P w=_
      unfold method
      simp only[typeInfo,Sem.run_bind,run_program,Result.andThen_ok,hi,Sem.run_pure,hm,hp,follow,hg,receiverAt,underlying,hd]
      cases d with
      |pointer e=>
       have hb:b=true:=h2
       subst hb
       simp only[Place.get,Sem.run_bind,Sem.run_pure,Result.andThen_ok]
      |_=>
       have hb:b=false:=by
        have h2:(!b)=true:=h2
        cases b with
        |true=>cases h2
        |false=>rfl
       subst hb
       simp only[Place.get,Sem.run_bind,Sem.run_pure,Result.andThen_ok]
     ·cases h
    ·cases h
   ·cases h
  ·cases h
 ·cases h
def OC(P:Program)(t:Nat):List (String×Nat)→Bool
 |[]=>true
 |x::l=>OB P t x.1 x.2 && OC P t l
theorem LS{P:Program}{t:Nat}:∀ {l:List (String×Nat)},OC P t l=true→∀ name f,findM name l=some f→∀ v w,(method (P.types.size+Made.depth) t v name).run P w=.ok (f,v) w
 |[],_,name,f,h=>by cases h
 |x::l,hb,name,f,h=>by
  have hb:(OB P t x.1 x.2 && OC P t l)=true:=hb
  rw[Bool.and_eq_true]at hb
  unfold findM at h
  split at h
  ·rename_i hn
   cases h
   rw[← eq_of_beq hn]
   exact fun v w=>QQ hb.1 v w
  ·exact LS hb.2 name f h
def tyB(P:Program)(t:Nat)(ti:TI):Bool:=match P.info? t with
 |some i=>match P.underlying t with
  |some d=>Nat.beq i.size ti.size && (Nat.beq i.bytes ti.bytes && (RY ti i.zero && (QF P ti.k d && (fineS P t && OC P t ti.ms))))
  |none=>false
 |none=>false
theorem Vx{P:Program}(hd:8≤P.depth){t:Nat}{ti:TI}(h:tyB P t ti=true):TyOk P t ti:=by
 unfold tyB at h
 split at h
 ·rename_i i hi
  split at h
  ·rename_i d hu
   simp only[Bool.and_eq_true]at h
   exact⟨h.2.2.2.2.1,hd,⟨i,hi,Ae.1 h.1,Ae.1 h.2.1,RZ h.2.2.1⟩,⟨d,hu,QG h.2.2.2.1⟩,LS h.2.2.2.2.2⟩
  ·cases h
 ·cases h
def uJ(P:Program)(t:Nat):Option TI→Bool
 |some ti=>tyB P t ti
 |none=>true
def PW(P:Program):TTy→(Nat→Nat)→Bool
 |.mt,_=>true
 |.nd ti l r,ix=>uJ P (ix 0) ti && (PW P l (fun k=>ix (Nat.succ (Nat.mul 2 k))) && PW P r (fun k=>ix (Nat.succ (Nat.succ (Nat.mul 2 k)))))
theorem Iy{P:Program}(hd:8≤P.depth):∀ {t:TTy} {ix:Nat→Nat},PW P t ix=true→∀ i ti,t.get i=some ti→TyOk P (ix i) ti
 |.mt,ix,_,i,b,h=>by cases h
 |.nd c l r,ix,hb,i,b,h=>by
  have hb:(uJ P (ix 0) c && (PW P l (fun k=>ix (Nat.succ (Nat.mul 2 k))) && PW P r (fun k=>ix (Nat.succ (Nat.succ (Nat.mul 2 k))))))=true:=hb
  simp only[Bool.and_eq_true]at hb
  cases i with
  |zero=>
   have h:c=some b:=h
   subst h
   exact Vx hd hb.1
  |succ k=>
   unfold TTy.get at h
   have e1:Nat.mod k 2=k % 2:=rfl
   have e2:Nat.div k 2=k / 2:=rfl
   rw[e1,e2]at h
   rcases Nat.mod_two_eq_zero_or_one k with hk|hk
   ·rw[hk]at h
    have:=Iy hd hb.2.1 (k / 2) b h
    have e:Nat.succ (Nat.mul 2 (k / 2))=k+1:=by show 2 * (k / 2)+1=k+1;omega
    simp only[e]at this;exact this
   ·rw[hk]at h
    have:=Iy hd hb.2.2 (k / 2) b h
    have e:Nat.succ (Nat.succ (Nat.mul 2 (k / 2)))=k+1:=by show 2 * (k / 2)+1+1=k+1;omega
    simp only[e]at this;exact this
theorem Vt{P:Program}{ty:TTy}(hd:Nat.ble 8 P.depth=true)(h:PW P ty (fun k=>k)=true):BN P ty:=fun t ti ht=>Iy (Ar.1 hd) h t ti ht
end
end Go.Proofs.YtglkncnkbofgfaaGreat
