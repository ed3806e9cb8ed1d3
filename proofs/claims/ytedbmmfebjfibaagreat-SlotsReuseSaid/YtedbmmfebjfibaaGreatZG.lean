/-
  Part ZG of what Lawru stands on: printed by program, names and spaces cut.
-/
import Derived.Test.YtedbmmfebjfibaaGreatZF
import Derived.LoopN
import Derived.Scope
import Derived.Below
import Derived.ChangeSame
open Go renaming Value→BY,IntKind→vQ,World→vt,MapEntry→wJ,Program→wK,Oper→xp,ResultVar→AAt,Code→ABn,results→AB3,Exit→AC4
open Go.Result renaming andThen_ok→IS
open List renaming getElem?_eq_getElem→No,mem_cons_self→vG,mem_cons_of_mem→vH,length_cons→vI,mem_cons→vS,mem_append_right→vV,mem_filter→vZ,mem_append→va,mem_append_left→vk,all_eq_true→yN,size_toArray→zl,mapM_cons→AAW
open Go.Sem renaming run_bind→vE,run_pure→vF
open Nat renaming ble→vJ,beq→vO,blt→wF,add→wg,beq_refl→wz,le_of_eq→zO,le_max_right→zR,min_le_left→zW,succ_pos→AAk,le_max_left→AA6
open Bool renaming and_eq_true→vT,false_eq_true→vo,rec→yC
open Int renaming ofNat→wC
open Array renaming ext'→wO,getElem?_setIfInBounds→xP,toList_filter→zg
open Go.Instr renaming next→xG,extract→zn
open Go.Question renaming forced→ym
open Go.Region renaming wanted→zc
open Go.Oper renaming upon_value→AAI
open Go.Code renaming rounds→AAO,seq→AAo,region→ACs,loop→ADG
open SizeOf renaming sizeOf→AAU
open Go.DataW renaming TrodAll→ACE
open Go.Exit renaming inBlock→ACc
open Classical renaming choose→ACt,choose_spec→AC6
set_option linter.unusedSimpArgs false
set_option linter.unusedVariables false
namespace Go.Proofs.YtedbmmfebjfibaaGreat
noncomputable section
open Go
def Ag(S:List Nat)(e e':Env):Prop:=∀ t,t<160→t∉S→e'.get t=e.get t
theorem Ag.refl(S:List Nat)(e:Env):Ag S e e:=fun _ _ _=>rfl
theorem Ag.trans{S:List Nat}{e e1 e2:Env}(h:Ag S e e1)(h2:Ag S e1 e2):Ag S e e2:=fun t ht hn=>(h2 t ht hn).trans (h t ht hn)
def Gt(S:List Nat)(e:Env):X→Prop
 |.no=>True
 |.norm e' _=>Ag S e e'
 |.exit _ e' _=>Ag S e e'
 |.ret e' _=>Ag S e e'
theorem Gt.of{S:List Nat}{e e1:Env}{x:X}(h:Ag S e e1)(h2:Gt S e1 x):Gt S e x:=by
 cases x with
 |no=>trivial
 |norm _ _=>exact h.trans h2
 |exit _ _ _=>exact h.trans h2
 |ret _ _=>exact h.trans h2
def B6(S:List Nat)(c:C):Prop:=∀ F e h,Gt S e (c F e h)
theorem OH{S:List Nat}{d:Nat}(hd:d∈S)(hl:d<160)(v:BY)(e:Env):Ag S e (Env.set d v e):=fun t ht hn=>by
 rw[Env.ADh _ _ _ _ hl ht,if_neg (by rintro rfl;exact hn hd)]
theorem PQ{S:List Nat}:∀ (l:List Nat) (e:Env),(∀ d∈l,d∈S∧d<160)→Ag S e (Cn e l)
 |[],e,_=>.refl _ _
 |d::l,e,h=>(OH (h d vG).1 (h d vG).2 _ e).trans (PQ l _ fun d hd=>h d (vH _ hd))
section
variable {S:List Nat}
theorem CX:B6 S cNo:=fun _ _ _=>trivial
theorem So:B6 S Av:=fun _ e _=>.refl _ e
theorem WF:B6 S As:=fun _ e _=>.refl _ e
theorem Sm(id:Nat):B6 S (CA id):=fun _ e _=>.refl _ e
theorem QR{d:Nat}{f:OpF}{k:C}(hd:d∈S)(hl:d<160)(hk:B6 S k):B6 S (AG (AC d) f k):=fun F e h=>by
 unfold AG;cases f F e h with
 |no=>trivial
 |ok v h'=>
  show Gt S e (AC d (fun e=>k F e h') v e);rw[Dm d hl];exact .of (OH hd hl v e) (hk F _ h')
theorem Yy{f:OpF}{k:C}(hk:B6 S k):B6 S (cDo f k):=fun F e h=>by
 unfold cDo;cases f F e h with
 |no=>trivial
 |ok v h'=>exact hk F e h'
theorem da{g:Env→BY}{w:Bool}{d:Nat}{f:OpF}{k:C}(hd:d∈S)(hl:d<160)(hk:B6 S k):B6 S (cG g w (AC d) f k):=fun F e h=>by
 have h0:Gt S e (AC d (fun e=>k F e h) ADV e):=by
  rw[Dm d hl];exact .of (OH hd hl _ e) (hk F _ h)
 unfold cG;split
 ·rename_i b _
  cases (w == b)with
  |true=>exact QR hd hl hk F e h
  |false=>exact h0
 ·exact h0
 ·trivial
theorem KF{w:Env→BY}{rs:List (Env→BY)}{k:C}(hk:B6 S k):B6 S (C3 w rs k):=fun F e h=>by
 unfold C3;split
 ·rename_i b _
  cases DS b e rs with
  |true=>exact hk F e h
  |false=>trivial
 ·exact hk F e h
theorem WE{x:O}{k:C}(hk:B6 S k):B6 S (Ez x k):=fun F e h=>by
 unfold Ez;split
 ·rename_i b _
  cases wF b h.mark with
  |true=>exact hk F e h
  |false=>trivial
 ·exact hk F e h
theorem Sn{k:C}(hk:B6 S k):B6 S (CJ k):=fun F e h=>hk F e _
theorem Ni{a b:C}(ha:B6 S a)(hb:B6 S b):B6 S (BK a b):=fun F e h=>by
 have:=ha F e h;unfold BK;cases hx:a F e h with
 |no=>trivial
 |norm e1 h1=>rw[hx]at this;exact .of this (hb F e1 h1)
 |exit i e1 h1=>rw[hx]at this;exact this
 |ret e1 h1=>rw[hx]at this;exact this
theorem Ic{c:O}{a b:C}(ha:B6 S a)(hb:B6 S b):B6 S (AY c a b):=fun F e h=>by
 show Gt S e (gv (c e) (a F e h) (b F e h));cases c e<;>first|trivial|skip
 rename_i t;cases t with
 |true=>exact ha F e h
 |false=>exact hb F e h
theorem Km{id:Nat}{a:C}(ha:B6 S a):B6 S (Ad id a):=fun F e h=>by
 have:=ha F e h;unfold Ad;cases hx:a F e h with
 |no=>trivial
 |norm e1 h1=>rw[hx]at this;exact this
 |exit i e1 h1=>
  rw[hx]at this;show Gt S e (bif vO i id then .norm e1 h1 else .exit i e1 h1);cases vO i id<;>exact this
 |ret e1 h1=>rw[hx]at this;exact this
theorem MM{a:C}(ha:B6 S a):∀ n,B6 S (iter a n)
 |0=>fun _ _ _=>trivial
 |n+1=>fun F e h=>by
  have:=ha F e h;unfold iter;cases hx:a F e h with
  |no=>trivial
  |norm e1 h1=>rw[hx]at this;exact .of this (MM ha n F e1 h1)
  |exit i e1 h1=>rw[hx]at this;exact this
  |ret e1 h1=>rw[hx]at this;exact this
theorem MN{a:C}(ha:B6 S a):B6 S (Ay a):=MM ha rounds
theorem Nh{e:Env}{c:Bool}{x:X}(hx:Gt S e x):Gt S e (bif c then x else .no):=by
 cases c
 ·trivial
 ·exact hx
theorem Sp{k:Walk}{a:C}(hw:∀ d∈k.ws,d∈S∧d<160)(hm:k.more∈S∧k.more<160)(hr:∀ d∈k.rs,d∈S∧d<160)(ha:B6 S a):B6 S (Iv k a):=fun F e h=>by
 have hl:=MN ha F e h;have hcl:∀ b,Gt S e (Fk k a F e h b):=fun b=>by
  unfold Fk;split
  ·exact(PQ _ _ hw).trans (OH hm.1 hm.2 _ _)
  ·trivial
 unfold Iv;cases AB k.it e<;>first|trivial|skip
 rename_i o;cases o with
 |none=>trivial
 |some ad=>
  simp only;cases EA (h.bl.get ad.block)with
  |ok m since seen last=>
   cases m with
   |none=>exact hl
   |some m=>
    cases seen with
    |cons _ _=>trivial
    |nil=>
     simp only;cases BP h m with
     |no=>trivial
     |ok es c=>
      cases es with
      |nil=>exact hl
      |cons x l=>
       cases l with
       |nil=>exact hl
       |cons y l=>
        show Gt S e (bif vO ad.off 0 then(bif vJ 256 ad.block then Fk k a F e h ad.block else .no)else .no);exact Nh (Nh (hcl _))
  |_=>exact hl
end
theorem Yc{o:xp}{d:Nat}(hd:o.dst=some d):∀ (l:List xp),o∈l→d∈I7 l:=by
 intro l
 induction l with
 |nil=>intro h;cases h
 |cons p l ih=>
  intro h;unfold I7;rcases vS.1 h with h|h
  ·rw[← h,hd];exact vG
  ·have:=ih h
   split
   ·exact vH _ this
   ·exact this
theorem EF:∀ {c:ABn} {d:Nat},d∈Ij c→d∈wrs c
 |.seq a b,d,h=>by
  have h0:d∈Ij a++Ij b→d∈wrs a++wrs b:=fun h=>by
   rcases va.1 h with h|h
   ·exact vk _ (EF h)
   ·exact vV _ (EF h)
  unfold Ij at h;split at h
  ·split at h
   ·exact vk _ h
   ·exact vk _ (EF h)
  ·exact h0 h
 |.cond _ a b,d,h=>by
  have h:d∈Ij a++Ij b:=h;rcases va.1 h with h|h
  ·exact vk _ (EF h)
  ·exact vV _ (EF h)
 |.block _ a,d,h=>EF (c:=a) h
 |.loop a,d,h=>EF (c:=a) h
 |.scope a,d,h=>EF (c:=a) h
 |.region _ _ _,d,h=>by cases h
 |.skip,d,h=>by cases h
 |.exit _,d,h=>by cases h
 |.ret,d,h=>by cases h
 |.rangeFunc _ _ _ _,d,h=>by cases h
 |.label _,d,h=>by cases h
 |.goto _,d,h=>by cases h
 |.refuse _,d,h=>by cases h
theorem UB:∀ {l:List Nat},dH l=true→∀ d∈l,d<160
 |d::l,h,x,hx=>by
  unfold dH at h;split at h
  ·rename_i hb
   rcases vS.1 hx with rfl|hx
   ·exact A9.1 hb
   ·exact UB h x hx
  ·cases h
structure AEr (A:List Nat)(a:ABn)(k:Walk)(id:Nat)(o1 o2:xp)(r2:ABn):Prop where
 code:a=.seq (.region id #[o1,o2] false) (.seq (.cond (.tmp k.more) .skip (.exit k.out)) r2)
 op1:o1.op=.next (.tmp k.it) false
 AFk:o1.dst=some k.nx
 AHF:o1.guard=none
 op2:o2.op=.extract (.tmp k.nx) 0
 AF1:o2.dst=some k.more
 AHG:o2.guard=none
 ne:k.nx≠k.more
 itA:memN k.it A=false
 nxA:memN k.nx A=false
 moA:memN k.more A=false
 itL:k.it<160
 nxL:k.nx<160
 moL:k.more<160
 ws:k.ws=wrs a
 itW:k.it∉k.ws
 few:∀ d∈k.ws,d<160
 rs:∀ d∈k.rs,d∈k.ws
theorem MU{t:Nat}:∀ {l:List Nat},memN t l=false→t∉l
 |d::l,h,hm=>by
  unfold memN at h;split at h
  ·cases h
  ·rename_i hb
   rcases vS.1 hm with rfl|hm
   ·rw[wz]at hb;cases hb
   ·exact MU h hm
theorem fT{more out:Nat}{c:ABn}(h:qn more c=some out):∃ r2,c=.seq (.cond (.tmp more) .skip (.exit out)) r2:=by
 cases c with
 |seq a r=>cases a with
  |cond c x y=>cases c with
   |tmp t=>cases x with
    |skip=>cases y with
     |exit id=>
      have h:(match vO t more with|true=>some id|false=>none)=some out:=h;cases hb:vO t more with
      |false=>rw[hb]at h;cases h
      |true=>
       rw[hb]at h;cases h;have:=Am.1 hb;subst this;exact⟨r,rfl⟩
     |_=>cases h
    |_=>cases h
   |_=>cases h
  |_=>cases h
 |_=>cases h
theorem R0{A:List Nat}{a:ABn}{k:Walk}(h:VL A a=some k):∃ id o1 o2 r2,AEr A a k id o1 o2 r2:=by
 unfold VL at h;split at h
 case h_2=>cases h
 rename_i x rest;split at h
 case h_2=>cases h
 rename_i id ops draw;split at h
 case h_2=>cases h
 unfold VK at h;split at h
 case h_2=>cases h
 rename_i o1 l1 hl0;split at h
 case h_2=>cases h
 rename_i o2 l2;split at h
 case h_2=>cases h
 split at h
 case h_2=>cases h
 rename_i x str AIu;split at h
 case h_2=>cases h
 rename_i it;split at h
 case h_2=>cases h
 split at h
 case h_2=>cases h
 rename_i nx hd1 hg1;split at h
 case h_2=>cases h
 rename_i y i AIv;split at h
 case h_2=>cases h
 rename_i n2;split at h
 case h_2=>cases h
 rename_i more hd2 hg2;split at h
 case h_2=>cases h
 rename_i hb;split at h
 case h_2=>cases h
 rename_i out hout;cases h;simp only[vT,Bool.not_eq_true']at hb;obtain⟨b1,b2,b3,b4,b5,b6,b7,b8,b9,b10,b11⟩:=hb;obtain⟨r2,rfl⟩:=fT hout;have e1:=Am.1 b1;have e2:=Am.1 b2;subst e1;subst e2;have AIw:ops= #[o1,o2]:=wO hl0;subst AIw;refine⟨id,o1,o2,r2,{code:=rfl,op1:=AIu,AFk:=hd1,AHF:=hg1,op2:=AIv,AF1:=hd2,AHG:=hg2,ne:=FA b3,itA:=b4,nxA:=b5,moA:=b6,itL:=A9.1 b7,nxL:=A9.1 b8,moL:=A9.1 b9,ws:=?_,itW:=MU b10,few:=?_,rs:=?_}⟩
 ·show _=I7 [o1,o2]++_
  simp only[I7,hd1,hd2];rfl
 ·intro d hd
  rcases vS.1 hd with rfl|hd
  ·exact A9.1 b8
  ·rcases vS.1 hd with rfl|hd
   ·exact A9.1 b9
   ·exact UB b11 d hd
 ·intro d hd
  exact vH _ (vH _ (EF hd))
section
variable {ty:TTy}{A S:List Nat}
theorem HO{f:Fr}{a:AD4}{o:OpF}{k:OpF→C}(hk:∀ p,B6 S (k p)):B6 S (G6 f a o k):=by
 unfold G6;split
 ·exact hk _
 ·exact hk _
 ·split
  ·exact KF (hk _)
  ·exact CX
 ·split
  ·split
   ·exact WE (KF (hk _))
   ·exact KF (hk _)
  ·exact CX
theorem KG{all:List xp}{k:Sg→C}(hk:∀ σ,B6 S (k σ)):∀ (l:List xp) (ah:List AD4) (σ:Sg),(∀ o∈l,∀ d,o.dst=some d→d∈S)→B6 S (Gd ty A all k ah l σ)
 |[],ah,σ,_=>by unfold Gd;exact hk σ
 |o::l,ah,σ,h=>by
  have ih:∀ ah σ,B6 S (Gd ty A all k ah l σ):=fun ah σ=>KG hk l ah σ fun o ho=>h o (vH _ ho)
  have hd:=h o vG;unfold Gd;split
  ·exact HO fun p=>Yy (ih _ _)
  ·rename_i d _ hdd
   split
   ·split
    ·split
     ·exact ih _ _
     ·exact CX
    ·exact CX
   ·split
    ·rename_i hb
     exact HO fun p=>QR (hd d hdd) (A9.1 hb) (ih _ _)
    ·exact CX
  ·rename_i d _ hdd
   split
   ·exact CX
   ·split
    ·split
     ·split
      ·split
       ·rename_i hb
        exact HO fun p=>da (hd d hdd) (A9.1 hb) (ih _ _)
       ·exact CX
      ·exact CX
     ·exact CX
    ·exact CX
  ·exact CX
theorem GZ{k:Option (Sg→C)}(hk:∀ k',k=some k'→∀ σ,B6 S (k' σ))(σ:Sg):B6 S (K2 k σ):=by
 cases k with
 |none=>exact So
 |some k=>exact hk k rfl σ
theorem CG:∀ (c:ABn) {σ:Sg} {k:Option (Sg→C)},(∀ d∈wrs c,d∈S)→(∀ k',k=some k'→∀ σ,B6 S (k' σ))→B6 S (Bo ty A c σ k)
 |.skip,σ,k,hw,hk=>GZ hk σ
 |.region _ ops draw,σ,k,hw,hk=>by
  have ho:∀ o∈ops.toList,∀ d,o.dst=some d→d∈S:=fun o ho d hd=>hw d (Yc hd _ ho)
  unfold Bo;split
  ·exact KG (fun σ=>GZ hk σ) _ _ _ ho
  ·split
   ·exact Sn (KG (fun σ=>GZ hk σ) _ _ _ ho)
   ·exact CX
 |.seq a b,σ,k,hw,hk=>by
  have h1:∀ d∈wrs a,d∈S:=fun d hd=>hw d (vk _ hd)
  have h2:∀ d∈wrs b,d∈S:=fun d hd=>hw d (vV _ hd)
  exact CG a (σ:=σ) (k:=some fun σ=>Bo ty A b σ k) h1 fun k' e σ=>by cases e;exact CG b h2 hk
 |.cond c a b,σ,k,hw,hk=>by
  have h1:∀ d∈wrs a,d∈S:=fun d hd=>hw d (vk _ hd)
  have h2:∀ d∈wrs b,d∈S:=fun d hd=>hw d (vV _ hd)
  unfold Bo;split
  ·split
   ·exact Ic (CG a h1 fun _ e=>by cases e) (CG b h2 fun _ e=>by cases e)
   ·rename_i k'
    split
    ·exact Ni (Ic (CG a h1 fun _ e=>by cases e) (CG b h2 fun _ e=>by cases e)) (hk k' rfl [])
    ·exact Ic (CG a h1 hk) (CG b h2 hk)
  ·exact CX
 |.block id a,σ,k,hw,hk=>by
  have h1:∀ d∈wrs a,d∈S:=hw;unfold Bo;split
  ·exact Km (CG a h1 fun _ e=>by cases e)
  ·rename_i k'
   exact Ni (Km (CG a h1 fun _ e=>by cases e)) (hk k' rfl [])
 |.loop a,σ,k,hw,hk=>by
  have h1:∀ d∈wrs a,d∈S:=hw;have h2:B6 S (Bo ty A a [] none):=CG a h1 fun _ e=>by cases e
  unfold Bo;split
  ·rename_i k hk
   obtain⟨id,o1,o2,r2,W⟩:=R0 hk;have hm:∀ d∈k.ws,d∈S∧d<160:=fun d hd=>⟨h1 d (W.ws ▸ hd),W.few d hd⟩
   refine Sp hm (hm _ ?_) (fun d hd=>hm d (W.rs d hd)) h2;rw[W.ws,W.code];show _∈I7 [o1,o2]++_;simp[I7,W.AFk,W.AF1]
  ·exact MN h2
 |.exit id,σ,k,hw,hk=>Sm id
 |.ret,σ,k,hw,hk=>WF
 |.scope a,σ,k,hw,hk=>CG a (σ:=σ) (k:=k) hw hk
 |.label _,σ,k,hw,hk=>GZ hk σ
 |.rangeFunc _ _ _ _,σ,k,hw,hk=>CX
 |.goto _,σ,k,hw,hk=>CX
 |.refuse _,σ,k,hw,hk=>CX
end
structure Good (ty:TTy)(A:List Nat)(N:Nat)(φ:Phi)(h:Hp)(w:vt)(σ:Sg)(e:Env)(h':Hp)(ψ:Phi)(a:Act)(w':vt):Prop where
 sg:AEp A σ
 rel:ADX ty ψ nil h' w'
 ar:AR N ψ (ADq A σ e) a
 evo:Evo φ h w ψ h' w'
section
variable {P:wK}{ty:TTy}{F:ADS}{A:List Nat}{N:Nat}
theorem fp{σ:Sg}(hS:AEp A σ){e:Env}{t:Nat}{u:BY}(h:ADq A [] e t=some u):ADq A σ e t=some u:=by
 rw[EG]at h ⊢;have h:(match memN t A with|true=>none|false=>match wF t 160 with|true=>some (AB t e)|false=>none)=some u:=h;cases hf:DJ t σ with
 |some s=>
  have:=hS.mem _ (EQ hf);simp only at this;rw[this]at h;cases h
 |none=>exact h
theorem AR.nil{φ:Phi}{σ:Sg}{e:Env}{a:Act}(hS:AEp A σ)(h:AR N φ (ADq A σ e) a):AR N φ (ADq A [] e) a:=⟨h.size,h.defs,fun t u hu=>h.rel t u (fp hS hu)⟩
theorem Good.nil{φ ψ:Phi}{h h':Hp}{w w':vt}{σ:Sg}{e:Env}{a:Act}(g:Good ty A N φ h w σ e h' ψ a w'):Good ty A N φ h w [] e h' ψ a w':=⟨.nil A,g.rel,g.ar.nil g.sg,g.evo⟩
theorem Good.trans{φ ψ χ:Phi}{h h' h2:Hp}{w w' w2:vt}{σ σ2:Sg}{e e2:Env}{a a2:Act}(g:Good ty A N φ h w σ e h' ψ a w')(g2:Good ty A N ψ h' w' σ2 e2 h2 χ a2 w2):Good ty A N φ h w σ2 e2 h2 χ a2 w2:=
 ⟨g2.sg,g2.rel,g2.ar,g.evo.trans g2.evo⟩
structure Post (ty:TTy)(A:List Nat)(N:Nat)(F:ADS)(φ:Phi)(h:Hp)(w:vt)(k:Option (Sg→C))(X:X)(Q:AC4→Act→vt→Prop):Prop where
 go:∀ k',k=some k'→∀ σ e h' ψ a' w',Good ty A N φ h w σ e h' ψ a' w'→k' σ F e h'=X→Q .normal a' w'
 norm:k=none→∀ e h' ψ a' w',Good ty A N φ h w [] e h' ψ a' w'→X=.norm e h'→Q .normal a' w'
 exit:∀ id e h' ψ a' w',Good ty A N φ h w [] e h' ψ a' w'→X=.exit id e h'→Q (.exit id) a' w'
 ret:∀ e h' ψ a' w',Good ty A N φ h w [] e h' ψ a' w'→X=.ret e h'→Q .ret a' w'
theorem Post.then{φ:Phi}{h:Hp}{w:vt}{k:Option (Sg→C)}{X:X}{Q:AC4→Act→vt→Prop}(p:Post ty A N F φ h w k X Q){σ:Sg}{e:Env}{h':Hp}{ψ:Phi}{a':Act}{w':vt}(g:Good ty A N φ h w σ e h' ψ a' w')(hx:K2 k σ F e h'=X):Q .normal a' w':=by
 cases k with
 |none=>exact p.norm rfl e h' ψ a' w' g.nil hx.symm
 |some k'=>exact p.go k' rfl σ e h' ψ a' w' g hx
theorem ZE{w:vt}{pb mb clk:Nat}{seen:List Nat}{es:List wJ}{t:TypeId}(hw:w.heap[pb]? =some (.mapIter (some mb) clk ⟨seen⟩ clk))(hm:w.heap[mb]? =some (.map ⟨es⟩ clk))(hb:∀ x∈es,x.born<clk):
  ((∀ x∈es,x.born∈seen)∧(xG (.pointer (some ⟨pb,0,none⟩)) false t).run P w=.ok (.tuple #[.bool false]) w)∨
  ∃ x∈es,x.born∉seen∧∃ w1:vt,w1.heap=w.heap∧w1.tape=w.tape∧w1.os=w.os∧w1.output=w.output∧
   (xG (.pointer (some ⟨pb,0,none⟩)) false t).run P w=.ok (.tuple #[.bool true,x.key,x.val]) {w1 with heap:=w1.heap.setIfInBounds pb (.mapIter (some mb) clk ⟨seen++[x.born]⟩ clk)}:=by
 have hstop:(!(⟨seen⟩:Array Nat).isEmpty && !(⟨es⟩:Array wJ).isEmpty && (⟨es⟩:Array wJ).all (fun e=>decide (e.born≥clk)))=false:=by
  cases es with
  |nil=>simp
  |cons x l=>
   have:=hb x vG;simp[Nat.not_le.2 this]
 generalize hl:es.filter (fun e=> !seen.contains e.born)=left;have hmem:∀ x∈left,x∈es∧x.born∉seen:=fun x hx=>by
  rw[← hl,vZ]at hx;exact⟨hx.1,by simpa using hx.2⟩
 have hlt:∀ x∈left,x.born<clk:=fun x hx=>hb x (hmem x hx).1
 have f1:(⟨es⟩:Array wJ).filter (fun e=> !(⟨seen⟩:Array Nat).contains e.born)=⟨left⟩:=by
  rw[← hl];apply wO;simp
 have f2:(⟨left⟩:Array wJ).filter (fun e=>decide (e.born<clk))=⟨left⟩:=by
  apply wO;rw[zg];exact List.filter_eq_self.2 fun x hx=>by simpa using hlt x hx
 have f3:(⟨left⟩:Array wJ).filter (fun e=>decide (e.born≥clk))= #[]:=by
  apply wO;rw[zg];exact List.filter_eq_nil_iff.2 fun x hx=>by simpa using hlt x hx
 cases hc:left with
 |nil=>
  left;refine⟨fun x hx=>?_,?_⟩
  ·by_cases hs:x.born∈seen
   ·exact hs
   ·have:x∈left:=by rw[← hl,vZ];exact⟨hx,by simpa using hs⟩
    rw[hc]at this;cases this
  ·subst hc
   simp only[xG,vE,Bu hw rfl,IS,Bu hm rfl,hstop,vo,if_false,f1,f2,f3];simp[run_choose,ym]
 |cons y ys=>
  right;have hpos:0<left.length:=by rw[hc];simp
  have hne:(⟨left⟩:Array wJ).isEmpty=false:=by rw[hc];simp
  have key:∀ (i:Nat) (hi:i<left.length) (w1:vt),(choose (.mapNext left.length)).run P w=.ok i w1→w1.heap=w.heap→
    (xG (.pointer (some ⟨pb,0,none⟩)) false t).run P w=.ok (.tuple #[.bool true,(left[i]).key,(left[i]).val]) {w1 with heap:=w1.heap.setIfInBounds pb (.mapIter (some mb) clk ⟨seen++[(left[i]).born]⟩ clk)}:=by
   intro i hi w1 hch hh;have AHH:((#[]:Array (Option wJ))++((⟨left⟩:Array wJ)++ #[]).map some)[i]? =some (some left[i]):=by
    simp[No hi]
   have hsz:((#[]:Array (Option wJ))++((⟨left⟩:Array wJ)++ #[]).map some).size=left.length:=by simp
   have ADx:=Dr (P:=P) (w:=w1) (ob':=.mapIter (some mb) clk ⟨seen++[(left[i]).born]⟩ clk) (by rw[hh];exact hw) rfl;simp only[xG,vE,Bu hw rfl,IS,Bu hm rfl,hstop,vo,if_false,f1,f2,f3,hne,hsz,hch,AHH];have AFs:(⟨seen⟩:Array Nat).push (left[i]).born=⟨seen++[(left[i]).born]⟩:=by apply wO;simp
   rw[AFs,ADx];simp
  have pick:∀ (i:Nat) (hi:i<left.length) (w1:vt),(choose (.mapNext left.length)).run P w=.ok i w1→w1.heap=w.heap→w1.tape=w.tape→w1.os=w.os→w1.output=w.output→
    ∃ x∈es,x.born∉seen∧∃ w1:vt,w1.heap=w.heap∧w1.tape=w.tape∧w1.os=w.os∧w1.output=w.output∧
     (xG (.pointer (some ⟨pb,0,none⟩)) false t).run P w=.ok (.tuple #[.bool true,x.key,x.val]) {w1 with heap:=w1.heap.setIfInBounds pb (.mapIter (some mb) clk ⟨seen++[x.born]⟩ clk)}:=by
   intro i hi w1 hch h1 h2 h3 h4;have:=hmem left[i] (List.getElem_mem hi);exact⟨left[i],this.1,this.2,w1,h1,h2,h3,h4,key i hi w1 hch h1⟩
  by_cases hf:left.length≤1
  ·exact pick 0 hpos w (by rw[run_choose];simp[ym,hf]) rfl rfl rfl rfl
  ·exact pick (w.tape w.drawn (.mapNext left.length) % left.length) (Nat.mod_lt _ hpos) {w with drawn:=w.drawn+1} (by rw[run_choose];simp[ym,hf,Question.cut]) rfl rfl rfl rfl
theorem Jm{o:xp}(h:o.guard=none)(f:Nat→Option Bool):zc o f=true:=by
 unfold zc;rw[h]
theorem ff(a:Act)(d:Nat)(v:BY)(t:Nat):(a.put (some d) v).eval (.tmp t)=if d=t∧t<a.tmps.size then v else a.eval (.tmp t):=by
 show(a.put (some d) v).tmps.getD t undef=_;rw[HZ];by_cases h:d=t
 ·subst h;simp[Act.eval]
 ·rw[if_neg (fun h2=>h (Option.some.inj h2.1)),if_neg (fun h2=>h h2.1)];rfl
theorem Wx{k:Walk}{a0:ABn}{id:Nat}{o1 o2:xp}{r2:ABn}(W:AEr A a0 k id o1 o2 r2){a:Act}{w:vt}{pb mb clk:Nat}{seen:List Nat}{es:List wJ}
  (hit:a.eval (.tmp k.it)=.pointer (some ⟨pb,0,none⟩))(hnx:k.nx<a.tmps.size)(hw:w.heap[pb]? =some (.mapIter (some mb) clk ⟨seen⟩ clk))(hm:w.heap[mb]? =some (.map ⟨es⟩ clk))(hb:∀ x∈es,x.born<clk)
  {Q:AC4→Act→vt→Prop}(AHI:(∀ x∈es,x.born∈seen)→Q .normal ((a.put (some k.nx) (.tuple #[.bool false])).put (some k.more) (.bool false)) w)
  (hgo:∀ x∈es,x.born∉seen→∀ w1:vt,w1.heap=w.heap.setIfInBounds pb (.mapIter (some mb) clk ⟨seen++[x.born]⟩ clk)→w1.tape=w.tape→w1.os=w.os→w1.output=w.output→
   Q .normal ((a.put (some k.nx) (.tuple #[.bool true,x.key,x.val])).put (some k.more) (.bool true)) w1):
  (ACs id #[o1,o2] false).wp P Q a w:=by
 refine wp_region_list ?_;have hx1:execOp a.eval o1=(do pure (.value (← xG (a.eval (.tmp k.it)) false o1.type))):=by unfold execOp;rw[W.op1]
 have two:∀ (c:Bool) (vs:Array BY) (w1:vt),Q .normal ((a.put (some k.nx) (.tuple (#[.bool c]++vs))).put (some k.more) (.bool c)) w1→wpList P #[o1,o2] Q [o2] (a.put (some k.nx) (.tuple (#[.bool c]++vs))) w1:=by
  intro c vs w1 hq;unfold wpList;rw[if_pos (Jm W.AHG _)];refine .inl ?_;have hx2:execOp (a.put (some k.nx) (.tuple (#[.bool c]++vs))).eval o2=(do pure (.value (← zn ((a.put (some k.nx) (.tuple (#[.bool c]++vs))).eval (.tmp k.nx)) 0))):=by unfold execOp;rw[W.op2]
  unfold Oper.wp;rw[hx2,ff,if_pos ⟨rfl,hnx⟩];have hex:(zn (.tuple (#[.bool c]++vs)) 0).run P w1=.ok (.bool c) w1:=by
   have h0:(#[Value.bool c]++vs)[0]? =some (.bool c):=by simp[Array.getElem?_append]
   simp only[zn,h0,vF]
  rw[vE,hex,IS,vF,AAI,W.AF1];exact hq
 show wpList P #[o1,o2] Q [o1,o2] a w;rw[show wpList P #[o1,o2] Q [o1,o2] a w=(if zc o1 (yielded #[o1,o2] a.tmps)then o1.wp P a w (wpList P #[o1,o2] Q [o2]) Q∨(o1.asks P a w∧LetsOut Q)else wpList P #[o1,o2] Q [o2] (a.put o1.dst undef) w)from rfl];rw[if_pos (Jm W.AHF _)];refine .inl ?_;unfold Oper.wp;rw[hx1,hit];rcases ZE (P:=P) (t:=o1.type) hw hm hb with ⟨hall,hrun⟩|⟨x,hx,hns,w1,e1,e2,e3,e4,hrun⟩
 ·rw[vE,hrun,IS,vF,AAI,W.AFk]
  exact two false #[] w (AHI hall)
 ·rw[vE,hrun,IS,vF,AAI,W.AFk]
  exact two true #[x.key,x.val] _ (hgo x hx hns _ (by rw[e1]) e2 e3 e4)
theorem Ip{φ:Phi}{e:Env}{a:Act}:AR N φ (ADq A [] e) a↔a.tmps.size=N∧a.defers=[]∧∀ t,t<160→memN t A=false→ADU φ (e.get t) (a.tmps.getD t undef):=by
 have hr:∀ t u,ADq A [] e t=some u↔(memN t A=false∧t<160∧e.get t=u):=fun t u=>by
  rw[EG];show(match memN t A with|true=>none|false=>match wF t 160 with|true=>some (AB t e)|false=>none)=some u↔_;cases memN t A with
  |true=>simp
  |false=>
   cases hb:wF t 160 with
   |true=>
    have:=A9.1 hb;simp only[Cq t this,Option.some.injEq,true_and,this]
   |false=>
    have:¬ t<160:=fun h=>by rw[A9.2 h]at hb;cases hb
    simp[this]
 constructor
 ·exact fun h=>⟨h.size,h.defs,fun t ht hA=>h.rel t _ ((hr t _).2 ⟨hA,ht,rfl⟩)⟩
 ·exact fun⟨h1,h2,h3⟩=>⟨h1,h2,fun t u hu=>by obtain⟨q1,q2,rfl⟩:=(hr t u).1 hu;exact h3 t q2 q1⟩
theorem IQ:∀ (l:List Nat) (e:Env) (t:Nat),(∀ d∈l,d<160)→t<160→(Cn e l).get t=if t∈l then .chan none else e.get t
 |[],e,t,_,_=>by simp[Cn]
 |d::l,e,t,hl,ht=>by
  unfold Cn;rw[IQ l _ t (fun d hd=>hl d (vH _ hd)) ht,Env.ADh _ _ _ _ (hl d vG) ht];by_cases h1:t∈l
  ·simp[h1]
  ·by_cases h2:t=d
   ·simp[h1,h2]
   ·simp[h1,h2]
theorem Ik{clk:Nat}:∀ {es:List Ent} {lo:Nat},E9 clk lo es=true→∀ x∈es,lo≤x.born∧x.born<clk
 |e::l,lo,h,x,hx=>by
  unfold E9 at h;obtain⟨h1,h⟩:=El h;obtain⟨h2,h⟩:=El h;have h1:=Ab.1 h1;have h2:=A9.1 h2;rcases vS.1 hx with rfl|hx
  ·exact⟨h1,h2⟩
  ·have:=Ik h x hx
   have h3:e.born+1≤x.born:=this.1;exact⟨by omega,this.2⟩
theorem PA{φ:Phi}:∀ {es:List Ent} {es':List wJ} {x':wJ},AEO φ es es'→x'∈es'→∃ x∈es,x.born=x'.born
 |_,_,x',.cons (k:=k) (v:=v) (b:=b) hk hv t,hx=>by
  rcases vS.1 hx with rfl|hx
  ·exact⟨⟨k,v,b⟩,vG,rfl⟩
  ·obtain⟨x,h1,h2⟩:=PA t hx
   exact⟨x,vH _ h1,h2⟩
theorem RJ{φ:Phi}{clk:Nat}:∀ {es:List Ent} {es':List wJ} {lo:Nat} {x':wJ},AEO φ es es'→E9 clk lo es=true→x'∈es'→∃ x,GD x'.born es=some x∧ADU φ x.key x'.key∧ADU φ x.val x'.val
 |_,_,lo,x',.cons (k:=k) (v:=v) (b:=b) (l:=l) hk hv t,hr,hx=>by
  unfold GD;rcases vS.1 hx with rfl|hx
  ·rw[wz];exact⟨_,rfl,hk,hv⟩
  ·unfold E9 at hr
   obtain⟨_,hr⟩:=El hr;obtain⟨_,hr⟩:=El hr;obtain⟨y,hy,he⟩:=PA t hx;have h3:b+1≤y.born:=(Ik hr y hy).1;have hb:vO b x'.born=false:=by
    cases hb:vO b x'.born with
    |false=>rfl
    |true=>have:=Am.1 hb;omega
   rw[hb];exact RJ t hr hx
theorem bE{k:Walk}{a0:ABn}{id:Nat}{o1 o2:xp}{r2:ABn}(W:AEr A a0 k id o1 o2 r2):
  Bo ty A a0 [] none=AG (AC k.nx) (Gz (AB k.it)) (AG (AC k.more) (Aj 0 (AB k.nx)) (Bo ty A (.seq (.cond (.tmp k.more) .skip (.exit k.out)) r2) [] none)):=by
 have hA:∀ t,memN t A=false→t<160→cO ⟨A,[]⟩ (.tmp t)=some (AB t):=fun t h1 h2=>by
  show(match PE A [] (.tmp t)with|some s=>some (LC s)|none=>none)=_;show(match (match memN t A with|true=>none|false=>match wF t 160 with|true=>some (Src.s t)|false=>none)with|some s=>some (LC s)|none=>none)=_;rw[h1,A9.2 h2];rfl
 rw[W.code];show Bo ty A (.region id #[o1,o2] false) [] (some fun σ=>Bo ty A (.seq (.cond (.tmp k.more) .skip (.exit k.out)) r2) σ none)=_;show Gd ty A [o1,o2] (K2 (some fun σ=>Bo ty A (.seq (.cond (.tmp k.more) .skip (.exit k.out)) r2) σ none)) [] [o1,o2] []=_;unfold Gd;rw[W.AHF,W.AFk];simp only[W.nxA,A9.2 W.nxL];unfold Gd;rw[W.AHG,W.AF1];simp only[W.moA,A9.2 W.moL];have e1:opC ty ⟨A,[]⟩ o1.op=Gz (AB k.it):=by
  rw[W.op1];show w1 ⟨A,[]⟩ (.tmp k.it) (fun x=>Gz x)=_;unfold w1;rw[hA _ W.itA W.itL]
 have e2:opC ty ⟨A,Fl k.nx []⟩ o2.op=Aj 0 (AB k.nx):=by
  rw[W.op2];show w1 ⟨A,[]⟩ (.tmp k.nx) (fun t=>Aj 0 t)=_;unfold w1;rw[hA _ W.nxA W.nxL]
 rw[e1,e2];rfl
theorem XZ{t:(Env→X)→BY→Env→X}{f:OpF}{k:C}{e:Env}{h h':Hp}{v:BY}(hf:f F e h=.ok v h'):AG t f k F e h=t (fun e=>k F e h') v e:=by
 unfold AG;rw[hf]
theorem j6{t:(Env→X)→BY→Env→X}{f:OpF}{k:C}{e:Env}{h:Hp}(hf:f F e h=.no):AG t f k F e h=.no:=by
 unfold AG;rw[hf]
theorem fc{k:Walk}{a0:ABn}{id:Nat}{o1 o2:xp}{r2:ABn}(W:AEr A a0 k id o1 o2 r2){e:Env}{h:Hp}{ad:Addr}{m s last c lo hi mk:Nat}{es:List Ent}{x:Ent}{bl:BT}{sn:Option (List Nat)}{Y:Go.Proofs.YtedbmmfebjfibaaGreat.X}
  (hit:AB k.it e=.pointer (some ad))(hoff:vO ad.off 0=true)(hm:BP h m=.ok es c)(hmb:m≠ad.block)(hx:GD s es=some x)(hbl:h.bl.set ad.block (.pick m s last sn)=some bl)
  (hr:Bo ty A a0 [] none F e {next:=h.next,low:=lo,high:=hi,mark:=mk,bl:=bl}=Y)(hn:Y≠.no):
  ∃ bl',bl.set ad.block (Mi m s last sn)=some bl'∧
   Bo ty A (.seq (.cond (.tmp k.more) .skip (.exit k.out)) r2) [] none F (Env.set k.more (.bool true) (Env.set k.nx (.tuple ⟨[.bool true,x.key,x.val]⟩) e)) {next:=h.next,low:=lo,high:=hi,mark:=mk,bl:=bl'}=Y:=by
 rw[bE W]at hr;have hb:bl.get ad.block=.pick m s last sn:=by rw[BT.ADh _ _ _ _ hbl,if_pos rfl]
 have hme:BP ({next:=h.next,low:=lo,high:=hi,mark:=mk,bl:=bl}:Hp) m=.ok es c:=by
  show dD (bl.get m)=_;rw[BT.ADh _ _ _ _ hbl,if_neg hmb];exact hm
 have hnx:Gz (AB k.it) F e {next:=h.next,low:=lo,high:=hi,mark:=mk,bl:=bl}=match bl.set ad.block (Mi m s last sn)with
   |some bl'=>.ok (.tuple ⟨[.bool true,x.key,x.val]⟩) {next:=h.next,low:=lo,high:=hi,mark:=mk,bl:=bl'}
   |none=>.no:=by
  unfold Gz;rw[hit];show(bif vO ad.off 0 then GI ad _ else .no)=_;rw[hoff];show GI ad _=_;unfold GI;simp only;rw[hb];show(match BP ({next:=h.next,low:=lo,high:=hi,mark:=mk,bl:=bl}:Hp) m with|.ok es _=>_|.no=>_)=_;rw[hme];simp only[hx];cases bl.set ad.block (Mi m s last sn)<;>rfl
 cases hs:bl.set ad.block (Mi m s last sn)with
 |none=>
  rw[hs]at hnx;rw[j6 hnx]at hr;exact absurd hr.symm hn
 |some bl'=>
  refine⟨bl',rfl,?_⟩;rw[hs]at hnx;rw[← hr];have hex:Aj 0 (AB k.nx) F (Env.set k.nx (.tuple ⟨[.bool true,x.key,x.val]⟩) e) {next:=h.next,low:=lo,high:=hi,mark:=mk,bl:=bl'}=.ok (.bool true) {next:=h.next,low:=lo,high:=hi,mark:=mk,bl:=bl'}:=by
   unfold Aj;rw[Cq _ W.nxL,Env.ADh _ _ _ _ W.nxL W.nxL,if_pos rfl];rfl
  symm
  rw[XZ hnx,Dm _ W.nxL,XZ hex,Dm _ W.moL]
structure Rd (A:List Nat)(N:Nat)(φ:Phi)(ws:List Nat)(e:Env)(w:vt)(pb qb c:Nat)(seen:List Nat)(ak:Act)(wk:vt):Prop where
 size:ak.tmps.size=N
 defs:ak.defers=[]
 slots:∀ t,t<160→memN t A=false→t∉ws→ADU φ (e.get t) (ak.tmps.getD t undef)
 grow:w.heap.size≤wk.heap.size
 same:∀ j,j<w.heap.size→j≠pb→wk.heap[j]? =w.heap[j]?
 tape:wk.tape=w.tape
 os:wk.os=w.os
 output:wk.output=w.output
 iter:wk.heap[pb]? =some (.mapIter (some qb) c ⟨seen⟩ c)
theorem RK{φ:Phi}:∀ {es:List Ent} {es':List wJ} {x:Ent},AEO φ es es'→x∈es→∃ x'∈es',x'.born=x.born
 |_,_,x,.cons (k':=k) (v':=v) (b:=b) hk hv t,hx=>by
  rcases vS.1 hx with rfl|hx
  ·exact⟨⟨k,v,b⟩,vG,rfl⟩
  ·obtain⟨x,h1,h2⟩:=RK t hx
   exact⟨x,vH _ h1,h2⟩
theorem J7{n:Nat}:∀ {es:List Ent} {x:Ent},GD n es=some x→x∈es∧x.born=n
 |y::l,x,h=>by
  unfold GD at h;cases hb:vO y.born n with
  |true=>rw[hb]at h;cases h;exact⟨vG,Am.1 hb⟩
  |false=>
   rw[hb]at h;obtain⟨h1,h2⟩:=J7 h;exact⟨vH _ h1,h2⟩
theorem qO{b:Bool}{Y X:Go.Proofs.YtedbmmfebjfibaaGreat.X}(h:(bif b then Y else .no)=X)(hn:X≠.no):b=true∧Y=X:=by
 cases b with
 |false=>exact absurd h.symm hn
 |true=>exact⟨rfl,h⟩
theorem RO{seen:List Nat}:∀ {es:List Ent},(∀ x∈es,x.born∈seen)→AD1 seen es=[]
 |[],_=>rfl
 |x::l,h=>by
  unfold AD1;rw[LM,show seen.contains x.born=true by simpa using h x vG];exact RO fun y hy=>h y (vH _ hy)
theorem Mq{seen:List Nat}:∀ {es:List Ent} {x:Ent},x∈es→x.born∉seen→x∈AD1 seen es
 |y::l,x,hx,hn=>by
  unfold AD1;rcases vS.1 hx with rfl|hx
  ·rw[LM,show seen.contains x.born=false by simpa using hn]
   exact vG
  ·have ih:=Mq hx hn
   cases Fe y.born seen with
   |true=>exact ih
   |false=>exact vH _ ih
theorem Lf{f:Ent→Bool}:∀ {l:List Ent},PR f l=true→∀ x∈l,f x=true
 |[],_,x,hx=>by cases hx
 |y::l,h,x,hx=>by
  obtain⟨h1,h2⟩:=El h;rcases vS.1 hx with rfl|hx
  ·exact h1
  ·exact Lf h2 x hx
theorem ADX.one{φ:Phi}{h:Hp}{w w':vt}{b:Nat}{pb:Pl}{o:Blk}{bl:BT}(H:ADX ty φ nil h w)(hpb:φ b=some pb)(hin:pb.inp=false)(AEE:Live h b)(hbl:∀ i,bl.get i=if i=b then o else h.bl.get i)
  (hs:w.heap.size≤w'.heap.size)(hsame:∀ j,j<w.heap.size→j≠pb.blk→w'.heap[j]? =w.heap[j]?)(hB:AER ty φ pb o w'.heap[pb.blk]?)(hoc:∀ cc s el,o≠.cells cc s el)(lo hi mk:Nat):
  ADX ty φ nil {next:=h.next,low:=lo,high:=hi,mark:=mk,bl:=bl} w' where
 dom:=fun i p hp=>⟨(H.dom i p hp).1,Nat.lt_of_lt_of_le (H.dom i p hp).2 hs⟩
 inj:=fun i j p q hp hq _ _ hi hj hio hpq=>by
  have lv:∀ i,bl.get i≠.dead→Live h i:=fun i hi=>by
   by_cases hib:i=b
   ·rw[hib];exact AEE
   ·rw[hbl,if_neg hib]at hi;exact hi
  exact H.inj i j p q hp hq (fun h=>h) (fun h=>h) (lv i hi) (lv j hj) hio hpq
 row:=fun i p hp _=>by
  show AER ty φ p (bl.get i) _;rw[hbl];by_cases hib:i=b
  ·rw[if_pos hib]
   subst hib;rw[hpb]at hp;cases hp;exact hB
  ·rw[if_neg hib]
   by_cases hdd:h.bl.get i=.dead
   ·rw[hdd];exact .dead
   ·rw[hsame p.blk (H.dom i p hp).2 (fun hb=>hib (H.inj i b p pb hp hpb (fun h=>h) (fun h=>h) hdd AEE (.inr hin) hb))]
    exact H.row i p hp (fun h=>h)
 fresh:=fun i hi=>by
  have hi:h.next≤i:=hi;show bl.get i=_;have:=(H.dom _ _ hpb).1;rw[hbl,if_neg (by omega)];exact H.fresh i hi
 kind:=fun i p cc s el hp he=>by
  have he:bl.get i=.cells cc s el:=he;rw[hbl]at he;by_cases hib:i=b
  ·rw[if_pos hib]at he;exact absurd he (hoc _ _ _)
  ·rw[if_neg hib]at he;exact H.kind i p cc s el hp he
 inp:=H.inp
theorem Evo.one{φ:Phi}{h:Hp}{w w':vt}{b:Nat}{pb:Pl}{o:Blk}{bl:BT}(hpb:φ b=some pb)(hin:pb.inp=false)(AEE:Live h b)(hbl:∀ i,bl.get i=if i=b then o else h.bl.get i)
  (hs:w.heap.size≤w'.heap.size)(hsame:∀ j,j<w.heap.size→j≠pb.blk→w'.heap[j]? =w.heap[j]?)(ht:w'.tape=w.tape)(hos:w'.os=w.os)(hou:w'.output=w.output)(ho:ADn (h.bl.get b) o)(mk:Nat):
  Evo φ h w φ {next:=h.next,low:=B4 h.low b,high:=Co h.high b,mark:=mk,bl:=bl} w' where
 le:=.refl φ
 new:=fun _ _ e=>.inl e
 next:=Nat.le_refl _
 size:=hs
 tape:=ht
 os:=hos
 output:=hou
 frame:=fun j hj hf=>hsame j hj fun hjp=>hf b pb hpb hin (by show B4 _ _≤_;rw[BJ];exact Nat.min_le_right _ _) (by show _≤Co _ _;rw[Bw];exact zR _ _) AEE hjp.symm
 back:=fun i p hp hl _=>by
  refine⟨i,p,hp,?_,rfl,rfl,.inl rfl⟩;by_cases hib:i=b
  ·rw[hib];exact AEE
  ·have hl:bl.get i≠.dead:=hl
   rw[hbl,if_neg hib]at hl;exact hl
 kept:=fun i _ hi=>by
  show bl.get i=_;have hi:i<B4 h.low b∨Co h.high b<i:=hi;rw[BJ,Bw]at hi;rw[hbl,if_neg (by omega)]
 low:=by show B4 _ _≤_;rw[BJ];exact zW _ _
 high:=by show _≤Co _ _;rw[Bw];exact AA6 _ _
 shape:=fun i _=>by
  show ADn _ (bl.get i);rw[hbl];by_cases hib:i=b
  ·rw[if_pos hib,hib];exact ho
  ·rw[if_neg hib];exact .refl _
 only:=fun i _ h0=>by
  show bl.get i=_;rw[hbl,if_neg (fun e=>by rw[e,hpb]at h0;cases h0)]
 all:=fun _ h1 h2=>absurd h2 (Nat.not_lt.2 h1)
theorem dF{k:Walk}{a0:ABn}{id:Nat}{o1 o2:xp}{r2:ABn}(W:AEr A a0 k id o1 o2 r2)(hd:k.nx<N∧k.more<N)
  (ih:∀ {e:Env} {h:Hp} {X:Go.Proofs.YtedbmmfebjfibaaGreat.X},Bo ty A (.seq (.cond (.tmp k.more) .skip (.exit k.out)) r2) [] none F e h=X→X≠.no→∀ (φ:Phi) (w:vt) (a:Act),ADX ty φ nil h w→AR N φ (ADq A [] e) a→∀ (Q:AC4→Act→vt→Prop),Post ty A N F φ h w none X Q→(AAo (.cond (.tmp k.more) .skip (.exit k.out)) r2).wp P Q a w)
  {e:Env}{ad:Addr}(hit:AB k.it e=.pointer (some ad))(hoff:vO ad.off 0=true)(ADg:256≤ad.block){φ0:Phi}{hr:Hp}{w0:vt}{a:Act}(AEs:∀ t,t<160→memN t A=false→ADU φ0 (e.get t) (a.tmps.getD t undef))
  {fin:Hp→Rds→Bool}{Q:AC4→Act→vt→Prop}
  (AIx:∀ (hk:Hp) (tr:Rds) (φk:Phi) (wk:vt),ADX ty φk nil hk wk→Evo φ0 hr w0 φk hk wk→(∃ pb,φk ad.block=some pb)→Live hk ad.block→fin hk tr=true→∀ ak:Act,ak.tmps.size=N→ak.defers=[]→
   (∀ t,t<160→memN t A=false→t∉k.ws→ADU φ0 (e.get t) (ak.tmps.getD t undef))→ak.tmps.getD k.more undef=.bool false→Q (.exit k.out) ak wk):
  ∀ (n:Nat) (hk:Hp) (tr:Rds) (φk:Phi) (wk:vt) (ak:Act),ADX ty φk nil hk wk→Evo φ0 hr w0 φk hk wk→ak.tmps.size=N→ak.defers=[]→
   (∀ t,t<160→memN t A=false→t∉k.ws→ADU φ0 (e.get t) (ak.tmps.getD t undef))→Kh k (Bo ty A a0 [] none) F e ad.block fin n hk tr=true→AAO P a0 Q n ak wk:=by
 intro n
 induction n with
 |zero=>intro hk tr φk wk ak _ _ _ _ _ hx;cases hx
 |succ n ihn=>
 intro hk tr φk wk ak H E hsz hdf hsl hx;unfold Kh NZ at hx;cases AFK:EA (hk.bl.get ad.block)with
 |no=>rw[AFK]at hx;cases hx
 |cur _ _ _=>rw[AFK]at hx;cases hx
 |pick _ _ _ _=>rw[AFK]at hx;cases hx
 |ok m' since seen last=>
 rw[AFK]at hx;cases m' with
 |none=>cases hx
 |some m=>
 simp only at hx;cases AFL:BP hk m with
 |no=>rw[AFL]at hx;cases hx
 |ok es c=>
 rw[AFL]at hx;simp only at hx;obtain⟨AGD,hx1⟩:=El hx;obtain⟨AH0,hx2⟩:=El hx1;obtain⟨hris,hx3⟩:=El hx2;clear hx hx1 hx2;have hcs:=Am.1 AGD;have hcl:=Am.1 AH0;clear AGD AH0;subst hcs;subst hcl;have hx:=hx3;clear hx3;have hbi:=Hu AFK;have AGT:=AEs k.it W.itL W.itA;rw[← Cq k.it W.itL,hit]at AGT;obtain⟨ad',AIy,hra⟩:=AGT.AEa;obtain⟨pb,AGq,rfl⟩:=hra.eq;have hpb:=E.le _ _ AGq;have AHJ:ad.off=0:=Am.1 hoff;have hrow:=H.row ad.block pb hpb (fun h=>h);rw[hbi]at hrow;obtain⟨q,hp0,hq,hwi⟩:∃ q,pb.off=0∧φk m=some q∧wk.heap[pb.blk]? =some (.mapIter (some q.blk) c ⟨seen⟩ c):=by
  generalize wk.heap[pb.blk]? =ob at hrow;cases hrow with
  |iter h1 h2=>exact⟨_,h1,h2,rfl⟩
 obtain⟨es',hwm,ADy⟩:=H.AEZ hq (fun h=>h) AFL;have hmb:m≠ad.block:=fun h=>by
  have:=Fm AFL;rw[h,hbi]at this;cases this
 have hin:=H.AEX hpb ADg;have AEE:Live hk ad.block:=by unfold Live;rw[hbi];intro h;cases h
 have AIz:=(H.dom _ _ hpb).2;have AHK:∀ x∈es',x.born<c:=fun x hx=>by
  obtain⟨y,hy,he⟩:=PA ADy hx;rw[← he];exact(Ik hris y hy).2
 have hkeep:B6 k.ws (Bo ty A (.seq (.cond (.tmp k.more) .skip (.exit k.out)) r2) [] none):=CG _ (fun d hd=>by
  rw[W.ws,W.code];exact vV _ hd) (fun _ h=>by cases h)
 have AH1:k.nx∈k.ws:=by rw[W.ws,W.code];show _∈I7 [o1,o2]++_;simp[I7,W.AFk,W.AF1]
 have AH2:k.more∈k.ws:=by rw[W.ws,W.code];show _∈I7 [o1,o2]++_;simp[I7,W.AFk,W.AF1]
 have hcg:∀ t,t<160→(Cn e k.ws).get t=if t∈k.ws then .chan none else e.get t:=fun t ht=>IQ _ _ _ W.few ht
 have AE3:∀ {ψ:Phi} {v v' v'':BY},φ0.Le ψ→ADU ψ v v'→ADU φ0 v v''→ADU φ0 v v':=fun {ψ v v' v''} hle h1 h2=>ADU.cut (χ:=φ0) (fun b p hp ⟨q,hq⟩=>by
  have:=hle b q hq;rw[hp]at this;cases this;exact hq) h1 h2
 have AHL:ak.eval (.tmp k.it)=.pointer (some ⟨pb.blk,0,none⟩):=by
  have h1:=hsl k.it W.itL W.itA W.itW;rw[← Cq k.it W.itL,hit]at h1;obtain⟨a2,ha2,hr2⟩:=h1.AEa;obtain⟨p2,hp2,rfl⟩:=hr2.eq;rw[AGq]at hp2;cases hp2;show ak.tmps.getD k.it undef=_;rw[ha2,hp0,AHJ]
 have AGr:∀ (v1 v2:BY) (t:Nat),t<160→((ak.put (some k.nx) v1).put (some k.more) v2).tmps.getD t undef=if t=k.more then v2 else if t=k.nx then v1 else ak.tmps.getD t undef:=fun v1 v2 t ht=>by
  rw[HZ,FV,HZ];by_cases h1:t=k.more
  ·rw[if_pos ⟨by rw[h1],by rw[h1,hsz];exact hd.2⟩,if_pos h1]
  ·rw[if_neg (fun h=>h1 (Option.some.inj h.1).symm),if_neg h1]
   by_cases h2:t=k.nx
   ·rw[if_pos ⟨by rw[h2],by rw[h2,hsz];exact hd.1⟩,if_pos h2]
   ·rw[if_neg (fun h=>h2 (Option.some.inj h.1).symm),if_neg h2]
 show a0.wp P (Exit.then (AAO P a0 Q n) Q) ak wk;generalize hK:AAO P a0 Q n=K;rw[W.code];refine wp_seq (Wx W (pb:=pb.blk) (mb:=q.blk) (clk:=c) (seen:=seen) (es:=es') AHL (by rw[hsz];exact hd.1) hwi hwm AHK (fun hall=>?_) (fun x' hx' hns w1 e1 e2' e3 e4=>?_))
 ·
  show(AAo (.cond (.tmp k.more) .skip (.exit k.out)) r2).wp P (Exit.then K Q) ((ak.put (some k.nx) (.tuple #[.bool false])).put (some k.more) (.bool false)) wk;refine wp_seq (wp_cond_false ?_ (wp_exit ?_))
  ·show((ak.put (some k.nx) (.tuple #[.bool false])).put (some k.more) (.bool false)).tmps.getD k.more undef=_
   rw[AGr _ _ _ W.moL,if_pos rfl]
  ·show Q (.exit k.out) ((ak.put (some k.nx) (.tuple #[.bool false])).put (some k.more) (.bool false)) wk
   rw[RO (es:=es) fun x hx=>by
    obtain⟨x',hx',he⟩:=RK ADy hx;rw[← he];exact hall x' hx']at hx
   refine AIx hk tr φk wk H E ⟨_,hpb⟩ AEE hx _ (by rw[FV,FV];exact hsz) (by rw[GK,GK];exact hdf) (fun t ht hA hw=>?_) (by rw[AGr _ _ _ W.moL,if_pos rfl]);rw[AGr _ _ _ ht,if_neg (fun h:t=k.more=>hw (h ▸ AH2)),if_neg (fun h:t=k.nx=>hw (h ▸ AH1))];exact hsl t ht hA hw
 ·
  show(AAo (.cond (.tmp k.more) .skip (.exit k.out)) r2).wp P (Exit.then K Q) ((ak.put (some k.nx) (.tuple #[.bool true,x'.key,x'.val])).put (some k.more) (.bool true)) w1;obtain⟨x,hfx,hkr,hvr⟩:=RJ ADy hris hx';obtain⟨hxm,hxb⟩:=J7 hfx;have hmem:=Mq hxm (by rw[hxb];exact hns);generalize AE1:AD1 seen es=rest at hx hmem;cases rest with
  |nil=>cases hmem
  |cons y l=>
  have hx:=Lf hx x hmem;unfold N7 at hx;cases hbl:hk.bl.set ad.block (.pick m x.born c (some seen))with
  |none=>rw[hbl]at hx;cases hx
  |some bl=>
  rw[hbl]at hx;simp only at hx;have AI0:AB k.it (Cn e k.ws)=.pointer (some ad):=by
   rw[Cq _ W.itL,hcg _ W.itL,if_neg W.itW,← Cq _ W.itL];exact hit
  generalize hY:Bo ty A a0 [] none F (Cn e k.ws) {next:=hk.next,low:=B4 hk.low ad.block,high:=Co hk.high ad.block,mark:=hk.mark,bl:=bl}=Y at hx;cases Y with
  |no=>cases hx
  |exit _ _ _=>cases hx
  |ret _ _=>cases hx
  |norm e1' h1'=>
  simp only at hx;obtain⟨bl',AHM,hB⟩:=fc W (x:=x) (s:=x.born) AI0 hoff AFL hmb (by rw[hxb];exact hfx) hbl hY (fun h=>by cases h);have AHM:bl.set ad.block (.iter (some m) c (JW x.born seen) c)=some bl':=AHM;have AH3:∀ i,bl'.get i=if i=ad.block then .iter (some m) c (JW x.born seen) c else hk.bl.get i:=fun i=>by
   rw[BT.ADh _ _ _ _ AHM,BT.ADh _ _ _ _ hbl];split<;>rfl
  have AH4:w1.heap.size=wk.heap.size:=by rw[e1];simp
  have AI1:w1.heap[pb.blk]? =some (.mapIter (some q.blk) c ⟨seen++[x'.born]⟩ c):=by
   rw[e1,xP,if_pos rfl,if_pos AIz]
  have AH5:∀ j,j<wk.heap.size→j≠pb.blk→w1.heap[j]? =wk.heap[j]?:=fun j hj hjp=>by
   rw[e1,xP,if_neg (fun h=>hjp h.symm)]
  have HR:=H.one hpb hin AEE AH3 (zO AH4.symm) AH5 (by rw[AI1,Mo,hxb];exact .iter hp0 hq) (fun _ _ _ h=>by cases h) (B4 hk.low ad.block) (Co hk.high ad.block) hk.mark;have E1:=Evo.one (w':=w1) hpb hin AEE AH3 (zO AH4.symm) AH5 e2' e3 e4 (by rw[hbi];exact .inr trivial) hk.mark;have HAR:AR N φk (ADq A [] (Env.set k.more (.bool true) (Env.set k.nx (.tuple ⟨[.bool true,x.key,x.val]⟩) (Cn e k.ws)))) ((ak.put (some k.nx) (.tuple #[.bool true,x'.key,x'.val])).put (some k.more) (.bool true)):=by
   refine Ip.2 ⟨by rw[FV,FV];exact hsz,by rw[GK,GK];exact hdf,fun t ht hA=>?_⟩;rw[AGr _ _ _ ht,Env.ADh _ _ _ _ W.moL ht,Env.ADh _ _ _ _ W.nxL ht,hcg t ht];by_cases q1:t=k.more
   ·rw[if_pos q1,if_pos q1];exact .bool _
   ·rw[if_neg q1,if_neg q1]
    by_cases q2:t=k.nx
    ·rw[if_pos q2,if_pos q2];exact .tuple (.cons (.bool _) (.cons hkr (.cons hvr .nil)))
    ·rw[if_neg q2,if_neg q2]
     by_cases q3:t∈k.ws
     ·rw[if_pos q3];exact .unk
     ·rw[if_neg q3];exact(hsl t ht hA q3).mono E.le
  refine ih hB (fun h=>by cases h) φk w1 _ HR HAR _ {go:=(fun _ h=>by cases h),norm:=fun _ e2 h2 ψ a2 w2 g hx2=>?_,exit:=(fun i e2 h2 ψ a2 w2 g hx2=>by cases hx2),ret:=(fun e2 h2 ψ a2 w2 g hx2=>by cases hx2)};cases hx2;obtain⟨g1,g2,g3⟩:=Ip.1 g.ar;have hag:=hkeep F (Env.set k.more (.bool true) (Env.set k.nx (.tuple ⟨[.bool true,x.key,x.val]⟩) (Cn e k.ws))) {next:=hk.next,low:=B4 hk.low ad.block,high:=Co hk.high ad.block,mark:=hk.mark,bl:=bl'};rw[hB]at hag;have hag:Ag k.ws (Env.set k.more (.bool true) (Env.set k.nx (.tuple ⟨[.bool true,x.key,x.val]⟩) (Cn e k.ws))) e1':=hag;have E2:=(E.trans E1).trans g.evo;show K a2 w2;rw[← hK];refine ihn h1' _ ψ w2 a2 g.rel E2 g1 g2 (fun t ht hA hw=>?_) hx;have q1:=g3 t ht hA;rw[hag t ht hw,Env.ADh _ _ _ _ W.moL ht,if_neg (fun h:t=k.more=>hw (h ▸ AH2)),Env.ADh _ _ _ _ W.nxL ht,if_neg (fun h:t=k.nx=>hw (h ▸ AH1)),hcg t ht,if_neg hw]at q1;exact AE3 E2.le q1 (AEs t ht hA)
theorem dC{b n0:Nat}{r h1:Hp}{tr:Rds}:Vs b n0 r h1 tr=true↔Ye b n0 r h1:=by
 unfold Vs;split
 ·rename_i h _;exact⟨fun _=>h,fun _=>rfl⟩
 ·rename_i h _;exact⟨fun e=>(by cases e),fun e=>absurd e h⟩
theorem ADX.AHN{φ:Phi}{h:Hp}{w:vt}{bl:BT}{b n0:Nat}(H:ADX ty φ nil h w)(hbl:∀ i,bl.get i=if i=b∨n0≤i then .dead else h.bl.get i)(lo hi mk:Nat):
  ADX ty φ nil {next:=h.next,low:=lo,high:=hi,mark:=mk,bl:=bl} w where
 dom:=H.dom
 inj:=fun i j p q hp hq _ _ hi hj hio hpq=>by
  have lv:∀ i,bl.get i≠.dead→Live h i:=fun i hi=>by
   rw[hbl]at hi;split at hi
   ·exact absurd rfl hi
   ·exact hi
  exact H.inj i j p q hp hq (fun h=>h) (fun h=>h) (lv i hi) (lv j hj) hio hpq
 row:=fun i p hp _=>by
  show AER ty φ p (bl.get i) _;rw[hbl];split
  ·exact .dead
  ·exact H.row i p hp (fun h=>h)
 fresh:=fun i hi=>by
  have hi:h.next≤i:=hi;show bl.get i=_;rw[hbl];split
  ·rfl
  ·exact H.fresh i hi
 kind:=fun i p cc s el hp he=>by
  have he:bl.get i=.cells cc s el:=he;rw[hbl]at he;split at he
  ·cases he
  ·exact H.kind i p cc s el hp he
 inp:=H.inp
theorem Evo.join{φ ψ:Phi}{h r hk:Hp}{w wk:vt}{b:Nat}{pb:Pl}(E:Evo φ {next:=h.next,low:=h.next,high:=0,mark:=h.mark,bl:=h.bl} w ψ hk wk)(hpb:φ b=some pb)
  (q1:hk.next=r.next)(q2:r.low≤B4 hk.low b)(q3:Co hk.high b≤r.high)(q4:∀ i,r.bl.get i=if i=b∨h.next≤i then .dead else hk.bl.get i):Evo φ h w ψ (hU h r) wk where
 le:=E.le
 new:=E.new
 next:=by
  have h1:h.next≤hk.next:=E.next;show h.next≤r.next;omega
 size:=E.size
 tape:=E.tape
 os:=E.os
 output:=E.output
 frame:=fun k hk' hf=>E.frame k hk' fun i p e hn hl hg hv=>hf i p e hn (by
  rw[BJ]at q2;show B4 h.low r.low≤i;rw[BJ];omega) (by
  rw[Bw]at q3;show i≤Co h.high r.high;rw[Bw];omega) hv
 back:=fun i p e hl hp=>by
  have hl:r.bl.get i≠.dead:=hl;rw[q4]at hl;split at hl
  ·exact absurd rfl hl
  obtain⟨j,q,a1,a2,a3,a4,a5⟩:=E.back i p e hl hp;refine⟨j,q,a1,a2,a3,a4,?_⟩;rw[BJ]at q2;rw[Bw]at q3;rcases a5 with a5|⟨a5,a6⟩
  ·exact .inl a5
  ·refine .inr ⟨?_,?_⟩
   ·show B4 h.low r.low≤j
    rw[BJ];omega
   ·show j≤Co h.high r.high
    rw[Bw];omega
 kept:=fun i hi hor=>by
  have hor:i<B4 h.low r.low∨Co h.high r.high<i:=hor;rw[BJ,Bw]at hor;rw[BJ]at q2;rw[Bw]at q3;show r.bl.get i=_;rw[q4,if_neg (by omega)];exact E.kept i hi (by omega)
 low:=by show B4 _ _≤_;rw[BJ];exact zW _ _
 high:=by show _≤Co _ _;rw[Bw];exact AA6 _ _
 shape:=fun i hi=>by
  show ADn _ (r.bl.get i);rw[q4];split
  ·exact .inl rfl
  ·exact E.shape i hi
 only:=fun i hi h0=>by
  show r.bl.get i=_;rw[q4,if_neg (by
   rintro (h1|h1)
   ·rw[h1,hpb]at h0;cases h0
   ·omega)]
  exact E.only i hi h0
 all:=fun i h1 h2=>E.all i h1 (by
  have h2:i<r.next:=h2;show i<hk.next;omega)
theorem SU{k:Walk}{a0:ABn}{id:Nat}{o1 o2:xp}{r2:ABn}(W:AEr A a0 k id o1 o2 r2)(hd:k.nx<N∧k.more<N)
  (ih:∀ {e:Env} {h:Hp} {X:Go.Proofs.YtedbmmfebjfibaaGreat.X},Bo ty A (.seq (.cond (.tmp k.more) .skip (.exit k.out)) r2) [] none F e h=X→X≠.no→∀ (φ:Phi) (w:vt) (a:Act),ADX ty φ nil h w→AR N φ (ADq A [] e) a→∀ (Q:AC4→Act→vt→Prop),Post ty A N F φ h w none X Q→(AAo (.cond (.tmp k.more) .skip (.exit k.out)) r2).wp P Q a w)
  {e:Env}{h:Hp}{X:Go.Proofs.YtedbmmfebjfibaaGreat.X}{ad:Addr}(hit:AB k.it e=.pointer (some ad))(hoff:vO ad.off 0=true)(ADg:256≤ad.block)
  (hr:Fk k (Bo ty A a0 [] none) F e h ad.block=X)(hn:X≠.no){φ:Phi}{w:vt}{a:Act}(H:ADX ty φ nil h w)(HA:AR N φ (ADq A [] e) a){Q:AC4→Act→vt→Prop}
  (pe:∀ id e h' ψ a' w',Good ty A N φ h w [] e h' ψ a' w'→X=.exit id e h'→Q (.exit id) a' w'):
  (ADG a0).wp P Q a w:=by
 unfold Fk at hr;split at hr
 case h_2=>exact absurd hr.symm hn
 rename_i hx _;obtain⟨AHO,AGU⟩:=AC6 hx;generalize ACt hx=r at hr AHO AGU;obtain⟨hsz,hdf,AEs⟩:=Ip.1 HA;have hcg:∀ t,t<160→(Cn e k.ws).get t=if t∈k.ws then .chan none else e.get t:=fun t ht=>IQ _ _ _ W.few ht
 refine wp_loop_rounds 64 (dF W hd ih hit hoff ADg (φ0:=φ) (w0:=w) AEs (fun hk tr φk wk Hk Ek ⟨pb',AJ4⟩ AEE hf ak s1 s2 s3 s4=>?_) 64 {next:=h.next,low:=h.next,high:=0,mark:=h.mark,bl:=h.bl} [] φ w a (H.AEv rfl rfl) (.refl _ _ _) hsz hdf (fun t ht hA _=>AEs t ht hA) AGU);obtain⟨q1,q2,q3,hbg⟩:=dC.1 hf;have HK:=Hk.AHN hbg (B4 h.low r.low) (Co h.high r.high) h.mark;have AGT:=AEs k.it W.itL W.itA;rw[← Cq k.it W.itL,hit]at AGT;obtain⟨ad',AIy,hra⟩:=AGT.AEa;obtain⟨pb,AGq,rfl⟩:=hra.eq;have ER:=Ek.join AGq q1 (zO q2) (zO q3.symm) hbg;rw[q1]at HK;refine pe k.out _ _ φk ak wk ⟨.nil A,HK,Ip.2 ⟨s1,s2,fun t ht hA=>?_⟩,ER⟩ hr.symm;rw[Env.ADh _ _ _ _ W.moL ht,hcg t ht];by_cases q1:t=k.more
 ·rw[if_pos q1,q1,s4];exact .bool _
 ·rw[if_neg q1]
  by_cases q2:t∈k.ws
  ·rw[if_pos q2];exact .unk
  ·rw[if_neg q2];exact(s3 t ht hA q2).mono ER.le
end
end
noncomputable section
open Go
section
variable {P:wK}{ty:TTy}{F:ADS}{A:List Nat}{N:Nat}
theorem Evo.AGV{φ ψ:Phi}{h g h':Hp}{w w':vt}(ev:Evo φ g w ψ h' w')(h1:g.bl=h.bl)(h2:g.next=h.next)(h3:g.low=h.low)(h4:g.high=h.high):Evo φ h w ψ h' w' where
 le:=ev.le
 new:=by rw[← h2];exact ev.new
 next:=by rw[← h2];exact ev.next
 size:=ev.size
 tape:=ev.tape
 os:=ev.os
 output:=ev.output
 frame:=by unfold Live;rw[← h1];exact ev.frame
 back:=by
  have:=ev.back;unfold Live at this ⊢;rw[h1]at this;exact this
 kept:=by rw[← h1,← h2];exact ev.kept
 low:=by rw[← h3];exact ev.low
 high:=by rw[← h4];exact ev.high
 shape:=by rw[← h1,← h2];exact ev.shape
 only:=by rw[← h1,← h2];exact ev.only
 all:=by rw[← h2];exact ev.all
theorem Wq(hT:Ck P ty)(hF:C2 P ty F)(hm:P.follows .mixedOrders=true){id:Nat}{ops:Array xp}{draw:Bool}{σ:Sg}{k:Option (Sg→C)}{e:Env}{h:Hp}{X:X}(hr:Bo ty A (.region id ops draw) σ k F e h=X)(hn:X≠.no)
  (hd:CM N (.region id ops draw)=true){φ:Phi}{w:vt}{a:Act}(hS:AEp A σ)(HW:ADX ty φ nil h w)(HA:AR N φ (ADq A σ e) a){Q:AC4→Act→vt→Prop}(p:Post ty A N F φ h w k X Q):(ACs id ops draw).wp P Q a w:=by
 have hN:∀ o∈ops.toList,∀ d,o.dst=some d→d<N:=by
  intro o ho d hod;unfold CM at hd;rw[yN]at hd;have:=hd o ho;rw[hod]at this;exact A9.1 this
 unfold Bo at hr;cases draw with
 |false=>
  simp only at hr;obtain⟨ρ,H,V,run,T,σ',e',tr,q1,q2,q3,q4,q5⟩:=O5 hT hF ops.toList [] σ e h X (fun j o _=>.plain ty o) hS hr hn;refine wp_region_list ?_;have:=PK (Q:=Q) (a:=a) (w:=w) (φ:=φ) ops.toList tr hN (by rw[q2];exact HW) (by rw[q1];exact HA) fun _ ψ a' w' r1 r2 r3=>p.then ⟨q4,r1,by rw[← q3];exact r2,by rw[← q2];exact r3⟩ q5
  simpa using this
 |true=>
  simp only at hr;cases hdr:Ty ty ops.toList with
  |none=>rw[hdr]at hr;exact absurd hr.symm hn
  |some ahs=>
   rw[hdr]at hr;obtain⟨bs,hbs,he,hs,hah⟩:=YZ hdr;have hr:Gd ty A ops.toList (K2 k) ahs ops.toList σ F e {next:=h.next,low:=h.low,high:=h.high,mark:=h.next,bl:=h.bl}=X:=hr;obtain⟨ρ,H,V,run,T,σ',e',tr,q1,q2,q3,q4,q5⟩:=O5 hT hF ops.toList ahs σ e _ X (fun j o ho=>by obtain⟨xs,_,h⟩:=hah j o ho;exact h.ok) hS hr hn;have:=gN (id:=id) (Q:=Q) (a:=a) (w:=w) (φ0:=φ) hm (Po hbs he) (de hbs he hs hah tr) tr hN (by rw[q2];exact HW.AEv rfl rfl) (by rw[q1];exact HA)
    fun ψ a' w' r1 r2 r3=>p.then ⟨q4,r1,by rw[← q3];exact r2,by rw[q2]at r3;exact r3.AGV rfl rfl rfl rfl⟩ q5
   simpa using this
theorem Ug(hm:P.follows .mixedOrders=true){c:ABn}{body:C}(ih:∀ {e:Env} {h:Hp} {X:X},body F e h=X→X≠.no→∀ (φ:Phi) (w:vt) (a:Act),ADX ty φ nil h w→AR N φ (ADq A [] e) a→∀ (Q:AC4→Act→vt→Prop),Post ty A N F φ h w none X Q→c.wp P Q a w):
  ∀ (n:Nat) {e:Env} {h:Hp} {X:X},iter body n F e h=X→X≠.no→∀ (φ:Phi) (w:vt) (a:Act),ADX ty φ nil h w→AR N φ (ADq A [] e) a→∀ (Q:AC4→Act→vt→Prop),Post ty A N F φ h w none X Q→AAO P c Q n a w
 |0,e,h,X,hr,hn=>by exact absurd hr.symm hn
 |n+1,e,h,X,hr,hn=>by
  intro φ w a HW HA Q p;unfold iter at hr;cases hb:body F e h with
  |no=>rw[hb]at hr;exact absurd hr.symm hn
  |norm e1 h1=>
   rw[hb]at hr;simp only at hr;refine ih hb (fun h=>by cases h) φ w a HW HA _ {go:=(fun _ h=>by cases h),norm:=fun _ e' h' ψ a' w' g hx=>?_,exit:=(fun _ _ _ _ _ _ _ hx=>by cases hx),ret:=(fun _ _ _ _ _ _ hx=>by cases hx)};cases hx;exact Ug hm ih n hr hn _ _ _ g.rel g.ar _ {go:=(fun _ h=>by cases h),norm:=fun h e2 h2 χ a2 w2 g2 hx=>p.norm h e2 h2 χ a2 w2 (g.trans g2) hx,exit:=fun id e2 h2 χ a2 w2 g2 hx=>p.exit id e2 h2 χ a2 w2 (g.trans g2) hx,ret:=fun e2 h2 χ a2 w2 g2 hx=>p.ret e2 h2 χ a2 w2 (g.trans g2) hx}
  |exit i e1 h1=>
   rw[hb]at hr;refine ih hb (fun h=>by cases h) φ w a HW HA _ {go:=(fun _ h=>by cases h),norm:=(fun _ _ _ _ _ _ _ hx=>by cases hx),exit:=fun id e2 h2 χ a2 w2 g2 hx=>p.exit id e2 h2 χ a2 w2 g2 (hr.symm.trans hx),ret:=(fun _ _ _ _ _ _ hx=>by cases hx)}
  |ret e1 h1=>
   rw[hb]at hr;refine ih hb (fun h=>by cases h) φ w a HW HA _ {go:=(fun _ h=>by cases h),norm:=(fun _ _ _ _ _ _ _ hx=>by cases hx),exit:=(fun _ _ _ _ _ _ _ hx=>by cases hx),ret:=fun e2 h2 χ a2 w2 g2 hx=>p.ret e2 h2 χ a2 w2 g2 (hr.symm.trans hx)}
theorem RS{φ:Phi}{h:Hp}{w:vt}{k':Sg→C}{X:X}{Q:AC4→Act→vt→Prop}(p:Post ty A N F φ h w (some k') X Q){a:C}{e:Env}(hr:BK a (k' []) F e h=X)(hn:X≠.no):
  ∃ X1,a F e h=X1∧X1≠.no∧Post ty A N F φ h w none X1 Q:=by
 unfold BK at hr;cases hb:a F e h with
 |no=>rw[hb]at hr;exact absurd hr.symm hn
 |norm e1 h1=>
  rw[hb]at hr;exact⟨_,rfl,(fun h=>by cases h),{go:=(fun _ h=>by cases h),norm:=fun _ e2 h2 χ a2 w2 g2 hx=>by cases hx;exact p.go k' rfl [] _ _ χ a2 w2 g2 hr,exit:=(fun _ _ _ _ _ _ _ hx=>by cases hx),ret:=(fun _ _ _ _ _ _ hx=>by cases hx)}⟩
 |exit i e1 h1=>
  rw[hb]at hr;exact⟨_,rfl,(fun h=>by cases h),{go:=(fun _ h=>by cases h),norm:=(fun _ _ _ _ _ _ _ hx=>by cases hx),exit:=fun id e2 h2 χ a2 w2 g2 hx=>p.exit id e2 h2 χ a2 w2 g2 (hr.symm.trans hx),ret:=(fun _ _ _ _ _ _ hx=>by cases hx)}⟩
 |ret e1 h1=>
  rw[hb]at hr;exact⟨_,rfl,(fun h=>by cases h),{go:=(fun _ h=>by cases h),norm:=(fun _ _ _ _ _ _ _ hx=>by cases hx),exit:=(fun _ _ _ _ _ _ _ hx=>by cases hx),ret:=fun e2 h2 χ a2 w2 g2 hx=>p.ret e2 h2 χ a2 w2 g2 (hr.symm.trans hx)}⟩
theorem SJ{φ:Phi}{h:Hp}{w:vt}{X:X}{Q:AC4→Act→vt→Prop}(p:Post ty A N F φ h w none X Q){id:Nat}{a:C}{e:Env}(hr:Ad id a F e h=X)(hn:X≠.no):
  ∃ X1,a F e h=X1∧X1≠.no∧Post ty A N F φ h w none X1 (ACc id Q):=by
 unfold Ad at hr;cases hb:a F e h with
 |no=>rw[hb]at hr;exact absurd hr.symm hn
 |norm e1 h1=>
  rw[hb]at hr;exact⟨_,rfl,(fun h=>by cases h),{go:=(fun _ h=>by cases h),norm:=fun h e2 h2 χ a2 w2 g2 hx=>p.norm h e2 h2 χ a2 w2 g2 (hr.symm.trans hx),exit:=(fun _ _ _ _ _ _ _ hx=>by cases hx),ret:=(fun _ _ _ _ _ _ hx=>by cases hx)}⟩
 |exit i e1 h1=>
  rw[hb]at hr;simp only at hr;refine⟨_,rfl,(fun h=>by cases h),{go:=(fun _ h=>by cases h),norm:=fun _ _ _ _ _ _ _ hx=>(by cases hx),exit:=fun j e2 h2 χ a2 w2 g2 hx=>?_,ret:=fun _ _ _ _ _ _ hx=>(by cases hx)}⟩;cases hx;unfold ACc;cases hq:vO i id with
  |true=>
   rw[hq]at hr;simp only[Am.1 hq,if_true];exact p.norm rfl _ _ χ a2 w2 g2 hr.symm
  |false=>
   rw[hq]at hr;simp only[FA hq,if_false];exact p.exit i _ _ χ a2 w2 g2 hr.symm
 |ret e1 h1=>
  rw[hb]at hr;exact⟨_,rfl,(fun h=>by cases h),{go:=(fun _ h=>by cases h),norm:=(fun _ _ _ _ _ _ _ hx=>by cases hx),exit:=(fun _ _ _ _ _ _ _ hx=>by cases hx),ret:=fun e2 h2 χ a2 w2 g2 hx=>p.ret e2 h2 χ a2 w2 g2 (hr.symm.trans hx)}⟩
theorem D5(hT:Ck P ty)(hF:C2 P ty F)(hm:P.follows .mixedOrders=true):∀ (c:ABn) {σ:Sg} {k:Option (Sg→C)} {e:Env} {h:Hp} {X:X},Bo ty A c σ k F e h=X→X≠.no→CM N c=true→
  ∀ (φ:Phi) (w:vt) (a:Act),AEp A σ→ADX ty φ nil h w→AR N φ (ADq A σ e) a→∀ (Q:AC4→Act→vt→Prop),Post ty A N F φ h w k X Q→c.wp P Q a w
 |.skip,σ,k,e,h,X,hr,hn,hd=>by
  intro φ w a hS HW HA Q p;exact wp_skip (p.then ⟨hS,HW,HA,.refl _ _ _⟩ hr)
 |.region id ops draw,σ,k,e,h,X,hr,hn,hd=>by
  intro φ w a hS HW HA Q p;exact Wq hT hF hm hr hn hd hS HW HA p
 |.seq x y,σ,k,e,h,X,hr,hn,hd=>by
  intro φ w a hS HW HA Q p;have hd:(CM N x && CM N y)=true:=hd;rw[vT]at hd;have hr:Bo ty A x σ (some fun σ=>Bo ty A y σ k) F e h=X:=hr;refine wp_seq (D5 hT hF hm x hr hn hd.1 _ _ _ hS HW HA _ {go:=fun k' hk σ' e' h' ψ a' w' g hx=>?_,norm:=fun h=>(by cases h),exit:=p.exit,ret:=p.ret});cases hk;exact D5 hT hF hm y hx hn hd.2 _ _ _ g.sg g.rel g.ar _ {go:=fun k' hk σ2 e2 h2 χ a2 w2 g2 hx=>p.go k' hk σ2 e2 h2 χ a2 w2 (g.trans g2) hx,norm:=fun h e2 h2 χ a2 w2 g2 hx=>p.norm h e2 h2 χ a2 w2 (g.trans g2) hx,exit:=fun id e2 h2 χ a2 w2 g2 hx=>p.exit id e2 h2 χ a2 w2 (g.trans g2) hx,ret:=fun e2 h2 χ a2 w2 g2 hx=>p.ret e2 h2 χ a2 w2 (g.trans g2) hx}
 |.cond c x y,σ,k,e,h,X,hr,hn,hd=>by
  intro φ w a hS HW HA Q p;have hd:(CM N x && CM N y)=true:=hd;rw[vT]at hd;unfold Bo at hr;cases hc:cO ⟨A,σ⟩ c with
  |none=>rw[hc]at hr;exact absurd hr.symm hn
  |some cc=>
   rw[hc]at hr;simp only at hr;have ADy:=HA.ev (Fi hc e);have two:∀ {kx:Option (Sg→C)} {Y:Go.Proofs.YtedbmmfebjfibaaGreat.X},AY cc (Bo ty A x σ kx) (Bo ty A y σ kx) F e h=Y→Y≠.no→Post ty A N F φ h w kx Y Q→(Code.cond c x y).wp P Q a w:=by
    intro kx Y hr hn p;unfold AY at hr;cases hv:cc e with
    |bool t=>
     rw[hv]at hr ADy;have hev:=ADy.AEK;cases t with
     |true=>exact wp_cond_true hev (D5 hT hF hm x hr hn hd.1 _ _ _ hS HW HA _ p)
     |false=>exact wp_cond_false hev (D5 hT hF hm y hr hn hd.2 _ _ _ hS HW HA _ p)
    |_=>rw[hv]at hr;exact absurd hr.symm hn
   cases k with
   |none=>exact two hr hn p
   |some k'=>
    simp only at hr;cases hf:(Ki x && Ki y)with
    |false=>rw[hf]at hr;exact two hr hn p
    |true=>
     rw[hf]at hr;obtain⟨X1,h1,h2,p1⟩:=RS p hr hn;exact two h1 h2 p1
 |.block id x,σ,k,e,h,X,hr,hn,hd=>by
  intro φ w a hS HW HA Q p;have hd:CM N x=true:=hd;have one:∀ {Y:Go.Proofs.YtedbmmfebjfibaaGreat.X},Ad id (Bo ty A x [] none) F e h=Y→Y≠.no→Post ty A N F φ h w none Y Q→(Code.block id x).wp P Q a w:=by
   intro Y hr hn p;obtain⟨X1,h1,h2,p1⟩:=SJ p hr hn;exact wp_block (D5 hT hF hm x h1 h2 hd _ _ _ (.nil A) HW (HA.nil hS) _ p1)
  unfold Bo at hr;cases k with
  |none=>exact one hr hn p
  |some k'=>
   simp only at hr;obtain⟨X1,h1,h2,p1⟩:=RS p hr hn;exact one h1 h2 p1
 |.loop x,σ,k,e,h,X,hr,hn,hd=>by
  intro φ w a hS HW HA Q p;have hd:CM N x=true:=hd;have plain:iter (Bo ty A x [] none) rounds F e h=X→(ADG x).wp P Q a w:=by
   intro hr;refine wp_loop_rounds rounds (Ug hm (fun h1 h2 φ w a HW HA Q p=>D5 hT hF hm x h1 h2 hd _ _ _ (.nil A) HW HA _ p) rounds hr hn _ _ _ HW (HA.nil hS) _ {go:=fun _ h=>(by cases h),norm:=fun _ e2 h2 χ a2 w2 g2 hx=>?_,exit:=p.exit,ret:=p.ret})
   exfalso
   subst hx;have:∀ (n:Nat) (e:Env) (h:Hp),iter (Bo ty A x [] none) n F e h≠.norm e2 h2:=by
    intro n
    induction n with
    |zero=>intro e h hq;cases hq
    |succ n ih=>
     intro e h hq;unfold iter at hq;cases hb:Bo ty A x [] none F e h with
     |norm e1 h1=>rw[hb]at hq;exact ih e1 h1 hq
     |no=>rw[hb]at hq;cases hq
     |exit _ _ _=>rw[hb]at hq;cases hq
     |ret _ _=>rw[hb]at hq;cases hq
   exact this _ e h hr
  unfold Bo at hr;cases hw:VL A x with
  |none=>rw[hw]at hr;exact plain hr
  |some kw=>
   rw[hw]at hr;have hr:Iv kw (Bo ty A x [] none) F e h=X:=hr;obtain⟨id,o1,o2,r2,W⟩:=R0 hw;unfold Iv at hr;split at hr
   case h_2=>exact absurd hr.symm hn
   rename_i ad hit;split at hr
   case h_2=>exact plain hr
   rename_i m since seen last AFK;split at hr
   case h_2=>exact absurd hr.symm hn
   split at hr
   case h_2=>exact absurd hr.symm hn
   rename_i es c AFL;split at hr
   case h_2=>exact plain hr
   have hdd:CM N (.region id #[o1,o2] false)=true∧CM N (.seq (.cond (.tmp kw.more) .skip (.exit kw.out)) r2)=true:=by
    rw[W.code]at hd;have hd:(CM N (.region id #[o1,o2] false) && CM N (.seq (.cond (.tmp kw.more) .skip (.exit kw.out)) r2))=true:=hd;exact Bool.and_eq_true_iff.1 hd
   have hnm:kw.nx<N∧kw.more<N:=by
    have:=hdd.1;unfold CM at this;simp only[List.all_cons,List.all_nil,Bool.and_true,vT,W.AFk,W.AF1]at this;exact⟨A9.1 this.1,A9.1 this.2⟩
   have AJ5:AAU (AAo (.cond (.tmp kw.more) .skip (.exit kw.out)) r2)<AAU x:=by
    rw[W.code];simp;omega
   obtain⟨hoff,hr⟩:=qO hr hn;obtain⟨ADg,hr⟩:=qO hr hn;exact SU W hnm (fun h1 h2 φ w a HW HA Q p=>D5 hT hF hm (.seq (.cond (.tmp kw.more) .skip (.exit kw.out)) r2) h1 h2 hdd.2 _ _ _ (.nil A) HW HA _ p) hit hoff (Ab.1 ADg) hr hn HW (HA.nil hS) p.exit
 |.exit id,σ,k,e,h,X,hr,hn,hd=>by
  intro φ w a hS HW HA Q p;have hr:(.exit id e h:Go.Proofs.YtedbmmfebjfibaaGreat.X)=X:=hr;exact wp_exit (p.exit id e h φ a w ⟨.nil A,HW,HA.nil hS,.refl _ _ _⟩ hr.symm)
 |.ret,σ,k,e,h,X,hr,hn,hd=>by
  intro φ w a hS HW HA Q p;have hr:(.ret e h:Go.Proofs.YtedbmmfebjfibaaGreat.X)=X:=hr;exact wp_ret (p.ret e h φ a w ⟨.nil A,HW,HA.nil hS,.refl _ _ _⟩ hr.symm)
 |.rangeFunc _ _ _ _,_,_,_,_,X,hr,hn,_=>by exact absurd hr.symm hn
 |.scope x,σ,k,e,h,X,hr,hn,hd=>by
  intro φ w a hS HW HA Q p;have hd:CM N x=true:=hd;have hr:Bo ty A x σ k F e h=X:=hr;exact wp_scope_straight (D5 hT hF hm x hr hn hd _ _ _ hS HW HA _ {go:=p.go,norm:=p.norm,exit:=p.exit,ret:=p.ret})
 |.label _,σ,k,e,h,X,hr,hn,hd=>by
  intro φ w a hS HW HA Q p;exact wp_label (p.then ⟨hS,HW,HA,.refl _ _ _⟩ hr)
 |.goto _,_,_,_,_,X,hr,hn,_=>by exact absurd hr.symm hn
 |.refuse _,_,_,_,_,X,hr,hn,_=>by exact absurd hr.symm hn
termination_by c=>AAU c
decreasing_by
 all_goals simp_wf
 all_goals first|omega|(simp_all;omega)
end
end
noncomputable section
open Go
section
variable {P:wK}{ty:TTy}{A:List Nat}{N:Nat}{φ:Phi}{h h':Hp}{w:vt}{e:Env}{a:Act}{v:BY}
theorem Ns{t:Nat}(h:O0 A t=true)(e:Env):ADq A [] e t=some (AB t e):=by
 unfold O0 at h;rw[EG];show(match memN t A with|true=>none|false=>match wF t 160 with|true=>some (AB t e)|false=>none)=_;cases hm:memN t A with
 |true=>rw[hm]at h;cases h
 |false=>
  rw[hm]at h;have h:wF t 160=true:=h;simp only[h]
def RM(tmps:Array BY):AAt→Sem BY
 |.tmp t=>pure (tmps.getD t undef)
 |.cell a t=>do loadVar t (← asAddr (tmps.getD a undef))
theorem TJ(fn:Func)(tmps:Array BY):AB3 fn tmps=(do let vs ← fn.results.mapM (RM tmps);pure (if h:vs.size=1 then vs[0]else .tuple vs)):=by
 unfold AB3
 congr 2
theorem XK(f:AAt→Sem BY)(l:Array AAt){vs:List BY}(h:(l.toList.mapM f).run P w=.ok vs w):(l.mapM f).run P w=.ok ⟨vs⟩ w:=by
 have:l.mapM f=List.toArray <$> l.toList.mapM f:=by
  conv=>lhs;rw[← Array.toArray_toList (xs:=l)]
  rw[List.mapM_toArray]
 rw[this,map_eq_pure_bind,vE,h,IS,vF]
theorem Gi(hT:Ck P ty)(H:ADX ty φ nil h w)(HA:AR N φ (ADq A [] e) a):∀ {l:List AAt} {rs:List RV} {k:List BY→R},rsC ty A l=some rs→Go.Proofs.YtedbmmfebjfibaaGreat.results e h k rs=.ok v h'→
  ∃ vs vs',ADp φ vs vs'∧k vs=.ok v h'∧(l.mapM (RM a.tmps)).run P w=.ok vs' w
 |[],rs,k,hc,hr=>by
  cases hc;exact⟨[],[],.nil,hr,by simp⟩
 |.tmp t::l,rs,k,hc,hr=>by
  unfold rsC at hc;split at hc
  ·cases hc
  rename_i ht;split at hc
  case h_2=>cases hc
  rename_i r hrs;cases hc;unfold Go.Proofs.YtedbmmfebjfibaaGreat.results at hr;have hr:ADf (AB t e) (fun v=>Go.Proofs.YtedbmmfebjfibaaGreat.results e h (fun vs=>k (v::vs)) r)=.ok v h':=hr;rw[BC]at hr;obtain⟨vs,vs',h1,h2,h3⟩:=Gi hT H HA hrs hr;have h4:=HA.rel t _ (Ns ht e);exact⟨_,_,.cons h4 h1,h2,by simp[AAW,RM,h3]⟩
 |.cell c t::l,rs,k,hc,hr=>by
  unfold rsC at hc;split at hc
  ·cases hc
  rename_i ht;split at hc
  case h_2=>cases hc
  rename_i ti hti;split at hc
  case h_2=>cases hc
  rename_i r hrs;have T:=hT t ti hti;have h4:=HA.rel c _ (Ns ht e);cases hag:ti.k.agg with
  |true=>
   rw[hag]at hc;cases hc;unfold Go.Proofs.YtedbmmfebjfibaaGreat.results Gh at hr;simp only at hr;cases AF2:Dh (AB c e)with
   |no=>rw[AF2]at hr;cases hr
   |ok ad=>
    rw[AF2]at hr;simp only at hr;cases hl:loadN ti.size ad h with
    |no=>rw[hl]at hr;cases hr
    |ok u h2=>
     rw[hl]at hr;simp only[BC]at hr;rw[Hi AF2]at h4;obtain⟨a',ha',hra⟩:=h4.AEa;obtain⟨_,l',hv,hrun⟩:=Qd (P:=P) H hl hra (fun h=>h);obtain⟨vs,vs',h1,h5,h3⟩:=Gi hT H HA hrs hr;refine⟨_,_,.cons hv h1,h5,?_⟩;have:(RM a.tmps (.cell c t)).run P w=.ok (.agg l'.toArray) w:=by
      unfold RM;simp only[ha',asAddr,vE,vF,IS,loadVar,T.agg,hag,if_true,T.size,hrun]
     simp[AAW,this,h3]
  |false=>
   rw[hag]at hc;cases hc;unfold Go.Proofs.YtedbmmfebjfibaaGreat.results Gh at hr;simp only at hr;cases AF2:Dh (AB c e)with
   |no=>rw[AF2]at hr;cases hr
   |ok ad=>
    rw[AF2]at hr;simp only at hr;cases hl:ADW ad h with
    |no=>rw[hl]at hr;cases hr
    |ok u h2=>
     rw[hl]at hr;simp only[BC]at hr;rw[Hi AF2]at h4;obtain⟨a',ha',hra⟩:=h4.AEa;obtain⟨_,v',hcell,hv⟩:=Qc H hl hra (fun h=>h);obtain⟨vs,vs',h1,h5,h3⟩:=Gi hT H HA hrs hr;refine⟨_,_,.cons hv h1,h5,?_⟩;have:(RM a.tmps (.cell c t)).run P w=.ok v' w:=by
      unfold RM;simp only[ha',asAddr,vE,vF,IS,loadVar,T.agg,hag,vo,if_false,run_load,hcell]
     simp[AAW,this,h3]
theorem NP(hT:Ck P ty)(H:ADX ty φ nil h w)(HA:AR N φ (ADq A [] e) a){fn:Func}{rs:List RV}(hc:rsC ty A fn.results.toList=some rs)(hr:E0 rs e h=.ok v h'):
  h'=h∧∃ v',ADU φ v v'∧(AB3 fn a.tmps).run P w=.ok v' w:=by
 unfold E0 at hr;obtain⟨vs,vs',h1,h2,h3⟩:=Gi hT H HA hc hr;have hrun:=XK (P:=P) (w:=w) (RM a.tmps) fn.results h3;rw[TJ];simp only[vE,hrun,IS,vF];unfold LJ at h2;split at h2
 ·cases h2
  cases h1 with
  |cons hv ht=>cases ht;exact⟨rfl,_,hv,rfl⟩
 ·rename_i hne
  cases h2;refine⟨rfl,_,.tuple h1,?_⟩;have:vs'.length≠1:=by
   rw[h1.length];intro hl;cases vs with
   |nil=>cases hl
   |cons x l=>
    cases l with
    |nil=>exact hne x rfl
    |cons _ _=>simp at hl
  have hs:¬ (Array.mk vs').size=1:=this;rw[dif_neg hs]
theorem RU:∀ (args:List BY) (e:Env) (i t:Nat),i+args.length≤160→t<160→(AS e i args).get t=if i≤t∧t<i+args.length then args.getD (t - i) ADV else e.get t
 |[],e,i,t,_,_=>by
  rw[if_neg (by simp)];rfl
 |v::l,e,i,t,hn,ht=>by
  simp only[vI]at hn;unfold AS;rw[RU l _ (i+1) t (by omega) ht];by_cases h1:i+1≤t∧t<i+1+l.length
  ·rw[if_pos h1,if_pos (by simp only[vI];omega)]
   have:t - i=(t - (i+1))+1:=by omega
   rw[this,List.getD_cons_succ]
  ·rw[if_neg h1,Env.ADh _ _ _ _ (by omega) ht]
   by_cases h2:t=i
   ·subst h2
    rw[if_pos rfl,if_pos (by simp only[vI];omega)];simp
   ·rw[if_neg h2,if_neg (by simp only[vI];omega)]
set_option maxRecDepth 100000 in
theorem l8{t:Nat}(ht:t<160):e0.get t=ADV:=by
 have H:Lc (fun i=>e0.get i=ADV) 160:=by
  repeat' (first|exact trivial|refine⟨rfl,?_⟩)
 exact H.at t ht
theorem bU{args args':List BY}(hr:ADp φ args args')(hn:args.length≤160)(n:Nat):
  AR (max args.length n) φ (ADq A [] (AS e0 0 args)) {tmps:=(⟨args'⟩:Array BY)++Array.replicate (n - (⟨args'⟩:Array BY).size) undef,defers:=[]} where
 size:=by
  have:=hr.length;simp only[Array.size_append,Array.size_replicate,zl];omega
 defs:=rfl
 rel:=fun t u hu=>by
  rw[EG]at hu;have hu:(match memN t A with|true=>none|false=>match wF t 160 with|true=>some (AB t (AS e0 0 args))|false=>none)=some u:=hu;cases hm:memN t A with
  |true=>rw[hm]at hu;cases hu
  |false=>
   rw[hm]at hu;simp only at hu;cases hb:wF t 160 with
   |false=>rw[hb]at hu;cases hu
   |true=>
    rw[hb]at hu;cases hu;have ht:=A9.1 hb;rw[Cq t ht,RU args e0 0 t (by omega) ht,l8 ht];have hlen:=hr.length;simp only[Array.getD_eq_getD_getElem?];by_cases h1:t<args.length
    ·rw[if_pos (by omega),Nat.sub_zero,Array.getElem?_append_left (by simp only[zl];omega)]
     obtain⟨v',h2,h3⟩:=hr.get t args[t] (No h1);have:args.getD t ADV=args[t]:=by rw[List.getD_eq_getElem?_getD,No h1];rfl
     rw[this];have e2:(⟨args'⟩:Array BY)[t]? =some v':=by simpa using h2
     rw[e2];exact h3
    ·rw[if_neg (by omega),Array.getElem?_append_right (by simp only[zl];omega),Array.getElem?_replicate]
     split<;>exact .tuple .nil
theorem Ws{l:List AAt}{rs:List RV}(hc:rsC ty A l=some rs):TZ rs=none:=by
 cases l with
 |nil=>cases hc;rfl
 |cons x l=>
  cases x with
  |tmp t=>
   unfold rsC at hc;split at hc
   ·cases hc
   ·split at hc
    ·cases hc;rfl
    ·cases hc
  |cell c t=>
   unfold rsC at hc;split at hc
   ·cases hc
   ·split at hc
    ·split at hc
     ·split at hc
      ·cases hc;rfl
      ·cases hc;rfl
     ·cases hc
    ·cases hc
def oI(P:wK)(ty:TTy)(g:Nat)(b:Body):Prop:=∃ fn A,P.funcs[g]? =some fn∧fn.name≠"runtime.NumGoroutine" ∧A6 ty A fn=some b
def An:Body:=⟨[],cNo⟩
theorem DU{n m:Nat}(h:n≤m):∀ {c:ABn},CM n c=true→CM m c=true
 |.region _ ops _,hd=>by
  unfold CM at hd ⊢;rw[yN]at hd ⊢;intro o ho;have:=hd o ho;split at this
  ·have:=A9.1 this
   exact A9.2 (by omega)
  ·rfl
 |.seq a b,hd=>by
  have hd:(CM n a && CM n b)=true:=hd;rw[vT]at hd;show(CM m a && CM m b)=true;rw[DU h hd.1,DU h hd.2];rfl
 |.cond _ a b,hd=>by
  have hd:(CM n a && CM n b)=true:=hd;rw[vT]at hd;show(CM m a && CM m b)=true;rw[DU h hd.1,DU h hd.2];rfl
 |.block _ a,hd=>DU (c:=a) h hd
 |.loop a,hd=>DU (c:=a) h hd
 |.skip,_=>rfl
 |.exit _,_=>rfl
 |.ret,_=>rfl
 |.rangeFunc _ _ _ _,_=>rfl
 |.scope a,hd=>DU (c:=a) h hd
 |.label _,_=>rfl
 |.goto _,_=>rfl
 |.refuse _,_=>rfl
theorem Yf(hT:Ck P ty){F:ADS}(hF:C2 P ty F)(hm:P.follows .mixedOrders=true){g:Nat}{b:Body}(hb:oI P ty g b){args:List BY}(hr:enter F b args h=.ok v h'):
  (∃ fn,P.funcs[g]? =some fn∧fn.name≠"runtime.NumGoroutine" ∧fn.body.isNone=false)∧
  ∀ φ w args',ADp φ args args'→ADX ty φ nil h w→
   Calls P g ⟨args'⟩ w fun en w'=>∃ v' ψ,en=.returned v'∧ADU ψ v v'∧ADX ty ψ nil h' w'∧Evo φ h w ψ h' w':=by
 obtain⟨fn,A,hfn,hname,hbody⟩:=hb;unfold A6 at hbody;cases hc:fn.body with
 |none=>rw[hc]at hbody;cases hbody
 |some c=>
  rw[hc]at hbody;simp only at hbody;cases hrs:rsC ty A fn.results.toList with
  |none=>rw[hrs]at hbody;cases hbody
  |some rs=>
   rw[hrs]at hbody;simp only at hbody;cases hd:CM fn.ntmps c with
   |false=>rw[hd]at hbody;cases hbody
   |true=>
    rw[hd]at hbody;cases hbody;refine⟨⟨fn,hfn,hname,by rw[hc];rfl⟩,fun φ w args' ADy HW=>?_⟩;unfold enter at hr
    dsimp only at hr
    rw[Ws hrs]at hr;obtain⟨hlen,hr⟩:=Bk hr;have hlen:args.length≤160:=by rw[← BI];exact Ab.1 hlen
    have hAR:=bU (A:=A) ADy hlen fn.ntmps;refine calls_of_wp hfn hc ?_;have hn:Bo ty A c [] none F (AS e0 0 args) h≠.no:=by
     intro hx;rw[hx]at hr;cases hr
    refine D5 hT hF hm c (e:=AS e0 0 args) (h:=h) rfl hn (DU (zR _ _) hd) _ _ _ (.nil A) HW hAR _ {go:=fun _ h=>(by cases h),norm:=fun _ e1 h1 ψ a1 w1 g1 hx=>?_,exit:=fun id e1 h1 ψ a1 w1 g1 hx=>?_,ret:=fun e1 h1 ψ a1 w1 g1 hx=>?_}
    ·rw[hx]at hr
     obtain⟨rfl,v',hv,hrun⟩:=NP hT g1.rel g1.ar hrs hr;exact⟨g1.ar.defs,v',hrun,v',ψ,rfl,hv,g1.rel,g1.evo⟩
    ·rw[hx]at hr;cases hr
    ·rw[hx]at hr
     obtain⟨rfl,v',hv,hrun⟩:=NP hT g1.rel g1.ar hrs hr;exact⟨g1.ar.defs,v',hrun,v',ψ,rfl,hv,g1.rel,g1.evo⟩
def IK(P:wK)(ty:TTy)(g:Nat)(b:Body):Prop:=∀ (F:ADS) (args:List BY) (h:Hp) (v:BY) (h':Hp),C2 P ty F→enter F b args h=.ok v h'→
 (∃ fn,P.funcs[g]? =some fn∧fn.name≠"runtime.NumGoroutine" ∧fn.body.isNone=false)∧
 ∀ φ w args',ADp φ args args'→ADX ty φ nil h w→
  Calls P g ⟨args'⟩ w fun en w'=>∃ v' ψ,en=.returned v'∧ADU ψ v v'∧ADX ty ψ nil h' w'∧Evo φ h w ψ h' w'
def BX(P:wK)(ty:TTy)(g:Nat)(b:Body):Prop:=oI P ty g b∨b=An∨IK P ty g b
def FT.All(p:Nat→Body→Prop):FT→(Nat→Nat)→Prop
 |.mt,_=>True
 |.nd b l r,ix=>p (ix 0) b∧FT.All p l (fun k=>ix (2*k+1))∧FT.All p r (fun k=>ix (2*k+2))
theorem FT.All.get{p:Nat→Body→Prop}:∀ {t:FT} {ix:Nat→Nat},FT.All p t ix→∀ {i:Nat} {b:Body},t.get i=some b→p (ix i) b
 |.mt,ix,_,i,b,h=>by cases h
 |.nd c l r,ix,⟨h0,hl,hr⟩,0,b,h=>by cases h;exact h0
 |.nd c l r,ix,⟨h0,hl,hr⟩,k+1,b,h=>by
  unfold FT.get at h;have e1:Nat.mod k 2=k % 2:=rfl;have e2:Nat.div k 2=k / 2:=rfl;rw[e1,e2]at h;rcases Nat.mod_two_eq_zero_or_one k with hk|hk
  ·rw[hk]at h
   have:=hl.get (i:=k/2) h;have e:2*(k/2)+1=k+1:=by omega
   simp only[e]at this;exact this
  ·rw[hk]at h
   have:=hr.get (i:=k/2) h;have e:2*(k/2)+2=k+1:=by omega
   simp only[e]at this;exact this
theorem Iw(hT:Ck P ty)(hm:P.follows .mixedOrders=true){bs:FT}(hb:FT.All (BX P ty) bs id):∀ n,C2 P ty (call bs n)
 |0=>fun g args h v h' hr=>by cases hr
 |n+1=>fun g args h v h' hr=>by
  have hr:(match bs.get g with|some b=>enter (call bs n) b args h|none=>.no)=.ok v h':=hr;cases hg:bs.get g with
  |none=>rw[hg]at hr;cases hr
  |some b=>
   rw[hg]at hr;rcases hb.get hg with hok|rfl|hdo
   ·exact Yf hT (Iw hT hm hb n) hm hok hr
   ·exfalso
    have hr:(bif vJ (A8 args) 160 then A4 [] .no else .no)=.ok v h':=hr;obtain⟨_,hr⟩:=Bk hr;cases hr
   ·exact hdo _ args h v h' (Iw hT hm hb n) hr
end
end
noncomputable section
open Go Go.RowKit Go.WideShapes Go.ChangeShapes
def Zj:R→Bool
 |.ok (.bool b) _=>b
 |_=>false
def nL:Phi:=fun _=>none
theorem N6(ty:TTy)(w:vt):ADX ty nL nil II w where
 dom:=fun i p h=>by cases h
 inj:=fun i j p q h=>by cases h
 row:=fun i p h=>by cases h
 fresh:=fun i _=>J9 9 i
 kind:=fun i p c s e h=>by cases h
 inp:=fun i p h=>by cases h
theorem aJ{P:wK}{ty:TTy}{bs:FT}(hC:∀ n,C2 P ty (call bs n)){n f:Nat}(h:Zj (call bs n f [] II)=true)(w:vt):
  Calls P f #[] w fun e w'=>e=.returned (.bool true)∧Below w.heap.size w w':=by
 cases hr:call bs n f [] II with
 |no=>rw[hr]at h;cases h
 |ok v h'=>
  rw[hr]at h;obtain⟨_,hc⟩:=hC n f [] II v h' hr;refine(hc nL w [] .nil (N6 ty w)).mono fun e w' ⟨v',ψ,he,hv,_,ev⟩=>?_
  cases v with
  |bool b=>
   have h:b=true:=h;subst h;have:=hv.AEK;subst this;exact⟨he,⟨ev.os,ev.tape,ev.output,ev.size,fun k hk=>ev.frame k hk fun i p hp=>by cases hp⟩⟩
  |_=>cases h
section
variable {H:Type}{enc:TypeId×BY→H}{P:wK}
theorem NF{f:Func}{s:ChangeSpec}{apart fresh handsOn again:Bool}{W W':vt}{args:Array BY}{v:BY}{ds gs:List (DataW H)}{before pa pv:List MemPlace}
  (hW:DataW.Whole enc P f.params.toList s.vars apart W args.toList ds gs before)
  (hres:∀ (b:Nat) (sp:Nat→Bool) (hd:Bool),ACE enc P W' b sp hd f.resultTypes.toList (v.resultList f.resultTypes.size) (s.fn H (ds++gs)).results [])
  (hargs:∀ sp:Nat→Bool,(∀ p∈before,sp p.block=true)→ACE enc P W' 0 sp true f.params.toList args.toList (s.fn H (ds++gs)).args pa)
  (hvars:∀ sp:Nat→Bool,(∀ p∈before,sp p.block=true)→DataW.TrodVars enc P W' sp s.vars (s.fn H (ds++gs)).vars pv)
  (hps:before=pa++pv)(hb:Below W.heap.size W W')
  (hok:∀ (j:Nat) (t:TypeId) (r:BY),f.resultTypes[j]? =some t→(v.resultList f.resultTypes.size)[j]? =some r→Value.okWide P W' .any 0 t r):
  s.post enc P f apart fresh handsOn again W args v W':=by
 have hlt:∀ p∈before,p.block<W.heap.size:=fun p hp=>hW.lt p hp
 have hold:∀ p∈before,(fun b=>decide (b<W.heap.size)) p.block=true:=fun p hp=>by simpa using hlt p hp
 refine⟨ds,gs,before,[],pa,pv,hW,hres _ _ _,hargs _ hold,hvars _ hold,World.keptBut_mono (fun p hp=>⟨hp,?_⟩) (hb.frame (· ∈before)),fun _=>?_⟩
 ·rw[hps,va]at hp
  exact Or.inr hp
 ·obtain⟨_,_,_,_,_,hz,hn⟩:=hW
  refine⟨hok,_,_,([]++pa)++pv,⟨[]++pa,pv,trodAll_append (hargs _ (fun _ _=>rfl)) (hres _ _ _),hvars _ (fun _ _=>rfl),rfl,?_,?_⟩,?_⟩
  ·intro b off hp
   have hin:MemPlace.cell b off∈before:=by rw[hps];simpa using hp
   rw[hb.frozen (hlt _ hin)];exact hz b off hin
  ·intro ha
   have:=hn ha;rw[hps]at this
   simpa using this
  ·intro p hp _
   rw[hps]
   simpa using hp
end
end
noncomputable section
open Go
namespace VT
def has:VT→Nat→Prop
 |.mt,_=>False
 |.nd _ _ _,0=>True
 |.nd _ l r,k+1=>if k % 2=0 then l.has (k/2)else r.has (k/2)
theorem ADb(v:BY)(l r:VT)(k:Nat):(VT.nd v l r).has (k+1)=if k % 2=0 then l.has (k/2)else r.has (k/2):=by rw[has]
theorem FX:∀ (t:VT) (i:Nat) (x:BY),(∀ j,j<i→t.has j)→∃ t',t.set i x=some t'
 |.mt,0,x,_=>⟨_,rfl⟩
 |.mt,i+1,x,h=>(h 0 (AAk i)).elim
 |.nd v l r,0,x,_=>⟨_,rfl⟩
 |.nd v l r,k+1,x,h=>by
  rw[ADw];by_cases hk:k % 2=0
  ·rw[if_pos hk]
   obtain⟨l',hl⟩:=FX l (k/2) x fun j hj=>by
    have:=h (2*j+1) (by omega);rw[ADb,if_pos (by omega)]at this;have e:2*j/2=j:=by omega
    rwa [e]at this
   rw[hl];exact⟨_,rfl⟩
  ·rw[if_neg hk]
   obtain⟨r',hr⟩:=FX r (k/2) x fun j hj=>by
    have:=h (2*j+1+1) (by omega);rw[ADb,if_neg (by omega)]at this;have e:(2*j+1)/2=j:=by omega
    rwa [e]at this
   rw[hr];exact⟨_,rfl⟩
theorem Gk:∀ (t:VT) (i:Nat) (x:BY) (t':VT),t.set i x=some t'→∀ j,(j=i∨t.has j)→t'.has j
 |.mt,0,x,t',h,j,hj=>by
  obtain rfl:VT.nd x .mt .mt=t':=Option.some.inj h;rcases hj with rfl|hj
  ·exact trivial
  ·exact hj.elim
 |.mt,i+1,x,t',h,j,hj=>by cases h
 |.nd v l r,0,x,t',h,j,hj=>by
  obtain rfl:VT.nd x l r=t':=Option.some.inj h;cases j with
  |zero=>exact trivial
  |succ j=>
   rcases hj with hj|hj
   ·cases hj
   ·rw[ADb]at hj ⊢;exact hj
 |.nd v l r,i+1,x,t',h,j,hj=>by
  rw[ADw]at h;split at h
  ·rename_i h0
   cases hs:l.set (i/2) x with
   |none=>rw[hs]at h;cases h
   |some l'=>
    rw[hs]at h;obtain rfl:VT.nd v l' r=t':=Option.some.inj h;cases j with
    |zero=>exact trivial
    |succ j=>
     rw[ADb];split
     ·rename_i h1
      refine Gk l _ x l' hs _ ?_;rcases hj with hj|hj
      ·left;have:j=i:=by omega
       rw[this]
      ·right;rw[ADb,if_pos h1]at hj;exact hj
     ·rename_i h1
      rcases hj with hj|hj
      ·have:j=i:=by omega
       exact absurd (this ▸ h0) h1
      ·rw[ADb,if_neg h1]at hj;exact hj
  ·rename_i h0
   cases hs:r.set (i/2) x with
   |none=>rw[hs]at h;cases h
   |some r'=>
    rw[hs]at h;obtain rfl:VT.nd v l r'=t':=Option.some.inj h;cases j with
    |zero=>exact trivial
    |succ j=>
     rw[ADb];split
     ·rename_i h1
      rcases hj with hj|hj
      ·have:j=i:=by omega
       exact absurd (this ▸ h1) h0
      ·rw[ADb,if_pos h1]at hj;exact hj
     ·rename_i h1
      refine Gk r _ x r' hs _ ?_;rcases hj with hj|hj
      ·left;have:j=i:=by omega
       rw[this]
      ·right;rw[ADb,if_neg h1]at hj;exact hj
def lay(t:VT)(i:Nat)(x:BY):VT:=(t.set i x).getD t
theorem AD8{t:VT}{i:Nat}{x:BY}(h:∀ j,j<i→t.has j):t.set i x=some (t.lay i x):=by
 obtain⟨t',ht⟩:=FX t i x h;unfold lay;rw[ht];rfl
theorem AEV{t:VT}{i:Nat}{x:BY}(h:∀ j,j<i→t.has j)(j:Nat):(t.lay i x).get j=if j=i then x else t.get j:=ADh _ _ _ _ (AD8 h) j
theorem AEb{t:VT}{i:Nat}{x:BY}(h:∀ j,j<i→t.has j)(j:Nat)(hj:j=i∨t.has j):(t.lay i x).has j:=Gk _ _ _ _ (AD8 h) j hj
end VT
namespace BT
theorem ADb(v:Blk)(l r:BT)(k:Nat):(BT.nd v l r).has (k+1)=if k % 2=0 then l.has (k/2)else r.has (k/2):=by rw[has]
theorem FX:∀ (t:BT) (i:Nat) (x:Blk),(∀ j,j<i→t.has j)→∃ t',t.set i x=some t'
 |.mt,0,x,_=>⟨_,rfl⟩
 |.mt,i+1,x,h=>(h 0 (AAk i)).elim
 |.nd v l r,0,x,_=>⟨_,rfl⟩
 |.nd v l r,k+1,x,h=>by
  rw[ADw];by_cases hk:k % 2=0
  ·rw[if_pos hk]
   obtain⟨l',hl⟩:=FX l (k/2) x fun j hj=>by
    have:=h (2*j+1) (by omega);rw[ADb,if_pos (by omega)]at this;have e:2*j/2=j:=by omega
    rwa [e]at this
   rw[hl];exact⟨_,rfl⟩
  ·rw[if_neg hk]
   obtain⟨r',hr⟩:=FX r (k/2) x fun j hj=>by
    have:=h (2*j+1+1) (by omega);rw[ADb,if_neg (by omega)]at this;have e:(2*j+1)/2=j:=by omega
    rwa [e]at this
   rw[hr];exact⟨_,rfl⟩
theorem Gk:∀ (t:BT) (i:Nat) (x:Blk) (t':BT),t.set i x=some t'→∀ j,(j=i∨t.has j)→t'.has j
 |.mt,0,x,t',h,j,hj=>by
  obtain rfl:BT.nd x .mt .mt=t':=Option.some.inj h;rcases hj with rfl|hj
  ·exact trivial
  ·exact hj.elim
 |.mt,i+1,x,t',h,j,hj=>by cases h
 |.nd v l r,0,x,t',h,j,hj=>by
  obtain rfl:BT.nd x l r=t':=Option.some.inj h;cases j with
  |zero=>exact trivial
  |succ j=>
   rcases hj with hj|hj
   ·cases hj
   ·rw[ADb]at hj ⊢;exact hj
 |.nd v l r,i+1,x,t',h,j,hj=>by
  rw[ADw]at h;split at h
  ·rename_i h0
   cases hs:l.set (i/2) x with
   |none=>rw[hs]at h;cases h
   |some l'=>
    rw[hs]at h;obtain rfl:BT.nd v l' r=t':=Option.some.inj h;cases j with
    |zero=>exact trivial
    |succ j=>
     rw[ADb];split
     ·rename_i h1
      refine Gk l _ x l' hs _ ?_;rcases hj with hj|hj
      ·left;have:j=i:=by omega
       rw[this]
      ·right;rw[ADb,if_pos h1]at hj;exact hj
     ·rename_i h1
      rcases hj with hj|hj
      ·have:j=i:=by omega
       exact absurd (this ▸ h0) h1
      ·rw[ADb,if_neg h1]at hj;exact hj
  ·rename_i h0
   cases hs:r.set (i/2) x with
   |none=>rw[hs]at h;cases h
   |some r'=>
    rw[hs]at h;obtain rfl:BT.nd v l r'=t':=Option.some.inj h;cases j with
    |zero=>exact trivial
    |succ j=>
     rw[ADb];split
     ·rename_i h1
      rcases hj with hj|hj
      ·have:j=i:=by omega
       exact absurd (this ▸ h1) h0
      ·rw[ADb,if_pos h1]at hj;exact hj
     ·rename_i h1
      refine Gk r _ x r' hs _ ?_;rcases hj with hj|hj
      ·left;have:j=i:=by omega
       rw[this]
      ·right;rw[ADb,if_neg h1]at hj;exact hj
def lay(t:BT)(i:Nat)(x:Blk):BT:=(t.set i x).getD t
theorem AD8{t:BT}{i:Nat}{x:Blk}(h:∀ j,j<i→t.has j):t.set i x=some (t.lay i x):=by
 obtain⟨t',ht⟩:=FX t i x h;unfold lay;rw[ht];rfl
theorem AEV{t:BT}{i:Nat}{x:Blk}(h:∀ j,j<i→t.has j)(j:Nat):(t.lay i x).get j=if j=i then x else t.get j:=ADh _ _ _ _ (AD8 h) j
theorem AEb{t:BT}{i:Nat}{x:Blk}(h:∀ j,j<i→t.has j)(j:Nat)(hj:j=i∨t.has j):(t.lay i x).has j:=Gk _ _ _ _ (AD8 h) j hj
end BT
end
noncomputable section
open Go
section
variable {F:ADS}{e:Env}{h:Hp}{k a b:C}{f:OpF}{x y:O}
def opX(i:Nat)(r:R)(k:C)(F:ADS)(e:Env):X:=match r with
 |.ok v h=>k F (Env.set i v e) h
 |.no=>.no
def doX(r:R)(k:C)(F:ADS)(e:Env):X:=match r with
 |.ok _ h=>k F e h
 |.no=>.no
def Wt(x:X)(b:C)(F:ADS):X:=match x with
 |.norm e h=>b F e h
 |x=>x
def Js(id:Nat)(x:X):X:=match x with
 |.exit i e h=>bif vO i id then .norm e h else .exit i e h
 |x=>x
def Ts(v:BY)(a b:C)(F:ADS)(e:Env)(h:Hp):X:=match v with
 |.bool c=>(bif c then a else b) F e h
 |_=>.no
def aP(i:Nat)(k:C):C:=fun F e h=>k F (Env.set i ADV e) h
def IY(v:BY)(want:Bool)(a b:C)(F:ADS)(e:Env)(h:Hp):X:=match v with
 |.bool c=>(bif want == c then a else b) F e h
 |.tuple _=>b F e h
 |_=>.no
theorem Gc{i:Nat}{v:BY}:opX i (.ok v h) k F e=k F (Env.set i v e) h:=rfl
theorem YW{v:BY}:doX (.ok v h) k F e=k F e h:=rfl
theorem BA:Wt (.norm e h) b F=b F e h:=rfl
theorem CY:Wt (.ret e h) b F=.ret e h:=rfl
theorem N1{i:Nat}:Wt (.exit i e h) b F=.exit i e h:=rfl
theorem DR{i:Nat}:Js i (.norm e h)=.norm e h:=rfl
theorem B0{i:Nat}:Js i (.ret e h)=.ret e h:=rfl
theorem A2{i:Nat}:Js i (.exit i e h)=.norm e h:=by
 show(bif vO i i then _ else _)=_;rw[wz];rfl
theorem IR:Ts (.bool true) a b F e h=a F e h:=rfl
theorem HB:Ts (.bool false) a b F e h=b F e h:=rfl
theorem NX:IY (.bool true) true a b F e h=a F e h:=rfl
theorem NW:IY (.bool true) false a b F e h=b F e h:=rfl
theorem NV:IY (.bool false) true a b F e h=b F e h:=rfl
theorem NU:IY (.bool false) false a b F e h=a F e h:=rfl
theorem Kj{w:Bool}:IY ADV w a b F e h=b F e h:=rfl
theorem RW{i:Nat}:aP i k F e h=k F (Env.set i ADV e) h:=rfl
theorem F3{i:Nat}(hi:i<160):AG (AC i) f k F e h=opX i (f F e h) k F e:=by
 unfold AG opX;cases f F e h with
 |ok v h=>exact Dm i hi _ v e
 |no=>rfl
theorem XX:cDo f k F e h=doX (f F e h) k F e:=by
 unfold cDo doX;cases f F e h<;>rfl
theorem XY{g:O}{w:Bool}{i:Nat}(hi:i<160):cG g w (AC i) f k F e h=IY (g e) w (AG (AC i) f k) (aP i k) F e h:=by
 unfold cG IY aP;cases g e with
 |bool c=>
  simp only;cases w == c
  ·exact Dm i hi _ _ e
  ·rfl
 |tuple l=>exact Dm i hi _ _ e
 |_=>rfl
theorem BE:BK a b F e h=Wt (a F e h) b F:=by
 unfold BK Wt;cases a F e h<;>rfl
theorem Ax{i:Nat}:Ad i a F e h=Js i (a F e h):=by
 unfold Ad Js;cases a F e h<;>rfl
theorem It:AY x a b F e h=Ts (x e) a b F e h:=by
 unfold AY Ts;cases x e with
 |bool c=>cases c<;>rfl
 |_=>rfl
theorem Lm:Av F e h=.norm e h:=rfl
theorem Tl:As F e h=.ret e h:=rfl
theorem Pa{i:Nat}:CA i F e h=.exit i e h:=rfl
theorem AF{i j:Nat}{v:BY}(hi:i<160)(hj:j<160):AB j (Env.set i v e)=if j=i then v else AB j e:=by
 rw[Cq j hj,Env.ADh _ _ _ _ hi hj,Cq j hj]
theorem HN{v:BY}:kV v e=v:=rfl
theorem Az:vals e []=[]:=rfl
theorem AW{l:List O}:vals e (x::l)=x e::vals e l:=rfl
theorem Kx{i:Nat}:AS e i []=e:=rfl
theorem Jc{i:Nat}{v:BY}{l:List BY}:AS e i (v::l)=AS (Env.set i v e) (Nat.succ i) l:=rfl
theorem ED:AE x F e h=.ok (x e) h:=Et _ _
theorem Eg{j:vQ}{n:Int}:CW j (.int j n)=.ok n:=by cases j<;>rfl
theorem dz{j:vQ}{n:Nat}:Ff j (.int j (.ofNat n))=.ok n:=by cases j<;>rfl
theorem Hx{j:vQ}{n:Nat}:Ff j (.int j (n:Int))=.ok n:=dz
theorem Cu{j:vQ}{n:Nat}:Cz (.int j (n:Int))=.ok n:=rfl
theorem F7{c:Bool}:okB c h=.ok (.bool c) h:=by cases c<;>rfl
theorem HH(a b:Int):iGt a b=decide (b<a):=Cs b a
theorem Sh(a b:Int):iLe a b=decide (a≤b):=by
 show(!iLt b a)=_;rw[Cs,← decide_not]
 congr 1;simp
theorem Oa(a b:Int):iGe a b=decide (b≤a):=Sh b a
theorem HJ(a b:Int):iNe a b= !(a == b):=by
 show(!iEq a b)=_;rw[D9]
def lV(f:Int→Int→Bool)(j:vQ)(a b:BY)(h:Hp):R:=cF f (CW j a) (CW j b) h
def Fc(f:Int→Int→Int)(j:vQ)(a b:BY)(h:Hp):R:=iQ f j (CW j a) (CW j b) h
theorem AM{f:Int→Int→Bool}{j:vQ}:Ai f j x y F e h=lV f j (x e) (y e) h:=rfl
theorem Br{f:Int→Int→Int}{j:vQ}:Cj f j x y F e h=Fc f j (x e) (y e) h:=rfl
theorem AK{f:Int→Int→Bool}{j:vQ}{m n:Int}:lV f j (.int j m) (.int j n) h=.ok (.bool (f m n)) h:=by
 unfold lV;rw[Eg,Eg];exact F7
theorem CZ{f:Int→Int→Int}{j:vQ}{m n:Int}:Fc f j (.int j m) (.int j n) h=.ok (.int j (j.wrap (f m n))) h:=by
 unfold Fc;rw[Eg,Eg];show okI j (EH j (f m n)) h=_;rw[Ea,Cr]
def FH(j:vQ)(a b:BY)(h:Hp):R:=bP j (BB j) (CW j a) (CW j b) h
theorem BF{j:vQ}:CC j (BB j) x y F e h=FH j (x e) (y e) h:=rfl
theorem bG{j:vQ}{n:Nat}(hn:vJ n (BB j)=true):j.wrap (n:Int)=n:=by
 rw[← Cr];show yC (motive:=fun _=>Int) (j.wrap (.ofNat n)) (.ofNat n) (vJ n (BB j))=_;rw[hn];rfl
theorem Ee{j:vQ}{m n:Int}:FH j (.int j m) (.int j n) h=.ok (.int j (j.wrap (m+n))) h:=by
 unfold FH;rw[Eg,Eg];cases m with
 |negSucc m=>show okI j (EH j _) h=_;rw[Ea,Cr]
 |ofNat m=>
  cases n with
  |negSucc n=>show okI j (EH j _) h=_;rw[Ea,Cr]
  |ofNat n=>
   show yC (motive:=fun _=>R) (okI j (j.wrap (.ofNat m+.ofNat n)) h) (ADi (wg m n) fun n=>.ok (.int j (.ofNat n)) h) (vJ (wg m n) (BB j))=_;cases hb:vJ (wg m n) (BB j)with
   |false=>simp only;rw[Ea]
   |true=>
    simp only;rw[AZ];have:=bG hb;have e:(wC m+wC n:Int)=((wg m n:Nat):Int):=by
     show((m:Int)+(n:Int))=((m+n:Nat):Int);omega
    rw[e,this];rfl
def OR(j:vQ)(a b:BY)(h:Hp):R:=YV j (CW j a) (CW j b) h
def NG(j:vQ)(a b:BY)(h:Hp):R:=Z9 j (CW j a) (CW j b) h
theorem H3{j:vQ}:KL j x y F e h=OR j (x e) (y e) h:=rfl
theorem H4{j:vQ}:K8 j x y F e h=NG j (x e) (y e) h:=rfl
theorem I5{j:vQ}{m n:Int}(hn:n≠0):OR j (.int j m) (.int j n) h=.ok (.int j (j.wrap (m.tdiv n))) h:=by
 unfold OR;rw[Eg,Eg];show(bif iEq n 0 then R.no else okI j (EH j (m.tdiv n)) h)=_;rw[D9,Ea,Cr,beq_false_of_ne hn];rfl
theorem PB{j:vQ}{m n:Int}(hn:n≠0):NG j (.int j m) (.int j n) h=.ok (.int j (m.tmod n)) h:=by
 unfold NG;rw[Eg,Eg];show(bif iEq n 0 then R.no else okI j (m.tmod n) h)=_;rw[D9,Ea,beq_false_of_ne hn];rfl
def XS(f:Nat→Nat→Nat)(j:vQ)(a b:BY)(h:Hp):R:=XR f j (Ff j a) (Ff j b) h
theorem eL{f:Nat→Nat→Nat}{j:vQ}:KJ f j x y F e h=XS f j (x e) (y e) h:=rfl
theorem Ti{f:Nat→Nat→Nat}{j:vQ}{m n:Nat}(hm:m≤BB j)(hn:n≤BB j):XS f j (.int j (m:Int)) (.int j (n:Int)) h=.ok (.int j (f m n:Nat)) h:=by
 unfold XS;rw[Hx,Hx];show(bif vJ m (BB j)then(bif vJ n (BB j)then okI j (.ofNat (f m n)) h else R.no)else R.no)=_;rw[Ab.2 hm,Ab.2 hn,Ea];rfl
def gA(j:vQ)(a b:BY)(h:Hp):R:=aM j (Ff j a) (Cz b) h
def aO(j:vQ)(a b:BY)(h:Hp):R:=aN j (Ff j a) (Cz b) h
theorem Up{j:vQ}:NE j x y F e h=gA j (x e) (y e) h:=rfl
theorem Uq{j:vQ}:K9 j x y F e h=aO j (x e) (y e) h:=rfl
theorem gB{j q:vQ}{m n:Nat}:gA j (.int j (m:Int)) (.int q (n:Int)) h=.ok (.int j (j.wrap ((m*2 ^ min n j.bits:Nat):Int))) h:=by
 unfold gA;rw[Hx,Cu];show okI j (EH j (.ofNat (Nat.mul m (Nat.pow 2 (B4 n j.bits))))) h=_;rw[Ea,Cr,BJ];rfl
theorem U6{j q:vQ}{m n:Nat}:aO j (.int j (m:Int)) (.int q (n:Int)) h=.ok (.int j ((m/2 ^ min n j.bits:Nat):Int)) h:=by
 unfold aO;rw[Hx,Cu];show okI j (.ofNat (Nat.div m (Nat.pow 2 (B4 n j.bits)))) h=_;rw[Ea,BJ];rfl
def DH(j:vQ)(a:BY)(h:Hp):R:=match WA a with
 |.ok n=>okI j (EH j n) h
 |.no=>.no
theorem B8{j:vQ}:Cf j x F e h=DH j (x e) h:=rfl
theorem CU{j q:vQ}{n:Int}:DH j (.int q n) h=.ok (.int j (j.wrap n)) h:=by
 show okI j (EH j n) h=_;rw[Ea,Cr]
def qZ(a:BY)(h:Hp):R:=match a with
 |.bool b=>okB (!b) h
 |_=>.no
theorem Bj:Dq x F e h=qZ (x e) h:=rfl
theorem Bh{c:Bool}:qZ (.bool c) h=.ok (.bool (!c)) h:=F7
def Zx(c a b:BY)(h:Hp):R:=Zy c a b h
theorem Qw{c:O}:A0 c x y F e h=Zx (c e) (x e) (y e) h:=rfl
theorem Mj{v u:BY}:Zx (.bool true) v u h=.ok v h:=Et _ _
theorem Kq{v u:BY}:Zx (.bool false) v u h=.ok u h:=Et _ _
theorem BV{g:Nat}{l:List O}:AU g l F e h=F g (vals e l) h:=CQ _ _
theorem Ah{bs:FT}{n f:Nat}{b:Body}(hb:bs.get f=some b){args:List BY}:call bs (Nat.succ n) f args h=enter (call bs n) b args h:=by
 show(match bs.get f with|some b=>enter (call bs n) b args h|none=>.no)=_;rw[hb]
theorem AX{rs:List RV}{c:C}{args:List BY}(hl:vJ (A8 args) 160=true)(hx:TZ rs=none:=by rfl):enter F ⟨rs,c⟩ args h=A4 rs (c F (AS e0 0 args) h):=by
 unfold enter;rw[hx];show(bif vJ (A8 args) 160 then A4 rs (c F (AS e0 0 args) h)else .no)=_;rw[hl];rfl
theorem Be{rs:List RV}:A4 rs (.ret e h)=E0 rs e h:=rfl
theorem DX{rs:List RV}:A4 rs (.norm e h)=E0 rs e h:=rfl
theorem Pz{g:O}:E0 [.t g] e h=.ok (g e) h:=by
 show ADf (g e) _=_;rw[BC];rfl
theorem DB{g g':O}:E0 [.t g,.t g'] e h=.ok (.tuple ⟨[g e,g' e]⟩) h:=by
 show ADf (g e) (fun v=>ADf (g' e) _)=_;rw[BC,BC];rfl
theorem L7{g g' g'':O}:E0 [.t g,.t g',.t g''] e h=.ok (.tuple ⟨[g e,g' e,g'' e]⟩) h:=by
 show ADf (g e) (fun v=>ADf (g' e) (fun v=>ADf (g'' e) _))=_;rw[BC,BC,BC];rfl
def GC(i:Nat)(a:BY)(h:Hp):R:=match a with
 |.tuple vs=>match nth vs.toList i with
  |some v=>.ok v h
  |none=>.no
 |_=>.no
theorem BL{i:Nat}:Aj i x F e h=GC i (x e) h:=by
 show(match x e with|.tuple vs=>(match nth vs.toList i with|some v=>ADf v fun v=>.ok v h|none=>.no)|_=>.no)=_;unfold GC;cases x e with
 |tuple vs=>
  simp only;cases nth vs.toList i with
  |some v=>exact BC _ _
  |none=>rfl
 |_=>rfl
theorem BR{v:BY}{l:List BY}:GC 0 (.tuple ⟨v::l⟩) h=.ok v h:=rfl
theorem Ba{u v:BY}{l:List BY}:GC 1 (.tuple ⟨u::v::l⟩) h=.ok v h:=rfl
theorem C5{t u v:BY}{l:List BY}:GC 2 (.tuple ⟨t::u::v::l⟩) h=.ok v h:=rfl
end
end
end Go.Proofs.YtedbmmfebjfibaaGreat
