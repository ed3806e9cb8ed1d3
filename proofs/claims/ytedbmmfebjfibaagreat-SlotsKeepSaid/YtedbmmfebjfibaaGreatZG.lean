/-
  Part ZG of what Lawke stands on: printed by program, names and spaces cut.
-/
import Derived.Test.YtedbmmfebjfibaaGreatZF
import Derived.LoopN
import Derived.Scope
import Derived.Below
import Derived.ChangeSame
open Go renaming Value→IN,IntKind→wH,World→wb,MapEntry→xA,Program→xD,Oper→yv,ResultVar→ABd,Code→ACY,results→ACm,Exit→ADn
open Go.Result renaming andThen_ok→If
open List renaming getElem?_eq_getElem→sh,mem_cons_self→vp,mem_cons_of_mem→vr,length_cons→vw,mem_filter→vz,mem_cons→wA,mem_append_right→wI,mem_append→wK,mem_append_left→wU,all_eq_true→zM,size_toArray→AAa,mapM_cons→ABB
open Go.Sem renaming run_bind→vq,run_pure→vt
open Nat renaming ble→vx,beq→wB,blt→wz,add→xc,beq_refl→xu,le_of_eq→AAB,le_max_right→AAF,min_le_left→AAK,succ_pos→ABQ,le_max_left→ABo
open Bool renaming and_eq_true→wJ,false_eq_true→wW,rec→zD
open Int renaming ofNat→wj
open Array renaming ext'→xG,getElem?_setIfInBounds→yT,toList_filter→AAV
open Go.Instr renaming next→yH,extract→AAd
open Go.Question renaming forced→zg
open Go.Region renaming wanted→AAR
open Go.Oper renaming upon_value→AAw
open Go.Code renaming rounds→AA3,seq→ABW,region→ADa,loop→ADz
open SizeOf renaming sizeOf→AA8
open Go.DataW renaming TrodAll→ACx
open Go.Exit renaming inBlock→ADL
open Classical renaming choose→ADb,choose_spec→ADp
set_option linter.unusedSimpArgs false
set_option linter.unusedVariables false
namespace Go.Proofs.YtedbmmfebjfibaaGreat
noncomputable section
open Go
def Ag(S:List Nat)(e e':Env):Prop:=∀ t,t<160->t∉S->e'.get t=e.get t
theorem Ag.refl(S:List Nat)(e:Env):Ag S e e:=fun _ _ _=>rfl
theorem Ag.trans{S:List Nat}{e e1 e2:Env}(h:Ag S e e1)(h2:Ag S e1 e2):Ag S e e2:=fun t ht hn=>(h2 t ht hn).trans (h t ht hn)
def HG(S:List Nat)(e:Env):X->Prop
 |.no=>True
 |.norm e' _=>Ag S e e'
 |.exit _ e' _=>Ag S e e'
 |.ret e' _=>Ag S e e'
theorem HG.of{S:List Nat}{e e1:Env}{x:X}(h:Ag S e e1)(h2:HG S e1 x):HG S e x:=by
 cases x with
 |no=>trivial
 |norm _ _=>exact h.trans h2
 |exit _ _ _=>exact h.trans h2
 |ret _ _=>exact h.trans h2
def CD(S:List Nat)(c:C):Prop:=∀ F e h,HG S e (c F e h)
theorem PH{S:List Nat}{d:Nat}(hd:d∈S)(hl:d<160)(v:IN)(e:Env):Ag S e (Env.set d v e):=fun t ht hn=>by
 rw[Env.AES _ _ _ _ hl ht,if_neg (by rintro rfl;exact hn hd)]
theorem Qa{S:List Nat}:∀ (l:List Nat) (e:Env),(∀ d∈l,d∈S/\d<160)->Ag S e (Cu e l)
 |[],e,_=>.refl _ _
 |d::l,e,h=>(PH (h d vp).1 (h d vp).2 _ e).trans (Qa l _ fun d hd=>h d (vr _ hd))
section
variable {S:List Nat}
theorem Cf:CD S cNo:=fun _ _ _=>trivial
theorem UP:CD S An:=fun _ e _=>.refl _ e
theorem X6:CD S Ar:=fun _ e _=>.refl _ e
theorem UN(id:Nat):CD S (CA id):=fun _ e _=>.refl _ e
theorem RU{d:Nat}{f:OpF}{k:C}(hd:d∈S)(hl:d<160)(hk:CD S k):CD S (TZ (FI d) f k):=fun F e h=>by
 unfold TZ;cases f F e h with
 |no=>trivial
 |ok v h'=>
  show HG S e (FI d (fun e=>k F e h') v e);rw[Dx d hl];exact .of (PH hd hl v e) (hk F _ h')
theorem bE{f:OpF}{k:C}(hk:CD S k):CD S (cDo f k):=fun F e h=>by
 unfold cDo;cases f F e h with
 |no=>trivial
 |ok v h'=>exact hk F e h'
theorem gu{g:Env->IN}{w:Bool}{d:Nat}{f:OpF}{k:C}(hd:d∈S)(hl:d<160)(hk:CD S k):CD S (cG g w (FI d) f k):=fun F e h=>by
 have h0:HG S e (FI d (fun e=>k F e h) AEE e):=by
  rw[Dx d hl];exact .of (PH hd hl _ e) (hk F _ h)
 unfold cG;split
 ·rename_i b _
  cases (w == b)with
  |true=>exact RU hd hl hk F e h
  |false=>exact h0
 ·exact h0
 ·trivial
theorem Kq{w:Env->IN}{rs:List (Env->IN)}{k:C}(hk:CD S k):CD S (DI w rs k):=fun F e h=>by
 unfold DI;split
 ·rename_i b _
  cases DZ b e rs with
  |true=>exact hk F e h
  |false=>trivial
 ·exact hk F e h
theorem X5{x:O}{k:C}(hk:CD S k):CD S (FE x k):=fun F e h=>by
 unfold FE;split
 ·rename_i b _
  cases wz b h.mark with
  |true=>exact hk F e h
  |false=>trivial
 ·exact hk F e h
theorem UO{k:C}(hk:CD S k):CD S (CM k):=fun F e h=>hk F e _
theorem Oc{a b:C}(ha:CD S a)(hb:CD S b):CD S (BI a b):=fun F e h=>by
 have:=ha F e h;unfold BI;cases hx:a F e h with
 |no=>trivial
 |norm e1 h1=>rw[hx]at this;exact .of this (hb F e1 h1)
 |exit i e1 h1=>rw[hx]at this;exact this
 |ret e1 h1=>rw[hx]at this;exact this
theorem I6{c:O}{a b:C}(ha:CD S a)(hb:CD S b):CD S (Io c a b):=fun F e h=>by
 show HG S e (kO (c e) (a F e h) (b F e h));cases c e<;>first|trivial|skip
 rename_i t;cases t with
 |true=>exact ha F e h
 |false=>exact hb F e h
theorem LS{id:Nat}{a:C}(ha:CD S a):CD S (AY id a):=fun F e h=>by
 have:=ha F e h;unfold AY;cases hx:a F e h with
 |no=>trivial
 |norm e1 h1=>rw[hx]at this;exact this
 |exit i e1 h1=>
  rw[hx]at this;show HG S e (bif wB i id then .norm e1 h1 else .exit i e1 h1);cases wB i id<;>exact this
 |ret e1 h1=>rw[hx]at this;exact this
theorem M7{a:C}(ha:CD S a):∀ n,CD S (iter a n)
 |0=>fun _ _ _=>trivial
 |n+1=>fun F e h=>by
  have:=ha F e h;unfold iter;cases hx:a F e h with
  |no=>trivial
  |norm e1 h1=>rw[hx]at this;exact .of this (M7 ha n F e1 h1)
  |exit i e1 h1=>rw[hx]at this;exact this
  |ret e1 h1=>rw[hx]at this;exact this
theorem M8{a:C}(ha:CD S a):CD S (Aw a):=M7 ha rounds
theorem Ob{e:Env}{c:Bool}{x:X}(hx:HG S e x):HG S e (bif c then x else .no):=by
 cases c
 ·trivial
 ·exact hx
theorem UQ{k:Walk}{a:C}(hw:∀ d∈k.ws,d∈S/\d<160)(hm:k.more∈S/\k.more<160)(hr:∀ d∈k.rs,d∈S/\d<160)(ha:CD S a):CD S (JN k a):=fun F e h=>by
 have hl:=M8 ha F e h;have hcl:∀ b,HG S e (F3 k a F e h b):=fun b=>by
  unfold F3;split
  ·exact(Qa _ _ hw).trans (PH hm.1 hm.2 _ _)
  ·trivial
 unfold JN;cases J k.it e<;>first|trivial|skip
 rename_i o;cases o with
 |none=>trivial
 |some ad=>
  simp only;cases EN (h.bl.get ad.block)with
  |ok m since seen last=>
   cases m with
   |none=>exact hl
   |some m=>
    cases seen with
    |cons _ _=>trivial
    |nil=>
     simp only;cases BV h m with
     |no=>trivial
     |ok es c=>
      cases es with
      |nil=>exact hl
      |cons x l=>
       cases l with
       |nil=>exact hl
       |cons y l=>
        show HG S e (bif wB ad.off 0 then(bif vx 256 ad.block then F3 k a F e h ad.block else .no)else .no);exact Ob (Ob (hcl _))
  |_=>exact hl
end
theorem aQ{o:yv}{d:Nat}(hd:o.dst=some d):∀ (l:List yv),o∈l->d∈JV l:=by
 intro l
 induction l with
 |nil=>intro h;cases h
 |cons p l ih=>
  intro h;unfold JV;rcases wA.1 h with h|h
  ·rw[<- h,hd];exact vp
  ·have:=ih h
   split
   ·exact vr _ this
   ·exact this
theorem ES:∀ {c:ACY} {d:Nat},d∈JC c->d∈wrs c
 |.seq a b,d,h=>by
  have h0:d∈JC a++JC b->d∈wrs a++wrs b:=fun h=>by
   rcases wK.1 h with h|h
   ·exact wU _ (ES h)
   ·exact wI _ (ES h)
  unfold JC at h;split at h
  ·split at h
   ·exact wU _ h
   ·exact wU _ (ES h)
  ·exact h0 h
 |.cond _ a b,d,h=>by
  have h:d∈JC a++JC b:=h;rcases wK.1 h with h|h
  ·exact wU _ (ES h)
  ·exact wI _ (ES h)
 |.block _ a,d,h=>ES (c:=a) h
 |.loop a,d,h=>ES (c:=a) h
 |.scope a,d,h=>ES (c:=a) h
 |.region _ _ _,d,h=>by cases h
 |.skip,d,h=>by cases h
 |.exit _,d,h=>by cases h
 |.ret,d,h=>by cases h
 |.rangeFunc _ _ _ _,d,h=>by cases h
 |.label _,d,h=>by cases h
 |.goto _,d,h=>by cases h
 |.refuse _,d,h=>by cases h
theorem Vq:∀ {l:List Nat},gW l=true->∀ d∈l,d<160
 |d::l,h,x,hx=>by
  unfold gW at h;split at h
  ·rename_i hb
   rcases wA.1 hx with rfl|hx
   ·exact BD.1 hb
   ·exact Vq h x hx
  ·cases h
structure AFc (A:List Nat)(a:ACY)(k:Walk)(id:Nat)(o1 o2:yv)(r2:ACY):Prop where
 code:a=.seq (.region id #[o1,o2] false) (.seq (.cond (.tmp k.more) .skip (.exit k.out)) r2)
 op1:o1.op=.next (.tmp k.it) false
 AGX:o1.dst=some k.nx
 AH1:o1.guard=none
 op2:o2.op=.extract (.tmp k.nx) 0
 AGo:o2.dst=some k.more
 AH2:o2.guard=none
 ne:k.nx≠k.more
 itA:memN k.it A=false
 nxA:memN k.nx A=false
 moA:memN k.more A=false
 itL:k.it<160
 nxL:k.nx<160
 moL:k.more<160
 ws:k.ws=wrs a
 itW:k.it∉k.ws
 few:∀ d∈k.ws,d<160
 rs:∀ d∈k.rs,d∈k.ws
theorem NF{t:Nat}:∀ {l:List Nat},memN t l=false->t∉l
 |d::l,h,hm=>by
  unfold memN at h;split at h
  ·cases h
  ·rename_i hb
   rcases wA.1 hm with rfl|hm
   ·rw[xu]at hb;cases hb
   ·exact NF h hm
theorem jM{more out:Nat}{c:ACY}(h:uh more c=some out):∃ r2,c=.seq (.cond (.tmp more) .skip (.exit out)) r2:=by
 cases c with
 |seq a r=>cases a with
  |cond c x y=>cases c with
   |tmp t=>cases x with
    |skip=>cases y with
     |exit id=>
      have h:(match wB t more with|true=>some id|false=>none)=some out:=h;cases hb:wB t more with
      |false=>rw[hb]at h;cases h
      |true=>
       rw[hb]at h;cases h;have:=Am.1 hb;subst this;exact⟨r,rfl⟩
     |_=>cases h
    |_=>cases h
   |_=>cases h
  |_=>cases h
 |_=>cases h
theorem TT{A:List Nat}{a:ACY}{k:Walk}(h:XM A a=some k):∃ id o1 o2 r2,AFc A a k id o1 o2 r2:=by
 unfold XM at h;split at h
 case h_2=>cases h
 rename_i x rest;split at h
 case h_2=>cases h
 rename_i id ops draw;split at h
 case h_2=>cases h
 unfold XL at h;split at h
 case h_2=>cases h
 rename_i o1 l1 hl0;split at h
 case h_2=>cases h
 rename_i o2 l2;split at h
 case h_2=>cases h
 split at h
 case h_2=>cases h
 rename_i x str AJm;split at h
 case h_2=>cases h
 rename_i it;split at h
 case h_2=>cases h
 split at h
 case h_2=>cases h
 rename_i nx hd1 hg1;split at h
 case h_2=>cases h
 rename_i y i AJn;split at h
 case h_2=>cases h
 rename_i n2;split at h
 case h_2=>cases h
 rename_i more hd2 hg2;split at h
 case h_2=>cases h
 rename_i hb;split at h
 case h_2=>cases h
 rename_i out hout;cases h;simp only[wJ,Bool.not_eq_true']at hb;obtain⟨b1,b2,b3,b4,b5,b6,b7,b8,b9,b10,b11⟩:=hb;obtain⟨r2,rfl⟩:=jM hout;have e1:=Am.1 b1;have e2:=Am.1 b2;subst e1;subst e2;have AJo:ops= #[o1,o2]:=xG hl0;subst AJo;refine⟨id,o1,o2,r2,{code:=rfl,op1:=AJm,AGX:=hd1,AH1:=hg1,op2:=AJn,AGo:=hd2,AH2:=hg2,ne:=FO b3,itA:=b4,nxA:=b5,moA:=b6,itL:=BD.1 b7,nxL:=BD.1 b8,moL:=BD.1 b9,ws:=?_,itW:=NF b10,few:=?_,rs:=?_}⟩
 ·show _=JV [o1,o2]++_
  simp only[JV,hd1,hd2];rfl
 ·intro d hd
  rcases wA.1 hd with rfl|hd
  ·exact BD.1 b8
  ·rcases wA.1 hd with rfl|hd
   ·exact BD.1 b9
   ·exact Vq b11 d hd
 ·intro d hd
  exact vr _ (vr _ (ES hd))
section
variable {U:TTy}{A S:List Nat}
theorem Hq{f:Fr}{a:AEo}{o:OpF}{k:OpF->C}(hk:∀ p,CD S (k p)):CD S (HT f a o k):=by
 unfold HT;split
 ·exact hk _
 ·exact hk _
 ·split
  ·exact Kq (hk _)
  ·exact Cf
 ·split
  ·split
   ·exact X5 (Kq (hk _))
   ·exact Kq (hk _)
  ·exact Cf
theorem Ku{all:List yv}{k:Sg->C}(hk:∀ σ,CD S (k σ)):∀ (l:List yv) (ah:List AEo) (σ:Sg),(∀ o∈l,∀ d,o.dst=some d->d∈S)->CD S (Gy U A all k ah l σ)
 |[],ah,σ,_=>by unfold Gy;exact hk σ
 |o::l,ah,σ,h=>by
  have ih:∀ ah σ,CD S (Gy U A all k ah l σ):=fun ah σ=>Ku hk l ah σ fun o ho=>h o (vr _ ho)
  have hd:=h o vp;unfold Gy;split
  ·exact Hq fun p=>bE (ih _ _)
  ·rename_i d _ hdd
   split
   ·split
    ·split
     ·exact ih _ _
     ·exact Cf
    ·exact Cf
   ·split
    ·rename_i hb
     exact Hq fun p=>RU (hd d hdd) (BD.1 hb) (ih _ _)
    ·exact Cf
  ·rename_i d _ hdd
   split
   ·exact Cf
   ·split
    ·split
     ·split
      ·split
       ·rename_i hb
        exact Hq fun p=>gu (hd d hdd) (BD.1 hb) (ih _ _)
       ·exact Cf
      ·exact Cf
     ·exact Cf
    ·exact Cf
  ·exact Cf
theorem Gt{k:Option (Sg->C)}(hk:∀ k',k=some k'->∀ σ,CD S (k' σ))(σ:Sg):CD S (Lc k σ):=by
 cases k with
 |none=>exact UP
 |some k=>exact hk k rfl σ
theorem CP:∀ (c:ACY) {σ:Sg} {k:Option (Sg->C)},(∀ d∈wrs c,d∈S)->(∀ k',k=some k'->∀ σ,CD S (k' σ))->CD S (Bs U A c σ k)
 |.skip,σ,k,hw,hk=>Gt hk σ
 |.region _ ops draw,σ,k,hw,hk=>by
  have ho:∀ o∈ops.toList,∀ d,o.dst=some d->d∈S:=fun o ho d hd=>hw d (aQ hd _ ho)
  unfold Bs;split
  ·exact Ku (fun σ=>Gt hk σ) _ _ _ ho
  ·split
   ·exact UO (Ku (fun σ=>Gt hk σ) _ _ _ ho)
   ·exact Cf
 |.seq a b,σ,k,hw,hk=>by
  have h1:∀ d∈wrs a,d∈S:=fun d hd=>hw d (wU _ hd)
  have h2:∀ d∈wrs b,d∈S:=fun d hd=>hw d (wI _ hd)
  exact CP a (σ:=σ) (k:=some fun σ=>Bs U A b σ k) h1 fun k' e σ=>by cases e;exact CP b h2 hk
 |.cond c a b,σ,k,hw,hk=>by
  have h1:∀ d∈wrs a,d∈S:=fun d hd=>hw d (wU _ hd)
  have h2:∀ d∈wrs b,d∈S:=fun d hd=>hw d (wI _ hd)
  unfold Bs;split
  ·split
   ·exact I6 (CP a h1 fun _ e=>by cases e) (CP b h2 fun _ e=>by cases e)
   ·rename_i k'
    split
    ·exact Oc (I6 (CP a h1 fun _ e=>by cases e) (CP b h2 fun _ e=>by cases e)) (hk k' rfl [])
    ·exact I6 (CP a h1 hk) (CP b h2 hk)
  ·exact Cf
 |.block id a,σ,k,hw,hk=>by
  have h1:∀ d∈wrs a,d∈S:=hw;unfold Bs;split
  ·exact LS (CP a h1 fun _ e=>by cases e)
  ·rename_i k'
   exact Oc (LS (CP a h1 fun _ e=>by cases e)) (hk k' rfl [])
 |.loop a,σ,k,hw,hk=>by
  have h1:∀ d∈wrs a,d∈S:=hw;have h2:CD S (Bs U A a [] none):=CP a h1 fun _ e=>by cases e
  unfold Bs;split
  ·rename_i k hk
   obtain⟨id,o1,o2,r2,W⟩:=TT hk;have hm:∀ d∈k.ws,d∈S/\d<160:=fun d hd=>⟨h1 d (W.ws ▸ hd),W.few d hd⟩
   refine UQ hm (hm _ ?_) (fun d hd=>hm d (W.rs d hd)) h2;rw[W.ws,W.code];show _∈JV [o1,o2]++_;simp[JV,W.AGX,W.AGo]
  ·exact M8 h2
 |.exit id,σ,k,hw,hk=>UN id
 |.ret,σ,k,hw,hk=>X6
 |.scope a,σ,k,hw,hk=>CP a (σ:=σ) (k:=k) hw hk
 |.label _,σ,k,hw,hk=>Gt hk σ
 |.rangeFunc _ _ _ _,σ,k,hw,hk=>Cf
 |.goto _,σ,k,hw,hk=>Cf
 |.refuse _,σ,k,hw,hk=>Cf
end
structure Good (U:TTy)(A:List Nat)(N:Nat)(φ:Phi)(h:Hp)(w:wb)(σ:Sg)(e:Env)(h':Hp)(ψ:Phi)(a:Act)(w':wb):Prop where
 sg:AFa A σ
 rel:AEG U ψ nil h' w'
 ar:AR N ψ (AEY A σ e) a
 evo:Evo φ h w ψ h' w'
section
variable {P:xD}{U:TTy}{F:AEB}{A:List Nat}{N:Nat}
theorem jZ{σ:Sg}(hS:AFa A σ){e:Env}{t:Nat}{u:IN}(h:AEY A [] e t=some u):AEY A σ e t=some u:=by
 rw[ET]at h ⊢;have h:(match memN t A with|true=>none|false=>match wz t 160 with|true=>some (J t e)|false=>none)=some u:=h;cases hf:DU t σ with
 |some s=>
  have:=hS.mem _ (Ec hf);simp only at this;rw[this]at h;cases h
 |none=>exact h
theorem AR.nil{φ:Phi}{σ:Sg}{e:Env}{a:Act}(hS:AFa A σ)(h:AR N φ (AEY A σ e) a):AR N φ (AEY A [] e) a:=⟨h.size,h.defs,fun t u hu=>h.rel t u (jZ hS hu)⟩
theorem Good.nil{φ ψ:Phi}{h h':Hp}{w w':wb}{σ:Sg}{e:Env}{a:Act}(g:Good U A N φ h w σ e h' ψ a w'):Good U A N φ h w [] e h' ψ a w':=⟨.nil A,g.rel,g.ar.nil g.sg,g.evo⟩
theorem Good.trans{φ ψ χ:Phi}{h h' h2:Hp}{w w' w2:wb}{σ σ2:Sg}{e e2:Env}{a a2:Act}(g:Good U A N φ h w σ e h' ψ a w')(g2:Good U A N ψ h' w' σ2 e2 h2 χ a2 w2):Good U A N φ h w σ2 e2 h2 χ a2 w2:=
 ⟨g2.sg,g2.rel,g2.ar,g.evo.trans g2.evo⟩
structure Post (U:TTy)(A:List Nat)(N:Nat)(F:AEB)(φ:Phi)(h:Hp)(w:wb)(k:Option (Sg->C))(X:X)(Q:ADn->Act->wb->Prop):Prop where
 go:∀ k',k=some k'->∀ σ e h' ψ a' w',Good U A N φ h w σ e h' ψ a' w'->k' σ F e h'=X->Q .normal a' w'
 norm:k=none->∀ e h' ψ a' w',Good U A N φ h w [] e h' ψ a' w'->X=.norm e h'->Q .normal a' w'
 exit:∀ id e h' ψ a' w',Good U A N φ h w [] e h' ψ a' w'->X=.exit id e h'->Q (.exit id) a' w'
 ret:∀ e h' ψ a' w',Good U A N φ h w [] e h' ψ a' w'->X=.ret e h'->Q .ret a' w'
theorem Post.then{φ:Phi}{h:Hp}{w:wb}{k:Option (Sg->C)}{X:X}{Q:ADn->Act->wb->Prop}(p:Post U A N F φ h w k X Q){σ:Sg}{e:Env}{h':Hp}{ψ:Phi}{a':Act}{w':wb}(g:Good U A N φ h w σ e h' ψ a' w')(hx:Lc k σ F e h'=X):Q .normal a' w':=by
 cases k with
 |none=>exact p.norm rfl e h' ψ a' w' g.nil hx.symm
 |some k'=>exact p.go k' rfl σ e h' ψ a' w' g hx
theorem ba{w:wb}{pb mb clk:Nat}{seen:List Nat}{es:List xA}{t:TypeId}(hw:w.heap[pb]? =some (.mapIter (some mb) clk ⟨seen⟩ clk))(hm:w.heap[mb]? =some (.map ⟨es⟩ clk))(hb:∀ x∈es,x.born<clk):
  ((∀ x∈es,x.born∈seen)/\(yH (.pointer (some ⟨pb,0,none⟩)) false t).run P w=.ok (.tuple #[.bool false]) w)\/
  ∃ x∈es,x.born∉seen/\∃ w1:wb,w1.heap=w.heap/\w1.tape=w.tape/\w1.os=w.os/\w1.output=w.output/\
   (yH (.pointer (some ⟨pb,0,none⟩)) false t).run P w=.ok (.tuple #[.bool true,x.key,x.val]) {w1 with heap:=w1.heap.setIfInBounds pb (.mapIter (some mb) clk ⟨seen++[x.born]⟩ clk)}:=by
 have hstop:(!(⟨seen⟩:Array Nat).isEmpty && !(⟨es⟩:Array xA).isEmpty && (⟨es⟩:Array xA).all (fun e=>decide (e.born>=clk)))=false:=by
  cases es with
  |nil=>simp
  |cons x l=>
   have:=hb x vp;simp[Nat.not_le.2 this]
 generalize hl:es.filter (fun e=> !seen.contains e.born)=left;have hmem:∀ x∈left,x∈es/\x.born∉seen:=fun x hx=>by
  rw[<- hl,vz]at hx;exact⟨hx.1,by simpa using hx.2⟩
 have hlt:∀ x∈left,x.born<clk:=fun x hx=>hb x (hmem x hx).1
 have f1:(⟨es⟩:Array xA).filter (fun e=> !(⟨seen⟩:Array Nat).contains e.born)=⟨left⟩:=by
  rw[<- hl];apply xG;simp
 have f2:(⟨left⟩:Array xA).filter (fun e=>decide (e.born<clk))=⟨left⟩:=by
  apply xG;rw[AAV];exact List.filter_eq_self.2 fun x hx=>by simpa using hlt x hx
 have f3:(⟨left⟩:Array xA).filter (fun e=>decide (e.born>=clk))= #[]:=by
  apply xG;rw[AAV];exact List.filter_eq_nil_iff.2 fun x hx=>by simpa using hlt x hx
 cases hc:left with
 |nil=>
  left;refine⟨fun x hx=>?_,?_⟩
  ·by_cases hs:x.born∈seen
   ·exact hs
   ·have:x∈left:=by rw[<- hl,vz];exact⟨hx,by simpa using hs⟩
    rw[hc]at this;cases this
  ·subst hc
   simp only[yH,vq,B0 hw rfl,If,B0 hm rfl,hstop,wW,if_false,f1,f2,f3];simp[run_choose,zg]
 |cons y ys=>
  right;have hpos:0<left.length:=by rw[hc];simp
  have hne:(⟨left⟩:Array xA).isEmpty=false:=by rw[hc];simp
  have key:∀ (i:Nat) (hi:i<left.length) (w1:wb),(choose (.mapNext left.length)).run P w=.ok i w1->w1.heap=w.heap->
    (yH (.pointer (some ⟨pb,0,none⟩)) false t).run P w=.ok (.tuple #[.bool true,(left[i]).key,(left[i]).val]) {w1 with heap:=w1.heap.setIfInBounds pb (.mapIter (some mb) clk ⟨seen++[(left[i]).born]⟩ clk)}:=by
   intro i hi w1 hch hh;have AH3:((#[]:Array (Option xA))++((⟨left⟩:Array xA)++ #[]).map some)[i]? =some (some left[i]):=by
    simp[sh hi]
   have hsz:((#[]:Array (Option xA))++((⟨left⟩:Array xA)++ #[]).map some).size=left.length:=by simp
   have AEg:=D6 (P:=P) (w:=w1) (ob':=.mapIter (some mb) clk ⟨seen++[(left[i]).born]⟩ clk) (by rw[hh];exact hw) rfl;simp only[yH,vq,B0 hw rfl,If,B0 hm rfl,hstop,wW,if_false,f1,f2,f3,hne,hsz,hch,AH3];have AGf:(⟨seen⟩:Array Nat).push (left[i]).born=⟨seen++[(left[i]).born]⟩:=by apply xG;simp
   rw[AGf,AEg];simp
  have pick:∀ (i:Nat) (hi:i<left.length) (w1:wb),(choose (.mapNext left.length)).run P w=.ok i w1->w1.heap=w.heap->w1.tape=w.tape->w1.os=w.os->w1.output=w.output->
    ∃ x∈es,x.born∉seen/\∃ w1:wb,w1.heap=w.heap/\w1.tape=w.tape/\w1.os=w.os/\w1.output=w.output/\
     (yH (.pointer (some ⟨pb,0,none⟩)) false t).run P w=.ok (.tuple #[.bool true,x.key,x.val]) {w1 with heap:=w1.heap.setIfInBounds pb (.mapIter (some mb) clk ⟨seen++[x.born]⟩ clk)}:=by
   intro i hi w1 hch h1 h2 h3 h4;have:=hmem left[i] (List.getElem_mem hi);exact⟨left[i],this.1,this.2,w1,h1,h2,h3,h4,key i hi w1 hch h1⟩
  by_cases hf:left.length<=1
  ·exact pick 0 hpos w (by rw[run_choose];simp[zg,hf]) rfl rfl rfl rfl
  ·exact pick (w.tape w.drawn (.mapNext left.length) % left.length) (Nat.mod_lt _ hpos) {w with drawn:=w.drawn+1} (by rw[run_choose];simp[zg,hf,Question.cut]) rfl rfl rfl rfl
theorem KE{o:yv}(h:o.guard=none)(f:Nat->Option Bool):AAR o f=true:=by
 unfold AAR;rw[h]
theorem jX(a:Act)(d:Nat)(v:IN)(t:Nat):(a.put (some d) v).eval (.tmp t)=if d=t/\t<a.tmps.size then v else a.eval (.tmp t):=by
 show(a.put (some d) v).tmps.getD t undef=_;rw[H0];by_cases h:d=t
 ·subst h;simp[Act.eval]
 ·rw[if_neg (fun h2=>h (Option.some.inj h2.1)),if_neg (fun h2=>h h2.1)];rfl
theorem Yl{k:Walk}{a0:ACY}{id:Nat}{o1 o2:yv}{r2:ACY}(W:AFc A a0 k id o1 o2 r2){a:Act}{w:wb}{pb mb clk:Nat}{seen:List Nat}{es:List xA}
  (hit:a.eval (.tmp k.it)=.pointer (some ⟨pb,0,none⟩))(hnx:k.nx<a.tmps.size)(hw:w.heap[pb]? =some (.mapIter (some mb) clk ⟨seen⟩ clk))(hm:w.heap[mb]? =some (.map ⟨es⟩ clk))(hb:∀ x∈es,x.born<clk)
  {Q:ADn->Act->wb->Prop}(AH4:(∀ x∈es,x.born∈seen)->Q .normal ((a.put (some k.nx) (.tuple #[.bool false])).put (some k.more) (.bool false)) w)
  (hgo:∀ x∈es,x.born∉seen->∀ w1:wb,w1.heap=w.heap.setIfInBounds pb (.mapIter (some mb) clk ⟨seen++[x.born]⟩ clk)->w1.tape=w.tape->w1.os=w.os->w1.output=w.output->
   Q .normal ((a.put (some k.nx) (.tuple #[.bool true,x.key,x.val])).put (some k.more) (.bool true)) w1):
  (ADa id #[o1,o2] false).wp P Q a w:=by
 refine wp_region_list ?_;have hx1:execOp a.eval o1=(do pure (.value (<- yH (a.eval (.tmp k.it)) false o1.type))):=by unfold execOp;rw[W.op1]
 have two:∀ (c:Bool) (vs:Array IN) (w1:wb),Q .normal ((a.put (some k.nx) (.tuple (#[.bool c]++vs))).put (some k.more) (.bool c)) w1->wpList P #[o1,o2] Q [o2] (a.put (some k.nx) (.tuple (#[.bool c]++vs))) w1:=by
  intro c vs w1 hq;unfold wpList;rw[if_pos (KE W.AH2 _)];refine .inl ?_;have hx2:execOp (a.put (some k.nx) (.tuple (#[.bool c]++vs))).eval o2=(do pure (.value (<- AAd ((a.put (some k.nx) (.tuple (#[.bool c]++vs))).eval (.tmp k.nx)) 0))):=by unfold execOp;rw[W.op2]
  unfold Oper.wp;rw[hx2,jX,if_pos ⟨rfl,hnx⟩];have hex:(AAd (.tuple (#[.bool c]++vs)) 0).run P w1=.ok (.bool c) w1:=by
   have h0:(#[Value.bool c]++vs)[0]? =some (.bool c):=by simp[Array.getElem?_append]
   simp only[AAd,h0,vt]
  rw[vq,hex,If,vt,AAw,W.AGo];exact hq
 show wpList P #[o1,o2] Q [o1,o2] a w;rw[show wpList P #[o1,o2] Q [o1,o2] a w=(if AAR o1 (yielded #[o1,o2] a.tmps)then o1.wp P a w (wpList P #[o1,o2] Q [o2]) Q\/(o1.asks P a w/\LetsOut Q)else wpList P #[o1,o2] Q [o2] (a.put o1.dst undef) w)from rfl];rw[if_pos (KE W.AH1 _)];refine .inl ?_;unfold Oper.wp;rw[hx1,hit];rcases ba (P:=P) (t:=o1.type) hw hm hb with ⟨hall,hrun⟩|⟨x,hx,hns,w1,e1,e2,e3,e4,hrun⟩
 ·rw[vq,hrun,If,vt,AAw,W.AGX]
  exact two false #[] w (AH4 hall)
 ·rw[vq,hrun,If,vt,AAw,W.AGX]
  exact two true #[x.key,x.val] _ (hgo x hx hns _ (by rw[e1]) e2 e3 e4)
theorem JK{φ:Phi}{e:Env}{a:Act}:AR N φ (AEY A [] e) a↔a.tmps.size=N/\a.defers=[]/\∀ t,t<160->memN t A=false->AED φ (e.get t) (a.tmps.getD t undef):=by
 have hr:∀ t u,AEY A [] e t=some u↔(memN t A=false/\t<160/\e.get t=u):=fun t u=>by
  rw[ET];show(match memN t A with|true=>none|false=>match wz t 160 with|true=>some (J t e)|false=>none)=some u↔_;cases memN t A with
  |true=>simp
  |false=>
   cases hb:wz t 160 with
   |true=>
    have:=BD.1 hb;simp only[C0 t this,Option.some.injEq,true_and,this]
   |false=>
    have:¬ t<160:=fun h=>by rw[BD.2 h]at hb;cases hb
    simp[this]
 constructor
 ·exact fun h=>⟨h.size,h.defs,fun t ht hA=>h.rel t _ ((hr t _).2 ⟨hA,ht,rfl⟩)⟩
 ·exact fun⟨h1,h2,h3⟩=>⟨h1,h2,fun t u hu=>by obtain⟨q1,q2,rfl⟩:=(hr t u).1 hu;exact h3 t q2 q1⟩
theorem Iy:∀ (l:List Nat) (e:Env) (t:Nat),(∀ d∈l,d<160)->t<160->(Cu e l).get t=if t∈l then .chan none else e.get t
 |[],e,t,_,_=>by simp[Cu]
 |d::l,e,t,hl,ht=>by
  unfold Cu;rw[Iy l _ t (fun d hd=>hl d (vr _ hd)) ht,Env.AES _ _ _ _ (hl d vp) ht];by_cases h1:t∈l
  ·simp[h1]
  ·by_cases h2:t=d
   ·simp[h1,h2]
   ·simp[h1,h2]
theorem JD{clk:Nat}:∀ {es:List Ent} {lo:Nat},FN clk lo es=true->∀ x∈es,lo<=x.born/\x.born<clk
 |e::l,lo,h,x,hx=>by
  unfold FN at h;obtain⟨h1,h⟩:=Ey h;obtain⟨h2,h⟩:=Ey h;have h1:=Ac.1 h1;have h2:=BD.1 h2;rcases wA.1 hx with rfl|hx
  ·exact⟨h1,h2⟩
  ·have:=JD h x hx
   have h3:e.born+1<=x.born:=this.1;exact⟨by omega,this.2⟩
theorem QI{φ:Phi}:∀ {es:List Ent} {es':List xA} {x':xA},AE8 φ es es'->x'∈es'->∃ x∈es,x.born=x'.born
 |_,_,x',.cons (k:=k) (v:=v) (b:=b) hk hv t,hx=>by
  rcases wA.1 hx with rfl|hx
  ·exact⟨⟨k,v,b⟩,vp,rfl⟩
  ·obtain⟨x,h1,h2⟩:=QI t hx
   exact⟨x,vr _ h1,h2⟩
theorem Sp{φ:Phi}{clk:Nat}:∀ {es:List Ent} {es':List xA} {lo:Nat} {x':xA},AE8 φ es es'->FN clk lo es=true->x'∈es'->∃ x,GR x'.born es=some x/\AED φ x.key x'.key/\AED φ x.val x'.val
 |_,_,lo,x',.cons (k:=k) (v:=v) (b:=b) (l:=l) hk hv t,hr,hx=>by
  unfold GR;rcases wA.1 hx with rfl|hx
  ·rw[xu];exact⟨_,rfl,hk,hv⟩
  ·unfold FN at hr
   obtain⟨_,hr⟩:=Ey hr;obtain⟨_,hr⟩:=Ey hr;obtain⟨y,hy,he⟩:=QI t hx;have h3:b+1<=y.born:=(JD hr y hy).1;have hb:wB b x'.born=false:=by
    cases hb:wB b x'.born with
    |false=>rfl
    |true=>have:=Am.1 hb;omega
   rw[hb];exact Sp t hr hx
theorem eI{k:Walk}{a0:ACY}{id:Nat}{o1 o2:yv}{r2:ACY}(W:AFc A a0 k id o1 o2 r2):
  Bs U A a0 [] none=TZ (FI k.nx) (HO (J k.it)) (TZ (FI k.more) (Af 0 (J k.nx)) (Bs U A (.seq (.cond (.tmp k.more) .skip (.exit k.out)) r2) [] none)):=by
 have hA:∀ t,memN t A=false->t<160->cO ⟨A,[]⟩ (.tmp t)=some (J t):=fun t h1 h2=>by
  show(match QN A [] (.tmp t)with|some s=>some (Ln s)|none=>none)=_;show(match (match memN t A with|true=>none|false=>match wz t 160 with|true=>some (Src.s t)|false=>none)with|some s=>some (Ln s)|none=>none)=_;rw[h1,BD.2 h2];rfl
 rw[W.code];show Bs U A (.region id #[o1,o2] false) [] (some fun σ=>Bs U A (.seq (.cond (.tmp k.more) .skip (.exit k.out)) r2) σ none)=_;show Gy U A [o1,o2] (Lc (some fun σ=>Bs U A (.seq (.cond (.tmp k.more) .skip (.exit k.out)) r2) σ none)) [] [o1,o2] []=_;unfold Gy;rw[W.AH1,W.AGX];simp only[W.nxA,BD.2 W.nxL];unfold Gy;rw[W.AH2,W.AGo];simp only[W.moA,BD.2 W.moL];have e1:opC U ⟨A,[]⟩ o1.op=HO (J k.it):=by
  rw[W.op1];show w1 ⟨A,[]⟩ (.tmp k.it) (fun x=>HO x)=_;unfold w1;rw[hA _ W.itA W.itL]
 have e2:opC U ⟨A,F4 k.nx []⟩ o2.op=Af 0 (J k.nx):=by
  rw[W.op2];show w1 ⟨A,[]⟩ (.tmp k.nx) (fun t=>Af 0 t)=_;unfold w1;rw[hA _ W.nxA W.nxL]
 rw[e1,e2];rfl
theorem ZL{t:(Env->X)->IN->Env->X}{f:OpF}{k:C}{e:Env}{h h':Hp}{v:IN}(hf:f F e h=.ok v h'):TZ t f k F e h=t (fun e=>k F e h') v e:=by
 unfold TZ;rw[hf]
theorem nR{t:(Env->X)->IN->Env->X}{f:OpF}{k:C}{e:Env}{h:Hp}(hf:f F e h=.no):TZ t f k F e h=.no:=by
 unfold TZ;rw[hf]
theorem jT{k:Walk}{a0:ACY}{id:Nat}{o1 o2:yv}{r2:ACY}(W:AFc A a0 k id o1 o2 r2){e:Env}{h:Hp}{ad:Addr}{m s last c lo hi mk:Nat}{es:List Ent}{x:Ent}{bl:BT}{sn:Option (List Nat)}{Y:Go.Proofs.YtedbmmfebjfibaaGreat.X}
  (hit:J k.it e=.pointer (some ad))(hoff:wB ad.off 0=true)(hm:BV h m=.ok es c)(hmb:m≠ad.block)(hx:GR s es=some x)(hbl:h.bl.set ad.block (.pick m s last sn)=some bl)
  (hr:Bs U A a0 [] none F e {next:=h.next,low:=lo,high:=hi,mark:=mk,bl:=bl}=Y)(hn:Y≠.no):
  ∃ bl',bl.set ad.block (NY m s last sn)=some bl'/\
   Bs U A (.seq (.cond (.tmp k.more) .skip (.exit k.out)) r2) [] none F (Env.set k.more (.bool true) (Env.set k.nx (.tuple ⟨[.bool true,x.key,x.val]⟩) e)) {next:=h.next,low:=lo,high:=hi,mark:=mk,bl:=bl'}=Y:=by
 rw[eI W]at hr;have hb:bl.get ad.block=.pick m s last sn:=by rw[BT.AES _ _ _ _ hbl,if_pos rfl]
 have hme:BV ({next:=h.next,low:=lo,high:=hi,mark:=mk,bl:=bl}:Hp) m=.ok es c:=by
  show gS (bl.get m)=_;rw[BT.AES _ _ _ _ hbl,if_neg hmb];exact hm
 have hnx:HO (J k.it) F e {next:=h.next,low:=lo,high:=hi,mark:=mk,bl:=bl}=match bl.set ad.block (NY m s last sn)with
   |some bl'=>.ok (.tuple ⟨[.bool true,x.key,x.val]⟩) {next:=h.next,low:=lo,high:=hi,mark:=mk,bl:=bl'}
   |none=>.no:=by
  unfold HO;rw[hit];show(bif wB ad.off 0 then GY ad _ else .no)=_;rw[hoff];show GY ad _=_;unfold GY;simp only;rw[hb];show(match BV ({next:=h.next,low:=lo,high:=hi,mark:=mk,bl:=bl}:Hp) m with|.ok es _=>_|.no=>_)=_;rw[hme];simp only[hx];cases bl.set ad.block (NY m s last sn)<;>rfl
 cases hs:bl.set ad.block (NY m s last sn)with
 |none=>
  rw[hs]at hnx;rw[nR hnx]at hr;exact absurd hr.symm hn
 |some bl'=>
  refine⟨bl',rfl,?_⟩;rw[hs]at hnx;rw[<- hr];have hex:Af 0 (J k.nx) F (Env.set k.nx (.tuple ⟨[.bool true,x.key,x.val]⟩) e) {next:=h.next,low:=lo,high:=hi,mark:=mk,bl:=bl'}=.ok (.bool true) {next:=h.next,low:=lo,high:=hi,mark:=mk,bl:=bl'}:=by
   unfold Af;rw[C0 _ W.nxL,Env.AES _ _ _ _ W.nxL W.nxL,if_pos rfl];rfl
  symm
  rw[ZL hnx,Dx _ W.nxL,ZL hex,Dx _ W.moL]
structure Rd (A:List Nat)(N:Nat)(φ:Phi)(ws:List Nat)(e:Env)(w:wb)(pb qb c:Nat)(seen:List Nat)(ak:Act)(wk:wb):Prop where
 size:ak.tmps.size=N
 defs:ak.defers=[]
 slots:∀ t,t<160->memN t A=false->t∉ws->AED φ (e.get t) (ak.tmps.getD t undef)
 grow:w.heap.size<=wk.heap.size
 same:∀ j,j<w.heap.size->j≠pb->wk.heap[j]? =w.heap[j]?
 tape:wk.tape=w.tape
 os:wk.os=w.os
 output:wk.output=w.output
 iter:wk.heap[pb]? =some (.mapIter (some qb) c ⟨seen⟩ c)
theorem Sq{φ:Phi}:∀ {es:List Ent} {es':List xA} {x:Ent},AE8 φ es es'->x∈es->∃ x'∈es',x'.born=x.born
 |_,_,x,.cons (k':=k) (v':=v) (b:=b) hk hv t,hx=>by
  rcases wA.1 hx with rfl|hx
  ·exact⟨⟨k,v,b⟩,vp,rfl⟩
  ·obtain⟨x,h1,h2⟩:=Sq t hx
   exact⟨x,vr _ h1,h2⟩
theorem Kh{n:Nat}:∀ {es:List Ent} {x:Ent},GR n es=some x->x∈es/\x.born=n
 |y::l,x,h=>by
  unfold GR at h;cases hb:wB y.born n with
  |true=>rw[hb]at h;cases h;exact⟨vp,Am.1 hb⟩
  |false=>
   rw[hb]at h;obtain⟨h1,h2⟩:=Kh h;exact⟨vr _ h1,h2⟩
theorem uA{b:Bool}{Y X:Go.Proofs.YtedbmmfebjfibaaGreat.X}(h:(bif b then Y else .no)=X)(hn:X≠.no):b=true/\Y=X:=by
 cases b with
 |false=>exact absurd h.symm hn
 |true=>exact⟨rfl,h⟩
theorem Sw{seen:List Nat}:∀ {es:List Ent},(∀ x∈es,x.born∈seen)->AEl seen es=[]
 |[],_=>rfl
 |x::l,h=>by
  unfold AEl;rw[L1,show seen.contains x.born=true by simpa using h x vp];exact Sw fun y hy=>h y (vr _ hy)
theorem Nh{seen:List Nat}:∀ {es:List Ent} {x:Ent},x∈es->x.born∉seen->x∈AEl seen es
 |y::l,x,hx,hn=>by
  unfold AEl;rcases wA.1 hx with rfl|hx
  ·rw[L1,show seen.contains x.born=false by simpa using hn]
   exact vp
  ·have ih:=Nh hx hn
   cases Fv y.born seen with
   |true=>exact ih
   |false=>exact vr _ ih
theorem MP{f:Ent->Bool}:∀ {l:List Ent},Qb f l=true->∀ x∈l,f x=true
 |[],_,x,hx=>by cases hx
 |y::l,h,x,hx=>by
  obtain⟨h1,h2⟩:=Ey h;rcases wA.1 hx with rfl|hx
  ·exact h1
  ·exact MP h2 x hx
theorem AEG.one{φ:Phi}{h:Hp}{w w':wb}{b:Nat}{pb:Pl}{o:Blk}{bl:BT}(H:AEG U φ nil h w)(hpb:φ b=some pb)(hin:pb.inp=false)(AEy:Live h b)(hbl:∀ i,bl.get i=if i=b then o else h.bl.get i)
  (hs:w.heap.size<=w'.heap.size)(hsame:∀ j,j<w.heap.size->j≠pb.blk->w'.heap[j]? =w.heap[j]?)(hB:AFA U φ pb o w'.heap[pb.blk]?)(hoc:∀ cc s el,o≠.cells cc s el)(lo hi mk:Nat):
  AEG U φ nil {next:=h.next,low:=lo,high:=hi,mark:=mk,bl:=bl} w' where
 dom:=fun i p hp=>⟨(H.dom i p hp).1,Nat.lt_of_lt_of_le (H.dom i p hp).2 hs⟩
 inj:=fun i j p q hp hq _ _ hi hj hio hpq=>by
  have lv:∀ i,bl.get i≠.dead->Live h i:=fun i hi=>by
   by_cases hib:i=b
   ·rw[hib];exact AEy
   ·rw[hbl,if_neg hib]at hi;exact hi
  exact H.inj i j p q hp hq (fun h=>h) (fun h=>h) (lv i hi) (lv j hj) hio hpq
 row:=fun i p hp _=>by
  show AFA U φ p (bl.get i) _;rw[hbl];by_cases hib:i=b
  ·rw[if_pos hib]
   subst hib;rw[hpb]at hp;cases hp;exact hB
  ·rw[if_neg hib]
   by_cases hdd:h.bl.get i=.dead
   ·rw[hdd];exact .dead
   ·rw[hsame p.blk (H.dom i p hp).2 (fun hb=>hib (H.inj i b p pb hp hpb (fun h=>h) (fun h=>h) hdd AEy (.inr hin) hb))]
    exact H.row i p hp (fun h=>h)
 fresh:=fun i hi=>by
  have hi:h.next<=i:=hi;show bl.get i=_;have:=(H.dom _ _ hpb).1;rw[hbl,if_neg (by omega)];exact H.fresh i hi
 kind:=fun i p cc s el hp he=>by
  have he:bl.get i=.cells cc s el:=he;rw[hbl]at he;by_cases hib:i=b
  ·rw[if_pos hib]at he;exact absurd he (hoc _ _ _)
  ·rw[if_neg hib]at he;exact H.kind i p cc s el hp he
 inp:=H.inp
theorem Evo.one{φ:Phi}{h:Hp}{w w':wb}{b:Nat}{pb:Pl}{o:Blk}{bl:BT}(hpb:φ b=some pb)(hin:pb.inp=false)(AEy:Live h b)(hbl:∀ i,bl.get i=if i=b then o else h.bl.get i)
  (hs:w.heap.size<=w'.heap.size)(hsame:∀ j,j<w.heap.size->j≠pb.blk->w'.heap[j]? =w.heap[j]?)(ht:w'.tape=w.tape)(hos:w'.os=w.os)(hou:w'.output=w.output)(ho:AEW (h.bl.get b) o)(mk:Nat):
  Evo φ h w φ {next:=h.next,low:=B6 h.low b,high:=Cq h.high b,mark:=mk,bl:=bl} w' where
 le:=.refl φ
 new:=fun _ _ e=>.inl e
 next:=Nat.le_refl _
 size:=hs
 tape:=ht
 os:=hos
 output:=hou
 frame:=fun j hj hf=>hsame j hj fun hjp=>hf b pb hpb hin (by show B6 _ _<=_;rw[BM];exact Nat.min_le_right _ _) (by show _<=Cq _ _;rw[B4];exact AAF _ _) AEy hjp.symm
 back:=fun i p hp hl _=>by
  refine⟨i,p,hp,?_,rfl,rfl,.inl rfl⟩;by_cases hib:i=b
  ·rw[hib];exact AEy
  ·have hl:bl.get i≠.dead:=hl
   rw[hbl,if_neg hib]at hl;exact hl
 kept:=fun i _ hi=>by
  show bl.get i=_;have hi:i<B6 h.low b\/Cq h.high b<i:=hi;rw[BM,B4]at hi;rw[hbl,if_neg (by omega)]
 low:=by show B6 _ _<=_;rw[BM];exact AAK _ _
 high:=by show _<=Cq _ _;rw[B4];exact ABo _ _
 shape:=fun i _=>by
  show AEW _ (bl.get i);rw[hbl];by_cases hib:i=b
  ·rw[if_pos hib,hib];exact ho
  ·rw[if_neg hib];exact .refl _
 only:=fun i _ h0=>by
  show bl.get i=_;rw[hbl,if_neg (fun e=>by rw[e,hpb]at h0;cases h0)]
 all:=fun _ h1 h2=>absurd h2 (Nat.not_lt.2 h1)
theorem gU{k:Walk}{a0:ACY}{id:Nat}{o1 o2:yv}{r2:ACY}(W:AFc A a0 k id o1 o2 r2)(hd:k.nx<N/\k.more<N)
  (ih:∀ {e:Env} {h:Hp} {X:Go.Proofs.YtedbmmfebjfibaaGreat.X},Bs U A (.seq (.cond (.tmp k.more) .skip (.exit k.out)) r2) [] none F e h=X->X≠.no->∀ (φ:Phi) (w:wb) (a:Act),AEG U φ nil h w->AR N φ (AEY A [] e) a->∀ (Q:ADn->Act->wb->Prop),Post U A N F φ h w none X Q->(ABW (.cond (.tmp k.more) .skip (.exit k.out)) r2).wp P Q a w)
  {e:Env}{ad:Addr}(hit:J k.it e=.pointer (some ad))(hoff:wB ad.off 0=true)(AEO:256<=ad.block){φ0:Phi}{hr:Hp}{w0:wb}{a:Act}(AFd:∀ t,t<160->memN t A=false->AED φ0 (e.get t) (a.tmps.getD t undef))
  {fin:Hp->Rds->Bool}{Q:ADn->Act->wb->Prop}
  (AJp:∀ (hk:Hp) (tr:Rds) (φk:Phi) (wk:wb),AEG U φk nil hk wk->Evo φ0 hr w0 φk hk wk->(∃ pb,φk ad.block=some pb)->Live hk ad.block->fin hk tr=true->∀ ak:Act,ak.tmps.size=N->ak.defers=[]->
   (∀ t,t<160->memN t A=false->t∉k.ws->AED φ0 (e.get t) (ak.tmps.getD t undef))->ak.tmps.getD k.more undef=.bool false->Q (.exit k.out) ak wk):
  ∀ (n:Nat) (hk:Hp) (tr:Rds) (φk:Phi) (wk:wb) (ak:Act),AEG U φk nil hk wk->Evo φ0 hr w0 φk hk wk->ak.tmps.size=N->ak.defers=[]->
   (∀ t,t<160->memN t A=false->t∉k.ws->AED φ0 (e.get t) (ak.tmps.getD t undef))->LM k (Bs U A a0 [] none) F e ad.block fin n hk tr=true->AA3 P a0 Q n ak wk:=by
 intro n
 induction n with
 |zero=>intro hk tr φk wk ak _ _ _ _ _ hx;cases hx
 |succ n ihn=>
 intro hk tr φk wk ak H E hsz hdf hsl hx;unfold LM OT at hx;cases AF6:EN (hk.bl.get ad.block)with
 |no=>rw[AF6]at hx;cases hx
 |cur _ _ _=>rw[AF6]at hx;cases hx
 |pick _ _ _ _=>rw[AF6]at hx;cases hx
 |ok m' since seen last=>
 rw[AF6]at hx;cases m' with
 |none=>cases hx
 |some m=>
 simp only at hx;cases AF7:BV hk m with
 |no=>rw[AF7]at hx;cases hx
 |ok es c=>
 rw[AF7]at hx;simp only at hx;obtain⟨AG0,hx1⟩:=Ey hx;obtain⟨AIn,hx2⟩:=Ey hx1;obtain⟨hris,hx3⟩:=Ey hx2;clear hx hx1 hx2;have hcs:=Am.1 AG0;have hcl:=Am.1 AIn;clear AG0 AIn;subst hcs;subst hcl;have hx:=hx3;clear hx3;have hbi:=IP AF6;have AHH:=AFd k.it W.itL W.itA;rw[<- C0 k.it W.itL,hit]at AHH;obtain⟨ad',AJq,hra⟩:=AHH.AFI;obtain⟨pb,AHd,rfl⟩:=hra.eq;have hpb:=E.le _ _ AHd;have AH5:ad.off=0:=Am.1 hoff;have hrow:=H.row ad.block pb hpb (fun h=>h);rw[hbi]at hrow;obtain⟨q,hp0,hq,hwi⟩:∃ q,pb.off=0/\φk m=some q/\wk.heap[pb.blk]? =some (.mapIter (some q.blk) c ⟨seen⟩ c):=by
  generalize wk.heap[pb.blk]? =ob at hrow;cases hrow with
  |iter h1 h2=>exact⟨_,h1,h2,rfl⟩
 obtain⟨es',hwm,AEh⟩:=H.AFH hq (fun h=>h) AF7;have hmb:m≠ad.block:=fun h=>by
  have:=F5 AF7;rw[h,hbi]at this;cases this
 have hin:=H.AFE hpb AEO;have AEy:Live hk ad.block:=by unfold Live;rw[hbi];intro h;cases h
 have AJr:=(H.dom _ _ hpb).2;have AH6:∀ x∈es',x.born<c:=fun x hx=>by
  obtain⟨y,hy,he⟩:=QI AEh hx;rw[<- he];exact(JD hris y hy).2
 have hkeep:CD k.ws (Bs U A (.seq (.cond (.tmp k.more) .skip (.exit k.out)) r2) [] none):=CP _ (fun d hd=>by
  rw[W.ws,W.code];exact wI _ hd) (fun _ h=>by cases h)
 have AIo:k.nx∈k.ws:=by rw[W.ws,W.code];show _∈JV [o1,o2]++_;simp[JV,W.AGX,W.AGo]
 have AIp:k.more∈k.ws:=by rw[W.ws,W.code];show _∈JV [o1,o2]++_;simp[JV,W.AGX,W.AGo]
 have hcg:∀ t,t<160->(Cu e k.ws).get t=if t∈k.ws then .chan none else e.get t:=fun t ht=>Iy _ _ _ W.few ht
 have AFp:∀ {ψ:Phi} {v v' v'':IN},φ0.Le ψ->AED ψ v v'->AED φ0 v v''->AED φ0 v v':=fun {ψ v v' v''} hle h1 h2=>AED.cut (χ:=φ0) (fun b p hp ⟨q,hq⟩=>by
  have:=hle b q hq;rw[hp]at this;cases this;exact hq) h1 h2
 have AH7:ak.eval (.tmp k.it)=.pointer (some ⟨pb.blk,0,none⟩):=by
  have h1:=hsl k.it W.itL W.itA W.itW;rw[<- C0 k.it W.itL,hit]at h1;obtain⟨a2,ha2,hr2⟩:=h1.AFI;obtain⟨p2,hp2,rfl⟩:=hr2.eq;rw[AHd]at hp2;cases hp2;show ak.tmps.getD k.it undef=_;rw[ha2,hp0,AH5]
 have AHe:∀ (v1 v2:IN) (t:Nat),t<160->((ak.put (some k.nx) v1).put (some k.more) v2).tmps.getD t undef=if t=k.more then v2 else if t=k.nx then v1 else ak.tmps.getD t undef:=fun v1 v2 t ht=>by
  rw[H0,Fi,H0];by_cases h1:t=k.more
  ·rw[if_pos ⟨by rw[h1],by rw[h1,hsz];exact hd.2⟩,if_pos h1]
  ·rw[if_neg (fun h=>h1 (Option.some.inj h.1).symm),if_neg h1]
   by_cases h2:t=k.nx
   ·rw[if_pos ⟨by rw[h2],by rw[h2,hsz];exact hd.1⟩,if_pos h2]
   ·rw[if_neg (fun h=>h2 (Option.some.inj h.1).symm),if_neg h2]
 show a0.wp P (Exit.then (AA3 P a0 Q n) Q) ak wk;generalize hK:AA3 P a0 Q n=K;rw[W.code];refine wp_seq (Yl W (pb:=pb.blk) (mb:=q.blk) (clk:=c) (seen:=seen) (es:=es') AH7 (by rw[hsz];exact hd.1) hwi hwm AH6 (fun hall=>?_) (fun x' hx' hns w1 e1 e2' e3 e4=>?_))
 ·
  show(ABW (.cond (.tmp k.more) .skip (.exit k.out)) r2).wp P (Exit.then K Q) ((ak.put (some k.nx) (.tuple #[.bool false])).put (some k.more) (.bool false)) wk;refine wp_seq (wp_cond_false ?_ (wp_exit ?_))
  ·show((ak.put (some k.nx) (.tuple #[.bool false])).put (some k.more) (.bool false)).tmps.getD k.more undef=_
   rw[AHe _ _ _ W.moL,if_pos rfl]
  ·show Q (.exit k.out) ((ak.put (some k.nx) (.tuple #[.bool false])).put (some k.more) (.bool false)) wk
   rw[Sw (es:=es) fun x hx=>by
    obtain⟨x',hx',he⟩:=Sq AEh hx;rw[<- he];exact hall x' hx']at hx
   refine AJp hk tr φk wk H E ⟨_,hpb⟩ AEy hx _ (by rw[Fi,Fi];exact hsz) (by rw[Gd,Gd];exact hdf) (fun t ht hA hw=>?_) (by rw[AHe _ _ _ W.moL,if_pos rfl]);rw[AHe _ _ _ ht,if_neg (fun h:t=k.more=>hw (h ▸ AIp)),if_neg (fun h:t=k.nx=>hw (h ▸ AIo))];exact hsl t ht hA hw
 ·
  show(ABW (.cond (.tmp k.more) .skip (.exit k.out)) r2).wp P (Exit.then K Q) ((ak.put (some k.nx) (.tuple #[.bool true,x'.key,x'.val])).put (some k.more) (.bool true)) w1;obtain⟨x,hfx,hkr,hvr⟩:=Sp AEh hris hx';obtain⟨hxm,hxb⟩:=Kh hfx;have hmem:=Nh hxm (by rw[hxb];exact hns);generalize AFn:AEl seen es=rest at hx hmem;cases rest with
  |nil=>cases hmem
  |cons y l=>
  have hx:=MP hx x hmem;unfold O9 at hx;cases hbl:hk.bl.set ad.block (.pick m x.born c (some seen))with
  |none=>rw[hbl]at hx;cases hx
  |some bl=>
  rw[hbl]at hx;simp only at hx;have AJs:J k.it (Cu e k.ws)=.pointer (some ad):=by
   rw[C0 _ W.itL,hcg _ W.itL,if_neg W.itW,<- C0 _ W.itL];exact hit
  generalize hY:Bs U A a0 [] none F (Cu e k.ws) {next:=hk.next,low:=B6 hk.low ad.block,high:=Cq hk.high ad.block,mark:=hk.mark,bl:=bl}=Y at hx;cases Y with
  |no=>cases hx
  |exit _ _ _=>cases hx
  |ret _ _=>cases hx
  |norm e1' h1'=>
  simp only at hx;obtain⟨bl',AH8,hB⟩:=jT W (x:=x) (s:=x.born) AJs hoff AF7 hmb (by rw[hxb];exact hfx) hbl hY (fun h=>by cases h);have AH8:bl.set ad.block (.iter (some m) c (Jy x.born seen) c)=some bl':=AH8;have AIq:∀ i,bl'.get i=if i=ad.block then .iter (some m) c (Jy x.born seen) c else hk.bl.get i:=fun i=>by
   rw[BT.AES _ _ _ _ AH8,BT.AES _ _ _ _ hbl];split<;>rfl
  have AIr:w1.heap.size=wk.heap.size:=by rw[e1];simp
  have AJt:w1.heap[pb.blk]? =some (.mapIter (some q.blk) c ⟨seen++[x'.born]⟩ c):=by
   rw[e1,yT,if_pos rfl,if_pos AJr]
  have AIs:∀ j,j<wk.heap.size->j≠pb.blk->w1.heap[j]? =wk.heap[j]?:=fun j hj hjp=>by
   rw[e1,yT,if_neg (fun h=>hjp h.symm)]
  have HR:=H.one hpb hin AEy AIq (AAB AIr.symm) AIs (by rw[AJt,Nd,hxb];exact .iter hp0 hq) (fun _ _ _ h=>by cases h) (B6 hk.low ad.block) (Cq hk.high ad.block) hk.mark;have E1:=Evo.one (w':=w1) hpb hin AEy AIq (AAB AIr.symm) AIs e2' e3 e4 (by rw[hbi];exact .inr trivial) hk.mark;have HAR:AR N φk (AEY A [] (Env.set k.more (.bool true) (Env.set k.nx (.tuple ⟨[.bool true,x.key,x.val]⟩) (Cu e k.ws)))) ((ak.put (some k.nx) (.tuple #[.bool true,x'.key,x'.val])).put (some k.more) (.bool true)):=by
   refine JK.2 ⟨by rw[Fi,Fi];exact hsz,by rw[Gd,Gd];exact hdf,fun t ht hA=>?_⟩;rw[AHe _ _ _ ht,Env.AES _ _ _ _ W.moL ht,Env.AES _ _ _ _ W.nxL ht,hcg t ht];by_cases q1:t=k.more
   ·rw[if_pos q1,if_pos q1];exact .bool _
   ·rw[if_neg q1,if_neg q1]
    by_cases q2:t=k.nx
    ·rw[if_pos q2,if_pos q2];exact .tuple (.cons (.bool _) (.cons hkr (.cons hvr .nil)))
    ·rw[if_neg q2,if_neg q2]
     by_cases q3:t∈k.ws
     ·rw[if_pos q3];exact .unk
     ·rw[if_neg q3];exact(hsl t ht hA q3).mono E.le
  refine ih hB (fun h=>by cases h) φk w1 _ HR HAR _ {go:=(fun _ h=>by cases h),norm:=fun _ e2 h2 ψ a2 w2 g hx2=>?_,exit:=(fun i e2 h2 ψ a2 w2 g hx2=>by cases hx2),ret:=(fun e2 h2 ψ a2 w2 g hx2=>by cases hx2)};cases hx2;obtain⟨g1,g2,g3⟩:=JK.1 g.ar;have hag:=hkeep F (Env.set k.more (.bool true) (Env.set k.nx (.tuple ⟨[.bool true,x.key,x.val]⟩) (Cu e k.ws))) {next:=hk.next,low:=B6 hk.low ad.block,high:=Cq hk.high ad.block,mark:=hk.mark,bl:=bl'};rw[hB]at hag;have hag:Ag k.ws (Env.set k.more (.bool true) (Env.set k.nx (.tuple ⟨[.bool true,x.key,x.val]⟩) (Cu e k.ws))) e1':=hag;have E2:=(E.trans E1).trans g.evo;show K a2 w2;rw[<- hK];refine ihn h1' _ ψ w2 a2 g.rel E2 g1 g2 (fun t ht hA hw=>?_) hx;have q1:=g3 t ht hA;rw[hag t ht hw,Env.AES _ _ _ _ W.moL ht,if_neg (fun h:t=k.more=>hw (h ▸ AIp)),Env.AES _ _ _ _ W.nxL ht,if_neg (fun h:t=k.nx=>hw (h ▸ AIo)),hcg t ht,if_neg hw]at q1;exact AFp E2.le q1 (AFd t ht hA)
theorem gR{b n0:Nat}{r h1:Hp}{tr:Rds}:Xp b n0 r h1 tr=true↔aS b n0 r h1:=by
 unfold Xp;split
 ·rename_i h _;exact⟨fun _=>h,fun _=>rfl⟩
 ·rename_i h _;exact⟨fun e=>(by cases e),fun e=>absurd e h⟩
theorem AEG.AH9{φ:Phi}{h:Hp}{w:wb}{bl:BT}{b n0:Nat}(H:AEG U φ nil h w)(hbl:∀ i,bl.get i=if i=b\/n0<=i then .dead else h.bl.get i)(lo hi mk:Nat):
  AEG U φ nil {next:=h.next,low:=lo,high:=hi,mark:=mk,bl:=bl} w where
 dom:=H.dom
 inj:=fun i j p q hp hq _ _ hi hj hio hpq=>by
  have lv:∀ i,bl.get i≠.dead->Live h i:=fun i hi=>by
   rw[hbl]at hi;split at hi
   ·exact absurd rfl hi
   ·exact hi
  exact H.inj i j p q hp hq (fun h=>h) (fun h=>h) (lv i hi) (lv j hj) hio hpq
 row:=fun i p hp _=>by
  show AFA U φ p (bl.get i) _;rw[hbl];split
  ·exact .dead
  ·exact H.row i p hp (fun h=>h)
 fresh:=fun i hi=>by
  have hi:h.next<=i:=hi;show bl.get i=_;rw[hbl];split
  ·rfl
  ·exact H.fresh i hi
 kind:=fun i p cc s el hp he=>by
  have he:bl.get i=.cells cc s el:=he;rw[hbl]at he;split at he
  ·cases he
  ·exact H.kind i p cc s el hp he
 inp:=H.inp
theorem Evo.join{φ ψ:Phi}{h r hk:Hp}{w wk:wb}{b:Nat}{pb:Pl}(E:Evo φ {next:=h.next,low:=h.next,high:=0,mark:=h.mark,bl:=h.bl} w ψ hk wk)(hpb:φ b=some pb)
  (q1:hk.next=r.next)(q2:r.low<=B6 hk.low b)(q3:Cq hk.high b<=r.high)(q4:∀ i,r.bl.get i=if i=b\/h.next<=i then .dead else hk.bl.get i):Evo φ h w ψ (kS h r) wk where
 le:=E.le
 new:=E.new
 next:=by
  have h1:h.next<=hk.next:=E.next;show h.next<=r.next;omega
 size:=E.size
 tape:=E.tape
 os:=E.os
 output:=E.output
 frame:=fun k hk' hf=>E.frame k hk' fun i p e hn hl hg hv=>hf i p e hn (by
  rw[BM]at q2;show B6 h.low r.low<=i;rw[BM];omega) (by
  rw[B4]at q3;show i<=Cq h.high r.high;rw[B4];omega) hv
 back:=fun i p e hl hp=>by
  have hl:r.bl.get i≠.dead:=hl;rw[q4]at hl;split at hl
  ·exact absurd rfl hl
  obtain⟨j,q,a1,a2,a3,a4,a5⟩:=E.back i p e hl hp;refine⟨j,q,a1,a2,a3,a4,?_⟩;rw[BM]at q2;rw[B4]at q3;rcases a5 with a5|⟨a5,a6⟩
  ·exact .inl a5
  ·refine .inr ⟨?_,?_⟩
   ·show B6 h.low r.low<=j
    rw[BM];omega
   ·show j<=Cq h.high r.high
    rw[B4];omega
 kept:=fun i hi hor=>by
  have hor:i<B6 h.low r.low\/Cq h.high r.high<i:=hor;rw[BM,B4]at hor;rw[BM]at q2;rw[B4]at q3;show r.bl.get i=_;rw[q4,if_neg (by omega)];exact E.kept i hi (by omega)
 low:=by show B6 _ _<=_;rw[BM];exact AAK _ _
 high:=by show _<=Cq _ _;rw[B4];exact ABo _ _
 shape:=fun i hi=>by
  show AEW _ (r.bl.get i);rw[q4];split
  ·exact .inl rfl
  ·exact E.shape i hi
 only:=fun i hi h0=>by
  show r.bl.get i=_;rw[q4,if_neg (by
   rintro (h1|h1)
   ·rw[h1,hpb]at h0;cases h0
   ·omega)]
  exact E.only i hi h0
 all:=fun i h1 h2=>E.all i h1 (by
  have h2:i<r.next:=h2;show i<hk.next;omega)
theorem Tv{k:Walk}{a0:ACY}{id:Nat}{o1 o2:yv}{r2:ACY}(W:AFc A a0 k id o1 o2 r2)(hd:k.nx<N/\k.more<N)
  (ih:∀ {e:Env} {h:Hp} {X:Go.Proofs.YtedbmmfebjfibaaGreat.X},Bs U A (.seq (.cond (.tmp k.more) .skip (.exit k.out)) r2) [] none F e h=X->X≠.no->∀ (φ:Phi) (w:wb) (a:Act),AEG U φ nil h w->AR N φ (AEY A [] e) a->∀ (Q:ADn->Act->wb->Prop),Post U A N F φ h w none X Q->(ABW (.cond (.tmp k.more) .skip (.exit k.out)) r2).wp P Q a w)
  {e:Env}{h:Hp}{X:Go.Proofs.YtedbmmfebjfibaaGreat.X}{ad:Addr}(hit:J k.it e=.pointer (some ad))(hoff:wB ad.off 0=true)(AEO:256<=ad.block)
  (hr:F3 k (Bs U A a0 [] none) F e h ad.block=X)(hn:X≠.no){φ:Phi}{w:wb}{a:Act}(H:AEG U φ nil h w)(HA:AR N φ (AEY A [] e) a){Q:ADn->Act->wb->Prop}
  (pe:∀ id e h' ψ a' w',Good U A N φ h w [] e h' ψ a' w'->X=.exit id e h'->Q (.exit id) a' w'):
  (ADz a0).wp P Q a w:=by
 unfold F3 at hr;split at hr
 case h_2=>exact absurd hr.symm hn
 rename_i hx _;obtain⟨AIA,AHI⟩:=ADp hx;generalize ADb hx=r at hr AIA AHI;obtain⟨hsz,hdf,AFd⟩:=JK.1 HA;have hcg:∀ t,t<160->(Cu e k.ws).get t=if t∈k.ws then .chan none else e.get t:=fun t ht=>Iy _ _ _ W.few ht
 refine wp_loop_rounds 64 (gU W hd ih hit hoff AEO (φ0:=φ) (w0:=w) AFd (fun hk tr φk wk Hk Ek ⟨pb',AKp⟩ AEy hf ak s1 s2 s3 s4=>?_) 64 {next:=h.next,low:=h.next,high:=0,mark:=h.mark,bl:=h.bl} [] φ w a (H.AFh rfl rfl) (.refl _ _ _) hsz hdf (fun t ht hA _=>AFd t ht hA) AHI);obtain⟨q1,q2,q3,hbg⟩:=gR.1 hf;have HK:=Hk.AH9 hbg (B6 h.low r.low) (Cq h.high r.high) h.mark;have AHH:=AFd k.it W.itL W.itA;rw[<- C0 k.it W.itL,hit]at AHH;obtain⟨ad',AJq,hra⟩:=AHH.AFI;obtain⟨pb,AHd,rfl⟩:=hra.eq;have ER:=Ek.join AHd q1 (AAB q2) (AAB q3.symm) hbg;rw[q1]at HK;refine pe k.out _ _ φk ak wk ⟨.nil A,HK,JK.2 ⟨s1,s2,fun t ht hA=>?_⟩,ER⟩ hr.symm;rw[Env.AES _ _ _ _ W.moL ht,hcg t ht];by_cases q1:t=k.more
 ·rw[if_pos q1,q1,s4];exact .bool _
 ·rw[if_neg q1]
  by_cases q2:t∈k.ws
  ·rw[if_pos q2];exact .unk
  ·rw[if_neg q2];exact(s3 t ht hA q2).mono ER.le
end
end
noncomputable section
open Go
section
variable {P:xD}{U:TTy}{F:AEB}{A:List Nat}{N:Nat}
theorem Evo.AHJ{φ ψ:Phi}{h g h':Hp}{w w':wb}(ev:Evo φ g w ψ h' w')(h1:g.bl=h.bl)(h2:g.next=h.next)(h3:g.low=h.low)(h4:g.high=h.high):Evo φ h w ψ h' w' where
 le:=ev.le
 new:=by rw[<- h2];exact ev.new
 next:=by rw[<- h2];exact ev.next
 size:=ev.size
 tape:=ev.tape
 os:=ev.os
 output:=ev.output
 frame:=by unfold Live;rw[<- h1];exact ev.frame
 back:=by
  have:=ev.back;unfold Live at this ⊢;rw[h1]at this;exact this
 kept:=by rw[<- h1,<- h2];exact ev.kept
 low:=by rw[<- h3];exact ev.low
 high:=by rw[<- h4];exact ev.high
 shape:=by rw[<- h1,<- h2];exact ev.shape
 only:=by rw[<- h1,<- h2];exact ev.only
 all:=by rw[<- h2];exact ev.all
theorem Ye(hT:Cs P U)(hF:DH P U F)(hm:P.follows .mixedOrders=true){id:Nat}{ops:Array yv}{draw:Bool}{σ:Sg}{k:Option (Sg->C)}{e:Env}{h:Hp}{X:X}(hr:Bs U A (.region id ops draw) σ k F e h=X)(hn:X≠.no)
  (hd:CS N (.region id ops draw)=true){φ:Phi}{w:wb}{a:Act}(hS:AFa A σ)(HW:AEG U φ nil h w)(HA:AR N φ (AEY A σ e) a){Q:ADn->Act->wb->Prop}(p:Post U A N F φ h w k X Q):(ADa id ops draw).wp P Q a w:=by
 have hN:∀ o∈ops.toList,∀ d,o.dst=some d->d<N:=by
  intro o ho d hod;unfold CS at hd;rw[zM]at hd;have:=hd o ho;rw[hod]at this;exact BD.1 this
 unfold Bs at hr;cases draw with
 |false=>
  simp only at hr;obtain⟨ρ,H,V,run,T,σ',e',tr,q1,q2,q3,q4,q5⟩:=QC hT hF ops.toList [] σ e h X (fun j o _=>.plain U o) hS hr hn;refine wp_region_list ?_;have:=QS (Q:=Q) (a:=a) (w:=w) (φ:=φ) ops.toList tr hN (by rw[q2];exact HW) (by rw[q1];exact HA) fun _ ψ a' w' r1 r2 r3=>p.then ⟨q4,r1,by rw[<- q3];exact r2,by rw[<- q2];exact r3⟩ q5
  simpa using this
 |true=>
  simp only at hr;cases hdr:Vn U ops.toList with
  |none=>rw[hdr]at hr;exact absurd hr.symm hn
  |some ahs=>
   rw[hdr]at hr;obtain⟨bs,hbs,he,hs,hah⟩:=aO hdr;have hr:Gy U A ops.toList (Lc k) ahs ops.toList σ F e {next:=h.next,low:=h.low,high:=h.high,mark:=h.next,bl:=h.bl}=X:=hr;obtain⟨ρ,H,V,run,T,σ',e',tr,q1,q2,q3,q4,q5⟩:=QC hT hF ops.toList ahs σ e _ X (fun j o ho=>by obtain⟨xs,_,h⟩:=hah j o ho;exact h.ok) hS hr hn;have:=jq (id:=id) (Q:=Q) (a:=a) (w:=w) (φ0:=φ) hm (Qz hbs he) (gy hbs he hs hah tr) tr hN (by rw[q2];exact HW.AFh rfl rfl) (by rw[q1];exact HA)
    fun ψ a' w' r1 r2 r3=>p.then ⟨q4,r1,by rw[<- q3];exact r2,by rw[q2]at r3;exact r3.AHJ rfl rfl rfl rfl⟩ q5
   simpa using this
theorem WT(hm:P.follows .mixedOrders=true){c:ACY}{body:C}(ih:∀ {e:Env} {h:Hp} {X:X},body F e h=X->X≠.no->∀ (φ:Phi) (w:wb) (a:Act),AEG U φ nil h w->AR N φ (AEY A [] e) a->∀ (Q:ADn->Act->wb->Prop),Post U A N F φ h w none X Q->c.wp P Q a w):
  ∀ (n:Nat) {e:Env} {h:Hp} {X:X},iter body n F e h=X->X≠.no->∀ (φ:Phi) (w:wb) (a:Act),AEG U φ nil h w->AR N φ (AEY A [] e) a->∀ (Q:ADn->Act->wb->Prop),Post U A N F φ h w none X Q->AA3 P c Q n a w
 |0,e,h,X,hr,hn=>by exact absurd hr.symm hn
 |n+1,e,h,X,hr,hn=>by
  intro φ w a HW HA Q p;unfold iter at hr;cases hb:body F e h with
  |no=>rw[hb]at hr;exact absurd hr.symm hn
  |norm e1 h1=>
   rw[hb]at hr;simp only at hr;refine ih hb (fun h=>by cases h) φ w a HW HA _ {go:=(fun _ h=>by cases h),norm:=fun _ e' h' ψ a' w' g hx=>?_,exit:=(fun _ _ _ _ _ _ _ hx=>by cases hx),ret:=(fun _ _ _ _ _ _ hx=>by cases hx)};cases hx;exact WT hm ih n hr hn _ _ _ g.rel g.ar _ {go:=(fun _ h=>by cases h),norm:=fun h e2 h2 χ a2 w2 g2 hx=>p.norm h e2 h2 χ a2 w2 (g.trans g2) hx,exit:=fun id e2 h2 χ a2 w2 g2 hx=>p.exit id e2 h2 χ a2 w2 (g.trans g2) hx,ret:=fun e2 h2 χ a2 w2 g2 hx=>p.ret e2 h2 χ a2 w2 (g.trans g2) hx}
  |exit i e1 h1=>
   rw[hb]at hr;refine ih hb (fun h=>by cases h) φ w a HW HA _ {go:=(fun _ h=>by cases h),norm:=(fun _ _ _ _ _ _ _ hx=>by cases hx),exit:=fun id e2 h2 χ a2 w2 g2 hx=>p.exit id e2 h2 χ a2 w2 g2 (hr.symm.trans hx),ret:=(fun _ _ _ _ _ _ hx=>by cases hx)}
  |ret e1 h1=>
   rw[hb]at hr;refine ih hb (fun h=>by cases h) φ w a HW HA _ {go:=(fun _ h=>by cases h),norm:=(fun _ _ _ _ _ _ _ hx=>by cases hx),exit:=(fun _ _ _ _ _ _ _ hx=>by cases hx),ret:=fun e2 h2 χ a2 w2 g2 hx=>p.ret e2 h2 χ a2 w2 g2 (hr.symm.trans hx)}
theorem S1{φ:Phi}{h:Hp}{w:wb}{k':Sg->C}{X:X}{Q:ADn->Act->wb->Prop}(p:Post U A N F φ h w (some k') X Q){a:C}{e:Env}(hr:BI a (k' []) F e h=X)(hn:X≠.no):
  ∃ X1,a F e h=X1/\X1≠.no/\Post U A N F φ h w none X1 Q:=by
 unfold BI at hr;cases hb:a F e h with
 |no=>rw[hb]at hr;exact absurd hr.symm hn
 |norm e1 h1=>
  rw[hb]at hr;exact⟨_,rfl,(fun h=>by cases h),{go:=(fun _ h=>by cases h),norm:=fun _ e2 h2 χ a2 w2 g2 hx=>by cases hx;exact p.go k' rfl [] _ _ χ a2 w2 g2 hr,exit:=(fun _ _ _ _ _ _ _ hx=>by cases hx),ret:=(fun _ _ _ _ _ _ hx=>by cases hx)}⟩
 |exit i e1 h1=>
  rw[hb]at hr;exact⟨_,rfl,(fun h=>by cases h),{go:=(fun _ h=>by cases h),norm:=(fun _ _ _ _ _ _ _ hx=>by cases hx),exit:=fun id e2 h2 χ a2 w2 g2 hx=>p.exit id e2 h2 χ a2 w2 g2 (hr.symm.trans hx),ret:=(fun _ _ _ _ _ _ hx=>by cases hx)}⟩
 |ret e1 h1=>
  rw[hb]at hr;exact⟨_,rfl,(fun h=>by cases h),{go:=(fun _ h=>by cases h),norm:=(fun _ _ _ _ _ _ _ hx=>by cases hx),exit:=(fun _ _ _ _ _ _ _ hx=>by cases hx),ret:=fun e2 h2 χ a2 w2 g2 hx=>p.ret e2 h2 χ a2 w2 g2 (hr.symm.trans hx)}⟩
theorem Tf{φ:Phi}{h:Hp}{w:wb}{X:X}{Q:ADn->Act->wb->Prop}(p:Post U A N F φ h w none X Q){id:Nat}{a:C}{e:Env}(hr:AY id a F e h=X)(hn:X≠.no):
  ∃ X1,a F e h=X1/\X1≠.no/\Post U A N F φ h w none X1 (ADL id Q):=by
 unfold AY at hr;cases hb:a F e h with
 |no=>rw[hb]at hr;exact absurd hr.symm hn
 |norm e1 h1=>
  rw[hb]at hr;exact⟨_,rfl,(fun h=>by cases h),{go:=(fun _ h=>by cases h),norm:=fun h e2 h2 χ a2 w2 g2 hx=>p.norm h e2 h2 χ a2 w2 g2 (hr.symm.trans hx),exit:=(fun _ _ _ _ _ _ _ hx=>by cases hx),ret:=(fun _ _ _ _ _ _ hx=>by cases hx)}⟩
 |exit i e1 h1=>
  rw[hb]at hr;simp only at hr;refine⟨_,rfl,(fun h=>by cases h),{go:=(fun _ h=>by cases h),norm:=fun _ _ _ _ _ _ _ hx=>(by cases hx),exit:=fun j e2 h2 χ a2 w2 g2 hx=>?_,ret:=fun _ _ _ _ _ _ hx=>(by cases hx)}⟩;cases hx;unfold ADL;cases hq:wB i id with
  |true=>
   rw[hq]at hr;simp only[Am.1 hq,if_true];exact p.norm rfl _ _ χ a2 w2 g2 hr.symm
  |false=>
   rw[hq]at hr;simp only[FO hq,if_false];exact p.exit i _ _ χ a2 w2 g2 hr.symm
 |ret e1 h1=>
  rw[hb]at hr;exact⟨_,rfl,(fun h=>by cases h),{go:=(fun _ h=>by cases h),norm:=(fun _ _ _ _ _ _ _ hx=>by cases hx),exit:=(fun _ _ _ _ _ _ _ hx=>by cases hx),ret:=fun e2 h2 χ a2 w2 g2 hx=>p.ret e2 h2 χ a2 w2 g2 (hr.symm.trans hx)}⟩
theorem EJ(hT:Cs P U)(hF:DH P U F)(hm:P.follows .mixedOrders=true):∀ (c:ACY) {σ:Sg} {k:Option (Sg->C)} {e:Env} {h:Hp} {X:X},Bs U A c σ k F e h=X->X≠.no->CS N c=true->
  ∀ (φ:Phi) (w:wb) (a:Act),AFa A σ->AEG U φ nil h w->AR N φ (AEY A σ e) a->∀ (Q:ADn->Act->wb->Prop),Post U A N F φ h w k X Q->c.wp P Q a w
 |.skip,σ,k,e,h,X,hr,hn,hd=>by
  intro φ w a hS HW HA Q p;exact wp_skip (p.then ⟨hS,HW,HA,.refl _ _ _⟩ hr)
 |.region id ops draw,σ,k,e,h,X,hr,hn,hd=>by
  intro φ w a hS HW HA Q p;exact Ye hT hF hm hr hn hd hS HW HA p
 |.seq x y,σ,k,e,h,X,hr,hn,hd=>by
  intro φ w a hS HW HA Q p;have hd:(CS N x && CS N y)=true:=hd;rw[wJ]at hd;have hr:Bs U A x σ (some fun σ=>Bs U A y σ k) F e h=X:=hr;refine wp_seq (EJ hT hF hm x hr hn hd.1 _ _ _ hS HW HA _ {go:=fun k' hk σ' e' h' ψ a' w' g hx=>?_,norm:=fun h=>(by cases h),exit:=p.exit,ret:=p.ret});cases hk;exact EJ hT hF hm y hx hn hd.2 _ _ _ g.sg g.rel g.ar _ {go:=fun k' hk σ2 e2 h2 χ a2 w2 g2 hx=>p.go k' hk σ2 e2 h2 χ a2 w2 (g.trans g2) hx,norm:=fun h e2 h2 χ a2 w2 g2 hx=>p.norm h e2 h2 χ a2 w2 (g.trans g2) hx,exit:=fun id e2 h2 χ a2 w2 g2 hx=>p.exit id e2 h2 χ a2 w2 (g.trans g2) hx,ret:=fun e2 h2 χ a2 w2 g2 hx=>p.ret e2 h2 χ a2 w2 (g.trans g2) hx}
 |.cond c x y,σ,k,e,h,X,hr,hn,hd=>by
  intro φ w a hS HW HA Q p;have hd:(CS N x && CS N y)=true:=hd;rw[wJ]at hd;unfold Bs at hr;cases hc:cO ⟨A,σ⟩ c with
  |none=>rw[hc]at hr;exact absurd hr.symm hn
  |some cc=>
   rw[hc]at hr;simp only at hr;have AEh:=HA.ev (F1 hc e);have two:∀ {kx:Option (Sg->C)} {Y:Go.Proofs.YtedbmmfebjfibaaGreat.X},Io cc (Bs U A x σ kx) (Bs U A y σ kx) F e h=Y->Y≠.no->Post U A N F φ h w kx Y Q->(Code.cond c x y).wp P Q a w:=by
    intro kx Y hr hn p;unfold Io at hr;cases hv:cc e with
    |bool t=>
     rw[hv]at hr AEh;have hev:=AEh.AE7;cases t with
     |true=>exact wp_cond_true hev (EJ hT hF hm x hr hn hd.1 _ _ _ hS HW HA _ p)
     |false=>exact wp_cond_false hev (EJ hT hF hm y hr hn hd.2 _ _ _ hS HW HA _ p)
    |_=>rw[hv]at hr;exact absurd hr.symm hn
   cases k with
   |none=>exact two hr hn p
   |some k'=>
    simp only at hr;cases hf:(LN x && LN y)with
    |false=>rw[hf]at hr;exact two hr hn p
    |true=>
     rw[hf]at hr;obtain⟨X1,h1,h2,p1⟩:=S1 p hr hn;exact two h1 h2 p1
 |.block id x,σ,k,e,h,X,hr,hn,hd=>by
  intro φ w a hS HW HA Q p;have hd:CS N x=true:=hd;have one:∀ {Y:Go.Proofs.YtedbmmfebjfibaaGreat.X},AY id (Bs U A x [] none) F e h=Y->Y≠.no->Post U A N F φ h w none Y Q->(Code.block id x).wp P Q a w:=by
   intro Y hr hn p;obtain⟨X1,h1,h2,p1⟩:=Tf p hr hn;exact wp_block (EJ hT hF hm x h1 h2 hd _ _ _ (.nil A) HW (HA.nil hS) _ p1)
  unfold Bs at hr;cases k with
  |none=>exact one hr hn p
  |some k'=>
   simp only at hr;obtain⟨X1,h1,h2,p1⟩:=S1 p hr hn;exact one h1 h2 p1
 |.loop x,σ,k,e,h,X,hr,hn,hd=>by
  intro φ w a hS HW HA Q p;have hd:CS N x=true:=hd;have plain:iter (Bs U A x [] none) rounds F e h=X->(ADz x).wp P Q a w:=by
   intro hr;refine wp_loop_rounds rounds (WT hm (fun h1 h2 φ w a HW HA Q p=>EJ hT hF hm x h1 h2 hd _ _ _ (.nil A) HW HA _ p) rounds hr hn _ _ _ HW (HA.nil hS) _ {go:=fun _ h=>(by cases h),norm:=fun _ e2 h2 χ a2 w2 g2 hx=>?_,exit:=p.exit,ret:=p.ret})
   exfalso
   subst hx;have:∀ (n:Nat) (e:Env) (h:Hp),iter (Bs U A x [] none) n F e h≠.norm e2 h2:=by
    intro n
    induction n with
    |zero=>intro e h hq;cases hq
    |succ n ih=>
     intro e h hq;unfold iter at hq;cases hb:Bs U A x [] none F e h with
     |norm e1 h1=>rw[hb]at hq;exact ih e1 h1 hq
     |no=>rw[hb]at hq;cases hq
     |exit _ _ _=>rw[hb]at hq;cases hq
     |ret _ _=>rw[hb]at hq;cases hq
   exact this _ e h hr
  unfold Bs at hr;cases hw:XM A x with
  |none=>rw[hw]at hr;exact plain hr
  |some kw=>
   rw[hw]at hr;have hr:JN kw (Bs U A x [] none) F e h=X:=hr;obtain⟨id,o1,o2,r2,W⟩:=TT hw;unfold JN at hr;split at hr
   case h_2=>exact absurd hr.symm hn
   rename_i ad hit;split at hr
   case h_2=>exact plain hr
   rename_i m since seen last AF6;split at hr
   case h_2=>exact absurd hr.symm hn
   split at hr
   case h_2=>exact absurd hr.symm hn
   rename_i es c AF7;split at hr
   case h_2=>exact plain hr
   have hdd:CS N (.region id #[o1,o2] false)=true/\CS N (.seq (.cond (.tmp kw.more) .skip (.exit kw.out)) r2)=true:=by
    rw[W.code]at hd;have hd:(CS N (.region id #[o1,o2] false) && CS N (.seq (.cond (.tmp kw.more) .skip (.exit kw.out)) r2))=true:=hd;exact Bool.and_eq_true_iff.1 hd
   have hnm:kw.nx<N/\kw.more<N:=by
    have:=hdd.1;unfold CS at this;simp only[List.all_cons,List.all_nil,Bool.and_true,wJ,W.AGX,W.AGo]at this;exact⟨BD.1 this.1,BD.1 this.2⟩
   have AKq:AA8 (ABW (.cond (.tmp kw.more) .skip (.exit kw.out)) r2)<AA8 x:=by
    rw[W.code];simp;omega
   obtain⟨hoff,hr⟩:=uA hr hn;obtain⟨AEO,hr⟩:=uA hr hn;exact Tv W hnm (fun h1 h2 φ w a HW HA Q p=>EJ hT hF hm (.seq (.cond (.tmp kw.more) .skip (.exit kw.out)) r2) h1 h2 hdd.2 _ _ _ (.nil A) HW HA _ p) hit hoff (Ac.1 AEO) hr hn HW (HA.nil hS) p.exit
 |.exit id,σ,k,e,h,X,hr,hn,hd=>by
  intro φ w a hS HW HA Q p;have hr:(.exit id e h:Go.Proofs.YtedbmmfebjfibaaGreat.X)=X:=hr;exact wp_exit (p.exit id e h φ a w ⟨.nil A,HW,HA.nil hS,.refl _ _ _⟩ hr.symm)
 |.ret,σ,k,e,h,X,hr,hn,hd=>by
  intro φ w a hS HW HA Q p;have hr:(.ret e h:Go.Proofs.YtedbmmfebjfibaaGreat.X)=X:=hr;exact wp_ret (p.ret e h φ a w ⟨.nil A,HW,HA.nil hS,.refl _ _ _⟩ hr.symm)
 |.rangeFunc _ _ _ _,_,_,_,_,X,hr,hn,_=>by exact absurd hr.symm hn
 |.scope x,σ,k,e,h,X,hr,hn,hd=>by
  intro φ w a hS HW HA Q p;have hd:CS N x=true:=hd;have hr:Bs U A x σ k F e h=X:=hr;exact wp_scope_straight (EJ hT hF hm x hr hn hd _ _ _ hS HW HA _ {go:=p.go,norm:=p.norm,exit:=p.exit,ret:=p.ret})
 |.label _,σ,k,e,h,X,hr,hn,hd=>by
  intro φ w a hS HW HA Q p;exact wp_label (p.then ⟨hS,HW,HA,.refl _ _ _⟩ hr)
 |.goto _,_,_,_,_,X,hr,hn,_=>by exact absurd hr.symm hn
 |.refuse _,_,_,_,_,X,hr,hn,_=>by exact absurd hr.symm hn
termination_by c=>AA8 c
decreasing_by
 all_goals simp_wf
 all_goals first|omega|(simp_all;omega)
end
end
noncomputable section
open Go
section
variable {P:xD}{U:TTy}{A:List Nat}{N:Nat}{φ:Phi}{h h':Hp}{w:wb}{e:Env}{a:Act}{v:IN}
theorem Om{t:Nat}(h:P9 A t=true)(e:Env):AEY A [] e t=some (J t e):=by
 unfold P9 at h;rw[ET];show(match memN t A with|true=>none|false=>match wz t 160 with|true=>some (J t e)|false=>none)=_;cases hm:memN t A with
 |true=>rw[hm]at h;cases h
 |false=>
  rw[hm]at h;have h:wz t 160=true:=h;simp only[h]
def Su(tmps:Array IN):ABd->Sem IN
 |.tmp t=>pure (tmps.getD t undef)
 |.cell a t=>do loadVar t (<- asAddr (tmps.getD a undef))
theorem Ut(fn:Func)(tmps:Array IN):ACm fn tmps=(do let vs <- fn.results.mapM (Su tmps);pure (if h:vs.size=1 then vs[0]else .tuple vs)):=by
 unfold ACm
 congr 2
theorem Y7(f:ABd->Sem IN)(l:Array ABd){vs:List IN}(h:(l.toList.mapM f).run P w=.ok vs w):(l.mapM f).run P w=.ok ⟨vs⟩ w:=by
 have:l.mapM f=List.toArray <$> l.toList.mapM f:=by
  conv=>lhs;rw[<- Array.toArray_toList (xs:=l)]
  rw[List.mapM_toArray]
 rw[this,map_eq_pure_bind,vq,h,If,vt]
theorem G5(hT:Cs P U)(H:AEG U φ nil h w)(HA:AR N φ (AEY A [] e) a):∀ {l:List ABd} {rs:List RV} {k:List IN->R},rsC U A l=some rs->Go.Proofs.YtedbmmfebjfibaaGreat.results e h k rs=.ok v h'->
  ∃ vs vs',AEX φ vs vs'/\k vs=.ok v h'/\(l.mapM (Su a.tmps)).run P w=.ok vs' w
 |[],rs,k,hc,hr=>by
  cases hc;exact⟨[],[],.nil,hr,by simp⟩
 |.tmp t::l,rs,k,hc,hr=>by
  unfold rsC at hc;split at hc
  ·cases hc
  rename_i ht;split at hc
  case h_2=>cases hc
  rename_i r hrs;cases hc;unfold Go.Proofs.YtedbmmfebjfibaaGreat.results at hr;have hr:AEQ (J t e) (fun v=>Go.Proofs.YtedbmmfebjfibaaGreat.results e h (fun vs=>k (v::vs)) r)=.ok v h':=hr;rw[BH]at hr;obtain⟨vs,vs',h1,h2,h3⟩:=G5 hT H HA hrs hr;have h4:=HA.rel t _ (Om ht e);exact⟨_,_,.cons h4 h1,h2,by simp[ABB,Su,h3]⟩
 |.cell c t::l,rs,k,hc,hr=>by
  unfold rsC at hc;split at hc
  ·cases hc
  rename_i ht;split at hc
  case h_2=>cases hc
  rename_i ti hti;split at hc
  case h_2=>cases hc
  rename_i r hrs;have T:=hT t ti hti;have h4:=HA.rel c _ (Om ht e);cases hag:ti.k.agg with
  |true=>
   rw[hag]at hc;cases hc;unfold Go.Proofs.YtedbmmfebjfibaaGreat.results G4 at hr;simp only at hr;cases AGp:Dq (J c e)with
   |no=>rw[AGp]at hr;cases hr
   |ok ad=>
    rw[AGp]at hr;simp only at hr;cases hl:loadN ti.size ad h with
    |no=>rw[hl]at hr;cases hr
    |ok u h2=>
     rw[hl]at hr;simp only[BH]at hr;rw[IB AGp]at h4;obtain⟨a',ha',hra⟩:=h4.AFI;obtain⟨_,l',hv,hrun⟩:=Ro (P:=P) H hl hra (fun h=>h);obtain⟨vs,vs',h1,h5,h3⟩:=G5 hT H HA hrs hr;refine⟨_,_,.cons hv h1,h5,?_⟩;have:(Su a.tmps (.cell c t)).run P w=.ok (.agg l'.toArray) w:=by
      unfold Su;simp only[ha',asAddr,vq,vt,If,loadVar,T.agg,hag,if_true,T.size,hrun]
     simp[ABB,this,h3]
  |false=>
   rw[hag]at hc;cases hc;unfold Go.Proofs.YtedbmmfebjfibaaGreat.results G4 at hr;simp only at hr;cases AGp:Dq (J c e)with
   |no=>rw[AGp]at hr;cases hr
   |ok ad=>
    rw[AGp]at hr;simp only at hr;cases hl:AEF ad h with
    |no=>rw[hl]at hr;cases hr
    |ok u h2=>
     rw[hl]at hr;simp only[BH]at hr;rw[IB AGp]at h4;obtain⟨a',ha',hra⟩:=h4.AFI;obtain⟨_,v',hcell,hv⟩:=Rn H hl hra (fun h=>h);obtain⟨vs,vs',h1,h5,h3⟩:=G5 hT H HA hrs hr;refine⟨_,_,.cons hv h1,h5,?_⟩;have:(Su a.tmps (.cell c t)).run P w=.ok v' w:=by
      unfold Su;simp only[ha',asAddr,vq,vt,If,loadVar,T.agg,hag,wW,if_false,run_load,hcell]
     simp[ABB,this,h3]
theorem OG(hT:Cs P U)(H:AEG U φ nil h w)(HA:AR N φ (AEY A [] e) a){fn:Func}{rs:List RV}(hc:rsC U A fn.results.toList=some rs)(hr:FF rs e h=.ok v h'):
  h'=h/\∃ v',AED φ v v'/\(ACm fn a.tmps).run P w=.ok v' w:=by
 unfold FF at hr;obtain⟨vs,vs',h1,h2,h3⟩:=G5 hT H HA hc hr;have hrun:=Y7 (P:=P) (w:=w) (Su a.tmps) fn.results h3;rw[Ut];simp only[vq,hrun,If,vt];unfold Lx at h2;split at h2
 ·cases h2
  cases h1 with
  |cons hv ht=>cases ht;exact⟨rfl,_,hv,rfl⟩
 ·rename_i hne
  cases h2;refine⟨rfl,_,.tuple h1,?_⟩;have:vs'.length≠1:=by
   rw[h1.length];intro hl;cases vs with
   |nil=>cases hl
   |cons x l=>
    cases l with
    |nil=>exact hne x rfl
    |cons _ _=>simp at hl
  have hs:¬ (Array.mk vs').size=1:=this;rw[dif_neg hs]
theorem S3:∀ (args:List IN) (e:Env) (i t:Nat),i+args.length<=160->t<160->(AQ e i args).get t=if i<=t/\t<i+args.length then args.getD (t - i) AEE else e.get t
 |[],e,i,t,_,_=>by
  rw[if_neg (by simp)];rfl
 |v::l,e,i,t,hn,ht=>by
  simp only[vw]at hn;unfold AQ;rw[S3 l _ (i+1) t (by omega) ht];by_cases h1:i+1<=t/\t<i+1+l.length
  ·rw[if_pos h1,if_pos (by simp only[vw];omega)]
   have:t - i=(t - (i+1))+1:=by omega
   rw[this,List.getD_cons_succ]
  ·rw[if_neg h1,Env.AES _ _ _ _ (by omega) ht]
   by_cases h2:t=i
   ·subst h2
    rw[if_pos rfl,if_pos (by simp only[vw];omega)];simp
   ·rw[if_neg h2,if_neg (by simp only[vw];omega)]
set_option maxRecDepth 100000 in
theorem pU{t:Nat}(ht:t<160):e0.get t=AEE:=by
 have H:MN (fun i=>e0.get i=AEE) 160:=by
  repeat' (first|exact trivial|refine⟨rfl,?_⟩)
 exact H.at t ht
theorem eX{args args':List IN}(hr:AEX φ args args')(hn:args.length<=160)(n:Nat):
  AR (max args.length n) φ (AEY A [] (AQ e0 0 args)) {tmps:=(⟨args'⟩:Array IN)++Array.replicate (n - (⟨args'⟩:Array IN).size) undef,defers:=[]} where
 size:=by
  have:=hr.length;simp only[Array.size_append,Array.size_replicate,AAa];omega
 defs:=rfl
 rel:=fun t u hu=>by
  rw[ET]at hu;have hu:(match memN t A with|true=>none|false=>match wz t 160 with|true=>some (J t (AQ e0 0 args))|false=>none)=some u:=hu;cases hm:memN t A with
  |true=>rw[hm]at hu;cases hu
  |false=>
   rw[hm]at hu;simp only at hu;cases hb:wz t 160 with
   |false=>rw[hb]at hu;cases hu
   |true=>
    rw[hb]at hu;cases hu;have ht:=BD.1 hb;rw[C0 t ht,S3 args e0 0 t (by omega) ht,pU ht];have hlen:=hr.length;simp only[Array.getD_eq_getD_getElem?];by_cases h1:t<args.length
    ·rw[if_pos (by omega),Nat.sub_zero,Array.getElem?_append_left (by simp only[AAa];omega)]
     obtain⟨v',h2,h3⟩:=hr.get t args[t] (sh h1);have:args.getD t AEE=args[t]:=by rw[List.getD_eq_getElem?_getD,sh h1];rfl
     rw[this];have e2:(⟨args'⟩:Array IN)[t]? =some v':=by simpa using h2
     rw[e2];exact h3
    ·rw[if_neg (by omega),Array.getElem?_append_right (by simp only[AAa];omega),Array.getElem?_replicate]
     split<;>exact .tuple .nil
theorem Yg{l:List ABd}{rs:List RV}(hc:rsC U A l=some rs):VC rs=none:=by
 cases l with
 |nil=>cases hc;rfl
 |cons x l=>
  cases x with
  |tmp t=>
   unfold rsC at hc;split at hc
   ·cases hc
   ·split at hc
    ·cases hc;rfl
    ·cases hc
  |cell c t=>
   unfold rsC at hc;split at hc
   ·cases hc
   ·split at hc
    ·split at hc
     ·split at hc
      ·cases hc;rfl
      ·cases hc;rfl
     ·cases hc
    ·cases hc
def rj(P:xD)(U:TTy)(g:Nat)(b:Body):Prop:=∃ fn A,P.funcs[g]? =some fn/\fn.name≠"runtime.NumGoroutine" /\A6 U A fn=some b
def Au:Body:=⟨[],cNo⟩
theorem Db{n m:Nat}(h:n<=m):∀ {c:ACY},CS n c=true->CS m c=true
 |.region _ ops _,hd=>by
  unfold CS at hd ⊢;rw[zM]at hd ⊢;intro o ho;have:=hd o ho;split at this
  ·have:=BD.1 this
   exact BD.2 (by omega)
  ·rfl
 |.seq a b,hd=>by
  have hd:(CS n a && CS n b)=true:=hd;rw[wJ]at hd;show(CS m a && CS m b)=true;rw[Db h hd.1,Db h hd.2];rfl
 |.cond _ a b,hd=>by
  have hd:(CS n a && CS n b)=true:=hd;rw[wJ]at hd;show(CS m a && CS m b)=true;rw[Db h hd.1,Db h hd.2];rfl
 |.block _ a,hd=>Db (c:=a) h hd
 |.loop a,hd=>Db (c:=a) h hd
 |.skip,_=>rfl
 |.exit _,_=>rfl
 |.ret,_=>rfl
 |.rangeFunc _ _ _ _,_=>rfl
 |.scope a,hd=>Db (c:=a) h hd
 |.label _,_=>rfl
 |.goto _,_=>rfl
 |.refuse _,_=>rfl
theorem aU(hT:Cs P U){F:AEB}(hF:DH P U F)(hm:P.follows .mixedOrders=true){g:Nat}{b:Body}(hb:rj P U g b){args:List IN}(hr:enter F b args h=.ok v h'):
  (∃ fn,P.funcs[g]? =some fn/\fn.name≠"runtime.NumGoroutine" /\fn.body.isNone=false)/\
  ∀ φ w args',AEX φ args args'->AEG U φ nil h w->
   Calls P g ⟨args'⟩ w fun en w'=>∃ v' ψ,en=.returned v'/\AED ψ v v'/\AEG U ψ nil h' w'/\Evo φ h w ψ h' w':=by
 obtain⟨fn,A,hfn,hname,hbody⟩:=hb;unfold A6 at hbody;cases hc:fn.body with
 |none=>rw[hc]at hbody;cases hbody
 |some c=>
  rw[hc]at hbody;simp only at hbody;cases hrs:rsC U A fn.results.toList with
  |none=>rw[hrs]at hbody;cases hbody
  |some rs=>
   rw[hrs]at hbody;simp only at hbody;cases hd:CS fn.ntmps c with
   |false=>rw[hd]at hbody;cases hbody
   |true=>
    rw[hd]at hbody;cases hbody;refine⟨⟨fn,hfn,hname,by rw[hc];rfl⟩,fun φ w args' AEh HW=>?_⟩;unfold enter at hr
    dsimp only at hr
    rw[Yg hrs]at hr;obtain⟨hlen,hr⟩:=Bp hr;have hlen:args.length<=160:=by rw[<- BL];exact Ac.1 hlen
    have hAR:=eX (A:=A) AEh hlen fn.ntmps;refine calls_of_wp hfn hc ?_;have hn:Bs U A c [] none F (AQ e0 0 args) h≠.no:=by
     intro hx;rw[hx]at hr;cases hr
    refine EJ hT hF hm c (e:=AQ e0 0 args) (h:=h) rfl hn (Db (AAF _ _) hd) _ _ _ (.nil A) HW hAR _ {go:=fun _ h=>(by cases h),norm:=fun _ e1 h1 ψ a1 w1 g1 hx=>?_,exit:=fun id e1 h1 ψ a1 w1 g1 hx=>?_,ret:=fun e1 h1 ψ a1 w1 g1 hx=>?_}
    ·rw[hx]at hr
     obtain⟨rfl,v',hv,hrun⟩:=OG hT g1.rel g1.ar hrs hr;exact⟨g1.ar.defs,v',hrun,v',ψ,rfl,hv,g1.rel,g1.evo⟩
    ·rw[hx]at hr;cases hr
    ·rw[hx]at hr
     obtain⟨rfl,v',hv,hrun⟩:=OG hT g1.rel g1.ar hrs hr;exact⟨g1.ar.defs,v',hrun,v',ψ,rfl,hv,g1.rel,g1.evo⟩
def It(P:xD)(U:TTy)(g:Nat)(b:Body):Prop:=∀ (F:AEB) (args:List IN) (h:Hp) (v:IN) (h':Hp),DH P U F->enter F b args h=.ok v h'->
 (∃ fn,P.funcs[g]? =some fn/\fn.name≠"runtime.NumGoroutine" /\fn.body.isNone=false)/\
 ∀ φ w args',AEX φ args args'->AEG U φ nil h w->
  Calls P g ⟨args'⟩ w fun en w'=>∃ v' ψ,en=.returned v'/\AED ψ v v'/\AEG U ψ nil h' w'/\Evo φ h w ψ h' w'
def BX(P:xD)(U:TTy)(g:Nat)(b:Body):Prop:=rj P U g b\/b=Au\/It P U g b
def FT.All(p:Nat->Body->Prop):FT->(Nat->Nat)->Prop
 |.mt,_=>True
 |.nd b l r,ix=>p (ix 0) b/\FT.All p l (fun k=>ix (2*k+1))/\FT.All p r (fun k=>ix (2*k+2))
theorem FT.All.get{p:Nat->Body->Prop}:∀ {t:FT} {ix:Nat->Nat},FT.All p t ix->∀ {i:Nat} {b:Body},t.get i=some b->p (ix i) b
 |.mt,ix,_,i,b,h=>by cases h
 |.nd c l r,ix,⟨h0,hl,hr⟩,0,b,h=>by cases h;exact h0
 |.nd c l r,ix,⟨h0,hl,hr⟩,k+1,b,h=>by
  unfold FT.get at h;have e1:Nat.mod k 2=k % 2:=rfl;have e2:Nat.div k 2=k / 2:=rfl;rw[e1,e2]at h;rcases Nat.mod_two_eq_zero_or_one k with hk|hk
  ·rw[hk]at h
   have:=hl.get (i:=k/2) h;have e:2*(k/2)+1=k+1:=by omega
   simp only[e]at this;exact this
  ·rw[hk]at h
   have:=hr.get (i:=k/2) h;have e:2*(k/2)+2=k+1:=by omega
   simp only[e]at this;exact this
theorem JO(hT:Cs P U)(hm:P.follows .mixedOrders=true){bs:FT}(hb:FT.All (BX P U) bs id):∀ n,DH P U (call bs n)
 |0=>fun g args h v h' hr=>by cases hr
 |n+1=>fun g args h v h' hr=>by
  have hr:(match bs.get g with|some b=>enter (call bs n) b args h|none=>.no)=.ok v h':=hr;cases hg:bs.get g with
  |none=>rw[hg]at hr;cases hr
  |some b=>
   rw[hg]at hr;rcases hb.get hg with hok|rfl|hdo
   ·exact aU hT (JO hT hm hb n) hm hok hr
   ·exfalso
    have hr:(bif vx (BA args) 160 then A5 [] .no else .no)=.ok v h':=hr;obtain⟨_,hr⟩:=Bp hr;cases hr
   ·exact hdo _ args h v h' (JO hT hm hb n) hr
end
end
noncomputable section
open Go Go.RowKit Go.WideShapes Go.ChangeShapes
def cW:R->Bool
 |.ok (.bool b) _=>b
 |_=>false
def rB:Phi:=fun _=>none
theorem O8(U:TTy)(w:wb):AEG U rB nil Iq w where
 dom:=fun i p h=>by cases h
 inj:=fun i j p q h=>by cases h
 row:=fun i p h=>by cases h
 fresh:=fun i _=>Kj 9 i
 kind:=fun i p c s e h=>by cases h
 inp:=fun i p h=>by cases h
theorem dM{P:xD}{U:TTy}{bs:FT}(hC:∀ n,DH P U (call bs n)){n f:Nat}(h:cW (call bs n f [] Iq)=true)(w:wb):
  Calls P f #[] w fun e w'=>e=.returned (.bool true)/\Below w.heap.size w w':=by
 cases hr:call bs n f [] Iq with
 |no=>rw[hr]at h;cases h
 |ok v h'=>
  rw[hr]at h;obtain⟨_,hc⟩:=hC n f [] Iq v h' hr;refine(hc rB w [] .nil (O8 U w)).mono fun e w' ⟨v',ψ,he,hv,_,ev⟩=>?_
  cases v with
  |bool b=>
   have h:b=true:=h;subst h;have:=hv.AE7;subst this;exact⟨he,⟨ev.os,ev.tape,ev.output,ev.size,fun k hk=>ev.frame k hk fun i p hp=>by cases hp⟩⟩
  |_=>cases h
section
variable {H:Type}{enc:TypeId×IN->H}{P:xD}
theorem N3{f:Func}{s:ChangeSpec}{apart fresh handsOn again:Bool}{W W':wb}{args:Array IN}{v:IN}{ds gs:List (DataW H)}{before pa pv:List MemPlace}
  (hW:DataW.Whole enc P f.params.toList s.vars apart W args.toList ds gs before)
  (hres:∀ (b:Nat) (sp:Nat->Bool) (hd:Bool),ACx enc P W' b sp hd f.resultTypes.toList (v.resultList f.resultTypes.size) (s.fn H (ds++gs)).results [])
  (hargs:∀ sp:Nat->Bool,(∀ p∈before,sp p.block=true)->ACx enc P W' 0 sp true f.params.toList args.toList (s.fn H (ds++gs)).args pa)
  (hvars:∀ sp:Nat->Bool,(∀ p∈before,sp p.block=true)->DataW.TrodVars enc P W' sp s.vars (s.fn H (ds++gs)).vars pv)
  (hps:before=pa++pv)(hb:Below W.heap.size W W')
  (hok:∀ (j:Nat) (t:TypeId) (r:IN),f.resultTypes[j]? =some t->(v.resultList f.resultTypes.size)[j]? =some r->Value.okWide P W' .any 0 t r):
  s.post enc P f apart fresh handsOn again W args v W':=by
 have hlt:∀ p∈before,p.block<W.heap.size:=fun p hp=>hW.lt p hp
 have hold:∀ p∈before,(fun b=>decide (b<W.heap.size)) p.block=true:=fun p hp=>by simpa using hlt p hp
 refine⟨ds,gs,before,[],pa,pv,hW,hres _ _ _,hargs _ hold,hvars _ hold,World.keptBut_mono (fun p hp=>⟨hp,?_⟩) (hb.frame (· ∈before)),fun _=>?_⟩
 ·rw[hps,wK]at hp
  exact Or.inr hp
 ·obtain⟨_,_,_,_,_,hz,hn⟩:=hW
  refine⟨hok,_,_,([]++pa)++pv,⟨[]++pa,pv,trodAll_append (hargs _ (fun _ _=>rfl)) (hres _ _ _),hvars _ (fun _ _=>rfl),rfl,?_,?_⟩,?_⟩
  ·intro b off hp
   have hin:MemPlace.cell b off∈before:=by rw[hps];simpa using hp
   rw[hb.frozen (hlt _ hin)];exact hz b off hin
  ·intro ha
   have:=hn ha;rw[hps]at this
   simpa using this
  ·intro p hp _
   rw[hps]
   simpa using hp
end
end
noncomputable section
open Go
namespace VT
def has:VT->Nat->Prop
 |.mt,_=>False
 |.nd _ _ _,0=>True
 |.nd _ l r,k+1=>if k % 2=0 then l.has (k/2)else r.has (k/2)
theorem AEK(v:IN)(l r:VT)(k:Nat):(VT.nd v l r).has (k+1)=if k % 2=0 then l.has (k/2)else r.has (k/2):=by rw[has]
theorem Fk:∀ (t:VT) (i:Nat) (x:IN),(∀ j,j<i->t.has j)->∃ t',t.set i x=some t'
 |.mt,0,x,_=>⟨_,rfl⟩
 |.mt,i+1,x,h=>(h 0 (ABQ i)).elim
 |.nd v l r,0,x,_=>⟨_,rfl⟩
 |.nd v l r,k+1,x,h=>by
  rw[AEf];by_cases hk:k % 2=0
  ·rw[if_pos hk]
   obtain⟨l',hl⟩:=Fk l (k/2) x fun j hj=>by
    have:=h (2*j+1) (by omega);rw[AEK,if_pos (by omega)]at this;have e:2*j/2=j:=by omega
    rwa [e]at this
   rw[hl];exact⟨_,rfl⟩
  ·rw[if_neg hk]
   obtain⟨r',hr⟩:=Fk r (k/2) x fun j hj=>by
    have:=h (2*j+1+1) (by omega);rw[AEK,if_neg (by omega)]at this;have e:(2*j+1)/2=j:=by omega
    rwa [e]at this
   rw[hr];exact⟨_,rfl⟩
theorem G8:∀ (t:VT) (i:Nat) (x:IN) (t':VT),t.set i x=some t'->∀ j,(j=i\/t.has j)->t'.has j
 |.mt,0,x,t',h,j,hj=>by
  obtain rfl:VT.nd x .mt .mt=t':=Option.some.inj h;rcases hj with rfl|hj
  ·exact trivial
  ·exact hj.elim
 |.mt,i+1,x,t',h,j,hj=>by cases h
 |.nd v l r,0,x,t',h,j,hj=>by
  obtain rfl:VT.nd x l r=t':=Option.some.inj h;cases j with
  |zero=>exact trivial
  |succ j=>
   rcases hj with hj|hj
   ·cases hj
   ·rw[AEK]at hj ⊢;exact hj
 |.nd v l r,i+1,x,t',h,j,hj=>by
  rw[AEf]at h;split at h
  ·rename_i h0
   cases hs:l.set (i/2) x with
   |none=>rw[hs]at h;cases h
   |some l'=>
    rw[hs]at h;obtain rfl:VT.nd v l' r=t':=Option.some.inj h;cases j with
    |zero=>exact trivial
    |succ j=>
     rw[AEK];split
     ·rename_i h1
      refine G8 l _ x l' hs _ ?_;rcases hj with hj|hj
      ·left;have:j=i:=by omega
       rw[this]
      ·right;rw[AEK,if_pos h1]at hj;exact hj
     ·rename_i h1
      rcases hj with hj|hj
      ·have:j=i:=by omega
       exact absurd (this ▸ h0) h1
      ·rw[AEK,if_neg h1]at hj;exact hj
  ·rename_i h0
   cases hs:r.set (i/2) x with
   |none=>rw[hs]at h;cases h
   |some r'=>
    rw[hs]at h;obtain rfl:VT.nd v l r'=t':=Option.some.inj h;cases j with
    |zero=>exact trivial
    |succ j=>
     rw[AEK];split
     ·rename_i h1
      rcases hj with hj|hj
      ·have:j=i:=by omega
       exact absurd (this ▸ h1) h0
      ·rw[AEK,if_pos h1]at hj;exact hj
     ·rename_i h1
      refine G8 r _ x r' hs _ ?_;rcases hj with hj|hj
      ·left;have:j=i:=by omega
       rw[this]
      ·right;rw[AEK,if_neg h1]at hj;exact hj
def lay(t:VT)(i:Nat)(x:IN):VT:=(t.set i x).getD t
theorem AEs{t:VT}{i:Nat}{x:IN}(h:∀ j,j<i->t.has j):t.set i x=some (t.lay i x):=by
 obtain⟨t',ht⟩:=Fk t i x h;unfold lay;rw[ht];rfl
theorem AFD{t:VT}{i:Nat}{x:IN}(h:∀ j,j<i->t.has j)(j:Nat):(t.lay i x).get j=if j=i then x else t.get j:=AES _ _ _ _ (AEs h) j
theorem AFJ{t:VT}{i:Nat}{x:IN}(h:∀ j,j<i->t.has j)(j:Nat)(hj:j=i\/t.has j):(t.lay i x).has j:=G8 _ _ _ _ (AEs h) j hj
end VT
namespace BT
theorem AEK(v:Blk)(l r:BT)(k:Nat):(BT.nd v l r).has (k+1)=if k % 2=0 then l.has (k/2)else r.has (k/2):=by rw[has]
theorem Fk:∀ (t:BT) (i:Nat) (x:Blk),(∀ j,j<i->t.has j)->∃ t',t.set i x=some t'
 |.mt,0,x,_=>⟨_,rfl⟩
 |.mt,i+1,x,h=>(h 0 (ABQ i)).elim
 |.nd v l r,0,x,_=>⟨_,rfl⟩
 |.nd v l r,k+1,x,h=>by
  rw[AEf];by_cases hk:k % 2=0
  ·rw[if_pos hk]
   obtain⟨l',hl⟩:=Fk l (k/2) x fun j hj=>by
    have:=h (2*j+1) (by omega);rw[AEK,if_pos (by omega)]at this;have e:2*j/2=j:=by omega
    rwa [e]at this
   rw[hl];exact⟨_,rfl⟩
  ·rw[if_neg hk]
   obtain⟨r',hr⟩:=Fk r (k/2) x fun j hj=>by
    have:=h (2*j+1+1) (by omega);rw[AEK,if_neg (by omega)]at this;have e:(2*j+1)/2=j:=by omega
    rwa [e]at this
   rw[hr];exact⟨_,rfl⟩
theorem G8:∀ (t:BT) (i:Nat) (x:Blk) (t':BT),t.set i x=some t'->∀ j,(j=i\/t.has j)->t'.has j
 |.mt,0,x,t',h,j,hj=>by
  obtain rfl:BT.nd x .mt .mt=t':=Option.some.inj h;rcases hj with rfl|hj
  ·exact trivial
  ·exact hj.elim
 |.mt,i+1,x,t',h,j,hj=>by cases h
 |.nd v l r,0,x,t',h,j,hj=>by
  obtain rfl:BT.nd x l r=t':=Option.some.inj h;cases j with
  |zero=>exact trivial
  |succ j=>
   rcases hj with hj|hj
   ·cases hj
   ·rw[AEK]at hj ⊢;exact hj
 |.nd v l r,i+1,x,t',h,j,hj=>by
  rw[AEf]at h;split at h
  ·rename_i h0
   cases hs:l.set (i/2) x with
   |none=>rw[hs]at h;cases h
   |some l'=>
    rw[hs]at h;obtain rfl:BT.nd v l' r=t':=Option.some.inj h;cases j with
    |zero=>exact trivial
    |succ j=>
     rw[AEK];split
     ·rename_i h1
      refine G8 l _ x l' hs _ ?_;rcases hj with hj|hj
      ·left;have:j=i:=by omega
       rw[this]
      ·right;rw[AEK,if_pos h1]at hj;exact hj
     ·rename_i h1
      rcases hj with hj|hj
      ·have:j=i:=by omega
       exact absurd (this ▸ h0) h1
      ·rw[AEK,if_neg h1]at hj;exact hj
  ·rename_i h0
   cases hs:r.set (i/2) x with
   |none=>rw[hs]at h;cases h
   |some r'=>
    rw[hs]at h;obtain rfl:BT.nd v l r'=t':=Option.some.inj h;cases j with
    |zero=>exact trivial
    |succ j=>
     rw[AEK];split
     ·rename_i h1
      rcases hj with hj|hj
      ·have:j=i:=by omega
       exact absurd (this ▸ h1) h0
      ·rw[AEK,if_pos h1]at hj;exact hj
     ·rename_i h1
      refine G8 r _ x r' hs _ ?_;rcases hj with hj|hj
      ·left;have:j=i:=by omega
       rw[this]
      ·right;rw[AEK,if_neg h1]at hj;exact hj
def lay(t:BT)(i:Nat)(x:Blk):BT:=(t.set i x).getD t
theorem AEs{t:BT}{i:Nat}{x:Blk}(h:∀ j,j<i->t.has j):t.set i x=some (t.lay i x):=by
 obtain⟨t',ht⟩:=Fk t i x h;unfold lay;rw[ht];rfl
theorem AFD{t:BT}{i:Nat}{x:Blk}(h:∀ j,j<i->t.has j)(j:Nat):(t.lay i x).get j=if j=i then x else t.get j:=AES _ _ _ _ (AEs h) j
theorem AFJ{t:BT}{i:Nat}{x:Blk}(h:∀ j,j<i->t.has j)(j:Nat)(hj:j=i\/t.has j):(t.lay i x).has j:=G8 _ _ _ _ (AEs h) j hj
end BT
end
noncomputable section
open Go
section
variable {F:AEB}{e:Env}{h:Hp}{k a b:C}{f:OpF}{x y:O}
def opX(i:Nat)(r:R)(k:C)(F:AEB)(e:Env):X:=match r with
 |.ok v h=>k F (Env.set i v e) h
 |.no=>.no
def doX(r:R)(k:C)(F:AEB)(e:Env):X:=match r with
 |.ok _ h=>k F e h
 |.no=>.no
def Yh(x:X)(b:C)(F:AEB):X:=match x with
 |.norm e h=>b F e h
 |x=>x
def KK(id:Nat)(x:X):X:=match x with
 |.exit i e h=>bif wB i id then .norm e h else .exit i e h
 |x=>x
def Qq(v:IN)(a b:C)(F:AEB)(e:Env)(h:Hp):X:=match v with
 |.bool c=>(bif c then a else b) F e h
 |_=>.no
def Wz(i:Nat)(k:C):C:=fun F e h=>k F (Env.set i AEE e) h
def Hh(v:IN)(want:Bool)(a b:C)(F:AEB)(e:Env)(h:Hp):X:=match v with
 |.bool c=>(bif want == c then a else b) F e h
 |.tuple _=>b F e h
 |_=>.no
theorem Gx{i:Nat}{v:IN}:opX i (.ok v h) k F e=k F (Env.set i v e) h:=rfl
theorem aK{v:IN}:doX (.ok v h) k F e=k F e h:=rfl
theorem A8:Yh (.norm e h) b F=b F e h:=rfl
theorem CU:Yh (.ret e h) b F=.ret e h:=rfl
theorem Oy{i:Nat}:Yh (.exit i e h) b F=.exit i e h:=rfl
theorem D9{i:Nat}:KK i (.norm e h)=.norm e h:=rfl
theorem Bz{i:Nat}:KK i (.ret e h)=.ret e h:=rfl
theorem Az{i:Nat}:KK i (.exit i e h)=.norm e h:=by
 show(bif wB i i then _ else _)=_;rw[xu];rfl
theorem Iz:Qq (.bool true) a b F e h=a F e h:=rfl
theorem Ha:Qq (.bool false) a b F e h=b F e h:=rfl
theorem OR:Hh (.bool true) true a b F e h=a F e h:=rfl
theorem OQ:Hh (.bool true) false a b F e h=b F e h:=rfl
theorem OP:Hh (.bool false) true a b F e h=b F e h:=rfl
theorem OO:Hh (.bool false) false a b F e h=a F e h:=rfl
theorem LO{w:Bool}:Hh AEE w a b F e h=b F e h:=rfl
theorem S4{i:Nat}:Wz i k F e h=k F (Env.set i AEE e) h:=rfl
theorem nQ{i:Nat}(hi:i<160):TZ (FI i) f k F e h=opX i (f F e h) k F e:=by
 unfold TZ opX;cases f F e h with
 |ok v h=>exact Dx i hi _ v e
 |no=>rfl
theorem ZK:cDo f k F e h=doX (f F e h) k F e:=by
 unfold cDo doX;cases f F e h<;>rfl
theorem uB{g:O}{w:Bool}{i:Nat}(hi:i<160):cG g w (FI i) f k F e h=Hh (g e) w (TZ (FI i) f k) (Wz i k) F e h:=by
 unfold cG Hh Wz;cases g e with
 |bool c=>
  simp only;cases w == c
  ·exact Dx i hi _ _ e
  ·rfl
 |tuple l=>exact Dx i hi _ _ e
 |_=>rfl
theorem BB:BI a b F e h=Yh (a F e h) b F:=by
 unfold BI Yh;cases a F e h<;>rfl
theorem Ap{i:Nat}:AY i a F e h=KK i (a F e h):=by
 unfold AY KK;cases a F e h<;>rfl
theorem HY:Io x a b F e h=Qq (x e) a b F e h:=by
 unfold Io Qq;cases x e with
 |bool c=>cases c<;>rfl
 |_=>rfl
theorem MX:An F e h=.norm e h:=rfl
theorem VX:Ar F e h=.ret e h:=rfl
theorem Qj{i:Nat}:CA i F e h=.exit i e h:=rfl
theorem AD{i j:Nat}{v:IN}(hi:i<160)(hj:j<160):J j (Env.set i v e)=if j=i then v else J j e:=by
 rw[C0 j hj,Env.AES _ _ _ _ hi hj,C0 j hj]
theorem Ho{v:IN}:kV v e=v:=rfl
theorem A1:vals e []=[]:=rfl
theorem AV{l:List O}:vals e (x::l)=x e::vals e l:=rfl
theorem LZ{i:Nat}:AQ e i []=e:=rfl
theorem J4{i:Nat}{v:IN}{l:List IN}:AQ e i (v::l)=AQ (Env.set i v e) (Nat.succ i) l:=rfl
theorem Dw:AP x F e h=.ok (x e) h:=E9 _ _
theorem Gl{i:Nat}(hi:i<160):G i f k F e h=opX i (f F e h) k F e:=nQ hi
theorem Ti{a:Nat}{w:Bool}{i:Nat}(hi:i<160):Ak a w i f k F e h=Hh (J a e) w (G i f k) (Wz i k) F e h:=uB hi
theorem PN{i:Nat}:Bo i a b F e h=Qq (J i e) a b F e h:=HY
theorem Gw{i:Nat}:Ah i F e h=.ok (J i e) h:=Dw
theorem Eu{j:wH}{n:Int}:Ce j (.int j n)=.ok n:=by cases j<;>rfl
theorem iG{j:wH}{n:Nat}:Fw j (.int j (.ofNat n))=.ok n:=by cases j<;>rfl
theorem IU{j:wH}{n:Nat}:Fw j (.int j (n:Int))=.ok n:=iG
theorem C9{j:wH}{n:Nat}:DE (.int j (n:Int))=.ok n:=rfl
theorem Ff{c:Bool}:okB c h=.ok (.bool c) h:=by cases c<;>rfl
theorem Hj(a b:Int):iGt a b=decide (b<a):=C4 b a
theorem UJ(a b:Int):iLe a b=decide (a<=b):=by
 show(!iLt b a)=_;rw[C4,<- decide_not]
 congr 1;simp
theorem Pf(a b:Int):iGe a b=decide (b<=a):=UJ b a
theorem Hl(a b:Int):iNe a b= !(a == b):=by
 show(!iEq a b)=_;rw[EM]
def pA(f:Int->Int->Bool)(j:wH)(a b:IN)(h:Hp):R:=fT f (Ce j a) (Ce j b) h
def Ft(f:Int->Int->Int)(j:wH)(a b:IN)(h:Hp):R:=lH f j (Ce j a) (Ce j b) h
theorem AJ{f:Int->Int->Bool}{j:wH}:Ai f j x y F e h=pA f j (x e) (y e) h:=rfl
theorem Bu{f:Int->Int->Int}{j:wH}:Cr f j x y F e h=Ft f j (x e) (y e) h:=rfl
theorem AH{f:Int->Int->Bool}{j:wH}{m n:Int}:pA f j (.int j m) (.int j n) h=.ok (.bool (f m n)) h:=by
 unfold pA;rw[Eu,Eu];exact Ff
theorem CV{f:Int->Int->Int}{j:wH}{m n:Int}:Ft f j (.int j m) (.int j n) h=.ok (.int j (j.wrap (f m n))) h:=by
 unfold Ft;rw[Eu,Eu];show okI j (EU j (f m n)) h=_;rw[El,C1]
def Fs(j:wH)(a b:IN)(h:Hp):R:=eU j (BC j) (Ce j a) (Ce j b) h
theorem BG{j:wH}:CG j (BC j) x y F e h=Fs j (x e) (y e) h:=rfl
theorem eK{j:wH}{n:Nat}(hn:vx n (BC j)=true):j.wrap (n:Int)=n:=by
 rw[<- C1];show zD (motive:=fun _=>Int) (j.wrap (.ofNat n)) (.ofNat n) (vx n (BC j))=_;rw[hn];rfl
theorem Er{j:wH}{m n:Int}:Fs j (.int j m) (.int j n) h=.ok (.int j (j.wrap (m+n))) h:=by
 unfold Fs;rw[Eu,Eu];cases m with
 |negSucc m=>show okI j (EU j _) h=_;rw[El,C1]
 |ofNat m=>
  cases n with
  |negSucc n=>show okI j (EU j _) h=_;rw[El,C1]
  |ofNat n=>
   show zD (motive:=fun _=>R) (okI j (j.wrap (.ofNat m+.ofNat n)) h) (AEU (xc m n) fun n=>.ok (.int j (.ofNat n)) h) (vx (xc m n) (BC j))=_;cases hb:vx (xc m n) (BC j)with
   |false=>simp only;rw[El]
   |true=>
    simp only;rw[AZ];have:=eK hb;have e:(wj m+wj n:Int)=((xc m n:Nat):Int):=by
     show((m:Int)+(n:Int))=((m+n:Nat):Int);omega
    rw[e,this];rfl
def UA(j:wH)(a b:IN)(h:Hp):R:=aJ j (Ce j a) (Ce j b) h
def Sr(j:wH)(a b:IN)(h:Hp):R:=dG j (Ce j a) (Ce j b) h
theorem Jr{j:wH}:Lj j x y F e h=UA j (x e) (y e) h:=rfl
theorem Js{j:wH}:N1 j x y F e h=Sr j (x e) (y e) h:=rfl
theorem Lu{j:wH}{m n:Int}(hn:n≠0):UA j (.int j m) (.int j n) h=.ok (.int j (j.wrap (m.tdiv n))) h:=by
 unfold UA;rw[Eu,Eu];show(bif iEq n 0 then R.no else okI j (EU j (m.tdiv n)) h)=_;rw[EM,El,C1,beq_false_of_ne hn];rfl
theorem QJ{j:wH}{m n:Int}(hn:n≠0):Sr j (.int j m) (.int j n) h=.ok (.int j (m.tmod n)) h:=by
 unfold Sr;rw[Eu,Eu];show(bif iEq n 0 then R.no else okI j (m.tmod n) h)=_;rw[EM,El,beq_false_of_ne hn];rfl
def ZF(f:Nat->Nat->Nat)(j:wH)(a b:IN)(h:Hp):R:=ZE f j (Fw j a) (Fw j b) h
theorem iT{f:Nat->Nat->Nat}{j:wH}:K4 f j x y F e h=ZF f j (x e) (y e) h:=rfl
theorem VU{f:Nat->Nat->Nat}{j:wH}{m n:Nat}(hm:m<=BC j)(hn:n<=BC j):ZF f j (.int j (m:Int)) (.int j (n:Int)) h=.ok (.int j (f m n:Nat)) h:=by
 unfold ZF;rw[IU,IU];show(bif vx m (BC j)then(bif vx n (BC j)then okI j (.ofNat (f m n)) h else R.no)else R.no)=_;rw[Ac.2 hm,Ac.2 hn,El];rfl
def jd(j:wH)(a b:IN)(h:Hp):R:=dQ j (Fw j a) (DE b) h
def dS(j:wH)(a b:IN)(h:Hp):R:=dR j (Fw j a) (DE b) h
theorem Wb{j:wH}:N2 j x y F e h=jd j (x e) (y e) h:=rfl
theorem Wc{j:wH}:Lk j x y F e h=dS j (x e) (y e) h:=rfl
theorem je{j q:wH}{m n:Nat}:jd j (.int j (m:Int)) (.int q (n:Int)) h=.ok (.int j (j.wrap ((m*2 ^ min n j.bits:Nat):Int))) h:=by
 unfold jd;rw[IU,C9];show okI j (EU j (.ofNat (Nat.mul m (Nat.pow 2 (B6 n j.bits))))) h=_;rw[El,C1,BM];rfl
theorem Wy{j q:wH}{m n:Nat}:dS j (.int j (m:Int)) (.int q (n:Int)) h=.ok (.int j ((m/2 ^ min n j.bits:Nat):Int)) h:=by
 unfold dS;rw[IU,C9];show okI j (.ofNat (Nat.div m (Nat.pow 2 (B6 n j.bits)))) h=_;rw[El,BM];rfl
def DS(j:wH)(a:IN)(h:Hp):R:=match X0 a with
 |.ok n=>okI j (EU j n) h
 |.no=>.no
theorem CH{j:wH}:Cm j x F e h=DS j (x e) h:=rfl
theorem Cd{j q:wH}{n:Int}:DS j (.int q n) h=.ok (.int j (j.wrap n)) h:=by
 show okI j (EU j n) h=_;rw[El,C1]
def uQ(a:IN)(h:Hp):R:=match a with
 |.bool b=>okB (!b) h
 |_=>.no
theorem Bi:Ds x F e h=uQ (x e) h:=rfl
theorem Bh{c:Bool}:uQ (.bool c) h=.ok (.bool (!c)) h:=Ff
def cu(c a b:IN)(h:Hp):R:=cw c a b h
theorem SM{c:O}:A0 c x y F e h=cu (c e) (x e) (y e) h:=rfl
theorem NZ{v u:IN}:cu (.bool true) v u h=.ok v h:=E9 _ _
theorem LV{v u:IN}:cu (.bool false) v u h=.ok u h:=E9 _ _
theorem Ba{g:Nat}{l:List O}:AS g l F e h=F g (vals e l) h:=CX _ _
theorem Ae{bs:FT}{n f:Nat}{b:Body}(hb:bs.get f=some b){args:List IN}:call bs (Nat.succ n) f args h=enter (call bs n) b args h:=by
 show(match bs.get f with|some b=>enter (call bs n) b args h|none=>.no)=_;rw[hb]
theorem AW{rs:List RV}{c:C}{args:List IN}(hl:vx (BA args) 160=true)(hx:VC rs=none:=by rfl):enter F ⟨rs,c⟩ args h=A5 rs (c F (AQ e0 0 args) h):=by
 unfold enter;rw[hx];show(bif vx (BA args) 160 then A5 rs (c F (AQ e0 0 args) h)else .no)=_;rw[hl];rfl
theorem Bg{rs:List RV}:A5 rs (.ret e h)=FF rs e h:=rfl
theorem De{rs:List RV}:A5 rs (.norm e h)=FF rs e h:=rfl
theorem Q8{g:O}:FF [.t g] e h=.ok (g e) h:=by
 show AEQ (g e) _=_;rw[BH];rfl
theorem C7{g g':O}:FF [.t g,.t g'] e h=.ok (.tuple ⟨[g e,g' e]⟩) h:=by
 show AEQ (g e) (fun v=>AEQ (g' e) _)=_;rw[BH,BH];rfl
theorem Mp{g g' g'':O}:FF [.t g,.t g',.t g''] e h=.ok (.tuple ⟨[g e,g' e,g'' e]⟩) h:=by
 show AEQ (g e) (fun v=>AEQ (g' e) (fun v=>AEQ (g'' e) _))=_;rw[BH,BH,BH];rfl
def GQ(i:Nat)(a:IN)(h:Hp):R:=match a with
 |.tuple vs=>match nth vs.toList i with
  |some v=>.ok v h
  |none=>.no
 |_=>.no
theorem BK{i:Nat}:Af i x F e h=GQ i (x e) h:=by
 show(match x e with|.tuple vs=>(match nth vs.toList i with|some v=>AEQ v fun v=>.ok v h|none=>.no)|_=>.no)=_;unfold GQ;cases x e with
 |tuple vs=>
  simp only;cases nth vs.toList i with
  |some v=>exact BH _ _
  |none=>rfl
 |_=>rfl
theorem BW{v:IN}{l:List IN}:GQ 0 (.tuple ⟨v::l⟩) h=.ok v h:=rfl
theorem BZ{u v:IN}{l:List IN}:GQ 1 (.tuple ⟨u::v::l⟩) h=.ok v h:=rfl
theorem C3{t u v:IN}{l:List IN}:GQ 2 (.tuple ⟨t::u::v::l⟩) h=.ok v h:=rfl
end
end
end Go.Proofs.YtedbmmfebjfibaaGreat
