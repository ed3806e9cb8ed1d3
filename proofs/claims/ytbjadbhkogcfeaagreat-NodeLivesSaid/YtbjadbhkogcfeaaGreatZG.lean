/-
  Part ZG of what Lawnl stands on: printed by program, names and spaces cut.
-/
import Derived.Test.YtbjadbhkogcfeaaGreatZF
import Derived.LoopN
import Derived.Scope
import Derived.Below
import Derived.ChangeSame
open Go renaming Value→IN,IntKind→xc,World→yJ,MapEntry→yc,Program→yg,Oper→zu,ResultVar→ACF,Code→AC5,results→ADE,Exit→ADv
open Go.Result renaming andThen_ok→If
open List renaming getElem?_eq_getElem→xL,length_cons→xP,mem_cons_of_mem→xS,mem_cons_self→xT,mem_cons→xe,mem_append→yH,mem_append_right→yI,mem_append_left→yN,mem_filter→yS,all_eq_true→AAQ,size_toArray→ABS,mapM_cons→ABu
open Go.Sem renaming run_bind→xO,run_pure→xQ
open Nat renaming ble→xU,beq→xW,blt→ye,add→zA,beq_refl→zG,le_of_eq→AA2,le_max_right→AA5,min_le_left→ABC,le_max_left→ACP,succ_pos→ACe
open Bool renaming and_eq_true→xk,false_eq_true→yG,rec→AAF
open Int renaming ofNat→yi
open Array renaming ext'→yj,getElem?_setIfInBounds→zb,toList_filter→ABN
open Go.Instr renaming next→zR,extract→ABT
open Go.Question renaming forced→AAl
open Go.Region renaming wanted→ABI
open Go.Oper renaming upon_value→ABh
open Go.Code renaming rounds→ABl,seq→ACA,region→ADk,loop→AD2
open SizeOf renaming sizeOf→ABs
open Go.DataW renaming TrodAll→ADN
open Go.Exit renaming inBlock→ADZ
open Classical renaming choose→ADl,choose_spec→ADw
set_option linter.unusedSimpArgs false
set_option linter.unusedVariables false
namespace Go.Proofs.YtbjadbhkogcfeaaGreat
noncomputable section
open Go
def Ag(S:List Nat)(e e':Env):Prop:=∀ t,t<160->t∉S->e'.get t=e.get t
theorem Ag.refl(S:List Nat)(e:Env):Ag S e e:=fun _ _ _=>rfl
theorem Ag.trans{S:List Nat}{e e1 e2:Env}(h:Ag S e e1)(h2:Ag S e1 e2):Ag S e e2:=fun t ht hn=>(h2 t ht hn).trans (h t ht hn)
def G5(S:List Nat)(e:Env):X->Prop
 |.no=>True
 |.norm e' _=>Ag S e e'
 |.exit _ e' _=>Ag S e e'
 |.ret e' _=>Ag S e e'
theorem G5.of{S:List Nat}{e e1:Env}{x:X}(h:Ag S e e1)(h2:G5 S e1 x):G5 S e x:=by
 cases x with
 |no=>trivial
 |norm _ _=>exact h.trans h2
 |exit _ _ _=>exact h.trans h2
 |ret _ _=>exact h.trans h2
def CG(S:List Nat)(c:C):Prop:=∀ F e h,G5 S e (c F e h)
theorem OU{S:List Nat}{d:Nat}(hd:d∈S)(hl:d<160)(v:IN)(e:Env):Ag S e (Env.set d v e):=fun t ht hn=>by
 rw[Env.AEQ _ _ _ _ hl ht,if_neg (by rintro rfl;exact hn hd)]
theorem Pf{S:List Nat}:∀ (l:List Nat) (e:Env),(∀ d∈l,d∈S/\d<160)->Ag S e (Cz e l)
 |[],e,_=>.refl _ _
 |d::l,e,h=>(OU (h d xT).1 (h d xT).2 _ e).trans (Pf l _ fun d hd=>h d (xS _ hd))
section
variable {S:List Nat}
theorem Ch:CG S cNo:=fun _ _ _=>trivial
theorem S6:CG S Aw:=fun _ e _=>.refl _ e
theorem Xo:CG S Aq:=fun _ e _=>.refl _ e
theorem S4(id:Nat):CG S (CD id):=fun _ e _=>.refl _ e
theorem Qd{d:Nat}{f:OpF}{k:C}(hd:d∈S)(hl:d<160)(hk:CG S k):CG S (SR (FD d) f k):=fun F e h=>by
 unfold SR;cases f F e h with
 |no=>trivial
 |ok v h'=>
  show G5 S e (FD d (fun e=>k F e h') v e);rw[Dy d hl];exact .of (OU hd hl v e) (hk F _ h')
theorem Z2{f:OpF}{k:C}(hk:CG S k):CG S (cDo f k):=fun F e h=>by
 unfold cDo;cases f F e h with
 |no=>trivial
 |ok v h'=>exact hk F e h'
theorem iC{g:Env->IN}{w:Bool}{d:Nat}{f:OpF}{k:C}(hd:d∈S)(hl:d<160)(hk:CG S k):CG S (cG g w (FD d) f k):=fun F e h=>by
 have h0:G5 S e (FD d (fun e=>k F e h) AEE e):=by
  rw[Dy d hl];exact .of (OU hd hl _ e) (hk F _ h)
 unfold cG;split
 ·rename_i b _
  cases (w == b)with
  |true=>exact Qd hd hl hk F e h
  |false=>exact h0
 ·exact h0
 ·trivial
theorem KU{w:Env->IN}{rs:List (Env->IN)}{k:C}(hk:CG S k):CG S (Cf w rs k):=fun F e h=>by
 unfold Cf;split
 ·rename_i b _
  cases DA b e rs with
  |true=>exact hk F e h
  |false=>trivial
 ·exact hk F e h
theorem Xn{x:O}{k:C}(hk:CG S k):CG S (EJ x k):=fun F e h=>by
 unfold EJ;split
 ·rename_i b _
  cases ye b h.mark with
  |true=>exact hk F e h
  |false=>trivial
 ·exact hk F e h
theorem S5{k:C}(hk:CG S k):CG S (B6 k):=fun F e h=>hk F e _
theorem N2{a b:C}(ha:CG S a)(hb:CG S b):CG S (BH a b):=fun F e h=>by
 have:=ha F e h;unfold BH;cases hx:a F e h with
 |no=>trivial
 |norm e1 h1=>rw[hx]at this;exact .of this (hb F e1 h1)
 |exit i e1 h1=>rw[hx]at this;exact this
 |ret e1 h1=>rw[hx]at this;exact this
theorem In{c:O}{a b:C}(ha:CG S a)(hb:CG S b):CG S (IR c a b):=fun F e h=>by
 show G5 S e (lm (c e) (a F e h) (b F e h));cases c e<;>first|trivial|skip
 rename_i t;cases t with
 |true=>exact ha F e h
 |false=>exact hb F e h
theorem K3{id:Nat}{a:C}(ha:CG S a):CG S (Ac id a):=fun F e h=>by
 have:=ha F e h;unfold Ac;cases hx:a F e h with
 |no=>trivial
 |norm e1 h1=>rw[hx]at this;exact this
 |exit i e1 h1=>
  rw[hx]at this;show G5 S e (bif xW i id then .norm e1 h1 else .exit i e1 h1);cases xW i id<;>exact this
 |ret e1 h1=>rw[hx]at this;exact this
theorem MY{a:C}(ha:CG S a):∀ n,CG S (iter a n)
 |0=>fun _ _ _=>trivial
 |n+1=>fun F e h=>by
  have:=ha F e h;unfold iter;cases hx:a F e h with
  |no=>trivial
  |norm e1 h1=>rw[hx]at this;exact .of this (MY ha n F e1 h1)
  |exit i e1 h1=>rw[hx]at this;exact this
  |ret e1 h1=>rw[hx]at this;exact this
theorem MZ{a:C}(ha:CG S a):CG S (A6 a):=MY ha rounds
theorem N1{e:Env}{c:Bool}{x:X}(hx:G5 S e x):G5 S e (bif c then x else .no):=by
 cases c
 ·trivial
 ·exact hx
theorem S7{k:Walk}{a:C}(hw:∀ d∈k.ws,d∈S/\d<160)(hm:k.more∈S/\k.more<160)(hr:∀ d∈k.rs,d∈S/\d<160)(ha:CG S a):CG S (I7 k a):=fun F e h=>by
 have hl:=MZ ha F e h;have hcl:∀ b,G5 S e (Fw k a F e h b):=fun b=>by
  unfold Fw;split
  ·exact(Pf _ _ hw).trans (OU hm.1 hm.2 _ _)
  ·trivial
 unfold I7;cases J k.it e<;>first|trivial|skip
 rename_i o;cases o with
 |none=>trivial
 |some ad=>
  simp only;cases EO (h.bl.get ad.block)with
  |ok m since seen last=>
   cases m with
   |none=>exact hl
   |some m=>
    cases seen with
    |cons _ _=>trivial
    |nil=>
     simp only;cases Bk h m with
     |no=>trivial
     |ok es c=>
      cases es with
      |nil=>exact hl
      |cons x l=>
       cases l with
       |nil=>exact hl
       |cons y l=>
        show G5 S e (bif xW ad.off 0 then(bif xU 256 ad.block then Fw k a F e h ad.block else .no)else .no);exact N1 (N1 (hcl _))
  |_=>exact hl
end
theorem Zf{o:zu}{d:Nat}(hd:o.dst=some d):∀ (l:List zu),o∈l->d∈JI l:=by
 intro l
 induction l with
 |nil=>intro h;cases h
 |cons p l ih=>
  intro h;unfold JI;rcases xe.1 h with h|h
  ·rw[<- h,hd];exact xT
  ·have:=ih h
   split
   ·exact xS _ this
   ·exact this
theorem EV:∀ {c:AC5} {d:Nat},d∈Iu c->d∈wrs c
 |.seq a b,d,h=>by
  have h0:d∈Iu a++Iu b->d∈wrs a++wrs b:=fun h=>by
   rcases yH.1 h with h|h
   ·exact yN _ (EV h)
   ·exact yI _ (EV h)
  unfold Iu at h;split at h
  ·split at h
   ·exact yN _ h
   ·exact yN _ (EV h)
  ·exact h0 h
 |.cond _ a b,d,h=>by
  have h:d∈Iu a++Iu b:=h;rcases yH.1 h with h|h
  ·exact yN _ (EV h)
  ·exact yI _ (EV h)
 |.block _ a,d,h=>EV (c:=a) h
 |.loop a,d,h=>EV (c:=a) h
 |.scope a,d,h=>EV (c:=a) h
 |.region _ _ _,d,h=>by cases h
 |.skip,d,h=>by cases h
 |.exit _,d,h=>by cases h
 |.ret,d,h=>by cases h
 |.rangeFunc _ _ _ _,d,h=>by cases h
 |.label _,d,h=>by cases h
 |.goto _,d,h=>by cases h
 |.refuse _,d,h=>by cases h
theorem Ut:∀ {l:List Nat},gh l=true->∀ d∈l,d<160
 |d::l,h,x,hx=>by
  unfold gh at h;split at h
  ·rename_i hb
   rcases xe.1 hx with rfl|hx
   ·exact BW.1 hb
   ·exact Ut h x hx
  ·cases h
structure AFY (A:List Nat)(a:AC5)(k:Walk)(id:Nat)(o1 o2:zu)(r2:AC5):Prop where
 code:a=.seq (.region id #[o1,o2] false) (.seq (.cond (.tmp k.more) .skip (.exit k.out)) r2)
 op1:o1.op=.next (.tmp k.it) false
 AGT:o1.dst=some k.nx
 AHy:o1.guard=none
 op2:o2.op=.extract (.tmp k.nx) 0
 AGm:o2.dst=some k.more
 AHz:o2.guard=none
 ne:k.nx≠k.more
 itA:memN k.it A=false
 nxA:memN k.nx A=false
 moA:memN k.more A=false
 itL:k.it<160
 nxL:k.nx<160
 moL:k.more<160
 ws:k.ws=wrs a
 itW:k.it∉k.ws
 few:∀ d∈k.ws,d<160
 rs:∀ d∈k.rs,d∈k.ws
theorem Mf{t:Nat}:∀ {l:List Nat},memN t l=false->t∉l
 |d::l,h,hm=>by
  unfold memN at h;split at h
  ·cases h
  ·rename_i hb
   rcases xe.1 hm with rfl|hm
   ·rw[zG]at hb;cases hb
   ·exact Mf h hm
theorem ja{more out:Nat}{c:AC5}(h:wF more c=some out):∃ r2,c=.seq (.cond (.tmp more) .skip (.exit out)) r2:=by
 cases c with
 |seq a r=>cases a with
  |cond c x y=>cases c with
   |tmp t=>cases x with
    |skip=>cases y with
     |exit id=>
      have h:(match xW t more with|true=>some id|false=>none)=some out:=h;cases hb:xW t more with
      |false=>rw[hb]at h;cases h
      |true=>
       rw[hb]at h;cases h;have:=Ax.1 hb;subst this;exact⟨r,rfl⟩
     |_=>cases h
    |_=>cases h
   |_=>cases h
  |_=>cases h
 |_=>cases h
theorem SM{A:List Nat}{a:AC5}{k:Walk}(h:WQ A a=some k):∃ id o1 o2 r2,AFY A a k id o1 o2 r2:=by
 unfold WQ at h;split at h
 case h_2=>cases h
 rename_i x rest;split at h
 case h_2=>cases h
 rename_i id ops draw;split at h
 case h_2=>cases h
 unfold WP at h;split at h
 case h_2=>cases h
 rename_i o1 l1 hl0;split at h
 case h_2=>cases h
 rename_i o2 l2;split at h
 case h_2=>cases h
 split at h
 case h_2=>cases h
 rename_i x str AJc;split at h
 case h_2=>cases h
 rename_i it;split at h
 case h_2=>cases h
 split at h
 case h_2=>cases h
 rename_i nx hd1 hg1;split at h
 case h_2=>cases h
 rename_i y i AJd;split at h
 case h_2=>cases h
 rename_i n2;split at h
 case h_2=>cases h
 rename_i more hd2 hg2;split at h
 case h_2=>cases h
 rename_i hb;split at h
 case h_2=>cases h
 rename_i out hout;cases h;simp only[xk,Bool.not_eq_true']at hb;obtain⟨b1,b2,b3,b4,b5,b6,b7,b8,b9,b10,b11⟩:=hb;obtain⟨r2,rfl⟩:=ja hout;have e1:=Ax.1 b1;have e2:=Ax.1 b2;subst e1;subst e2;have AJe:ops= #[o1,o2]:=yj hl0;subst AJe;refine⟨id,o1,o2,r2,{code:=rfl,op1:=AJc,AGT:=hd1,AHy:=hg1,op2:=AJd,AGm:=hd2,AHz:=hg2,ne:=FO b3,itA:=b4,nxA:=b5,moA:=b6,itL:=BW.1 b7,nxL:=BW.1 b8,moL:=BW.1 b9,ws:=?_,itW:=Mf b10,few:=?_,rs:=?_}⟩
 ·show _=JI [o1,o2]++_
  simp only[JI,hd1,hd2];rfl
 ·intro d hd
  rcases xe.1 hd with rfl|hd
  ·exact BW.1 b8
  ·rcases xe.1 hd with rfl|hd
   ·exact BW.1 b9
   ·exact Ut b11 d hd
 ·intro d hd
  exact xS _ (xS _ (EV hd))
section
variable {ty:TTy}{A S:List Nat}
theorem Ha{f:Fr}{a:AEo}{o:OpF}{k:OpF->C}(hk:∀ p,CG S (k p)):CG S (HG f a o k):=by
 unfold HG;split
 ·exact hk _
 ·exact hk _
 ·split
  ·exact KU (hk _)
  ·exact Ch
 ·split
  ·split
   ·exact Xn (KU (hk _))
   ·exact KU (hk _)
  ·exact Ch
theorem KV{all:List zu}{k:Sg->C}(hk:∀ σ,CG S (k σ)):∀ (l:List zu) (ah:List AEo) (σ:Sg),(∀ o∈l,∀ d,o.dst=some d->d∈S)->CG S (Gr ty A all k ah l σ)
 |[],ah,σ,_=>by unfold Gr;exact hk σ
 |o::l,ah,σ,h=>by
  have ih:∀ ah σ,CG S (Gr ty A all k ah l σ):=fun ah σ=>KV hk l ah σ fun o ho=>h o (xS _ ho)
  have hd:=h o xT;unfold Gr;split
  ·exact Ha fun p=>Z2 (ih _ _)
  ·rename_i d _ hdd
   split
   ·split
    ·split
     ·exact ih _ _
     ·exact Ch
    ·exact Ch
   ·split
    ·rename_i hb
     exact Ha fun p=>Qd (hd d hdd) (BW.1 hb) (ih _ _)
    ·exact Ch
  ·rename_i d _ hdd
   split
   ·exact Ch
   ·split
    ·split
     ·split
      ·split
       ·rename_i hb
        exact Ha fun p=>iC (hd d hdd) (BW.1 hb) (ih _ _)
       ·exact Ch
      ·exact Ch
     ·exact Ch
    ·exact Ch
  ·exact Ch
theorem Gk{k:Option (Sg->C)}(hk:∀ k',k=some k'->∀ σ,CG S (k' σ))(σ:Sg):CG S (LE k σ):=by
 cases k with
 |none=>exact S6
 |some k=>exact hk k rfl σ
theorem CS:∀ (c:AC5) {σ:Sg} {k:Option (Sg->C)},(∀ d∈wrs c,d∈S)->(∀ k',k=some k'->∀ σ,CG S (k' σ))->CG S (Bv ty A c σ k)
 |.skip,σ,k,hw,hk=>Gk hk σ
 |.region _ ops draw,σ,k,hw,hk=>by
  have ho:∀ o∈ops.toList,∀ d,o.dst=some d->d∈S:=fun o ho d hd=>hw d (Zf hd _ ho)
  unfold Bv;split
  ·exact KV (fun σ=>Gk hk σ) _ _ _ ho
  ·split
   ·exact S5 (KV (fun σ=>Gk hk σ) _ _ _ ho)
   ·exact Ch
 |.seq a b,σ,k,hw,hk=>by
  have h1:∀ d∈wrs a,d∈S:=fun d hd=>hw d (yN _ hd)
  have h2:∀ d∈wrs b,d∈S:=fun d hd=>hw d (yI _ hd)
  exact CS a (σ:=σ) (k:=some fun σ=>Bv ty A b σ k) h1 fun k' e σ=>by cases e;exact CS b h2 hk
 |.cond c a b,σ,k,hw,hk=>by
  have h1:∀ d∈wrs a,d∈S:=fun d hd=>hw d (yN _ hd)
  have h2:∀ d∈wrs b,d∈S:=fun d hd=>hw d (yI _ hd)
  unfold Bv;split
  ·split
   ·exact In (CS a h1 fun _ e=>by cases e) (CS b h2 fun _ e=>by cases e)
   ·rename_i k'
    split
    ·exact N2 (In (CS a h1 fun _ e=>by cases e) (CS b h2 fun _ e=>by cases e)) (hk k' rfl [])
    ·exact In (CS a h1 hk) (CS b h2 hk)
  ·exact Ch
 |.block id a,σ,k,hw,hk=>by
  have h1:∀ d∈wrs a,d∈S:=hw;unfold Bv;split
  ·exact K3 (CS a h1 fun _ e=>by cases e)
  ·rename_i k'
   exact N2 (K3 (CS a h1 fun _ e=>by cases e)) (hk k' rfl [])
 |.loop a,σ,k,hw,hk=>by
  have h1:∀ d∈wrs a,d∈S:=hw;have h2:CG S (Bv ty A a [] none):=CS a h1 fun _ e=>by cases e
  unfold Bv;split
  ·rename_i k hk
   obtain⟨id,o1,o2,r2,W⟩:=SM hk;have hm:∀ d∈k.ws,d∈S/\d<160:=fun d hd=>⟨h1 d (W.ws ▸ hd),W.few d hd⟩
   refine S7 hm (hm _ ?_) (fun d hd=>hm d (W.rs d hd)) h2;rw[W.ws,W.code];show _∈JI [o1,o2]++_;simp[JI,W.AGT,W.AGm]
  ·exact MZ h2
 |.exit id,σ,k,hw,hk=>S4 id
 |.ret,σ,k,hw,hk=>Xo
 |.scope a,σ,k,hw,hk=>CS a (σ:=σ) (k:=k) hw hk
 |.label _,σ,k,hw,hk=>Gk hk σ
 |.rangeFunc _ _ _ _,σ,k,hw,hk=>Ch
 |.goto _,σ,k,hw,hk=>Ch
 |.refuse _,σ,k,hw,hk=>Ch
end
structure Good (ty:TTy)(A:List Nat)(N:Nat)(φ:Phi)(h:Hp)(w:yJ)(σ:Sg)(e:Env)(h':Hp)(ψ:Phi)(a:Act)(w':yJ):Prop where
 sg:AFV A σ
 rel:AEI ty ψ nil h' w'
 ar:AR N ψ (AEZ A σ e) a
 evo:Evo φ h w ψ h' w'
section
variable {P:yg}{ty:TTy}{F:AEB}{A:List Nat}{N:Nat}
theorem jo{σ:Sg}(hS:AFV A σ){e:Env}{t:Nat}{u:IN}(h:AEZ A [] e t=some u):AEZ A σ e t=some u:=by
 rw[EW]at h ⊢;have h:(match memN t A with|true=>none|false=>match ye t 160 with|true=>some (J t e)|false=>none)=some u:=h;cases hf:Da t σ with
 |some s=>
  have:=hS.mem _ (Eh hf);simp only at this;rw[this]at h;cases h
 |none=>exact h
theorem AR.nil{φ:Phi}{σ:Sg}{e:Env}{a:Act}(hS:AFV A σ)(h:AR N φ (AEZ A σ e) a):AR N φ (AEZ A [] e) a:=⟨h.size,h.defs,fun t u hu=>h.rel t u (jo hS hu)⟩
theorem Good.nil{φ ψ:Phi}{h h':Hp}{w w':yJ}{σ:Sg}{e:Env}{a:Act}(g:Good ty A N φ h w σ e h' ψ a w'):Good ty A N φ h w [] e h' ψ a w':=⟨.nil A,g.rel,g.ar.nil g.sg,g.evo⟩
theorem Good.trans{φ ψ χ:Phi}{h h' h2:Hp}{w w' w2:yJ}{σ σ2:Sg}{e e2:Env}{a a2:Act}(g:Good ty A N φ h w σ e h' ψ a w')(g2:Good ty A N ψ h' w' σ2 e2 h2 χ a2 w2):Good ty A N φ h w σ2 e2 h2 χ a2 w2:=
 ⟨g2.sg,g2.rel,g2.ar,g.evo.trans g2.evo⟩
structure Post (ty:TTy)(A:List Nat)(N:Nat)(F:AEB)(φ:Phi)(h:Hp)(w:yJ)(k:Option (Sg->C))(X:X)(Q:ADv->Act->yJ->Prop):Prop where
 go:∀ k',k=some k'->∀ σ e h' ψ a' w',Good ty A N φ h w σ e h' ψ a' w'->k' σ F e h'=X->Q .normal a' w'
 norm:k=none->∀ e h' ψ a' w',Good ty A N φ h w [] e h' ψ a' w'->X=.norm e h'->Q .normal a' w'
 exit:∀ id e h' ψ a' w',Good ty A N φ h w [] e h' ψ a' w'->X=.exit id e h'->Q (.exit id) a' w'
 ret:∀ e h' ψ a' w',Good ty A N φ h w [] e h' ψ a' w'->X=.ret e h'->Q .ret a' w'
theorem Post.then{φ:Phi}{h:Hp}{w:yJ}{k:Option (Sg->C)}{X:X}{Q:ADv->Act->yJ->Prop}(p:Post ty A N F φ h w k X Q){σ:Sg}{e:Env}{h':Hp}{ψ:Phi}{a':Act}{w':yJ}(g:Good ty A N φ h w σ e h' ψ a' w')(hx:LE k σ F e h'=X):Q .normal a' w':=by
 cases k with
 |none=>exact p.norm rfl e h' ψ a' w' g.nil hx.symm
 |some k'=>exact p.go k' rfl σ e h' ψ a' w' g hx
theorem aJ{w:yJ}{pb mb clk:Nat}{seen:List Nat}{es:List yc}{t:TypeId}(hw:w.heap[pb]? =some (.mapIter (some mb) clk ⟨seen⟩ clk))(hm:w.heap[mb]? =some (.map ⟨es⟩ clk))(hb:∀ x∈es,x.born<clk):
  ((∀ x∈es,x.born∈seen)/\(zR (.pointer (some ⟨pb,0,none⟩)) false t).run P w=.ok (.tuple #[.bool false]) w)\/
  ∃ x∈es,x.born∉seen/\∃ w1:yJ,w1.heap=w.heap/\w1.tape=w.tape/\w1.os=w.os/\w1.output=w.output/\
   (zR (.pointer (some ⟨pb,0,none⟩)) false t).run P w=.ok (.tuple #[.bool true,x.key,x.val]) {w1 with heap:=w1.heap.setIfInBounds pb (.mapIter (some mb) clk ⟨seen++[x.born]⟩ clk)}:=by
 have hstop:(!(⟨seen⟩:Array Nat).isEmpty && !(⟨es⟩:Array yc).isEmpty && (⟨es⟩:Array yc).all (fun e=>decide (e.born>=clk)))=false:=by
  cases es with
  |nil=>simp
  |cons x l=>
   have:=hb x xT;simp[Nat.not_le.2 this]
 generalize hl:es.filter (fun e=> !seen.contains e.born)=left;have hmem:∀ x∈left,x∈es/\x.born∉seen:=fun x hx=>by
  rw[<- hl,yS]at hx;exact⟨hx.1,by simpa using hx.2⟩
 have hlt:∀ x∈left,x.born<clk:=fun x hx=>hb x (hmem x hx).1
 have f1:(⟨es⟩:Array yc).filter (fun e=> !(⟨seen⟩:Array Nat).contains e.born)=⟨left⟩:=by
  rw[<- hl];apply yj;simp
 have f2:(⟨left⟩:Array yc).filter (fun e=>decide (e.born<clk))=⟨left⟩:=by
  apply yj;rw[ABN];exact List.filter_eq_self.2 fun x hx=>by simpa using hlt x hx
 have f3:(⟨left⟩:Array yc).filter (fun e=>decide (e.born>=clk))= #[]:=by
  apply yj;rw[ABN];exact List.filter_eq_nil_iff.2 fun x hx=>by simpa using hlt x hx
 cases hc:left with
 |nil=>
  left;refine⟨fun x hx=>?_,?_⟩
  ·by_cases hs:x.born∈seen
   ·exact hs
   ·have:x∈left:=by rw[<- hl,yS];exact⟨hx,by simpa using hs⟩
    rw[hc]at this;cases this
  ·subst hc
   simp only[zR,xO,B7 hw rfl,If,B7 hm rfl,hstop,yG,if_false,f1,f2,f3];simp[run_choose,AAl]
 |cons y ys=>
  right;have hpos:0<left.length:=by rw[hc];simp
  have hne:(⟨left⟩:Array yc).isEmpty=false:=by rw[hc];simp
  have key:∀ (i:Nat) (hi:i<left.length) (w1:yJ),(choose (.mapNext left.length)).run P w=.ok i w1->w1.heap=w.heap->
    (zR (.pointer (some ⟨pb,0,none⟩)) false t).run P w=.ok (.tuple #[.bool true,(left[i]).key,(left[i]).val]) {w1 with heap:=w1.heap.setIfInBounds pb (.mapIter (some mb) clk ⟨seen++[(left[i]).born]⟩ clk)}:=by
   intro i hi w1 hch hh;have AH0:((#[]:Array (Option yc))++((⟨left⟩:Array yc)++ #[]).map some)[i]? =some (some left[i]):=by
    simp[xL hi]
   have hsz:((#[]:Array (Option yc))++((⟨left⟩:Array yc)++ #[]).map some).size=left.length:=by simp
   have AEp:=EB (P:=P) (w:=w1) (ob':=.mapIter (some mb) clk ⟨seen++[(left[i]).born]⟩ clk) (by rw[hh];exact hw) rfl;simp only[zR,xO,B7 hw rfl,If,B7 hm rfl,hstop,yG,if_false,f1,f2,f3,hne,hsz,hch,AH0];have AGb:(⟨seen⟩:Array Nat).push (left[i]).born=⟨seen++[(left[i]).born]⟩:=by apply yj;simp
   rw[AGb,AEp];simp
  have pick:∀ (i:Nat) (hi:i<left.length) (w1:yJ),(choose (.mapNext left.length)).run P w=.ok i w1->w1.heap=w.heap->w1.tape=w.tape->w1.os=w.os->w1.output=w.output->
    ∃ x∈es,x.born∉seen/\∃ w1:yJ,w1.heap=w.heap/\w1.tape=w.tape/\w1.os=w.os/\w1.output=w.output/\
     (zR (.pointer (some ⟨pb,0,none⟩)) false t).run P w=.ok (.tuple #[.bool true,x.key,x.val]) {w1 with heap:=w1.heap.setIfInBounds pb (.mapIter (some mb) clk ⟨seen++[x.born]⟩ clk)}:=by
   intro i hi w1 hch h1 h2 h3 h4;have:=hmem left[i] (List.getElem_mem hi);exact⟨left[i],this.1,this.2,w1,h1,h2,h3,h4,key i hi w1 hch h1⟩
  by_cases hf:left.length<=1
  ·exact pick 0 hpos w (by rw[run_choose];simp[AAl,hf]) rfl rfl rfl rfl
  ·exact pick (w.tape w.drawn (.mapNext left.length) % left.length) (Nat.mod_lt _ hpos) {w with drawn:=w.drawn+1} (by rw[run_choose];simp[AAl,hf,Question.cut]) rfl rfl rfl rfl
theorem Jz{o:zu}(h:o.guard=none)(f:Nat->Option Bool):ABI o f=true:=by
 unfold ABI;rw[h]
theorem jm(a:Act)(d:Nat)(v:IN)(t:Nat):(a.put (some d) v).eval (.tmp t)=if d=t/\t<a.tmps.size then v else a.eval (.tmp t):=by
 show(a.put (some d) v).tmps.getD t undef=_;rw[Hl];by_cases h:d=t
 ·subst h;simp[Act.eval]
 ·rw[if_neg (fun h2=>h (Option.some.inj h2.1)),if_neg (fun h2=>h h2.1)];rfl
theorem YP{k:Walk}{a0:AC5}{id:Nat}{o1 o2:zu}{r2:AC5}(W:AFY A a0 k id o1 o2 r2){a:Act}{w:yJ}{pb mb clk:Nat}{seen:List Nat}{es:List yc}
  (hit:a.eval (.tmp k.it)=.pointer (some ⟨pb,0,none⟩))(hnx:k.nx<a.tmps.size)(hw:w.heap[pb]? =some (.mapIter (some mb) clk ⟨seen⟩ clk))(hm:w.heap[mb]? =some (.map ⟨es⟩ clk))(hb:∀ x∈es,x.born<clk)
  {Q:ADv->Act->yJ->Prop}(AH1:(∀ x∈es,x.born∈seen)->Q .normal ((a.put (some k.nx) (.tuple #[.bool false])).put (some k.more) (.bool false)) w)
  (hgo:∀ x∈es,x.born∉seen->∀ w1:yJ,w1.heap=w.heap.setIfInBounds pb (.mapIter (some mb) clk ⟨seen++[x.born]⟩ clk)->w1.tape=w.tape->w1.os=w.os->w1.output=w.output->
   Q .normal ((a.put (some k.nx) (.tuple #[.bool true,x.key,x.val])).put (some k.more) (.bool true)) w1):
  (ADk id #[o1,o2] false).wp P Q a w:=by
 refine wp_region_list ?_;have hx1:execOp a.eval o1=(do pure (.value (<- zR (a.eval (.tmp k.it)) false o1.type))):=by unfold execOp;rw[W.op1]
 have two:∀ (c:Bool) (vs:Array IN) (w1:yJ),Q .normal ((a.put (some k.nx) (.tuple (#[.bool c]++vs))).put (some k.more) (.bool c)) w1->wpList P #[o1,o2] Q [o2] (a.put (some k.nx) (.tuple (#[.bool c]++vs))) w1:=by
  intro c vs w1 hq;unfold wpList;rw[if_pos (Jz W.AHz _)];refine .inl ?_;have hx2:execOp (a.put (some k.nx) (.tuple (#[.bool c]++vs))).eval o2=(do pure (.value (<- ABT ((a.put (some k.nx) (.tuple (#[.bool c]++vs))).eval (.tmp k.nx)) 0))):=by unfold execOp;rw[W.op2]
  unfold Oper.wp;rw[hx2,jm,if_pos ⟨rfl,hnx⟩];have hex:(ABT (.tuple (#[.bool c]++vs)) 0).run P w1=.ok (.bool c) w1:=by
   have h0:(#[Value.bool c]++vs)[0]? =some (.bool c):=by simp[Array.getElem?_append]
   simp only[ABT,h0,xQ]
  rw[xO,hex,If,xQ,ABh,W.AGm];exact hq
 show wpList P #[o1,o2] Q [o1,o2] a w;rw[show wpList P #[o1,o2] Q [o1,o2] a w=(if ABI o1 (yielded #[o1,o2] a.tmps)then o1.wp P a w (wpList P #[o1,o2] Q [o2]) Q\/(o1.asks P a w/\LetsOut Q)else wpList P #[o1,o2] Q [o2] (a.put o1.dst undef) w)from rfl];rw[if_pos (Jz W.AHy _)];refine .inl ?_;unfold Oper.wp;rw[hx1,hit];rcases aJ (P:=P) (t:=o1.type) hw hm hb with ⟨hall,hrun⟩|⟨x,hx,hns,w1,e1,e2,e3,e4,hrun⟩
 ·rw[xO,hrun,If,xQ,ABh,W.AGT]
  exact two false #[] w (AH1 hall)
 ·rw[xO,hrun,If,xQ,ABh,W.AGT]
  exact two true #[x.key,x.val] _ (hgo x hx hns _ (by rw[e1]) e2 e3 e4)
theorem I4{φ:Phi}{e:Env}{a:Act}:AR N φ (AEZ A [] e) a↔a.tmps.size=N/\a.defers=[]/\∀ t,t<160->memN t A=false->AED φ (e.get t) (a.tmps.getD t undef):=by
 have hr:∀ t u,AEZ A [] e t=some u↔(memN t A=false/\t<160/\e.get t=u):=fun t u=>by
  rw[EW];show(match memN t A with|true=>none|false=>match ye t 160 with|true=>some (J t e)|false=>none)=some u↔_;cases memN t A with
  |true=>simp
  |false=>
   cases hb:ye t 160 with
   |true=>
    have:=BW.1 hb;simp only[C8 t this,Option.some.injEq,true_and,this]
   |false=>
    have:¬ t<160:=fun h=>by rw[BW.2 h]at hb;cases hb
    simp[this]
 constructor
 ·exact fun h=>⟨h.size,h.defs,fun t ht hA=>h.rel t _ ((hr t _).2 ⟨hA,ht,rfl⟩)⟩
 ·exact fun⟨h1,h2,h3⟩=>⟨h1,h2,fun t u hu=>by obtain⟨q1,q2,rfl⟩:=(hr t u).1 hu;exact h3 t q2 q1⟩
theorem Id:∀ (l:List Nat) (e:Env) (t:Nat),(∀ d∈l,d<160)->t<160->(Cz e l).get t=if t∈l then .chan none else e.get t
 |[],e,t,_,_=>by simp[Cz]
 |d::l,e,t,hl,ht=>by
  unfold Cz;rw[Id l _ t (fun d hd=>hl d (xS _ hd)) ht,Env.AEQ _ _ _ _ (hl d xT) ht];by_cases h1:t∈l
  ·simp[h1]
  ·by_cases h2:t=d
   ·simp[h1,h2]
   ·simp[h1,h2]
theorem Iv{clk:Nat}:∀ {es:List Ent} {lo:Nat},FM clk lo es=true->∀ x∈es,lo<=x.born/\x.born<clk
 |e::l,lo,h,x,hx=>by
  unfold FM at h;obtain⟨h1,h⟩:=Ez h;obtain⟨h2,h⟩:=Ez h;have h1:=Au.1 h1;have h2:=BW.1 h2;rcases xe.1 hx with rfl|hx
  ·exact⟨h1,h2⟩
  ·have:=Iv h x hx
   have h3:e.born+1<=x.born:=this.1;exact⟨by omega,this.2⟩
theorem PO{φ:Phi}:∀ {es:List Ent} {es':List yc} {x':yc},AE7 φ es es'->x'∈es'->∃ x∈es,x.born=x'.born
 |_,_,x',.cons (k:=k) (v:=v) (b:=b) hk hv t,hx=>by
  rcases xe.1 hx with rfl|hx
  ·exact⟨⟨k,v,b⟩,xT,rfl⟩
  ·obtain⟨x,h1,h2⟩:=PO t hx
   exact⟨x,xS _ h1,h2⟩
theorem RR{φ:Phi}{clk:Nat}:∀ {es:List Ent} {es':List yc} {lo:Nat} {x':yc},AE7 φ es es'->FM clk lo es=true->x'∈es'->∃ x,GP x'.born es=some x/\AED φ x.key x'.key/\AED φ x.val x'.val
 |_,_,lo,x',.cons (k:=k) (v:=v) (b:=b) (l:=l) hk hv t,hr,hx=>by
  unfold GP;rcases xe.1 hx with rfl|hx
  ·rw[zG];exact⟨_,rfl,hk,hv⟩
  ·unfold FM at hr
   obtain⟨_,hr⟩:=Ez hr;obtain⟨_,hr⟩:=Ez hr;obtain⟨y,hy,he⟩:=PO t hx;have h3:b+1<=y.born:=(Iv hr y hy).1;have hb:xW b x'.born=false:=by
    cases hb:xW b x'.born with
    |false=>rfl
    |true=>have:=Ax.1 hb;omega
   rw[hb];exact RR t hr hx
theorem cg{k:Walk}{a0:AC5}{id:Nat}{o1 o2:zu}{r2:AC5}(W:AFY A a0 k id o1 o2 r2):
  Bv ty A a0 [] none=SR (FD k.nx) (HD (J k.it)) (SR (FD k.more) (Aa 0 (J k.nx)) (Bv ty A (.seq (.cond (.tmp k.more) .skip (.exit k.out)) r2) [] none)):=by
 have hA:∀ t,memN t A=false->t<160->cO ⟨A,[]⟩ (.tmp t)=some (J t):=fun t h1 h2=>by
  show(match PS A [] (.tmp t)with|some s=>some (LQ s)|none=>none)=_;show(match (match memN t A with|true=>none|false=>match ye t 160 with|true=>some (Src.s t)|false=>none)with|some s=>some (LQ s)|none=>none)=_;rw[h1,BW.2 h2];rfl
 rw[W.code];show Bv ty A (.region id #[o1,o2] false) [] (some fun σ=>Bv ty A (.seq (.cond (.tmp k.more) .skip (.exit k.out)) r2) σ none)=_;show Gr ty A [o1,o2] (LE (some fun σ=>Bv ty A (.seq (.cond (.tmp k.more) .skip (.exit k.out)) r2) σ none)) [] [o1,o2] []=_;unfold Gr;rw[W.AHy,W.AGT];simp only[W.nxA,BW.2 W.nxL];unfold Gr;rw[W.AHz,W.AGm];simp only[W.moA,BW.2 W.moL];have e1:opC ty ⟨A,[]⟩ o1.op=HD (J k.it):=by
  rw[W.op1];show w1 ⟨A,[]⟩ (.tmp k.it) (fun x=>HD x)=_;unfold w1;rw[hA _ W.itA W.itL]
 have e2:opC ty ⟨A,Fy k.nx []⟩ o2.op=Aa 0 (J k.nx):=by
  rw[W.op2];show w1 ⟨A,[]⟩ (.tmp k.nx) (fun t=>Aa 0 t)=_;unfold w1;rw[hA _ W.nxA W.nxL]
 rw[e1,e2];rfl
theorem Yz{t:(Env->X)->IN->Env->X}{f:OpF}{k:C}{e:Env}{h h':Hp}{v:IN}(hf:f F e h=.ok v h'):SR t f k F e h=t (fun e=>k F e h') v e:=by
 unfold SR;rw[hf]
theorem oK{t:(Env->X)->IN->Env->X}{f:OpF}{k:C}{e:Env}{h:Hp}(hf:f F e h=.no):SR t f k F e h=.no:=by
 unfold SR;rw[hf]
theorem jg{k:Walk}{a0:AC5}{id:Nat}{o1 o2:zu}{r2:AC5}(W:AFY A a0 k id o1 o2 r2){e:Env}{h:Hp}{ad:Addr}{m s last c lo hi mk:Nat}{es:List Ent}{x:Ent}{bl:BT}{sn:Option (List Nat)}{Y:Go.Proofs.YtbjadbhkogcfeaaGreat.X}
  (hit:J k.it e=.pointer (some ad))(hoff:xW ad.off 0=true)(hm:Bk h m=.ok es c)(hmb:m≠ad.block)(hx:GP s es=some x)(hbl:h.bl.set ad.block (.pick m s last sn)=some bl)
  (hr:Bv ty A a0 [] none F e {next:=h.next,low:=lo,high:=hi,mark:=mk,bl:=bl}=Y)(hn:Y≠.no):
  ∃ bl',bl.set ad.block (Mv m s last sn)=some bl'/\
   Bv ty A (.seq (.cond (.tmp k.more) .skip (.exit k.out)) r2) [] none F (Env.set k.more (.bool true) (Env.set k.nx (.tuple ⟨[.bool true,x.key,x.val]⟩) e)) {next:=h.next,low:=lo,high:=hi,mark:=mk,bl:=bl'}=Y:=by
 rw[cg W]at hr;have hb:bl.get ad.block=.pick m s last sn:=by rw[BT.AEQ _ _ _ _ hbl,if_pos rfl]
 have hme:Bk ({next:=h.next,low:=lo,high:=hi,mark:=mk,bl:=bl}:Hp) m=.ok es c:=by
  show qQ (bl.get m)=_;rw[BT.AEQ _ _ _ _ hbl,if_neg hmb];exact hm
 have hnx:HD (J k.it) F e {next:=h.next,low:=lo,high:=hi,mark:=mk,bl:=bl}=match bl.set ad.block (Mv m s last sn)with
   |some bl'=>.ok (.tuple ⟨[.bool true,x.key,x.val]⟩) {next:=h.next,low:=lo,high:=hi,mark:=mk,bl:=bl'}
   |none=>.no:=by
  unfold HD;rw[hit];show(bif xW ad.off 0 then GW ad _ else .no)=_;rw[hoff];show GW ad _=_;unfold GW;simp only;rw[hb];show(match Bk ({next:=h.next,low:=lo,high:=hi,mark:=mk,bl:=bl}:Hp) m with|.ok es _=>_|.no=>_)=_;rw[hme];simp only[hx];cases bl.set ad.block (Mv m s last sn)<;>rfl
 cases hs:bl.set ad.block (Mv m s last sn)with
 |none=>
  rw[hs]at hnx;rw[oK hnx]at hr;exact absurd hr.symm hn
 |some bl'=>
  refine⟨bl',rfl,?_⟩;rw[hs]at hnx;rw[<- hr];have hex:Aa 0 (J k.nx) F (Env.set k.nx (.tuple ⟨[.bool true,x.key,x.val]⟩) e) {next:=h.next,low:=lo,high:=hi,mark:=mk,bl:=bl'}=.ok (.bool true) {next:=h.next,low:=lo,high:=hi,mark:=mk,bl:=bl'}:=by
   unfold Aa;rw[C8 _ W.nxL,Env.AEQ _ _ _ _ W.nxL W.nxL,if_pos rfl];rfl
  symm
  rw[Yz hnx,Dy _ W.nxL,Yz hex,Dy _ W.moL]
structure Rd (A:List Nat)(N:Nat)(φ:Phi)(ws:List Nat)(e:Env)(w:yJ)(pb qb c:Nat)(seen:List Nat)(ak:Act)(wk:yJ):Prop where
 size:ak.tmps.size=N
 defs:ak.defers=[]
 slots:∀ t,t<160->memN t A=false->t∉ws->AED φ (e.get t) (ak.tmps.getD t undef)
 grow:w.heap.size<=wk.heap.size
 same:∀ j,j<w.heap.size->j≠pb->wk.heap[j]? =w.heap[j]?
 tape:wk.tape=w.tape
 os:wk.os=w.os
 output:wk.output=w.output
 iter:wk.heap[pb]? =some (.mapIter (some qb) c ⟨seen⟩ c)
theorem RS{φ:Phi}:∀ {es:List Ent} {es':List yc} {x:Ent},AE7 φ es es'->x∈es->∃ x'∈es',x'.born=x.born
 |_,_,x,.cons (k':=k) (v':=v) (b:=b) hk hv t,hx=>by
  rcases xe.1 hx with rfl|hx
  ·exact⟨⟨k,v,b⟩,xT,rfl⟩
  ·obtain⟨x,h1,h2⟩:=RS t hx
   exact⟨x,xS _ h1,h2⟩
theorem KK{n:Nat}:∀ {es:List Ent} {x:Ent},GP n es=some x->x∈es/\x.born=n
 |y::l,x,h=>by
  unfold GP at h;cases hb:xW y.born n with
  |true=>rw[hb]at h;cases h;exact⟨xT,Ax.1 hb⟩
  |false=>
   rw[hb]at h;obtain⟨h1,h2⟩:=KK h;exact⟨xS _ h1,h2⟩
theorem ud{b:Bool}{Y X:Go.Proofs.YtbjadbhkogcfeaaGreat.X}(h:(bif b then Y else .no)=X)(hn:X≠.no):b=true/\Y=X:=by
 cases b with
 |false=>exact absurd h.symm hn
 |true=>exact⟨rfl,h⟩
theorem RY{seen:List Nat}:∀ {es:List Ent},(∀ x∈es,x.born∈seen)->AEm seen es=[]
 |[],_=>rfl
 |x::l,h=>by
  unfold AEm;rw[La,show seen.contains x.born=true by simpa using h x xT];exact RY fun y hy=>h y (xS _ hy)
theorem M1{seen:List Nat}:∀ {es:List Ent} {x:Ent},x∈es->x.born∉seen->x∈AEm seen es
 |y::l,x,hx,hn=>by
  unfold AEm;rcases xe.1 hx with rfl|hx
  ·rw[La,show seen.contains x.born=false by simpa using hn]
   exact xT
  ·have ih:=M1 hx hn
   cases Fp y.born seen with
   |true=>exact ih
   |false=>exact xS _ ih
theorem Lr{f:Ent->Bool}:∀ {l:List Ent},Pg f l=true->∀ x∈l,f x=true
 |[],_,x,hx=>by cases hx
 |y::l,h,x,hx=>by
  obtain⟨h1,h2⟩:=Ez h;rcases xe.1 hx with rfl|hx
  ·exact h1
  ·exact Lr h2 x hx
theorem AEI.one{φ:Phi}{h:Hp}{w w':yJ}{b:Nat}{pb:Pl}{o:Blk}{bl:BT}(H:AEI ty φ nil h w)(hpb:φ b=some pb)(hin:pb.inp=false)(AEx:Live h b)(hbl:∀ i,bl.get i=if i=b then o else h.bl.get i)
  (hs:w.heap.size<=w'.heap.size)(hsame:∀ j,j<w.heap.size->j≠pb.blk->w'.heap[j]? =w.heap[j]?)(hB:AFC ty φ pb o w'.heap[pb.blk]?)(hoc:∀ cc s el,o≠.cells cc s el)(lo hi mk:Nat):
  AEI ty φ nil {next:=h.next,low:=lo,high:=hi,mark:=mk,bl:=bl} w' where
 dom:=fun i p hp=>⟨(H.dom i p hp).1,Nat.lt_of_lt_of_le (H.dom i p hp).2 hs⟩
 inj:=fun i j p q hp hq _ _ hi hj hio hpq=>by
  have lv:∀ i,bl.get i≠.dead->Live h i:=fun i hi=>by
   by_cases hib:i=b
   ·rw[hib];exact AEx
   ·rw[hbl,if_neg hib]at hi;exact hi
  exact H.inj i j p q hp hq (fun h=>h) (fun h=>h) (lv i hi) (lv j hj) hio hpq
 row:=fun i p hp _=>by
  show AFC ty φ p (bl.get i) _;rw[hbl];by_cases hib:i=b
  ·rw[if_pos hib]
   subst hib;rw[hpb]at hp;cases hp;exact hB
  ·rw[if_neg hib]
   by_cases hdd:h.bl.get i=.dead
   ·rw[hdd];exact .dead
   ·rw[hsame p.blk (H.dom i p hp).2 (fun hb=>hib (H.inj i b p pb hp hpb (fun h=>h) (fun h=>h) hdd AEx (.inr hin) hb))]
    exact H.row i p hp (fun h=>h)
 fresh:=fun i hi=>by
  have hi:h.next<=i:=hi;show bl.get i=_;have:=(H.dom _ _ hpb).1;rw[hbl,if_neg (by omega)];exact H.fresh i hi
 kind:=fun i p cc s el hp he=>by
  have he:bl.get i=.cells cc s el:=he;rw[hbl]at he;by_cases hib:i=b
  ·rw[if_pos hib]at he;exact absurd he (hoc _ _ _)
  ·rw[if_neg hib]at he;exact H.kind i p cc s el hp he
 inp:=H.inp
theorem Evo.one{φ:Phi}{h:Hp}{w w':yJ}{b:Nat}{pb:Pl}{o:Blk}{bl:BT}(hpb:φ b=some pb)(hin:pb.inp=false)(AEx:Live h b)(hbl:∀ i,bl.get i=if i=b then o else h.bl.get i)
  (hs:w.heap.size<=w'.heap.size)(hsame:∀ j,j<w.heap.size->j≠pb.blk->w'.heap[j]? =w.heap[j]?)(ht:w'.tape=w.tape)(hos:w'.os=w.os)(hou:w'.output=w.output)(ho:AEW (h.bl.get b) o)(mk:Nat):
  Evo φ h w φ {next:=h.next,low:=B9 h.low b,high:=Cv h.high b,mark:=mk,bl:=bl} w' where
 le:=.refl φ
 new:=fun _ _ e=>.inl e
 next:=Nat.le_refl _
 size:=hs
 tape:=ht
 os:=hos
 output:=hou
 frame:=fun j hj hf=>hsame j hj fun hjp=>hf b pb hpb hin (by show B9 _ _<=_;rw[BV];exact Nat.min_le_right _ _) (by show _<=Cv _ _;rw[B4];exact AA5 _ _) AEx hjp.symm
 back:=fun i p hp hl _=>by
  refine⟨i,p,hp,?_,rfl,rfl,.inl rfl⟩;by_cases hib:i=b
  ·rw[hib];exact AEx
  ·have hl:bl.get i≠.dead:=hl
   rw[hbl,if_neg hib]at hl;exact hl
 kept:=fun i _ hi=>by
  show bl.get i=_;have hi:i<B9 h.low b\/Cv h.high b<i:=hi;rw[BV,B4]at hi;rw[hbl,if_neg (by omega)]
 low:=by show B9 _ _<=_;rw[BV];exact ABC _ _
 high:=by show _<=Cv _ _;rw[B4];exact ACP _ _
 shape:=fun i _=>by
  show AEW _ (bl.get i);rw[hbl];by_cases hib:i=b
  ·rw[if_pos hib,hib];exact ho
  ·rw[if_neg hib];exact .refl _
 only:=fun i _ h0=>by
  show bl.get i=_;rw[hbl,if_neg (fun e=>by rw[e,hpb]at h0;cases h0)]
 all:=fun _ h1 h2=>absurd h2 (Nat.not_lt.2 h1)
theorem gf{k:Walk}{a0:AC5}{id:Nat}{o1 o2:zu}{r2:AC5}(W:AFY A a0 k id o1 o2 r2)(hd:k.nx<N/\k.more<N)
  (ih:∀ {e:Env} {h:Hp} {X:Go.Proofs.YtbjadbhkogcfeaaGreat.X},Bv ty A (.seq (.cond (.tmp k.more) .skip (.exit k.out)) r2) [] none F e h=X->X≠.no->∀ (φ:Phi) (w:yJ) (a:Act),AEI ty φ nil h w->AR N φ (AEZ A [] e) a->∀ (Q:ADv->Act->yJ->Prop),Post ty A N F φ h w none X Q->(ACA (.cond (.tmp k.more) .skip (.exit k.out)) r2).wp P Q a w)
  {e:Env}{ad:Addr}(hit:J k.it e=.pointer (some ad))(hoff:xW ad.off 0=true)(AEM:256<=ad.block){φ0:Phi}{hr:Hp}{w0:yJ}{a:Act}(AFZ:∀ t,t<160->memN t A=false->AED φ0 (e.get t) (a.tmps.getD t undef))
  {fin:Hp->Rds->Bool}{Q:ADv->Act->yJ->Prop}
  (AJf:∀ (hk:Hp) (tr:Rds) (φk:Phi) (wk:yJ),AEI ty φk nil hk wk->Evo φ0 hr w0 φk hk wk->(∃ pb,φk ad.block=some pb)->Live hk ad.block->fin hk tr=true->∀ ak:Act,ak.tmps.size=N->ak.defers=[]->
   (∀ t,t<160->memN t A=false->t∉k.ws->AED φ0 (e.get t) (ak.tmps.getD t undef))->ak.tmps.getD k.more undef=.bool false->Q (.exit k.out) ak wk):
  ∀ (n:Nat) (hk:Hp) (tr:Rds) (φk:Phi) (wk:yJ) (ak:Act),AEI ty φk nil hk wk->Evo φ0 hr w0 φk hk wk->ak.tmps.size=N->ak.defers=[]->
   (∀ t,t<160->memN t A=false->t∉k.ws->AED φ0 (e.get t) (ak.tmps.getD t undef))->Kw k (Bv ty A a0 [] none) F e ad.block fin n hk tr=true->ABl P a0 Q n ak wk:=by
 intro n
 induction n with
 |zero=>intro hk tr φk wk ak _ _ _ _ _ hx;cases hx
 |succ n ihn=>
 intro hk tr φk wk ak H E hsz hdf hsl hx;unfold Kw Nv at hx;cases AF0:EO (hk.bl.get ad.block)with
 |no=>rw[AF0]at hx;cases hx
 |cur _ _ _=>rw[AF0]at hx;cases hx
 |pick _ _ _ _=>rw[AF0]at hx;cases hx
 |ok m' since seen last=>
 rw[AF0]at hx;cases m' with
 |none=>cases hx
 |some m=>
 simp only at hx;cases AF1:Bk hk m with
 |no=>rw[AF1]at hx;cases hx
 |ok es c=>
 rw[AF1]at hx;simp only at hx;obtain⟨AGw,hx1⟩:=Ez hx;obtain⟨AIk,hx2⟩:=Ez hx1;obtain⟨hris,hx3⟩:=Ez hx2;clear hx hx1 hx2;have hcs:=Ax.1 AGw;have hcl:=Ax.1 AIk;clear AGw AIk;subst hcs;subst hcl;have hx:=hx3;clear hx3;have hbi:=H7 AF0;have AHE:=AFZ k.it W.itL W.itA;rw[<- C8 k.it W.itL,hit]at AHE;obtain⟨ad',AJg,hra⟩:=AHE.AFG;obtain⟨pb,AHa,rfl⟩:=hra.eq;have hpb:=E.le _ _ AHa;have AH2:ad.off=0:=Ax.1 hoff;have hrow:=H.row ad.block pb hpb (fun h=>h);rw[hbi]at hrow;obtain⟨q,hp0,hq,hwi⟩:∃ q,pb.off=0/\φk m=some q/\wk.heap[pb.blk]? =some (.mapIter (some q.blk) c ⟨seen⟩ c):=by
  generalize wk.heap[pb.blk]? =ob at hrow;cases hrow with
  |iter h1 h2=>exact⟨_,h1,h2,rfl⟩
 obtain⟨es',hwm,AEj⟩:=H.AFJ hq (fun h=>h) AF1;have hmb:m≠ad.block:=fun h=>by
  have:=Fz AF1;rw[h,hbi]at this;cases this
 have hin:=H.AFD hpb AEM;have AEx:Live hk ad.block:=by unfold Live;rw[hbi];intro h;cases h
 have AJh:=(H.dom _ _ hpb).2;have AH3:∀ x∈es',x.born<c:=fun x hx=>by
  obtain⟨y,hy,he⟩:=PO AEj hx;rw[<- he];exact(Iv hris y hy).2
 have hkeep:CG k.ws (Bv ty A (.seq (.cond (.tmp k.more) .skip (.exit k.out)) r2) [] none):=CS _ (fun d hd=>by
  rw[W.ws,W.code];exact yI _ hd) (fun _ h=>by cases h)
 have AIl:k.nx∈k.ws:=by rw[W.ws,W.code];show _∈JI [o1,o2]++_;simp[JI,W.AGT,W.AGm]
 have AIm:k.more∈k.ws:=by rw[W.ws,W.code];show _∈JI [o1,o2]++_;simp[JI,W.AGT,W.AGm]
 have hcg:∀ t,t<160->(Cz e k.ws).get t=if t∈k.ws then .chan none else e.get t:=fun t ht=>Id _ _ _ W.few ht
 have AFm:∀ {ψ:Phi} {v v' v'':IN},φ0.Le ψ->AED ψ v v'->AED φ0 v v''->AED φ0 v v':=fun {ψ v v' v''} hle h1 h2=>AED.cut (χ:=φ0) (fun b p hp ⟨q,hq⟩=>by
  have:=hle b q hq;rw[hp]at this;cases this;exact hq) h1 h2
 have AH4:ak.eval (.tmp k.it)=.pointer (some ⟨pb.blk,0,none⟩):=by
  have h1:=hsl k.it W.itL W.itA W.itW;rw[<- C8 k.it W.itL,hit]at h1;obtain⟨a2,ha2,hr2⟩:=h1.AFG;obtain⟨p2,hp2,rfl⟩:=hr2.eq;rw[AHa]at hp2;cases hp2;show ak.tmps.getD k.it undef=_;rw[ha2,hp0,AH2]
 have AHb:∀ (v1 v2:IN) (t:Nat),t<160->((ak.put (some k.nx) v1).put (some k.more) v2).tmps.getD t undef=if t=k.more then v2 else if t=k.nx then v1 else ak.tmps.getD t undef:=fun v1 v2 t ht=>by
  rw[Hl,Fh,Hl];by_cases h1:t=k.more
  ·rw[if_pos ⟨by rw[h1],by rw[h1,hsz];exact hd.2⟩,if_pos h1]
  ·rw[if_neg (fun h=>h1 (Option.some.inj h.1).symm),if_neg h1]
   by_cases h2:t=k.nx
   ·rw[if_pos ⟨by rw[h2],by rw[h2,hsz];exact hd.1⟩,if_pos h2]
   ·rw[if_neg (fun h=>h2 (Option.some.inj h.1).symm),if_neg h2]
 show a0.wp P (Exit.then (ABl P a0 Q n) Q) ak wk;generalize hK:ABl P a0 Q n=K;rw[W.code];refine wp_seq (YP W (pb:=pb.blk) (mb:=q.blk) (clk:=c) (seen:=seen) (es:=es') AH4 (by rw[hsz];exact hd.1) hwi hwm AH3 (fun hall=>?_) (fun x' hx' hns w1 e1 e2' e3 e4=>?_))
 ·
  show(ACA (.cond (.tmp k.more) .skip (.exit k.out)) r2).wp P (Exit.then K Q) ((ak.put (some k.nx) (.tuple #[.bool false])).put (some k.more) (.bool false)) wk;refine wp_seq (wp_cond_false ?_ (wp_exit ?_))
  ·show((ak.put (some k.nx) (.tuple #[.bool false])).put (some k.more) (.bool false)).tmps.getD k.more undef=_
   rw[AHb _ _ _ W.moL,if_pos rfl]
  ·show Q (.exit k.out) ((ak.put (some k.nx) (.tuple #[.bool false])).put (some k.more) (.bool false)) wk
   rw[RY (es:=es) fun x hx=>by
    obtain⟨x',hx',he⟩:=RS AEj hx;rw[<- he];exact hall x' hx']at hx
   refine AJf hk tr φk wk H E ⟨_,hpb⟩ AEx hx _ (by rw[Fh,Fh];exact hsz) (by rw[GY,GY];exact hdf) (fun t ht hA hw=>?_) (by rw[AHb _ _ _ W.moL,if_pos rfl]);rw[AHb _ _ _ ht,if_neg (fun h:t=k.more=>hw (h ▸ AIm)),if_neg (fun h:t=k.nx=>hw (h ▸ AIl))];exact hsl t ht hA hw
 ·
  show(ACA (.cond (.tmp k.more) .skip (.exit k.out)) r2).wp P (Exit.then K Q) ((ak.put (some k.nx) (.tuple #[.bool true,x'.key,x'.val])).put (some k.more) (.bool true)) w1;obtain⟨x,hfx,hkr,hvr⟩:=RR AEj hris hx';obtain⟨hxm,hxb⟩:=KK hfx;have hmem:=M1 hxm (by rw[hxb];exact hns);generalize AFi:AEm seen es=rest at hx hmem;cases rest with
  |nil=>cases hmem
  |cons y l=>
  have hx:=Lr hx x hmem;unfold ON at hx;cases hbl:hk.bl.set ad.block (.pick m x.born c (some seen))with
  |none=>rw[hbl]at hx;cases hx
  |some bl=>
  rw[hbl]at hx;simp only at hx;have AJi:J k.it (Cz e k.ws)=.pointer (some ad):=by
   rw[C8 _ W.itL,hcg _ W.itL,if_neg W.itW,<- C8 _ W.itL];exact hit
  generalize hY:Bv ty A a0 [] none F (Cz e k.ws) {next:=hk.next,low:=B9 hk.low ad.block,high:=Cv hk.high ad.block,mark:=hk.mark,bl:=bl}=Y at hx;cases Y with
  |no=>cases hx
  |exit _ _ _=>cases hx
  |ret _ _=>cases hx
  |norm e1' h1'=>
  simp only at hx;obtain⟨bl',AH5,hB⟩:=jg W (x:=x) (s:=x.born) AJi hoff AF1 hmb (by rw[hxb];exact hfx) hbl hY (fun h=>by cases h);have AH5:bl.set ad.block (.iter (some m) c (Jk x.born seen) c)=some bl':=AH5;have AIn:∀ i,bl'.get i=if i=ad.block then .iter (some m) c (Jk x.born seen) c else hk.bl.get i:=fun i=>by
   rw[BT.AEQ _ _ _ _ AH5,BT.AEQ _ _ _ _ hbl];split<;>rfl
  have AIo:w1.heap.size=wk.heap.size:=by rw[e1];simp
  have AJj:w1.heap[pb.blk]? =some (.mapIter (some q.blk) c ⟨seen++[x'.born]⟩ c):=by
   rw[e1,zb,if_pos rfl,if_pos AJh]
  have AIp:∀ j,j<wk.heap.size->j≠pb.blk->w1.heap[j]? =wk.heap[j]?:=fun j hj hjp=>by
   rw[e1,zb,if_neg (fun h=>hjp h.symm)]
  have HR:=H.one hpb hin AEx AIn (AA2 AIo.symm) AIp (by rw[AJj,M0,hxb];exact .iter hp0 hq) (fun _ _ _ h=>by cases h) (B9 hk.low ad.block) (Cv hk.high ad.block) hk.mark;have E1:=Evo.one (w':=w1) hpb hin AEx AIn (AA2 AIo.symm) AIp e2' e3 e4 (by rw[hbi];exact .inr trivial) hk.mark;have HAR:AR N φk (AEZ A [] (Env.set k.more (.bool true) (Env.set k.nx (.tuple ⟨[.bool true,x.key,x.val]⟩) (Cz e k.ws)))) ((ak.put (some k.nx) (.tuple #[.bool true,x'.key,x'.val])).put (some k.more) (.bool true)):=by
   refine I4.2 ⟨by rw[Fh,Fh];exact hsz,by rw[GY,GY];exact hdf,fun t ht hA=>?_⟩;rw[AHb _ _ _ ht,Env.AEQ _ _ _ _ W.moL ht,Env.AEQ _ _ _ _ W.nxL ht,hcg t ht];by_cases q1:t=k.more
   ·rw[if_pos q1,if_pos q1];exact .bool _
   ·rw[if_neg q1,if_neg q1]
    by_cases q2:t=k.nx
    ·rw[if_pos q2,if_pos q2];exact .tuple (.cons (.bool _) (.cons hkr (.cons hvr .nil)))
    ·rw[if_neg q2,if_neg q2]
     by_cases q3:t∈k.ws
     ·rw[if_pos q3];exact .unk
     ·rw[if_neg q3];exact(hsl t ht hA q3).mono E.le
  refine ih hB (fun h=>by cases h) φk w1 _ HR HAR _ {go:=(fun _ h=>by cases h),norm:=fun _ e2 h2 ψ a2 w2 g hx2=>?_,exit:=(fun i e2 h2 ψ a2 w2 g hx2=>by cases hx2),ret:=(fun e2 h2 ψ a2 w2 g hx2=>by cases hx2)};cases hx2;obtain⟨g1,g2,g3⟩:=I4.1 g.ar;have hag:=hkeep F (Env.set k.more (.bool true) (Env.set k.nx (.tuple ⟨[.bool true,x.key,x.val]⟩) (Cz e k.ws))) {next:=hk.next,low:=B9 hk.low ad.block,high:=Cv hk.high ad.block,mark:=hk.mark,bl:=bl'};rw[hB]at hag;have hag:Ag k.ws (Env.set k.more (.bool true) (Env.set k.nx (.tuple ⟨[.bool true,x.key,x.val]⟩) (Cz e k.ws))) e1':=hag;have E2:=(E.trans E1).trans g.evo;show K a2 w2;rw[<- hK];refine ihn h1' _ ψ w2 a2 g.rel E2 g1 g2 (fun t ht hA hw=>?_) hx;have q1:=g3 t ht hA;rw[hag t ht hw,Env.AEQ _ _ _ _ W.moL ht,if_neg (fun h:t=k.more=>hw (h ▸ AIm)),Env.AEQ _ _ _ _ W.nxL ht,if_neg (fun h:t=k.nx=>hw (h ▸ AIl)),hcg t ht,if_neg hw]at q1;exact AFm E2.le q1 (AFZ t ht hA)
theorem gd{b n0:Nat}{r h1:Hp}{tr:Rds}:Xc b n0 r h1 tr=true↔Zh b n0 r h1:=by
 unfold Xc;split
 ·rename_i h _;exact⟨fun _=>h,fun _=>rfl⟩
 ·rename_i h _;exact⟨fun e=>(by cases e),fun e=>absurd e h⟩
theorem AEI.AH6{φ:Phi}{h:Hp}{w:yJ}{bl:BT}{b n0:Nat}(H:AEI ty φ nil h w)(hbl:∀ i,bl.get i=if i=b\/n0<=i then .dead else h.bl.get i)(lo hi mk:Nat):
  AEI ty φ nil {next:=h.next,low:=lo,high:=hi,mark:=mk,bl:=bl} w where
 dom:=H.dom
 inj:=fun i j p q hp hq _ _ hi hj hio hpq=>by
  have lv:∀ i,bl.get i≠.dead->Live h i:=fun i hi=>by
   rw[hbl]at hi;split at hi
   ·exact absurd rfl hi
   ·exact hi
  exact H.inj i j p q hp hq (fun h=>h) (fun h=>h) (lv i hi) (lv j hj) hio hpq
 row:=fun i p hp _=>by
  show AFC ty φ p (bl.get i) _;rw[hbl];split
  ·exact .dead
  ·exact H.row i p hp (fun h=>h)
 fresh:=fun i hi=>by
  have hi:h.next<=i:=hi;show bl.get i=_;rw[hbl];split
  ·rfl
  ·exact H.fresh i hi
 kind:=fun i p cc s el hp he=>by
  have he:bl.get i=.cells cc s el:=he;rw[hbl]at he;split at he
  ·cases he
  ·exact H.kind i p cc s el hp he
 inp:=H.inp
theorem Evo.join{φ ψ:Phi}{h r hk:Hp}{w wk:yJ}{b:Nat}{pb:Pl}(E:Evo φ {next:=h.next,low:=h.next,high:=0,mark:=h.mark,bl:=h.bl} w ψ hk wk)(hpb:φ b=some pb)
  (q1:hk.next=r.next)(q2:r.low<=B9 hk.low b)(q3:Cv hk.high b<=r.high)(q4:∀ i,r.bl.get i=if i=b\/h.next<=i then .dead else hk.bl.get i):Evo φ h w ψ (lx h r) wk where
 le:=E.le
 new:=E.new
 next:=by
  have h1:h.next<=hk.next:=E.next;show h.next<=r.next;omega
 size:=E.size
 tape:=E.tape
 os:=E.os
 output:=E.output
 frame:=fun k hk' hf=>E.frame k hk' fun i p e hn hl hg hv=>hf i p e hn (by
  rw[BV]at q2;show B9 h.low r.low<=i;rw[BV];omega) (by
  rw[B4]at q3;show i<=Cv h.high r.high;rw[B4];omega) hv
 back:=fun i p e hl hp=>by
  have hl:r.bl.get i≠.dead:=hl;rw[q4]at hl;split at hl
  ·exact absurd rfl hl
  obtain⟨j,q,a1,a2,a3,a4,a5⟩:=E.back i p e hl hp;refine⟨j,q,a1,a2,a3,a4,?_⟩;rw[BV]at q2;rw[B4]at q3;rcases a5 with a5|⟨a5,a6⟩
  ·exact .inl a5
  ·refine .inr ⟨?_,?_⟩
   ·show B9 h.low r.low<=j
    rw[BV];omega
   ·show j<=Cv h.high r.high
    rw[B4];omega
 kept:=fun i hi hor=>by
  have hor:i<B9 h.low r.low\/Cv h.high r.high<i:=hor;rw[BV,B4]at hor;rw[BV]at q2;rw[B4]at q3;show r.bl.get i=_;rw[q4,if_neg (by omega)];exact E.kept i hi (by omega)
 low:=by show B9 _ _<=_;rw[BV];exact ABC _ _
 high:=by show _<=Cv _ _;rw[B4];exact ACP _ _
 shape:=fun i hi=>by
  show AEW _ (r.bl.get i);rw[q4];split
  ·exact .inl rfl
  ·exact E.shape i hi
 only:=fun i hi h0=>by
  show r.bl.get i=_;rw[q4,if_neg (by
   rintro (h1|h1)
   ·rw[h1,hpb]at h0;cases h0
   ·omega)]
  exact E.only i hi h0
 all:=fun i h1 h2=>E.all i h1 (by
  have h2:i<r.next:=h2;show i<hk.next;omega)
theorem So{k:Walk}{a0:AC5}{id:Nat}{o1 o2:zu}{r2:AC5}(W:AFY A a0 k id o1 o2 r2)(hd:k.nx<N/\k.more<N)
  (ih:∀ {e:Env} {h:Hp} {X:Go.Proofs.YtbjadbhkogcfeaaGreat.X},Bv ty A (.seq (.cond (.tmp k.more) .skip (.exit k.out)) r2) [] none F e h=X->X≠.no->∀ (φ:Phi) (w:yJ) (a:Act),AEI ty φ nil h w->AR N φ (AEZ A [] e) a->∀ (Q:ADv->Act->yJ->Prop),Post ty A N F φ h w none X Q->(ACA (.cond (.tmp k.more) .skip (.exit k.out)) r2).wp P Q a w)
  {e:Env}{h:Hp}{X:Go.Proofs.YtbjadbhkogcfeaaGreat.X}{ad:Addr}(hit:J k.it e=.pointer (some ad))(hoff:xW ad.off 0=true)(AEM:256<=ad.block)
  (hr:Fw k (Bv ty A a0 [] none) F e h ad.block=X)(hn:X≠.no){φ:Phi}{w:yJ}{a:Act}(H:AEI ty φ nil h w)(HA:AR N φ (AEZ A [] e) a){Q:ADv->Act->yJ->Prop}
  (pe:∀ id e h' ψ a' w',Good ty A N φ h w [] e h' ψ a' w'->X=.exit id e h'->Q (.exit id) a' w'):
  (AD2 a0).wp P Q a w:=by
 unfold Fw at hr;split at hr
 case h_2=>exact absurd hr.symm hn
 rename_i hx _;obtain⟨AH7,AHF⟩:=ADw hx;generalize ADl hx=r at hr AH7 AHF;obtain⟨hsz,hdf,AFZ⟩:=I4.1 HA;have hcg:∀ t,t<160->(Cz e k.ws).get t=if t∈k.ws then .chan none else e.get t:=fun t ht=>Id _ _ _ W.few ht
 refine wp_loop_rounds 64 (gf W hd ih hit hoff AEM (φ0:=φ) (w0:=w) AFZ (fun hk tr φk wk Hk Ek ⟨pb',AKd⟩ AEx hf ak s1 s2 s3 s4=>?_) 64 {next:=h.next,low:=h.next,high:=0,mark:=h.mark,bl:=h.bl} [] φ w a (H.AFd rfl rfl) (.refl _ _ _) hsz hdf (fun t ht hA _=>AFZ t ht hA) AHF);obtain⟨q1,q2,q3,hbg⟩:=gd.1 hf;have HK:=Hk.AH6 hbg (B9 h.low r.low) (Cv h.high r.high) h.mark;have AHE:=AFZ k.it W.itL W.itA;rw[<- C8 k.it W.itL,hit]at AHE;obtain⟨ad',AJg,hra⟩:=AHE.AFG;obtain⟨pb,AHa,rfl⟩:=hra.eq;have ER:=Ek.join AHa q1 (AA2 q2) (AA2 q3.symm) hbg;rw[q1]at HK;refine pe k.out _ _ φk ak wk ⟨.nil A,HK,I4.2 ⟨s1,s2,fun t ht hA=>?_⟩,ER⟩ hr.symm;rw[Env.AEQ _ _ _ _ W.moL ht,hcg t ht];by_cases q1:t=k.more
 ·rw[if_pos q1,q1,s4];exact .bool _
 ·rw[if_neg q1]
  by_cases q2:t∈k.ws
  ·rw[if_pos q2];exact .unk
  ·rw[if_neg q2];exact(s3 t ht hA q2).mono ER.le
end
end
noncomputable section
open Go
section
variable {P:yg}{ty:TTy}{F:AEB}{A:List Nat}{N:Nat}
theorem Evo.AHG{φ ψ:Phi}{h g h':Hp}{w w':yJ}(ev:Evo φ g w ψ h' w')(h1:g.bl=h.bl)(h2:g.next=h.next)(h3:g.low=h.low)(h4:g.high=h.high):Evo φ h w ψ h' w' where
 le:=ev.le
 new:=by rw[<- h2];exact ev.new
 next:=by rw[<- h2];exact ev.next
 size:=ev.size
 tape:=ev.tape
 os:=ev.os
 output:=ev.output
 frame:=by unfold Live;rw[<- h1];exact ev.frame
 back:=by
  have:=ev.back;unfold Live at this ⊢;rw[h1]at this;exact this
 kept:=by rw[<- h1,<- h2];exact ev.kept
 low:=by rw[<- h3];exact ev.low
 high:=by rw[<- h4];exact ev.high
 shape:=by rw[<- h1,<- h2];exact ev.shape
 only:=by rw[<- h1,<- h2];exact ev.only
 all:=by rw[<- h2];exact ev.all
theorem YH(hT:Cx P ty)(hF:DJ P ty F)(hm:P.follows .mixedOrders=true){id:Nat}{ops:Array zu}{draw:Bool}{σ:Sg}{k:Option (Sg->C)}{e:Env}{h:Hp}{X:X}(hr:Bv ty A (.region id ops draw) σ k F e h=X)(hn:X≠.no)
  (hd:CY N (.region id ops draw)=true){φ:Phi}{w:yJ}{a:Act}(hS:AFV A σ)(HW:AEI ty φ nil h w)(HA:AR N φ (AEZ A σ e) a){Q:ADv->Act->yJ->Prop}(p:Post ty A N F φ h w k X Q):(ADk id ops draw).wp P Q a w:=by
 have hN:∀ o∈ops.toList,∀ d,o.dst=some d->d<N:=by
  intro o ho d hod;unfold CY at hd;rw[AAQ]at hd;have:=hd o ho;rw[hod]at this;exact BW.1 this
 unfold Bv at hr;cases draw with
 |false=>
  simp only at hr;obtain⟨ρ,H,V,run,T,σ',e',tr,q1,q2,q3,q4,q5⟩:=PK hT hF ops.toList [] σ e h X (fun j o _=>.plain ty o) hS hr hn;refine wp_region_list ?_;have:=PY (Q:=Q) (a:=a) (w:=w) (φ:=φ) ops.toList tr hN (by rw[q2];exact HW) (by rw[q1];exact HA) fun _ ψ a' w' r1 r2 r3=>p.then ⟨q4,r1,by rw[<- q3];exact r2,by rw[<- q2];exact r3⟩ q5
  simpa using this
 |true=>
  simp only at hr;cases hdr:Uq ty ops.toList with
  |none=>rw[hdr]at hr;exact absurd hr.symm hn
  |some ahs=>
   rw[hdr]at hr;obtain⟨bs,hbs,he,hs,hah⟩:=Zd hdr;have hr:Gr ty A ops.toList (LE k) ahs ops.toList σ F e {next:=h.next,low:=h.low,high:=h.high,mark:=h.next,bl:=h.bl}=X:=hr;obtain⟨ρ,H,V,run,T,σ',e',tr,q1,q2,q3,q4,q5⟩:=PK hT hF ops.toList ahs σ e _ X (fun j o ho=>by obtain⟨xs,_,h⟩:=hah j o ho;exact h.ok) hS hr hn;have:=kC (id:=id) (Q:=Q) (a:=a) (w:=w) (φ0:=φ) hm (P6 hbs he) (iE hbs he hs hah tr) tr hN (by rw[q2];exact HW.AFd rfl rfl) (by rw[q1];exact HA)
    fun ψ a' w' r1 r2 r3=>p.then ⟨q4,r1,by rw[<- q3];exact r2,by rw[q2]at r3;exact r3.AHG rfl rfl rfl rfl⟩ q5
   simpa using this
theorem Vd(hm:P.follows .mixedOrders=true){c:AC5}{body:C}(ih:∀ {e:Env} {h:Hp} {X:X},body F e h=X->X≠.no->∀ (φ:Phi) (w:yJ) (a:Act),AEI ty φ nil h w->AR N φ (AEZ A [] e) a->∀ (Q:ADv->Act->yJ->Prop),Post ty A N F φ h w none X Q->c.wp P Q a w):
  ∀ (n:Nat) {e:Env} {h:Hp} {X:X},iter body n F e h=X->X≠.no->∀ (φ:Phi) (w:yJ) (a:Act),AEI ty φ nil h w->AR N φ (AEZ A [] e) a->∀ (Q:ADv->Act->yJ->Prop),Post ty A N F φ h w none X Q->ABl P c Q n a w
 |0,e,h,X,hr,hn=>by exact absurd hr.symm hn
 |n+1,e,h,X,hr,hn=>by
  intro φ w a HW HA Q p;unfold iter at hr;cases hb:body F e h with
  |no=>rw[hb]at hr;exact absurd hr.symm hn
  |norm e1 h1=>
   rw[hb]at hr;simp only at hr;refine ih hb (fun h=>by cases h) φ w a HW HA _ {go:=(fun _ h=>by cases h),norm:=fun _ e' h' ψ a' w' g hx=>?_,exit:=(fun _ _ _ _ _ _ _ hx=>by cases hx),ret:=(fun _ _ _ _ _ _ hx=>by cases hx)};cases hx;exact Vd hm ih n hr hn _ _ _ g.rel g.ar _ {go:=(fun _ h=>by cases h),norm:=fun h e2 h2 χ a2 w2 g2 hx=>p.norm h e2 h2 χ a2 w2 (g.trans g2) hx,exit:=fun id e2 h2 χ a2 w2 g2 hx=>p.exit id e2 h2 χ a2 w2 (g.trans g2) hx,ret:=fun e2 h2 χ a2 w2 g2 hx=>p.ret e2 h2 χ a2 w2 (g.trans g2) hx}
  |exit i e1 h1=>
   rw[hb]at hr;refine ih hb (fun h=>by cases h) φ w a HW HA _ {go:=(fun _ h=>by cases h),norm:=(fun _ _ _ _ _ _ _ hx=>by cases hx),exit:=fun id e2 h2 χ a2 w2 g2 hx=>p.exit id e2 h2 χ a2 w2 g2 (hr.symm.trans hx),ret:=(fun _ _ _ _ _ _ hx=>by cases hx)}
  |ret e1 h1=>
   rw[hb]at hr;refine ih hb (fun h=>by cases h) φ w a HW HA _ {go:=(fun _ h=>by cases h),norm:=(fun _ _ _ _ _ _ _ hx=>by cases hx),exit:=(fun _ _ _ _ _ _ _ hx=>by cases hx),ret:=fun e2 h2 χ a2 w2 g2 hx=>p.ret e2 h2 χ a2 w2 g2 (hr.symm.trans hx)}
theorem Ri{φ:Phi}{h:Hp}{w:yJ}{k':Sg->C}{X:X}{Q:ADv->Act->yJ->Prop}(p:Post ty A N F φ h w (some k') X Q){a:C}{e:Env}(hr:BH a (k' []) F e h=X)(hn:X≠.no):
  ∃ X1,a F e h=X1/\X1≠.no/\Post ty A N F φ h w none X1 Q:=by
 unfold BH at hr;cases hb:a F e h with
 |no=>rw[hb]at hr;exact absurd hr.symm hn
 |norm e1 h1=>
  rw[hb]at hr;exact⟨_,rfl,(fun h=>by cases h),{go:=(fun _ h=>by cases h),norm:=fun _ e2 h2 χ a2 w2 g2 hx=>by cases hx;exact p.go k' rfl [] _ _ χ a2 w2 g2 hr,exit:=(fun _ _ _ _ _ _ _ hx=>by cases hx),ret:=(fun _ _ _ _ _ _ hx=>by cases hx)}⟩
 |exit i e1 h1=>
  rw[hb]at hr;exact⟨_,rfl,(fun h=>by cases h),{go:=(fun _ h=>by cases h),norm:=(fun _ _ _ _ _ _ _ hx=>by cases hx),exit:=fun id e2 h2 χ a2 w2 g2 hx=>p.exit id e2 h2 χ a2 w2 g2 (hr.symm.trans hx),ret:=(fun _ _ _ _ _ _ hx=>by cases hx)}⟩
 |ret e1 h1=>
  rw[hb]at hr;exact⟨_,rfl,(fun h=>by cases h),{go:=(fun _ h=>by cases h),norm:=(fun _ _ _ _ _ _ _ hx=>by cases hx),exit:=(fun _ _ _ _ _ _ _ hx=>by cases hx),ret:=fun e2 h2 χ a2 w2 g2 hx=>p.ret e2 h2 χ a2 w2 g2 (hr.symm.trans hx)}⟩
theorem SX{φ:Phi}{h:Hp}{w:yJ}{X:X}{Q:ADv->Act->yJ->Prop}(p:Post ty A N F φ h w none X Q){id:Nat}{a:C}{e:Env}(hr:Ac id a F e h=X)(hn:X≠.no):
  ∃ X1,a F e h=X1/\X1≠.no/\Post ty A N F φ h w none X1 (ADZ id Q):=by
 unfold Ac at hr;cases hb:a F e h with
 |no=>rw[hb]at hr;exact absurd hr.symm hn
 |norm e1 h1=>
  rw[hb]at hr;exact⟨_,rfl,(fun h=>by cases h),{go:=(fun _ h=>by cases h),norm:=fun h e2 h2 χ a2 w2 g2 hx=>p.norm h e2 h2 χ a2 w2 g2 (hr.symm.trans hx),exit:=(fun _ _ _ _ _ _ _ hx=>by cases hx),ret:=(fun _ _ _ _ _ _ hx=>by cases hx)}⟩
 |exit i e1 h1=>
  rw[hb]at hr;simp only at hr;refine⟨_,rfl,(fun h=>by cases h),{go:=(fun _ h=>by cases h),norm:=fun _ _ _ _ _ _ _ hx=>(by cases hx),exit:=fun j e2 h2 χ a2 w2 g2 hx=>?_,ret:=fun _ _ _ _ _ _ hx=>(by cases hx)}⟩;cases hx;unfold ADZ;cases hq:xW i id with
  |true=>
   rw[hq]at hr;simp only[Ax.1 hq,if_true];exact p.norm rfl _ _ χ a2 w2 g2 hr.symm
  |false=>
   rw[hq]at hr;simp only[FO hq,if_false];exact p.exit i _ _ χ a2 w2 g2 hr.symm
 |ret e1 h1=>
  rw[hb]at hr;exact⟨_,rfl,(fun h=>by cases h),{go:=(fun _ h=>by cases h),norm:=(fun _ _ _ _ _ _ _ hx=>by cases hx),exit:=(fun _ _ _ _ _ _ _ hx=>by cases hx),ret:=fun e2 h2 χ a2 w2 g2 hx=>p.ret e2 h2 χ a2 w2 g2 (hr.symm.trans hx)}⟩
theorem EL(hT:Cx P ty)(hF:DJ P ty F)(hm:P.follows .mixedOrders=true):∀ (c:AC5) {σ:Sg} {k:Option (Sg->C)} {e:Env} {h:Hp} {X:X},Bv ty A c σ k F e h=X->X≠.no->CY N c=true->
  ∀ (φ:Phi) (w:yJ) (a:Act),AFV A σ->AEI ty φ nil h w->AR N φ (AEZ A σ e) a->∀ (Q:ADv->Act->yJ->Prop),Post ty A N F φ h w k X Q->c.wp P Q a w
 |.skip,σ,k,e,h,X,hr,hn,hd=>by
  intro φ w a hS HW HA Q p;exact wp_skip (p.then ⟨hS,HW,HA,.refl _ _ _⟩ hr)
 |.region id ops draw,σ,k,e,h,X,hr,hn,hd=>by
  intro φ w a hS HW HA Q p;exact YH hT hF hm hr hn hd hS HW HA p
 |.seq x y,σ,k,e,h,X,hr,hn,hd=>by
  intro φ w a hS HW HA Q p;have hd:(CY N x && CY N y)=true:=hd;rw[xk]at hd;have hr:Bv ty A x σ (some fun σ=>Bv ty A y σ k) F e h=X:=hr;refine wp_seq (EL hT hF hm x hr hn hd.1 _ _ _ hS HW HA _ {go:=fun k' hk σ' e' h' ψ a' w' g hx=>?_,norm:=fun h=>(by cases h),exit:=p.exit,ret:=p.ret});cases hk;exact EL hT hF hm y hx hn hd.2 _ _ _ g.sg g.rel g.ar _ {go:=fun k' hk σ2 e2 h2 χ a2 w2 g2 hx=>p.go k' hk σ2 e2 h2 χ a2 w2 (g.trans g2) hx,norm:=fun h e2 h2 χ a2 w2 g2 hx=>p.norm h e2 h2 χ a2 w2 (g.trans g2) hx,exit:=fun id e2 h2 χ a2 w2 g2 hx=>p.exit id e2 h2 χ a2 w2 (g.trans g2) hx,ret:=fun e2 h2 χ a2 w2 g2 hx=>p.ret e2 h2 χ a2 w2 (g.trans g2) hx}
 |.cond c x y,σ,k,e,h,X,hr,hn,hd=>by
  intro φ w a hS HW HA Q p;have hd:(CY N x && CY N y)=true:=hd;rw[xk]at hd;unfold Bv at hr;cases hc:cO ⟨A,σ⟩ c with
  |none=>rw[hc]at hr;exact absurd hr.symm hn
  |some cc=>
   rw[hc]at hr;simp only at hr;have AEj:=HA.ev (Fu hc e);have two:∀ {kx:Option (Sg->C)} {Y:Go.Proofs.YtbjadbhkogcfeaaGreat.X},IR cc (Bv ty A x σ kx) (Bv ty A y σ kx) F e h=Y->Y≠.no->Post ty A N F φ h w kx Y Q->(Code.cond c x y).wp P Q a w:=by
    intro kx Y hr hn p;unfold IR at hr;cases hv:cc e with
    |bool t=>
     rw[hv]at hr AEj;have hev:=AEj.AE4;cases t with
     |true=>exact wp_cond_true hev (EL hT hF hm x hr hn hd.1 _ _ _ hS HW HA _ p)
     |false=>exact wp_cond_false hev (EL hT hF hm y hr hn hd.2 _ _ _ hS HW HA _ p)
    |_=>rw[hv]at hr;exact absurd hr.symm hn
   cases k with
   |none=>exact two hr hn p
   |some k'=>
    simp only at hr;cases hf:(Kx x && Kx y)with
    |false=>rw[hf]at hr;exact two hr hn p
    |true=>
     rw[hf]at hr;obtain⟨X1,h1,h2,p1⟩:=Ri p hr hn;exact two h1 h2 p1
 |.block id x,σ,k,e,h,X,hr,hn,hd=>by
  intro φ w a hS HW HA Q p;have hd:CY N x=true:=hd;have one:∀ {Y:Go.Proofs.YtbjadbhkogcfeaaGreat.X},Ac id (Bv ty A x [] none) F e h=Y->Y≠.no->Post ty A N F φ h w none Y Q->(Code.block id x).wp P Q a w:=by
   intro Y hr hn p;obtain⟨X1,h1,h2,p1⟩:=SX p hr hn;exact wp_block (EL hT hF hm x h1 h2 hd _ _ _ (.nil A) HW (HA.nil hS) _ p1)
  unfold Bv at hr;cases k with
  |none=>exact one hr hn p
  |some k'=>
   simp only at hr;obtain⟨X1,h1,h2,p1⟩:=Ri p hr hn;exact one h1 h2 p1
 |.loop x,σ,k,e,h,X,hr,hn,hd=>by
  intro φ w a hS HW HA Q p;have hd:CY N x=true:=hd;have plain:iter (Bv ty A x [] none) rounds F e h=X->(AD2 x).wp P Q a w:=by
   intro hr;refine wp_loop_rounds rounds (Vd hm (fun h1 h2 φ w a HW HA Q p=>EL hT hF hm x h1 h2 hd _ _ _ (.nil A) HW HA _ p) rounds hr hn _ _ _ HW (HA.nil hS) _ {go:=fun _ h=>(by cases h),norm:=fun _ e2 h2 χ a2 w2 g2 hx=>?_,exit:=p.exit,ret:=p.ret})
   exfalso
   subst hx;have:∀ (n:Nat) (e:Env) (h:Hp),iter (Bv ty A x [] none) n F e h≠.norm e2 h2:=by
    intro n
    induction n with
    |zero=>intro e h hq;cases hq
    |succ n ih=>
     intro e h hq;unfold iter at hq;cases hb:Bv ty A x [] none F e h with
     |norm e1 h1=>rw[hb]at hq;exact ih e1 h1 hq
     |no=>rw[hb]at hq;cases hq
     |exit _ _ _=>rw[hb]at hq;cases hq
     |ret _ _=>rw[hb]at hq;cases hq
   exact this _ e h hr
  unfold Bv at hr;cases hw:WQ A x with
  |none=>rw[hw]at hr;exact plain hr
  |some kw=>
   rw[hw]at hr;have hr:I7 kw (Bv ty A x [] none) F e h=X:=hr;obtain⟨id,o1,o2,r2,W⟩:=SM hw;unfold I7 at hr;split at hr
   case h_2=>exact absurd hr.symm hn
   rename_i ad hit;split at hr
   case h_2=>exact plain hr
   rename_i m since seen last AF0;split at hr
   case h_2=>exact absurd hr.symm hn
   split at hr
   case h_2=>exact absurd hr.symm hn
   rename_i es c AF1;split at hr
   case h_2=>exact plain hr
   have hdd:CY N (.region id #[o1,o2] false)=true/\CY N (.seq (.cond (.tmp kw.more) .skip (.exit kw.out)) r2)=true:=by
    rw[W.code]at hd;have hd:(CY N (.region id #[o1,o2] false) && CY N (.seq (.cond (.tmp kw.more) .skip (.exit kw.out)) r2))=true:=hd;exact Bool.and_eq_true_iff.1 hd
   have hnm:kw.nx<N/\kw.more<N:=by
    have:=hdd.1;unfold CY at this;simp only[List.all_cons,List.all_nil,Bool.and_true,xk,W.AGT,W.AGm]at this;exact⟨BW.1 this.1,BW.1 this.2⟩
   have AKe:ABs (ACA (.cond (.tmp kw.more) .skip (.exit kw.out)) r2)<ABs x:=by
    rw[W.code];simp;omega
   obtain⟨hoff,hr⟩:=ud hr hn;obtain⟨AEM,hr⟩:=ud hr hn;exact So W hnm (fun h1 h2 φ w a HW HA Q p=>EL hT hF hm (.seq (.cond (.tmp kw.more) .skip (.exit kw.out)) r2) h1 h2 hdd.2 _ _ _ (.nil A) HW HA _ p) hit hoff (Au.1 AEM) hr hn HW (HA.nil hS) p.exit
 |.exit id,σ,k,e,h,X,hr,hn,hd=>by
  intro φ w a hS HW HA Q p;have hr:(.exit id e h:Go.Proofs.YtbjadbhkogcfeaaGreat.X)=X:=hr;exact wp_exit (p.exit id e h φ a w ⟨.nil A,HW,HA.nil hS,.refl _ _ _⟩ hr.symm)
 |.ret,σ,k,e,h,X,hr,hn,hd=>by
  intro φ w a hS HW HA Q p;have hr:(.ret e h:Go.Proofs.YtbjadbhkogcfeaaGreat.X)=X:=hr;exact wp_ret (p.ret e h φ a w ⟨.nil A,HW,HA.nil hS,.refl _ _ _⟩ hr.symm)
 |.rangeFunc _ _ _ _,_,_,_,_,X,hr,hn,_=>by exact absurd hr.symm hn
 |.scope x,σ,k,e,h,X,hr,hn,hd=>by
  intro φ w a hS HW HA Q p;have hd:CY N x=true:=hd;have hr:Bv ty A x σ k F e h=X:=hr;exact wp_scope_straight (EL hT hF hm x hr hn hd _ _ _ hS HW HA _ {go:=p.go,norm:=p.norm,exit:=p.exit,ret:=p.ret})
 |.label _,σ,k,e,h,X,hr,hn,hd=>by
  intro φ w a hS HW HA Q p;exact wp_label (p.then ⟨hS,HW,HA,.refl _ _ _⟩ hr)
 |.goto _,_,_,_,_,X,hr,hn,_=>by exact absurd hr.symm hn
 |.refuse _,_,_,_,_,X,hr,hn,_=>by exact absurd hr.symm hn
termination_by c=>ABs c
decreasing_by
 all_goals simp_wf
 all_goals first|omega|(simp_all;omega)
end
end
noncomputable section
open Go
section
variable {P:yg}{ty:TTy}{A:List Nat}{N:Nat}{φ:Phi}{h h':Hp}{w:yJ}{e:Env}{a:Act}{v:IN}
theorem OB{t:Nat}(h:PI A t=true)(e:Env):AEZ A [] e t=some (J t e):=by
 unfold PI at h;rw[EW];show(match memN t A with|true=>none|false=>match ye t 160 with|true=>some (J t e)|false=>none)=_;cases hm:memN t A with
 |true=>rw[hm]at h;cases h
 |false=>
  rw[hm]at h;have h:ye t 160=true:=h;simp only[h]
def RW(tmps:Array IN):ACF->Sem IN
 |.tmp t=>pure (tmps.getD t undef)
 |.cell a t=>do loadVar t (<- asAddr (tmps.getD a undef))
theorem Td(fn:Func)(tmps:Array IN):ADE fn tmps=(do let vs <- fn.results.mapM (RW tmps);pure (if h:vs.size=1 then vs[0]else .tuple vs)):=by
 unfold ADE
 congr 2
theorem Yj(f:ACF->Sem IN)(l:Array ACF){vs:List IN}(h:(l.toList.mapM f).run P w=.ok vs w):(l.mapM f).run P w=.ok ⟨vs⟩ w:=by
 have:l.mapM f=List.toArray <$> l.toList.mapM f:=by
  conv=>lhs;rw[<- Array.toArray_toList (xs:=l)]
  rw[List.mapM_toArray]
 rw[this,map_eq_pure_bind,xO,h,If,xQ]
theorem Gu(hT:Cx P ty)(H:AEI ty φ nil h w)(HA:AR N φ (AEZ A [] e) a):∀ {l:List ACF} {rs:List RV} {k:List IN->R},rsC ty A l=some rs->Go.Proofs.YtbjadbhkogcfeaaGreat.results e h k rs=.ok v h'->
  ∃ vs vs',AEX φ vs vs'/\k vs=.ok v h'/\(l.mapM (RW a.tmps)).run P w=.ok vs' w
 |[],rs,k,hc,hr=>by
  cases hc;exact⟨[],[],.nil,hr,by simp⟩
 |.tmp t::l,rs,k,hc,hr=>by
  unfold rsC at hc;split at hc
  ·cases hc
  rename_i ht;split at hc
  case h_2=>cases hc
  rename_i r hrs;cases hc;unfold Go.Proofs.YtbjadbhkogcfeaaGreat.results at hr;have hr:AEN (J t e) (fun v=>Go.Proofs.YtbjadbhkogcfeaaGreat.results e h (fun vs=>k (v::vs)) r)=.ok v h':=hr;rw[BK]at hr;obtain⟨vs,vs',h1,h2,h3⟩:=Gu hT H HA hrs hr;have h4:=HA.rel t _ (OB ht e);exact⟨_,_,.cons h4 h1,h2,by simp[ABu,RW,h3]⟩
 |.cell c t::l,rs,k,hc,hr=>by
  unfold rsC at hc;split at hc
  ·cases hc
  rename_i ht;split at hc
  case h_2=>cases hc
  rename_i ti hti;split at hc
  case h_2=>cases hc
  rename_i r hrs;have T:=hT t ti hti;have h4:=HA.rel c _ (OB ht e);cases hag:ti.k.agg with
  |true=>
   rw[hag]at hc;cases hc;unfold Go.Proofs.YtbjadbhkogcfeaaGreat.results FL at hr;simp only at hr;cases AGn:Ds (J c e)with
   |no=>rw[AGn]at hr;cases hr
   |ok ad=>
    rw[AGn]at hr;simp only at hr;cases hl:loadN ti.size ad h with
    |no=>rw[hl]at hr;cases hr
    |ok u h2=>
     rw[hl]at hr;simp only[BK]at hr;rw[Hu AGn]at h4;obtain⟨a',ha',hra⟩:=h4.AFG;obtain⟨_,l',hv,hrun⟩:=Qo (P:=P) H hl hra (fun h=>h);obtain⟨vs,vs',h1,h5,h3⟩:=Gu hT H HA hrs hr;refine⟨_,_,.cons hv h1,h5,?_⟩;have:(RW a.tmps (.cell c t)).run P w=.ok (.agg l'.toArray) w:=by
      unfold RW;simp only[ha',asAddr,xO,xQ,If,loadVar,T.agg,hag,if_true,T.size,hrun]
     simp[ABu,this,h3]
  |false=>
   rw[hag]at hc;cases hc;unfold Go.Proofs.YtbjadbhkogcfeaaGreat.results FL at hr;simp only at hr;cases AGn:Ds (J c e)with
   |no=>rw[AGn]at hr;cases hr
   |ok ad=>
    rw[AGn]at hr;simp only at hr;cases hl:AEF ad h with
    |no=>rw[hl]at hr;cases hr
    |ok u h2=>
     rw[hl]at hr;simp only[BK]at hr;rw[Hu AGn]at h4;obtain⟨a',ha',hra⟩:=h4.AFG;obtain⟨_,v',hcell,hv⟩:=Qn H hl hra (fun h=>h);obtain⟨vs,vs',h1,h5,h3⟩:=Gu hT H HA hrs hr;refine⟨_,_,.cons hv h1,h5,?_⟩;have:(RW a.tmps (.cell c t)).run P w=.ok v' w:=by
      unfold RW;simp only[ha',asAddr,xO,xQ,If,loadVar,T.agg,hag,yG,if_false,run_load,hcell]
     simp[ABu,this,h3]
theorem Ni(hT:Cx P ty)(H:AEI ty φ nil h w)(HA:AR N φ (AEZ A [] e) a){fn:Func}{rs:List RV}(hc:rsC ty A fn.results.toList=some rs)(hr:Ei rs e h=.ok v h'):
  h'=h/\∃ v',AED φ v v'/\(ADE fn a.tmps).run P w=.ok v' w:=by
 unfold Ei at hr;obtain⟨vs,vs',h1,h2,h3⟩:=Gu hT H HA hc hr;have hrun:=Yj (P:=P) (w:=w) (RW a.tmps) fn.results h3;rw[Td];simp only[xO,hrun,If,xQ];unfold JM at h2;split at h2
 ·cases h2
  cases h1 with
  |cons hv ht=>cases ht;exact⟨rfl,_,hv,rfl⟩
 ·rename_i hne
  cases h2;refine⟨rfl,_,.tuple h1,?_⟩;have:vs'.length≠1:=by
   rw[h1.length];intro hl;cases vs with
   |nil=>cases hl
   |cons x l=>
    cases l with
    |nil=>exact hne x rfl
    |cons _ _=>simp at hl
  have hs:¬ (Array.mk vs').size=1:=this;rw[dif_neg hs]
theorem Ro:∀ (args:List IN) (e:Env) (i t:Nat),i+args.length<=160->t<160->(AS e i args).get t=if i<=t/\t<i+args.length then args.getD (t - i) AEE else e.get t
 |[],e,i,t,_,_=>by
  rw[if_neg (by simp)];rfl
 |v::l,e,i,t,hn,ht=>by
  simp only[xP]at hn;unfold AS;rw[Ro l _ (i+1) t (by omega) ht];by_cases h1:i+1<=t/\t<i+1+l.length
  ·rw[if_pos h1,if_pos (by simp only[xP];omega)]
   have:t - i=(t - (i+1))+1:=by omega
   rw[this,List.getD_cons_succ]
  ·rw[if_neg h1,Env.AEQ _ _ _ _ (by omega) ht]
   by_cases h2:t=i
   ·subst h2
    rw[if_pos rfl,if_pos (by simp only[xP];omega)];simp
   ·rw[if_neg h2,if_neg (by simp only[xP];omega)]
set_option maxRecDepth 100000 in
theorem qP{t:Nat}(ht:t<160):e0.get t=AEE:=by
 have H:Lo (fun i=>e0.get i=AEE) 160:=by
  repeat' (first|exact trivial|refine⟨rfl,?_⟩)
 exact H.at t ht
theorem dA{args args':List IN}(hr:AEX φ args args')(hn:args.length<=160)(n:Nat):
  AR (max args.length n) φ (AEZ A [] (AS e0 0 args)) {tmps:=(⟨args'⟩:Array IN)++Array.replicate (n - (⟨args'⟩:Array IN).size) undef,defers:=[]} where
 size:=by
  have:=hr.length;simp only[Array.size_append,Array.size_replicate,ABS];omega
 defs:=rfl
 rel:=fun t u hu=>by
  rw[EW]at hu;have hu:(match memN t A with|true=>none|false=>match ye t 160 with|true=>some (J t (AS e0 0 args))|false=>none)=some u:=hu;cases hm:memN t A with
  |true=>rw[hm]at hu;cases hu
  |false=>
   rw[hm]at hu;simp only at hu;cases hb:ye t 160 with
   |false=>rw[hb]at hu;cases hu
   |true=>
    rw[hb]at hu;cases hu;have ht:=BW.1 hb;rw[C8 t ht,Ro args e0 0 t (by omega) ht,qP ht];have hlen:=hr.length;simp only[Array.getD_eq_getD_getElem?];by_cases h1:t<args.length
    ·rw[if_pos (by omega),Nat.sub_zero,Array.getElem?_append_left (by simp only[ABS];omega)]
     obtain⟨v',h2,h3⟩:=hr.get t args[t] (xL h1);have:args.getD t AEE=args[t]:=by rw[List.getD_eq_getElem?_getD,xL h1];rfl
     rw[this];have e2:(⟨args'⟩:Array IN)[t]? =some v':=by simpa using h2
     rw[e2];exact h3
    ·rw[if_neg (by omega),Array.getElem?_append_right (by simp only[ABS];omega),Array.getElem?_replicate]
     split<;>exact .tuple .nil
theorem YL{l:List ACF}{rs:List RV}(hc:rsC ty A l=some rs):Tq rs=none:=by
 cases l with
 |nil=>cases hc;rfl
 |cons x l=>
  cases x with
  |tmp t=>
   unfold rsC at hc;split at hc
   ·cases hc
   ·split at hc
    ·cases hc;rfl
    ·cases hc
  |cell c t=>
   unfold rsC at hc;split at hc
   ·cases hc
   ·split at hc
    ·split at hc
     ·split at hc
      ·cases hc;rfl
      ·cases hc;rfl
     ·cases hc
    ·cases hc
def sd(P:yg)(ty:TTy)(g:Nat)(b:Body):Prop:=∃ fn A,P.funcs[g]? =some fn/\fn.name≠"runtime.NumGoroutine" /\A4 ty A fn=some b
def An:Body:=⟨[],cNo⟩
theorem De{n m:Nat}(h:n<=m):∀ {c:AC5},CY n c=true->CY m c=true
 |.region _ ops _,hd=>by
  unfold CY at hd ⊢;rw[AAQ]at hd ⊢;intro o ho;have:=hd o ho;split at this
  ·have:=BW.1 this
   exact BW.2 (by omega)
  ·rfl
 |.seq a b,hd=>by
  have hd:(CY n a && CY n b)=true:=hd;rw[xk]at hd;show(CY m a && CY m b)=true;rw[De h hd.1,De h hd.2];rfl
 |.cond _ a b,hd=>by
  have hd:(CY n a && CY n b)=true:=hd;rw[xk]at hd;show(CY m a && CY m b)=true;rw[De h hd.1,De h hd.2];rfl
 |.block _ a,hd=>De (c:=a) h hd
 |.loop a,hd=>De (c:=a) h hd
 |.skip,_=>rfl
 |.exit _,_=>rfl
 |.ret,_=>rfl
 |.rangeFunc _ _ _ _,_=>rfl
 |.scope a,hd=>De (c:=a) h hd
 |.label _,_=>rfl
 |.goto _,_=>rfl
 |.refuse _,_=>rfl
theorem Zi(hT:Cx P ty){F:AEB}(hF:DJ P ty F)(hm:P.follows .mixedOrders=true){g:Nat}{b:Body}(hb:sd P ty g b){args:List IN}(hr:enter F b args h=.ok v h'):
  (∃ fn,P.funcs[g]? =some fn/\fn.name≠"runtime.NumGoroutine" /\fn.body.isNone=false)/\
  ∀ φ w args',AEX φ args args'->AEI ty φ nil h w->
   Calls P g ⟨args'⟩ w fun en w'=>∃ v' ψ,en=.returned v'/\AED ψ v v'/\AEI ty ψ nil h' w'/\Evo φ h w ψ h' w':=by
 obtain⟨fn,A,hfn,hname,AFM⟩:=hb;unfold A4 at AFM;cases hc:fn.body with
 |none=>rw[hc]at AFM;cases AFM
 |some c=>
  rw[hc]at AFM;simp only at AFM;cases hrs:rsC ty A fn.results.toList with
  |none=>rw[hrs]at AFM;cases AFM
  |some rs=>
   rw[hrs]at AFM;simp only at AFM;cases hd:CY fn.ntmps c with
   |false=>rw[hd]at AFM;cases AFM
   |true=>
    rw[hd]at AFM;cases AFM;refine⟨⟨fn,hfn,hname,by rw[hc];rfl⟩,fun φ w args' AEj HW=>?_⟩;unfold enter at hr
    dsimp only at hr
    rw[YL hrs]at hr;obtain⟨hlen,hr⟩:=Br hr;have hlen:args.length<=160:=by rw[<- Bf];exact Au.1 hlen
    have hAR:=dA (A:=A) AEj hlen fn.ntmps;refine calls_of_wp hfn hc ?_;have hn:Bv ty A c [] none F (AS e0 0 args) h≠.no:=by
     intro hx;rw[hx]at hr;cases hr
    refine EL hT hF hm c (e:=AS e0 0 args) (h:=h) rfl hn (De (AA5 _ _) hd) _ _ _ (.nil A) HW hAR _ {go:=fun _ h=>(by cases h),norm:=fun _ e1 h1 ψ a1 w1 g1 hx=>?_,exit:=fun id e1 h1 ψ a1 w1 g1 hx=>?_,ret:=fun e1 h1 ψ a1 w1 g1 hx=>?_}
    ·rw[hx]at hr
     obtain⟨rfl,v',hv,hrun⟩:=Ni hT g1.rel g1.ar hrs hr;exact⟨g1.ar.defs,v',hrun,v',ψ,rfl,hv,g1.rel,g1.evo⟩
    ·rw[hx]at hr;cases hr
    ·rw[hx]at hr
     obtain⟨rfl,v',hv,hrun⟩:=Ni hT g1.rel g1.ar hrs hr;exact⟨g1.ar.defs,v',hrun,v',ψ,rfl,hv,g1.rel,g1.evo⟩
def Lp(P:yg)(ty:TTy)(g:Nat)(b:Body):Prop:=∀ (F:AEB) (args:List IN) (h:Hp) (v:IN) (h':Hp),DJ P ty F->enter F b args h=.ok v h'->
 (∃ fn,P.funcs[g]? =some fn/\fn.name≠"runtime.NumGoroutine" /\fn.body.isNone=false)/\
 ∀ φ w args',AEX φ args args'->AEI ty φ nil h w->
  Calls P g ⟨args'⟩ w fun en w'=>∃ v' ψ,en=.returned v'/\AED ψ v v'/\AEI ty ψ nil h' w'/\Evo φ h w ψ h' w'
def BR(P:yg)(ty:TTy)(g:Nat)(b:Body):Prop:=sd P ty g b\/b=An\/Lp P ty g b
def FT.All(p:Nat->Body->Prop):FT->(Nat->Nat)->Prop
 |.mt,_=>True
 |.nd b l r,ix=>p (ix 0) b/\FT.All p l (fun k=>ix (2*k+1))/\FT.All p r (fun k=>ix (2*k+2))
theorem FT.All.get{p:Nat->Body->Prop}:∀ {t:FT} {ix:Nat->Nat},FT.All p t ix->∀ {i:Nat} {b:Body},t.get i=some b->p (ix i) b
 |.mt,ix,_,i,b,h=>by cases h
 |.nd c l r,ix,⟨h0,hl,hr⟩,0,b,h=>by cases h;exact h0
 |.nd c l r,ix,⟨h0,hl,hr⟩,k+1,b,h=>by
  unfold FT.get at h;have e1:Nat.mod k 2=k % 2:=rfl;have e2:Nat.div k 2=k / 2:=rfl;rw[e1,e2]at h;rcases Nat.mod_two_eq_zero_or_one k with hk|hk
  ·rw[hk]at h
   have:=hl.get (i:=k/2) h;have e:2*(k/2)+1=k+1:=by omega
   simp only[e]at this;exact this
  ·rw[hk]at h
   have:=hr.get (i:=k/2) h;have e:2*(k/2)+2=k+1:=by omega
   simp only[e]at this;exact this
theorem I9(hT:Cx P ty)(hm:P.follows .mixedOrders=true){bs:FT}(hb:FT.All (BR P ty) bs id):∀ n,DJ P ty (call bs n)
 |0=>fun g args h v h' hr=>by cases hr
 |n+1=>fun g args h v h' hr=>by
  have hr:(match bs.get g with|some b=>enter (call bs n) b args h|none=>.no)=.ok v h':=hr;cases hg:bs.get g with
  |none=>rw[hg]at hr;cases hr
  |some b=>
   rw[hg]at hr;rcases hb.get hg with hok|rfl|hdo
   ·exact Zi hT (I9 hT hm hb n) hm hok hr
   ·exfalso
    have hr:(bif xU (BB args) 160 then A3 [] .no else .no)=.ok v h':=hr;obtain⟨_,hr⟩:=Br hr;cases hr
   ·exact hdo _ args h v h' (I9 hT hm hb n) hr
end
end
noncomputable section
open Go Go.RowKit Go.WideShapes Go.ChangeShapes
def bD:R->Bool
 |.ok (.bool b) _=>b
 |_=>false
def rt:Phi:=fun _=>none
theorem OM(ty:TTy)(w:yJ):AEI ty rt nil IW w where
 dom:=fun i p h=>by cases h
 inj:=fun i j p q h=>by cases h
 row:=fun i p h=>by cases h
 fresh:=fun i _=>KP 9 i
 kind:=fun i p c s e h=>by cases h
 inp:=fun i p h=>by cases h
theorem bp{P:yg}{ty:TTy}{bs:FT}(hC:∀ n,DJ P ty (call bs n)){n f:Nat}(h:bD (call bs n f [] IW)=true)(w:yJ):
  Calls P f #[] w fun e w'=>e=.returned (.bool true)/\Below w.heap.size w w':=by
 cases hr:call bs n f [] IW with
 |no=>rw[hr]at h;cases h
 |ok v h'=>
  rw[hr]at h;obtain⟨_,hc⟩:=hC n f [] IW v h' hr;refine(hc rt w [] .nil (OM ty w)).mono fun e w' ⟨v',ψ,he,hv,_,ev⟩=>?_
  cases v with
  |bool b=>
   have h:b=true:=h;subst h;have:=hv.AE4;subst this;exact⟨he,⟨ev.os,ev.tape,ev.output,ev.size,fun k hk=>ev.frame k hk fun i p hp=>by cases hp⟩⟩
  |_=>cases h
section
variable {H:Type}{enc:TypeId×IN->H}{P:yg}
theorem NT{f:Func}{s:ChangeSpec}{apart fresh handsOn again:Bool}{W W':yJ}{args:Array IN}{v:IN}{ds gs:List (DataW H)}{before pa pv:List MemPlace}
  (hW:DataW.Whole enc P f.params.toList s.vars apart W args.toList ds gs before)
  (hres:∀ (b:Nat) (sp:Nat->Bool) (hd:Bool),ADN enc P W' b sp hd f.resultTypes.toList (v.resultList f.resultTypes.size) (s.fn H (ds++gs)).results [])
  (hargs:∀ sp:Nat->Bool,(∀ p∈before,sp p.block=true)->ADN enc P W' 0 sp true f.params.toList args.toList (s.fn H (ds++gs)).args pa)
  (hvars:∀ sp:Nat->Bool,(∀ p∈before,sp p.block=true)->DataW.TrodVars enc P W' sp s.vars (s.fn H (ds++gs)).vars pv)
  (hps:before=pa++pv)(hb:Below W.heap.size W W')
  (hok:∀ (j:Nat) (t:TypeId) (r:IN),f.resultTypes[j]? =some t->(v.resultList f.resultTypes.size)[j]? =some r->Value.okWide P W' .any 0 t r):
  s.post enc P f apart fresh handsOn again W args v W':=by
 have hlt:∀ p∈before,p.block<W.heap.size:=fun p hp=>hW.lt p hp
 have hold:∀ p∈before,(fun b=>decide (b<W.heap.size)) p.block=true:=fun p hp=>by simpa using hlt p hp
 refine⟨ds,gs,before,[],pa,pv,hW,hres _ _ _,hargs _ hold,hvars _ hold,World.keptBut_mono (fun p hp=>⟨hp,?_⟩) (hb.frame (· ∈before)),fun _=>?_⟩
 ·rw[hps,yH]at hp
  exact Or.inr hp
 ·obtain⟨_,_,_,_,_,hz,hn⟩:=hW
  refine⟨hok,_,_,([]++pa)++pv,⟨[]++pa,pv,trodAll_append (hargs _ (fun _ _=>rfl)) (hres _ _ _),hvars _ (fun _ _=>rfl),rfl,?_,?_⟩,?_⟩
  ·intro b off hp
   have hin:MemPlace.cell b off∈before:=by rw[hps];simpa using hp
   rw[hb.frozen (hlt _ hin)];exact hz b off hin
  ·intro ha
   have:=hn ha;rw[hps]at this
   simpa using this
  ·intro p hp _
   rw[hps]
   simpa using hp
end
end
noncomputable section
open Go
namespace VT
def has:VT->Nat->Prop
 |.mt,_=>False
 |.nd _ _ _,0=>True
 |.nd _ l r,k+1=>if k % 2=0 then l.has (k/2)else r.has (k/2)
theorem AEL(v:IN)(l r:VT)(k:Nat):(VT.nd v l r).has (k+1)=if k % 2=0 then l.has (k/2)else r.has (k/2):=by rw[has]
theorem Fj:∀ (t:VT) (i:Nat) (x:IN),(∀ j,j<i->t.has j)->∃ t',t.set i x=some t'
 |.mt,0,x,_=>⟨_,rfl⟩
 |.mt,i+1,x,h=>(h 0 (ACe i)).elim
 |.nd v l r,0,x,_=>⟨_,rfl⟩
 |.nd v l r,k+1,x,h=>by
  rw[AEh];by_cases hk:k % 2=0
  ·rw[if_pos hk]
   obtain⟨l',hl⟩:=Fj l (k/2) x fun j hj=>by
    have:=h (2*j+1) (by omega);rw[AEL,if_pos (by omega)]at this;have e:2*j/2=j:=by omega
    rwa [e]at this
   rw[hl];exact⟨_,rfl⟩
  ·rw[if_neg hk]
   obtain⟨r',hr⟩:=Fj r (k/2) x fun j hj=>by
    have:=h (2*j+1+1) (by omega);rw[AEL,if_neg (by omega)]at this;have e:(2*j+1)/2=j:=by omega
    rwa [e]at this
   rw[hr];exact⟨_,rfl⟩
theorem Gw:∀ (t:VT) (i:Nat) (x:IN) (t':VT),t.set i x=some t'->∀ j,(j=i\/t.has j)->t'.has j
 |.mt,0,x,t',h,j,hj=>by
  obtain rfl:VT.nd x .mt .mt=t':=Option.some.inj h;rcases hj with rfl|hj
  ·exact trivial
  ·exact hj.elim
 |.mt,i+1,x,t',h,j,hj=>by cases h
 |.nd v l r,0,x,t',h,j,hj=>by
  obtain rfl:VT.nd x l r=t':=Option.some.inj h;cases j with
  |zero=>exact trivial
  |succ j=>
   rcases hj with hj|hj
   ·cases hj
   ·rw[AEL]at hj ⊢;exact hj
 |.nd v l r,i+1,x,t',h,j,hj=>by
  rw[AEh]at h;split at h
  ·rename_i h0
   cases hs:l.set (i/2) x with
   |none=>rw[hs]at h;cases h
   |some l'=>
    rw[hs]at h;obtain rfl:VT.nd v l' r=t':=Option.some.inj h;cases j with
    |zero=>exact trivial
    |succ j=>
     rw[AEL];split
     ·rename_i h1
      refine Gw l _ x l' hs _ ?_;rcases hj with hj|hj
      ·left;have:j=i:=by omega
       rw[this]
      ·right;rw[AEL,if_pos h1]at hj;exact hj
     ·rename_i h1
      rcases hj with hj|hj
      ·have:j=i:=by omega
       exact absurd (this ▸ h0) h1
      ·rw[AEL,if_neg h1]at hj;exact hj
  ·rename_i h0
   cases hs:r.set (i/2) x with
   |none=>rw[hs]at h;cases h
   |some r'=>
    rw[hs]at h;obtain rfl:VT.nd v l r'=t':=Option.some.inj h;cases j with
    |zero=>exact trivial
    |succ j=>
     rw[AEL];split
     ·rename_i h1
      rcases hj with hj|hj
      ·have:j=i:=by omega
       exact absurd (this ▸ h1) h0
      ·rw[AEL,if_pos h1]at hj;exact hj
     ·rename_i h1
      refine Gw r _ x r' hs _ ?_;rcases hj with hj|hj
      ·left;have:j=i:=by omega
       rw[this]
      ·right;rw[AEL,if_neg h1]at hj;exact hj
def lay(t:VT)(i:Nat)(x:IN):VT:=(t.set i x).getD t
theorem AEt{t:VT}{i:Nat}{x:IN}(h:∀ j,j<i->t.has j):t.set i x=some (t.lay i x):=by
 obtain⟨t',ht⟩:=Fj t i x h;unfold lay;rw[ht];rfl
theorem AFB{t:VT}{i:Nat}{x:IN}(h:∀ j,j<i->t.has j)(j:Nat):(t.lay i x).get j=if j=i then x else t.get j:=AEQ _ _ _ _ (AEt h) j
theorem AFH{t:VT}{i:Nat}{x:IN}(h:∀ j,j<i->t.has j)(j:Nat)(hj:j=i\/t.has j):(t.lay i x).has j:=Gw _ _ _ _ (AEt h) j hj
end VT
namespace BT
theorem AEL(v:Blk)(l r:BT)(k:Nat):(BT.nd v l r).has (k+1)=if k % 2=0 then l.has (k/2)else r.has (k/2):=by rw[has]
theorem Fj:∀ (t:BT) (i:Nat) (x:Blk),(∀ j,j<i->t.has j)->∃ t',t.set i x=some t'
 |.mt,0,x,_=>⟨_,rfl⟩
 |.mt,i+1,x,h=>(h 0 (ACe i)).elim
 |.nd v l r,0,x,_=>⟨_,rfl⟩
 |.nd v l r,k+1,x,h=>by
  rw[AEh];by_cases hk:k % 2=0
  ·rw[if_pos hk]
   obtain⟨l',hl⟩:=Fj l (k/2) x fun j hj=>by
    have:=h (2*j+1) (by omega);rw[AEL,if_pos (by omega)]at this;have e:2*j/2=j:=by omega
    rwa [e]at this
   rw[hl];exact⟨_,rfl⟩
  ·rw[if_neg hk]
   obtain⟨r',hr⟩:=Fj r (k/2) x fun j hj=>by
    have:=h (2*j+1+1) (by omega);rw[AEL,if_neg (by omega)]at this;have e:(2*j+1)/2=j:=by omega
    rwa [e]at this
   rw[hr];exact⟨_,rfl⟩
theorem Gw:∀ (t:BT) (i:Nat) (x:Blk) (t':BT),t.set i x=some t'->∀ j,(j=i\/t.has j)->t'.has j
 |.mt,0,x,t',h,j,hj=>by
  obtain rfl:BT.nd x .mt .mt=t':=Option.some.inj h;rcases hj with rfl|hj
  ·exact trivial
  ·exact hj.elim
 |.mt,i+1,x,t',h,j,hj=>by cases h
 |.nd v l r,0,x,t',h,j,hj=>by
  obtain rfl:BT.nd x l r=t':=Option.some.inj h;cases j with
  |zero=>exact trivial
  |succ j=>
   rcases hj with hj|hj
   ·cases hj
   ·rw[AEL]at hj ⊢;exact hj
 |.nd v l r,i+1,x,t',h,j,hj=>by
  rw[AEh]at h;split at h
  ·rename_i h0
   cases hs:l.set (i/2) x with
   |none=>rw[hs]at h;cases h
   |some l'=>
    rw[hs]at h;obtain rfl:BT.nd v l' r=t':=Option.some.inj h;cases j with
    |zero=>exact trivial
    |succ j=>
     rw[AEL];split
     ·rename_i h1
      refine Gw l _ x l' hs _ ?_;rcases hj with hj|hj
      ·left;have:j=i:=by omega
       rw[this]
      ·right;rw[AEL,if_pos h1]at hj;exact hj
     ·rename_i h1
      rcases hj with hj|hj
      ·have:j=i:=by omega
       exact absurd (this ▸ h0) h1
      ·rw[AEL,if_neg h1]at hj;exact hj
  ·rename_i h0
   cases hs:r.set (i/2) x with
   |none=>rw[hs]at h;cases h
   |some r'=>
    rw[hs]at h;obtain rfl:BT.nd v l r'=t':=Option.some.inj h;cases j with
    |zero=>exact trivial
    |succ j=>
     rw[AEL];split
     ·rename_i h1
      rcases hj with hj|hj
      ·have:j=i:=by omega
       exact absurd (this ▸ h1) h0
      ·rw[AEL,if_pos h1]at hj;exact hj
     ·rename_i h1
      refine Gw r _ x r' hs _ ?_;rcases hj with hj|hj
      ·left;have:j=i:=by omega
       rw[this]
      ·right;rw[AEL,if_neg h1]at hj;exact hj
def lay(t:BT)(i:Nat)(x:Blk):BT:=(t.set i x).getD t
theorem AEt{t:BT}{i:Nat}{x:Blk}(h:∀ j,j<i->t.has j):t.set i x=some (t.lay i x):=by
 obtain⟨t',ht⟩:=Fj t i x h;unfold lay;rw[ht];rfl
theorem AFB{t:BT}{i:Nat}{x:Blk}(h:∀ j,j<i->t.has j)(j:Nat):(t.lay i x).get j=if j=i then x else t.get j:=AEQ _ _ _ _ (AEt h) j
theorem AFH{t:BT}{i:Nat}{x:Blk}(h:∀ j,j<i->t.has j)(j:Nat)(hj:j=i\/t.has j):(t.lay i x).has j:=Gw _ _ _ _ (AEt h) j hj
end BT
end
noncomputable section
open Go
section
variable {F:AEB}{e:Env}{h:Hp}{k a b:C}{f:OpF}{x y:O}
def opX(i:Nat)(r:R)(k:C)(F:AEB)(e:Env):X:=match r with
 |.ok v h=>k F (Env.set i v e) h
 |.no=>.no
def doX(r:R)(k:C)(F:AEB)(e:Env):X:=match r with
 |.ok _ h=>k F e h
 |.no=>.no
def YM(x:X)(b:C)(F:AEB):X:=match x with
 |.norm e h=>b F e h
 |x=>x
def J7(id:Nat)(x:X):X:=match x with
 |.exit i e h=>bif xW i id then .norm e h else .exit i e h
 |x=>x
def Pw(v:IN)(a b:C)(F:AEB)(e:Env)(h:Hp):X:=match v with
 |.bool c=>(bif c then a else b) F e h
 |_=>.no
def V9(i:Nat)(k:C):C:=fun F e h=>k F (Env.set i AEE e) h
def HS(v:IN)(want:Bool)(a b:C)(F:AEB)(e:Env)(h:Hp):X:=match v with
 |.bool c=>(bif want == c then a else b) F e h
 |.tuple _=>b F e h
 |_=>.no
theorem Gq{i:Nat}{v:IN}:opX i (.ok v h) k F e=k F (Env.set i v e) h:=rfl
theorem ZZ{v:IN}:doX (.ok v h) k F e=k F e h:=rfl
theorem BD:YM (.norm e h) b F=b F e h:=rfl
theorem C7:YM (.ret e h) b F=.ret e h:=rfl
theorem OI{i:Nat}:YM (.exit i e h) b F=.exit i e h:=rfl
theorem C4{i:Nat}:J7 i (.norm e h)=.norm e h:=rfl
theorem CJ{i:Nat}:J7 i (.ret e h)=.ret e h:=rfl
theorem A9{i:Nat}:J7 i (.exit i e h)=.norm e h:=by
 show(bif xW i i then _ else _)=_;rw[zG];rfl
theorem Ie:Pw (.bool true) a b F e h=a F e h:=rfl
theorem HL:Pw (.bool false) a b F e h=b F e h:=rfl
theorem Nt:HS (.bool true) true a b F e h=a F e h:=rfl
theorem Ns:HS (.bool true) false a b F e h=b F e h:=rfl
theorem Nr:HS (.bool false) true a b F e h=b F e h:=rfl
theorem Nq:HS (.bool false) false a b F e h=a F e h:=rfl
theorem Ky{w:Bool}:HS AEE w a b F e h=b F e h:=rfl
theorem Rr{i:Nat}:V9 i k F e h=k F (Env.set i AEE e) h:=rfl
theorem oJ{i:Nat}(hi:i<160):SR (FD i) f k F e h=opX i (f F e h) k F e:=by
 unfold SR opX;cases f F e h with
 |ok v h=>exact Dy i hi _ v e
 |no=>rfl
theorem Yy:cDo f k F e h=doX (f F e h) k F e:=by
 unfold cDo doX;cases f F e h<;>rfl
theorem ue{g:O}{w:Bool}{i:Nat}(hi:i<160):cG g w (FD i) f k F e h=HS (g e) w (SR (FD i) f k) (V9 i k) F e h:=by
 unfold cG HS V9;cases g e with
 |bool c=>
  simp only;cases w == c
  ·exact Dy i hi _ _ e
  ·rfl
 |tuple l=>exact Dy i hi _ _ e
 |_=>rfl
theorem BJ:BH a b F e h=YM (a F e h) b F:=by
 unfold BH YM;cases a F e h<;>rfl
theorem Az{i:Nat}:Ac i a F e h=J7 i (a F e h):=by
 unfold Ac J7;cases a F e h<;>rfl
theorem HJ:IR x a b F e h=Pw (x e) a b F e h:=by
 unfold IR Pw;cases x e with
 |bool c=>cases c<;>rfl
 |_=>rfl
theorem Ly:Aw F e h=.norm e h:=rfl
theorem UN:Aq F e h=.ret e h:=rfl
theorem Pt{i:Nat}:CD i F e h=.exit i e h:=rfl
theorem AG{i j:Nat}{v:IN}(hi:i<160)(hj:j<160):J j (Env.set i v e)=if j=i then v else J j e:=by
 rw[C8 j hj,Env.AEQ _ _ _ _ hi hj,C8 j hj]
theorem HZ{v:IN}:kV v e=v:=rfl
theorem A0:vals e []=[]:=rfl
theorem AV{l:List O}:vals e (x::l)=x e::vals e l:=rfl
theorem LB{i:Nat}:AS e i []=e:=rfl
theorem Jp{i:Nat}{v:IN}{l:List IN}:AS e i (v::l)=AS (Env.set i v e) (Nat.succ i) l:=rfl
theorem Dx:AQ x F e h=.ok (x e) h:=E6 _ _
theorem Gg{i:Nat}(hi:i<160):G i f k F e h=opX i (f F e h) k F e:=oJ hi
theorem Sa{a:Nat}{w:Bool}{i:Nat}(hi:i<160):Al a w i f k F e h=HS (J a e) w (G i f k) (V9 i k) F e h:=ue hi
theorem OX{i:Nat}:Bm i a b F e h=Pw (J i e) a b F e h:=HJ
theorem Gp{i:Nat}:Am i F e h=.ok (J i e) h:=Dx
theorem Ev{j:xc}{n:Int}:Cg j (.int j n)=.ok n:=by cases j<;>rfl
theorem iT{j:xc}{n:Nat}:Fq j (.int j (.ofNat n))=.ok n:=by cases j<;>rfl
theorem IA{j:xc}{n:Nat}:Fq j (.int j (n:Int))=.ok n:=iT
theorem DD{j:xc}{n:Nat}:DG (.int j (n:Int))=.ok n:=rfl
theorem FC{c:Bool}:okB c h=.ok (.bool c) h:=by cases c<;>rfl
theorem Gj(a b:Int):iGt a b=decide (b<a):=DB b a
theorem On(a b:Int):iLe a b=decide (a<=b):=by
 show(!iLt b a)=_;rw[DB,<- decide_not]
 congr 1;simp
theorem Om(a b:Int):iGe a b=decide (b<=a):=On b a
theorem HU(a b:Int):iNe a b= !(a == b):=by
 show(!iEq a b)=_;rw[DZ]
def pn(f:Int->Int->Bool)(j:xc)(a b:IN)(h:Hp):R:=fC f (Cg j a) (Cg j b) h
def GG(f:Int->Int->Int)(j:xc)(a b:IN)(h:Hp):R:=mK f j (Cg j a) (Cg j b) h
theorem AK{f:Int->Int->Bool}{j:xc}:Ah f j x y F e h=pn f j (x e) (y e) h:=rfl
theorem B5{f:Int->Int->Int}{j:xc}:C1 f j x y F e h=GG f j (x e) (y e) h:=rfl
theorem AJ{f:Int->Int->Bool}{j:xc}{m n:Int}:pn f j (.int j m) (.int j n) h=.ok (.bool (f m n)) h:=by
 unfold pn;rw[Ev,Ev];exact FC
theorem Ck{f:Int->Int->Int}{j:xc}{m n:Int}:GG f j (.int j m) (.int j n) h=.ok (.int j (j.wrap (f m n))) h:=by
 unfold GG;rw[Ev,Ev];show okI j (EX j (f m n)) h=_;rw[Eq,C9]
def FE(j:xc)(a b:IN)(h:Hp):R:=cz j (BG j) (Cg j a) (Cg j b) h
theorem BP{j:xc}:CI j (BG j) x y F e h=FE j (x e) (y e) h:=rfl
theorem ci{j:xc}{n:Nat}(hn:xU n (BG j)=true):j.wrap (n:Int)=n:=by
 rw[<- C9];show AAF (motive:=fun _=>Int) (j.wrap (.ofNat n)) (.ofNat n) (xU n (BG j))=_;rw[hn];rfl
theorem D0{j:xc}{m n:Int}:FE j (.int j m) (.int j n) h=.ok (.int j (j.wrap (m+n))) h:=by
 unfold FE;rw[Ev,Ev];cases m with
 |negSucc m=>show okI j (EX j _) h=_;rw[Eq,C9]
 |ofNat m=>
  cases n with
  |negSucc n=>show okI j (EX j _) h=_;rw[Eq,C9]
  |ofNat n=>
   show AAF (motive:=fun _=>R) (okI j (j.wrap (.ofNat m+.ofNat n)) h) (AEV (zA m n) fun n=>.ok (.int j (.ofNat n)) h) (xU (zA m n) (BG j))=_;cases hb:xU (zA m n) (BG j)with
   |false=>simp only;rw[Eq]
   |true=>
    simp only;rw[Ao];have:=ci hb;have e:(yi m+yi n:Int)=((zA m n:Nat):Int):=by
     show((m:Int)+(n:Int))=((m+n:Nat):Int);omega
    rw[e,this];rfl
def Ss(j:xc)(a b:IN)(h:Hp):R:=ZX j (Cg j a) (Cg j b) h
def YI(j:xc)(a b:IN)(h:Hp):R:=bh j (Cg j a) (Cg j b) h
theorem Je{j:xc}:LL j x y F e h=Ss j (x e) (y e) h:=rfl
theorem Jf{j:xc}:PF j x y F e h=YI j (x e) (y e) h:=rfl
theorem LX{j:xc}{m n:Int}(hn:n≠0):Ss j (.int j m) (.int j n) h=.ok (.int j (j.wrap (m.tdiv n))) h:=by
 unfold Ss;rw[Ev,Ev];show(bif iEq n 0 then R.no else okI j (EX j (m.tdiv n)) h)=_;rw[DZ,Eq,C9,beq_false_of_ne hn];rfl
theorem PP{j:xc}{m n:Int}(hn:n≠0):YI j (.int j m) (.int j n) h=.ok (.int j (m.tmod n)) h:=by
 unfold YI;rw[Ev,Ev];show(bif iEq n 0 then R.no else okI j (m.tmod n) h)=_;rw[DZ,Eq,beq_false_of_ne hn];rfl
def Yr(f:Nat->Nat->Nat)(j:xc)(a b:IN)(h:Hp):R:=Yq f j (Fq j a) (Fq j b) h
theorem ii{f:Nat->Nat->Nat}{j:xc}:Ka f j x y F e h=Yr f j (x e) (y e) h:=rfl
theorem UJ{f:Nat->Nat->Nat}{j:xc}{m n:Nat}(hm:m<=BG j)(hn:n<=BG j):Yr f j (.int j (m:Int)) (.int j (n:Int)) h=.ok (.int j (f m n:Nat)) h:=by
 unfold Yr;rw[IA,IA];show(bif xU m (BG j)then(bif xU n (BG j)then okI j (.ofNat (f m n)) h else R.no)else R.no)=_;rw[Au.2 hm,Au.2 hn,Eq];rfl
def jt(j:xc)(a b:IN)(h:Hp):R:=bz j (Fq j a) (DG b) h
def cB(j:xc)(a b:IN)(h:Hp):R:=cA j (Fq j a) (DG b) h
theorem Vq{j:xc}:NS j x y F e h=jt j (x e) (y e) h:=rfl
theorem Vr{j:xc}:LM j x y F e h=cB j (x e) (y e) h:=rfl
theorem ju{j q:xc}{m n:Nat}:jt j (.int j (m:Int)) (.int q (n:Int)) h=.ok (.int j (j.wrap ((m*2 ^ min n j.bits:Nat):Int))) h:=by
 unfold jt;rw[IA,DD];show okI j (EX j (.ofNat (Nat.mul m (Nat.pow 2 (B9 n j.bits))))) h=_;rw[Eq,C9,BV];rfl
theorem V8{j q:xc}{m n:Nat}:cB j (.int j (m:Int)) (.int q (n:Int)) h=.ok (.int j ((m/2 ^ min n j.bits:Nat):Int)) h:=by
 unfold cB;rw[IA,DD];show okI j (.ofNat (Nat.div m (Nat.pow 2 (B9 n j.bits)))) h=_;rw[Eq,BV];rfl
def Dr(j:xc)(a:IN)(h:Hp):R:=match Xj a with
 |.ok n=>okI j (EX j n) h
 |.no=>.no
theorem Ca{j:xc}:C6 j x F e h=Dr j (x e) h:=rfl
theorem C5{j q:xc}{n:Int}:Dr j (.int q n) h=.ok (.int j (j.wrap n)) h:=by
 show okI j (EX j n) h=_;rw[Eq,C9]
def vI(a:IN)(h:Hp):R:=match a with
 |.bool b=>okB (!b) h
 |_=>.no
theorem BZ:EI x F e h=vI (x e) h:=rfl
theorem BX{c:Bool}:vI (.bool c) h=.ok (.bool (!c)) h:=FC
def bT(c a b:IN)(h:Hp):R:=bU c a b h
theorem Q5{c:O}:A5 c x y F e h=bT (c e) (x e) (y e) h:=rfl
theorem Mw{v u:IN}:bT (.bool true) v u h=.ok v h:=E6 _ _
theorem K6{v u:IN}:bT (.bool false) v u h=.ok u h:=E6 _ _
theorem BN{g:Nat}{l:List O}:AU g l F e h=F g (vals e l) h:=Cb _ _
theorem Ab{bs:FT}{n f:Nat}{b:Body}(hb:bs.get f=some b){args:List IN}:call bs (Nat.succ n) f args h=enter (call bs n) b args h:=by
 show(match bs.get f with|some b=>enter (call bs n) b args h|none=>.no)=_;rw[hb]
theorem AW{rs:List RV}{c:C}{args:List IN}(hl:xU (BB args) 160=true)(hx:Tq rs=none:=by rfl):enter F ⟨rs,c⟩ args h=A3 rs (c F (AS e0 0 args) h):=by
 unfold enter;rw[hx];show(bif xU (BB args) 160 then A3 rs (c F (AS e0 0 args) h)else .no)=_;rw[hl];rfl
theorem BE{rs:List RV}:A3 rs (.ret e h)=Ei rs e h:=rfl
theorem En{rs:List RV}:A3 rs (.norm e h)=Ei rs e h:=rfl
theorem QH{g:O}:Ei [.t g] e h=.ok (g e) h:=by
 show AEN (g e) _=_;rw[BK];rfl
theorem DR{g g':O}:Ei [.t g,.t g'] e h=.ok (.tuple ⟨[g e,g' e]⟩) h:=by
 show AEN (g e) (fun v=>AEN (g' e) _)=_;rw[BK,BK];rfl
theorem MM{g g' g'':O}:Ei [.t g,.t g',.t g''] e h=.ok (.tuple ⟨[g e,g' e,g'' e]⟩) h:=by
 show AEN (g e) (fun v=>AEN (g' e) (fun v=>AEN (g'' e) _))=_;rw[BK,BK,BK];rfl
def GO(i:Nat)(a:IN)(h:Hp):R:=match a with
 |.tuple vs=>match nth vs.toList i with
  |some v=>.ok v h
  |none=>.no
 |_=>.no
theorem A7{i:Nat}:Aa i x F e h=GO i (x e) h:=by
 show(match x e with|.tuple vs=>(match nth vs.toList i with|some v=>AEN v fun v=>.ok v h|none=>.no)|_=>.no)=_;unfold GO;cases x e with
 |tuple vs=>
  simp only;cases nth vs.toList i with
  |some v=>exact BK _ _
  |none=>rfl
 |_=>rfl
theorem BA{v:IN}{l:List IN}:GO 0 (.tuple ⟨v::l⟩) h=.ok v h:=rfl
theorem BC{u v:IN}{l:List IN}:GO 1 (.tuple ⟨u::v::l⟩) h=.ok v h:=rfl
theorem Cu{t u v:IN}{l:List IN}:GO 2 (.tuple ⟨t::u::v::l⟩) h=.ok v h:=rfl
end
end
end Go.Proofs.YtbjadbhkogcfeaaGreat
