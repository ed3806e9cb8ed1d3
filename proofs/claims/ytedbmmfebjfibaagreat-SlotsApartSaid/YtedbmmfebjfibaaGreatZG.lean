/-
  Part ZG of what Lawap stands on: printed by program, names and spaces cut.
-/
import Derived.Test.YtedbmmfebjfibaaGreatZF
import Derived.LoopN
import Derived.Scope
import Derived.Below
import Derived.ChangeSame
set_option linter.unusedSimpArgs false
set_option linter.unusedVariables false
namespace Go.Proofs.YtedbmmfebjfibaaGreat
noncomputable section
open Go
def Ag(S:List Nat)(e e':Env):Prop:=∀ t,t<160→t∉S→e'.get t=e.get t
theorem Ag.refl(S:List Nat)(e:Env):Ag S e e:=fun _ _ _=>rfl
theorem Ag.trans{S:List Nat}{e e1 e2:Env}(h:Ag S e e1)(h2:Ag S e1 e2):Ag S e e2:=fun t ht hn=>(h2 t ht hn).trans (h t ht hn)
def Ge(S:List Nat)(e:Env):X→Prop
 |.no=>True
 |.norm e' _=>Ag S e e'
 |.exit _ e' _=>Ag S e e'
 |.ret e' _=>Ag S e e'
theorem Ge.of{S:List Nat}{e e1:Env}{x:X}(h:Ag S e e1)(h2:Ge S e1 x):Ge S e x:=by
 cases x with
 |no=>trivial
 |norm _ _=>exact h.trans h2
 |exit _ _ _=>exact h.trans h2
 |ret _ _=>exact h.trans h2
def B5(S:List Nat)(c:C):Prop:=∀ F e h,Ge S e (c F e h)
theorem Nt{S:List Nat}{d:Nat}(hd:d∈S)(hl:d<160)(v:Value)(e:Env):Ag S e (Env.set d v e):=fun t ht hn=>by
 rw[Env.get_set _ _ _ _ hl ht,if_neg (by rintro rfl;exact hn hd)]
theorem Ot{S:List Nat}:∀ (l:List Nat) (e:Env),(∀ d∈l,d∈S∧d<160)→Ag S e (Ce e l)
 |[],e,_=>.refl _ _
 |d::l,e,h=>(Nt (h d List.mem_cons_self).1 (h d List.mem_cons_self).2 _ e).trans (Ot l _ fun d hd=>h d (List.mem_cons_of_mem _ hd))
section
variable {S:List Nat}
theorem CS:B5 S cNo:=fun _ _ _=>trivial
theorem Rx:B5 S Ar:=fun _ e _=>.refl _ e
theorem U7:B5 S Ap:=fun _ e _=>.refl _ e
theorem Ru(id:Nat):B5 S (B9 id):=fun _ e _=>.refl _ e
theorem Pp{d:Nat}{f:OpF}{k:C}(hd:d∈S)(hl:d<160)(hk:B5 S k):B5 S (AH (AC d) f k):=fun F e h=>by
 unfold AH
 cases f F e h with
 |no=>trivial
 |ok v h'=>
  show Ge S e (AC d (fun e=>k F e h') v e)
  rw[DZ d hl]
  exact .of (Nt hd hl v e) (hk F _ h')
theorem Xn{f:OpF}{k:C}(hk:B5 S k):B5 S (cDo f k):=fun F e h=>by
 unfold cDo
 cases f F e h with
 |no=>trivial
 |ok v h'=>exact hk F e h'
theorem bQ{g:Env→Value}{w:Bool}{d:Nat}{f:OpF}{k:C}(hd:d∈S)(hl:d<160)(hk:B5 S k):B5 S (cG g w (AC d) f k):=fun F e h=>by
 have h0:Ge S e (AC d (fun e=>k F e h) noRes e):=by
  rw[DZ d hl]
  exact .of (Nt hd hl _ e) (hk F _ h)
 unfold cG
 split
 ·rename_i b _
  cases (w == b)with
  |true=>exact Pp hd hl hk F e h
  |false=>exact h0
 ·exact h0
 ·trivial
theorem Js{w:Env→Value}{rs:List (Env→Value)}{k:C}(hk:B5 S k):B5 S (Cx w rs k):=fun F e h=>by
 unfold Cx
 split
 ·rename_i b _
  cases DF b e rs with
  |true=>exact hk F e h
  |false=>trivial
 ·exact hk F e h
theorem U6{x:O}{k:C}(hk:B5 S k):B5 S (El x k):=fun F e h=>by
 unfold El
 split
 ·rename_i b _
  cases Nat.blt b h.mark with
  |true=>exact hk F e h
  |false=>trivial
 ·exact hk F e h
theorem Rv{k:C}(hk:B5 S k):B5 S (CH k):=fun F e h=>hk F e _
theorem NT{a b:C}(ha:B5 S a)(hb:B5 S b):B5 S (BG a b):=fun F e h=>by
 have:=ha F e h
 unfold BG
 cases hx:a F e h with
 |no=>trivial
 |norm e1 h1=>rw[hx]at this;exact .of this (hb F e1 h1)
 |exit i e1 h1=>rw[hx]at this;exact this
 |ret e1 h1=>rw[hx]at this;exact this
theorem IH{c:O}{a b:C}(ha:B5 S a)(hb:B5 S b):B5 S (AV c a b):=fun F e h=>by
 show Ge S e (eM (c e) (a F e h) (b F e h))
 cases c e<;>first|trivial|skip
 rename_i t
 cases t with
 |true=>exact ha F e h
 |false=>exact hb F e h
theorem KH{id:Nat}{a:C}(ha:B5 S a):B5 S (Ac id a):=fun F e h=>by
 have:=ha F e h
 unfold Ac
 cases hx:a F e h with
 |no=>trivial
 |norm e1 h1=>rw[hx]at this;exact this
 |exit i e1 h1=>
  rw[hx]at this
  show Ge S e (bif Nat.beq i id then .norm e1 h1 else .exit i e1 h1)
  cases Nat.beq i id<;>exact this
 |ret e1 h1=>rw[hx]at this;exact this
theorem Lv{a:C}(ha:B5 S a):∀ n,B5 S (iter a n)
 |0=>fun _ _ _=>trivial
 |n+1=>fun F e h=>by
  have:=ha F e h
  unfold iter
  cases hx:a F e h with
  |no=>trivial
  |norm e1 h1=>rw[hx]at this;exact .of this (Lv ha n F e1 h1)
  |exit i e1 h1=>rw[hx]at this;exact this
  |ret e1 h1=>rw[hx]at this;exact this
theorem Lw{a:C}(ha:B5 S a):B5 S (Ax a):=Lv ha rounds
theorem NS{e:Env}{c:Bool}{x:X}(hx:Ge S e x):Ge S e (bif c then x else .no):=by
 cases c
 ·trivial
 ·exact hx
theorem Ry{k:Walk}{a:C}(hw:∀ d∈k.ws,d∈S∧d<160)(hm:k.more∈S∧k.more<160)(hr:∀ d∈k.rs,d∈S∧d<160)(ha:B5 S a):B5 S (Ia k a):=fun F e h=>by
 have hl:=Lw ha F e h
 have hcl:∀ b,Ge S e (FV k a F e h b):=fun b=>by
  unfold FV
  split
  ·exact(Ot _ _ hw).trans (Nt hm.1 hm.2 _ _)
  ·trivial
 unfold Ia
 cases AB k.it e<;>first|trivial|skip
 rename_i o
 cases o with
 |none=>trivial
 |some ad=>
  simp only
  cases Dq (h.bl.get ad.block)with
  |ok m since seen last=>
   cases m with
   |none=>exact hl
   |some m=>
    cases seen with
    |cons _ _=>trivial
    |nil=>
     simp only
     cases BR h m with
     |no=>trivial
     |ok es c=>
      cases es with
      |nil=>exact hl
      |cons x l=>
       cases l with
       |nil=>exact hl
       |cons y l=>
        show Ge S e (bif Nat.beq ad.off 0 then(bif Nat.ble 256 ad.block then FV k a F e h ad.block else .no)else .no)
        exact NS (NS (hcl _))
  |_=>exact hl
end
theorem XS{o:Oper}{d:Nat}(hd:o.dst=some d):∀ (l:List Oper),o∈l→d∈Ii l:=by
 intro l
 induction l with
 |nil=>intro h;cases h
 |cons p l ih=>
  intro h
  unfold Ii
  rcases List.mem_cons.1 h with h|h
  ·rw[← h,hd];exact List.mem_cons_self
  ·have:=ih h
   split
   ·exact List.mem_cons_of_mem _ this
   ·exact this
theorem D4:∀ {c:Code} {d:Nat},d∈IO c→d∈wrs c
 |.seq a b,d,h=>by
  have h0:d∈IO a++IO b→d∈wrs a++wrs b:=fun h=>by
   rcases List.mem_append.1 h with h|h
   ·exact List.mem_append_left _ (D4 h)
   ·exact List.mem_append_right _ (D4 h)
  unfold IO at h
  split at h
  ·split at h
   ·exact List.mem_append_left _ h
   ·exact List.mem_append_left _ (D4 h)
  ·exact h0 h
 |.cond _ a b,d,h=>by
  have h:d∈IO a++IO b:=h
  rcases List.mem_append.1 h with h|h
  ·exact List.mem_append_left _ (D4 h)
  ·exact List.mem_append_right _ (D4 h)
 |.block _ a,d,h=>D4 (c:=a) h
 |.loop a,d,h=>D4 (c:=a) h
 |.scope a,d,h=>D4 (c:=a) h
 |.region _ _ _,d,h=>by cases h
 |.skip,d,h=>by cases h
 |.exit _,d,h=>by cases h
 |.ret,d,h=>by cases h
 |.rangeFunc _ _ _ _,d,h=>by cases h
 |.label _,d,h=>by cases h
 |.goto _,d,h=>by cases h
 |.refuse _,d,h=>by cases h
theorem S4:∀ {l:List Nat},ax l=true→∀ d∈l,d<160
 |d::l,h,x,hx=>by
  unfold ax at h
  split at h
  ·rename_i hb
   rcases List.mem_cons.1 hx with rfl|hx
   ·exact BD.1 hb
   ·exact S4 h x hx
  ·cases h
structure WalkIs (A:List Nat)(a:Code)(k:Walk)(id:Nat)(o1 o2:Oper)(r2:Code):Prop where
 code:a=.seq (.region id #[o1,o2] false) (.seq (.cond (.tmp k.more) .skip (.exit k.out)) r2)
 op1:o1.op=.next (.tmp k.it) false
 dst1:o1.dst=some k.nx
 grd1:o1.guard=none
 op2:o2.op=.extract (.tmp k.nx) 0
 dst2:o2.dst=some k.more
 grd2:o2.guard=none
 ne:k.nx≠k.more
 itA:memN k.it A=false
 nxA:memN k.nx A=false
 moA:memN k.more A=false
 itL:k.it<160
 nxL:k.nx<160
 moL:k.more<160
 ws:k.ws=wrs a
 itW:k.it∉k.ws
 few:∀ d∈k.ws,d<160
 rs:∀ d∈k.rs,d∈k.ws
theorem L4{t:Nat}:∀ {l:List Nat},memN t l=false→t∉l
 |d::l,h,hm=>by
  unfold memN at h
  split at h
  ·cases h
  ·rename_i hb
   rcases List.mem_cons.1 hm with rfl|hm
   ·rw[Nat.beq_refl]at hb;cases hb
   ·exact L4 h hm
theorem dB{more out:Nat}{c:Code}(h:oR more c=some out):∃ r2,c=.seq (.cond (.tmp more) .skip (.exit out)) r2:=by
 cases c with
 |seq a r=>cases a with
  |cond c x y=>cases c with
   |tmp t=>cases x with
    |skip=>cases y with
     |exit id=>
      have h:(match Nat.beq t more with|true=>some id|false=>none)=some out:=h
      cases hb:Nat.beq t more with
      |false=>rw[hb]at h;cases h
      |true=>
       rw[hb]at h
       cases h
       have:=Al.1 hb
       subst this
       exact⟨r,rfl⟩
     |_=>cases h
    |_=>cases h
   |_=>cases h
  |_=>cases h
 |_=>cases h
theorem RB{A:List Nat}{a:Code}{k:Walk}(h:UN A a=some k):∃ id o1 o2 r2,WalkIs A a k id o1 o2 r2:=by
 unfold UN at h
 split at h
 case h_2=>cases h
 rename_i x rest
 split at h
 case h_2=>cases h
 rename_i id ops draw
 split at h
 case h_2=>cases h
 unfold UM at h
 split at h
 case h_2=>cases h
 rename_i o1 l1 hl0
 split at h
 case h_2=>cases h
 rename_i o2 l2
 split at h
 case h_2=>cases h
 split at h
 case h_2=>cases h
 rename_i x str hop1
 split at h
 case h_2=>cases h
 rename_i it
 split at h
 case h_2=>cases h
 split at h
 case h_2=>cases h
 rename_i nx hd1 hg1
 split at h
 case h_2=>cases h
 rename_i y i hop2
 split at h
 case h_2=>cases h
 rename_i n2
 split at h
 case h_2=>cases h
 rename_i more hd2 hg2
 split at h
 case h_2=>cases h
 rename_i hb
 split at h
 case h_2=>cases h
 rename_i out hout
 cases h
 simp only[Bool.and_eq_true,Bool.not_eq_true']at hb
 obtain⟨b1,b2,b3,b4,b5,b6,b7,b8,b9,b10,b11⟩:=hb
 obtain⟨r2,rfl⟩:=dB hout
 have e1:=Al.1 b1
 have e2:=Al.1 b2
 subst e1;subst e2
 have hops:ops= #[o1,o2]:=Array.ext' hl0
 subst hops
 refine⟨id,o1,o2,r2,{code:=rfl,op1:=hop1,dst1:=hd1,grd1:=hg1,op2:=hop2,dst2:=hd2,grd2:=hg2,ne:=Et b3,itA:=b4,nxA:=b5,moA:=b6,itL:=BD.1 b7,nxL:=BD.1 b8,moL:=BD.1 b9,ws:=?_,itW:=L4 b10,few:=?_,rs:=?_}⟩
 ·show _=Ii [o1,o2]++_
  simp only[Ii,hd1,hd2]
  rfl
 ·intro d hd
  rcases List.mem_cons.1 hd with rfl|hd
  ·exact BD.1 b8
  ·rcases List.mem_cons.1 hd with rfl|hd
   ·exact BD.1 b9
   ·exact S4 b11 d hd
 ·intro d hd
  exact List.mem_cons_of_mem _ (List.mem_cons_of_mem _ (D4 hd))
section
variable {ty:TTy}{A S:List Nat}
theorem G3{f:Fr}{a:Ahead}{o:OpF}{k:OpF→C}(hk:∀ p,B5 S (k p)):B5 S (Gl f a o k):=by
 unfold Gl
 split
 ·exact hk _
 ·exact hk _
 ·split
  ·exact Js (hk _)
  ·exact CS
 ·split
  ·split
   ·exact U6 (Js (hk _))
   ·exact Js (hk _)
  ·exact CS
theorem Jt{all:List Oper}{k:Sg→C}(hk:∀ σ,B5 S (k σ)):∀ (l:List Oper) (ah:List Ahead) (σ:Sg),(∀ o∈l,∀ d,o.dst=some d→d∈S)→B5 S (GR ty A all k ah l σ)
 |[],ah,σ,_=>by unfold GR;exact hk σ
 |o::l,ah,σ,h=>by
  have ih:∀ ah σ,B5 S (GR ty A all k ah l σ):=fun ah σ=>Jt hk l ah σ fun o ho=>h o (List.mem_cons_of_mem _ ho)
  have hd:=h o List.mem_cons_self
  unfold GR
  split
  ·exact G3 fun p=>Xn (ih _ _)
  ·rename_i d _ hdd
   split
   ·split
    ·split
     ·exact ih _ _
     ·exact CS
    ·exact CS
   ·split
    ·rename_i hb
     exact G3 fun p=>Pp (hd d hdd) (BD.1 hb) (ih _ _)
    ·exact CS
  ·rename_i d _ hdd
   split
   ·exact CS
   ·split
    ·split
     ·split
      ·split
       ·rename_i hb
        exact G3 fun p=>bQ (hd d hdd) (BD.1 hb) (ih _ _)
       ·exact CS
      ·exact CS
     ·exact CS
    ·exact CS
  ·exact CS
theorem GM{k:Option (Sg→C)}(hk:∀ k',k=some k'→∀ σ,B5 S (k' σ))(σ:Sg):B5 S (KT k σ):=by
 cases k with
 |none=>exact Rx
 |some k=>exact hk k rfl σ
theorem CE:∀ (c:Code) {σ:Sg} {k:Option (Sg→C)},(∀ d∈wrs c,d∈S)→(∀ k',k=some k'→∀ σ,B5 S (k' σ))→B5 S (Bm ty A c σ k)
 |.skip,σ,k,hw,hk=>GM hk σ
 |.region _ ops draw,σ,k,hw,hk=>by
  have ho:∀ o∈ops.toList,∀ d,o.dst=some d→d∈S:=fun o ho d hd=>hw d (XS hd _ ho)
  unfold Bm
  split
  ·exact Jt (fun σ=>GM hk σ) _ _ _ ho
  ·split
   ·exact Rv (Jt (fun σ=>GM hk σ) _ _ _ ho)
   ·exact CS
 |.seq a b,σ,k,hw,hk=>by
  have h1:∀ d∈wrs a,d∈S:=fun d hd=>hw d (List.mem_append_left _ hd)
  have h2:∀ d∈wrs b,d∈S:=fun d hd=>hw d (List.mem_append_right _ hd)
  exact CE a (σ:=σ) (k:=some fun σ=>Bm ty A b σ k) h1 fun k' e σ=>by cases e;exact CE b h2 hk
 |.cond c a b,σ,k,hw,hk=>by
  have h1:∀ d∈wrs a,d∈S:=fun d hd=>hw d (List.mem_append_left _ hd)
  have h2:∀ d∈wrs b,d∈S:=fun d hd=>hw d (List.mem_append_right _ hd)
  unfold Bm
  split
  ·split
   ·exact IH (CE a h1 fun _ e=>by cases e) (CE b h2 fun _ e=>by cases e)
   ·rename_i k'
    split
    ·exact NT (IH (CE a h1 fun _ e=>by cases e) (CE b h2 fun _ e=>by cases e)) (hk k' rfl [])
    ·exact IH (CE a h1 hk) (CE b h2 hk)
  ·exact CS
 |.block id a,σ,k,hw,hk=>by
  have h1:∀ d∈wrs a,d∈S:=hw
  unfold Bm
  split
  ·exact KH (CE a h1 fun _ e=>by cases e)
  ·rename_i k'
   exact NT (KH (CE a h1 fun _ e=>by cases e)) (hk k' rfl [])
 |.loop a,σ,k,hw,hk=>by
  have h1:∀ d∈wrs a,d∈S:=hw
  have h2:B5 S (Bm ty A a [] none):=CE a h1 fun _ e=>by cases e
  unfold Bm
  split
  ·rename_i k hk
   obtain⟨id,o1,o2,r2,W⟩:=RB hk
   have hm:∀ d∈k.ws,d∈S∧d<160:=fun d hd=>⟨h1 d (W.ws ▸ hd),W.few d hd⟩
   refine Ry hm (hm _ ?_) (fun d hd=>hm d (W.rs d hd)) h2
   rw[W.ws,W.code]
   show _∈Ii [o1,o2]++_
   simp[Ii,W.dst1,W.dst2]
  ·exact Lw h2
 |.exit id,σ,k,hw,hk=>Ru id
 |.ret,σ,k,hw,hk=>U7
 |.scope a,σ,k,hw,hk=>CE a (σ:=σ) (k:=k) hw hk
 |.label _,σ,k,hw,hk=>GM hk σ
 |.rangeFunc _ _ _ _,σ,k,hw,hk=>CS
 |.goto _,σ,k,hw,hk=>CS
 |.refuse _,σ,k,hw,hk=>CS
end
structure Good (ty:TTy)(A:List Nat)(N:Nat)(φ:Phi)(h:Hp)(w:World)(σ:Sg)(e:Env)(h':Hp)(ψ:Phi)(a:Act)(w':World):Prop where
 sg:SgOk A σ
 rel:RelW ty ψ nil h' w'
 ar:AR N ψ (rhoOf A σ e) a
 evo:Evo φ h w ψ h' w'
section
variable {P:Program}{ty:TTy}{F:CallF}{A:List Nat}{N:Nat}
theorem dO{σ:Sg}(hS:SgOk A σ){e:Env}{t:Nat}{u:Value}(h:rhoOf A [] e t=some u):rhoOf A σ e t=some u:=by
 rw[D5]at h ⊢
 have h:(match memN t A with|true=>none|false=>match Nat.blt t 160 with|true=>some (AB t e)|false=>none)=some u:=h
 cases hf:DC t σ with
 |some s=>
  have:=hS.mem _ (EF hf)
  simp only at this
  rw[this]at h;cases h
 |none=>exact h
theorem AR.nil{φ:Phi}{σ:Sg}{e:Env}{a:Act}(hS:SgOk A σ)(h:AR N φ (rhoOf A σ e) a):AR N φ (rhoOf A [] e) a:=⟨h.size,h.defs,fun t u hu=>h.rel t u (dO hS hu)⟩
theorem Good.nil{φ ψ:Phi}{h h':Hp}{w w':World}{σ:Sg}{e:Env}{a:Act}(g:Good ty A N φ h w σ e h' ψ a w'):Good ty A N φ h w [] e h' ψ a w':=⟨.nil A,g.rel,g.ar.nil g.sg,g.evo⟩
theorem Good.trans{φ ψ χ:Phi}{h h' h2:Hp}{w w' w2:World}{σ σ2:Sg}{e e2:Env}{a a2:Act}(g:Good ty A N φ h w σ e h' ψ a w')(g2:Good ty A N ψ h' w' σ2 e2 h2 χ a2 w2):Good ty A N φ h w σ2 e2 h2 χ a2 w2:=
 ⟨g2.sg,g2.rel,g2.ar,g.evo.trans g2.evo⟩
structure Post (ty:TTy)(A:List Nat)(N:Nat)(F:CallF)(φ:Phi)(h:Hp)(w:World)(k:Option (Sg→C))(X:X)(Q:Exit→Act→World→Prop):Prop where
 go:∀ k',k=some k'→∀ σ e h' ψ a' w',Good ty A N φ h w σ e h' ψ a' w'→k' σ F e h'=X→Q .normal a' w'
 norm:k=none→∀ e h' ψ a' w',Good ty A N φ h w [] e h' ψ a' w'→X=.norm e h'→Q .normal a' w'
 exit:∀ id e h' ψ a' w',Good ty A N φ h w [] e h' ψ a' w'→X=.exit id e h'→Q (.exit id) a' w'
 ret:∀ e h' ψ a' w',Good ty A N φ h w [] e h' ψ a' w'→X=.ret e h'→Q .ret a' w'
theorem Post.then{φ:Phi}{h:Hp}{w:World}{k:Option (Sg→C)}{X:X}{Q:Exit→Act→World→Prop}(p:Post ty A N F φ h w k X Q){σ:Sg}{e:Env}{h':Hp}{ψ:Phi}{a':Act}{w':World}(g:Good ty A N φ h w σ e h' ψ a' w')(hx:KT k σ F e h'=X):Q .normal a' w':=by
 cases k with
 |none=>exact p.norm rfl e h' ψ a' w' g.nil hx.symm
 |some k'=>exact p.go k' rfl σ e h' ψ a' w' g hx
theorem Xx{w:World}{pb mb clk:Nat}{seen:List Nat}{es:List MapEntry}{t:TypeId}(hw:w.heap[pb]? =some (.mapIter (some mb) clk ⟨seen⟩ clk))(hm:w.heap[mb]? =some (.map ⟨es⟩ clk))(hb:∀ x∈es,x.born<clk):
  ((∀ x∈es,x.born∈seen)∧(Instr.next (.pointer (some ⟨pb,0,none⟩)) false t).run P w=.ok (.tuple #[.bool false]) w)∨
  ∃ x∈es,x.born∉seen∧∃ w1:World,w1.heap=w.heap∧w1.tape=w.tape∧w1.os=w.os∧w1.output=w.output∧
   (Instr.next (.pointer (some ⟨pb,0,none⟩)) false t).run P w=.ok (.tuple #[.bool true,x.key,x.val]) {w1 with heap:=w1.heap.setIfInBounds pb (.mapIter (some mb) clk ⟨seen++[x.born]⟩ clk)}:=by
 have hstop:(!(⟨seen⟩:Array Nat).isEmpty && !(⟨es⟩:Array MapEntry).isEmpty && (⟨es⟩:Array MapEntry).all (fun e=>decide (e.born≥clk)))=false:=by
  cases es with
  |nil=>simp
  |cons x l=>
   have:=hb x List.mem_cons_self
   simp[Nat.not_le.2 this]
 generalize hl:es.filter (fun e=> !seen.contains e.born)=left
 have hmem:∀ x∈left,x∈es∧x.born∉seen:=fun x hx=>by
  rw[← hl,List.mem_filter]at hx
  exact⟨hx.1,by simpa using hx.2⟩
 have hlt:∀ x∈left,x.born<clk:=fun x hx=>hb x (hmem x hx).1
 have f1:(⟨es⟩:Array MapEntry).filter (fun e=> !(⟨seen⟩:Array Nat).contains e.born)=⟨left⟩:=by
  rw[← hl];apply Array.ext';simp
 have f2:(⟨left⟩:Array MapEntry).filter (fun e=>decide (e.born<clk))=⟨left⟩:=by
  apply Array.ext';rw[Array.toList_filter]
  exact List.filter_eq_self.2 fun x hx=>by simpa using hlt x hx
 have f3:(⟨left⟩:Array MapEntry).filter (fun e=>decide (e.born≥clk))= #[]:=by
  apply Array.ext';rw[Array.toList_filter]
  exact List.filter_eq_nil_iff.2 fun x hx=>by simpa using hlt x hx
 cases hc:left with
 |nil=>
  left
  refine⟨fun x hx=>?_,?_⟩
  ·by_cases hs:x.born∈seen
   ·exact hs
   ·have:x∈left:=by rw[← hl,List.mem_filter];exact⟨hx,by simpa using hs⟩
    rw[hc]at this;cases this
  ·subst hc
   simp only[Instr.next,Sem.run_bind,Bu hw rfl,Result.andThen_ok,Bu hm rfl,hstop,Bool.false_eq_true,if_false,f1,f2,f3]
   simp[run_choose,Question.forced]
 |cons y ys=>
  right
  have hpos:0<left.length:=by rw[hc];simp
  have hne:(⟨left⟩:Array MapEntry).isEmpty=false:=by rw[hc];simp
  have key:∀ (i:Nat) (hi:i<left.length) (w1:World),(choose (.mapNext left.length)).run P w=.ok i w1→w1.heap=w.heap→
    (Instr.next (.pointer (some ⟨pb,0,none⟩)) false t).run P w=.ok (.tuple #[.bool true,(left[i]).key,(left[i]).val]) {w1 with heap:=w1.heap.setIfInBounds pb (.mapIter (some mb) clk ⟨seen++[(left[i]).born]⟩ clk)}:=by
   intro i hi w1 hch hh
   have hcand:((#[]:Array (Option MapEntry))++((⟨left⟩:Array MapEntry)++ #[]).map some)[i]? =some (some left[i]):=by
    simp[List.getElem?_eq_getElem hi]
   have hsz:((#[]:Array (Option MapEntry))++((⟨left⟩:Array MapEntry)++ #[]).map some).size=left.length:=by simp
   have hset:=Dc (P:=P) (w:=w1) (ob':=.mapIter (some mb) clk ⟨seen++[(left[i]).born]⟩ clk) (by rw[hh];exact hw) rfl
   simp only[Instr.next,Sem.run_bind,Bu hw rfl,Result.andThen_ok,Bu hm rfl,hstop,Bool.false_eq_true,if_false,f1,f2,f3,hne,hsz,hch,hcand]
   have hpush:(⟨seen⟩:Array Nat).push (left[i]).born=⟨seen++[(left[i]).born]⟩:=by apply Array.ext';simp
   rw[hpush,hset]
   simp
  have pick:∀ (i:Nat) (hi:i<left.length) (w1:World),(choose (.mapNext left.length)).run P w=.ok i w1→w1.heap=w.heap→w1.tape=w.tape→w1.os=w.os→w1.output=w.output→
    ∃ x∈es,x.born∉seen∧∃ w1:World,w1.heap=w.heap∧w1.tape=w.tape∧w1.os=w.os∧w1.output=w.output∧
     (Instr.next (.pointer (some ⟨pb,0,none⟩)) false t).run P w=.ok (.tuple #[.bool true,x.key,x.val]) {w1 with heap:=w1.heap.setIfInBounds pb (.mapIter (some mb) clk ⟨seen++[x.born]⟩ clk)}:=by
   intro i hi w1 hch h1 h2 h3 h4
   have:=hmem left[i] (List.getElem_mem hi)
   exact⟨left[i],this.1,this.2,w1,h1,h2,h3,h4,key i hi w1 hch h1⟩
  by_cases hf:left.length≤1
  ·exact pick 0 hpos w (by rw[run_choose];simp[Question.forced,hf]) rfl rfl rfl rfl
  ·exact pick (w.tape w.drawn (.mapNext left.length) % left.length) (Nat.mod_lt _ hpos) {w with drawn:=w.drawn+1} (by rw[run_choose];simp[Question.forced,hf,Question.cut]) rfl rfl rfl rfl
theorem JQ{o:Oper}(h:o.guard=none)(f:Nat→Option Bool):Region.wanted o f=true:=by
 unfold Region.wanted;rw[h]
theorem dM(a:Act)(d:Nat)(v:Value)(t:Nat):(a.put (some d) v).eval (.tmp t)=if d=t∧t<a.tmps.size then v else a.eval (.tmp t):=by
 show(a.put (some d) v).tmps.getD t undef=_
 rw[HF]
 by_cases h:d=t
 ·subst h;simp[Act.eval]
 ·rw[if_neg (fun h2=>h (Option.some.inj h2.1)),if_neg (fun h2=>h h2.1)];rfl
theorem Vk{k:Walk}{a0:Code}{id:Nat}{o1 o2:Oper}{r2:Code}(W:WalkIs A a0 k id o1 o2 r2){a:Act}{w:World}{pb mb clk:Nat}{seen:List Nat}{es:List MapEntry}
  (hit:a.eval (.tmp k.it)=.pointer (some ⟨pb,0,none⟩))(hnx:k.nx<a.tmps.size)(hw:w.heap[pb]? =some (.mapIter (some mb) clk ⟨seen⟩ clk))(hm:w.heap[mb]? =some (.map ⟨es⟩ clk))(hb:∀ x∈es,x.born<clk)
  {Q:Exit→Act→World→Prop}(hover:(∀ x∈es,x.born∈seen)→Q .normal ((a.put (some k.nx) (.tuple #[.bool false])).put (some k.more) (.bool false)) w)
  (hgo:∀ x∈es,x.born∉seen→∀ w1:World,w1.heap=w.heap.setIfInBounds pb (.mapIter (some mb) clk ⟨seen++[x.born]⟩ clk)→w1.tape=w.tape→w1.os=w.os→w1.output=w.output→
   Q .normal ((a.put (some k.nx) (.tuple #[.bool true,x.key,x.val])).put (some k.more) (.bool true)) w1):
  (Code.region id #[o1,o2] false).wp P Q a w:=by
 refine wp_region_list ?_
 have hx1:execOp a.eval o1=(do pure (.value (← Instr.next (a.eval (.tmp k.it)) false o1.type))):=by unfold execOp;rw[W.op1]
 have two:∀ (c:Bool) (vs:Array Value) (w1:World),Q .normal ((a.put (some k.nx) (.tuple (#[.bool c]++vs))).put (some k.more) (.bool c)) w1→wpList P #[o1,o2] Q [o2] (a.put (some k.nx) (.tuple (#[.bool c]++vs))) w1:=by
  intro c vs w1 hq
  unfold wpList
  rw[if_pos (JQ W.grd2 _)]
  refine .inl ?_
  have hx2:execOp (a.put (some k.nx) (.tuple (#[.bool c]++vs))).eval o2=(do pure (.value (← Instr.extract ((a.put (some k.nx) (.tuple (#[.bool c]++vs))).eval (.tmp k.nx)) 0))):=by unfold execOp;rw[W.op2]
  unfold Oper.wp
  rw[hx2,dM,if_pos ⟨rfl,hnx⟩]
  have hex:(Instr.extract (.tuple (#[.bool c]++vs)) 0).run P w1=.ok (.bool c) w1:=by
   have h0:(#[Value.bool c]++vs)[0]? =some (.bool c):=by simp[Array.getElem?_append]
   simp only[Instr.extract,h0,Sem.run_pure]
  rw[Sem.run_bind,hex,Result.andThen_ok,Sem.run_pure,Oper.upon_value,W.dst2]
  exact hq
 show wpList P #[o1,o2] Q [o1,o2] a w
 rw[show wpList P #[o1,o2] Q [o1,o2] a w=(if Region.wanted o1 (yielded #[o1,o2] a.tmps)then o1.wp P a w (wpList P #[o1,o2] Q [o2]) Q∨(o1.asks P a w∧LetsOut Q)else wpList P #[o1,o2] Q [o2] (a.put o1.dst undef) w)from rfl]
 rw[if_pos (JQ W.grd1 _)]
 refine .inl ?_
 unfold Oper.wp
 rw[hx1,hit]
 rcases Xx (P:=P) (t:=o1.type) hw hm hb with ⟨hall,hrun⟩|⟨x,hx,hns,w1,e1,e2,e3,e4,hrun⟩
 ·rw[Sem.run_bind,hrun,Result.andThen_ok,Sem.run_pure,Oper.upon_value,W.dst1]
  exact two false #[] w (hover hall)
 ·rw[Sem.run_bind,hrun,Result.andThen_ok,Sem.run_pure,Oper.upon_value,W.dst1]
  exact two true #[x.key,x.val] _ (hgo x hx hns _ (by rw[e1]) e2 e3 e4)
theorem IW{φ:Phi}{e:Env}{a:Act}:AR N φ (rhoOf A [] e) a↔a.tmps.size=N∧a.defers=[]∧∀ t,t<160→memN t A=false→RelV φ (e.get t) (a.tmps.getD t undef):=by
 have hr:∀ t u,rhoOf A [] e t=some u↔(memN t A=false∧t<160∧e.get t=u):=fun t u=>by
  rw[D5]
  show(match memN t A with|true=>none|false=>match Nat.blt t 160 with|true=>some (AB t e)|false=>none)=some u↔_
  cases memN t A with
  |true=>simp
  |false=>
   cases hb:Nat.blt t 160 with
   |true=>
    have:=BD.1 hb
    simp only[Cp t this,Option.some.injEq,true_and,this]
   |false=>
    have:¬ t<160:=fun h=>by rw[BD.2 h]at hb;cases hb
    simp[this]
 constructor
 ·exact fun h=>⟨h.size,h.defs,fun t ht hA=>h.rel t _ ((hr t _).2 ⟨hA,ht,rfl⟩)⟩
 ·exact fun⟨h1,h2,h3⟩=>⟨h1,h2,fun t u hu=>by obtain⟨q1,q2,rfl⟩:=(hr t u).1 hu;exact h3 t q2 q1⟩
theorem H7:∀ (l:List Nat) (e:Env) (t:Nat),(∀ d∈l,d<160)→t<160→(Ce e l).get t=if t∈l then .chan none else e.get t
 |[],e,t,_,_=>by simp[Ce]
 |d::l,e,t,hl,ht=>by
  unfold Ce
  rw[H7 l _ t (fun d hd=>hl d (List.mem_cons_of_mem _ hd)) ht,Env.get_set _ _ _ _ (hl d List.mem_cons_self) ht]
  by_cases h1:t∈l
  ·simp[h1]
  ·by_cases h2:t=d
   ·simp[h1,h2]
   ·simp[h1,h2]
theorem IP{clk:Nat}:∀ {es:List Ent} {lo:Nat},Es clk lo es=true→∀ x∈es,lo≤x.born∧x.born<clk
 |e::l,lo,h,x,hx=>by
  unfold Es at h
  obtain⟨h1,h⟩:=EZ h
  obtain⟨h2,h⟩:=EZ h
  have h1:=Af.1 h1
  have h2:=BD.1 h2
  rcases List.mem_cons.1 hx with rfl|hx
  ·exact⟨h1,h2⟩
  ·have:=IP h x hx
   have h3:e.born+1≤x.born:=this.1
   exact⟨by omega,this.2⟩
theorem Oe{φ:Phi}:∀ {es:List Ent} {es':List MapEntry} {x':MapEntry},RelE φ es es'→x'∈es'→∃ x∈es,x.born=x'.born
 |_,_,x',.cons (k:=k) (v:=v) (b:=b) hk hv t,hx=>by
  rcases List.mem_cons.1 hx with rfl|hx
  ·exact⟨⟨k,v,b⟩,List.mem_cons_self,rfl⟩
  ·obtain⟨x,h1,h2⟩:=Oe t hx
   exact⟨x,List.mem_cons_of_mem _ h1,h2⟩
theorem Qk{φ:Phi}{clk:Nat}:∀ {es:List Ent} {es':List MapEntry} {lo:Nat} {x':MapEntry},RelE φ es es'→Es clk lo es=true→x'∈es'→∃ x,Fz x'.born es=some x∧RelV φ x.key x'.key∧RelV φ x.val x'.val
 |_,_,lo,x',.cons (k:=k) (v:=v) (b:=b) (l:=l) hk hv t,hr,hx=>by
  unfold Fz
  rcases List.mem_cons.1 hx with rfl|hx
  ·rw[Nat.beq_refl];exact⟨_,rfl,hk,hv⟩
  ·unfold Es at hr
   obtain⟨_,hr⟩:=EZ hr
   obtain⟨_,hr⟩:=EZ hr
   obtain⟨y,hy,he⟩:=Oe t hx
   have h3:b+1≤y.born:=(IP hr y hy).1
   have hb:Nat.beq b x'.born=false:=by
    cases hb:Nat.beq b x'.born with
    |false=>rfl
    |true=>have:=Al.1 hb;omega
   rw[hb]
   exact Qk t hr hx
theorem ZO{k:Walk}{a0:Code}{id:Nat}{o1 o2:Oper}{r2:Code}(W:WalkIs A a0 k id o1 o2 r2):
  Bm ty A a0 [] none=AH (AC k.nx) (Gj (AB k.it)) (AH (AC k.more) (AZ 0 (AB k.nx)) (Bm ty A (.seq (.cond (.tmp k.more) .skip (.exit k.out)) r2) [] none)):=by
 have hA:∀ t,memN t A=false→t<160→cO ⟨A,[]⟩ (.tmp t)=some (AB t):=fun t h1 h2=>by
  show(match Oh A [] (.tmp t)with|some s=>some (Kh s)|none=>none)=_
  show(match (match memN t A with|true=>none|false=>match Nat.blt t 160 with|true=>some (Src.s t)|false=>none)with|some s=>some (Kh s)|none=>none)=_
  rw[h1,BD.2 h2]
  rfl
 rw[W.code]
 show Bm ty A (.region id #[o1,o2] false) [] (some fun σ=>Bm ty A (.seq (.cond (.tmp k.more) .skip (.exit k.out)) r2) σ none)=_
 show GR ty A [o1,o2] (KT (some fun σ=>Bm ty A (.seq (.cond (.tmp k.more) .skip (.exit k.out)) r2) σ none)) [] [o1,o2] []=_
 unfold GR
 rw[W.grd1,W.dst1]
 simp only[W.nxA,BD.2 W.nxL]
 unfold GR
 rw[W.grd2,W.dst2]
 simp only[W.moA,BD.2 W.moL]
 have e1:opC ty ⟨A,[]⟩ o1.op=Gj (AB k.it):=by
  rw[W.op1]
  show w1 ⟨A,[]⟩ (.tmp k.it) (fun x=>Gj x)=_
  unfold w1
  rw[hA _ W.itA W.itL]
 have e2:opC ty ⟨A,FW k.nx []⟩ o2.op=AZ 0 (AB k.nx):=by
  rw[W.op2]
  show w1 ⟨A,[]⟩ (.tmp k.nx) (fun t=>AZ 0 t)=_
  unfold w1
  rw[hA _ W.nxA W.nxL]
 rw[e1,e2]
 rfl
theorem WW{t:(Env→X)→Value→Env→X}{f:OpF}{k:C}{e:Env}{h h':Hp}{v:Value}(hf:f F e h=.ok v h'):AH t f k F e h=t (fun e=>k F e h') v e:=by
 unfold AH
 rw[hf]
theorem iB{t:(Env→X)→Value→Env→X}{f:OpF}{k:C}{e:Env}{h:Hp}(hf:f F e h=.no):AH t f k F e h=.no:=by
 unfold AH
 rw[hf]
theorem dH{k:Walk}{a0:Code}{id:Nat}{o1 o2:Oper}{r2:Code}(W:WalkIs A a0 k id o1 o2 r2){e:Env}{h:Hp}{ad:Addr}{m s last c lo hi mk:Nat}{es:List Ent}{x:Ent}{bl:BT}{sn:Option (List Nat)}{Y:Go.Proofs.YtedbmmfebjfibaaGreat.X}
  (hit:AB k.it e=.pointer (some ad))(hoff:Nat.beq ad.off 0=true)(hm:BR h m=.ok es c)(hmb:m≠ad.block)(hx:Fz s es=some x)(hbl:h.bl.set ad.block (.pick m s last sn)=some bl)
  (hr:Bm ty A a0 [] none F e {next:=h.next,low:=lo,high:=hi,mark:=mk,bl:=bl}=Y)(hn:Y≠.no):
  ∃ bl',bl.set ad.block (MK m s last sn)=some bl'∧
   Bm ty A (.seq (.cond (.tmp k.more) .skip (.exit k.out)) r2) [] none F (Env.set k.more (.bool true) (Env.set k.nx (.tuple ⟨[.bool true,x.key,x.val]⟩) e)) {next:=h.next,low:=lo,high:=hi,mark:=mk,bl:=bl'}=Y:=by
 rw[ZO W]at hr
 have hb:bl.get ad.block=.pick m s last sn:=by rw[BT.get_set _ _ _ _ hbl,if_pos rfl]
 have hme:BR ({next:=h.next,low:=lo,high:=hi,mark:=mk,bl:=bl}:Hp) m=.ok es c:=by
  show jj (bl.get m)=_
  rw[BT.get_set _ _ _ _ hbl,if_neg hmb];exact hm
 have hnx:Gj (AB k.it) F e {next:=h.next,low:=lo,high:=hi,mark:=mk,bl:=bl}=match bl.set ad.block (MK m s last sn)with
   |some bl'=>.ok (.tuple ⟨[.bool true,x.key,x.val]⟩) {next:=h.next,low:=lo,high:=hi,mark:=mk,bl:=bl'}
   |none=>.no:=by
  unfold Gj
  rw[hit]
  show(bif Nat.beq ad.off 0 then F5 ad _ else .no)=_
  rw[hoff]
  show F5 ad _=_
  unfold F5
  simp only
  rw[hb]
  show(match BR ({next:=h.next,low:=lo,high:=hi,mark:=mk,bl:=bl}:Hp) m with|.ok es _=>_|.no=>_)=_
  rw[hme]
  simp only[hx]
  cases bl.set ad.block (MK m s last sn)<;>rfl
 cases hs:bl.set ad.block (MK m s last sn)with
 |none=>
  rw[hs]at hnx
  rw[iB hnx]at hr
  exact absurd hr.symm hn
 |some bl'=>
  refine⟨bl',rfl,?_⟩
  rw[hs]at hnx
  rw[← hr]
  have hex:AZ 0 (AB k.nx) F (Env.set k.nx (.tuple ⟨[.bool true,x.key,x.val]⟩) e) {next:=h.next,low:=lo,high:=hi,mark:=mk,bl:=bl'}=.ok (.bool true) {next:=h.next,low:=lo,high:=hi,mark:=mk,bl:=bl'}:=by
   unfold AZ
   rw[Cp _ W.nxL,Env.get_set _ _ _ _ W.nxL W.nxL,if_pos rfl]
   rfl
  symm
  rw[WW hnx,DZ _ W.nxL,WW hex,DZ _ W.moL]
structure Rd (A:List Nat)(N:Nat)(φ:Phi)(ws:List Nat)(e:Env)(w:World)(pb qb c:Nat)(seen:List Nat)(ak:Act)(wk:World):Prop where
 size:ak.tmps.size=N
 defs:ak.defers=[]
 slots:∀ t,t<160→memN t A=false→t∉ws→RelV φ (e.get t) (ak.tmps.getD t undef)
 grow:w.heap.size≤wk.heap.size
 same:∀ j,j<w.heap.size→j≠pb→wk.heap[j]? =w.heap[j]?
 tape:wk.tape=w.tape
 os:wk.os=w.os
 output:wk.output=w.output
 iter:wk.heap[pb]? =some (.mapIter (some qb) c ⟨seen⟩ c)
theorem Ql{φ:Phi}:∀ {es:List Ent} {es':List MapEntry} {x:Ent},RelE φ es es'→x∈es→∃ x'∈es',x'.born=x.born
 |_,_,x,.cons (k':=k) (v':=v) (b:=b) hk hv t,hx=>by
  rcases List.mem_cons.1 hx with rfl|hx
  ·exact⟨⟨k,v,b⟩,List.mem_cons_self,rfl⟩
  ·obtain⟨x,h1,h2⟩:=Ql t hx
   exact⟨x,List.mem_cons_of_mem _ h1,h2⟩
theorem Jl{n:Nat}:∀ {es:List Ent} {x:Ent},Fz n es=some x→x∈es∧x.born=n
 |y::l,x,h=>by
  unfold Fz at h
  cases hb:Nat.beq y.born n with
  |true=>rw[hb]at h;cases h;exact⟨List.mem_cons_self,Al.1 hb⟩
  |false=>
   rw[hb]at h
   obtain⟨h1,h2⟩:=Jl h
   exact⟨List.mem_cons_of_mem _ h1,h2⟩
theorem nl{b:Bool}{Y X:Go.Proofs.YtedbmmfebjfibaaGreat.X}(h:(bif b then Y else .no)=X)(hn:X≠.no):b=true∧Y=X:=by
 cases b with
 |false=>exact absurd h.symm hn
 |true=>exact⟨rfl,h⟩
theorem Qr{seen:List Nat}:∀ {es:List Ent},(∀ x∈es,x.born∈seen)→restE seen es=[]
 |[],_=>rfl
 |x::l,h=>by
  unfold restE
  rw[Ku,show seen.contains x.born=true by simpa using h x List.mem_cons_self]
  exact Qr fun y hy=>h y (List.mem_cons_of_mem _ hy)
theorem MR{seen:List Nat}:∀ {es:List Ent} {x:Ent},x∈es→x.born∉seen→x∈restE seen es
 |y::l,x,hx,hn=>by
  unfold restE
  rcases List.mem_cons.1 hx with rfl|hx
  ·rw[Ku,show seen.contains x.born=false by simpa using hn]
   exact List.mem_cons_self
  ·have ih:=MR hx hn
   cases FM y.born seen with
   |true=>exact ih
   |false=>exact List.mem_cons_of_mem _ ih
theorem LE{f:Ent→Bool}:∀ {l:List Ent},Ou f l=true→∀ x∈l,f x=true
 |[],_,x,hx=>by cases hx
 |y::l,h,x,hx=>by
  obtain⟨h1,h2⟩:=EZ h
  rcases List.mem_cons.1 hx with rfl|hx
  ·exact h1
  ·exact LE h2 x hx
theorem RelW.one{φ:Phi}{h:Hp}{w w':World}{b:Nat}{pb:Pl}{o:Blk}{bl:BT}(H:RelW ty φ nil h w)(hpb:φ b=some pb)(hin:pb.inp=false)(hlive:Live h b)(hbl:∀ i,bl.get i=if i=b then o else h.bl.get i)
  (hs:w.heap.size≤w'.heap.size)(hsame:∀ j,j<w.heap.size→j≠pb.blk→w'.heap[j]? =w.heap[j]?)(hB:RelB ty φ pb o w'.heap[pb.blk]?)(hoc:∀ cc s el,o≠.cells cc s el)(lo hi mk:Nat):
  RelW ty φ nil {next:=h.next,low:=lo,high:=hi,mark:=mk,bl:=bl} w' where
 dom:=fun i p hp=>⟨(H.dom i p hp).1,Nat.lt_of_lt_of_le (H.dom i p hp).2 hs⟩
 inj:=fun i j p q hp hq _ _ hi hj hio hpq=>by
  have lv:∀ i,bl.get i≠.dead→Live h i:=fun i hi=>by
   by_cases hib:i=b
   ·rw[hib];exact hlive
   ·rw[hbl,if_neg hib]at hi;exact hi
  exact H.inj i j p q hp hq (fun h=>h) (fun h=>h) (lv i hi) (lv j hj) hio hpq
 row:=fun i p hp _=>by
  show RelB ty φ p (bl.get i) _
  rw[hbl]
  by_cases hib:i=b
  ·rw[if_pos hib]
   subst hib
   rw[hpb]at hp;cases hp
   exact hB
  ·rw[if_neg hib]
   by_cases hdd:h.bl.get i=.dead
   ·rw[hdd];exact .dead
   ·rw[hsame p.blk (H.dom i p hp).2 (fun hb=>hib (H.inj i b p pb hp hpb (fun h=>h) (fun h=>h) hdd hlive (.inr hin) hb))]
    exact H.row i p hp (fun h=>h)
 fresh:=fun i hi=>by
  have hi:h.next≤i:=hi
  show bl.get i=_
  have:=(H.dom _ _ hpb).1
  rw[hbl,if_neg (by omega)];exact H.fresh i hi
 kind:=fun i p cc s el hp he=>by
  have he:bl.get i=.cells cc s el:=he
  rw[hbl]at he
  by_cases hib:i=b
  ·rw[if_pos hib]at he;exact absurd he (hoc _ _ _)
  ·rw[if_neg hib]at he;exact H.kind i p cc s el hp he
 inp:=H.inp
theorem Evo.one{φ:Phi}{h:Hp}{w w':World}{b:Nat}{pb:Pl}{o:Blk}{bl:BT}(hpb:φ b=some pb)(hin:pb.inp=false)(hlive:Live h b)(hbl:∀ i,bl.get i=if i=b then o else h.bl.get i)
  (hs:w.heap.size≤w'.heap.size)(hsame:∀ j,j<w.heap.size→j≠pb.blk→w'.heap[j]? =w.heap[j]?)(ht:w'.tape=w.tape)(hos:w'.os=w.os)(hou:w'.output=w.output)(ho:ShapeLe (h.bl.get b) o)(mk:Nat):
  Evo φ h w φ {next:=h.next,low:=B0 h.low b,high:=Cf h.high b,mark:=mk,bl:=bl} w' where
 le:=.refl φ
 new:=fun _ _ e=>.inl e
 next:=Nat.le_refl _
 size:=hs
 tape:=ht
 os:=hos
 output:=hou
 frame:=fun j hj hf=>hsame j hj fun hjp=>hf b pb hpb hin (by show B0 _ _≤_;rw[BC];exact Nat.min_le_right _ _) (by show _≤Cf _ _;rw[Bw];exact Nat.le_max_right _ _) hlive hjp.symm
 back:=fun i p hp hl _=>by
  refine⟨i,p,hp,?_,rfl,rfl,.inl rfl⟩
  by_cases hib:i=b
  ·rw[hib];exact hlive
  ·have hl:bl.get i≠.dead:=hl
   rw[hbl,if_neg hib]at hl;exact hl
 kept:=fun i _ hi=>by
  show bl.get i=_
  have hi:i<B0 h.low b∨Cf h.high b<i:=hi
  rw[BC,Bw]at hi
  rw[hbl,if_neg (by omega)]
 low:=by show B0 _ _≤_;rw[BC];exact Nat.min_le_left _ _
 high:=by show _≤Cf _ _;rw[Bw];exact Nat.le_max_left _ _
 shape:=fun i _=>by
  show ShapeLe _ (bl.get i)
  rw[hbl]
  by_cases hib:i=b
  ·rw[if_pos hib,hib];exact ho
  ·rw[if_neg hib];exact .refl _
 only:=fun i _ h0=>by
  show bl.get i=_
  rw[hbl,if_neg (fun e=>by rw[e,hpb]at h0;cases h0)]
 all:=fun _ h1 h2=>absurd h2 (Nat.not_lt.2 h1)
theorem av{k:Walk}{a0:Code}{id:Nat}{o1 o2:Oper}{r2:Code}(W:WalkIs A a0 k id o1 o2 r2)(hd:k.nx<N∧k.more<N)
  (ih:∀ {e:Env} {h:Hp} {X:Go.Proofs.YtedbmmfebjfibaaGreat.X},Bm ty A (.seq (.cond (.tmp k.more) .skip (.exit k.out)) r2) [] none F e h=X→X≠.no→∀ (φ:Phi) (w:World) (a:Act),RelW ty φ nil h w→AR N φ (rhoOf A [] e) a→∀ (Q:Exit→Act→World→Prop),Post ty A N F φ h w none X Q→(Code.seq (.cond (.tmp k.more) .skip (.exit k.out)) r2).wp P Q a w)
  {e:Env}{ad:Addr}(hit:AB k.it e=.pointer (some ad))(hoff:Nat.beq ad.off 0=true)(h256:256≤ad.block){φ0:Phi}{hr:Hp}{w0:World}{a:Act}(hslots:∀ t,t<160→memN t A=false→RelV φ0 (e.get t) (a.tmps.getD t undef))
  {fin:Hp→Rds→Bool}{Q:Exit→Act→World→Prop}
  (hfin:∀ (hk:Hp) (tr:Rds) (φk:Phi) (wk:World),RelW ty φk nil hk wk→Evo φ0 hr w0 φk hk wk→(∃ pb,φk ad.block=some pb)→Live hk ad.block→fin hk tr=true→∀ ak:Act,ak.tmps.size=N→ak.defers=[]→
   (∀ t,t<160→memN t A=false→t∉k.ws→RelV φ0 (e.get t) (ak.tmps.getD t undef))→ak.tmps.getD k.more undef=.bool false→Q (.exit k.out) ak wk):
  ∀ (n:Nat) (hk:Hp) (tr:Rds) (φk:Phi) (wk:World) (ak:Act),RelW ty φk nil hk wk→Evo φ0 hr w0 φk hk wk→ak.tmps.size=N→ak.defers=[]→
   (∀ t,t<160→memN t A=false→t∉k.ws→RelV φ0 (e.get t) (ak.tmps.getD t undef))→KC k (Bm ty A a0 [] none) F e ad.block fin n hk tr=true→Code.rounds P a0 Q n ak wk:=by
 intro n
 induction n with
 |zero=>intro hk tr φk wk ak _ _ _ _ _ hx;cases hx
 |succ n ihn=>
 intro hk tr φk wk ak H E hsz hdf hsl hx
 unfold KC NJ at hx
 cases hiter:Dq (hk.bl.get ad.block)with
 |no=>rw[hiter]at hx;cases hx
 |cur _ _ _=>rw[hiter]at hx;cases hx
 |pick _ _ _ _=>rw[hiter]at hx;cases hx
 |ok m' since seen last=>
 rw[hiter]at hx
 cases m' with
 |none=>cases hx
 |some m=>
 simp only at hx
 cases hents:BR hk m with
 |no=>rw[hents]at hx;cases hx
 |ok es c=>
 rw[hents]at hx
 simp only at hx
 obtain⟨hcs0,hx1⟩:=EZ hx
 obtain⟨hcl0,hx2⟩:=EZ hx1
 obtain⟨hris,hx3⟩:=EZ hx2
 clear hx hx1 hx2
 have hcs:=Al.1 hcs0
 have hcl:=Al.1 hcl0
 clear hcs0 hcl0
 subst hcs;subst hcl
 have hx:=hx3
 clear hx3
 have hbi:=HZ hiter
 have hitR:=hslots k.it W.itL W.itA
 rw[← Cp k.it W.itL,hit]at hitR
 obtain⟨ad',had',hra⟩:=hitR.ptr_inv
 obtain⟨pb,hpb0,rfl⟩:=hra.eq
 have hpb:=E.le _ _ hpb0
 have hoff0:ad.off=0:=Al.1 hoff
 have hrow:=H.row ad.block pb hpb (fun h=>h)
 rw[hbi]at hrow
 obtain⟨q,hp0,hq,hwi⟩:∃ q,pb.off=0∧φk m=some q∧wk.heap[pb.blk]? =some (.mapIter (some q.blk) c ⟨seen⟩ c):=by
  generalize wk.heap[pb.blk]? =ob at hrow
  cases hrow with
  |iter h1 h2=>exact⟨_,h1,h2,rfl⟩
 obtain⟨es',hwm,hrel⟩:=H.entsAt hq (fun h=>h) hents
 have hmb:m≠ad.block:=fun h=>by
  have:=FX hents
  rw[h,hbi]at this;cases this
 have hin:=H.notInp hpb h256
 have hlive:Live hk ad.block:=by unfold Live;rw[hbi];intro h;cases h
 have hpbs:=(H.dom _ _ hpb).2
 have hborn:∀ x∈es',x.born<c:=fun x hx=>by
  obtain⟨y,hy,he⟩:=Oe hrel hx
  rw[← he];exact(IP hris y hy).2
 have hkeep:B5 k.ws (Bm ty A (.seq (.cond (.tmp k.more) .skip (.exit k.out)) r2) [] none):=CE _ (fun d hd=>by
  rw[W.ws,W.code]
  exact List.mem_append_right _ hd) (fun _ h=>by cases h)
 have hnxw:k.nx∈k.ws:=by rw[W.ws,W.code];show _∈Ii [o1,o2]++_;simp[Ii,W.dst1,W.dst2]
 have hmow:k.more∈k.ws:=by rw[W.ws,W.code];show _∈Ii [o1,o2]++_;simp[Ii,W.dst1,W.dst2]
 have hcg:∀ t,t<160→(Ce e k.ws).get t=if t∈k.ws then .chan none else e.get t:=fun t ht=>H7 _ _ _ W.few ht
 have hcut:∀ {ψ:Phi} {v v' v'':Value},φ0.Le ψ→RelV ψ v v'→RelV φ0 v v''→RelV φ0 v v':=fun {ψ v v' v''} hle h1 h2=>RelV.cut (χ:=φ0) (fun b p hp ⟨q,hq⟩=>by
  have:=hle b q hq
  rw[hp]at this;cases this
  exact hq) h1 h2
 have hevit:ak.eval (.tmp k.it)=.pointer (some ⟨pb.blk,0,none⟩):=by
  have h1:=hsl k.it W.itL W.itA W.itW
  rw[← Cp k.it W.itL,hit]at h1
  obtain⟨a2,ha2,hr2⟩:=h1.ptr_inv
  obtain⟨p2,hp2,rfl⟩:=hr2.eq
  rw[hpb0]at hp2;cases hp2
  show ak.tmps.getD k.it undef=_
  rw[ha2,hp0,hoff0]
 have putD:∀ (v1 v2:Value) (t:Nat),t<160→((ak.put (some k.nx) v1).put (some k.more) v2).tmps.getD t undef=if t=k.more then v2 else if t=k.nx then v1 else ak.tmps.getD t undef:=fun v1 v2 t ht=>by
  rw[HF,FD,HF]
  by_cases h1:t=k.more
  ·rw[if_pos ⟨by rw[h1],by rw[h1,hsz];exact hd.2⟩,if_pos h1]
  ·rw[if_neg (fun h=>h1 (Option.some.inj h.1).symm),if_neg h1]
   by_cases h2:t=k.nx
   ·rw[if_pos ⟨by rw[h2],by rw[h2,hsz];exact hd.1⟩,if_pos h2]
   ·rw[if_neg (fun h=>h2 (Option.some.inj h.1).symm),if_neg h2]
 show a0.wp P (Exit.then (Code.rounds P a0 Q n) Q) ak wk
 generalize hK:Code.rounds P a0 Q n=K
 rw[W.code]
 refine wp_seq (Vk W (pb:=pb.blk) (mb:=q.blk) (clk:=c) (seen:=seen) (es:=es') hevit (by rw[hsz];exact hd.1) hwi hwm hborn (fun hall=>?_) (fun x' hx' hns w1 e1 e2' e3 e4=>?_))
 ·
  show(Code.seq (.cond (.tmp k.more) .skip (.exit k.out)) r2).wp P (Exit.then K Q) ((ak.put (some k.nx) (.tuple #[.bool false])).put (some k.more) (.bool false)) wk
  refine wp_seq (wp_cond_false ?_ (wp_exit ?_))
  ·show((ak.put (some k.nx) (.tuple #[.bool false])).put (some k.more) (.bool false)).tmps.getD k.more undef=_
   rw[putD _ _ _ W.moL,if_pos rfl]
  ·show Q (.exit k.out) ((ak.put (some k.nx) (.tuple #[.bool false])).put (some k.more) (.bool false)) wk
   rw[Qr (es:=es) fun x hx=>by
    obtain⟨x',hx',he⟩:=Ql hrel hx
    rw[← he];exact hall x' hx']at hx
   refine hfin hk tr φk wk H E ⟨_,hpb⟩ hlive hx _ (by rw[FD,FD];exact hsz) (by rw[F8,F8];exact hdf) (fun t ht hA hw=>?_) (by rw[putD _ _ _ W.moL,if_pos rfl])
   rw[putD _ _ _ ht,if_neg (fun h:t=k.more=>hw (h ▸ hmow)),if_neg (fun h:t=k.nx=>hw (h ▸ hnxw))]
   exact hsl t ht hA hw
 ·
  show(Code.seq (.cond (.tmp k.more) .skip (.exit k.out)) r2).wp P (Exit.then K Q) ((ak.put (some k.nx) (.tuple #[.bool true,x'.key,x'.val])).put (some k.more) (.bool true)) w1
  obtain⟨x,hfx,hkr,hvr⟩:=Qk hrel hris hx'
  obtain⟨hxm,hxb⟩:=Jl hfx
  have hmem:=MR hxm (by rw[hxb];exact hns)
  generalize hrest:restE seen es=rest at hx hmem
  cases rest with
  |nil=>cases hmem
  |cons y l=>
  have hx:=LE hx x hmem
  unfold Nm at hx
  cases hbl:hk.bl.set ad.block (.pick m x.born c (some seen))with
  |none=>rw[hbl]at hx;cases hx
  |some bl=>
  rw[hbl]at hx
  simp only at hx
  have hitc:AB k.it (Ce e k.ws)=.pointer (some ad):=by
   rw[Cp _ W.itL,hcg _ W.itL,if_neg W.itW,← Cp _ W.itL];exact hit
  generalize hY:Bm ty A a0 [] none F (Ce e k.ws) {next:=hk.next,low:=B0 hk.low ad.block,high:=Cf hk.high ad.block,mark:=hk.mark,bl:=bl}=Y at hx
  cases Y with
  |no=>cases hx
  |exit _ _ _=>cases hx
  |ret _ _=>cases hx
  |norm e1' h1'=>
  simp only at hx
  obtain⟨bl',hbl',hB⟩:=dH W (x:=x) (s:=x.born) hitc hoff hents hmb (by rw[hxb];exact hfx) hbl hY (fun h=>by cases h)
  have hbl':bl.set ad.block (.iter (some m) c (JB x.born seen) c)=some bl':=hbl'
  have hblc:∀ i,bl'.get i=if i=ad.block then .iter (some m) c (JB x.born seen) c else hk.bl.get i:=fun i=>by
   rw[BT.get_set _ _ _ _ hbl',BT.get_set _ _ _ _ hbl]
   split<;>rfl
  have hws1:w1.heap.size=wk.heap.size:=by rw[e1];simp
  have hw1p:w1.heap[pb.blk]? =some (.mapIter (some q.blk) c ⟨seen++[x'.born]⟩ c):=by
   rw[e1,Array.getElem?_setIfInBounds,if_pos rfl,if_pos hpbs]
  have hw1s:∀ j,j<wk.heap.size→j≠pb.blk→w1.heap[j]? =wk.heap[j]?:=fun j hj hjp=>by
   rw[e1,Array.getElem?_setIfInBounds,if_neg (fun h=>hjp h.symm)]
  have HR:=H.one hpb hin hlive hblc (Nat.le_of_eq hws1.symm) hw1s (by rw[hw1p,MQ,hxb];exact .iter hp0 hq) (fun _ _ _ h=>by cases h) (B0 hk.low ad.block) (Cf hk.high ad.block) hk.mark
  have E1:=Evo.one (w':=w1) hpb hin hlive hblc (Nat.le_of_eq hws1.symm) hw1s e2' e3 e4 (by rw[hbi];exact .inr trivial) hk.mark
  have HAR:AR N φk (rhoOf A [] (Env.set k.more (.bool true) (Env.set k.nx (.tuple ⟨[.bool true,x.key,x.val]⟩) (Ce e k.ws)))) ((ak.put (some k.nx) (.tuple #[.bool true,x'.key,x'.val])).put (some k.more) (.bool true)):=by
   refine IW.2 ⟨by rw[FD,FD];exact hsz,by rw[F8,F8];exact hdf,fun t ht hA=>?_⟩
   rw[putD _ _ _ ht,Env.get_set _ _ _ _ W.moL ht,Env.get_set _ _ _ _ W.nxL ht,hcg t ht]
   by_cases q1:t=k.more
   ·rw[if_pos q1,if_pos q1];exact .bool _
   ·rw[if_neg q1,if_neg q1]
    by_cases q2:t=k.nx
    ·rw[if_pos q2,if_pos q2];exact .tuple (.cons (.bool _) (.cons hkr (.cons hvr .nil)))
    ·rw[if_neg q2,if_neg q2]
     by_cases q3:t∈k.ws
     ·rw[if_pos q3];exact .unk
     ·rw[if_neg q3];exact(hsl t ht hA q3).mono E.le
  refine ih hB (fun h=>by cases h) φk w1 _ HR HAR _ {go:=(fun _ h=>by cases h),norm:=fun _ e2 h2 ψ a2 w2 g hx2=>?_,exit:=(fun i e2 h2 ψ a2 w2 g hx2=>by cases hx2),ret:=(fun e2 h2 ψ a2 w2 g hx2=>by cases hx2)}
  cases hx2
  obtain⟨g1,g2,g3⟩:=IW.1 g.ar
  have hag:=hkeep F (Env.set k.more (.bool true) (Env.set k.nx (.tuple ⟨[.bool true,x.key,x.val]⟩) (Ce e k.ws))) {next:=hk.next,low:=B0 hk.low ad.block,high:=Cf hk.high ad.block,mark:=hk.mark,bl:=bl'}
  rw[hB]at hag
  have hag:Ag k.ws (Env.set k.more (.bool true) (Env.set k.nx (.tuple ⟨[.bool true,x.key,x.val]⟩) (Ce e k.ws))) e1':=hag
  have E2:=(E.trans E1).trans g.evo
  show K a2 w2
  rw[← hK]
  refine ihn h1' _ ψ w2 a2 g.rel E2 g1 g2 (fun t ht hA hw=>?_) hx
  have q1:=g3 t ht hA
  rw[hag t ht hw,Env.get_set _ _ _ _ W.moL ht,if_neg (fun h:t=k.more=>hw (h ▸ hmow)),Env.get_set _ _ _ _ W.nxL ht,if_neg (fun h:t=k.nx=>hw (h ▸ hnxw)),hcg t ht,if_neg hw]at q1
  exact hcut E2.le q1 (hslots t ht hA)
theorem aq{b n0:Nat}{r h1:Hp}{tr:Rds}:Us b n0 r h1 tr=true↔XU b n0 r h1:=by
 unfold Us
 split
 ·rename_i h _;exact⟨fun _=>h,fun _=>rfl⟩
 ·rename_i h _;exact⟨fun e=>(by cases e),fun e=>absurd e h⟩
theorem RelW.kills{φ:Phi}{h:Hp}{w:World}{bl:BT}{b n0:Nat}(H:RelW ty φ nil h w)(hbl:∀ i,bl.get i=if i=b∨n0≤i then .dead else h.bl.get i)(lo hi mk:Nat):
  RelW ty φ nil {next:=h.next,low:=lo,high:=hi,mark:=mk,bl:=bl} w where
 dom:=H.dom
 inj:=fun i j p q hp hq _ _ hi hj hio hpq=>by
  have lv:∀ i,bl.get i≠.dead→Live h i:=fun i hi=>by
   rw[hbl]at hi
   split at hi
   ·exact absurd rfl hi
   ·exact hi
  exact H.inj i j p q hp hq (fun h=>h) (fun h=>h) (lv i hi) (lv j hj) hio hpq
 row:=fun i p hp _=>by
  show RelB ty φ p (bl.get i) _
  rw[hbl]
  split
  ·exact .dead
  ·exact H.row i p hp (fun h=>h)
 fresh:=fun i hi=>by
  have hi:h.next≤i:=hi
  show bl.get i=_
  rw[hbl]
  split
  ·rfl
  ·exact H.fresh i hi
 kind:=fun i p cc s el hp he=>by
  have he:bl.get i=.cells cc s el:=he
  rw[hbl]at he
  split at he
  ·cases he
  ·exact H.kind i p cc s el hp he
 inp:=H.inp
theorem Evo.join{φ ψ:Phi}{h r hk:Hp}{w wk:World}{b:Nat}{pb:Pl}(E:Evo φ {next:=h.next,low:=h.next,high:=0,mark:=h.mark,bl:=h.bl} w ψ hk wk)(hpb:φ b=some pb)
  (q1:hk.next=r.next)(q2:r.low≤B0 hk.low b)(q3:Cf hk.high b≤r.high)(q4:∀ i,r.bl.get i=if i=b∨h.next≤i then .dead else hk.bl.get i):Evo φ h w ψ (eS h r) wk where
 le:=E.le
 new:=E.new
 next:=by
  have h1:h.next≤hk.next:=E.next
  show h.next≤r.next
  omega
 size:=E.size
 tape:=E.tape
 os:=E.os
 output:=E.output
 frame:=fun k hk' hf=>E.frame k hk' fun i p e hn hl hg hv=>hf i p e hn (by
  rw[BC]at q2
  show B0 h.low r.low≤i
  rw[BC];omega) (by
  rw[Bw]at q3
  show i≤Cf h.high r.high
  rw[Bw];omega) hv
 back:=fun i p e hl hp=>by
  have hl:r.bl.get i≠.dead:=hl
  rw[q4]at hl
  split at hl
  ·exact absurd rfl hl
  obtain⟨j,q,a1,a2,a3,a4,a5⟩:=E.back i p e hl hp
  refine⟨j,q,a1,a2,a3,a4,?_⟩
  rw[BC]at q2
  rw[Bw]at q3
  rcases a5 with a5|⟨a5,a6⟩
  ·exact .inl a5
  ·refine .inr ⟨?_,?_⟩
   ·show B0 h.low r.low≤j
    rw[BC];omega
   ·show j≤Cf h.high r.high
    rw[Bw];omega
 kept:=fun i hi hor=>by
  have hor:i<B0 h.low r.low∨Cf h.high r.high<i:=hor
  rw[BC,Bw]at hor
  rw[BC]at q2
  rw[Bw]at q3
  show r.bl.get i=_
  rw[q4,if_neg (by omega)]
  exact E.kept i hi (by omega)
 low:=by show B0 _ _≤_;rw[BC];exact Nat.min_le_left _ _
 high:=by show _≤Cf _ _;rw[Bw];exact Nat.le_max_left _ _
 shape:=fun i hi=>by
  show ShapeLe _ (r.bl.get i)
  rw[q4]
  split
  ·exact .inl rfl
  ·exact E.shape i hi
 only:=fun i hi h0=>by
  show r.bl.get i=_
  rw[q4,if_neg (by
   rintro (h1|h1)
   ·rw[h1,hpb]at h0;cases h0
   ·omega)]
  exact E.only i hi h0
 all:=fun i h1 h2=>E.all i h1 (by
  have h2:i<r.next:=h2
  show i<hk.next
  omega)
theorem RY{k:Walk}{a0:Code}{id:Nat}{o1 o2:Oper}{r2:Code}(W:WalkIs A a0 k id o1 o2 r2)(hd:k.nx<N∧k.more<N)
  (ih:∀ {e:Env} {h:Hp} {X:Go.Proofs.YtedbmmfebjfibaaGreat.X},Bm ty A (.seq (.cond (.tmp k.more) .skip (.exit k.out)) r2) [] none F e h=X→X≠.no→∀ (φ:Phi) (w:World) (a:Act),RelW ty φ nil h w→AR N φ (rhoOf A [] e) a→∀ (Q:Exit→Act→World→Prop),Post ty A N F φ h w none X Q→(Code.seq (.cond (.tmp k.more) .skip (.exit k.out)) r2).wp P Q a w)
  {e:Env}{h:Hp}{X:Go.Proofs.YtedbmmfebjfibaaGreat.X}{ad:Addr}(hit:AB k.it e=.pointer (some ad))(hoff:Nat.beq ad.off 0=true)(h256:256≤ad.block)
  (hr:FV k (Bm ty A a0 [] none) F e h ad.block=X)(hn:X≠.no){φ:Phi}{w:World}{a:Act}(H:RelW ty φ nil h w)(HA:AR N φ (rhoOf A [] e) a){Q:Exit→Act→World→Prop}
  (pe:∀ id e h' ψ a' w',Good ty A N φ h w [] e h' ψ a' w'→X=.exit id e h'→Q (.exit id) a' w'):
  (Code.loop a0).wp P Q a w:=by
 unfold FV at hr
 split at hr
 case h_2=>exact absurd hr.symm hn
 rename_i hx _
 obtain⟨hhas,hexpl⟩:=Classical.choose_spec hx
 generalize Classical.choose hx=r at hr hhas hexpl
 obtain⟨hsz,hdf,hslots⟩:=IW.1 HA
 have hcg:∀ t,t<160→(Ce e k.ws).get t=if t∈k.ws then .chan none else e.get t:=fun t ht=>H7 _ _ _ W.few ht
 refine wp_loop_rounds 64 (av W hd ih hit hoff h256 (φ0:=φ) (w0:=w) hslots (fun hk tr φk wk Hk Ek ⟨pb',hpb'⟩ hlive hf ak s1 s2 s3 s4=>?_) 64 {next:=h.next,low:=h.next,high:=0,mark:=h.mark,bl:=h.bl} [] φ w a (H.of_bl rfl rfl) (.refl _ _ _) hsz hdf (fun t ht hA _=>hslots t ht hA) hexpl)
 obtain⟨q1,q2,q3,hbg⟩:=aq.1 hf
 have HK:=Hk.kills hbg (B0 h.low r.low) (Cf h.high r.high) h.mark
 have hitR:=hslots k.it W.itL W.itA
 rw[← Cp k.it W.itL,hit]at hitR
 obtain⟨ad',had',hra⟩:=hitR.ptr_inv
 obtain⟨pb,hpb0,rfl⟩:=hra.eq
 have ER:=Ek.join hpb0 q1 (Nat.le_of_eq q2) (Nat.le_of_eq q3.symm) hbg
 rw[q1]at HK
 refine pe k.out _ _ φk ak wk ⟨.nil A,HK,IW.2 ⟨s1,s2,fun t ht hA=>?_⟩,ER⟩ hr.symm
 rw[Env.get_set _ _ _ _ W.moL ht,hcg t ht]
 by_cases q1:t=k.more
 ·rw[if_pos q1,q1,s4];exact .bool _
 ·rw[if_neg q1]
  by_cases q2:t∈k.ws
  ·rw[if_pos q2];exact .unk
  ·rw[if_neg q2];exact(s3 t ht hA q2).mono ER.le
end
end
noncomputable section
open Go
section
variable {P:Program}{ty:TTy}{F:CallF}{A:List Nat}{N:Nat}
theorem Evo.of_low{φ ψ:Phi}{h g h':Hp}{w w':World}(ev:Evo φ g w ψ h' w')(h1:g.bl=h.bl)(h2:g.next=h.next)(h3:g.low=h.low)(h4:g.high=h.high):Evo φ h w ψ h' w' where
 le:=ev.le
 new:=by rw[← h2];exact ev.new
 next:=by rw[← h2];exact ev.next
 size:=ev.size
 tape:=ev.tape
 os:=ev.os
 output:=ev.output
 frame:=by unfold Live;rw[← h1];exact ev.frame
 back:=by
  have:=ev.back
  unfold Live at this ⊢
  rw[h1]at this;exact this
 kept:=by rw[← h1,← h2];exact ev.kept
 low:=by rw[← h3];exact ev.low
 high:=by rw[← h4];exact ev.high
 shape:=by rw[← h1,← h2];exact ev.shape
 only:=by rw[← h1,← h2];exact ev.only
 all:=by rw[← h2];exact ev.all
theorem Vd(hT:Cc P ty)(hF:Cw P ty F)(hm:P.follows .mixedOrders=true){id:Nat}{ops:Array Oper}{draw:Bool}{σ:Sg}{k:Option (Sg→C)}{e:Env}{h:Hp}{X:X}(hr:Bm ty A (.region id ops draw) σ k F e h=X)(hn:X≠.no)
  (hd:CI N (.region id ops draw)=true){φ:Phi}{w:World}{a:Act}(hS:SgOk A σ)(HW:RelW ty φ nil h w)(HA:AR N φ (rhoOf A σ e) a){Q:Exit→Act→World→Prop}(p:Post ty A N F φ h w k X Q):(Code.region id ops draw).wp P Q a w:=by
 have hN:∀ o∈ops.toList,∀ d,o.dst=some d→d<N:=by
  intro o ho d hod
  unfold CI at hd
  rw[List.all_eq_true]at hd
  have:=hd o ho
  rw[hod]at this
  exact BD.1 this
 unfold Bm at hr
 cases draw with
 |false=>
  simp only at hr
  obtain⟨ρ,H,V,run,T,σ',e',tr,q1,q2,q3,q4,q5⟩:=Ob hT hF ops.toList [] σ e h X (fun j o _=>.plain ty o) hS hr hn
  refine wp_region_list ?_
  have:=Om (Q:=Q) (a:=a) (w:=w) (φ:=φ) ops.toList tr hN (by rw[q2];exact HW) (by rw[q1];exact HA) fun _ ψ a' w' r1 r2 r3=>p.then ⟨q4,r1,by rw[← q3];exact r2,by rw[← q2];exact r3⟩ q5
  simpa using this
 |true=>
  simp only at hr
  cases hdr:S2 ty ops.toList with
  |none=>rw[hdr]at hr;exact absurd hr.symm hn
  |some ahs=>
   rw[hdr]at hr
   obtain⟨bs,hbs,he,hs,hah⟩:=XQ hdr
   have hr:GR ty A ops.toList (KT k) ahs ops.toList σ F e {next:=h.next,low:=h.low,high:=h.high,mark:=h.next,bl:=h.bl}=X:=hr
   obtain⟨ρ,H,V,run,T,σ',e',tr,q1,q2,q3,q4,q5⟩:=Ob hT hF ops.toList ahs σ e _ X (fun j o ho=>by obtain⟨xs,_,h⟩:=hah j o ho;exact h.ok) hS hr hn
   have:=dh (id:=id) (Q:=Q) (a:=a) (w:=w) (φ0:=φ) hm (PJ hbs he) (bT hbs he hs hah tr) tr hN (by rw[q2];exact HW.of_bl rfl rfl) (by rw[q1];exact HA)
    fun ψ a' w' r1 r2 r3=>p.then ⟨q4,r1,by rw[← q3];exact r2,by rw[q2]at r3;exact r3.of_low rfl rfl rfl rfl⟩ q5
   simpa using this
theorem Td(hm:P.follows .mixedOrders=true){c:Code}{body:C}(ih:∀ {e:Env} {h:Hp} {X:X},body F e h=X→X≠.no→∀ (φ:Phi) (w:World) (a:Act),RelW ty φ nil h w→AR N φ (rhoOf A [] e) a→∀ (Q:Exit→Act→World→Prop),Post ty A N F φ h w none X Q→c.wp P Q a w):
  ∀ (n:Nat) {e:Env} {h:Hp} {X:X},iter body n F e h=X→X≠.no→∀ (φ:Phi) (w:World) (a:Act),RelW ty φ nil h w→AR N φ (rhoOf A [] e) a→∀ (Q:Exit→Act→World→Prop),Post ty A N F φ h w none X Q→Code.rounds P c Q n a w
 |0,e,h,X,hr,hn=>by exact absurd hr.symm hn
 |n+1,e,h,X,hr,hn=>by
  intro φ w a HW HA Q p
  unfold iter at hr
  cases hb:body F e h with
  |no=>rw[hb]at hr;exact absurd hr.symm hn
  |norm e1 h1=>
   rw[hb]at hr
   simp only at hr
   refine ih hb (fun h=>by cases h) φ w a HW HA _ {go:=(fun _ h=>by cases h),norm:=fun _ e' h' ψ a' w' g hx=>?_,exit:=(fun _ _ _ _ _ _ _ hx=>by cases hx),ret:=(fun _ _ _ _ _ _ hx=>by cases hx)}
   cases hx
   exact Td hm ih n hr hn _ _ _ g.rel g.ar _ {go:=(fun _ h=>by cases h),norm:=fun h e2 h2 χ a2 w2 g2 hx=>p.norm h e2 h2 χ a2 w2 (g.trans g2) hx,exit:=fun id e2 h2 χ a2 w2 g2 hx=>p.exit id e2 h2 χ a2 w2 (g.trans g2) hx,ret:=fun e2 h2 χ a2 w2 g2 hx=>p.ret e2 h2 χ a2 w2 (g.trans g2) hx}
  |exit i e1 h1=>
   rw[hb]at hr
   refine ih hb (fun h=>by cases h) φ w a HW HA _ {go:=(fun _ h=>by cases h),norm:=(fun _ _ _ _ _ _ _ hx=>by cases hx),exit:=fun id e2 h2 χ a2 w2 g2 hx=>p.exit id e2 h2 χ a2 w2 g2 (hr.symm.trans hx),ret:=(fun _ _ _ _ _ _ hx=>by cases hx)}
  |ret e1 h1=>
   rw[hb]at hr
   refine ih hb (fun h=>by cases h) φ w a HW HA _ {go:=(fun _ h=>by cases h),norm:=(fun _ _ _ _ _ _ _ hx=>by cases hx),exit:=(fun _ _ _ _ _ _ _ hx=>by cases hx),ret:=fun e2 h2 χ a2 w2 g2 hx=>p.ret e2 h2 χ a2 w2 g2 (hr.symm.trans hx)}
theorem Qu{φ:Phi}{h:Hp}{w:World}{k':Sg→C}{X:X}{Q:Exit→Act→World→Prop}(p:Post ty A N F φ h w (some k') X Q){a:C}{e:Env}(hr:BG a (k' []) F e h=X)(hn:X≠.no):
  ∃ X1,a F e h=X1∧X1≠.no∧Post ty A N F φ h w none X1 Q:=by
 unfold BG at hr
 cases hb:a F e h with
 |no=>rw[hb]at hr;exact absurd hr.symm hn
 |norm e1 h1=>
  rw[hb]at hr
  exact⟨_,rfl,(fun h=>by cases h),{go:=(fun _ h=>by cases h),norm:=fun _ e2 h2 χ a2 w2 g2 hx=>by cases hx;exact p.go k' rfl [] _ _ χ a2 w2 g2 hr,exit:=(fun _ _ _ _ _ _ _ hx=>by cases hx),ret:=(fun _ _ _ _ _ _ hx=>by cases hx)}⟩
 |exit i e1 h1=>
  rw[hb]at hr
  exact⟨_,rfl,(fun h=>by cases h),{go:=(fun _ h=>by cases h),norm:=(fun _ _ _ _ _ _ _ hx=>by cases hx),exit:=fun id e2 h2 χ a2 w2 g2 hx=>p.exit id e2 h2 χ a2 w2 g2 (hr.symm.trans hx),ret:=(fun _ _ _ _ _ _ hx=>by cases hx)}⟩
 |ret e1 h1=>
  rw[hb]at hr
  exact⟨_,rfl,(fun h=>by cases h),{go:=(fun _ h=>by cases h),norm:=(fun _ _ _ _ _ _ _ hx=>by cases hx),exit:=(fun _ _ _ _ _ _ _ hx=>by cases hx),ret:=fun e2 h2 χ a2 w2 g2 hx=>p.ret e2 h2 χ a2 w2 g2 (hr.symm.trans hx)}⟩
theorem RM{φ:Phi}{h:Hp}{w:World}{X:X}{Q:Exit→Act→World→Prop}(p:Post ty A N F φ h w none X Q){id:Nat}{a:C}{e:Env}(hr:Ac id a F e h=X)(hn:X≠.no):
  ∃ X1,a F e h=X1∧X1≠.no∧Post ty A N F φ h w none X1 (Exit.inBlock id Q):=by
 unfold Ac at hr
 cases hb:a F e h with
 |no=>rw[hb]at hr;exact absurd hr.symm hn
 |norm e1 h1=>
  rw[hb]at hr
  exact⟨_,rfl,(fun h=>by cases h),{go:=(fun _ h=>by cases h),norm:=fun h e2 h2 χ a2 w2 g2 hx=>p.norm h e2 h2 χ a2 w2 g2 (hr.symm.trans hx),exit:=(fun _ _ _ _ _ _ _ hx=>by cases hx),ret:=(fun _ _ _ _ _ _ hx=>by cases hx)}⟩
 |exit i e1 h1=>
  rw[hb]at hr
  simp only at hr
  refine⟨_,rfl,(fun h=>by cases h),{go:=(fun _ h=>by cases h),norm:=fun _ _ _ _ _ _ _ hx=>(by cases hx),exit:=fun j e2 h2 χ a2 w2 g2 hx=>?_,ret:=fun _ _ _ _ _ _ hx=>(by cases hx)}⟩
  cases hx
  unfold Exit.inBlock
  cases hq:Nat.beq i id with
  |true=>
   rw[hq]at hr
   simp only[Al.1 hq,if_true]
   exact p.norm rfl _ _ χ a2 w2 g2 hr.symm
  |false=>
   rw[hq]at hr
   simp only[Et hq,if_false]
   exact p.exit i _ _ χ a2 w2 g2 hr.symm
 |ret e1 h1=>
  rw[hb]at hr
  exact⟨_,rfl,(fun h=>by cases h),{go:=(fun _ h=>by cases h),norm:=(fun _ _ _ _ _ _ _ hx=>by cases hx),exit:=(fun _ _ _ _ _ _ _ hx=>by cases hx),ret:=fun e2 h2 χ a2 w2 g2 hx=>p.ret e2 h2 χ a2 w2 g2 (hr.symm.trans hx)}⟩
theorem Dm(hT:Cc P ty)(hF:Cw P ty F)(hm:P.follows .mixedOrders=true):∀ (c:Code) {σ:Sg} {k:Option (Sg→C)} {e:Env} {h:Hp} {X:X},Bm ty A c σ k F e h=X→X≠.no→CI N c=true→
  ∀ (φ:Phi) (w:World) (a:Act),SgOk A σ→RelW ty φ nil h w→AR N φ (rhoOf A σ e) a→∀ (Q:Exit→Act→World→Prop),Post ty A N F φ h w k X Q→c.wp P Q a w
 |.skip,σ,k,e,h,X,hr,hn,hd=>by
  intro φ w a hS HW HA Q p
  exact wp_skip (p.then ⟨hS,HW,HA,.refl _ _ _⟩ hr)
 |.region id ops draw,σ,k,e,h,X,hr,hn,hd=>by
  intro φ w a hS HW HA Q p
  exact Vd hT hF hm hr hn hd hS HW HA p
 |.seq x y,σ,k,e,h,X,hr,hn,hd=>by
  intro φ w a hS HW HA Q p
  have hd:(CI N x && CI N y)=true:=hd
  rw[Bool.and_eq_true]at hd
  have hr:Bm ty A x σ (some fun σ=>Bm ty A y σ k) F e h=X:=hr
  refine wp_seq (Dm hT hF hm x hr hn hd.1 _ _ _ hS HW HA _ {go:=fun k' hk σ' e' h' ψ a' w' g hx=>?_,norm:=fun h=>(by cases h),exit:=p.exit,ret:=p.ret})
  cases hk
  exact Dm hT hF hm y hx hn hd.2 _ _ _ g.sg g.rel g.ar _ {go:=fun k' hk σ2 e2 h2 χ a2 w2 g2 hx=>p.go k' hk σ2 e2 h2 χ a2 w2 (g.trans g2) hx,norm:=fun h e2 h2 χ a2 w2 g2 hx=>p.norm h e2 h2 χ a2 w2 (g.trans g2) hx,exit:=fun id e2 h2 χ a2 w2 g2 hx=>p.exit id e2 h2 χ a2 w2 (g.trans g2) hx,ret:=fun e2 h2 χ a2 w2 g2 hx=>p.ret e2 h2 χ a2 w2 (g.trans g2) hx}
 |.cond c x y,σ,k,e,h,X,hr,hn,hd=>by
  intro φ w a hS HW HA Q p
  have hd:(CI N x && CI N y)=true:=hd
  rw[Bool.and_eq_true]at hd
  unfold Bm at hr
  cases hc:cO ⟨A,σ⟩ c with
  |none=>rw[hc]at hr;exact absurd hr.symm hn
  |some cc=>
   rw[hc]at hr
   simp only at hr
   have hrel:=HA.ev (FS hc e)
   have two:∀ {kx:Option (Sg→C)} {Y:Go.Proofs.YtedbmmfebjfibaaGreat.X},AV cc (Bm ty A x σ kx) (Bm ty A y σ kx) F e h=Y→Y≠.no→Post ty A N F φ h w kx Y Q→(Code.cond c x y).wp P Q a w:=by
    intro kx Y hr hn p
    unfold AV at hr
    cases hv:cc e with
    |bool t=>
     rw[hv]at hr hrel
     have hev:=hrel.bool_inv
     cases t with
     |true=>exact wp_cond_true hev (Dm hT hF hm x hr hn hd.1 _ _ _ hS HW HA _ p)
     |false=>exact wp_cond_false hev (Dm hT hF hm y hr hn hd.2 _ _ _ hS HW HA _ p)
    |_=>rw[hv]at hr;exact absurd hr.symm hn
   cases k with
   |none=>exact two hr hn p
   |some k'=>
    simp only at hr
    cases hf:(KD x && KD y)with
    |false=>rw[hf]at hr;exact two hr hn p
    |true=>
     rw[hf]at hr
     obtain⟨X1,h1,h2,p1⟩:=Qu p hr hn
     exact two h1 h2 p1
 |.block id x,σ,k,e,h,X,hr,hn,hd=>by
  intro φ w a hS HW HA Q p
  have hd:CI N x=true:=hd
  have one:∀ {Y:Go.Proofs.YtedbmmfebjfibaaGreat.X},Ac id (Bm ty A x [] none) F e h=Y→Y≠.no→Post ty A N F φ h w none Y Q→(Code.block id x).wp P Q a w:=by
   intro Y hr hn p
   obtain⟨X1,h1,h2,p1⟩:=RM p hr hn
   exact wp_block (Dm hT hF hm x h1 h2 hd _ _ _ (.nil A) HW (HA.nil hS) _ p1)
  unfold Bm at hr
  cases k with
  |none=>exact one hr hn p
  |some k'=>
   simp only at hr
   obtain⟨X1,h1,h2,p1⟩:=Qu p hr hn
   exact one h1 h2 p1
 |.loop x,σ,k,e,h,X,hr,hn,hd=>by
  intro φ w a hS HW HA Q p
  have hd:CI N x=true:=hd
  have plain:iter (Bm ty A x [] none) rounds F e h=X→(Code.loop x).wp P Q a w:=by
   intro hr
   refine wp_loop_rounds rounds (Td hm (fun h1 h2 φ w a HW HA Q p=>Dm hT hF hm x h1 h2 hd _ _ _ (.nil A) HW HA _ p) rounds hr hn _ _ _ HW (HA.nil hS) _ {go:=fun _ h=>(by cases h),norm:=fun _ e2 h2 χ a2 w2 g2 hx=>?_,exit:=p.exit,ret:=p.ret})
   exfalso
   subst hx
   have:∀ (n:Nat) (e:Env) (h:Hp),iter (Bm ty A x [] none) n F e h≠.norm e2 h2:=by
    intro n
    induction n with
    |zero=>intro e h hq;cases hq
    |succ n ih=>
     intro e h hq
     unfold iter at hq
     cases hb:Bm ty A x [] none F e h with
     |norm e1 h1=>rw[hb]at hq;exact ih e1 h1 hq
     |no=>rw[hb]at hq;cases hq
     |exit _ _ _=>rw[hb]at hq;cases hq
     |ret _ _=>rw[hb]at hq;cases hq
   exact this _ e h hr
  unfold Bm at hr
  cases hw:UN A x with
  |none=>rw[hw]at hr;exact plain hr
  |some kw=>
   rw[hw]at hr
   have hr:Ia kw (Bm ty A x [] none) F e h=X:=hr
   obtain⟨id,o1,o2,r2,W⟩:=RB hw
   unfold Ia at hr
   split at hr
   case h_2=>exact absurd hr.symm hn
   rename_i ad hit
   split at hr
   case h_2=>exact plain hr
   rename_i m since seen last hiter
   split at hr
   case h_2=>exact absurd hr.symm hn
   split at hr
   case h_2=>exact absurd hr.symm hn
   rename_i es c hents
   split at hr
   case h_2=>exact plain hr
   have hdd:CI N (.region id #[o1,o2] false)=true∧CI N (.seq (.cond (.tmp kw.more) .skip (.exit kw.out)) r2)=true:=by
    rw[W.code]at hd
    have hd:(CI N (.region id #[o1,o2] false) && CI N (.seq (.cond (.tmp kw.more) .skip (.exit kw.out)) r2))=true:=hd
    exact Bool.and_eq_true_iff.1 hd
   have hnm:kw.nx<N∧kw.more<N:=by
    have:=hdd.1
    unfold CI at this
    simp only[List.all_cons,List.all_nil,Bool.and_true,Bool.and_eq_true,W.dst1,W.dst2]at this
    exact⟨BD.1 this.1,BD.1 this.2⟩
   have hdec:SizeOf.sizeOf (Code.seq (.cond (.tmp kw.more) .skip (.exit kw.out)) r2)<SizeOf.sizeOf x:=by
    rw[W.code];simp;omega
   obtain⟨hoff,hr⟩:=nl hr hn
   obtain⟨h256,hr⟩:=nl hr hn
   exact RY W hnm (fun h1 h2 φ w a HW HA Q p=>Dm hT hF hm (.seq (.cond (.tmp kw.more) .skip (.exit kw.out)) r2) h1 h2 hdd.2 _ _ _ (.nil A) HW HA _ p) hit hoff (Af.1 h256) hr hn HW (HA.nil hS) p.exit
 |.exit id,σ,k,e,h,X,hr,hn,hd=>by
  intro φ w a hS HW HA Q p
  have hr:(.exit id e h:Go.Proofs.YtedbmmfebjfibaaGreat.X)=X:=hr
  exact wp_exit (p.exit id e h φ a w ⟨.nil A,HW,HA.nil hS,.refl _ _ _⟩ hr.symm)
 |.ret,σ,k,e,h,X,hr,hn,hd=>by
  intro φ w a hS HW HA Q p
  have hr:(.ret e h:Go.Proofs.YtedbmmfebjfibaaGreat.X)=X:=hr
  exact wp_ret (p.ret e h φ a w ⟨.nil A,HW,HA.nil hS,.refl _ _ _⟩ hr.symm)
 |.rangeFunc _ _ _ _,_,_,_,_,X,hr,hn,_=>by exact absurd hr.symm hn
 |.scope x,σ,k,e,h,X,hr,hn,hd=>by
  intro φ w a hS HW HA Q p
  have hd:CI N x=true:=hd
  have hr:Bm ty A x σ k F e h=X:=hr
  exact wp_scope_straight (Dm hT hF hm x hr hn hd _ _ _ hS HW HA _ {go:=p.go,norm:=p.norm,exit:=p.exit,ret:=p.ret})
 |.label _,σ,k,e,h,X,hr,hn,hd=>by
  intro φ w a hS HW HA Q p
  exact wp_label (p.then ⟨hS,HW,HA,.refl _ _ _⟩ hr)
 |.goto _,_,_,_,_,X,hr,hn,_=>by exact absurd hr.symm hn
 |.refuse _,_,_,_,_,X,hr,hn,_=>by exact absurd hr.symm hn
termination_by c=>SizeOf.sizeOf c
decreasing_by
 all_goals simp_wf
 all_goals first|omega|(simp_all;omega)
end
end
noncomputable section
open Go
section
variable {P:Program}{ty:TTy}{A:List Nat}{N:Nat}{φ:Phi}{h h':Hp}{w:World}{e:Env}{a:Act}{v:Value}
theorem Nb{t:Nat}(h:OZ A t=true)(e:Env):rhoOf A [] e t=some (AB t e):=by
 unfold OZ at h
 rw[D5]
 show(match memN t A with|true=>none|false=>match Nat.blt t 160 with|true=>some (AB t e)|false=>none)=_
 cases hm:memN t A with
 |true=>rw[hm]at h;cases h
 |false=>
  rw[hm]at h
  have h:Nat.blt t 160=true:=h
  simp only[h]
def Qp(tmps:Array Value):ResultVar→Sem Value
 |.tmp t=>pure (tmps.getD t undef)
 |.cell a t=>do loadVar t (← asAddr (tmps.getD a undef))
theorem SU(fn:Func)(tmps:Array Value):Go.results fn tmps=(do let vs ← fn.results.mapM (Qp tmps);pure (if h:vs.size=1 then vs[0]else .tuple vs)):=by
 unfold Go.results
 congr 2
theorem WF(f:ResultVar→Sem Value)(l:Array ResultVar){vs:List Value}(h:(l.toList.mapM f).run P w=.ok vs w):(l.mapM f).run P w=.ok ⟨vs⟩ w:=by
 have:l.mapM f=List.toArray <$> l.toList.mapM f:=by
  conv=>lhs;rw[← Array.toArray_toList (xs:=l)]
  rw[List.mapM_toArray]
 rw[this,map_eq_pure_bind,Sem.run_bind,h,Result.andThen_ok,Sem.run_pure]
theorem GU(hT:Cc P ty)(H:RelW ty φ nil h w)(HA:AR N φ (rhoOf A [] e) a):∀ {l:List ResultVar} {rs:List RV} {k:List Value→R},rsC ty A l=some rs→Go.Proofs.YtedbmmfebjfibaaGreat.results e h k rs=.ok v h'→
  ∃ vs vs',RelL φ vs vs'∧k vs=.ok v h'∧(l.mapM (Qp a.tmps)).run P w=.ok vs' w
 |[],rs,k,hc,hr=>by
  cases hc
  exact⟨[],[],.nil,hr,by simp⟩
 |.tmp t::l,rs,k,hc,hr=>by
  unfold rsC at hc
  split at hc
  ·cases hc
  rename_i ht
  split at hc
  case h_2=>cases hc
  rename_i r hrs
  cases hc
  unfold Go.Proofs.YtedbmmfebjfibaaGreat.results at hr
  have hr:forceV (AB t e) (fun v=>Go.Proofs.YtedbmmfebjfibaaGreat.results e h (fun vs=>k (v::vs)) r)=.ok v h':=hr
  rw[A8]at hr
  obtain⟨vs,vs',h1,h2,h3⟩:=GU hT H HA hrs hr
  have h4:=HA.rel t _ (Nb ht e)
  exact⟨_,_,.cons h4 h1,h2,by simp[List.mapM_cons,Qp,h3]⟩
 |.cell c t::l,rs,k,hc,hr=>by
  unfold rsC at hc
  split at hc
  ·cases hc
  rename_i ht
  split at hc
  case h_2=>cases hc
  rename_i ti hti
  split at hc
  case h_2=>cases hc
  rename_i r hrs
  have T:=hT t ti hti
  have h4:=HA.rel c _ (Nb ht e)
  cases hag:ti.k.agg with
  |true=>
   rw[hag]at hc
   cases hc
   unfold Go.Proofs.YtedbmmfebjfibaaGreat.results Er at hr
   simp only at hr
   cases hadr:DT (AB c e)with
   |no=>rw[hadr]at hr;cases hr
   |ok ad=>
    rw[hadr]at hr
    simp only at hr
    cases hl:loadN ti.size ad h with
    |no=>rw[hl]at hr;cases hr
    |ok u h2=>
     rw[hl]at hr
     simp only[A8]at hr
     rw[HO hadr]at h4
     obtain⟨a',ha',hra⟩:=h4.ptr_inv
     obtain⟨_,l',hv,hrun⟩:=Pz (P:=P) H hl hra (fun h=>h)
     obtain⟨vs,vs',h1,h5,h3⟩:=GU hT H HA hrs hr
     refine⟨_,_,.cons hv h1,h5,?_⟩
     have:(Qp a.tmps (.cell c t)).run P w=.ok (.agg l'.toArray) w:=by
      unfold Qp
      simp only[ha',asAddr,Sem.run_bind,Sem.run_pure,Result.andThen_ok,loadVar,T.agg,hag,if_true,T.size,hrun]
     simp[List.mapM_cons,this,h3]
  |false=>
   rw[hag]at hc
   cases hc
   unfold Go.Proofs.YtedbmmfebjfibaaGreat.results Er at hr
   simp only at hr
   cases hadr:DT (AB c e)with
   |no=>rw[hadr]at hr;cases hr
   |ok ad=>
    rw[hadr]at hr
    simp only at hr
    cases hl:load1 ad h with
    |no=>rw[hl]at hr;cases hr
    |ok u h2=>
     rw[hl]at hr
     simp only[A8]at hr
     rw[HO hadr]at h4
     obtain⟨a',ha',hra⟩:=h4.ptr_inv
     obtain⟨_,v',hcell,hv⟩:=Py H hl hra (fun h=>h)
     obtain⟨vs,vs',h1,h5,h3⟩:=GU hT H HA hrs hr
     refine⟨_,_,.cons hv h1,h5,?_⟩
     have:(Qp a.tmps (.cell c t)).run P w=.ok v' w:=by
      unfold Qp
      simp only[ha',asAddr,Sem.run_bind,Sem.run_pure,Result.andThen_ok,loadVar,T.agg,hag,Bool.false_eq_true,if_false,run_load,hcell]
     simp[List.mapM_cons,this,h3]
theorem M7(hT:Cc P ty)(H:RelW ty φ nil h w)(HA:AR N φ (rhoOf A [] e) a){fn:Func}{rs:List RV}(hc:rsC ty A fn.results.toList=some rs)(hr:EG rs e h=.ok v h'):
  h'=h∧∃ v',RelV φ v v'∧(Go.results fn a.tmps).run P w=.ok v' w:=by
 unfold EG at hr
 obtain⟨vs,vs',h1,h2,h3⟩:=GU hT H HA hc hr
 have hrun:=WF (P:=P) (w:=w) (Qp a.tmps) fn.results h3
 rw[SU]
 simp only[Sem.run_bind,hrun,Result.andThen_ok,Sem.run_pure]
 unfold In at h2
 split at h2
 ·cases h2
  cases h1 with
  |cons hv ht=>cases ht;exact⟨rfl,_,hv,rfl⟩
 ·rename_i hne
  cases h2
  refine⟨rfl,_,.tuple h1,?_⟩
  have:vs'.length≠1:=by
   rw[h1.length]
   intro hl
   cases vs with
   |nil=>cases hl
   |cons x l=>
    cases l with
    |nil=>exact hne x rfl
    |cons _ _=>simp at hl
  have hs:¬ (Array.mk vs').size=1:=this
  rw[dif_neg hs]
theorem Qw:∀ (args:List Value) (e:Env) (i t:Nat),i+args.length≤160→t<160→(AQ e i args).get t=if i≤t∧t<i+args.length then args.getD (t - i) noRes else e.get t
 |[],e,i,t,_,_=>by
  rw[if_neg (by simp)];rfl
 |v::l,e,i,t,hn,ht=>by
  simp only[List.length_cons]at hn
  unfold AQ
  rw[Qw l _ (i+1) t (by omega) ht]
  by_cases h1:i+1≤t∧t<i+1+l.length
  ·rw[if_pos h1,if_pos (by simp only[List.length_cons];omega)]
   have:t - i=(t - (i+1))+1:=by omega
   rw[this,List.getD_cons_succ]
  ·rw[if_neg h1,Env.get_set _ _ _ _ (by omega) ht]
   by_cases h2:t=i
   ·subst h2
    rw[if_pos rfl,if_pos (by simp only[List.length_cons];omega)]
    simp
   ·rw[if_neg h2,if_neg (by simp only[List.length_cons];omega)]
set_option maxRecDepth 100000 in
theorem ji{t:Nat}(ht:t<160):e0.get t=noRes:=by
 have H:LA (fun i=>e0.get i=noRes) 160:=by
  repeat' (first|exact trivial|refine⟨rfl,?_⟩)
 exact H.at t ht
theorem Zf{args args':List Value}(hr:RelL φ args args')(hn:args.length≤160)(n:Nat):
  AR (max args.length n) φ (rhoOf A [] (AQ e0 0 args)) {tmps:=(⟨args'⟩:Array Value)++Array.replicate (n - (⟨args'⟩:Array Value).size) undef,defers:=[]} where
 size:=by
  have:=hr.length
  simp only[Array.size_append,Array.size_replicate,List.size_toArray]
  omega
 defs:=rfl
 rel:=fun t u hu=>by
  rw[D5]at hu
  have hu:(match memN t A with|true=>none|false=>match Nat.blt t 160 with|true=>some (AB t (AQ e0 0 args))|false=>none)=some u:=hu
  cases hm:memN t A with
  |true=>rw[hm]at hu;cases hu
  |false=>
   rw[hm]at hu
   simp only at hu
   cases hb:Nat.blt t 160 with
   |false=>rw[hb]at hu;cases hu
   |true=>
    rw[hb]at hu
    cases hu
    have ht:=BD.1 hb
    rw[Cp t ht,Qw args e0 0 t (by omega) ht,ji ht]
    have hlen:=hr.length
    simp only[Array.getD_eq_getD_getElem?]
    by_cases h1:t<args.length
    ·rw[if_pos (by omega),Nat.sub_zero,Array.getElem?_append_left (by simp only[List.size_toArray];omega)]
     obtain⟨v',h2,h3⟩:=hr.get t args[t] (List.getElem?_eq_getElem h1)
     have:args.getD t noRes=args[t]:=by rw[List.getD_eq_getElem?_getD,List.getElem?_eq_getElem h1];rfl
     rw[this]
     have e2:(⟨args'⟩:Array Value)[t]? =some v':=by simpa using h2
     rw[e2];exact h3
    ·rw[if_neg (by omega),Array.getElem?_append_right (by simp only[List.size_toArray];omega),Array.getElem?_replicate]
     split<;>exact .tuple .nil
theorem Vg{l:List ResultVar}{rs:List RV}(hc:rsC ty A l=some rs):Sh rs=none:=by
 cases l with
 |nil=>cases hc;rfl
 |cons x l=>
  cases x with
  |tmp t=>
   unfold rsC at hc
   split at hc
   ·cases hc
   ·split at hc
    ·cases hc;rfl
    ·cases hc
  |cell c t=>
   unfold rsC at hc
   split at hc
   ·cases hc
   ·split at hc
    ·split at hc
     ·split at hc
      ·cases hc;rfl
      ·cases hc;rfl
     ·cases hc
    ·cases hc
def lq(P:Program)(ty:TTy)(g:Nat)(b:Body):Prop:=∃ fn A,P.funcs[g]? =some fn∧fn.name≠"runtime.NumGoroutine" ∧A4 ty A fn=some b
def Ak:Body:=⟨[],cNo⟩
theorem DG{n m:Nat}(h:n≤m):∀ {c:Code},CI n c=true→CI m c=true
 |.region _ ops _,hd=>by
  unfold CI at hd ⊢
  rw[List.all_eq_true]at hd ⊢
  intro o ho
  have:=hd o ho
  split at this
  ·have:=BD.1 this
   exact BD.2 (by omega)
  ·rfl
 |.seq a b,hd=>by
  have hd:(CI n a && CI n b)=true:=hd
  rw[Bool.and_eq_true]at hd
  show(CI m a && CI m b)=true
  rw[DG h hd.1,DG h hd.2];rfl
 |.cond _ a b,hd=>by
  have hd:(CI n a && CI n b)=true:=hd
  rw[Bool.and_eq_true]at hd
  show(CI m a && CI m b)=true
  rw[DG h hd.1,DG h hd.2];rfl
 |.block _ a,hd=>DG (c:=a) h hd
 |.loop a,hd=>DG (c:=a) h hd
 |.skip,_=>rfl
 |.exit _,_=>rfl
 |.ret,_=>rfl
 |.rangeFunc _ _ _ _,_=>rfl
 |.scope a,hd=>DG (c:=a) h hd
 |.label _,_=>rfl
 |.goto _,_=>rfl
 |.refuse _,_=>rfl
theorem XV(hT:Cc P ty){F:CallF}(hF:Cw P ty F)(hm:P.follows .mixedOrders=true){g:Nat}{b:Body}(hb:lq P ty g b){args:List Value}(hr:enter F b args h=.ok v h'):
  (∃ fn,P.funcs[g]? =some fn∧fn.name≠"runtime.NumGoroutine" ∧fn.body.isNone=false)∧
  ∀ φ w args',RelL φ args args'→RelW ty φ nil h w→
   Calls P g ⟨args'⟩ w fun en w'=>∃ v' ψ,en=.returned v'∧RelV ψ v v'∧RelW ty ψ nil h' w'∧Evo φ h w ψ h' w':=by
 obtain⟨fn,A,hfn,hname,hbody⟩:=hb
 unfold A4 at hbody
 cases hc:fn.body with
 |none=>rw[hc]at hbody;cases hbody
 |some c=>
  rw[hc]at hbody
  simp only at hbody
  cases hrs:rsC ty A fn.results.toList with
  |none=>rw[hrs]at hbody;cases hbody
  |some rs=>
   rw[hrs]at hbody
   simp only at hbody
   cases hd:CI fn.ntmps c with
   |false=>rw[hd]at hbody;cases hbody
   |true=>
    rw[hd]at hbody
    cases hbody
    refine⟨⟨fn,hfn,hname,by rw[hc];rfl⟩,fun φ w args' hrel HW=>?_⟩
    unfold enter at hr
    dsimp only at hr
    rw[Vg hrs]at hr
    obtain⟨hlen,hr⟩:=Bf hr
    have hlen:args.length≤160:=by rw[← BN];exact Af.1 hlen
    have hAR:=Zf (A:=A) hrel hlen fn.ntmps
    refine calls_of_wp hfn hc ?_
    have hn:Bm ty A c [] none F (AQ e0 0 args) h≠.no:=by
     intro hx;rw[hx]at hr;cases hr
    refine Dm hT hF hm c (e:=AQ e0 0 args) (h:=h) rfl hn (DG (Nat.le_max_right _ _) hd) _ _ _ (.nil A) HW hAR _ {go:=fun _ h=>(by cases h),norm:=fun _ e1 h1 ψ a1 w1 g1 hx=>?_,exit:=fun id e1 h1 ψ a1 w1 g1 hx=>?_,ret:=fun e1 h1 ψ a1 w1 g1 hx=>?_}
    ·rw[hx]at hr
     obtain⟨rfl,v',hv,hrun⟩:=M7 hT g1.rel g1.ar hrs hr
     exact⟨g1.ar.defs,v',hrun,v',ψ,rfl,hv,g1.rel,g1.evo⟩
    ·rw[hx]at hr;cases hr
    ·rw[hx]at hr
     obtain⟨rfl,v',hv,hrun⟩:=M7 hT g1.rel g1.ar hrs hr
     exact⟨g1.ar.defs,v',hrun,v',ψ,rfl,hv,g1.rel,g1.evo⟩
def LC(P:Program)(ty:TTy)(g:Nat)(b:Body):Prop:=∀ (F:CallF) (args:List Value) (h:Hp) (v:Value) (h':Hp),Cw P ty F→enter F b args h=.ok v h'→
 (∃ fn,P.funcs[g]? =some fn∧fn.name≠"runtime.NumGoroutine" ∧fn.body.isNone=false)∧
 ∀ φ w args',RelL φ args args'→RelW ty φ nil h w→
  Calls P g ⟨args'⟩ w fun en w'=>∃ v' ψ,en=.returned v'∧RelV ψ v v'∧RelW ty ψ nil h' w'∧Evo φ h w ψ h' w'
def BV(P:Program)(ty:TTy)(g:Nat)(b:Body):Prop:=lq P ty g b∨b=Ak∨LC P ty g b
def FT.All(p:Nat→Body→Prop):FT→(Nat→Nat)→Prop
 |.mt,_=>True
 |.nd b l r,ix=>p (ix 0) b∧FT.All p l (fun k=>ix (2 * k+1))∧FT.All p r (fun k=>ix (2 * k+2))
theorem FT.All.get{p:Nat→Body→Prop}:∀ {t:FT} {ix:Nat→Nat},FT.All p t ix→∀ {i:Nat} {b:Body},t.get i=some b→p (ix i) b
 |.mt,ix,_,i,b,h=>by cases h
 |.nd c l r,ix,⟨h0,hl,hr⟩,0,b,h=>by cases h;exact h0
 |.nd c l r,ix,⟨h0,hl,hr⟩,k+1,b,h=>by
  unfold FT.get at h
  have e1:Nat.mod k 2=k % 2:=rfl
  have e2:Nat.div k 2=k / 2:=rfl
  rw[e1,e2]at h
  rcases Nat.mod_two_eq_zero_or_one k with hk|hk
  ·rw[hk]at h
   have:=hl.get (i:=k / 2) h
   have e:2 * (k / 2)+1=k+1:=by omega
   simp only[e]at this;exact this
  ·rw[hk]at h
   have:=hr.get (i:=k / 2) h
   have e:2 * (k / 2)+2=k+1:=by omega
   simp only[e]at this;exact this
theorem Ib(hT:Cc P ty)(hm:P.follows .mixedOrders=true){bs:FT}(hb:FT.All (BV P ty) bs id):∀ n,Cw P ty (call bs n)
 |0=>fun g args h v h' hr=>by cases hr
 |n+1=>fun g args h v h' hr=>by
  have hr:(match bs.get g with|some b=>enter (call bs n) b args h|none=>.no)=.ok v h':=hr
  cases hg:bs.get g with
  |none=>rw[hg]at hr;cases hr
  |some b=>
   rw[hg]at hr
   rcases hb.get hg with hok|rfl|hdo
   ·exact XV hT (Ib hT hm hb n) hm hok hr
   ·exfalso
    have hr:(bif Nat.ble (A9 args) 160 then A2 [] .no else .no)=.ok v h':=hr
    obtain⟨_,hr⟩:=Bf hr
    cases hr
   ·exact hdo _ args h v h' (Ib hT hm hb n) hr
end
end
noncomputable section
open Go Go.RowKit Go.WideShapes Go.ChangeShapes
def YU:R→Bool
 |.ok (.bool b) _=>b
 |_=>false
def lF:Phi:=fun _=>none
theorem Nl(ty:TTy)(w:World):RelW ty lF nil Hx w where
 dom:=fun i p h=>by cases h
 inj:=fun i j p q h=>by cases h
 row:=fun i p h=>by cases h
 fresh:=fun i _=>Jn 9 i
 kind:=fun i p c s e h=>by cases h
 inp:=fun i p h=>by cases h
theorem Yx{P:Program}{ty:TTy}{bs:FT}(hC:∀ n,Cw P ty (call bs n)){n f:Nat}(h:YU (call bs n f [] Hx)=true)(w:World):
  Calls P f #[] w fun e w'=>e=.returned (.bool true)∧Below w.heap.size w w':=by
 cases hr:call bs n f [] Hx with
 |no=>rw[hr]at h;cases h
 |ok v h'=>
  rw[hr]at h
  obtain⟨_,hc⟩:=hC n f [] Hx v h' hr
  refine(hc lF w [] .nil (Nl ty w)).mono fun e w' ⟨v',ψ,he,hv,_,ev⟩=>?_
  cases v with
  |bool b=>
   have h:b=true:=h
   subst h
   have:=hv.bool_inv
   subst this
   exact⟨he,⟨ev.os,ev.tape,ev.output,ev.size,fun k hk=>ev.frame k hk fun i p hp=>by cases hp⟩⟩
  |_=>cases h
section
variable {H:Type}{enc:TypeId×Value→H}{P:Program}
theorem Mq{f:Func}{s:ChangeSpec}{apart fresh handsOn again:Bool}{W W':World}{args:Array Value}{v:Value}{ds gs:List (DataW H)}{before pa pv:List MemPlace}
  (hW:DataW.Whole enc P f.params.toList s.vars apart W args.toList ds gs before)
  (hres:∀ (b:Nat) (sp:Nat→Bool) (hd:Bool),DataW.TrodAll enc P W' b sp hd f.resultTypes.toList (v.resultList f.resultTypes.size) (s.fn H (ds++gs)).results [])
  (hargs:∀ sp:Nat→Bool,(∀ p∈before,sp p.block=true)→DataW.TrodAll enc P W' 0 sp true f.params.toList args.toList (s.fn H (ds++gs)).args pa)
  (hvars:∀ sp:Nat→Bool,(∀ p∈before,sp p.block=true)→DataW.TrodVars enc P W' sp s.vars (s.fn H (ds++gs)).vars pv)
  (hps:before=pa++pv)(hb:Below W.heap.size W W')
  (hok:∀ (j:Nat) (t:TypeId) (r:Value),f.resultTypes[j]? =some t→(v.resultList f.resultTypes.size)[j]? =some r→Value.okWide P W' .any 0 t r):
  s.post enc P f apart fresh handsOn again W args v W':=by
 have hlt:∀ p∈before,p.block<W.heap.size:=fun p hp=>hW.lt p hp
 have hold:∀ p∈before,(fun b=>decide (b<W.heap.size)) p.block=true:=fun p hp=>by simpa using hlt p hp
 refine⟨ds,gs,before,[],pa,pv,hW,hres _ _ _,hargs _ hold,hvars _ hold,World.keptBut_mono (fun p hp=>⟨hp,?_⟩) (hb.frame (· ∈before)),fun _=>?_⟩
 ·rw[hps,List.mem_append]at hp
  exact Or.inr hp
 ·obtain⟨_,_,_,_,_,hz,hn⟩:=hW
  refine⟨hok,_,_,([]++pa)++pv,⟨[]++pa,pv,trodAll_append (hargs _ (fun _ _=>rfl)) (hres _ _ _),hvars _ (fun _ _=>rfl),rfl,?_,?_⟩,?_⟩
  ·intro b off hp
   have hin:MemPlace.cell b off∈before:=by rw[hps];simpa using hp
   rw[hb.frozen (hlt _ hin)]
   exact hz b off hin
  ·intro ha
   have:=hn ha
   rw[hps]at this
   simpa using this
  ·intro p hp _
   rw[hps]
   simpa using hp
end
end
noncomputable section
open Go
namespace VT
def has:VT→Nat→Prop
 |.mt,_=>False
 |.nd _ _ _,0=>True
 |.nd _ l r,k+1=>if k % 2=0 then l.has (k / 2)else r.has (k / 2)
theorem has_succ(v:Value)(l r:VT)(k:Nat):(VT.nd v l r).has (k+1)=if k % 2=0 then l.has (k / 2)else r.has (k / 2):=by rw[has]
theorem FF:∀ (t:VT) (i:Nat) (x:Value),(∀ j,j<i→t.has j)→∃ t',t.set i x=some t'
 |.mt,0,x,_=>⟨_,rfl⟩
 |.mt,i+1,x,h=>(h 0 (Nat.succ_pos i)).elim
 |.nd v l r,0,x,_=>⟨_,rfl⟩
 |.nd v l r,k+1,x,h=>by
  rw[set_nd_succ]
  by_cases hk:k % 2=0
  ·rw[if_pos hk]
   obtain⟨l',hl⟩:=FF l (k / 2) x fun j hj=>by
    have:=h (2 * j+1) (by omega)
    rw[has_succ,if_pos (by omega)]at this
    have e:2 * j / 2=j:=by omega
    rwa [e]at this
   rw[hl];exact⟨_,rfl⟩
  ·rw[if_neg hk]
   obtain⟨r',hr⟩:=FF r (k / 2) x fun j hj=>by
    have:=h (2 * j+1+1) (by omega)
    rw[has_succ,if_neg (by omega)]at this
    have e:(2 * j+1) / 2=j:=by omega
    rwa [e]at this
   rw[hr];exact⟨_,rfl⟩
theorem GW:∀ (t:VT) (i:Nat) (x:Value) (t':VT),t.set i x=some t'→∀ j,(j=i∨t.has j)→t'.has j
 |.mt,0,x,t',h,j,hj=>by
  obtain rfl:VT.nd x .mt .mt=t':=Option.some.inj h
  rcases hj with rfl|hj
  ·exact trivial
  ·exact hj.elim
 |.mt,i+1,x,t',h,j,hj=>by cases h
 |.nd v l r,0,x,t',h,j,hj=>by
  obtain rfl:VT.nd x l r=t':=Option.some.inj h
  cases j with
  |zero=>exact trivial
  |succ j=>
   rcases hj with hj|hj
   ·cases hj
   ·rw[has_succ]at hj ⊢;exact hj
 |.nd v l r,i+1,x,t',h,j,hj=>by
  rw[set_nd_succ]at h
  split at h
  ·rename_i h0
   cases hs:l.set (i / 2) x with
   |none=>rw[hs]at h;cases h
   |some l'=>
    rw[hs]at h
    obtain rfl:VT.nd v l' r=t':=Option.some.inj h
    cases j with
    |zero=>exact trivial
    |succ j=>
     rw[has_succ]
     split
     ·rename_i h1
      refine GW l _ x l' hs _ ?_
      rcases hj with hj|hj
      ·left;have:j=i:=by omega
       rw[this]
      ·right;rw[has_succ,if_pos h1]at hj;exact hj
     ·rename_i h1
      rcases hj with hj|hj
      ·have:j=i:=by omega
       exact absurd (this ▸ h0) h1
      ·rw[has_succ,if_neg h1]at hj;exact hj
  ·rename_i h0
   cases hs:r.set (i / 2) x with
   |none=>rw[hs]at h;cases h
   |some r'=>
    rw[hs]at h
    obtain rfl:VT.nd v l r'=t':=Option.some.inj h
    cases j with
    |zero=>exact trivial
    |succ j=>
     rw[has_succ]
     split
     ·rename_i h1
      rcases hj with hj|hj
      ·have:j=i:=by omega
       exact absurd (this ▸ h1) h0
      ·rw[has_succ,if_pos h1]at hj;exact hj
     ·rename_i h1
      refine GW r _ x r' hs _ ?_
      rcases hj with hj|hj
      ·left;have:j=i:=by omega
       rw[this]
      ·right;rw[has_succ,if_neg h1]at hj;exact hj
def lay(t:VT)(i:Nat)(x:Value):VT:=(t.set i x).getD t
theorem lay_is{t:VT}{i:Nat}{x:Value}(h:∀ j,j<i→t.has j):t.set i x=some (t.lay i x):=by
 obtain⟨t',ht⟩:=FF t i x h
 unfold lay;rw[ht];rfl
theorem lay_get{t:VT}{i:Nat}{x:Value}(h:∀ j,j<i→t.has j)(j:Nat):(t.lay i x).get j=if j=i then x else t.get j:=get_set _ _ _ _ (lay_is h) j
theorem lay_has{t:VT}{i:Nat}{x:Value}(h:∀ j,j<i→t.has j)(j:Nat)(hj:j=i∨t.has j):(t.lay i x).has j:=GW _ _ _ _ (lay_is h) j hj
end VT
namespace BT
theorem has_succ(v:Blk)(l r:BT)(k:Nat):(BT.nd v l r).has (k+1)=if k % 2=0 then l.has (k / 2)else r.has (k / 2):=by rw[has]
theorem FF:∀ (t:BT) (i:Nat) (x:Blk),(∀ j,j<i→t.has j)→∃ t',t.set i x=some t'
 |.mt,0,x,_=>⟨_,rfl⟩
 |.mt,i+1,x,h=>(h 0 (Nat.succ_pos i)).elim
 |.nd v l r,0,x,_=>⟨_,rfl⟩
 |.nd v l r,k+1,x,h=>by
  rw[set_nd_succ]
  by_cases hk:k % 2=0
  ·rw[if_pos hk]
   obtain⟨l',hl⟩:=FF l (k / 2) x fun j hj=>by
    have:=h (2 * j+1) (by omega)
    rw[has_succ,if_pos (by omega)]at this
    have e:2 * j / 2=j:=by omega
    rwa [e]at this
   rw[hl];exact⟨_,rfl⟩
  ·rw[if_neg hk]
   obtain⟨r',hr⟩:=FF r (k / 2) x fun j hj=>by
    have:=h (2 * j+1+1) (by omega)
    rw[has_succ,if_neg (by omega)]at this
    have e:(2 * j+1) / 2=j:=by omega
    rwa [e]at this
   rw[hr];exact⟨_,rfl⟩
theorem GW:∀ (t:BT) (i:Nat) (x:Blk) (t':BT),t.set i x=some t'→∀ j,(j=i∨t.has j)→t'.has j
 |.mt,0,x,t',h,j,hj=>by
  obtain rfl:BT.nd x .mt .mt=t':=Option.some.inj h
  rcases hj with rfl|hj
  ·exact trivial
  ·exact hj.elim
 |.mt,i+1,x,t',h,j,hj=>by cases h
 |.nd v l r,0,x,t',h,j,hj=>by
  obtain rfl:BT.nd x l r=t':=Option.some.inj h
  cases j with
  |zero=>exact trivial
  |succ j=>
   rcases hj with hj|hj
   ·cases hj
   ·rw[has_succ]at hj ⊢;exact hj
 |.nd v l r,i+1,x,t',h,j,hj=>by
  rw[set_nd_succ]at h
  split at h
  ·rename_i h0
   cases hs:l.set (i / 2) x with
   |none=>rw[hs]at h;cases h
   |some l'=>
    rw[hs]at h
    obtain rfl:BT.nd v l' r=t':=Option.some.inj h
    cases j with
    |zero=>exact trivial
    |succ j=>
     rw[has_succ]
     split
     ·rename_i h1
      refine GW l _ x l' hs _ ?_
      rcases hj with hj|hj
      ·left;have:j=i:=by omega
       rw[this]
      ·right;rw[has_succ,if_pos h1]at hj;exact hj
     ·rename_i h1
      rcases hj with hj|hj
      ·have:j=i:=by omega
       exact absurd (this ▸ h0) h1
      ·rw[has_succ,if_neg h1]at hj;exact hj
  ·rename_i h0
   cases hs:r.set (i / 2) x with
   |none=>rw[hs]at h;cases h
   |some r'=>
    rw[hs]at h
    obtain rfl:BT.nd v l r'=t':=Option.some.inj h
    cases j with
    |zero=>exact trivial
    |succ j=>
     rw[has_succ]
     split
     ·rename_i h1
      rcases hj with hj|hj
      ·have:j=i:=by omega
       exact absurd (this ▸ h1) h0
      ·rw[has_succ,if_pos h1]at hj;exact hj
     ·rename_i h1
      refine GW r _ x r' hs _ ?_
      rcases hj with hj|hj
      ·left;have:j=i:=by omega
       rw[this]
      ·right;rw[has_succ,if_neg h1]at hj;exact hj
def lay(t:BT)(i:Nat)(x:Blk):BT:=(t.set i x).getD t
theorem lay_is{t:BT}{i:Nat}{x:Blk}(h:∀ j,j<i→t.has j):t.set i x=some (t.lay i x):=by
 obtain⟨t',ht⟩:=FF t i x h
 unfold lay;rw[ht];rfl
theorem lay_get{t:BT}{i:Nat}{x:Blk}(h:∀ j,j<i→t.has j)(j:Nat):(t.lay i x).get j=if j=i then x else t.get j:=get_set _ _ _ _ (lay_is h) j
theorem lay_has{t:BT}{i:Nat}{x:Blk}(h:∀ j,j<i→t.has j)(j:Nat)(hj:j=i∨t.has j):(t.lay i x).has j:=GW _ _ _ _ (lay_is h) j hj
end BT
end
noncomputable section
open Go
section
variable {F:CallF}{e:Env}{h:Hp}{k a b:C}{f:OpF}{x y:O}
def opX(i:Nat)(r:R)(k:C)(F:CallF)(e:Env):X:=match r with
 |.ok v h=>k F (Env.set i v e) h
 |.no=>.no
def doX(r:R)(k:C)(F:CallF)(e:Env):X:=match r with
 |.ok _ h=>k F e h
 |.no=>.no
def Vh(x:X)(b:C)(F:CallF):X:=match x with
 |.norm e h=>b F e h
 |x=>x
def GH(id:Nat)(x:X):X:=match x with
 |.exit i e h=>bif Nat.beq i id then .norm e h else .exit i e h
 |x=>x
def Sx(v:Value)(a b:C)(F:CallF)(e:Env)(h:Hp):X:=match v with
 |.bool c=>(bif c then a else b) F e h
 |_=>.no
def Y3(i:Nat)(k:C):C:=fun F e h=>k F (Env.set i noRes e) h
def ID(v:Value)(want:Bool)(a b:C)(F:CallF)(e:Env)(h:Hp):X:=match v with
 |.bool c=>(bif want == c then a else b) F e h
 |.tuple _=>b F e h
 |_=>.no
theorem GQ{i:Nat}{v:Value}:opX i (.ok v h) k F e=k F (Env.set i v e) h:=rfl
theorem XO{v:Value}:doX (.ok v h) k F e=k F e h:=rfl
theorem BB:Vh (.norm e h) b F=b F e h:=rfl
theorem Co:Vh (.ret e h) b F=.ret e h:=rfl
theorem Nh{i:Nat}:Vh (.exit i e h) b F=.exit i e h:=rfl
theorem DE{i:Nat}:GH i (.norm e h)=.norm e h:=rfl
theorem B8{i:Nat}:GH i (.ret e h)=.ret e h:=rfl
theorem A1{i:Nat}:GH i (.exit i e h)=.norm e h:=by
 show(bif Nat.beq i i then _ else _)=_
 rw[Nat.beq_refl];rfl
theorem H8:Sx (.bool true) a b F e h=a F e h:=rfl
theorem Gp:Sx (.bool false) a b F e h=b F e h:=rfl
theorem NG:ID (.bool true) true a b F e h=a F e h:=rfl
theorem NF:ID (.bool true) false a b F e h=b F e h:=rfl
theorem NE:ID (.bool false) true a b F e h=b F e h:=rfl
theorem ND:ID (.bool false) false a b F e h=a F e h:=rfl
theorem KE{w:Bool}:ID noRes w a b F e h=b F e h:=rfl
theorem Qx{i:Nat}:Y3 i k F e h=k F (Env.set i noRes e) h:=rfl
theorem GJ{i:Nat}(hi:i<160):AH (AC i) f k F e h=opX i (f F e h) k F e:=by
 unfold AH opX
 cases f F e h with
 |ok v h=>exact DZ i hi _ v e
 |no=>rfl
theorem WU:cDo f k F e h=doX (f F e h) k F e:=by
 unfold cDo doX
 cases f F e h<;>rfl
theorem WV{g:O}{w:Bool}{i:Nat}(hi:i<160):cG g w (AC i) f k F e h=ID (g e) w (AH (AC i) f k) (Y3 i k) F e h:=by
 unfold cG ID Y3
 cases g e with
 |bool c=>
  simp only
  cases w == c
  ·exact DZ i hi _ _ e
  ·rfl
 |tuple l=>exact DZ i hi _ _ e
 |_=>rfl
theorem BH:BG a b F e h=Vh (a F e h) b F:=by
 unfold BG Vh
 cases a F e h<;>rfl
theorem Aw{i:Nat}:Ac i a F e h=GH i (a F e h):=by
 unfold Ac GH
 cases a F e h<;>rfl
theorem IY:AV x a b F e h=Sx (x e) a b F e h:=by
 unfold AV Sx
 cases x e with
 |bool c=>cases c<;>rfl
 |_=>rfl
theorem LN:Ar F e h=.norm e h:=rfl
theorem Ss:Ap F e h=.ret e h:=rfl
theorem O7{i:Nat}:B9 i F e h=.exit i e h:=rfl
theorem AG{i j:Nat}{v:Value}(hi:i<160)(hj:j<160):AB j (Env.set i v e)=if j=i then v else AB j e:=by
 rw[Cp j hj,Env.get_set _ _ _ _ hi hj,Cp j hj]
theorem G1{v:Value}:kV v e=v:=rfl
theorem A3:vals e []=[]:=rfl
theorem AY{l:List O}:vals e (x::l)=x e::vals e l:=rfl
theorem KP{i:Nat}:AQ e i []=e:=rfl
theorem JG{i:Nat}{v:Value}{l:List Value}:AQ e i (v::l)=AQ (Env.set i v e) (Nat.succ i) l:=rfl
theorem Dx:AE x F e h=.ok (x e) h:=Ef _ _
theorem EV{j:IntKind}{n:Int}:CR j (.int j n)=.ok n:=by cases j<;>rfl
theorem bf{j:IntKind}{n:Nat}:FN j (.int j (.ofNat n))=.ok n:=by cases j<;>rfl
theorem Hc{j:IntKind}{n:Nat}:FN j (.int j (n:Int))=.ok n:=bf
theorem Cs{j:IntKind}{n:Nat}:Cu (.int j (n:Int))=.ok n:=rfl
theorem Fp{c:Bool}:okB c h=.ok (.bool c) h:=by cases c<;>rfl
theorem Gx(a b:Int):iGt a b=decide (b<a):=Cr b a
theorem Ro(a b:Int):iLe a b=decide (a≤b):=by
 show(!iLt b a)=_
 rw[Cr,← decide_not]
 congr 1;simp
theorem N9(a b:Int):iGe a b=decide (b≤a):=Ro b a
theorem Gy(a b:Int):iNe a b= !(a == b):=by
 show(!iEq a b)=_
 rw[Dp]
def jP(f:Int→Int→Bool)(j:IntKind)(a b:Value)(h:Hp):R:=Z6 f (CR j a) (CR j b) h
def Fl(f:Int→Int→Int)(j:IntKind)(a b:Value)(h:Hp):R:=fI f j (CR j a) (CR j b) h
theorem AL{f:Int→Int→Bool}{j:IntKind}:Ad f j x y F e h=jP f j (x e) (y e) h:=rfl
theorem Bs{f:Int→Int→Int}{j:IntKind}:Cg f j x y F e h=Fl f j (x e) (y e) h:=rfl
theorem AK{f:Int→Int→Bool}{j:IntKind}{m n:Int}:jP f j (.int j m) (.int j n) h=.ok (.bool (f m n)) h:=by
 unfold jP
 rw[EV,EV];exact Fp
theorem CT{f:Int→Int→Int}{j:IntKind}{m n:Int}:Fl f j (.int j m) (.int j n) h=.ok (.int j (j.wrap (f m n))) h:=by
 unfold Fl
 rw[EV,EV]
 show okI j (D6 j (f m n)) h=_
 rw[EO,Cq]
def FK(j:IntKind)(a b:Value)(h:Hp):R:=ZZ j (A7 j) (CR j a) (CR j b) h
theorem BK{j:IntKind}:CC j (A7 j) x y F e h=FK j (x e) (y e) h:=rfl
theorem ZQ{j:IntKind}{n:Nat}(hn:Nat.ble n (A7 j)=true):j.wrap (n:Int)=n:=by
 rw[← Cq]
 show Bool.rec (motive:=fun _=>Int) (j.wrap (.ofNat n)) (.ofNat n) (Nat.ble n (A7 j))=_
 rw[hn];rfl
theorem ES{j:IntKind}{m n:Int}:FK j (.int j m) (.int j n) h=.ok (.int j (j.wrap (m+n))) h:=by
 unfold FK
 rw[EV,EV]
 cases m with
 |negSucc m=>show okI j (D6 j _) h=_;rw[EO,Cq]
 |ofNat m=>
  cases n with
  |negSucc n=>show okI j (D6 j _) h=_;rw[EO,Cq]
  |ofNat n=>
   show Bool.rec (motive:=fun _=>R) (okI j (j.wrap (.ofNat m+.ofNat n)) h) (forceN (Nat.add m n) fun n=>.ok (.int j (.ofNat n)) h) (Nat.ble (Nat.add m n) (A7 j))=_
   cases hb:Nat.ble (Nat.add m n) (A7 j)with
   |false=>simp only;rw[EO]
   |true=>
    simp only
    rw[Aa]
    have:=ZQ hb
    have e:(Int.ofNat m+Int.ofNat n:Int)=((Nat.add m n:Nat):Int):=by
     show((m:Int)+(n:Int))=((m+n:Nat):Int)
     omega
    rw[e,this];rfl
def Re(j:IntKind)(a b:Value)(h:Hp):R:=XN j (CR j a) (CR j b) h
def Yt(j:IntKind)(a b:Value)(h:Hp):R:=Ys j (CR j a) (CR j b) h
theorem I5{j:IntKind}:Ka j x y F e h=Re j (x e) (y e) h:=rfl
theorem OW{j:IntKind}:QO j x y F e h=Yt j (x e) (y e) h:=rfl
theorem Kn{j:IntKind}{m n:Int}(hn:n≠0):Re j (.int j m) (.int j n) h=.ok (.int j (j.wrap (m.tdiv n))) h:=by
 unfold Re
 rw[EV,EV]
 show(bif iEq n 0 then R.no else okI j (D6 j (m.tdiv n)) h)=_
 rw[Dp,EO,Cq,beq_false_of_ne hn];rfl
theorem Tw{j:IntKind}{m n:Int}(hn:n≠0):Yt j (.int j m) (.int j n) h=.ok (.int j (m.tmod n)) h:=by
 unfold Yt
 rw[EV,EV]
 show(bif iEq n 0 then R.no else okI j (m.tmod n) h)=_
 rw[Dp,EO,beq_false_of_ne hn];rfl
def WO(f:Nat→Nat→Nat)(j:IntKind)(a b:Value)(h:Hp):R:=WN f j (FN j a) (FN j b) h
theorem cB{f:Nat→Nat→Nat}{j:IntKind}:Jw f j x y F e h=WO f j (x e) (y e) h:=rfl
theorem Sp{f:Nat→Nat→Nat}{j:IntKind}{m n:Nat}(hm:m≤A7 j)(hn:n≤A7 j):WO f j (.int j (m:Int)) (.int j (n:Int)) h=.ok (.int j (f m n:Nat)) h:=by
 unfold WO
 rw[Hc,Hc]
 show(bif Nat.ble m (A7 j)then(bif Nat.ble n (A7 j)then okI j (.ofNat (f m n)) h else R.no)else R.no)=_
 rw[Af.2 hm,Af.2 hn,EO];rfl
def dS(j:IntKind)(a b:Value)(h:Hp):R:=Y0 j (FN j a) (Cu b) h
def Y2(j:IntKind)(a b:Value)(h:Hp):R:=Y1 j (FN j a) (Cu b) h
theorem Tl{j:IntKind}:Mo j x y F e h=dS j (x e) (y e) h:=rfl
theorem Tm{j:IntKind}:Kb j x y F e h=Y2 j (x e) (y e) h:=rfl
theorem dT{j q:IntKind}{m n:Nat}:dS j (.int j (m:Int)) (.int q (n:Int)) h=.ok (.int j (j.wrap ((m * 2 ^ min n j.bits:Nat):Int))) h:=by
 unfold dS
 rw[Hc,Cs]
 show okI j (D6 j (.ofNat (Nat.mul m (Nat.pow 2 (B0 n j.bits))))) h=_
 rw[EO,Cq,BC];rfl
theorem Ty{j q:IntKind}{m n:Nat}:Y2 j (.int j (m:Int)) (.int q (n:Int)) h=.ok (.int j ((m / 2 ^ min n j.bits:Nat):Int)) h:=by
 unfold Y2
 rw[Hc,Cs]
 show okI j (.ofNat (Nat.div m (Nat.pow 2 (B0 n j.bits)))) h=_
 rw[EO,BC];rfl
def DR(j:IntKind)(a:Value)(h:Hp):R:=match U0 a with
 |.ok n=>okI j (D6 j n) h
 |.no=>.no
theorem CJ{j:IntKind}:Cn j x F e h=DR j (x e) h:=rfl
theorem Ck{j q:IntKind}{n:Int}:DR j (.int q n) h=.ok (.int j (j.wrap n)) h:=by
 show okI j (D6 j n) h=_
 rw[EO,Cq]
def oG(a:Value)(h:Hp):R:=match a with
 |.bool b=>okB (!b) h
 |_=>.no
theorem Bt:DY x F e h=oG (x e) h:=rfl
theorem Br{c:Bool}:oG (.bool c) h=.ok (.bool (!c)) h:=Fp
def Yk(c a b:Value)(h:Hp):R:=Yl c a b h
theorem QN{c:O}:Av c x y F e h=Yk (c e) (x e) (y e) h:=rfl
theorem ML{v u:Value}:Yk (.bool true) v u h=.ok v h:=Ef _ _
theorem KJ{v u:Value}:Yk (.bool false) v u h=.ok u h:=Ef _ _
theorem Bb{g:Nat}{l:List O}:AS g l F e h=F g (vals e l) h:=CM _ _
theorem Ai{bs:FT}{n f:Nat}{b:Body}(hb:bs.get f=some b){args:List Value}:call bs (Nat.succ n) f args h=enter (call bs n) b args h:=by
 show(match bs.get f with|some b=>enter (call bs n) b args h|none=>.no)=_
 rw[hb]
theorem AW{rs:List RV}{c:C}{args:List Value}(hl:Nat.ble (A9 args) 160=true)(hx:Sh rs=none:=by rfl):enter F ⟨rs,c⟩ args h=A2 rs (c F (AQ e0 0 args) h):=by
 unfold enter
 rw[hx]
 show(bif Nat.ble (A9 args) 160 then A2 rs (c F (AQ e0 0 args) h)else .no)=_
 rw[hl];rfl
theorem BX{rs:List RV}:A2 rs (.ret e h)=EG rs e h:=rfl
theorem EK{rs:List RV}:A2 rs (.norm e h)=EG rs e h:=rfl
theorem PS{g:O}:EG [.t g] e h=.ok (g e) h:=by
 show forceV (g e) _=_
 rw[A8];rfl
theorem DH{g g':O}:EG [.t g,.t g'] e h=.ok (.tuple ⟨[g e,g' e]⟩) h:=by
 show forceV (g e) (fun v=>forceV (g' e) _)=_
 rw[A8,A8];rfl
theorem Lj{g g' g'':O}:EG [.t g,.t g',.t g''] e h=.ok (.tuple ⟨[g e,g' e,g'' e]⟩) h:=by
 show forceV (g e) (fun v=>forceV (g' e) (fun v=>forceV (g'' e) _))=_
 rw[A8,A8,A8];rfl
def Fy(i:Nat)(a:Value)(h:Hp):R:=match a with
 |.tuple vs=>match nth vs.toList i with
  |some v=>.ok v h
  |none=>.no
 |_=>.no
theorem BA{i:Nat}:AZ i x F e h=Fy i (x e) h:=by
 show(match x e with|.tuple vs=>(match nth vs.toList i with|some v=>forceV v fun v=>.ok v h|none=>.no)|_=>.no)=_
 unfold Fy
 cases x e with
 |tuple vs=>
  simp only
  cases nth vs.toList i with
  |some v=>exact A8 _ _
  |none=>rfl
 |_=>rfl
theorem BL{v:Value}{l:List Value}:Fy 0 (.tuple ⟨v::l⟩) h=.ok v h:=rfl
theorem BM{u v:Value}{l:List Value}:Fy 1 (.tuple ⟨u::v::l⟩) h=.ok v h:=rfl
theorem CZ{t u v:Value}{l:List Value}:Fy 2 (.tuple ⟨t::u::v::l⟩) h=.ok v h:=rfl
end
end
end Go.Proofs.YtedbmmfebjfibaaGreat
