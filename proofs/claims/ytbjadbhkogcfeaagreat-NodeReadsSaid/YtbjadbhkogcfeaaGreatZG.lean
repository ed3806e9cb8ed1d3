/-
  Part ZG of what Lawnr stands on: printed by program, names and spaces cut.
-/
import Derived.Test.YtbjadbhkogcfeaaGreatZF
import Derived.Scope
import Derived.Below
import Derived.ChangeSame
import Derived.ChangeSlices
import Derived.ChangeArms
open Go renaming Value→IN,IntKind→xy,World→yQ,Program→yw,Addr→ABb,ResultVar→ACJ,results→ADD
open Nat renaming le_refl→IT,zero_add→If,succ→xW,ble→xd,beq→xr,lt_or_ge→yG,le_trans→yP,eq_zero_or_pos→yd,mul→yl,lt_of_lt_of_le→yr,blt→yu,add→zH,add_eq→zL,mul_comm→zT,beq_refl→zU,mul_one→AAi,succ_pos→AA4,add_mul→AA6,le_succ_of_le→ABc,div_lt_self→ABw,strongRecOn→ACQ,lt_trans→ACZ,div_lt_of_lt_mul→ACh,succ_eq_add_one→ACo,mul_assoc→ADX,pow_succ→ADj,pow_add→ADu
open List renaming length_append→No,getElem?_eq_getElem→sh,getD_eq_getElem?_getD→xV,length_cons→xY,append_nil→xx,getElem?_eq_some_iff→yD,append_assoc→yF,getElem?_append_right→yJ,length_take→yM,length_nil→yS,nil_append→yU,length_drop→yk,drop_of_length_le→zC,getElem?_take→zy,getElem?_drop→AAP,all_eq_true→AAZ,size_toArray→ABZ,mapM_cons→AB1
open Go.Result renaming andThen_ok→xU
open Go.Sem renaming run_bind→xh,run_pure→xk
open And renaming intro→xu
open Bool renaming and_eq_true→yA,rec→AAI
open Int renaming ofNat→zA
open Go.IntKind renaming i64→zk,u8→ADT
open Array renaming getElem?_eq_some_iff→zo
open Go.Value renaming okWide→AAN
open UInt8 renaming ofNat→AAR
open SizeOf renaming sizeOf→ABz
open Go.DataW renaming TrodAll→ADN
open Go.Exit renaming inBlock→ADb
open Go.Cell renaming okWide→ADp
set_option linter.unusedSimpArgs false
set_option linter.unusedVariables false
namespace Go.Proofs.YtbjadbhkogcfeaaGreat
noncomputable section
open Go
section
variable {P:yw}{ty:TTy}{F:AEA}{A:List Nat}{N:Nat}
theorem Evo.AHB{φ ψ:Phi}{h g h':Hp}{w w':yQ}(ev:Evo φ g w ψ h' w')(h1:g.bl=h.bl)(h2:g.next=h.next)(h3:g.low=h.low)(h4:g.high=h.high):Evo φ h w ψ h' w' where
 le:=ev.le
 new:=by rw[<- h2];exact ev.new
 next:=by rw[<- h2];exact ev.next
 size:=ev.size
 tape:=ev.tape
 os:=ev.os
 output:=ev.output
 frame:=by unfold Live;rw[<- h1];exact ev.frame
 back:=by
  have:=ev.back;unfold Live at this ⊢;rw[h1]at this;exact this
 kept:=by rw[<- h1,<- h2];exact ev.kept
 low:=by rw[<- h3];exact ev.low
 high:=by rw[<- h4];exact ev.high
 shape:=by rw[<- h1,<- h2];exact ev.shape
 only:=by rw[<- h1,<- h2];exact ev.only
 all:=by rw[<- h2];exact ev.all
theorem X2(hT:DE P ty)(hF:DX P ty F)(hm:P.follows .mixedOrders=true){id:Nat}{ops:Array Oper}{draw:Bool}{σ:Sg}{k:Option (Sg->C)}{e:Env}{h:Hp}{X:X}(hr:Bv ty A (.region id ops draw) σ k F e h=X)(hn:X≠.no)
  (hd:Cb N (.region id ops draw)=true){φ:Phi}{w:yQ}{a:Act}(hS:AFV A σ)(HW:AEI ty φ nil h w)(HA:AR N φ (AEW A σ e) a){Q:Exit->Act->yQ->Prop}(p:Post ty A N F φ h w k X Q):(Code.region id ops draw).wp P Q a w:=by
 have hN:∀ o∈ops.toList,∀ d,o.dst=some d->d<N:=by
  intro o ho d hod;unfold Cb at hd;rw[AAZ]at hd;have:=hd o ho;rw[hod]at this;exact Bb.1 this
 unfold Bv at hr;cases draw with
 |false=>
  simp only at hr;obtain⟨ρ,H,V,run,T,σ',e',tr,q1,q2,q3,q4,q5⟩:=PF hT hF ops.toList [] σ e h X (fun j o _=>.plain ty o) hS hr hn;refine wp_region_list ?_;have:=PT (Q:=Q) (a:=a) (w:=w) (φ:=φ) ops.toList tr hN (by rw[q2];exact HW) (by rw[q1];exact HA) fun _ ψ a' w' r1 r2 r3=>p.then ⟨q4,r1,by rw[<- q3];exact r2,by rw[<- q2];exact r3⟩ q5
  simpa using this
 |true=>
  simp only at hr;cases hdr:UT ty ops.toList with
  |none=>rw[hdr]at hr;exact absurd hr.symm hn
  |some ahs=>
   rw[hdr]at hr;obtain⟨bs,hbs,he,hs,hah⟩:=ZT hdr;have hr:Gn ty A ops.toList (LB k) ahs ops.toList σ F e {next:=h.next,low:=h.low,high:=h.high,mark:=h.next,bl:=h.bl}=X:=hr;obtain⟨ρ,H,V,run,T,σ',e',tr,q1,q2,q3,q4,q5⟩:=PF hT hF ops.toList ahs σ e _ X (fun j o ho=>by obtain⟨xs,_,h⟩:=hah j o ho;exact h.ok) hS hr hn;have:=jw (id:=id) (Q:=Q) (a:=a) (w:=w) (φ0:=φ) hm (P3 hbs he) (gx hbs he hs hah tr) tr hN (by rw[q2];exact HW.AFb rfl rfl) (by rw[q1];exact HA)
    fun ψ a' w' r1 r2 r3=>p.then ⟨q4,r1,by rw[<- q3];exact r2,by rw[q2]at r3;exact r3.AHB rfl rfl rfl rfl⟩ q5
   simpa using this
theorem VB(hm:P.follows .mixedOrders=true){c:Code}{body:C}(ih:∀ {e:Env} {h:Hp} {X:X},body F e h=X->X≠.no->∀ (φ:Phi) (w:yQ) (a:Act),AEI ty φ nil h w->AR N φ (AEW A [] e) a->∀ (Q:Exit->Act->yQ->Prop),Post ty A N F φ h w none X Q->c.wp P Q a w):
  ∀ (n:Nat) {e:Env} {h:Hp} {X:X},iter body n F e h=X->X≠.no->∀ (φ:Phi) (w:yQ) (a:Act),AEI ty φ nil h w->AR N φ (AEW A [] e) a->∀ (Q:Exit->Act->yQ->Prop),Post ty A N F φ h w none X Q->Code.rounds P c Q n a w
 |0,e,h,X,hr,hn=>by exact absurd hr.symm hn
 |n+1,e,h,X,hr,hn=>by
  intro φ w a HW HA Q p;unfold iter at hr;cases hb:body F e h with
  |no=>rw[hb]at hr;exact absurd hr.symm hn
  |norm e1 h1=>
   rw[hb]at hr;simp only at hr;refine ih hb (fun h=>by cases h) φ w a HW HA _ {go:=(fun _ h=>by cases h),norm:=fun _ e' h' ψ a' w' g hx=>?_,exit:=(fun _ _ _ _ _ _ _ hx=>by cases hx),ret:=(fun _ _ _ _ _ _ hx=>by cases hx)};cases hx;exact VB hm ih n hr hn _ _ _ g.rel g.ar _ {go:=(fun _ h=>by cases h),norm:=fun h e2 h2 χ a2 w2 g2 hx=>p.norm h e2 h2 χ a2 w2 (g.trans g2) hx,exit:=fun id e2 h2 χ a2 w2 g2 hx=>p.exit id e2 h2 χ a2 w2 (g.trans g2) hx,ret:=fun e2 h2 χ a2 w2 g2 hx=>p.ret e2 h2 χ a2 w2 (g.trans g2) hx}
  |exit i e1 h1=>
   rw[hb]at hr;refine ih hb (fun h=>by cases h) φ w a HW HA _ {go:=(fun _ h=>by cases h),norm:=(fun _ _ _ _ _ _ _ hx=>by cases hx),exit:=fun id e2 h2 χ a2 w2 g2 hx=>p.exit id e2 h2 χ a2 w2 g2 (hr.symm.trans hx),ret:=(fun _ _ _ _ _ _ hx=>by cases hx)}
  |ret e1 h1=>
   rw[hb]at hr;refine ih hb (fun h=>by cases h) φ w a HW HA _ {go:=(fun _ h=>by cases h),norm:=(fun _ _ _ _ _ _ _ hx=>by cases hx),exit:=(fun _ _ _ _ _ _ _ hx=>by cases hx),ret:=fun e2 h2 χ a2 w2 g2 hx=>p.ret e2 h2 χ a2 w2 g2 (hr.symm.trans hx)}
theorem RP{φ:Phi}{h:Hp}{w:yQ}{k':Sg->C}{X:X}{Q:Exit->Act->yQ->Prop}(p:Post ty A N F φ h w (some k') X Q){a:C}{e:Env}(hr:BI a (k' []) F e h=X)(hn:X≠.no):
  ∃ X1,a F e h=X1/\X1≠.no/\Post ty A N F φ h w none X1 Q:=by
 unfold BI at hr;cases hb:a F e h with
 |no=>rw[hb]at hr;exact absurd hr.symm hn
 |norm e1 h1=>
  rw[hb]at hr;exact⟨_,rfl,(fun h=>by cases h),{go:=(fun _ h=>by cases h),norm:=fun _ e2 h2 χ a2 w2 g2 hx=>by cases hx;exact p.go k' rfl [] _ _ χ a2 w2 g2 hr,exit:=(fun _ _ _ _ _ _ _ hx=>by cases hx),ret:=(fun _ _ _ _ _ _ hx=>by cases hx)}⟩
 |exit i e1 h1=>
  rw[hb]at hr;exact⟨_,rfl,(fun h=>by cases h),{go:=(fun _ h=>by cases h),norm:=(fun _ _ _ _ _ _ _ hx=>by cases hx),exit:=fun id e2 h2 χ a2 w2 g2 hx=>p.exit id e2 h2 χ a2 w2 g2 (hr.symm.trans hx),ret:=(fun _ _ _ _ _ _ hx=>by cases hx)}⟩
 |ret e1 h1=>
  rw[hb]at hr;exact⟨_,rfl,(fun h=>by cases h),{go:=(fun _ h=>by cases h),norm:=(fun _ _ _ _ _ _ _ hx=>by cases hx),exit:=(fun _ _ _ _ _ _ _ hx=>by cases hx),ret:=fun e2 h2 χ a2 w2 g2 hx=>p.ret e2 h2 χ a2 w2 g2 (hr.symm.trans hx)}⟩
theorem SH{φ:Phi}{h:Hp}{w:yQ}{X:X}{Q:Exit->Act->yQ->Prop}(p:Post ty A N F φ h w none X Q){id:Nat}{a:C}{e:Env}(hr:Ab id a F e h=X)(hn:X≠.no):
  ∃ X1,a F e h=X1/\X1≠.no/\Post ty A N F φ h w none X1 (ADb id Q):=by
 unfold Ab at hr;cases hb:a F e h with
 |no=>rw[hb]at hr;exact absurd hr.symm hn
 |norm e1 h1=>
  rw[hb]at hr;exact⟨_,rfl,(fun h=>by cases h),{go:=(fun _ h=>by cases h),norm:=fun h e2 h2 χ a2 w2 g2 hx=>p.norm h e2 h2 χ a2 w2 g2 (hr.symm.trans hx),exit:=(fun _ _ _ _ _ _ _ hx=>by cases hx),ret:=(fun _ _ _ _ _ _ hx=>by cases hx)}⟩
 |exit i e1 h1=>
  rw[hb]at hr;simp only at hr;refine⟨_,rfl,(fun h=>by cases h),{go:=(fun _ h=>by cases h),norm:=fun _ _ _ _ _ _ _ hx=>(by cases hx),exit:=fun j e2 h2 χ a2 w2 g2 hx=>?_,ret:=fun _ _ _ _ _ _ hx=>(by cases hx)}⟩;cases hx;unfold ADb;cases hq:xr i id with
  |true=>
   rw[hq]at hr;simp only[Az.1 hq,if_true];exact p.norm rfl _ _ χ a2 w2 g2 hr.symm
  |false=>
   rw[hq]at hr;simp only[FL hq,if_false];exact p.exit i _ _ χ a2 w2 g2 hr.symm
 |ret e1 h1=>
  rw[hb]at hr;exact⟨_,rfl,(fun h=>by cases h),{go:=(fun _ h=>by cases h),norm:=(fun _ _ _ _ _ _ _ hx=>by cases hx),exit:=(fun _ _ _ _ _ _ _ hx=>by cases hx),ret:=fun e2 h2 χ a2 w2 g2 hx=>p.ret e2 h2 χ a2 w2 g2 (hr.symm.trans hx)}⟩
theorem EK(hT:DE P ty)(hF:DX P ty F)(hm:P.follows .mixedOrders=true):∀ (c:Code) {σ:Sg} {k:Option (Sg->C)} {e:Env} {h:Hp} {X:X},Bv ty A c σ k F e h=X->X≠.no->Cb N c=true->
  ∀ (φ:Phi) (w:yQ) (a:Act),AFV A σ->AEI ty φ nil h w->AR N φ (AEW A σ e) a->∀ (Q:Exit->Act->yQ->Prop),Post ty A N F φ h w k X Q->c.wp P Q a w
 |.skip,σ,k,e,h,X,hr,hn,hd=>by
  intro φ w a hS HW HA Q p;exact wp_skip (p.then ⟨hS,HW,HA,.refl _ _ _⟩ hr)
 |.region id ops draw,σ,k,e,h,X,hr,hn,hd=>by
  intro φ w a hS HW HA Q p;exact X2 hT hF hm hr hn hd hS HW HA p
 |.seq x y,σ,k,e,h,X,hr,hn,hd=>by
  intro φ w a hS HW HA Q p;have hd:(Cb N x && Cb N y)=true:=hd;rw[yA]at hd;have hr:Bv ty A x σ (some fun σ=>Bv ty A y σ k) F e h=X:=hr;refine wp_seq (EK hT hF hm x hr hn hd.1 _ _ _ hS HW HA _ {go:=fun k' hk σ' e' h' ψ a' w' g hx=>?_,norm:=fun h=>(by cases h),exit:=p.exit,ret:=p.ret});cases hk;exact EK hT hF hm y hx hn hd.2 _ _ _ g.sg g.rel g.ar _ {go:=fun k' hk σ2 e2 h2 χ a2 w2 g2 hx=>p.go k' hk σ2 e2 h2 χ a2 w2 (g.trans g2) hx,norm:=fun h e2 h2 χ a2 w2 g2 hx=>p.norm h e2 h2 χ a2 w2 (g.trans g2) hx,exit:=fun id e2 h2 χ a2 w2 g2 hx=>p.exit id e2 h2 χ a2 w2 (g.trans g2) hx,ret:=fun e2 h2 χ a2 w2 g2 hx=>p.ret e2 h2 χ a2 w2 (g.trans g2) hx}
 |.cond c x y,σ,k,e,h,X,hr,hn,hd=>by
  intro φ w a hS HW HA Q p;have hd:(Cb N x && Cb N y)=true:=hd;rw[yA]at hd;unfold Bv at hr;cases hc:cO ⟨A,σ⟩ c with
  |none=>rw[hc]at hr;exact absurd hr.symm hn
  |some cc=>
   rw[hc]at hr;simp only at hr;have AEp:=HA.ev (Fk hc e);have two:∀ {kx:Option (Sg->C)} {Y:Go.Proofs.YtbjadbhkogcfeaaGreat.X},IR cc (Bv ty A x σ kx) (Bv ty A y σ kx) F e h=Y->Y≠.no->Post ty A N F φ h w kx Y Q->(Code.cond c x y).wp P Q a w:=by
    intro kx Y hr hn p;unfold IR at hr;cases hv:cc e with
    |bool t=>
     rw[hv]at hr AEp;have hev:=AEp.AE3;cases t with
     |true=>exact wp_cond_true hev (EK hT hF hm x hr hn hd.1 _ _ _ hS HW HA _ p)
     |false=>exact wp_cond_false hev (EK hT hF hm y hr hn hd.2 _ _ _ hS HW HA _ p)
    |_=>rw[hv]at hr;exact absurd hr.symm hn
   cases k with
   |none=>exact two hr hn p
   |some k'=>
    simp only at hr;cases hf:(Kv x && Kv y)with
    |false=>rw[hf]at hr;exact two hr hn p
    |true=>
     rw[hf]at hr;obtain⟨X1,h1,h2,p1⟩:=RP p hr hn;exact two h1 h2 p1
 |.block id x,σ,k,e,h,X,hr,hn,hd=>by
  intro φ w a hS HW HA Q p;have hd:Cb N x=true:=hd;have one:∀ {Y:Go.Proofs.YtbjadbhkogcfeaaGreat.X},Ab id (Bv ty A x [] none) F e h=Y->Y≠.no->Post ty A N F φ h w none Y Q->(Code.block id x).wp P Q a w:=by
   intro Y hr hn p;obtain⟨X1,h1,h2,p1⟩:=SH p hr hn;exact wp_block (EK hT hF hm x h1 h2 hd _ _ _ (.nil A) HW (HA.nil hS) _ p1)
  unfold Bv at hr;cases k with
  |none=>exact one hr hn p
  |some k'=>
   simp only at hr;obtain⟨X1,h1,h2,p1⟩:=RP p hr hn;exact one h1 h2 p1
 |.loop x,σ,k,e,h,X,hr,hn,hd=>by
  intro φ w a hS HW HA Q p;have hd:Cb N x=true:=hd;have plain:iter (Bv ty A x [] none) rounds F e h=X->(Code.loop x).wp P Q a w:=by
   intro hr;refine wp_loop_rounds rounds (VB hm (fun h1 h2 φ w a HW HA Q p=>EK hT hF hm x h1 h2 hd _ _ _ (.nil A) HW HA _ p) rounds hr hn _ _ _ HW (HA.nil hS) _ {go:=fun _ h=>(by cases h),norm:=fun _ e2 h2 χ a2 w2 g2 hx=>?_,exit:=p.exit,ret:=p.ret})
   exfalso
   subst hx;have:∀ (n:Nat) (e:Env) (h:Hp),iter (Bv ty A x [] none) n F e h≠.norm e2 h2:=by
    intro n
    induction n with
    |zero=>intro e h hq;cases hq
    |succ n ih=>
     intro e h hq;unfold iter at hq;cases hb:Bv ty A x [] none F e h with
     |norm e1 h1=>rw[hb]at hq;exact ih e1 h1 hq
     |no=>rw[hb]at hq;cases hq
     |exit _ _ _=>rw[hb]at hq;cases hq
     |ret _ _=>rw[hb]at hq;cases hq
   exact this _ e h hr
  unfold Bv at hr;cases hw:WD A x with
  |none=>rw[hw]at hr;exact plain hr
  |some kw=>
   rw[hw]at hr;have hr:I6 kw (Bv ty A x [] none) F e h=X:=hr;obtain⟨id,o1,o2,r2,W⟩:=Rv hw;unfold I6 at hr;split at hr
   case h_2=>exact absurd hr.symm hn
   rename_i ad hit;split at hr
   case h_2=>exact plain hr
   rename_i m since seen last AFy;split at hr
   case h_2=>exact absurd hr.symm hn
   split at hr
   case h_2=>exact absurd hr.symm hn
   rename_i es c AFz;split at hr
   case h_2=>exact plain hr
   have hdd:Cb N (.region id #[o1,o2] false)=true/\Cb N (.seq (.cond (.tmp kw.more) .skip (.exit kw.out)) r2)=true:=by
    rw[W.code]at hd;have hd:(Cb N (.region id #[o1,o2] false) && Cb N (.seq (.cond (.tmp kw.more) .skip (.exit kw.out)) r2))=true:=hd;exact Bool.and_eq_true_iff.1 hd
   have hnm:kw.nx<N/\kw.more<N:=by
    have:=hdd.1;unfold Cb at this;simp only[List.all_cons,List.all_nil,Bool.and_true,yA,W.AGP,W.AGh]at this;exact⟨Bb.1 this.1,Bb.1 this.2⟩
   have AKm:ABz (Code.seq (.cond (.tmp kw.more) .skip (.exit kw.out)) r2)<ABz x:=by
    rw[W.code];simp;omega
   obtain⟨hoff,hr⟩:=un hr hn;obtain⟨AEK,hr⟩:=un hr hn;exact SU W hnm (fun h1 h2 φ w a HW HA Q p=>EK hT hF hm (.seq (.cond (.tmp kw.more) .skip (.exit kw.out)) r2) h1 h2 hdd.2 _ _ _ (.nil A) HW HA _ p) hit hoff (Au.1 AEK) hr hn HW (HA.nil hS) p.exit
 |.exit id,σ,k,e,h,X,hr,hn,hd=>by
  intro φ w a hS HW HA Q p;have hr:(.exit id e h:Go.Proofs.YtbjadbhkogcfeaaGreat.X)=X:=hr;exact wp_exit (p.exit id e h φ a w ⟨.nil A,HW,HA.nil hS,.refl _ _ _⟩ hr.symm)
 |.ret,σ,k,e,h,X,hr,hn,hd=>by
  intro φ w a hS HW HA Q p;have hr:(.ret e h:Go.Proofs.YtbjadbhkogcfeaaGreat.X)=X:=hr;exact wp_ret (p.ret e h φ a w ⟨.nil A,HW,HA.nil hS,.refl _ _ _⟩ hr.symm)
 |.rangeFunc _ _ _ _,_,_,_,_,X,hr,hn,_=>by exact absurd hr.symm hn
 |.scope x,σ,k,e,h,X,hr,hn,hd=>by
  intro φ w a hS HW HA Q p;have hd:Cb N x=true:=hd;have hr:Bv ty A x σ k F e h=X:=hr;exact wp_scope_straight (EK hT hF hm x hr hn hd _ _ _ hS HW HA _ {go:=p.go,norm:=p.norm,exit:=p.exit,ret:=p.ret})
 |.label _,σ,k,e,h,X,hr,hn,hd=>by
  intro φ w a hS HW HA Q p;exact wp_label (p.then ⟨hS,HW,HA,.refl _ _ _⟩ hr)
 |.goto _,_,_,_,_,X,hr,hn,_=>by exact absurd hr.symm hn
 |.refuse _,_,_,_,_,X,hr,hn,_=>by exact absurd hr.symm hn
termination_by c=>ABz c
decreasing_by
 all_goals simp_wf
 all_goals first|omega|(simp_all;omega)
end
end
noncomputable section
open Go
section
variable {P:yw}{ty:TTy}{A:List Nat}{N:Nat}{φ:Phi}{h h':Hp}{w:yQ}{e:Env}{a:Act}{v:IN}
theorem N8{t:Nat}(h:PD A t=true)(e:Env):AEW A [] e t=some (J t e):=by
 unfold PD at h;rw[ET];show(match memN t A with|true=>none|false=>match yu t 240 with|true=>some (J t e)|false=>none)=_;cases hm:memN t A with
 |true=>rw[hm]at h;cases h
 |false=>
  rw[hm]at h;have h:yu t 240=true:=h;simp only[h]
def RJ(tmps:Array IN):ACJ->Sem IN
 |.tmp t=>pure (tmps.getD t undef)
 |.cell a t=>do loadVar t (<- asAddr (tmps.getD a undef))
theorem TC(fn:Func)(tmps:Array IN):ADD fn tmps=(do let vs <- fn.results.mapM (RJ tmps);pure (if h:vs.size=1 then vs[0]else .tuple vs)):=by
 unfold ADD
 congr 2
theorem YX(f:ACJ->Sem IN)(l:Array ACJ){vs:List IN}(h:(l.toList.mapM f).run P w=.ok vs w):(l.mapM f).run P w=.ok ⟨vs⟩ w:=by
 have:l.mapM f=List.toArray <$> l.toList.mapM f:=by
  conv=>lhs;rw[<- Array.toArray_toList (xs:=l)]
  rw[List.mapM_toArray]
 rw[this,map_eq_pure_bind,xh,h,xU,xk]
theorem Gs(hT:DE P ty)(H:AEI ty φ nil h w)(HA:AR N φ (AEW A [] e) a):∀ {l:List ACJ} {rs:List RV} {k:List IN->R},rsC ty A l=some rs->Go.Proofs.YtbjadbhkogcfeaaGreat.results e h k rs=.ok v h'->
  ∃ vs vs',AEV φ vs vs'/\k vs=.ok v h'/\(l.mapM (RJ a.tmps)).run P w=.ok vs' w
 |[],rs,k,hc,hr=>by
  cases hc;exact⟨[],[],.nil,hr,by simp⟩
 |.tmp t::l,rs,k,hc,hr=>by
  unfold rsC at hc;split at hc
  ·cases hc
  rename_i ht;split at hc
  case h_2=>cases hc
  rename_i r hrs;cases hc;unfold Go.Proofs.YtbjadbhkogcfeaaGreat.results at hr;have hr:AEN (J t e) (fun v=>Go.Proofs.YtbjadbhkogcfeaaGreat.results e h (fun vs=>k (v::vs)) r)=.ok v h':=hr;rw[BR]at hr;obtain⟨vs,vs',h1,h2,h3⟩:=Gs hT H HA hrs hr;have h4:=HA.rel t _ (N8 ht e);exact⟨_,_,.cons h4 h1,h2,by simp[AB1,RJ,h3]⟩
 |.cell c t::l,rs,k,hc,hr=>by
  unfold rsC at hc;split at hc
  ·cases hc
  rename_i ht;split at hc
  case h_2=>cases hc
  rename_i ti hti;split at hc
  case h_2=>cases hc
  rename_i r hrs;have T:=hT t ti hti;have h4:=HA.rel c _ (N8 ht e);cases hag:ti.k.agg with
  |true=>
   rw[hag]at hc;cases hc;unfold Go.Proofs.YtbjadbhkogcfeaaGreat.results FJ at hr;simp only at hr;cases AGi:Dt (J c e)with
   |no=>rw[AGi]at hr;cases hr
   |ok ad=>
    rw[AGi]at hr;simp only at hr;cases hl:loadN ti.size ad h with
    |no=>rw[hl]at hr;cases hr
    |ok u h2=>
     rw[hl]at hr;simp only[BR]at hr;rw[Hs AGi]at h4;obtain⟨a',ha',hra⟩:=h4.AFC;obtain⟨_,l',hv,hrun⟩:=Qh (P:=P) H hl hra (fun h=>h);obtain⟨vs,vs',h1,h5,h3⟩:=Gs hT H HA hrs hr;refine⟨_,_,.cons hv h1,h5,?_⟩;have:(RJ a.tmps (.cell c t)).run P w=.ok (.agg l'.toArray) w:=by
      unfold RJ;simp only[ha',asAddr,xh,xk,xU,loadVar,T.agg,hag,if_true,T.size,hrun]
     simp[AB1,this,h3]
  |false=>
   rw[hag]at hc;cases hc;unfold Go.Proofs.YtbjadbhkogcfeaaGreat.results FJ at hr;simp only at hr;cases AGi:Dt (J c e)with
   |no=>rw[AGi]at hr;cases hr
   |ok ad=>
    rw[AGi]at hr;simp only at hr;cases hl:AEC ad h with
    |no=>rw[hl]at hr;cases hr
    |ok u h2=>
     rw[hl]at hr;simp only[BR]at hr;rw[Hs AGi]at h4;obtain⟨a',ha',hra⟩:=h4.AFC;obtain⟨_,v',hcell,hv⟩:=Qg H hl hra (fun h=>h);obtain⟨vs,vs',h1,h5,h3⟩:=Gs hT H HA hrs hr;refine⟨_,_,.cons hv h1,h5,?_⟩;have:(RJ a.tmps (.cell c t)).run P w=.ok v' w:=by
      unfold RJ;simp only[ha',asAddr,xh,xk,xU,loadVar,T.agg,hag,Bool.false_eq_true,if_false,run_load,hcell]
     simp[AB1,this,h3]
theorem Nd(hT:DE P ty)(H:AEI ty φ nil h w)(HA:AR N φ (AEW A [] e) a){fn:Func}{rs:List RV}(hc:rsC ty A fn.results.toList=some rs)(hr:Eg rs e h=.ok v h'):
  h'=h/\∃ v',AEE φ v v'/\(ADD fn a.tmps).run P w=.ok v' w:=by
 unfold Eg at hr;obtain⟨vs,vs',h1,h2,h3⟩:=Gs hT H HA hc hr;have hrun:=YX (P:=P) (w:=w) (RJ a.tmps) fn.results h3;rw[TC];simp only[xh,hrun,xU,xk];unfold JK at h2;split at h2
 ·cases h2
  cases h1 with
  |cons hv ht=>cases ht;exact⟨rfl,_,hv,rfl⟩
 ·rename_i hne
  cases h2;refine⟨rfl,_,.tuple h1,?_⟩;have:vs'.length≠1:=by
   rw[h1.length];intro hl;cases vs with
   |nil=>cases hl
   |cons x l=>
    cases l with
    |nil=>exact hne x rfl
    |cons _ _=>simp at hl
  have hs:¬ (Array.mk vs').size=1:=this;rw[dif_neg hs]
theorem RR:∀ (args:List IN) (e:Env) (i t:Nat),i+args.length<=240->t<240->(AS e i args).get t=if i<=t/\t<i+args.length then args.getD (t - i) AED else e.get t
 |[],e,i,t,_,_=>by
  rw[if_neg (by simp)];rfl
 |v::l,e,i,t,hn,ht=>by
  simp only[xY]at hn;unfold AS;rw[RR l _ (i+1) t (by omega) ht];by_cases h1:i+1<=t/\t<i+1+l.length
  ·rw[if_pos h1,if_pos (by simp only[xY];omega)]
   have:t - i=(t - (i+1))+1:=by omega
   rw[this,List.getD_cons_succ]
  ·rw[if_neg h1,Env.AEQ _ _ _ _ (by omega) ht]
   by_cases h2:t=i
   ·subst h2
    rw[if_pos rfl,if_pos (by simp only[xY];omega)];simp
   ·rw[if_neg h2,if_neg (by simp only[xY];omega)]
set_option maxRecDepth 100000 in
theorem qK{t:Nat}(ht:t<240):e0.get t=AED:=by
 have H:Ll (fun i=>e0.get i=AED) 240:=by
  repeat' (first|exact trivial|refine⟨rfl,?_⟩)
 exact H.at t ht
theorem cd{args args':List IN}(hr:AEV φ args args')(hn:args.length<=240)(n:Nat):
  AR (max args.length n) φ (AEW A [] (AS e0 0 args)) {tmps:=(⟨args'⟩:Array IN)++Array.replicate (n - (⟨args'⟩:Array IN).size) undef,defers:=[]} where
 size:=by
  have:=hr.length;simp only[Array.size_append,Array.size_replicate,ABZ];omega
 defs:=rfl
 rel:=fun t u hu=>by
  rw[ET]at hu;have hu:(match memN t A with|true=>none|false=>match yu t 240 with|true=>some (J t (AS e0 0 args))|false=>none)=some u:=hu;cases hm:memN t A with
  |true=>rw[hm]at hu;cases hu
  |false=>
   rw[hm]at hu;simp only at hu;cases hb:yu t 240 with
   |false=>rw[hb]at hu;cases hu
   |true=>
    rw[hb]at hu;cases hu;have ht:=Bb.1 hb;rw[C9 t ht,RR args e0 0 t (by omega) ht,qK ht];have hlen:=hr.length;simp only[Array.getD_eq_getD_getElem?];by_cases h1:t<args.length
    ·rw[if_pos (by omega),Nat.sub_zero,Array.getElem?_append_left (by simp only[ABZ];omega)]
     obtain⟨v',h2,h3⟩:=hr.get t args[t] (sh h1);have:args.getD t AED=args[t]:=by rw[xV,sh h1];rfl
     rw[this];have e2:(⟨args'⟩:Array IN)[t]? =some v':=by simpa using h2
     rw[e2];exact h3
    ·rw[if_neg (by omega),Array.getElem?_append_right (by simp only[ABZ];omega),Array.getElem?_replicate]
     split<;>exact .tuple .nil
theorem X5{l:List ACJ}{rs:List RV}(hc:rsC ty A l=some rs):TW rs=none:=by
 cases l with
 |nil=>cases hc;rfl
 |cons x l=>
  cases x with
  |tmp t=>
   unfold rsC at hc;split at hc
   ·cases hc
   ·split at hc
    ·cases hc;rfl
    ·cases hc
  |cell c t=>
   unfold rsC at hc;split at hc
   ·cases hc
   ·split at hc
    ·split at hc
     ·split at hc
      ·cases hc;rfl
      ·cases hc;rfl
     ·cases hc
    ·cases hc
def sx(P:yw)(ty:TTy)(g:Nat)(b:Body):Prop:=∃ fn A,P.funcs[g]? =some fn/\fn.name≠"runtime.NumGoroutine" /\A6 ty A fn=some b
def An:Body:=⟨[],cNo⟩
theorem Dd{n m:Nat}(h:n<=m):∀ {c:Code},Cb n c=true->Cb m c=true
 |.region _ ops _,hd=>by
  unfold Cb at hd ⊢;rw[AAZ]at hd ⊢;intro o ho;have:=hd o ho;split at this
  ·have:=Bb.1 this
   exact Bb.2 (by omega)
  ·rfl
 |.seq a b,hd=>by
  have hd:(Cb n a && Cb n b)=true:=hd;rw[yA]at hd;show(Cb m a && Cb m b)=true;rw[Dd h hd.1,Dd h hd.2];rfl
 |.cond _ a b,hd=>by
  have hd:(Cb n a && Cb n b)=true:=hd;rw[yA]at hd;show(Cb m a && Cb m b)=true;rw[Dd h hd.1,Dd h hd.2];rfl
 |.block _ a,hd=>Dd (c:=a) h hd
 |.loop a,hd=>Dd (c:=a) h hd
 |.skip,_=>rfl
 |.exit _,_=>rfl
 |.ret,_=>rfl
 |.rangeFunc _ _ _ _,_=>rfl
 |.scope a,hd=>Dd (c:=a) h hd
 |.label _,_=>rfl
 |.goto _,_=>rfl
 |.refuse _,_=>rfl
theorem ZZ(hT:DE P ty){F:AEA}(hF:DX P ty F)(hm:P.follows .mixedOrders=true){g:Nat}{b:Body}(hb:sx P ty g b){args:List IN}(hr:enter F b args h=.ok v h'):
  (∃ fn,P.funcs[g]? =some fn/\fn.name≠"runtime.NumGoroutine" /\fn.body.isNone=false)/\
  ∀ φ w args',AEV φ args args'->AEI ty φ nil h w->
   Calls P g ⟨args'⟩ w fun en w'=>∃ v' ψ,en=.returned v'/\AEE ψ v v'/\AEI ty ψ nil h' w'/\Evo φ h w ψ h' w':=by
 obtain⟨fn,A,hfn,hname,AFL⟩:=hb;unfold A6 at AFL;cases hc:fn.body with
 |none=>rw[hc]at AFL;cases AFL
 |some c=>
  rw[hc]at AFL;simp only at AFL;cases hrs:rsC ty A fn.results.toList with
  |none=>rw[hrs]at AFL;cases AFL
  |some rs=>
   rw[hrs]at AFL;simp only at AFL;cases hd:Cb fn.ntmps c with
   |false=>rw[hd]at AFL;cases AFL
   |true=>
    rw[hd]at AFL;cases AFL;refine⟨⟨fn,hfn,hname,by rw[hc];rfl⟩,fun φ w args' AEp HW=>?_⟩;unfold enter at hr
    dsimp only at hr
    rw[X5 hrs]at hr;obtain⟨hlen,hr⟩:=Bx hr;have hlen:args.length<=240:=by rw[<- Bm];exact Au.1 hlen
    have hAR:=cd (A:=A) AEp hlen fn.ntmps;refine calls_of_wp hfn hc ?_;have hn:Bv ty A c [] none F (AS e0 0 args) h≠.no:=by
     intro hx;rw[hx]at hr;cases hr
    refine EK hT hF hm c (e:=AS e0 0 args) (h:=h) rfl hn (Dd (Nat.le_max_right _ _) hd) _ _ _ (.nil A) HW hAR _ {go:=fun _ h=>(by cases h),norm:=fun _ e1 h1 ψ a1 w1 g1 hx=>?_,exit:=fun id e1 h1 ψ a1 w1 g1 hx=>?_,ret:=fun e1 h1 ψ a1 w1 g1 hx=>?_}
    ·rw[hx]at hr
     obtain⟨rfl,v',hv,hrun⟩:=Nd hT g1.rel g1.ar hrs hr;exact⟨g1.ar.defs,v',hrun,v',ψ,rfl,hv,g1.rel,g1.evo⟩
    ·rw[hx]at hr;cases hr
    ·rw[hx]at hr
     obtain⟨rfl,v',hv,hrun⟩:=Nd hT g1.rel g1.ar hrs hr;exact⟨g1.ar.defs,v',hrun,v',ψ,rfl,hv,g1.rel,g1.evo⟩
def Lm(P:yw)(ty:TTy)(g:Nat)(b:Body):Prop:=∀ (F:AEA) (args:List IN) (h:Hp) (v:IN) (h':Hp),DX P ty F->enter F b args h=.ok v h'->
 (∃ fn,P.funcs[g]? =some fn/\fn.name≠"runtime.NumGoroutine" /\fn.body.isNone=false)/\
 ∀ φ w args',AEV φ args args'->AEI ty φ nil h w->
  Calls P g ⟨args'⟩ w fun en w'=>∃ v' ψ,en=.returned v'/\AEE ψ v v'/\AEI ty ψ nil h' w'/\Evo φ h w ψ h' w'
def BU(P:yw)(ty:TTy)(g:Nat)(b:Body):Prop:=sx P ty g b\/b=An\/Lm P ty g b
def FT.All(p:Nat->Body->Prop):FT->(Nat->Nat)->Prop
 |.mt,_=>True
 |.nd b l r,ix=>p (ix 0) b/\FT.All p l (fun k=>ix (2*k+1))/\FT.All p r (fun k=>ix (2*k+2))
theorem FT.All.get{p:Nat->Body->Prop}:∀ {t:FT} {ix:Nat->Nat},FT.All p t ix->∀ {i:Nat} {b:Body},t.get i=some b->p (ix i) b
 |.mt,ix,_,i,b,h=>by cases h
 |.nd c l r,ix,⟨h0,hl,hr⟩,0,b,h=>by cases h;exact h0
 |.nd c l r,ix,⟨h0,hl,hr⟩,k+1,b,h=>by
  unfold FT.get at h;have e1:Nat.mod k 2=k % 2:=rfl;have e2:Nat.div k 2=k / 2:=rfl;rw[e1,e2]at h;rcases Nat.mod_two_eq_zero_or_one k with hk|hk
  ·rw[hk]at h
   have:=hl.get (i:=k/2) h;have e:2*(k/2)+1=k+1:=by omega
   simp only[e]at this;exact this
  ·rw[hk]at h
   have:=hr.get (i:=k/2) h;have e:2*(k/2)+2=k+1:=by omega
   simp only[e]at this;exact this
theorem I8(hT:DE P ty)(hm:P.follows .mixedOrders=true){bs:FT}(hb:FT.All (BU P ty) bs id):∀ n,DX P ty (call bs n)
 |0=>fun g args h v h' hr=>by cases hr
 |n+1=>fun g args h v h' hr=>by
  have hr:(match bs.get g with|some b=>enter (call bs n) b args h|none=>.no)=.ok v h':=hr;cases hg:bs.get g with
  |none=>rw[hg]at hr;cases hr
  |some b=>
   rw[hg]at hr;rcases hb.get hg with hok|rfl|hdo
   ·exact ZZ hT (I8 hT hm hb n) hm hok hr
   ·exfalso
    have hr:(bif xd (BF args) 240 then A5 [] .no else .no)=.ok v h':=hr;obtain⟨_,hr⟩:=Bx hr;cases hr
   ·exact hdo _ args h v h' (I8 hT hm hb n) hr
end
end
noncomputable section
open Go Go.RowKit Go.WideShapes Go.ChangeShapes
def aU:R->Bool
 |.ok (.bool b) _=>b
 |_=>false
def rZ:Phi:=fun _=>none
theorem OI(ty:TTy)(w:yQ):AEI ty rZ nil IW w where
 dom:=fun i p h=>by cases h
 inj:=fun i j p q h=>by cases h
 row:=fun i p h=>by cases h
 fresh:=fun i _=>KJ 9 i
 kind:=fun i p c s e h=>by cases h
 inp:=fun i p h=>by cases h
theorem bT{P:yw}{ty:TTy}{bs:FT}(hC:∀ n,DX P ty (call bs n)){n f:Nat}(h:aU (call bs n f [] IW)=true)(w:yQ):
  Calls P f #[] w fun e w'=>e=.returned (.bool true)/\Below w.heap.size w w':=by
 cases hr:call bs n f [] IW with
 |no=>rw[hr]at h;cases h
 |ok v h'=>
  rw[hr]at h;obtain⟨_,hc⟩:=hC n f [] IW v h' hr;refine(hc rZ w [] .nil (OI ty w)).mono fun e w' ⟨v',ψ,he,hv,_,ev⟩=>?_
  cases v with
  |bool b=>
   have h:b=true:=h;subst h;have:=hv.AE3;subst this;exact⟨he,⟨ev.os,ev.tape,ev.output,ev.size,fun k hk=>ev.frame k hk fun i p hp=>by cases hp⟩⟩
  |_=>cases h
section
variable {H:Type}{enc:TypeId×IN->H}{P:yw}
theorem NO{f:Func}{s:ChangeSpec}{apart fresh handsOn again:Bool}{W W':yQ}{args:Array IN}{v:IN}{ds gs:List (DataW H)}{before pa pv:List MemPlace}
  (hW:DataW.Whole enc P f.params.toList s.vars apart W args.toList ds gs before)
  (hres:∀ (b:Nat) (sp:Nat->Bool) (hd:Bool),ADN enc P W' b sp hd f.resultTypes.toList (v.resultList f.resultTypes.size) (s.fn H (ds++gs)).results [])
  (hargs:∀ sp:Nat->Bool,(∀ p∈before,sp p.block=true)->ADN enc P W' 0 sp true f.params.toList args.toList (s.fn H (ds++gs)).args pa)
  (hvars:∀ sp:Nat->Bool,(∀ p∈before,sp p.block=true)->DataW.TrodVars enc P W' sp s.vars (s.fn H (ds++gs)).vars pv)
  (hps:before=pa++pv)(hb:Below W.heap.size W W')
  (hok:∀ (j:Nat) (t:TypeId) (r:IN),f.resultTypes[j]? =some t->(v.resultList f.resultTypes.size)[j]? =some r->AAN P W' .any 0 t r):
  s.post enc P f apart fresh handsOn again W args v W':=by
 have hlt:∀ p∈before,p.block<W.heap.size:=fun p hp=>hW.lt p hp
 have hold:∀ p∈before,(fun b=>decide (b<W.heap.size)) p.block=true:=fun p hp=>by simpa using hlt p hp
 refine⟨ds,gs,before,[],pa,pv,hW,hres _ _ _,hargs _ hold,hvars _ hold,World.keptBut_mono (fun p hp=>⟨hp,?_⟩) (hb.frame (· ∈before)),fun _=>?_⟩
 ·rw[hps,List.mem_append]at hp
  exact Or.inr hp
 ·obtain⟨_,_,_,_,_,hz,hn⟩:=hW
  refine⟨hok,_,_,([]++pa)++pv,⟨[]++pa,pv,trodAll_append (hargs _ (fun _ _=>rfl)) (hres _ _ _),hvars _ (fun _ _=>rfl),rfl,?_,?_⟩,?_⟩
  ·intro b off hp
   have hin:MemPlace.cell b off∈before:=by rw[hps];simpa using hp
   rw[hb.frozen (hlt _ hin)];exact hz b off hin
  ·intro ha
   have:=hn ha;rw[hps]at this
   simpa using this
  ·intro p hp _
   rw[hps]
   simpa using hp
end
end
noncomputable section
open Go
namespace VT
def has:VT->Nat->Prop
 |.mt,_=>False
 |.nd _ _ _,0=>True
 |.nd _ l r,k+1=>if k % 2=0 then l.has (k/2)else r.has (k/2)
theorem AEL(v:IN)(l r:VT)(k:Nat):(VT.nd v l r).has (k+1)=if k % 2=0 then l.has (k/2)else r.has (k/2):=by rw[has]
theorem Fc:∀ (t:VT) (i:Nat) (x:IN),(∀ j,j<i->t.has j)->∃ t',t.set i x=some t'
 |.mt,0,x,_=>⟨_,rfl⟩
 |.mt,i+1,x,h=>(h 0 (AA4 i)).elim
 |.nd v l r,0,x,_=>⟨_,rfl⟩
 |.nd v l r,k+1,x,h=>by
  rw[AEf];by_cases hk:k % 2=0
  ·rw[if_pos hk]
   obtain⟨l',hl⟩:=Fc l (k/2) x fun j hj=>by
    have:=h (2*j+1) (by omega);rw[AEL,if_pos (by omega)]at this;have e:2*j/2=j:=by omega
    rwa [e]at this
   rw[hl];exact⟨_,rfl⟩
  ·rw[if_neg hk]
   obtain⟨r',hr⟩:=Fc r (k/2) x fun j hj=>by
    have:=h (2*j+1+1) (by omega);rw[AEL,if_neg (by omega)]at this;have e:(2*j+1)/2=j:=by omega
    rwa [e]at this
   rw[hr];exact⟨_,rfl⟩
theorem Gu:∀ (t:VT) (i:Nat) (x:IN) (t':VT),t.set i x=some t'->∀ j,(j=i\/t.has j)->t'.has j
 |.mt,0,x,t',h,j,hj=>by
  obtain rfl:VT.nd x .mt .mt=t':=Option.some.inj h;rcases hj with rfl|hj
  ·exact trivial
  ·exact hj.elim
 |.mt,i+1,x,t',h,j,hj=>by cases h
 |.nd v l r,0,x,t',h,j,hj=>by
  obtain rfl:VT.nd x l r=t':=Option.some.inj h;cases j with
  |zero=>exact trivial
  |succ j=>
   rcases hj with hj|hj
   ·cases hj
   ·rw[AEL]at hj ⊢;exact hj
 |.nd v l r,i+1,x,t',h,j,hj=>by
  rw[AEf]at h;split at h
  ·rename_i h0
   cases hs:l.set (i/2) x with
   |none=>rw[hs]at h;cases h
   |some l'=>
    rw[hs]at h;obtain rfl:VT.nd v l' r=t':=Option.some.inj h;cases j with
    |zero=>exact trivial
    |succ j=>
     rw[AEL];split
     ·rename_i h1
      refine Gu l _ x l' hs _ ?_;rcases hj with hj|hj
      ·left;have:j=i:=by omega
       rw[this]
      ·right;rw[AEL,if_pos h1]at hj;exact hj
     ·rename_i h1
      rcases hj with hj|hj
      ·have:j=i:=by omega
       exact absurd (this ▸ h0) h1
      ·rw[AEL,if_neg h1]at hj;exact hj
  ·rename_i h0
   cases hs:r.set (i/2) x with
   |none=>rw[hs]at h;cases h
   |some r'=>
    rw[hs]at h;obtain rfl:VT.nd v l r'=t':=Option.some.inj h;cases j with
    |zero=>exact trivial
    |succ j=>
     rw[AEL];split
     ·rename_i h1
      rcases hj with hj|hj
      ·have:j=i:=by omega
       exact absurd (this ▸ h1) h0
      ·rw[AEL,if_pos h1]at hj;exact hj
     ·rename_i h1
      refine Gu r _ x r' hs _ ?_;rcases hj with hj|hj
      ·left;have:j=i:=by omega
       rw[this]
      ·right;rw[AEL,if_neg h1]at hj;exact hj
def lay(t:VT)(i:Nat)(x:IN):VT:=(t.set i x).getD t
theorem AEr{t:VT}{i:Nat}{x:IN}(h:∀ j,j<i->t.has j):t.set i x=some (t.lay i x):=by
 obtain⟨t',ht⟩:=Fc t i x h;unfold lay;rw[ht];rfl
theorem AE7{t:VT}{i:Nat}{x:IN}(h:∀ j,j<i->t.has j)(j:Nat):(t.lay i x).get j=if j=i then x else t.get j:=AEQ _ _ _ _ (AEr h) j
theorem AFE{t:VT}{i:Nat}{x:IN}(h:∀ j,j<i->t.has j)(j:Nat)(hj:j=i\/t.has j):(t.lay i x).has j:=Gu _ _ _ _ (AEr h) j hj
end VT
namespace BT
theorem AEL(v:Blk)(l r:BT)(k:Nat):(BT.nd v l r).has (k+1)=if k % 2=0 then l.has (k/2)else r.has (k/2):=by rw[has]
theorem Fc:∀ (t:BT) (i:Nat) (x:Blk),(∀ j,j<i->t.has j)->∃ t',t.set i x=some t'
 |.mt,0,x,_=>⟨_,rfl⟩
 |.mt,i+1,x,h=>(h 0 (AA4 i)).elim
 |.nd v l r,0,x,_=>⟨_,rfl⟩
 |.nd v l r,k+1,x,h=>by
  rw[AEf];by_cases hk:k % 2=0
  ·rw[if_pos hk]
   obtain⟨l',hl⟩:=Fc l (k/2) x fun j hj=>by
    have:=h (2*j+1) (by omega);rw[AEL,if_pos (by omega)]at this;have e:2*j/2=j:=by omega
    rwa [e]at this
   rw[hl];exact⟨_,rfl⟩
  ·rw[if_neg hk]
   obtain⟨r',hr⟩:=Fc r (k/2) x fun j hj=>by
    have:=h (2*j+1+1) (by omega);rw[AEL,if_neg (by omega)]at this;have e:(2*j+1)/2=j:=by omega
    rwa [e]at this
   rw[hr];exact⟨_,rfl⟩
theorem Gu:∀ (t:BT) (i:Nat) (x:Blk) (t':BT),t.set i x=some t'->∀ j,(j=i\/t.has j)->t'.has j
 |.mt,0,x,t',h,j,hj=>by
  obtain rfl:BT.nd x .mt .mt=t':=Option.some.inj h;rcases hj with rfl|hj
  ·exact trivial
  ·exact hj.elim
 |.mt,i+1,x,t',h,j,hj=>by cases h
 |.nd v l r,0,x,t',h,j,hj=>by
  obtain rfl:BT.nd x l r=t':=Option.some.inj h;cases j with
  |zero=>exact trivial
  |succ j=>
   rcases hj with hj|hj
   ·cases hj
   ·rw[AEL]at hj ⊢;exact hj
 |.nd v l r,i+1,x,t',h,j,hj=>by
  rw[AEf]at h;split at h
  ·rename_i h0
   cases hs:l.set (i/2) x with
   |none=>rw[hs]at h;cases h
   |some l'=>
    rw[hs]at h;obtain rfl:BT.nd v l' r=t':=Option.some.inj h;cases j with
    |zero=>exact trivial
    |succ j=>
     rw[AEL];split
     ·rename_i h1
      refine Gu l _ x l' hs _ ?_;rcases hj with hj|hj
      ·left;have:j=i:=by omega
       rw[this]
      ·right;rw[AEL,if_pos h1]at hj;exact hj
     ·rename_i h1
      rcases hj with hj|hj
      ·have:j=i:=by omega
       exact absurd (this ▸ h0) h1
      ·rw[AEL,if_neg h1]at hj;exact hj
  ·rename_i h0
   cases hs:r.set (i/2) x with
   |none=>rw[hs]at h;cases h
   |some r'=>
    rw[hs]at h;obtain rfl:BT.nd v l r'=t':=Option.some.inj h;cases j with
    |zero=>exact trivial
    |succ j=>
     rw[AEL];split
     ·rename_i h1
      rcases hj with hj|hj
      ·have:j=i:=by omega
       exact absurd (this ▸ h1) h0
      ·rw[AEL,if_pos h1]at hj;exact hj
     ·rename_i h1
      refine Gu r _ x r' hs _ ?_;rcases hj with hj|hj
      ·left;have:j=i:=by omega
       rw[this]
      ·right;rw[AEL,if_neg h1]at hj;exact hj
def lay(t:BT)(i:Nat)(x:Blk):BT:=(t.set i x).getD t
theorem AEr{t:BT}{i:Nat}{x:Blk}(h:∀ j,j<i->t.has j):t.set i x=some (t.lay i x):=by
 obtain⟨t',ht⟩:=Fc t i x h;unfold lay;rw[ht];rfl
theorem AE7{t:BT}{i:Nat}{x:Blk}(h:∀ j,j<i->t.has j)(j:Nat):(t.lay i x).get j=if j=i then x else t.get j:=AEQ _ _ _ _ (AEr h) j
theorem AFE{t:BT}{i:Nat}{x:Blk}(h:∀ j,j<i->t.has j)(j:Nat)(hj:j=i\/t.has j):(t.lay i x).has j:=Gu _ _ _ _ (AEr h) j hj
end BT
end
noncomputable section
open Go
section
variable {F:AEA}{e:Env}{h:Hp}{k a b:C}{f:OpF}{x y:O}
def opX(i:Nat)(r:R)(k:C)(F:AEA)(e:Env):X:=match r with
 |.ok v h=>k F (Env.set i v e) h
 |.no=>.no
def doX(r:R)(k:C)(F:AEA)(e:Env):X:=match r with
 |.ok _ h=>k F e h
 |.no=>.no
def X6(x:X)(b:C)(F:AEA):X:=match x with
 |.norm e h=>b F e h
 |x=>x
def J5(id:Nat)(x:X):X:=match x with
 |.exit i e h=>bif xr i id then .norm e h else .exit i e h
 |x=>x
def Ps(v:IN)(a b:C)(F:AEA)(e:Env)(h:Hp):X:=match v with
 |.bool c=>(bif c then a else b) F e h
 |_=>.no
def Vi(i:Nat)(k:C):C:=fun F e h=>k F (Env.set i AED e) h
def HQ(v:IN)(want:Bool)(a b:C)(F:AEA)(e:Env)(h:Hp):X:=match v with
 |.bool c=>(bif want == c then a else b) F e h
 |.tuple _=>b F e h
 |_=>.no
theorem Gm{i:Nat}{v:IN}:opX i (.ok v h) k F e=k F (Env.set i v e) h:=rfl
theorem ZQ{v:IN}:doX (.ok v h) k F e=k F e h:=rfl
theorem BA:X6 (.norm e h) b F=b F e h:=rfl
theorem C8:X6 (.ret e h) b F=.ret e h:=rfl
theorem OD{i:Nat}:X6 (.exit i e h) b F=.exit i e h:=rfl
theorem Ca{i:Nat}:J5 i (.norm e h)=.norm e h:=rfl
theorem CM{i:Nat}:J5 i (.ret e h)=.ret e h:=rfl
theorem A7{i:Nat}:J5 i (.exit i e h)=.norm e h:=by
 show(bif xr i i then _ else _)=_;rw[zU];rfl
theorem Ig:Ps (.bool true) a b F e h=a F e h:=rfl
theorem HL:Ps (.bool false) a b F e h=b F e h:=rfl
theorem Np:HQ (.bool true) true a b F e h=a F e h:=rfl
theorem Nn:HQ (.bool true) false a b F e h=b F e h:=rfl
theorem Nm:HQ (.bool false) true a b F e h=b F e h:=rfl
theorem Nl:HQ (.bool false) false a b F e h=a F e h:=rfl
theorem Kw{w:Bool}:HQ AED w a b F e h=b F e h:=rfl
theorem RS{i:Nat}:Vi i k F e h=k F (Env.set i AED e) h:=rfl
theorem oC{i:Nat}(hi:i<240):SB (FD i) f k F e h=opX i (f F e h) k F e:=by
 unfold SB opX;cases f F e h with
 |ok v h=>exact D0 i hi _ v e
 |no=>rfl
theorem Yp:cDo f k F e h=doX (f F e h) k F e:=by
 unfold cDo doX;cases f F e h<;>rfl
theorem uq{g:O}{w:Bool}{i:Nat}(hi:i<240):cG g w (FD i) f k F e h=HQ (g e) w (SB (FD i) f k) (Vi i k) F e h:=by
 unfold cG HQ Vi;cases g e with
 |bool c=>
  simp only;cases w == c
  ·exact D0 i hi _ _ e
  ·rfl
 |tuple l=>exact D0 i hi _ _ e
 |_=>rfl
theorem BJ:BI a b F e h=X6 (a F e h) b F:=by
 unfold BI X6;cases a F e h<;>rfl
theorem Ay{i:Nat}:Ab i a F e h=J5 i (a F e h):=by
 unfold Ab J5;cases a F e h<;>rfl
theorem HJ:IR x a b F e h=Ps (x e) a b F e h:=by
 unfold IR Ps;cases x e with
 |bool c=>cases c<;>rfl
 |_=>rfl
theorem Lv:Aw F e h=.norm e h:=rfl
theorem Tt:Aq F e h=.ret e h:=rfl
theorem Pp{i:Nat}:B7 i F e h=.exit i e h:=rfl
theorem AG{i j:Nat}{v:IN}(hi:i<240)(hj:j<240):J j (Env.set i v e)=if j=i then v else J j e:=by
 rw[C9 j hj,Env.AEQ _ _ _ _ hi hj,C9 j hj]
theorem HY{v:IN}:kV v e=v:=rfl
theorem A2:vals e []=[]:=rfl
theorem AV{l:List O}:vals e (x::l)=x e::vals e l:=rfl
theorem K9{i:Nat}:AS e i []=e:=rfl
theorem Jm{i:Nat}{v:IN}{l:List IN}:AS e i (v::l)=AS (Env.set i v e) (xW i) l:=rfl
theorem Dz:AQ x F e h=.ok (x e) h:=E4 _ _
theorem Gc{i:Nat}(hi:i<240):G i f k F e h=opX i (f F e h) k F e:=oC hi
theorem SK{a:Nat}{w:Bool}{i:Nat}(hi:i<240):Ad a w i f k F e h=HQ (J a e) w (G i f k) (Vi i k) F e h:=uq hi
theorem OT{i:Nat}:Bj i a b F e h=Ps (J i e) a b F e h:=HJ
theorem Gl{i:Nat}:Aj i F e h=.ok (J i e) h:=Dz
theorem Es{j:xy}{n:Int}:Ct j (.int j n)=.ok n:=by cases j<;>rfl
theorem iG{j:xy}{n:Nat}:GR j (.int j (.ofNat n))=.ok n:=by cases j<;>rfl
theorem H9{j:xy}{n:Nat}:GR j (.int j (n:Int))=.ok n:=iG
theorem DH{j:xy}{n:Nat}:DZ (.int j (n:Int))=.ok n:=rfl
theorem FC{c:Bool}:okB c h=.ok (.bool c) h:=by cases c<;>rfl
theorem Gf(a b:Int):iGt a b=decide (b<a):=DC b a
theorem Om(a b:Int):iLe a b=decide (a<=b):=by
 show(!iLt b a)=_;rw[DC,<- decide_not]
 congr 1;simp
theorem Ol(a b:Int):iGe a b=decide (b<=a):=Om b a
theorem HU(a b:Int):iNe a b= !(a == b):=by
 show(!iEq a b)=_;rw[DY]
def pY(f:Int->Int->Bool)(j:xy)(a b:IN)(h:Hp):R:=eZ f (Ct j a) (Ct j b) h
def GA(f:Int->Int->Int)(j:xy)(a b:IN)(h:Hp):R:=mD f j (Ct j a) (Ct j b) h
theorem AK{f:Int->Int->Bool}{j:xy}:Ai f j x y F e h=pY f j (x e) (y e) h:=rfl
theorem B4{f:Int->Int->Int}{j:xy}:C1 f j x y F e h=GA f j (x e) (y e) h:=rfl
theorem AJ{f:Int->Int->Bool}{j:xy}{m n:Int}:pY f j (.int j m) (.int j n) h=.ok (.bool (f m n)) h:=by
 unfold pY;rw[Es,Es];exact FC
theorem Cm{f:Int->Int->Int}{j:xy}{m n:Int}:GA f j (.int j m) (.int j n) h=.ok (.int j (j.wrap (f m n))) h:=by
 unfold GA;rw[Es,Es];show okI j (Ec j (f m n)) h=_;rw[El,DK]
def Fg(j:xy)(a b:IN)(h:Hp):R:=cZ j (BE j) (Ct j a) (Ct j b) h
theorem BM{j:xy}:CG j (BE j) x y F e h=Fg j (x e) (y e) h:=rfl
theorem cP{j:xy}{n:Nat}(hn:xd n (BE j)=true):j.wrap (n:Int)=n:=by
 rw[<- DK];show AAI (motive:=fun _=>Int) (j.wrap (.ofNat n)) (.ofNat n) (xd n (BE j))=_;rw[hn];rfl
theorem Ep{j:xy}{m n:Int}:Fg j (.int j m) (.int j n) h=.ok (.int j (j.wrap (m+n))) h:=by
 unfold Fg;rw[Es,Es];cases m with
 |negSucc m=>show okI j (Ec j _) h=_;rw[El,DK]
 |ofNat m=>
  cases n with
  |negSucc n=>show okI j (Ec j _) h=_;rw[El,DK]
  |ofNat n=>
   show AAI (motive:=fun _=>R) (okI j (j.wrap (.ofNat m+.ofNat n)) h) (AEU (zH m n) fun n=>.ok (.int j (.ofNat n)) h) (xd (zH m n) (BE j))=_;cases hb:xd (zH m n) (BE j)with
   |false=>simp only;rw[El]
   |true=>
    simp only;rw[Ap];have:=cP hb;have e:(zA m+zA n:Int)=((zH m n:Nat):Int):=by
     show((m:Int)+(n:Int))=((m+n:Nat):Int);omega
    rw[e,this];rfl
def SY(j:xy)(a b:IN)(h:Hp):R:=ZP j (Ct j a) (Ct j b) h
def bL(j:xy)(a b:IN)(h:Hp):R:=bK j (Ct j a) (Ct j b) h
theorem Jc{j:xy}:LH j x y F e h=SY j (x e) (y e) h:=rfl
theorem PA{j:xy}:Qx j x y F e h=bL j (x e) (y e) h:=rfl
theorem LV{j:xy}{m n:Int}(hn:n≠0):SY j (.int j m) (.int j n) h=.ok (.int j (j.wrap (m.tdiv n))) h:=by
 unfold SY;rw[Es,Es];show(bif iEq n 0 then R.no else okI j (Ec j (m.tdiv n)) h)=_;rw[DY,El,DK,beq_false_of_ne hn];rfl
theorem Vb{j:xy}{m n:Int}(hn:n≠0):bL j (.int j m) (.int j n) h=.ok (.int j (m.tmod n)) h:=by
 unfold bL;rw[Es,Es];show(bif iEq n 0 then R.no else okI j (m.tmod n) h)=_;rw[DY,El,beq_false_of_ne hn];rfl
def Yg(f:Nat->Nat->Nat)(j:xy)(a b:IN)(h:Hp):R:=Yf f j (GR j a) (GR j b) h
theorem iT{f:Nat->Nat->Nat}{j:xy}:KZ f j x y F e h=Yg f j (x e) (y e) h:=rfl
theorem To{f:Nat->Nat->Nat}{j:xy}{m n:Nat}(hm:m<=BE j)(hn:n<=BE j):Yg f j (.int j (m:Int)) (.int j (n:Int)) h=.ok (.int j (f m n:Nat)) h:=by
 unfold Yg;rw[H9,H9];show(bif xd m (BE j)then(bif xd n (BE j)then okI j (.ofNat (f m n)) h else R.no)else R.no)=_;rw[Au.2 hm,Au.2 hn,El];rfl
def jj(j:xy)(a b:IN)(h:Hp):R:=bX j (GR j a) (DZ b) h
def bZ(j:xy)(a b:IN)(h:Hp):R:=bY j (GR j a) (DZ b) h
theorem VN{j:xy}:NM j x y F e h=jj j (x e) (y e) h:=rfl
theorem VO{j:xy}:LJ j x y F e h=bZ j (x e) (y e) h:=rfl
theorem jk{j q:xy}{m n:Nat}:jj j (.int j (m:Int)) (.int q (n:Int)) h=.ok (.int j (j.wrap ((m*2 ^ min n j.bits:Nat):Int))) h:=by
 unfold jj;rw[H9,DH];show okI j (Ec j (.ofNat (yl m (Nat.pow 2 (B8 n j.bits))))) h=_;rw[El,DK,BW];rfl
theorem Vh{j q:xy}{m n:Nat}:bZ j (.int j (m:Int)) (.int q (n:Int)) h=.ok (.int j ((m/2 ^ min n j.bits:Nat):Int)) h:=by
 unfold bZ;rw[H9,DH];show okI j (.ofNat (Nat.div m (Nat.pow 2 (B8 n j.bits)))) h=_;rw[El,BW];rfl
def Dr(j:xy)(a:IN)(h:Hp):R:=match XV a with
 |.ok n=>okI j (Ec j n) h
 |.no=>.no
theorem Cd{j:xy}:C7 j x F e h=Dr j (x e) h:=rfl
theorem C5{j q:xy}{n:Int}:Dr j (.int q n) h=.ok (.int j (j.wrap n)) h:=by
 show okI j (Ec j n) h=_;rw[El,DK]
def vP(a:IN)(h:Hp):R:=match a with
 |.bool b=>okB (!b) h
 |_=>.no
theorem BZ:Dv x F e h=vP (x e) h:=rfl
theorem BX{c:Bool}:vP (.bool c) h=.ok (.bool (!c)) h:=FC
def ax(c a b:IN)(h:Hp):R:=ay c a b h
theorem Qw{c:O}:A1 c x y F e h=ax (c e) (x e) (y e) h:=rfl
theorem Mq{v u:IN}:ax (.bool true) v u h=.ok v h:=E4 _ _
theorem K4{v u:IN}:ax (.bool false) v u h=.ok u h:=E4 _ _
theorem BO{g:Nat}{l:List O}:AU g l F e h=F g (vals e l) h:=C2 _ _
theorem Ac{bs:FT}{n f:Nat}{b:Body}(hb:bs.get f=some b){args:List IN}:call bs (xW n) f args h=enter (call bs n) b args h:=by
 show(match bs.get f with|some b=>enter (call bs n) b args h|none=>.no)=_;rw[hb]
theorem AW{rs:List RV}{c:C}{args:List IN}(hl:xd (BF args) 240=true)(hx:TW rs=none:=by rfl):enter F ⟨rs,c⟩ args h=A5 rs (c F (AS e0 0 args) h):=by
 unfold enter;rw[hx];show(bif xd (BF args) 240 then A5 rs (c F (AS e0 0 args) h)else .no)=_;rw[hl];rfl
theorem BG{rs:List RV}:A5 rs (.ret e h)=Eg rs e h:=rfl
theorem D9{rs:List RV}:A5 rs (.norm e h)=Eg rs e h:=rfl
theorem MG{g:O}:Eg [.t g] e h=.ok (g e) h:=by
 show AEN (g e) _=_;rw[BR];rfl
theorem DR{g g':O}:Eg [.t g,.t g'] e h=.ok (.tuple ⟨[g e,g' e]⟩) h:=by
 show AEN (g e) (fun v=>AEN (g' e) _)=_;rw[BR,BR];rfl
theorem MH{g g' g'':O}:Eg [.t g,.t g',.t g''] e h=.ok (.tuple ⟨[g e,g' e,g'' e]⟩) h:=by
 show AEN (g e) (fun v=>AEN (g' e) (fun v=>AEN (g'' e) _))=_;rw[BR,BR,BR];rfl
def GK(i:Nat)(a:IN)(h:Hp):R:=match a with
 |.tuple vs=>match nth vs.toList i with
  |some v=>.ok v h
  |none=>.no
 |_=>.no
theorem A8{i:Nat}:Aa i x F e h=GK i (x e) h:=by
 show(match x e with|.tuple vs=>(match nth vs.toList i with|some v=>AEN v fun v=>.ok v h|none=>.no)|_=>.no)=_;unfold GK;cases x e with
 |tuple vs=>
  simp only;cases nth vs.toList i with
  |some v=>exact BR _ _
  |none=>rfl
 |_=>rfl
theorem BB{v:IN}{l:List IN}:GK 0 (.tuple ⟨v::l⟩) h=.ok v h:=rfl
theorem BH{u v:IN}{l:List IN}:GK 1 (.tuple ⟨u::v::l⟩) h=.ok v h:=rfl
theorem Cv{t u v:IN}{l:List IN}:GK 2 (.tuple ⟨t::u::v::l⟩) h=.ok v h:=rfl
end
end
noncomputable section
open Go
section
variable {F:AEA}{e:Env}{h h':Hp}{x y:O}
structure Hp.Wf (h:Hp):Prop where
 big:256<=h.next
 has:∀ i,i<h.next->h.bl.has i
 fresh:∀ i,h.next<=i->h.bl.get i=.dead
def Hp.push(h:Hp)(o:Blk):Hp:={next:=xW h.next,low:=h.low,high:=h.high,mark:=h.mark,bl:=h.bl.lay h.next o}
def Hp.put(h:Hp)(b:Nat)(o:Blk):Hp:={next:=h.next,low:=B8 h.low b,high:=Cw h.high b,mark:=h.mark,bl:=h.bl.lay b o}
theorem C3(W:h.Wf){o:Blk}{K:Nat->Hp->R}:GD h o K=K h.next (h.push o):=by
 unfold GD;rw[BT.AEr fun j hj=>W.has j hj];simp only[Ap];rfl
theorem EE(W:h.Wf){b:Nat}(AEK:256<=b)(hb:b<h.next){o:Blk}{K:Hp->R}:Eo h b o K=K (h.put b o):=by
 unfold Eo;rw[BT.AEr fun j hj=>W.has j (ACZ hj hb),Au.2 AEK];simp only[Ap];rfl
theorem Hp.Wf.AEZ(W:h.Wf)(o:Blk)(i:Nat):(h.push o).bl.get i=if i=h.next then o else h.bl.get i:=BT.AE7 (fun j hj=>W.has j hj) i
theorem Hp.Wf.AEn(W:h.Wf){b:Nat}(hb:b<h.next)(o:Blk)(i:Nat):(h.put b o).bl.get i=if i=b then o else h.bl.get i:=BT.AE7 (fun j hj=>W.has j (ACZ hj hb)) i
theorem Hp.Wf.push(W:h.Wf)(o:Blk):(h.push o).Wf where
 big:=ABc W.big
 has:=fun i hi=>BT.AFE (fun j hj=>W.has j hj) i (by
  have hi:i<h.next+1:=hi;rcases yG i h.next with h1|h1
  ·exact .inr (W.has i h1)
  ·exact .inl (by omega))
 fresh:=fun i hi=>by
  have hi:h.next+1<=i:=hi;rw[W.AEZ o i,if_neg (by omega)];exact W.fresh i (by omega)
theorem Hp.Wf.put(W:h.Wf){b:Nat}(hb:b<h.next)(o:Blk):(h.put b o).Wf where
 big:=W.big
 has:=fun i hi=>BT.AFE (fun j hj=>W.has j (ACZ hj hb)) i (.inr (W.has i hi))
 fresh:=fun i hi=>by
  have hi:h.next<=i:=hi;rw[W.AEn hb o i,if_neg (by omega)];exact W.fresh i hi
structure Hp.Ext (h h':Hp):Prop where
 next:h.next<=h'.next
 get:∀ i,i<h.next->h'.bl.get i=h.bl.get i
 low:min h.low h.next<=h'.low
 wf:h'.Wf
theorem Hp.Ext.refl(W:h.Wf):h.Ext h:=⟨IT _,fun _ _=>rfl,Nat.min_le_left _ _,W⟩
theorem Hp.Ext.trans{h₁ h₂ h₃:Hp}(a:h₁.Ext h₂)(b:h₂.Ext h₃):h₁.Ext h₃ where
 next:=yP a.next b.next
 get:=fun i hi=>by rw[b.get i (yr hi a.next),a.get i hi]
 low:=by have:=a.low;have:=b.low;have:=a.next;omega
 wf:=b.wf
theorem Hp.Ext.push(a:h.Ext h')(o:Blk):h.Ext (h'.push o) where
 next:=ABc a.next
 get:=fun i hi=>by rw[a.wf.AEZ,if_neg (by have:=a.next;omega),a.get i hi]
 low:=a.low
 wf:=a.wf.push o
theorem Hp.Ext.put(a:h.Ext h'){b:Nat}(h1:h.next<=b)(hb:b<h'.next)(o:Blk):h.Ext (h'.put b o) where
 next:=a.next
 get:=fun i hi=>by rw[a.wf.AEn hb,if_neg (by omega),a.get i hi]
 low:=by
  show _<=B8 h'.low b;rw[BW];have:=a.low;omega
 wf:=a.wf.put hb o
def VT.Is(t:VT)(l:List IN):Prop:=∀ i,i<l.length->t.has i/\t.get i=l.getD i AED
theorem EG:∀ (vs:List IN) (t:VT) (l:List IN) (i:Nat),t.Is l->i+vs.length<=l.length\/i=l.length->∃ t',Bt t i vs=some t'/\t'.Is (l.take i++vs++l.drop (i+vs.length))
 |[],t,l,i,ht,hi=>⟨t,rfl,by simpa using ht⟩
 |v::vs,t,l,i,ht,hi=>by
  have hi':i<=l.length:=by simp only[xY]at hi;omega
  have hh:∀ j,j<i->t.has j:=fun j hj=>(ht j (by omega)).1
  have h1:(t.lay i v).Is (l.take i++[v]++l.drop (i+1)):=fun j hj=>by
   have hl:(l.take i).length=i:=by simp;omega
   refine⟨VT.AFE hh j ?_,?_⟩
   ·by_cases hji:j=i
    ·exact .inl hji
    ·right
     refine(ht j ?_).1;simp only[No,xY,yS,yk,yM]at hj;omega
   ·rw[VT.AE7 hh]
    by_cases hji:j=i
    ·rw[if_pos hji,hji,xV,yF,yJ (by omega)]
     simp[hl]
    ·rw[if_neg hji]
     have hjl:j<l.length:=by
      simp only[No,xY,yS,yk,yM]at hj;omega
     rw[(ht j hjl).2,xV,xV]
     congr 1
     rcases yG j i with h2|h2
     ·rw[yF,List.getElem?_append_left (by omega),zy,if_pos h2]
     ·rw[yJ (by simp only[No,hl,xY,yS];omega),AAP]
      congr 1
      simp only[No,hl,xY,yS];omega
  have hlen:(l.take i++[v]++l.drop (i+1)).length=max l.length (i+1):=by
   simp only[No,xY,yS,yk,yM];omega
  obtain⟨t',h2,h3⟩:=EG vs (t.lay i v) _ (i+1) h1 (by simp only[xY]at hi;omega);refine⟨t',?_,?_⟩
  ·show(match t.set i v with|some t'=>Bt t' (xW i) vs|none=>none)=_
   rw[VT.AEr hh];exact h2
  ·have e:(l.take i++[v]++l.drop (i+1)).take (i+1)++vs++(l.take i++[v]++l.drop (i+1)).drop (i+1+vs.length)=l.take i++(v::vs)++l.drop (i+(v::vs).length):=by
    have hl:(l.take i++[v]).length=i+1:=by simp;omega
    rw[List.take_left' hl];have e2:i+1+vs.length=(l.take i++[v]).length+vs.length:=by rw[hl]
    rw[e2,List.drop_length_add_append,List.drop_drop];have e3:i+1+vs.length=i+(v::vs).length:=by simp only[xY];omega
    rw[e3];simp
   rw[e]at h3;exact h3
theorem vK:VT.mt.Is []:=fun i h=>by cases h
def ofL(l:List IN):VT:=(Bt .mt 0 l).getD .mt
theorem Hh(l:List IN):Bt .mt 0 l=some (ofL l)/\(ofL l).Is l:=by
 obtain⟨t',h1,h2⟩:=EG l .mt [] 0 vK (.inr rfl);unfold ofL;rw[h1];refine⟨rfl,?_⟩
 simpa using h2
theorem VT.Is.of{t:VT}{l:List IN}(h:Bt .mt 0 l=some t):t.Is l:=by
 have:=Hh l;rw[h]at this;rw[Option.some.inj this.1];exact this.2
def Hp.Row(h:Hp)(b el:Nat)(l:List IN):Prop:=∃ c,h.bl.get b=.cells c l.length el/\c.Is l
def Hp.AD9(h:Hp)(el:Nat)(l:List IN):Hp:=h.push (.cells (ofL l) l.length el)
theorem C4(W:h.Wf){el:Nat}{l:List IN}{K:Nat->Hp->R}:newRow h el l K=K h.next (h.AD9 el l):=by
 unfold newRow;rw[(Hh l).1];show CY h el (ofL l) (BF l) K=_;unfold CY;rw[Ap,C3 W,Bm];rfl
theorem Hp.Row.lt(W:h.Wf){b el:Nat}{l:List IN}(r:h.Row b el l):b<h.next:=by
 obtain⟨c,hc,_⟩:=r;rcases yG b h.next with h1|h1
 ·exact h1
 ·rw[W.fresh b h1]at hc;cases hc
theorem Hp.Row.new(W:h.Wf)(el:Nat)(l:List IN):(h.AD9 el l).Row h.next el l:=⟨ofL l,by unfold Hp.AD9;rw[W.AEZ,if_pos rfl],(Hh l).2⟩
theorem Hp.Row.ext{b el:Nat}{l:List IN}(r:h.Row b el l)(W:h.Wf)(x:h.Ext h'):h'.Row b el l:=by
 have:=r.lt W;obtain⟨c,hc,hl⟩:=r;exact⟨c,(x.get b this).trans hc,hl⟩
theorem Hp.Row.push{b el:Nat}{l:List IN}(r:h.Row b el l)(W:h.Wf)(o:Blk):(h.push o).Row b el l:=r.ext W ((Hp.Ext.refl W).push o)
theorem Hp.Ext.AD9(a:h.Ext h')(el:Nat)(l:List IN):h.Ext (h'.AD9 el l):=a.push _
theorem Hp.Row.rowOf{b el:Nat}{l:List IN}(r:h.Row b el l):∃ c,rowOf h b=.ok c l.length el/\c.Is l:=by
 obtain⟨c,hc,hl⟩:=r;exact⟨c,by unfold Go.Proofs.YtbjadbhkogcfeaaGreat.rowOf;rw[hc];rfl,hl⟩
theorem Hp.Row.AEC{b el off:Nat}{l:List IN}(r:h.Row b el l)(ho:off<l.length):AEC ⟨b,off,none⟩ h=.ok (l.getD off AED) h:=by
 obtain⟨c,hc,hl⟩:=r.rowOf;unfold Go.Proofs.YtbjadbhkogcfeaaGreat.AEC;simp only[hc];rw[Bb.2 ho];simp only[BR,(hl off ho).2]
theorem Is.AFU{c:VT}{l:List IN}(hl:c.Is l)(off n:Nat)(ho:off+n<=l.length):AFU c off n=(l.drop off).take n:=by
 refine List.ext_getElem? fun i=>?_
 unfold Go.Proofs.YtbjadbhkogcfeaaGreat.AFU;rw[List.getElem?_map,zy,AAP];by_cases hi:i<n
 ·rw[if_pos hi,List.getElem?_range hi]
  have:=(hl (off+i) (by omega)).2;rw[xV,sh (by omega)]at this;show some (c.get (off+i))=_;rw[this,sh (by omega)];rfl
 ·rw[if_neg hi,List.getElem?_eq_none (by simpa using hi)];rfl
theorem Hp.Row.loadN{b el off n:Nat}{l:List IN}(r:h.Row b el l)(ho:off+n<=l.length):loadN n ⟨b,off,none⟩ h=.ok (.agg ⟨(l.drop off).take n⟩) h:=by
 obtain⟨c,hc,hl⟩:=r.rowOf;unfold Go.Proofs.YtbjadbhkogcfeaaGreat.loadN;simp only[hc,zL];rw[Au.2 ho];simp only[cond_true,Fq,xx,Is.AFU hl off n ho]
theorem Hp.Row.src{b el off n c:Nat}{l:List IN}(r:h.Row b el l)(ho:off+n<=l.length){sl:Nat}{k:List IN->R}:BP h 1 (.slice (some ⟨b,off,none⟩) sl c) n k=k ((l.drop off).take n):=by
 obtain⟨cc,hc,hl⟩:=r.rowOf;unfold BP;simp only[hc];have e:yl n 1=n:=AAi n;rw[e];simp only[zL];rw[Au.2 ho];simp only[cond_true,Fq,xx,Is.AFU hl off n ho]
def Hp.wr(h:Hp)(b off:Nat)(vs:List IN):Hp:=match rowOf h b with
 |.ok c s e=>h.put b (.cells ((Bt c off vs).getD c) s e)
 |.no=>h
def over(l:List IN)(off:Nat)(vs:List IN):List IN:=l.take off++vs++l.drop (off+vs.length)
theorem Q2{l vs:List IN}{off:Nat}(ho:off+vs.length<=l.length):(over l off vs).length=l.length:=by
 unfold over;simp only[No,yM,yk];omega
theorem Hp.Row.AFM{b el off:Nat}{l vs:List IN}(r:h.Row b el l)(ho:off+vs.length<=l.length):∃ c,c.Is (over l off vs)/\h.wr b off vs=h.put b (.cells c (over l off vs).length el)/\
  ∀ (W:h.Wf) (AEK:256<=b) (h1:Ba vs=true) (K:Hp->R),Cx ⟨b,off,none⟩ vs h K=K (h.wr b off vs):=by
 obtain⟨c,hc,hl⟩:=r.rowOf;obtain⟨c',h2,h3⟩:=EG vs c l off hl (.inl ho);have e:h.wr b off vs=h.put b (.cells c' l.length el):=by
  unfold Hp.wr;rw[hc];simp only[h2,Option.getD_some]
 refine⟨c',h3,by rw[Q2 ho];exact e,fun W AEK h1 K=>?_⟩;unfold Cx;simp only[hc,zL];rw[Bm,Au.2 ho,h1];simp only[cond_true,h2];rw[e,EE W AEK (r.lt W)]
theorem Hp.Row.store{b el off:Nat}{l vs:List IN}(r:h.Row b el l)(W:h.Wf)(AEK:256<=b)(ho:off+vs.length<=l.length)(h1:Ba vs=true)(K:Hp->R):Cx ⟨b,off,none⟩ vs h K=K (h.wr b off vs):=by
 obtain⟨_,_,_,h4⟩:=r.AFM ho;exact h4 W AEK h1 K
theorem Hp.Row.AEM{b el off:Nat}{l vs:List IN}(r:h.Row b el l)(W:h.Wf)(ho:off+vs.length<=l.length):(h.wr b off vs).Row b el (over l off vs):=by
 obtain⟨c,h3,e,_⟩:=r.AFM ho;exact⟨c,by rw[e,W.AEn (r.lt W),if_pos rfl],h3⟩
theorem Hp.Row.AFI{b el off b' el':Nat}{l vs l':List IN}(r:h.Row b el l)(W:h.Wf)(ho:off+vs.length<=l.length)(r':h.Row b' el' l')(hb:b'≠b):(h.wr b off vs).Row b' el' l':=by
 obtain⟨c,h3,e,_⟩:=r.AFM ho;obtain⟨c',hc',hl'⟩:=r';exact⟨c',by rw[e,W.AEn (r.lt W),if_neg hb,hc'],hl'⟩
theorem Hp.Row.AEe{h0:Hp}{b el off:Nat}{l vs:List IN}(r:h.Row b el l)(x:h0.Ext h)(hb:h0.next<=b)(ho:off+vs.length<=l.length):h0.Ext (h.wr b off vs):=by
 obtain⟨c,h3,e,_⟩:=r.AFM ho;rw[e];exact x.put hb (r.lt x.wf) _
theorem Hp.Row.AEo{b el off:Nat}{l vs:List IN}(r:h.Row b el l)(ho:off+vs.length<=l.length):(h.wr b off vs).next=h.next:=by
 obtain⟨c,h3,e,_⟩:=r.AFM ho;rw[e];rfl
def Hd(v:IN)(h:Hp):R:=match Dt v with
 |.ok a=>AEC a h
 |.no=>.no
theorem AN:AM x F e h=Hd (x e) h:=by
 unfold AM Hd;cases Dt (x e)<;>rfl
theorem AP{a:ABb}:Hd (.pointer (some a)) h=AEC a h:=rfl
def KX(n:Nat)(v:IN)(h:Hp):R:=match Dt v with
 |.ok a=>loadN n a h
 |.no=>.no
theorem Av{n:Nat}:BK n x F e h=KX n (x e) h:=rfl
theorem Am{n:Nat}{a:ABb}:KX n (.pointer (some a)) h=loadN n a h:=rfl
def AEH(n:Nat)(p v:IN)(h:Hp):R:=match Dt p with
 |.ok a=>bif xr (BF (cellsOf v)) n then Cx a (cellsOf v) h EC else .no
 |.no=>.no
theorem AX{n:Nat}:Ah n x y F e h=AEH n (x e) (y e) h:=by
 unfold Ah AEH;simp only[BR];cases Dt (x e)<;>rfl
theorem Hp.Row.AEH{n b el off:Nat}{l:List IN}{v:IN}(r:h.Row b el l)(W:h.Wf)(AEK:256<=b)(hn:(cellsOf v).length=n)(ho:off+(cellsOf v).length<=l.length)(h1:Ba (cellsOf v)=true):
  AEH n (.pointer (some ⟨b,off,none⟩)) v h=.ok AED (h.wr b off (cellsOf v)):=by
 show(bif xr (BF (cellsOf v)) n then Cx ⟨b,off,none⟩ (cellsOf v) h EC else .no)=_;rw[Bm,Az.2 hn,r.store W AEK ho h1];rfl
def dj(v:IN)(h:Hp):R:=bif known v then newRow h 0 (cellsOf v) Ir else .no
theorem Eu:Cc x F e h=dj (x e) h:=by
 unfold Cc dj;simp only[BR]
theorem Eq(W:h.Wf){v:IN}(hk:known v=true:=by rfl):dj v h=.ok (.pointer (some ⟨h.next,0,none⟩)) (h.AD9 0 (cellsOf v)):=by
 unfold dj;rw[hk,cond_true,C4 W];rfl
theorem BQ(W:h.Wf){n:Nat}{t:VT}:BV n t F e h=.ok (.pointer (some ⟨h.next,0,none⟩)) (h.push (.cells t n 0)):=by
 unfold BV;rw[C3 W];rfl
theorem Hp.Row.alloc(W:h.Wf){n:Nat}{t:VT}{l:List IN}(ht:Bt .mt 0 l=some t)(hn:l.length=n):(h.push (.cells t n 0)).Row h.next 0 l:=⟨t,by rw[W.AEZ,if_pos rfl,hn],.of ht⟩
theorem NJ{n:Nat}:AE n x F e h=match Dt (x e)with|.ok a=>.ok (.pointer (some ⟨a.block,a.off+n,none⟩)) h|.no=>.no:=by
 unfold AE;cases Dt (x e)with
 |ok a=>exact Ap _ _
 |no=>rfl
def UX(n:Nat)(v:IN)(h:Hp):R:=match Dt v with
 |.ok a=>.ok (.pointer (some ⟨a.block,a.off+n,none⟩)) h
 |.no=>.no
theorem AH{n:Nat}:AE n x F e h=UX n (x e) h:=NJ
theorem AO{n b off:Nat}:UX n (.pointer (some ⟨b,off,none⟩)) h=.ok (.pointer (some ⟨b,off+n,none⟩)) h:=rfl
def NG(n es:Nat)(p i:IN)(h:Hp):R:=MN n es (Dt p) (DZ i) h
theorem DO{n es:Nat}:Ce n es x y F e h=NG n es (x e) (y e) h:=rfl
theorem Uo{n es b off i:Nat}(hi:i<n):MN n es (.ok ⟨b,off,none⟩) (.ok i) h=.ok (.pointer (some ⟨b,off+i*es,none⟩)) h:=by
 show AAI (motive:=fun _=>R) .no (OA ⟨b,off,none⟩ (yl i es) h) (yu i n)=_;rw[Bb.2 hi];exact Ap _ _
theorem Ur{n es b off i:Nat}{k:xy}(hi:i<n):NG n es (.pointer (some ⟨b,off,none⟩)) (.int k (i:Int)) h=.ok (.pointer (some ⟨b,off+i*es,none⟩)) h:=Uo hi
def AE2(es:Nat)(s i:IN)(h:Hp):R:=match s with
 |.slice (some a) n _=>MN n es (.ok a) (DZ i) h
 |_=>.no
theorem A9{es:Nat}:B9 es x y F e h=AE2 es (x e) (y e) h:=rfl
theorem C6{n c es b off i:Nat}{k:xy}(hi:i<n):AE2 es (.slice (some ⟨b,off,none⟩) n c) (.int k (i:Int)) h=.ok (.pointer (some ⟨b,off+i*es,none⟩)) h:=Uo hi
def AEs(v:IN)(h:Hp):R:=match v with
 |.slice _ n _=>.ok (.int .i64 (.ofNat n)) h
 |.chan (some _)=>.ok (.int .i64 (.ofNat 0)) h
 |_=>.no
theorem Af:Be x F e h=AEs (x e) h:=rfl
theorem Dy{o:Option ABb}{n c:Nat}:AEs (.slice o n c) h=.ok (.int .i64 (n:Int)) h:=rfl
end
end
noncomputable section
open Go
section
variable {F:AEA}{e:Env}{h h':Hp}{x y:O}
def UU:X->Bool
 |.norm _ _=>false
 |.no=>false
 |_=>true
theorem QV{body:C}{I:Nat->Env->Hp->Prop}{Q:X->Prop}(N:Nat)
  (step:∀ i e h,I i e h->(i<N/\∃ e' h',body F e h=.norm e' h'/\I (i+1) e' h')\/(UU (body F e h)=true/\Q (body F e h))):
  ∀ n i e h,N - i<n->I i e h->Q (iter body n F e h)
 |0,i,e,h,hn,_=>absurd hn (Nat.not_lt_zero _)
 |n+1,i,e,h,hn,hi=>by
  unfold iter;rcases step i e h hi with ⟨h1,e',h',h2,h3⟩|⟨h1,h2⟩
  ·rw[h2]
   exact QV N step n (i+1) e' h' (by omega) h3
  ·cases hb:body F e h with
   |norm e' h'=>rw[hb]at h1;cases h1
   |no=>rw[hb]at h1;cases h1
   |exit i e' h'=>rw[hb]at h2;exact h2
   |ret e' h'=>rw[hb]at h2;exact h2
theorem Bd{body:C}(I:Nat->Env->Hp->Prop)(Q:X->Prop)(N:Nat)(hN:N<8796093022208)
  (step:∀ i e h,I i e h->(i<N/\∃ e' h',body F e h=.norm e' h'/\I (i+1) e' h')\/(UU (body F e h)=true/\Q (body F e h)))(h0:I 0 e h):Q (A3 body F e h):=
 QV N step rounds 0 e h (by show N - 0<8796093022208;omega) h0
theorem Bn{n:Nat}(h:n<=9223372036854775807):zk.wrap (n:Int)=n:=Hr h
theorem cM{n:Int}(h0:0<=n)(h:n<=9223372036854775807):zk.wrap n=n:=by
 obtain⟨m,rfl⟩:=Int.eq_ofNat_of_zero_le h0;exact Hr (by omega)
theorem EV{n:Nat}(h:n<=18446744073709551615):IntKind.u64.wrap (n:Int)=n:=Dl .u64 n h
theorem IJ(n:Nat):ADT.wrap (n:Int)=((n % 256:Nat):Int):=by
 have:ADT.wrap (n:Int)=(n:Int) % 256:=rfl;rw[this];omega
def bv(n:Nat):IN:=.int .u8 (n:Int)
theorem Lt:∀ l:List Nat,Er (l.map bv)=some (l.map AAR)
 |[]=>rfl
 |n::l=>by
  show(match Er (l.map bv)with|some bs=>AEU n fun n=>some (AAR n::bs)|none=>none)=_;rw[Lt l];exact Ap _ _
theorem DV:∀ l:List Nat,Ba (l.map bv)=true
 |[]=>rfl
 |n::l=>DV l
def Hp.Bytes(h:Hp)(v:IN)(l:List Nat):Prop:=(v=.slice none 0 0/\l=[])\/∃ b off c el L,v=.slice (some ⟨b,off,none⟩) l.length c/\h.Row b el L/\off+l.length<=L.length/\(L.drop off).take l.length=l.map bv
theorem Hp.Bytes.src{v:IN}{l:List Nat}(b:h.Bytes v l){n:Nat}(hn:n=l.length)(k:List IN->R):BP h 1 v n k=k (l.map bv):=by
 subst hn;rcases b with ⟨h1,h2⟩|⟨b,off,c,el,L,h1,h2,h3,h4⟩
 ·rw[h1,h2];rfl
 ·rw[h1,h2.src h3,h4]
theorem Hp.Bytes.shape{v:IN}{l:List Nat}(b:h.Bytes v l):∃ a c,v=.slice a l.length c:=by
 rcases b with ⟨h1,h2⟩|⟨b,off,c,el,L,h1,h2,h3,h4⟩
 ·exact⟨none,0,by rw[h1,h2];rfl⟩
 ·exact⟨_,_,h1⟩
def wS(v:IN)(h:Hp):R:=match v with
 |.slice a n c=>BP h 1 (.slice a n c) n fun cs=>match Er cs with
  |some bs=>.ok (.string ⟨⟨bs⟩⟩) h
  |none=>.no
 |.chan r=>match r with
  |some _=>.ok (.string ⟨⟨[]⟩⟩) h
  |none=>.no
 |_=>.no
theorem Kb:FX x F e h=wS (x e) h:=rfl
theorem Hp.Bytes.str{v:IN}{l:List Nat}(b:h.Bytes v l):wS v h=.ok (.string ⟨⟨l.map AAR⟩⟩) h:=by
 obtain⟨a,c,rfl⟩:=b.shape;show BP h 1 (.slice a l.length c) l.length (fun cs=>match Er cs with
  |some bs=>.ok (.string ⟨⟨bs⟩⟩) h
  |none=>.no)=_
 rw[b.src rfl,Lt]
def uz(f:List UInt8->List UInt8->Bool)(a b:IN)(h:Hp):R:=bj f a b h
theorem PB{f:List UInt8->List UInt8->Bool}:Jd f x y F e h=uz f (x e) (y e) h:=rfl
theorem Oc{f:List UInt8->List UInt8->Bool}{a b:List UInt8}:uz f (.string ⟨⟨a⟩⟩) (.string ⟨⟨b⟩⟩) h=.ok (.bool (f a b)) h:=FC
theorem jo{v:IN}{l:List Nat}(b:h.Bytes v l):lenV v=.ok l.length:=by
 obtain⟨a,c,rfl⟩:=b.shape;rfl
theorem Pg{eb en b n c el:Nat}{l:List IN}{v:IN}(W:h.Wf)(AEK:256<=b)(r:h.Row b el l)(hx:h.Bytes v [])(hc:n<=c)(hn:n<=l.length):
  Dm 1 eb en (.slice (some ⟨b,0,none⟩) n c) v h=.ok (.slice (some ⟨b,0,none⟩) n c) (h.wr b n []):=by
 unfold Dm;simp only[jo hx,hx.src rfl,Ap,zL];have e1:xd n c=true:=Au.2 hc;have e0:n+([]:List Nat).length=n:=rfl;simp only[e0,e1,List.map_nil];have e2:FB ⟨b,0,none⟩ (yl n 1)=⟨b,n,none⟩:=by
  rw[show yl n 1=n from AAi n];cases n with
  |zero=>rfl
  |succ n=>show(⟨b,zH 0 (xW n),none⟩:ABb)=_;rw[zL,If]
 rw[e2,r.store W AEK (by simpa using hn) rfl]
def DP(es eb en:Nat)(s v:IN)(h:Hp):R:=Dm es eb en s v h
theorem BN{es eb en:Nat}:Bo es eb en x y F e h=DP es eb en (x e) (y e) h:=rfl
theorem Bu{cs:List IN}{k:List IN->R}:EX cs e k []=k cs:=C2 _ _
theorem As{cs:List IN}{k:List IN->R}{off size:Nat}{rest:List (Nat×Nat×O)}(hk:known (x e)=true:=by rfl):EX cs e k ((off,size,x)::rest)=(if(cellsOf (x e)).length=size then(if off+size<=cs.length then EX (over cs off (cellsOf (x e))) e k rest else .no)else .no):=by
 have e0:EX cs e k ((off,size,x)::rest)=(bif known (x e)then(bif xr (BF (cellsOf (x e))) size then(bif xd (zH off size) (BF cs)then EX (lay cs off (cellsOf (x e))) e k rest else .no)else .no)else .no):=BR _ _;have e1:EX cs e k ((off,size,x)::rest)=(bif xr (BF (cellsOf (x e))) size then(bif xd (zH off size) (BF cs)then EX (lay cs off (cellsOf (x e))) e k rest else .no)else .no):=by rw[e0,hk];rfl
 rw[e1,Bm,Bm,AEr];by_cases h1:(cellsOf (x e)).length=size
 ·rw[if_pos h1,Az.2 h1]
  by_cases h2:off+size<=cs.length
  ·rw[if_pos h2,show xd (zH off size) cs.length=true from Au.2 h2];rfl
  ·rw[if_neg h2]
   have:xd (zH off size) cs.length=false:=by
    cases e:xd (zH off size) cs.length
    ·rfl
    ·exact absurd (Au.1 e) h2
   rw[this];rfl
 ·rw[if_neg h1]
  have:xr (cellsOf (x e)).length size=false:=by
   cases e:xr (cellsOf (x e)).length size
   ·rfl
   ·exact absurd (Az.1 e) h1
  rw[this];rfl
theorem Cq{k:xy}{n:Int}:cellsOf (.int k n)=[.int k n]:=rfl
theorem Em{l vs:List IN}(hl:l.length=vs.length):over l 0 vs=vs:=by
 unfold over;rw[List.take_zero,yU,zC (by omega),xx]
theorem CQ{zero:List IN}{ps:List (Nat×Nat×O)}:BC zero ps F e h=EX zero e (fun cs=>.ok (.agg ⟨cs⟩) h) ps:=rfl
theorem CO{n:Nat}{zero:List IN}{ps:List (Nat×Nat×O)}:Ar n zero ps F e h=EX zero e (fun cs=>newRow h 0 cs (GG n n)) ps:=rfl
def Hp.marked(h:Hp):Hp:={next:=h.next,low:=h.low,high:=h.high,mark:=h.next,bl:=h.bl}
def Hp.quiet(h:Hp):Hp:={next:=h.next,low:=h.next,high:=0,mark:=h.mark,bl:=h.bl}
def Hp.back(h h':Hp):Hp:={next:=h'.next,low:=B8 h.low h'.low,high:=Cw h.high h'.high,mark:=h.mark,bl:=h'.bl}
theorem A0{k:C}:B0 k F e h=k F e h.marked:=rfl
theorem Hp.Wf.marked(W:h.Wf):h.marked.Wf:=⟨W.big,W.has,W.fresh⟩
theorem Hp.Wf.quiet(W:h.Wf):h.quiet.Wf:=⟨W.big,W.has,W.fresh⟩
theorem Hp.Ext.marked{h0:Hp}(x:h0.Ext h):h0.Ext h.marked:=⟨x.next,x.get,x.low,x.wf.marked⟩
theorem Hp.Row.same{b el:Nat}{l:List IN}(r:h.Row b el l)(hb:h'.bl=h.bl):h'.Row b el l:=by
 obtain⟨c,hc,hl⟩:=r;exact⟨c,by rw[hb];exact hc,hl⟩
theorem Hp.Ext.back(x:h.quiet.Ext h'):h.Ext (h.back h') where
 next:=x.next
 get:=x.get
 low:=by
  show _<=B8 h.low h'.low;rw[BW];have h1:min h.next h.next<=h'.low:=x.low;omega
 wf:=⟨x.wf.big,x.wf.has,x.wf.fresh⟩
theorem Ck{f:OpF}{m:Qm}{v:IN}(hf:f F e h.quiet=.ok v h')(x:h.quiet.Ext h')(hm:h.mark<=h.next):Ae m f F e h=.ok v (h.back h'):=by
 have h1:min h.next h.next<=h'.low:=x.low;have hq:qOk m h h'.low=true:=by
  cases m with
  |AER=>exact Au.2 (by omega)
  |weak=>exact Au.2 (by omega)
  |free=>rfl
 show(match f F e h.quiet with|.ok v h'=>bif qOk m h h'.low then Db h v h' else .no|.no=>.no)=_;rw[hf];simp only[hq,cond_true];unfold Db;simp only[Ap];rfl
theorem BL{f:OpF}{v:IN}(hf:f F e h.quiet=.ok v h'):Ae .free f F e h=.ok v (h.back h'):=by
 show(match f F e h.quiet with|.ok v h'=>bif qOk .free h h'.low then Db h v h' else .no|.no=>.no)=_;rw[hf];show Db h v h'=_;unfold Db;simp only[Ap];rfl
def Iq(v:IN)(k:C)(F:AEA)(e:Env)(h:Hp):X:=match AEh v with
 |.ok b=>bif yu b h.mark then k F e h else .no
 |.no=>k F e h
theorem D5{k:C}:EI x k F e h=Iq (x e) k F e h:=rfl
theorem Dg{b off:Nat}{k:C}(hb:b<h.mark):Iq (.pointer (some ⟨b,off,none⟩)) k F e h=k F e h:=by
 show(bif yu b h.mark then k F e h else .no)=_;rw[Bb.2 hb];rfl
theorem DQ{k:C}:Ci x [] k F e h=k F e h:=by
 unfold Ci;cases AEh (x e)<;>rfl
theorem Hp.Ext.quiet{h0:Hp}(x:h0.Ext h):h0.Ext h.quiet:=⟨x.next,x.get,by show _<=h.next;have:=x.next;omega,x.wf.quiet⟩
theorem Hp.Ext.AFF{h0:Hp}(x:h0.Ext h)(y:h0.Ext h'):h0.Ext (h.back h') where
 next:=y.next
 get:=y.get
 low:=by
  show _<=B8 h.low h'.low;rw[BW];have:=x.low;have:=y.low;omega
 wf:=⟨y.wf.big,y.wf.has,y.wf.fresh⟩
end
end
noncomputable section
open Go Go.RowKit Go.WideShapes Go.ChangeShapes
def sliceAt(b:Nat)(a:ABb)(n c:Nat):Phi:=fun i=>if i=b then some {blk:=a.block,off:=a.off,sz:=c,room:=c,es:=1,inp:=true}else none
theorem X8{P:yw}{W:yQ}{base t e:Nat}{v:IN}(ht:P.underlying t=some (.slice e))(h:AAN P W .any base t v):
  v=.slice none 0 0\/∃ a n c,v=.slice (some a) n c/\n<=c/\a.spot=none/\a.block<W.heap.size:=by
 unfold AAN at h;rw[ht]at h;simp only at h;unfold ADp at h;rw[ht]at h;have h:Cell.ok P W .any base t v:=by cases v<;>exact h
 unfold Cell.ok at h;rw[ht]at h;split at h<;>first|(exact h.elim;done)|skip
 all_goals (rename_i e1 _;cases e1)
 ·exact .inl rfl
 ·obtain⟨h1,_,h2⟩:=h
  obtain⟨_,h3,row,cells,h4,_⟩:=h2;refine .inr ⟨_,_,_,rfl,h1,h3,?_⟩;unfold World.shape? at h4;split at h4
  ·rename_i hb;exact(zo.1 hb).1
  all_goals first|(cases h4;done)|(rename_i hb;exact(zo.1 hb).1)
theorem TJ{P:yw}{W:yQ}{base t e:Nat}{v:IN}(ht:P.underlying t=some (.slice e))(h:ADp P W .any base t v):
  v=.slice none 0 0\/∃ a n c,v=.slice (some a) n c/\n<=c/\a.spot=none/\a.block<W.heap.size:=
 X8 (base:=base) ht (by unfold AAN;rw[ht];exact h)
end
noncomputable section
open Go Go.RowKit Go.WideShapes Go.ChangeShapes
theorem jg{P:yw}{ty:TTy}{bs:FT}(hC:∀ n,DX P ty (call bs n)){n f:Nat}{xs args:List IN}{φ:Phi}{w:yQ}{h0 h':Hp}(hr:call bs n f xs h0=.ok (.bool true) h')(x:h0.Ext h')(hl:h0.low=h0.next)
  (ha:AEV φ xs args)(H:AEI ty φ nil h0 w):Calls P f ⟨args⟩ w fun e w'=>e=.returned (.bool true)/\Below w.heap.size w w':=by
 obtain⟨_,hc⟩:=hC n f xs h0 _ h' hr;refine(hc φ w args ha H).mono fun e w' ⟨v',ψ,he,hv,_,ev⟩=>?_
 have:=hv.AE3;subst this;refine⟨he,⟨ev.os,ev.tape,ev.output,ev.size,fun k hk=>ev.frame k hk fun i p hp hn h1 _ _=>?_⟩⟩;have h2:=(H.dom i p hp).1;have h3:=x.low;omega
theorem Ni:∀ (n i:Nat),i+1<2 ^ n->(FU n).has i
 |0,i,h=>by rw[Nat.pow_zero]at h;omega
 |n+1,0,_=>trivial
 |n+1,k+1,h=>by
  show(BT.nd .dead (FU n) (FU n)).has (k+1);rw[BT.AEL];have h1:k/2+1<2 ^ n:=by
   have:2 ^ (n+1)=2*2 ^ n:=by rw[ADj,zT]
   omega
  split<;>exact Ni n _ h1
def Ky(L:List IN):Blk:=.cells (ofL L) L.length 0
def inB:List (List IN)->Nat->BT->BT
 |[],_,t=>t
 |L::Ls,i,t=>inB Ls (i+1) (t.lay i (Ky L))
theorem Oq:∀ (Ls:List (List IN)) (i:Nat) (t:BT),(∀ j,j<256->t.has j)->i+Ls.length<=256->
  (∀ j,j<256->(inB Ls i t).has j)/\(∀ k L,Ls[k]? =some L->(inB Ls i t).get (i+k)=Ky L)/\(∀ j,j<i\/i+Ls.length<=j->(inB Ls i t).get j=t.get j)
 |[],i,t,ht,_=>⟨ht,(fun k L h=>by cases h),fun _ _=>rfl⟩
 |L::Ls,i,t,ht,hl=>by
  have hl':i+1+Ls.length<=256:=by simp only[xY]at hl;omega
  have hi:∀ j,j<i->t.has j:=fun j hj=>ht j (by omega)
  obtain⟨a,b,c⟩:=Oq Ls (i+1) (t.lay i (Ky L)) (fun j hj=>BT.AFE hi j (.inr (ht j hj))) hl';refine⟨a,fun k M h=>?_,fun j hj=>?_⟩
  ·cases k with
   |zero=>
    obtain rfl:L=M:=Option.some.inj h;show(inB Ls (i+1) (t.lay i (Ky L))).get i=_;rw[c i (.inl (Nat.lt_succ_self i)),BT.AE7 hi,if_pos rfl]
   |succ k=>
    have:=b k M h;rw[show i+1+k=i+(k+1)by omega]at this;exact this
  ·show(inB Ls (i+1) (t.lay i (Ky L))).get j=_
   simp only[xY]at hj;rw[c j (by omega),BT.AE7 hi,if_neg (by omega)]
def inH(Ls:List (List IN)):Hp:={next:=256,low:=256,high:=0,mark:=256,bl:=inB Ls 0 (FU 9)}
theorem MJ(j:Nat)(hj:j<256):(FU 9).has j:=Ni 9 j (by omega)
theorem Ot{Ls:List (List IN)}(hl:Ls.length<=256){i:Nat}{L:List IN}(h:Ls[i]? =some L):(inH Ls).bl.get i=Ky L:=by
 have:=(Oq Ls 0 (FU 9) MJ (by omega)).2.1 i L h
 rwa [If]at this
theorem Zo{Ls:List (List IN)}(hl:Ls.length<=256):(inH Ls).Wf where
 big:=IT _
 has:=(Oq Ls 0 (FU 9) MJ (by omega)).1
 fresh:=fun i hi=>by
  have hi:256<=i:=hi;have:=(Oq Ls 0 (FU 9) MJ (by omega)).2.2 i (.inr (by omega));show(inB Ls 0 (FU 9)).get i=_;rw[this];exact KJ 9 i
theorem Ut{Ls:List (List IN)}(hl:Ls.length<=256){i:Nat}{L:List IN}(h:Ls[i]? =some L):(inH Ls).Row i 0 L:=⟨ofL L,Ot hl h,(Hh L).2⟩
def Km(W:yQ)(a:ABb)(L:List IN):Prop:=∃ cs t fr,W.heap[a.block]? =some (.cells cs t fr)/\(∀ j,j<L.length->cs[a.off+j]? =some (L.getD j AED))/\∀ j,j<L.length->¬ (fr.1<=a.off+j/\a.off+j<fr.2)
def PI(a:ABb)(c:Nat):Pl:={blk:=a.block,off:=if c=0 then 0 else a.off,sz:=c,room:=c,es:=1,inp:=true}
def Nr(ps:List (Option Pl)):Phi:=fun i=>(ps[i]?).getD none
theorem az{W:yQ}{ty:TTy}{φ:Phi}{a:ABb}{L L':List IN}(h:Km W a L')(hL:AEV φ L L'):AE9 ty φ (PI a L.length) (Ky L) W.heap[a.block]?:=by
 obtain⟨cs,t,fr,hb,hc,hf⟩:=h;have hlen:L'.length=L.length:=hL.length;rw[hlen]at hc hf;rw[hb];refine .cells {kind:=⟨rfl,.inl ⟨rfl,rfl,rfl,.inr rfl⟩⟩,room:=IT _,fits:=?_,loose:=.inr ⟨rfl,rfl,fun o h1 h2=>?_⟩,cell:=fun j hj=>?_}
 ·show(if L.length=0 then 0 else a.off)+L.length<=cs.size
  rcases yd L.length with h0|h0
  ·rw[if_pos h0,h0];exact Nat.zero_le _
  ·rw[if_neg (by omega)]
   have:=(zo.1 (hc (L.length - 1) (by omega))).1;omega
 ·have h1:(if L.length=0 then 0 else a.off)<=o:=h1
  have h2:o<(if L.length=0 then 0 else a.off)+L.length:=h2;rcases yd L.length with h0|h0
  ·rw[if_pos h0]at h2;omega
  ·rw[if_neg (by omega)]at h1 h2
   have:=hf (o - a.off) (by omega);have e:a.off+(o - a.off)=o:=by omega
   rw[e]at this;exact this
 ·have h1:=hc j hj
  obtain⟨v',hv1,hv2⟩:=hL.get j (L.getD j AED) (by rw[xV,sh hj];rfl);refine⟨v',?_,?_⟩
  ·show cs[(if L.length=0 then 0 else a.off)+j]? =_
   rw[if_neg (by omega),h1,xV,hv1];rfl
  ·rw[((Hh L).2 j hj).2];exact hv2
theorem Km.lt{W:yQ}{a:ABb}{L:List IN}(h:Km W a L):a.block<W.heap.size:=by
 obtain⟨cs,t,fr,hb,_⟩:=h;exact(zo.1 hb).1
theorem qy{W:yQ}{ty:TTy}{ps:List (Option Pl)}{Ls:List (List IN)}(AEK:Ls.length<=256)
  (h:∀ i p,Nr ps i=some p->∃ a L,p=PI a L.length/\Ls[i]? =some L/\a.block<W.heap.size/\AE9 ty (Nr ps) (PI a L.length) (Ky L) W.heap[a.block]?):AEI ty (Nr ps) nil (inH Ls) W where
 dom:=fun i p e=>by
  obtain⟨a,L,rfl,h1,h2,_⟩:=h i p e;have h3:=(yD.1 h1).1;exact⟨by show i<256;omega,h2⟩
 inj:=fun i j p q h1 h2 _ _ _ _ hor=>by
  obtain⟨a,L,rfl,_⟩:=h i p h1;obtain⟨b,M,rfl,_⟩:=h j q h2;rcases hor with h3|h3<;>cases h3
 row:=fun i p e _=>by
  obtain⟨a,L,rfl,h1,_,h3⟩:=h i p e;rw[Ot AEK h1];exact h3
 fresh:=(Zo AEK).fresh
 kind:=fun i p c s e hp hc=>by
  obtain⟨a,L,rfl,h1,_,h3⟩:=h i p hp;rw[Ot AEK h1]at hc;have hc:Blk.cells (ofL L) L.length 0=.cells c s e:=hc;cases hc;exact⟨rfl,.inl ⟨rfl,rfl,rfl,.inr rfl⟩⟩
 inp:=fun i p e _=>by
  obtain⟨a,L,rfl,h1,_⟩:=h i p e;have h3:=(yD.1 h1).1;omega
theorem wR{φ:Phi}{a:ABb}{n c i:Nat}(hs:a.spot=none)(hn:n<=c)(hp:φ i=some (PI a c)):AEE φ (.slice (some ⟨i,0,none⟩) n c) (.slice (some a) n c):=by
 refine .slice hn ⟨rfl,hs,_,hp,rfl,?_⟩;rcases yd c with h|h
 ·exact .inr ⟨h,.inl h⟩
 ·refine .inl ⟨h,?_,.inl rfl⟩
  show a.off=(if c=0 then 0 else a.off)+0;rw[if_neg (by omega),Nat.add_zero]
def ints(k:xy)(Z:List Int):List IN:=Z.map (.int k)
def wm(k:xy)(W:yQ)(v:IN)(zs:List Int):Prop:=(v=.slice none 0 0/\zs=[])\/∃ (a:ABb) (n c:Nat) (Z:List Int),v=.slice (some a) n c/\n<=c/\a.spot=none/\Z.length=c/\zs=Z.take n/\Km W a (ints k Z)
def Hp.AEX(h:Hp)(v:IN)(xs:List IN):Prop:=(v=.slice none 0 0/\xs=[])\/∃ b off c el L,v=.slice (some ⟨b,off,none⟩) xs.length c/\h.Row b el L/\off+xs.length<=L.length/\(L.drop off).take xs.length=xs
def YM(W:yQ)(L:List IN)(q:Option Pl):Prop:=q=none\/∃ a,q=some (PI a L.length)/\Km W a L
end
noncomputable section
open Go Go.RowKit Go.ChangeShapes
theorem sT:type_of% (xu @Gl (xu @OT (xu @Gc (xu @Yp (xu @HJ (xu @BJ (xu @Ay (xu @Lv (xu @Tt (xu @Pp (xu @Gm (xu @ZQ (xu @Ig (xu @HL (xu @BA (xu @OD (xu @C8 (xu @Ca (xu @CM (xu @A7 (xu @Dz (xu @HY @AG)))))))))))))))))))))):=xu @Gl (xu @OT (xu @Gc (xu @Yp (xu @HJ (xu @BJ (xu @Ay (xu @Lv (xu @Tt (xu @Pp (xu @Gm (xu @ZQ (xu @Ig (xu @HL (xu @BA (xu @OD (xu @C8 (xu @Ca (xu @CM (xu @A7 (xu @Dz (xu @HY @AG)))))))))))))))))))))
theorem iN:type_of% (xu @Jm (xu @K9 (xu @ACo @If))):=xu @Jm (xu @K9 (xu @ACo @If))
theorem cA0:type_of% (xu @BO (xu @AV @A2)):=(xu @BO (xu @AV @A2))
theorem lV0:type_of% (xu @BG @MG):=(xu @BG @MG)
theorem gD:type_of% (xu @SK (xu @Np (xu @Nn (xu @Nm (xu @Nl (xu @Kw (xu @RS (xu @Qw (xu @Mq @K4))))))))):=xu @SK (xu @Np (xu @Nn (xu @Nm (xu @Nl (xu @Kw (xu @RS (xu @Qw (xu @Mq @K4))))))))
section
variable {F:AEA}{e:Env}{h h':Hp}{x y:O}
theorem Hp.AEX.ext{v:IN}{l:List IN}(b:h.AEX v l)(W:h.Wf)(x:h.Ext h'):h'.AEX v l:=by
 rcases b with h1|⟨b,off,c,el,L,h1,h2,h3⟩
 ·exact .inl h1
 ·exact .inr ⟨b,off,c,el,L,h1,h2.ext W x,h3⟩
theorem Hp.AEX.same{v:IN}{l:List IN}(b:h.AEX v l)(hb:h'.bl=h.bl):h'.AEX v l:=by
 rcases b with h1|⟨b,off,c,el,L,h1,h2,h3⟩
 ·exact .inl h1
 ·exact .inr ⟨b,off,c,el,L,h1,h2.same hb,h3⟩
theorem Hp.AEX.src{v:IN}{l:List IN}(b:h.AEX v l){n:Nat}(hn:n=l.length)(k:List IN->R):BP h 1 v n k=k l:=by
 subst hn;rcases b with ⟨h1,h2⟩|⟨b,off,c,el,L,h1,h2,h3,h4⟩
 ·rw[h1,h2];rfl
 ·rw[h1,h2.src h3,h4]
theorem Hp.AEX.shape{v:IN}{l:List IN}(b:h.AEX v l):∃ a c,v=.slice a l.length c:=by
 rcases b with ⟨h1,h2⟩|⟨b,off,c,el,L,h1,h2,h3,h4⟩
 ·exact⟨none,0,by rw[h1,h2];rfl⟩
 ·exact⟨_,_,h1⟩
theorem Hp.AEX.len{v:IN}{l:List IN}(b:h.AEX v l):AEs v h=.ok (.int .i64 (l.length:Int)) h:=by
 obtain⟨a,c,rfl⟩:=b.shape;rfl
theorem Hp.AEX.lenV{v:IN}{l:List IN}(b:h.AEX v l):lenV v=.ok l.length:=by
 obtain⟨a,c,rfl⟩:=b.shape;rfl
theorem Hp.AEX.at{v:IN}{l:List IN}(b:h.AEX v l){i:Nat}(hi:i<l.length):∃ a,AE2 1 v (.int .i64 (i:Int)) h=.ok (.pointer (some a)) h/\Hd (.pointer (some a)) h=.ok (l.getD i AED) h:=by
 rcases b with ⟨h1,h2⟩|⟨b,off,c,el,L,h1,h2,h3,h4⟩
 ·rw[h2]at hi;cases hi
 ·refine⟨⟨b,off+i*1,none⟩,by rw[h1];exact C6 hi,?_⟩
  rw[AP,h2.AEC (by omega)];have:=congrArg (fun m=>m[i]?) h4;simp only[zy,AAP,if_pos hi]at this;rw[xV,AAi,this,xV]
theorem Hp.AEX.bytes{v:IN}{l:List Nat}(b:h.AEX v (l.map bv)):h.Bytes v l:=by
 rcases b with ⟨h1,h2⟩|⟨b,off,c,el,L,h1,h2,h3,h4⟩
 ·exact .inl ⟨h1,by cases l with
   |nil=>rfl
   |cons a l=>cases h2⟩
 ·rw[List.length_map]at h1 h3 h4
  exact .inr ⟨b,off,c,el,L,h1,h2,h3,h4⟩
theorem Hp.AEX.cut{v:IN}{l:List IN}(b:h.AEX v l){n:Nat}(hn:n<l.length):∃ o c,v=.slice (some o) l.length c/\h.AEX (.slice (some o) n c) (l.take n):=by
 rcases b with ⟨h1,h2⟩|⟨b,off,c,el,L,h1,h2,h3,h4⟩
 ·rw[h2]at hn;cases hn
 ·have hl:(l.take n).length=n:=by rw[yM];omega
  refine⟨⟨b,off,none⟩,c,h1,.inr ⟨b,off,c,el,L,by rw[hl],h2,by omega,?_⟩⟩;rw[hl,<- h4,List.take_take,Nat.min_eq_left (by omega)]
def AEc(v:IN)(b:Nat):Prop:=∃ off n c,v=.slice (some ⟨b,off,none⟩) n c
theorem GH{b:Nat}:¬ AEc (.slice none 0 0) b:=fun⟨_,_,_,h⟩=>by cases h
theorem LR{b b' n c:Nat}(h:b'≠b):¬ AEc (.slice (some ⟨b,0,none⟩) n c) b':=fun⟨_,_,_,e⟩=>by
 injection e with e _ _
 injection e with e
 injection e with e _ _
 exact h e.symm
def Hp.Own(h:Hp)(k en:Nat)(v:IN)(xs:List IN):Prop:=(v=.slice none 0 0/\xs=[])\/∃ b,v=.slice (some ⟨b,0,none⟩) xs.length xs.length/\h.Row b (en+1) xs/\k<=b/\256<=b
theorem Hp.Own.vals{k en:Nat}{v:IN}{xs:List IN}(o:h.Own k en v xs):h.AEX v xs:=by
 rcases o with h1|⟨b,h1,h2,_⟩
 ·exact .inl h1
 ·exact .inr ⟨b,0,_,_,xs,h1,h2,by omega,by rw[List.drop_zero,List.take_length]⟩
theorem Hp.Own.le{k k' en:Nat}{v:IN}{xs:List IN}(o:h.Own k en v xs)(hk:k'<=k):h.Own k' en v xs:=by
 rcases o with h1|⟨b,h1,h2,h3,h4⟩
 ·exact .inl h1
 ·exact .inr ⟨b,h1,h2,yP hk h3,h4⟩
theorem Hp.Own.keep{k en:Nat}{v:IN}{xs:List IN}(o:h.Own k en v xs)(hk:∀ b el L,AEc v b->h.Row b el L->h'.Row b el L):h'.Own k en v xs:=by
 rcases o with h1|⟨b,h1,h2,h3,h4⟩
 ·exact .inl h1
 ·exact .inr ⟨b,h1,hk b _ _ ⟨0,_,_,h1⟩ h2,h3,h4⟩
theorem Hp.Own.ext{k en:Nat}{v:IN}{xs:List IN}(o:h.Own k en v xs)(W:h.Wf)(x:h.Ext h'):h'.Own k en v xs:=o.keep fun _ _ _ _ r=>r.ext W x
theorem Hp.Own.same{k en:Nat}{v:IN}{xs:List IN}(o:h.Own k en v xs)(hb:h'.bl=h.bl):h'.Own k en v xs:=o.keep fun _ _ _ _ r=>r.same hb
theorem En{h0:Hp}{eb en k:Nat}{v u:IN}{xs ys:List IN}(x0:h0.Ext h)(hk:h0.next<=k)(hk2:k<=h.next)(o:h.Own k en v xs)(y:h.AEX u ys)(hy:0<ys.length)(ha:Ba ys=true)(hm:(xs.length+ys.length+1)*(eb+1)<=1099511627776):
  ∃ h' v',DP 1 eb en v u h=.ok v' h'/\h0.Ext h'/\h'.Own k en v' (xs++ys)/\h'.next=h.next+1/\∀ b el L,¬ AEc v b->h.Row b el L->h'.Row b el L/\¬ AEc v' b:=by
 have W:=x0.wf;rcases o with ⟨rfl,rfl⟩|⟨b,rfl,r,hb,hb2⟩
 ·obtain⟨t1,t2⟩:=Hh ys
  refine⟨h.push (.cells (ofL ys) ys.length (en+1)),.slice (some ⟨h.next,0,none⟩) ys.length ys.length,?_,x0.push _,.inr ⟨h.next,rfl,⟨ofL ys,by rw[W.AEZ,if_pos rfl];rfl,t2⟩,hk2,W.big⟩,rfl,fun b' el' L' _ r'=>⟨r'.push W _,LR (by have:=r'.lt W;omega)⟩⟩;unfold DP Dm;simp only[y.lenV,y.src rfl,Ap,zL,If];have e1:xd ys.length 0=false:=by
   cases e:xd ys.length 0
   ·rfl
   ·have:=Au.1 e;omega
  have e2:xd (yl (xW ys.length) (xW eb)) JU=true:=Au.2 (H8 (by
   have:=hm;simp only[yS,If]at this;exact this))
  rw[e1];simp only[e2,cond_true,ha];unfold G9 BP JQ;simp only[yU,t1];unfold E3;simp only[Bm];unfold CY;rw[Ap,C3 W];rfl
 ·obtain⟨cc,hcc,hl⟩:=r.rowOf
  obtain⟨t,h2,h3⟩:=EG ys cc xs xs.length hl (.inr rfl);have h3:t.Is (xs++ys):=by
   have e:xs.drop (xs.length+ys.length)=[]:=zC (by omega);rw[e]at h3
   simpa using h3
  have hlen:(xs++ys).length=xs.length+ys.length:=No;have hlt:=r.lt W;have W1:(h.put b .dead).Wf:=W.put hlt _;have x1:h0.Ext (h.put b .dead):=x0.put (by omega) hlt _;refine⟨(h.put b .dead).push (.cells t (xs.length+ys.length) (en+1)),.slice (some ⟨h.next,0,none⟩) (xs.length+ys.length) (xs.length+ys.length),?_,x1.push _,.inr ⟨h.next,by rw[hlen],⟨t,by
   have:=W1.AEZ (.cells t (xs.length+ys.length) (en+1)) h.next;rw[this,if_pos (show h.next=(h.put b .dead).next from rfl),hlen],h3⟩,hk2,W.big⟩,rfl,fun b' el' L' hne r'=>?_⟩
  ·unfold DP Dm
   simp only[y.lenV,y.src rfl,Ap,zL];have e1:xd (xs.length+ys.length) xs.length=false:=by
    cases e:xd (xs.length+ys.length) xs.length
    ·rfl
    ·have:=Au.1 e;omega
   have e2:xd (yl (xW (xs.length+ys.length)) (xW eb)) JU=true:=Au.2 (H8 hm);rw[e1];simp only[e2,cond_true,ha];unfold G9;have e3:xr xs.length (yl xs.length 1)=true:=Az.2 (AAi _).symm;simp only[hcc,e3,h2];unfold E3;have e4:Ko 0 xs.length 1 xs.length=true:=by
    unfold Ko;cases xs.length with
    |zero=>rfl
    |succ n=>exact Az.2 (by show 0+(n+1)*1=n+1;omega)
   simp only[hcc,Bm,zL,zU,cond_true,e4];rw[EE W hb2 hlt];unfold CY;rw[Ap,C3 W1];rfl
  ·have AGc:b'≠b:=fun e=>hne ⟨0,_,_,by rw[e]⟩
   have hb':b'<h.next:=r'.lt W;obtain⟨c',hc',hl'⟩:=r';refine⟨⟨c',?_,hl'⟩,LR (by omega)⟩;rw[W1.AEZ,if_neg (by show b'≠h.next;omega),W.AEn hlt,if_neg AGc,hc']
theorem ID(W:h.Wf){g:O}{z v:IN}(hv:g e=v)(hk:known v=true)(h1:cellsOf v=[v]):Ar 1 [z] [(0,1,g)] F e h=.ok (.slice (some ⟨h.next,0,none⟩) 1 1) (h.AD9 0 [v]):=by
 rw[CO,As (hk:=by rw[hv];exact hk),hv,h1,if_pos (show [v].length=1 from rfl),if_pos (show 0+1<=[z].length from IT _),Bu,C4 W];rfl
theorem Q1(W:h.Wf){v:IN}:(h.AD9 0 [v]).AEX (.slice (some ⟨h.next,0,none⟩) 1 1) [v]:=.inr ⟨h.next,0,1,0,[v],rfl,Hp.Row.new W 0 [v],by simp,rfl⟩
theorem HH(k:xy):∀ Z:List Int,Ba (ints k Z)=true
 |[]=>rfl
 |z::Z=>HH k Z
theorem Jf{h0:Hp}{eb en k:Nat}{v:IN}{xs:List IN}{n:Int}{kd:xy}(x0:h0.Ext h)(hk:h0.next<=k)(hk2:k<=h.next)(o:h.Own k en v xs)(hm:(xs.length+2)*(eb+1)<=1099511627776):
  ∃ h' v',DP 1 eb en v (.slice (some ⟨h.next,0,none⟩) 1 1) (h.AD9 0 [.int kd n])=.ok v' h'/\h0.Ext h'/\h'.Own k en v' (xs++[.int kd n])/\h'.next=h.next+2/\∀ b el L,¬ AEc v b->h.Row b el L->h'.Row b el L/\¬ AEc v' b:=by
 have W:=x0.wf;have x1:=x0.AD9 0 [.int kd n];have o1:(h.AD9 0 [.int kd n]).Own k en v xs:=o.ext W ((Hp.Ext.refl W).AD9 _ _);obtain⟨h',v',a,b,c,d,f⟩:=En (eb:=eb) x1 hk (ABc hk2) o1 (Q1 W) (by simp) rfl (by simpa using hm);exact⟨h',v',a,b,c,d,fun b' el L hb r=>f b' el L hb (r.push W _)⟩
def J1(F:AEA)(v:IN)(args:List IN)(h:Hp):R:=match v with
 |.func (.func g) first cap=>F g (first.toList++(args++cap.toList)) h
 |_=>.no
theorem CV{f:O}{l:List O}:EA f l F e h=J1 F (f e) (vals e l) h:=by
 show(match f e with|.func (.func g) first cap=>AEv (vals e l) (fun args=>F g (first.toList++(args++cap.toList)) h)|_=>.no)=_;unfold J1;split<;>simp only[C2]
theorem Co{g:Nat}{l c args:List IN}:J1 F (.func (.func g) ⟨l⟩ ⟨c⟩) args h=F g (l++(args++c)) h:=rfl
theorem Df{fn:Fn}{l c:List O}:EZ fn l c F e h=.ok (.func fn ⟨vals e l⟩ ⟨vals e c⟩) h:=by
 show AEv (vals e l) (fun f=>AEv (vals e c) fun c=>.ok (.func fn ⟨f⟩ ⟨c⟩) h)=_;rw[C2,C2]
end
def YZ(args:List IN)(h:Hp):R:=match args with
 |[]=>.ok (.bool true) h
 |_::_=>.no
def J3:Body:=⟨[.x (fun _=>YZ)],cNo⟩
theorem Gr{ty:TTy}{φ:Phi}{E:Nat->Prop}{h:Hp}{w w':yQ}(H:AEI ty φ E h w)(hb:Below w.heap.size w w'):AEI ty φ E h w'/\Evo φ h w φ h w':=
 ⟨{dom:=fun i p e=>⟨(H.dom i p e).1,yr (H.dom i p e).2 hb.size⟩
   inj:=H.inj
   row:=fun i p e hE=>(by rw[hb.block _ (H.dom i p e).2];exact H.row i p e hE)
   fresh:=H.fresh
   kind:=H.kind
   inp:=H.inp},
  {le:=.refl _
   new:=fun _ _ e=>.inl e
   next:=IT _
   size:=hb.size
   tape:=hb.tape
   os:=hb.os
   output:=hb.output
   frame:=fun k hk _=>hb.block k hk
   back:=fun i p e hl _=>⟨i,p,e,hl,rfl,rfl,.inl rfl⟩
   kept:=fun _ _ _=>rfl
   low:=IT _
   high:=IT _
   shape:=fun _ _=>.refl _
   only:=fun _ _ _=>rfl
   all:=fun _ h1 h2=>absurd h2 (Nat.not_lt.2 h1)}⟩
theorem YF{P:yw}{ty:TTy}{f:Nat}(hS:∃ fn,P.funcs[f]? =some fn/\fn.name≠"runtime.NumGoroutine" /\fn.body.isNone=false)(hc:∀ w:yQ,Calls P f #[] w fun e w'=>e=.returned (.bool true)/\Below w.heap.size w w'):Lm P ty f J3:=fun F args h v h' _ hr=>⟨hS,fun φ w args' AEp H=>by
 have hr:YZ args h=.ok v h':=hr;cases args with
 |cons a l=>cases hr
 |nil=>
  cases hr;cases AEp;exact(hc w).mono fun e w' ⟨he,hb⟩=>⟨_,φ,he,.bool true,(Gr H hb).1,(Gr H hb).2⟩⟩
theorem SQ{bs:FT}{n f:Nat}(hb:bs.get f=some J3){h:Hp}:call bs (xW n) f [] h=.ok (.bool true) h:=by
 rw[Ac hb];rfl
end
noncomputable section
open Go
def CC(n:Nat):List Nat:=if h:n<128 then [n]else(n % 128+128)::CC (n/128)
termination_by n
decreasing_by exact ABw (by omega) (by omega)
theorem E7{n:Nat}(h:n<128):CC n=[n]:=by rw[CC,dif_pos h]
theorem GZ{n:Nat}(h:128<=n):CC n=(n % 128+128)::CC (n/128):=by rw[CC,dif_neg (by omega)]
theorem cI:∀ (n x:Nat),x∈CC n->x<256:=by
 intro n
 induction n using ACQ with
 |_ n ih=>
  intro x hx;by_cases h:n<128
  ·rw[E7 h,List.mem_singleton]at hx
   omega
  ·rw[GZ (by omega)]at hx
   rcases List.mem_cons.1 hx with rfl|hx
   ·omega
   ·exact ih (n/128) (ABw (by omega) (by omega)) x hx
theorem YH(n:Nat):0<(CC n).length:=by
 by_cases h:n<128
 ·rw[E7 h];exact Nat.one_pos
 ·rw[GZ (by omega)];exact AA4 _
theorem EH:∀ (k n:Nat),n<128 ^ (k+1)->(CC n).length<=k+1
 |0,n,h=>by
  have h:n<128:=by simpa using h
  rw[E7 h];exact IT _
 |k+1,n,h=>by
  by_cases h1:n<128
  ·rw[E7 h1];show 1<=_;omega
  ·rw[GZ (by omega),xY]
   have h2:n<128*128 ^ (k+1):=by rw[ADj]at h;rw[zT];exact h
   have:=EH k (n/128) (ACh h2);omega
theorem Kk{n:Nat}(h:n<18446744073709551616):(CC n).length<=10:=EH 9 n (by
 have:(128:Nat) ^ (9+1)=1180591620717411303424:=by decide
 rw[this];omega)
def Fi:Nat->Nat->List Nat->Option (Nat×Nat)
 |_,_,[]=>none
 |k,acc,c::r=>if(0<k/\c=0)\/(8<k/\1<c)then none else if c<128 then some (acc+c*2 ^ (7*k),k+1)else Fi (k+1) (acc+c % 128*2 ^ (7*k)) r
theorem Mt(k:Nat):2 ^ (7*(k+1))=128*2 ^ (7*k):=by
 rw[show 7*(k+1)=7+7*k by omega,ADu,show(2:Nat) ^ 7=128 from rfl]
theorem Q9{k:Nat}(hk:k<=8):2 ^ (64 - 7*k)=128*2 ^ (64 - 7*(k+1)):=by
 rw[show 64 - 7*k=7+(64 - 7*(k+1))by omega,ADu,show(2:Nat) ^ 7=128 from rfl]
theorem cH:∀ (n k acc:Nat) (r:List Nat),k<=9->n<2 ^ (64 - 7*k)->(0<k->n≠0)->Fi k acc (CC n++r)=some (acc+n*2 ^ (7*k),k+(CC n).length):=by
 intro n
 induction n using ACQ with
 |_ n ih=>
  intro k acc r hk hn h0;by_cases h:n<128
  ·rw[E7 h]
   show Fi k acc (n::r)=_;have h1:¬ ((0<k/\n=0)\/(8<k/\1<n)):=by
    rintro (⟨a,b⟩|⟨a,b⟩)
    ·exact h0 a b
    ·have:k=9:=by omega
     subst this;have:n<2:=hn;omega
   rw[Fi,if_neg h1,if_pos h];rfl
  ·have hk8:k<=8:=by
    rcases yG k 9 with h1|h1
    ·omega
    ·have:k=9:=by omega
     subst this;have:n<2:=hn;omega
   rw[GZ (by omega)];show Fi k acc ((n % 128+128)::(CC (n/128)++r))=_;have h1:¬ ((0<k/\n % 128+128=0)\/(8<k/\1<n % 128+128)):=by omega
   have h2:¬ n % 128+128<128:=by omega
   rw[Fi,if_neg h1,if_neg h2];have hlt:n/128<2 ^ (64 - 7*(k+1)):=by
    rw[Q9 hk8]at hn;exact ACh hn
   rw[ih (n/128) (ABw (by omega) (by omega)) (k+1) _ r (by omega) hlt (by omega)];have e2:(n % 128+128) % 128=n % 128:=by omega
   have e4:acc+n % 128*2 ^ (7*k)+n/128*(128*2 ^ (7*k))=acc+n*2 ^ (7*k):=by
    have e5:n*2 ^ (7*k)=(128*(n/128)+n % 128)*2 ^ (7*k):=by rw[Nat.div_add_mod]
    rw[e5,AA6,zT 128 (n/128),ADX];omega
   rw[e2,Mt,e4,xY,show k+1+(CC (n/128)).length=k+((CC (n/128)).length+1)by omega]
theorem Ru:∀ (l:List Nat) (k acc v j:Nat),k<=9->(∀ x∈l,x<256)->Fi k acc l=some (v,j)->∃ n r,l=CC n++r/\v=acc+n*2 ^ (7*k)/\j=k+(CC n).length/\(0<k->n≠0)/\n<2 ^ (64 - 7*k)
 |[],k,acc,v,j,_,_,h=>by cases h
 |c::r,k,acc,v,j,hk,hb,h=>by
  rw[Fi]at h;split at h
  ·cases h
  ·rename_i h1
   split at h
   ·rename_i h2
    cases h;refine⟨c,r,by rw[E7 h2];rfl,rfl,by rw[E7 h2];rfl,by omega,?_⟩;rcases yG k 9 with h3|h3
    ·have h4:2 ^ 8<=2 ^ (64 - 7*k):=Nat.pow_le_pow_right (by omega) (by omega)
     have h5:(2:Nat) ^ 8=256:=rfl;omega
    ·have:k=9:=by omega
     subst this;show c<2;omega
   ·rename_i h2
    have hk8:k<=8:=by omega
    obtain⟨n,q,rfl,e2,e3,e4,e5⟩:=Ru r (k+1) _ v j (by omega) (fun x hx=>hb x (List.mem_cons_of_mem _ hx)) h;have hc:=hb c List.mem_cons_self;have hn:n≠0:=e4 (AA4 k);have hi:CC (c % 128+128*n)=c::CC n:=by
     rw[GZ (by omega)];have a1:(c % 128+128*n) % 128+128=c:=by omega
     have a2:(c % 128+128*n)/128=n:=by omega
     rw[a1,a2]
    refine⟨c % 128+128*n,q,by rw[hi];rfl,?_,?_,fun _=>by omega,?_⟩
    ·have e6:n*(128*2 ^ (7*k))=128*n*2 ^ (7*k):=by rw[<- ADX,zT n 128]
     rw[e2,Mt,AA6,e6];omega
    ·rw[e3,hi,xY];omega
    ·rw[Q9 hk8];omega
theorem sW{v:Nat}(h:v<18446744073709551616)(r:List Nat):Fi 0 0 (CC v++r)=some (v,(CC v).length):=by
 have:=cH v 0 0 r (by omega) h (by omega)
 simpa using this
theorem cF{l:List Nat}{v j:Nat}(hb:∀ x∈l,x<256)(h:Fi 0 0 l=some (v,j)):l=CC v++l.drop j/\j=(CC v).length/\v<18446744073709551616:=by
 obtain⟨n,r,e1,e2,e3,_,e5⟩:=Ru l 0 0 v j (by omega) hb h;have hv:v=n:=by simpa using e2
 subst hv;have hj:j=(CC v).length:=by simpa using e3
 have e5:v<18446744073709551616:=e5;refine⟨?_,hj,e5⟩;subst e1;rw[hj,List.drop_left]
theorem lr{l:List Nat}{v j:Nat}(hb:∀ x∈l,x<256)(h:Fi 0 0 l=some (v,j)):j<=l.length:=by
 obtain⟨e1,e2,_⟩:=cF hb h;have:=congrArg List.length e1;rw[No]at this;omega
end
end Go.Proofs.YtbjadbhkogcfeaaGreat
