/-
  Part ZG of what Lawlt stands on: printed by program, names and spaces cut.
-/
import Derived.Test.YtbjadbhkogcfeaaGreatZF
import Derived.Scope
import Derived.Below
import Derived.ChangeSame
import Derived.ChangeSlices
import Derived.ChangeArms
open Go renaming Value→IN,IntKind→yy,World→zP,Program→zp,Addr→ACS,ResultVar→ADI,results→AEP
open Nat renaming le_refl→IT,zero_add→If,succ→yg,ble→yl,beq→yu,lt_or_ge→zD,le_trans→zO,eq_zero_or_pos→za,mul→zi,blt→zm,lt_of_lt_of_le→zw,add→AAB,add_eq→AAD,mul_comm→AAP,beq_refl→AAQ,mul_one→AA0,succ_pos→ABz,add_mul→AB1,le_succ_of_le→ACU,div_lt_self→ACs,strongRecOn→ADS,lt_trans→ADY,div_lt_of_lt_mul→ADh,succ_eq_add_one→ADp,mul_assoc→AEu,pow_succ→AFA,pow_add→AFK
open List renaming length_append→No,getElem?_eq_getElem→sh,getD_eq_getElem?_getD→yf,length_cons→yh,append_nil→yw,append_assoc→zC,getElem?_eq_some_iff→zG,getElem?_append_right→zI,length_take→zJ,length_nil→zS,nil_append→zU,length_drop→zl,drop_of_length_le→zx,getElem?_take→AA9,all_eq_true→ABL,getElem?_drop→ABf,size_toArray→ACQ,mapM_cons→ACy
open Go.Result renaming andThen_ok→ye
open Go.Sem renaming run_bind→ym,run_pure→yn
open Bool renaming and_eq_true→yr,rec→AA1
open And renaming intro→yx
open Int renaming ofNat→zY
open Go.Value renaming okWide→AAI
open Go.IntKind renaming i64→AAh,u8→AEi
open Array renaming getElem?_eq_some_iff→AAm
open UInt8 renaming ofNat→ABB
open SizeOf renaming sizeOf→ACv
open Go.Cell renaming okWide→ADE
open Go.DataW renaming TrodAll→AEb
open Go.Exit renaming inBlock→AEz
set_option linter.unusedSimpArgs false
set_option linter.unusedVariables false
namespace Go.Proofs.YtbjadbhkogcfeaaGreat
noncomputable section
open Go
section
variable {P:zp}{ty:TTy}{F:AFi}{A:List Nat}{N:Nat}
theorem Evo.AIg{φ ψ:Phi}{h g h':Hp}{w w':zP}(ev:Evo φ g w ψ h' w')(h1:g.bl=h.bl)(h2:g.next=h.next)(h3:g.low=h.low)(h4:g.high=h.high):Evo φ h w ψ h' w' where
 le:=ev.le
 new:=by rw[<- h2];exact ev.new
 next:=by rw[<- h2];exact ev.next
 size:=ev.size
 tape:=ev.tape
 os:=ev.os
 output:=ev.output
 frame:=by unfold Live;rw[<- h1];exact ev.frame
 back:=by
  have:=ev.back;unfold Live at this ⊢;rw[h1]at this;exact this
 kept:=by rw[<- h1,<- h2];exact ev.kept
 low:=by rw[<- h3];exact ev.low
 high:=by rw[<- h4];exact ev.high
 shape:=by rw[<- h1,<- h2];exact ev.shape
 only:=by rw[<- h1,<- h2];exact ev.only
 all:=by rw[<- h2];exact ev.all
theorem YZ(hT:DG P ty)(hF:Db P ty F)(hm:P.follows .mixedOrders=true){id:Nat}{ops:Array Oper}{draw:Bool}{σ:Sg}{k:Option (Sg->C)}{e:Env}{h:Hp}{X:X}(hr:Bv ty A (.region id ops draw) σ k F e h=X)(hn:X≠.no)
  (hd:Cf N (.region id ops draw)=true){φ:Phi}{w:zP}{a:Act}(hS:AG2 A σ)(HW:AFp ty φ nil h w)(HA:AR N φ (AF4 A σ e) a){Q:Exit->Act->zP->Prop}(p:Post ty A N F φ h w k X Q):(Code.region id ops draw).wp P Q a w:=by
 have hN:∀ o∈ops.toList,∀ d,o.dst=some d->d<N:=by
  intro o ho d hod;unfold Cf at hd;rw[ABL]at hd;have:=hd o ho;rw[hod]at this;exact BQ.1 this
 unfold Bv at hr;cases draw with
 |false=>
  simp only at hr;obtain⟨ρ,H,V,run,T,σ',e',tr,q1,q2,q3,q4,q5⟩:=PS hT hF ops.toList [] σ e h X (fun j o _=>.plain ty o) hS hr hn;refine wp_region_list ?_;have:=Pe (Q:=Q) (a:=a) (w:=w) (φ:=φ) ops.toList tr hN (by rw[q2];exact HW) (by rw[q1];exact HA) fun _ ψ a' w' r1 r2 r3=>p.then ⟨q4,r1,by rw[<- q3];exact r2,by rw[<- q2];exact r3⟩ q5
  simpa using this
 |true=>
  simp only at hr;cases hdr:Ut ty ops.toList with
  |none=>rw[hdr]at hr;exact absurd hr.symm hn
  |some ahs=>
   rw[hdr]at hr;obtain⟨bs,hbs,he,hs,hah⟩:=Z3 hdr;have hr:Gx ty A ops.toList (LX k) ahs ops.toList σ F e {next:=h.next,low:=h.low,high:=h.high,mark:=h.next,bl:=h.bl}=X:=hr;obtain⟨ρ,H,V,run,T,σ',e',tr,q1,q2,q3,q4,q5⟩:=PS hT hF ops.toList ahs σ e _ X (fun j o ho=>by obtain⟨xs,_,h⟩:=hah j o ho;exact h.ok) hS hr hn;have:=kX (id:=id) (Q:=Q) (a:=a) (w:=w) (φ0:=φ) hm (QI hbs he) (iu hbs he hs hah tr) tr hN (by rw[q2];exact HW.AG8 rfl rfl) (by rw[q1];exact HA)
    fun ψ a' w' r1 r2 r3=>p.then ⟨q4,r1,by rw[<- q3];exact r2,by rw[q2]at r3;exact r3.AIg rfl rfl rfl rfl⟩ q5
   simpa using this
theorem Vg(hm:P.follows .mixedOrders=true){c:Code}{body:C}(ih:∀ {e:Env} {h:Hp} {X:X},body F e h=X->X≠.no->∀ (φ:Phi) (w:zP) (a:Act),AFp ty φ nil h w->AR N φ (AF4 A [] e) a->∀ (Q:Exit->Act->zP->Prop),Post ty A N F φ h w none X Q->c.wp P Q a w):
  ∀ (n:Nat) {e:Env} {h:Hp} {X:X},iter body n F e h=X->X≠.no->∀ (φ:Phi) (w:zP) (a:Act),AFp ty φ nil h w->AR N φ (AF4 A [] e) a->∀ (Q:Exit->Act->zP->Prop),Post ty A N F φ h w none X Q->Code.rounds P c Q n a w
 |0,e,h,X,hr,hn=>by exact absurd hr.symm hn
 |n+1,e,h,X,hr,hn=>by
  intro φ w a HW HA Q p;unfold iter at hr;cases hb:body F e h with
  |no=>rw[hb]at hr;exact absurd hr.symm hn
  |norm e1 h1=>
   rw[hb]at hr;simp only at hr;refine ih hb (fun h=>by cases h) φ w a HW HA _ {go:=(fun _ h=>by cases h),norm:=fun _ e' h' ψ a' w' g hx=>?_,exit:=(fun _ _ _ _ _ _ _ hx=>by cases hx),ret:=(fun _ _ _ _ _ _ hx=>by cases hx)};cases hx;exact Vg hm ih n hr hn _ _ _ g.rel g.ar _ {go:=(fun _ h=>by cases h),norm:=fun h e2 h2 χ a2 w2 g2 hx=>p.norm h e2 h2 χ a2 w2 (g.trans g2) hx,exit:=fun id e2 h2 χ a2 w2 g2 hx=>p.exit id e2 h2 χ a2 w2 (g.trans g2) hx,ret:=fun e2 h2 χ a2 w2 g2 hx=>p.ret e2 h2 χ a2 w2 (g.trans g2) hx}
  |exit i e1 h1=>
   rw[hb]at hr;refine ih hb (fun h=>by cases h) φ w a HW HA _ {go:=(fun _ h=>by cases h),norm:=(fun _ _ _ _ _ _ _ hx=>by cases hx),exit:=fun id e2 h2 χ a2 w2 g2 hx=>p.exit id e2 h2 χ a2 w2 g2 (hr.symm.trans hx),ret:=(fun _ _ _ _ _ _ hx=>by cases hx)}
  |ret e1 h1=>
   rw[hb]at hr;refine ih hb (fun h=>by cases h) φ w a HW HA _ {go:=(fun _ h=>by cases h),norm:=(fun _ _ _ _ _ _ _ hx=>by cases hx),exit:=(fun _ _ _ _ _ _ _ hx=>by cases hx),ret:=fun e2 h2 χ a2 w2 g2 hx=>p.ret e2 h2 χ a2 w2 g2 (hr.symm.trans hx)}
theorem Ry{φ:Phi}{h:Hp}{w:zP}{k':Sg->C}{X:X}{Q:Exit->Act->zP->Prop}(p:Post ty A N F φ h w (some k') X Q){a:C}{e:Env}(hr:BL a (k' []) F e h=X)(hn:X≠.no):
  ∃ X1,a F e h=X1/\X1≠.no/\Post ty A N F φ h w none X1 Q:=by
 unfold BL at hr;cases hb:a F e h with
 |no=>rw[hb]at hr;exact absurd hr.symm hn
 |norm e1 h1=>
  rw[hb]at hr;exact⟨_,rfl,(fun h=>by cases h),{go:=(fun _ h=>by cases h),norm:=fun _ e2 h2 χ a2 w2 g2 hx=>by cases hx;exact p.go k' rfl [] _ _ χ a2 w2 g2 hr,exit:=(fun _ _ _ _ _ _ _ hx=>by cases hx),ret:=(fun _ _ _ _ _ _ hx=>by cases hx)}⟩
 |exit i e1 h1=>
  rw[hb]at hr;exact⟨_,rfl,(fun h=>by cases h),{go:=(fun _ h=>by cases h),norm:=(fun _ _ _ _ _ _ _ hx=>by cases hx),exit:=fun id e2 h2 χ a2 w2 g2 hx=>p.exit id e2 h2 χ a2 w2 g2 (hr.symm.trans hx),ret:=(fun _ _ _ _ _ _ hx=>by cases hx)}⟩
 |ret e1 h1=>
  rw[hb]at hr;exact⟨_,rfl,(fun h=>by cases h),{go:=(fun _ h=>by cases h),norm:=(fun _ _ _ _ _ _ _ hx=>by cases hx),exit:=(fun _ _ _ _ _ _ _ hx=>by cases hx),ret:=fun e2 h2 χ a2 w2 g2 hx=>p.ret e2 h2 χ a2 w2 g2 (hr.symm.trans hx)}⟩
theorem Sf{φ:Phi}{h:Hp}{w:zP}{X:X}{Q:Exit->Act->zP->Prop}(p:Post ty A N F φ h w none X Q){id:Nat}{a:C}{e:Env}(hr:Ae id a F e h=X)(hn:X≠.no):
  ∃ X1,a F e h=X1/\X1≠.no/\Post ty A N F φ h w none X1 (AEz id Q):=by
 unfold Ae at hr;cases hb:a F e h with
 |no=>rw[hb]at hr;exact absurd hr.symm hn
 |norm e1 h1=>
  rw[hb]at hr;exact⟨_,rfl,(fun h=>by cases h),{go:=(fun _ h=>by cases h),norm:=fun h e2 h2 χ a2 w2 g2 hx=>p.norm h e2 h2 χ a2 w2 g2 (hr.symm.trans hx),exit:=(fun _ _ _ _ _ _ _ hx=>by cases hx),ret:=(fun _ _ _ _ _ _ hx=>by cases hx)}⟩
 |exit i e1 h1=>
  rw[hb]at hr;simp only at hr;refine⟨_,rfl,(fun h=>by cases h),{go:=(fun _ h=>by cases h),norm:=fun _ _ _ _ _ _ _ hx=>(by cases hx),exit:=fun j e2 h2 χ a2 w2 g2 hx=>?_,ret:=fun _ _ _ _ _ _ hx=>(by cases hx)}⟩;cases hx;unfold AEz;cases hq:yu i id with
  |true=>
   rw[hq]at hr;simp only[Ay.1 hq,if_true];exact p.norm rfl _ _ χ a2 w2 g2 hr.symm
  |false=>
   rw[hq]at hr;simp only[FR hq,if_false];exact p.exit i _ _ χ a2 w2 g2 hr.symm
 |ret e1 h1=>
  rw[hb]at hr;exact⟨_,rfl,(fun h=>by cases h),{go:=(fun _ h=>by cases h),norm:=(fun _ _ _ _ _ _ _ hx=>by cases hx),exit:=(fun _ _ _ _ _ _ _ hx=>by cases hx),ret:=fun e2 h2 χ a2 w2 g2 hx=>p.ret e2 h2 χ a2 w2 g2 (hr.symm.trans hx)}⟩
theorem ES(hT:DG P ty)(hF:Db P ty F)(hm:P.follows .mixedOrders=true):∀ (c:Code) {σ:Sg} {k:Option (Sg->C)} {e:Env} {h:Hp} {X:X},Bv ty A c σ k F e h=X->X≠.no->Cf N c=true->
  ∀ (φ:Phi) (w:zP) (a:Act),AG2 A σ->AFp ty φ nil h w->AR N φ (AF4 A σ e) a->∀ (Q:Exit->Act->zP->Prop),Post ty A N F φ h w k X Q->c.wp P Q a w
 |.skip,σ,k,e,h,X,hr,hn,hd=>by
  intro φ w a hS HW HA Q p;exact wp_skip (p.then ⟨hS,HW,HA,.refl _ _ _⟩ hr)
 |.region id ops draw,σ,k,e,h,X,hr,hn,hd=>by
  intro φ w a hS HW HA Q p;exact YZ hT hF hm hr hn hd hS HW HA p
 |.seq x y,σ,k,e,h,X,hr,hn,hd=>by
  intro φ w a hS HW HA Q p;have hd:(Cf N x && Cf N y)=true:=hd;rw[yr]at hd;have hr:Bv ty A x σ (some fun σ=>Bv ty A y σ k) F e h=X:=hr;refine wp_seq (ES hT hF hm x hr hn hd.1 _ _ _ hS HW HA _ {go:=fun k' hk σ' e' h' ψ a' w' g hx=>?_,norm:=fun h=>(by cases h),exit:=p.exit,ret:=p.ret});cases hk;exact ES hT hF hm y hx hn hd.2 _ _ _ g.sg g.rel g.ar _ {go:=fun k' hk σ2 e2 h2 χ a2 w2 g2 hx=>p.go k' hk σ2 e2 h2 χ a2 w2 (g.trans g2) hx,norm:=fun h e2 h2 χ a2 w2 g2 hx=>p.norm h e2 h2 χ a2 w2 (g.trans g2) hx,exit:=fun id e2 h2 χ a2 w2 g2 hx=>p.exit id e2 h2 χ a2 w2 (g.trans g2) hx,ret:=fun e2 h2 χ a2 w2 g2 hx=>p.ret e2 h2 χ a2 w2 (g.trans g2) hx}
 |.cond c x y,σ,k,e,h,X,hr,hn,hd=>by
  intro φ w a hS HW HA Q p;have hd:(Cf N x && Cf N y)=true:=hd;rw[yr]at hd;unfold Bv at hr;cases hc:cO ⟨A,σ⟩ c with
  |none=>rw[hc]at hr;exact absurd hr.symm hn
  |some cc=>
   rw[hc]at hr;simp only at hr;have AGK:=HA.ev (F0 hc e);have two:∀ {kx:Option (Sg->C)} {Y:Go.Proofs.YtbjadbhkogcfeaaGreat.X},Id cc (Bv ty A x σ kx) (Bv ty A y σ kx) F e h=Y->Y≠.no->Post ty A N F φ h w kx Y Q->(Code.cond c x y).wp P Q a w:=by
    intro kx Y hr hn p;unfold Id at hr;cases hv:cc e with
    |bool t=>
     rw[hv]at hr AGK;have hev:=AGK.AGb;cases t with
     |true=>exact wp_cond_true hev (ES hT hF hm x hr hn hd.1 _ _ _ hS HW HA _ p)
     |false=>exact wp_cond_false hev (ES hT hF hm y hr hn hd.2 _ _ _ hS HW HA _ p)
    |_=>rw[hv]at hr;exact absurd hr.symm hn
   cases k with
   |none=>exact two hr hn p
   |some k'=>
    simp only at hr;cases hf:(LM x && LM y)with
    |false=>rw[hf]at hr;exact two hr hn p
    |true=>
     rw[hf]at hr;obtain⟨X1,h1,h2,p1⟩:=Ry p hr hn;exact two h1 h2 p1
 |.block id x,σ,k,e,h,X,hr,hn,hd=>by
  intro φ w a hS HW HA Q p;have hd:Cf N x=true:=hd;have one:∀ {Y:Go.Proofs.YtbjadbhkogcfeaaGreat.X},Ae id (Bv ty A x [] none) F e h=Y->Y≠.no->Post ty A N F φ h w none Y Q->(Code.block id x).wp P Q a w:=by
   intro Y hr hn p;obtain⟨X1,h1,h2,p1⟩:=Sf p hr hn;exact wp_block (ES hT hF hm x h1 h2 hd _ _ _ (.nil A) HW (HA.nil hS) _ p1)
  unfold Bv at hr;cases k with
  |none=>exact one hr hn p
  |some k'=>
   simp only at hr;obtain⟨X1,h1,h2,p1⟩:=Ry p hr hn;exact one h1 h2 p1
 |.loop x,σ,k,e,h,X,hr,hn,hd=>by
  intro φ w a hS HW HA Q p;have hd:Cf N x=true:=hd;have plain:iter (Bv ty A x [] none) rounds F e h=X->(Code.loop x).wp P Q a w:=by
   intro hr;refine wp_loop_rounds rounds (Vg hm (fun h1 h2 φ w a HW HA Q p=>ES hT hF hm x h1 h2 hd _ _ _ (.nil A) HW HA _ p) rounds hr hn _ _ _ HW (HA.nil hS) _ {go:=fun _ h=>(by cases h),norm:=fun _ e2 h2 χ a2 w2 g2 hx=>?_,exit:=p.exit,ret:=p.ret})
   exfalso
   subst hx;have:∀ (n:Nat) (e:Env) (h:Hp),iter (Bv ty A x [] none) n F e h≠.norm e2 h2:=by
    intro n
    induction n with
    |zero=>intro e h hq;cases hq
    |succ n ih=>
     intro e h hq;unfold iter at hq;cases hb:Bv ty A x [] none F e h with
     |norm e1 h1=>rw[hb]at hq;exact ih e1 h1 hq
     |no=>rw[hb]at hq;cases hq
     |exit _ _ _=>rw[hb]at hq;cases hq
     |ret _ _=>rw[hb]at hq;cases hq
   exact this _ e h hr
  unfold Bv at hr;cases hw:WW A x with
  |none=>rw[hw]at hr;exact plain hr
  |some kw=>
   rw[hw]at hr;have hr:JL kw (Bv ty A x [] none) F e h=X:=hr;obtain⟨id,o1,o2,r2,W⟩:=SU hw;unfold JL at hr;split at hr
   case h_2=>exact absurd hr.symm hn
   rename_i ad hit;split at hr
   case h_2=>exact plain hr
   rename_i m since seen last AHU;split at hr
   case h_2=>exact absurd hr.symm hn
   split at hr
   case h_2=>exact absurd hr.symm hn
   rename_i es c AHV;split at hr
   case h_2=>exact plain hr
   have hdd:Cf N (.region id #[o1,o2] false)=true/\Cf N (.seq (.cond (.tmp kw.more) .skip (.exit kw.out)) r2)=true:=by
    rw[W.code]at hd;have hd:(Cf N (.region id #[o1,o2] false) && Cf N (.seq (.cond (.tmp kw.more) .skip (.exit kw.out)) r2))=true:=hd;exact Bool.and_eq_true_iff.1 hd
   have hnm:kw.nx<N/\kw.more<N:=by
    have:=hdd.1;unfold Cf at this;simp only[List.all_cons,List.all_nil,Bool.and_true,yr,W.AHw,W.AID]at this;exact⟨BQ.1 this.1,BQ.1 this.2⟩
   have AMF:ACv (Code.seq (.cond (.tmp kw.more) .skip (.exit kw.out)) r2)<ACv x:=by
    rw[W.code];simp;omega
   obtain⟨hoff,hr⟩:=vr hr hn;obtain⟨AFs,hr⟩:=vr hr hn;exact St W hnm (fun h1 h2 φ w a HW HA Q p=>ES hT hF hm (.seq (.cond (.tmp kw.more) .skip (.exit kw.out)) r2) h1 h2 hdd.2 _ _ _ (.nil A) HW HA _ p) hit hoff (Av.1 AFs) hr hn HW (HA.nil hS) p.exit
 |.exit id,σ,k,e,h,X,hr,hn,hd=>by
  intro φ w a hS HW HA Q p;have hr:(.exit id e h:Go.Proofs.YtbjadbhkogcfeaaGreat.X)=X:=hr;exact wp_exit (p.exit id e h φ a w ⟨.nil A,HW,HA.nil hS,.refl _ _ _⟩ hr.symm)
 |.ret,σ,k,e,h,X,hr,hn,hd=>by
  intro φ w a hS HW HA Q p;have hr:(.ret e h:Go.Proofs.YtbjadbhkogcfeaaGreat.X)=X:=hr;exact wp_ret (p.ret e h φ a w ⟨.nil A,HW,HA.nil hS,.refl _ _ _⟩ hr.symm)
 |.rangeFunc _ _ _ _,_,_,_,_,X,hr,hn,_=>by exact absurd hr.symm hn
 |.scope x,σ,k,e,h,X,hr,hn,hd=>by
  intro φ w a hS HW HA Q p;have hd:Cf N x=true:=hd;have hr:Bv ty A x σ k F e h=X:=hr;exact wp_scope_straight (ES hT hF hm x hr hn hd _ _ _ hS HW HA _ {go:=p.go,norm:=p.norm,exit:=p.exit,ret:=p.ret})
 |.label _,σ,k,e,h,X,hr,hn,hd=>by
  intro φ w a hS HW HA Q p;exact wp_label (p.then ⟨hS,HW,HA,.refl _ _ _⟩ hr)
 |.goto _,_,_,_,_,X,hr,hn,_=>by exact absurd hr.symm hn
 |.refuse _,_,_,_,_,X,hr,hn,_=>by exact absurd hr.symm hn
termination_by c=>ACv c
decreasing_by
 all_goals simp_wf
 all_goals first|omega|(simp_all;omega)
end
end
noncomputable section
open Go
section
variable {P:zp}{ty:TTy}{A:List Nat}{N:Nat}{φ:Phi}{h h':Hp}{w:zP}{e:Env}{a:Act}{v:IN}
theorem OR{t:Nat}(h:PQ A t=true)(e:Env):AF4 A [] e t=some (J t e):=by
 unfold PQ at h;rw[Ec];show(match memN t A with|true=>none|false=>match zm t 240 with|true=>some (J t e)|false=>none)=_;cases hm:memN t A with
 |true=>rw[hm]at h;cases h
 |false=>
  rw[hm]at h;have h:zm t 240=true:=h;simp only[h]
def Rj(tmps:Array IN):ADI->Sem IN
 |.tmp t=>pure (tmps.getD t undef)
 |.cell a t=>do loadVar t (<- asAddr (tmps.getD a undef))
theorem Td(fn:Func)(tmps:Array IN):AEP fn tmps=(do let vs <- fn.results.mapM (Rj tmps);pure (if h:vs.size=1 then vs[0]else .tuple vs)):=by
 unfold AEP
 congr 2
theorem Y6(f:ADI->Sem IN)(l:Array ADI){vs:List IN}(h:(l.toList.mapM f).run P w=.ok vs w):(l.mapM f).run P w=.ok ⟨vs⟩ w:=by
 have:l.mapM f=List.toArray <$> l.toList.mapM f:=by
  conv=>lhs;rw[<- Array.toArray_toList (xs:=l)]
  rw[List.mapM_toArray]
 rw[this,map_eq_pure_bind,ym,h,ye,yn]
theorem G1(hT:DG P ty)(H:AFp ty φ nil h w)(HA:AR N φ (AF4 A [] e) a):∀ {l:List ADI} {rs:List RV} {k:List IN->R},rsC ty A l=some rs->Go.Proofs.YtbjadbhkogcfeaaGreat.results e h k rs=.ok v h'->
  ∃ vs vs',AF3 φ vs vs'/\k vs=.ok v h'/\(l.mapM (Rj a.tmps)).run P w=.ok vs' w
 |[],rs,k,hc,hr=>by
  cases hc;exact⟨[],[],.nil,hr,by simp⟩
 |.tmp t::l,rs,k,hc,hr=>by
  unfold rsC at hc;split at hc
  ·cases hc
  rename_i ht;split at hc
  case h_2=>cases hc
  rename_i r hrs;cases hc;unfold Go.Proofs.YtbjadbhkogcfeaaGreat.results at hr;have hr:AFv (J t e) (fun v=>Go.Proofs.YtbjadbhkogcfeaaGreat.results e h (fun vs=>k (v::vs)) r)=.ok v h':=hr;rw[BV]at hr;obtain⟨vs,vs',h1,h2,h3⟩:=G1 hT H HA hrs hr;have h4:=HA.rel t _ (OR ht e);exact⟨_,_,.cons h4 h1,h2,by simp[ACy,Rj,h3]⟩
 |.cell c t::l,rs,k,hc,hr=>by
  unfold rsC at hc;split at hc
  ·cases hc
  rename_i ht;split at hc
  case h_2=>cases hc
  rename_i ti hti;split at hc
  case h_2=>cases hc
  rename_i r hrs;have T:=hT t ti hti;have h4:=HA.rel c _ (OR ht e);cases hag:ti.k.agg with
  |true=>
   rw[hag]at hc;cases hc;unfold Go.Proofs.YtbjadbhkogcfeaaGreat.results FO at hr;simp only at hr;cases AIE:Dy (J c e)with
   |no=>rw[AIE]at hr;cases hr
   |ok ad=>
    rw[AIE]at hr;simp only at hr;cases hl:loadN ti.size ad h with
    |no=>rw[hl]at hr;cases hr
    |ok u h2=>
     rw[hl]at hr;simp only[BV]at hr;rw[H3 AIE]at h4;obtain⟨a',ha',hra⟩:=h4.AGl;obtain⟨_,l',hv,hrun⟩:=Q1 (P:=P) H hl hra (fun h=>h);obtain⟨vs,vs',h1,h5,h3⟩:=G1 hT H HA hrs hr;refine⟨_,_,.cons hv h1,h5,?_⟩;have:(Rj a.tmps (.cell c t)).run P w=.ok (.agg l'.toArray) w:=by
      unfold Rj;simp only[ha',asAddr,ym,yn,ye,loadVar,T.agg,hag,if_true,T.size,hrun]
     simp[ACy,this,h3]
  |false=>
   rw[hag]at hc;cases hc;unfold Go.Proofs.YtbjadbhkogcfeaaGreat.results FO at hr;simp only at hr;cases AIE:Dy (J c e)with
   |no=>rw[AIE]at hr;cases hr
   |ok ad=>
    rw[AIE]at hr;simp only at hr;cases hl:AFk ad h with
    |no=>rw[hl]at hr;cases hr
    |ok u h2=>
     rw[hl]at hr;simp only[BV]at hr;rw[H3 AIE]at h4;obtain⟨a',ha',hra⟩:=h4.AGl;obtain⟨_,v',hcell,hv⟩:=Q0 H hl hra (fun h=>h);obtain⟨vs,vs',h1,h5,h3⟩:=G1 hT H HA hrs hr;refine⟨_,_,.cons hv h1,h5,?_⟩;have:(Rj a.tmps (.cell c t)).run P w=.ok v' w:=by
      unfold Rj;simp only[ha',asAddr,ym,yn,ye,loadVar,T.agg,hag,Bool.false_eq_true,if_false,run_load,hcell]
     simp[ACy,this,h3]
theorem Nx(hT:DG P ty)(H:AFp ty φ nil h w)(HA:AR N φ (AF4 A [] e) a){fn:Func}{rs:List RV}(hc:rsC ty A fn.results.toList=some rs)(hr:En rs e h=.ok v h'):
  h'=h/\∃ v',AFm φ v v'/\(AEP fn a.tmps).run P w=.ok v' w:=by
 unfold En at hr;obtain⟨vs,vs',h1,h2,h3⟩:=G1 hT H HA hc hr;have hrun:=Y6 (P:=P) (w:=w) (Rj a.tmps) fn.results h3;rw[Td];simp only[ym,hrun,ye,yn];unfold JX at h2;split at h2
 ·cases h2
  cases h1 with
  |cons hv ht=>cases ht;exact⟨rfl,_,hv,rfl⟩
 ·rename_i hne
  cases h2;refine⟨rfl,_,.tuple h1,?_⟩;have:vs'.length≠1:=by
   rw[h1.length];intro hl;cases vs with
   |nil=>cases hl
   |cons x l=>
    cases l with
    |nil=>exact hne x rfl
    |cons _ _=>simp at hl
  have hs:¬ (Array.mk vs').size=1:=this;rw[dif_neg hs]
theorem SB:∀ (args:List IN) (e:Env) (i t:Nat),i+args.length<=240->t<240->(AS e i args).get t=if i<=t/\t<i+args.length then args.getD (t - i) AFl else e.get t
 |[],e,i,t,_,_=>by
  rw[if_neg (by simp)];rfl
 |v::l,e,i,t,hn,ht=>by
  simp only[yh]at hn;unfold AS;rw[SB l _ (i+1) t (by omega) ht];by_cases h1:i+1<=t/\t<i+1+l.length
  ·rw[if_pos h1,if_pos (by simp only[yh];omega)]
   have:t - i=(t - (i+1))+1:=by omega
   rw[this,List.getD_cons_succ]
  ·rw[if_neg h1,Env.AFy _ _ _ _ (by omega) ht]
   by_cases h2:t=i
   ·subst h2
    rw[if_pos rfl,if_pos (by simp only[yh];omega)];simp
   ·rw[if_neg h2,if_neg (by simp only[yh];omega)]
set_option maxRecDepth 100000 in
theorem qx{t:Nat}(ht:t<240):e0.get t=AFl:=by
 have H:MB (fun i=>e0.get i=AFl) 240:=by
  repeat' (first|exact trivial|refine⟨rfl,?_⟩)
 exact H.at t ht
theorem dY{args args':List IN}(hr:AF3 φ args args')(hn:args.length<=240)(n:Nat):
  AR (max args.length n) φ (AF4 A [] (AS e0 0 args)) {tmps:=(⟨args'⟩:Array IN)++Array.replicate (n - (⟨args'⟩:Array IN).size) undef,defers:=[]} where
 size:=by
  have:=hr.length;simp only[Array.size_append,Array.size_replicate,ACQ];omega
 defs:=rfl
 rel:=fun t u hu=>by
  rw[Ec]at hu;have hu:(match memN t A with|true=>none|false=>match zm t 240 with|true=>some (J t (AS e0 0 args))|false=>none)=some u:=hu;cases hm:memN t A with
  |true=>rw[hm]at hu;cases hu
  |false=>
   rw[hm]at hu;simp only at hu;cases hb:zm t 240 with
   |false=>rw[hb]at hu;cases hu
   |true=>
    rw[hb]at hu;cases hu;have ht:=BQ.1 hb;rw[DD t ht,SB args e0 0 t (by omega) ht,qx ht];have hlen:=hr.length;simp only[Array.getD_eq_getD_getElem?];by_cases h1:t<args.length
    ·rw[if_pos (by omega),Nat.sub_zero,Array.getElem?_append_left (by simp only[ACQ];omega)]
     obtain⟨v',h2,h3⟩:=hr.get t args[t] (sh h1);have:args.getD t AFl=args[t]:=by rw[yf,sh h1];rfl
     rw[this];have e2:(⟨args'⟩:Array IN)[t]? =some v':=by simpa using h2
     rw[e2];exact h3
    ·rw[if_neg (by omega),Array.getElem?_append_right (by simp only[ACQ];omega),Array.getElem?_replicate]
     split<;>exact .tuple .nil
theorem Yd{l:List ADI}{rs:List RV}(hc:rsC ty A l=some rs):Tw rs=none:=by
 cases l with
 |nil=>cases hc;rfl
 |cons x l=>
  cases x with
  |tmp t=>
   unfold rsC at hc;split at hc
   ·cases hc
   ·split at hc
    ·cases hc;rfl
    ·cases hc
  |cell c t=>
   unfold rsC at hc;split at hc
   ·cases hc
   ·split at hc
    ·split at hc
     ·split at hc
      ·cases hc;rfl
      ·cases hc;rfl
     ·cases hc
    ·cases hc
def uA(P:zp)(ty:TTy)(g:Nat)(b:Body):Prop:=∃ fn A,P.funcs[g]? =some fn/\fn.name≠"runtime.NumGoroutine" /\A6 ty A fn=some b
def Ap:Body:=⟨[],cNo⟩
theorem Dj{n m:Nat}(h:n<=m):∀ {c:Code},Cf n c=true->Cf m c=true
 |.region _ ops _,hd=>by
  unfold Cf at hd ⊢;rw[ABL]at hd ⊢;intro o ho;have:=hd o ho;split at this
  ·have:=BQ.1 this
   exact BQ.2 (by omega)
  ·rfl
 |.seq a b,hd=>by
  have hd:(Cf n a && Cf n b)=true:=hd;rw[yr]at hd;show(Cf m a && Cf m b)=true;rw[Dj h hd.1,Dj h hd.2];rfl
 |.cond _ a b,hd=>by
  have hd:(Cf n a && Cf n b)=true:=hd;rw[yr]at hd;show(Cf m a && Cf m b)=true;rw[Dj h hd.1,Dj h hd.2];rfl
 |.block _ a,hd=>Dj (c:=a) h hd
 |.loop a,hd=>Dj (c:=a) h hd
 |.skip,_=>rfl
 |.exit _,_=>rfl
 |.ret,_=>rfl
 |.rangeFunc _ _ _ _,_=>rfl
 |.scope a,hd=>Dj (c:=a) h hd
 |.label _,_=>rfl
 |.goto _,_=>rfl
 |.refuse _,_=>rfl
theorem aA(hT:DG P ty){F:AFi}(hF:Db P ty F)(hm:P.follows .mixedOrders=true){g:Nat}{b:Body}(hb:uA P ty g b){args:List IN}(hr:enter F b args h=.ok v h'):
  (∃ fn,P.funcs[g]? =some fn/\fn.name≠"runtime.NumGoroutine" /\fn.body.isNone=false)/\
  ∀ φ w args',AF3 φ args args'->AFp ty φ nil h w->
   Calls P g ⟨args'⟩ w fun en w'=>∃ v' ψ,en=.returned v'/\AFm ψ v v'/\AFp ty ψ nil h' w'/\Evo φ h w ψ h' w':=by
 obtain⟨fn,A,hfn,hname,hbody⟩:=hb;unfold A6 at hbody;cases hc:fn.body with
 |none=>rw[hc]at hbody;cases hbody
 |some c=>
  rw[hc]at hbody;simp only at hbody;cases hrs:rsC ty A fn.results.toList with
  |none=>rw[hrs]at hbody;cases hbody
  |some rs=>
   rw[hrs]at hbody;simp only at hbody;cases hd:Cf fn.ntmps c with
   |false=>rw[hd]at hbody;cases hbody
   |true=>
    rw[hd]at hbody;cases hbody;refine⟨⟨fn,hfn,hname,by rw[hc];rfl⟩,fun φ w args' AGK HW=>?_⟩;unfold enter at hr
    dsimp only at hr
    rw[Yd hrs]at hr;obtain⟨hlen,hr⟩:=Bx hr;have hlen:args.length<=240:=by rw[<- Bi];exact Av.1 hlen
    have hAR:=dY (A:=A) AGK hlen fn.ntmps;refine calls_of_wp hfn hc ?_;have hn:Bv ty A c [] none F (AS e0 0 args) h≠.no:=by
     intro hx;rw[hx]at hr;cases hr
    refine ES hT hF hm c (e:=AS e0 0 args) (h:=h) rfl hn (Dj (Nat.le_max_right _ _) hd) _ _ _ (.nil A) HW hAR _ {go:=fun _ h=>(by cases h),norm:=fun _ e1 h1 ψ a1 w1 g1 hx=>?_,exit:=fun id e1 h1 ψ a1 w1 g1 hx=>?_,ret:=fun e1 h1 ψ a1 w1 g1 hx=>?_}
    ·rw[hx]at hr
     obtain⟨rfl,v',hv,hrun⟩:=Nx hT g1.rel g1.ar hrs hr;exact⟨g1.ar.defs,v',hrun,v',ψ,rfl,hv,g1.rel,g1.evo⟩
    ·rw[hx]at hr;cases hr
    ·rw[hx]at hr
     obtain⟨rfl,v',hv,hrun⟩:=Nx hT g1.rel g1.ar hrs hr;exact⟨g1.ar.defs,v',hrun,v',ψ,rfl,hv,g1.rel,g1.evo⟩
def Il(P:zp)(ty:TTy)(g:Nat)(b:Body):Prop:=∀ (F:AFi) (args:List IN) (h:Hp) (v:IN) (h':Hp),Db P ty F->enter F b args h=.ok v h'->
 (∃ fn,P.funcs[g]? =some fn/\fn.name≠"runtime.NumGoroutine" /\fn.body.isNone=false)/\
 ∀ φ w args',AF3 φ args args'->AFp ty φ nil h w->
  Calls P g ⟨args'⟩ w fun en w'=>∃ v' ψ,en=.returned v'/\AFm ψ v v'/\AFp ty ψ nil h' w'/\Evo φ h w ψ h' w'
def BX(P:zp)(ty:TTy)(g:Nat)(b:Body):Prop:=uA P ty g b\/b=Ap\/Il P ty g b
def FT.All(p:Nat->Body->Prop):FT->(Nat->Nat)->Prop
 |.mt,_=>True
 |.nd b l r,ix=>p (ix 0) b/\FT.All p l (fun k=>ix (2*k+1))/\FT.All p r (fun k=>ix (2*k+2))
theorem FT.All.get{p:Nat->Body->Prop}:∀ {t:FT} {ix:Nat->Nat},FT.All p t ix->∀ {i:Nat} {b:Body},t.get i=some b->p (ix i) b
 |.mt,ix,_,i,b,h=>by cases h
 |.nd c l r,ix,⟨h0,hl,hr⟩,0,b,h=>by cases h;exact h0
 |.nd c l r,ix,⟨h0,hl,hr⟩,k+1,b,h=>by
  unfold FT.get at h;have e1:Nat.mod k 2=k % 2:=rfl;have e2:Nat.div k 2=k / 2:=rfl;rw[e1,e2]at h;rcases Nat.mod_two_eq_zero_or_one k with hk|hk
  ·rw[hk]at h
   have:=hl.get (i:=k/2) h;have e:2*(k/2)+1=k+1:=by omega
   simp only[e]at this;exact this
  ·rw[hk]at h
   have:=hr.get (i:=k/2) h;have e:2*(k/2)+2=k+1:=by omega
   simp only[e]at this;exact this
theorem JN(hT:DG P ty)(hm:P.follows .mixedOrders=true){bs:FT}(hb:FT.All (BX P ty) bs id):∀ n,Db P ty (call bs n)
 |0=>fun g args h v h' hr=>by cases hr
 |n+1=>fun g args h v h' hr=>by
  have hr:(match bs.get g with|some b=>enter (call bs n) b args h|none=>.no)=.ok v h':=hr;cases hg:bs.get g with
  |none=>rw[hg]at hr;cases hr
  |some b=>
   rw[hg]at hr;rcases hb.get hg with hok|rfl|hdo
   ·exact aA hT (JN hT hm hb n) hm hok hr
   ·exfalso
    have hr:(bif yl (BF args) 240 then A4 [] .no else .no)=.ok v h':=hr;obtain⟨_,hr⟩:=Bx hr;cases hr
   ·exact hdo _ args h v h' (JN hT hm hb n) hr
end
end
noncomputable section
open Go Go.RowKit Go.WideShapes Go.ChangeShapes
def be:R->Bool
 |.ok (.bool b) _=>b
 |_=>false
def sy:Phi:=fun _=>none
theorem OZ(ty:TTy)(w:zP):AFp ty sy nil Ij w where
 dom:=fun i p h=>by cases h
 inj:=fun i j p q h=>by cases h
 row:=fun i p h=>by cases h
 fresh:=fun i _=>Km 9 i
 kind:=fun i p c s e h=>by cases h
 inp:=fun i p h=>by cases h
theorem cV{P:zp}{ty:TTy}{bs:FT}(hC:∀ n,Db P ty (call bs n)){n f:Nat}(h:be (call bs n f [] Ij)=true)(w:zP):
  Calls P f #[] w fun e w'=>e=.returned (.bool true)/\Below w.heap.size w w':=by
 cases hr:call bs n f [] Ij with
 |no=>rw[hr]at h;cases h
 |ok v h'=>
  rw[hr]at h;obtain⟨_,hc⟩:=hC n f [] Ij v h' hr;refine(hc sy w [] .nil (OZ ty w)).mono fun e w' ⟨v',ψ,he,hv,_,ev⟩=>?_
  cases v with
  |bool b=>
   have h:b=true:=h;subst h;have:=hv.AGb;subst this;exact⟨he,⟨ev.os,ev.tape,ev.output,ev.size,fun k hk=>ev.frame k hk fun i p hp=>by cases hp⟩⟩
  |_=>cases h
section
variable {H:Type}{enc:TypeId×IN->H}{P:zp}
theorem Ng{f:Func}{s:ChangeSpec}{apart fresh handsOn again:Bool}{W W':zP}{args:Array IN}{v:IN}{ds gs:List (DataW H)}{before pa pv:List MemPlace}
  (hW:DataW.Whole enc P f.params.toList s.vars apart W args.toList ds gs before)
  (hres:∀ (b:Nat) (sp:Nat->Bool) (hd:Bool),AEb enc P W' b sp hd f.resultTypes.toList (v.resultList f.resultTypes.size) (s.fn H (ds++gs)).results [])
  (hargs:∀ sp:Nat->Bool,(∀ p∈before,sp p.block=true)->AEb enc P W' 0 sp true f.params.toList args.toList (s.fn H (ds++gs)).args pa)
  (hvars:∀ sp:Nat->Bool,(∀ p∈before,sp p.block=true)->DataW.TrodVars enc P W' sp s.vars (s.fn H (ds++gs)).vars pv)
  (hps:before=pa++pv)(hb:Below W.heap.size W W')
  (hok:∀ (j:Nat) (t:TypeId) (r:IN),f.resultTypes[j]? =some t->(v.resultList f.resultTypes.size)[j]? =some r->AAI P W' .any 0 t r):
  s.post enc P f apart fresh handsOn again W args v W':=by
 have hlt:∀ p∈before,p.block<W.heap.size:=fun p hp=>hW.lt p hp
 have hold:∀ p∈before,(fun b=>decide (b<W.heap.size)) p.block=true:=fun p hp=>by simpa using hlt p hp
 refine⟨ds,gs,before,[],pa,pv,hW,hres _ _ _,hargs _ hold,hvars _ hold,World.keptBut_mono (fun p hp=>⟨hp,?_⟩) (hb.frame (· ∈before)),fun _=>?_⟩
 ·rw[hps,List.mem_append]at hp
  exact Or.inr hp
 ·obtain⟨_,_,_,_,_,hz,hn⟩:=hW
  refine⟨hok,_,_,([]++pa)++pv,⟨[]++pa,pv,trodAll_append (hargs _ (fun _ _=>rfl)) (hres _ _ _),hvars _ (fun _ _=>rfl),rfl,?_,?_⟩,?_⟩
  ·intro b off hp
   have hin:MemPlace.cell b off∈before:=by rw[hps];simpa using hp
   rw[hb.frozen (hlt _ hin)];exact hz b off hin
  ·intro ha
   have:=hn ha;rw[hps]at this
   simpa using this
  ·intro p hp _
   rw[hps]
   simpa using hp
end
end
noncomputable section
open Go
namespace VT
def has:VT->Nat->Prop
 |.mt,_=>False
 |.nd _ _ _,0=>True
 |.nd _ l r,k+1=>if k % 2=0 then l.has (k/2)else r.has (k/2)
theorem AFt(v:IN)(l r:VT)(k:Nat):(VT.nd v l r).has (k+1)=if k % 2=0 then l.has (k/2)else r.has (k/2):=by rw[has]
theorem Fp:∀ (t:VT) (i:Nat) (x:IN),(∀ j,j<i->t.has j)->∃ t',t.set i x=some t'
 |.mt,0,x,_=>⟨_,rfl⟩
 |.mt,i+1,x,h=>(h 0 (ABz i)).elim
 |.nd v l r,0,x,_=>⟨_,rfl⟩
 |.nd v l r,k+1,x,h=>by
  rw[AGC];by_cases hk:k % 2=0
  ·rw[if_pos hk]
   obtain⟨l',hl⟩:=Fp l (k/2) x fun j hj=>by
    have:=h (2*j+1) (by omega);rw[AFt,if_pos (by omega)]at this;have e:2*j/2=j:=by omega
    rwa [e]at this
   rw[hl];exact⟨_,rfl⟩
  ·rw[if_neg hk]
   obtain⟨r',hr⟩:=Fp r (k/2) x fun j hj=>by
    have:=h (2*j+1+1) (by omega);rw[AFt,if_neg (by omega)]at this;have e:(2*j+1)/2=j:=by omega
    rwa [e]at this
   rw[hr];exact⟨_,rfl⟩
theorem G4:∀ (t:VT) (i:Nat) (x:IN) (t':VT),t.set i x=some t'->∀ j,(j=i\/t.has j)->t'.has j
 |.mt,0,x,t',h,j,hj=>by
  obtain rfl:VT.nd x .mt .mt=t':=Option.some.inj h;rcases hj with rfl|hj
  ·exact trivial
  ·exact hj.elim
 |.mt,i+1,x,t',h,j,hj=>by cases h
 |.nd v l r,0,x,t',h,j,hj=>by
  obtain rfl:VT.nd x l r=t':=Option.some.inj h;cases j with
  |zero=>exact trivial
  |succ j=>
   rcases hj with hj|hj
   ·cases hj
   ·rw[AFt]at hj ⊢;exact hj
 |.nd v l r,i+1,x,t',h,j,hj=>by
  rw[AGC]at h;split at h
  ·rename_i h0
   cases hs:l.set (i/2) x with
   |none=>rw[hs]at h;cases h
   |some l'=>
    rw[hs]at h;obtain rfl:VT.nd v l' r=t':=Option.some.inj h;cases j with
    |zero=>exact trivial
    |succ j=>
     rw[AFt];split
     ·rename_i h1
      refine G4 l _ x l' hs _ ?_;rcases hj with hj|hj
      ·left;have:j=i:=by omega
       rw[this]
      ·right;rw[AFt,if_pos h1]at hj;exact hj
     ·rename_i h1
      rcases hj with hj|hj
      ·have:j=i:=by omega
       exact absurd (this ▸ h0) h1
      ·rw[AFt,if_neg h1]at hj;exact hj
  ·rename_i h0
   cases hs:r.set (i/2) x with
   |none=>rw[hs]at h;cases h
   |some r'=>
    rw[hs]at h;obtain rfl:VT.nd v l r'=t':=Option.some.inj h;cases j with
    |zero=>exact trivial
    |succ j=>
     rw[AFt];split
     ·rename_i h1
      rcases hj with hj|hj
      ·have:j=i:=by omega
       exact absurd (this ▸ h1) h0
      ·rw[AFt,if_pos h1]at hj;exact hj
     ·rename_i h1
      refine G4 r _ x r' hs _ ?_;rcases hj with hj|hj
      ·left;have:j=i:=by omega
       rw[this]
      ·right;rw[AFt,if_neg h1]at hj;exact hj
def lay(t:VT)(i:Nat)(x:IN):VT:=(t.set i x).getD t
theorem AGP{t:VT}{i:Nat}{x:IN}(h:∀ j,j<i->t.has j):t.set i x=some (t.lay i x):=by
 obtain⟨t',ht⟩:=Fp t i x h;unfold lay;rw[ht];rfl
theorem AGg{t:VT}{i:Nat}{x:IN}(h:∀ j,j<i->t.has j)(j:Nat):(t.lay i x).get j=if j=i then x else t.get j:=AFy _ _ _ _ (AGP h) j
theorem AGn{t:VT}{i:Nat}{x:IN}(h:∀ j,j<i->t.has j)(j:Nat)(hj:j=i\/t.has j):(t.lay i x).has j:=G4 _ _ _ _ (AGP h) j hj
end VT
namespace BT
theorem AFt(v:Blk)(l r:BT)(k:Nat):(BT.nd v l r).has (k+1)=if k % 2=0 then l.has (k/2)else r.has (k/2):=by rw[has]
theorem Fp:∀ (t:BT) (i:Nat) (x:Blk),(∀ j,j<i->t.has j)->∃ t',t.set i x=some t'
 |.mt,0,x,_=>⟨_,rfl⟩
 |.mt,i+1,x,h=>(h 0 (ABz i)).elim
 |.nd v l r,0,x,_=>⟨_,rfl⟩
 |.nd v l r,k+1,x,h=>by
  rw[AGC];by_cases hk:k % 2=0
  ·rw[if_pos hk]
   obtain⟨l',hl⟩:=Fp l (k/2) x fun j hj=>by
    have:=h (2*j+1) (by omega);rw[AFt,if_pos (by omega)]at this;have e:2*j/2=j:=by omega
    rwa [e]at this
   rw[hl];exact⟨_,rfl⟩
  ·rw[if_neg hk]
   obtain⟨r',hr⟩:=Fp r (k/2) x fun j hj=>by
    have:=h (2*j+1+1) (by omega);rw[AFt,if_neg (by omega)]at this;have e:(2*j+1)/2=j:=by omega
    rwa [e]at this
   rw[hr];exact⟨_,rfl⟩
theorem G4:∀ (t:BT) (i:Nat) (x:Blk) (t':BT),t.set i x=some t'->∀ j,(j=i\/t.has j)->t'.has j
 |.mt,0,x,t',h,j,hj=>by
  obtain rfl:BT.nd x .mt .mt=t':=Option.some.inj h;rcases hj with rfl|hj
  ·exact trivial
  ·exact hj.elim
 |.mt,i+1,x,t',h,j,hj=>by cases h
 |.nd v l r,0,x,t',h,j,hj=>by
  obtain rfl:BT.nd x l r=t':=Option.some.inj h;cases j with
  |zero=>exact trivial
  |succ j=>
   rcases hj with hj|hj
   ·cases hj
   ·rw[AFt]at hj ⊢;exact hj
 |.nd v l r,i+1,x,t',h,j,hj=>by
  rw[AGC]at h;split at h
  ·rename_i h0
   cases hs:l.set (i/2) x with
   |none=>rw[hs]at h;cases h
   |some l'=>
    rw[hs]at h;obtain rfl:BT.nd v l' r=t':=Option.some.inj h;cases j with
    |zero=>exact trivial
    |succ j=>
     rw[AFt];split
     ·rename_i h1
      refine G4 l _ x l' hs _ ?_;rcases hj with hj|hj
      ·left;have:j=i:=by omega
       rw[this]
      ·right;rw[AFt,if_pos h1]at hj;exact hj
     ·rename_i h1
      rcases hj with hj|hj
      ·have:j=i:=by omega
       exact absurd (this ▸ h0) h1
      ·rw[AFt,if_neg h1]at hj;exact hj
  ·rename_i h0
   cases hs:r.set (i/2) x with
   |none=>rw[hs]at h;cases h
   |some r'=>
    rw[hs]at h;obtain rfl:BT.nd v l r'=t':=Option.some.inj h;cases j with
    |zero=>exact trivial
    |succ j=>
     rw[AFt];split
     ·rename_i h1
      rcases hj with hj|hj
      ·have:j=i:=by omega
       exact absurd (this ▸ h1) h0
      ·rw[AFt,if_pos h1]at hj;exact hj
     ·rename_i h1
      refine G4 r _ x r' hs _ ?_;rcases hj with hj|hj
      ·left;have:j=i:=by omega
       rw[this]
      ·right;rw[AFt,if_neg h1]at hj;exact hj
def lay(t:BT)(i:Nat)(x:Blk):BT:=(t.set i x).getD t
theorem AGP{t:BT}{i:Nat}{x:Blk}(h:∀ j,j<i->t.has j):t.set i x=some (t.lay i x):=by
 obtain⟨t',ht⟩:=Fp t i x h;unfold lay;rw[ht];rfl
theorem AGg{t:BT}{i:Nat}{x:Blk}(h:∀ j,j<i->t.has j)(j:Nat):(t.lay i x).get j=if j=i then x else t.get j:=AFy _ _ _ _ (AGP h) j
theorem AGn{t:BT}{i:Nat}{x:Blk}(h:∀ j,j<i->t.has j)(j:Nat)(hj:j=i\/t.has j):(t.lay i x).has j:=G4 _ _ _ _ (AGP h) j hj
end BT
end
noncomputable section
open Go
section
variable {F:AFi}{e:Env}{h:Hp}{k a b:C}{f:OpF}{x y:O}
def opX(i:Nat)(r:R)(k:C)(F:AFi)(e:Env):X:=match r with
 |.ok v h=>k F (Env.set i v e) h
 |.no=>.no
def doX(r:R)(k:C)(F:AFi)(e:Env):X:=match r with
 |.ok _ h=>k F e h
 |.no=>.no
def Ye(x:X)(b:C)(F:AFi):X:=match x with
 |.norm e h=>b F e h
 |x=>x
def KT(id:Nat)(x:X):X:=match x with
 |.exit i e h=>bif yu i id then .norm e h else .exit i e h
 |x=>x
def P9(v:IN)(a b:C)(F:AFi)(e:Env)(h:Hp):X:=match v with
 |.bool c=>(bif c then a else b) F e h
 |_=>.no
def WE(i:Nat)(k:C):C:=fun F e h=>k F (Env.set i AFl e) h
def Hb(v:IN)(want:Bool)(a b:C)(F:AFi)(e:Env)(h:Hp):X:=match v with
 |.bool c=>(bif want == c then a else b) F e h
 |.tuple _=>b F e h
 |_=>.no
theorem Gw{i:Nat}{v:IN}:opX i (.ok v h) k F e=k F (Env.set i v e) h:=rfl
theorem Z0{v:IN}:doX (.ok v h) k F e=k F e h:=rfl
theorem BA:Ye (.norm e h) b F=b F e h:=rfl
theorem DC:Ye (.ret e h) b F=.ret e h:=rfl
theorem OV{i:Nat}:Ye (.exit i e h) b F=.exit i e h:=rfl
theorem CT{i:Nat}:KT i (.norm e h)=.norm e h:=rfl
theorem CQ{i:Nat}:KT i (.ret e h)=.ret e h:=rfl
theorem BD{i:Nat}:KT i (.exit i e h)=.norm e h:=by
 show(bif yu i i then _ else _)=_;rw[AAQ];rfl
theorem Iu:P9 (.bool true) a b F e h=a F e h:=rfl
theorem HV:P9 (.bool false) a b F e h=b F e h:=rfl
theorem N7:Hb (.bool true) true a b F e h=a F e h:=rfl
theorem N6:Hb (.bool true) false a b F e h=b F e h:=rfl
theorem N5:Hb (.bool false) true a b F e h=b F e h:=rfl
theorem N4:Hb (.bool false) false a b F e h=a F e h:=rfl
theorem LN{w:Bool}:Hb AFl w a b F e h=b F e h:=rfl
theorem SC{i:Nat}:WE i k F e h=k F (Env.set i AFl e) h:=rfl
theorem oz{i:Nat}(hi:i<240):SZ (FI i) f k F e h=opX i (f F e h) k F e:=by
 unfold SZ opX;cases f F e h with
 |ok v h=>exact EA i hi _ v e
 |no=>rfl
theorem ZN:cDo f k F e h=doX (f F e h) k F e:=by
 unfold cDo doX;cases f F e h<;>rfl
theorem vt{g:O}{w:Bool}{i:Nat}(hi:i<240):cG g w (FI i) f k F e h=Hb (g e) w (SZ (FI i) f k) (WE i k) F e h:=by
 unfold cG Hb WE;cases g e with
 |bool c=>
  simp only;cases w == c
  ·exact EA i hi _ _ e
  ·rfl
 |tuple l=>exact EA i hi _ _ e
 |_=>rfl
theorem BJ:BL a b F e h=Ye (a F e h) b F:=by
 unfold BL Ye;cases a F e h<;>rfl
theorem Az{i:Nat}:Ae i a F e h=KT i (a F e h):=by
 unfold Ae KT;cases a F e h<;>rfl
theorem HU:Id x a b F e h=P9 (x e) a b F e h:=by
 unfold Id P9;cases x e with
 |bool c=>cases c<;>rfl
 |_=>rfl
theorem MJ:Aw F e h=.norm e h:=rfl
theorem US:Ar F e h=.ret e h:=rfl
theorem P6{i:Nat}:CM i F e h=.exit i e h:=rfl
theorem AG{i j:Nat}{v:IN}(hi:i<240)(hj:j<240):J j (Env.set i v e)=if j=i then v else J j e:=by
 rw[DD j hj,Env.AFy _ _ _ _ hi hj,DD j hj]
theorem Fd{v:IN}:kV v e=v:=rfl
theorem A3:vals e []=[]:=rfl
theorem AV{l:List O}:vals e (x::l)=x e::vals e l:=rfl
theorem LV{i:Nat}:AS e i []=e:=rfl
theorem J3{i:Nat}{v:IN}{l:List IN}:AS e i (v::l)=AS (Env.set i v e) (yg i) l:=rfl
theorem D9:AQ x F e h=.ok (x e) h:=FA _ _
theorem Gn{i:Nat}(hi:i<240):G i f k F e h=opX i (f F e h) k F e:=oz hi
theorem Sj{a:Nat}{w:Bool}{i:Nat}(hi:i<240):An a w i f k F e h=Hb (J a e) w (G i f k) (WE i k) F e h:=vt hi
theorem Ok{i:Nat}:Bn i a b F e h=P9 (J i e) a b F e h:=HU
theorem Gv{i:Nat}:Aj i F e h=.ok (J i e) h:=D9
theorem Ev{j:yy}{n:Int}:Cu j (.int j n)=.ok n:=by cases j<;>rfl
theorem jE{j:yy}{n:Nat}:Gb j (.int j (.ofNat n))=.ok n:=by cases j<;>rfl
theorem IK{j:yy}{n:Nat}:Gb j (.int j (n:Int))=.ok n:=jE
theorem DI{j:yy}{n:Nat}:De (.int j (n:Int))=.ok n:=rfl
theorem Fg{c:Bool}:okB c h=.ok (.bool c) h:=by cases c<;>rfl
theorem Gr(a b:Int):iGt a b=decide (b<a):=DF b a
theorem O5(a b:Int):iLe a b=decide (a<=b):=by
 show(!iLt b a)=_;rw[DF,<- decide_not]
 congr 1;simp
theorem O4(a b:Int):iGe a b=decide (b<=a):=O5 b a
theorem He(a b:Int):iNe a b= !(a == b):=by
 show(!iEq a b)=_;rw[Dc]
def qQ(f:Int->Int->Bool)(j:yy)(a b:IN)(h:Hp):R:=ff f (Cu j a) (Cu j b) h
def Fv(f:Int->Int->Int)(j:yy)(a b:IN)(h:Hp):R:=mj f j (Cu j a) (Cu j b) h
theorem AK{f:Int->Int->Bool}{j:yy}:Ai f j x y F e h=qQ f j (x e) (y e) h:=rfl
theorem B3{f:Int->Int->Int}{j:yy}:C3 f j x y F e h=Fv f j (x e) (y e) h:=rfl
theorem AJ{f:Int->Int->Bool}{j:yy}{m n:Int}:qQ f j (.int j m) (.int j n) h=.ok (.bool (f m n)) h:=by
 unfold qQ;rw[Ev,Ev];exact Fg
theorem Cg{f:Int->Int->Int}{j:yy}{m n:Int}:Fv f j (.int j m) (.int j n) h=.ok (.int j (j.wrap (f m n))) h:=by
 unfold Fv;rw[Ev,Ev];show okI j (Ei j (f m n)) h=_;rw[Er,DO]
def Ez(j:yy)(a b:IN)(h:Hp):R:=dV j (BH j) (Cu j a) (Cu j b) h
theorem BM{j:yy}:CJ j (BH j) x y F e h=Ez j (x e) (y e) h:=rfl
theorem dM{j:yy}{n:Nat}(hn:yl n (BH j)=true):j.wrap (n:Int)=n:=by
 rw[<- DO];show AA1 (motive:=fun _=>Int) (j.wrap (.ofNat n)) (.ofNat n) (yl n (BH j))=_;rw[hn];rfl
theorem Dq{j:yy}{m n:Int}:Ez j (.int j m) (.int j n) h=.ok (.int j (j.wrap (m+n))) h:=by
 unfold Ez;rw[Ev,Ev];cases m with
 |negSucc m=>show okI j (Ei j _) h=_;rw[Er,DO]
 |ofNat m=>
  cases n with
  |negSucc n=>show okI j (Ei j _) h=_;rw[Er,DO]
  |ofNat n=>
   show AA1 (motive:=fun _=>R) (okI j (j.wrap (.ofNat m+.ofNat n)) h) (AF1 (AAB m n) fun n=>.ok (.int j (.ofNat n)) h) (yl (AAB m n) (BH j))=_;cases hb:yl (AAB m n) (BH j)with
   |false=>simp only;rw[Er]
   |true=>
    simp only;rw[Ao];have:=dM hb;have e:(zY m+zY n:Int)=((AAB m n:Nat):Int):=by
     show((m:Int)+(n:Int))=((m+n:Nat):Int);omega
    rw[e,this];rfl
def Sx(j:yy)(a b:IN)(h:Hp):R:=Zz j (Cu j a) (Cu j b) h
def Tc(j:yy)(a b:IN)(h:Hp):R:=cQ j (Cu j a) (Cu j b) h
theorem Jt{j:yy}:Lc j x y F e h=Sx j (x e) (y e) h:=rfl
theorem IO{j:yy}:Nd j x y F e h=Tc j (x e) (y e) h:=rfl
theorem Lp{j:yy}{m n:Int}(hn:n≠0):Sx j (.int j m) (.int j n) h=.ok (.int j (j.wrap (m.tdiv n))) h:=by
 unfold Sx;rw[Ev,Ev];show(bif iEq n 0 then R.no else okI j (Ei j (m.tdiv n)) h)=_;rw[Dc,Er,DO,beq_false_of_ne hn];rfl
theorem Lz{j:yy}{m n:Int}(hn:n≠0):Tc j (.int j m) (.int j n) h=.ok (.int j (m.tmod n)) h:=by
 unfold Tc;rw[Ev,Ev];show(bif iEq n 0 then R.no else okI j (m.tmod n) h)=_;rw[Dc,Er,beq_false_of_ne hn];rfl
def ZE(f:Nat->Nat->Nat)(j:yy)(a b:IN)(h:Hp):R:=ZD f j (Gb j a) (Gb j b) h
theorem jQ{f:Nat->Nat->Nat}{j:yy}:K2 f j x y F e h=ZE f j (x e) (y e) h:=rfl
theorem UO{f:Nat->Nat->Nat}{j:yy}{m n:Nat}(hm:m<=BH j)(hn:n<=BH j):ZE f j (.int j (m:Int)) (.int j (n:Int)) h=.ok (.int j (f m n:Nat)) h:=by
 unfold ZE;rw[IK,IK];show(bif yl m (BH j)then(bif yl n (BH j)then okI j (.ofNat (f m n)) h else R.no)else R.no)=_;rw[Av.2 hm,Av.2 hn,Er];rfl
def kK(j:yy)(a b:IN)(h:Hp):R:=cY j (Gb j a) (De b) h
def cd(j:yy)(a b:IN)(h:Hp):R:=cZ j (Gb j a) (De b) h
theorem Vt{j:yy}:Nf j x y F e h=kK j (x e) (y e) h:=rfl
theorem Vu{j:yy}:Ld j x y F e h=cd j (x e) (y e) h:=rfl
theorem kL{j q:yy}{m n:Nat}:kK j (.int j (m:Int)) (.int q (n:Int)) h=.ok (.int j (j.wrap ((m*2 ^ min n j.bits:Nat):Int))) h:=by
 unfold kK;rw[IK,DI];show okI j (Ei j (.ofNat (zi m (Nat.pow 2 (B9 n j.bits))))) h=_;rw[Er,DO,BZ];rfl
theorem WD{j q:yy}{m n:Nat}:cd j (.int j (m:Int)) (.int q (n:Int)) h=.ok (.int j ((m/2 ^ min n j.bits:Nat):Int)) h:=by
 unfold cd;rw[IK,DI];show okI j (.ofNat (Nat.div m (Nat.pow 2 (B9 n j.bits)))) h=_;rw[Er,BZ];rfl
def Di(j:yy)(a:IN)(h:Hp):R:=match Xv a with
 |.ok n=>okI j (Ei j n) h
 |.no=>.no
theorem CX{j:yy}:C5 j x F e h=Di j (x e) h:=rfl
theorem Cw{j q:yy}{n:Int}:Di j (.int q n) h=.ok (.int j (j.wrap n)) h:=by
 show okI j (Ei j n) h=_;rw[Er,DO]
def wN(a:IN)(h:Hp):R:=match a with
 |.bool b=>okB (!b) h
 |_=>.no
theorem Be:EZ x F e h=wN (x e) h:=rfl
theorem Bd{c:Bool}:wN (.bool c) h=.ok (.bool (!c)) h:=Fg
def cD(c a b:IN)(h:Hp):R:=cE c a b h
theorem RF{c:O}:A5 c x y F e h=cD (c e) (x e) (y e) h:=rfl
theorem M9{v u:IN}:cD (.bool true) v u h=.ok v h:=FA _ _
theorem LR{v u:IN}:cD (.bool false) v u h=.ok u h:=FA _ _
theorem BR{g:Nat}{l:List O}:AU g l F e h=F g (vals e l) h:=C7 _ _
theorem Ab{bs:FT}{n f:Nat}{b:Body}(hb:bs.get f=some b){args:List IN}:call bs (yg n) f args h=enter (call bs n) b args h:=by
 show(match bs.get f with|some b=>enter (call bs n) b args h|none=>.no)=_;rw[hb]
theorem AW{rs:List RV}{c:C}{args:List IN}(hl:yl (BF args) 240=true)(hx:Tw rs=none:=by rfl):enter F ⟨rs,c⟩ args h=A4 rs (c F (AS e0 0 args) h):=by
 unfold enter;rw[hx];show(bif yl (BF args) 240 then A4 rs (c F (AS e0 0 args) h)else .no)=_;rw[hl];rfl
theorem BI{rs:List RV}:A4 rs (.ret e h)=En rs e h:=rfl
theorem EH{rs:List RV}:A4 rs (.norm e h)=En rs e h:=rfl
theorem QR{g:O}:En [.t g] e h=.ok (g e) h:=by
 show AFv (g e) _=_;rw[BV];rfl
theorem DH{g g':O}:En [.t g,.t g'] e h=.ok (.tuple ⟨[g e,g' e]⟩) h:=by
 show AFv (g e) (fun v=>AFv (g' e) _)=_;rw[BV,BV];rfl
theorem Mb{g g' g'':O}:En [.t g,.t g',.t g''] e h=.ok (.tuple ⟨[g e,g' e,g'' e]⟩) h:=by
 show AFv (g e) (fun v=>AFv (g' e) (fun v=>AFv (g'' e) _))=_;rw[BV,BV,BV];rfl
def GT(i:Nat)(a:IN)(h:Hp):R:=match a with
 |.tuple vs=>match nth vs.toList i with
  |some v=>.ok v h
  |none=>.no
 |_=>.no
theorem A7{i:Nat}:AY i x F e h=GT i (x e) h:=by
 show(match x e with|.tuple vs=>(match nth vs.toList i with|some v=>AFv v fun v=>.ok v h|none=>.no)|_=>.no)=_;unfold GT;cases x e with
 |tuple vs=>
  simp only;cases nth vs.toList i with
  |some v=>exact BV _ _
  |none=>rfl
 |_=>rfl
theorem BC{v:IN}{l:List IN}:GT 0 (.tuple ⟨v::l⟩) h=.ok v h:=rfl
theorem BE{u v:IN}{l:List IN}:GT 1 (.tuple ⟨u::v::l⟩) h=.ok v h:=rfl
theorem Cx{t u v:IN}{l:List IN}:GT 2 (.tuple ⟨t::u::v::l⟩) h=.ok v h:=rfl
end
end
noncomputable section
open Go
section
variable {F:AFi}{e:Env}{h h':Hp}{x y:O}
structure Hp.Wf (h:Hp):Prop where
 big:256<=h.next
 has:∀ i,i<h.next->h.bl.has i
 fresh:∀ i,h.next<=i->h.bl.get i=.dead
def Hp.push(h:Hp)(o:Blk):Hp:={next:=yg h.next,low:=h.low,high:=h.high,mark:=h.mark,bl:=h.bl.lay h.next o}
def Hp.put(h:Hp)(b:Nat)(o:Blk):Hp:={next:=h.next,low:=B9 h.low b,high:=Cy h.high b,mark:=h.mark,bl:=h.bl.lay b o}
theorem C8(W:h.Wf){o:Blk}{K:Nat->Hp->R}:GN h o K=K h.next (h.push o):=by
 unfold GN;rw[BT.AGP fun j hj=>W.has j hj];simp only[Ao];rfl
theorem Dw(W:h.Wf){b:Nat}(AFs:256<=b)(hb:b<h.next){o:Blk}{K:Hp->R}:Et h b o K=K (h.put b o):=by
 unfold Et;rw[BT.AGP fun j hj=>W.has j (ADY hj hb),Av.2 AFs];simp only[Ao];rfl
theorem Hp.Wf.AF6(W:h.Wf)(o:Blk)(i:Nat):(h.push o).bl.get i=if i=h.next then o else h.bl.get i:=BT.AGg (fun j hj=>W.has j hj) i
theorem Hp.Wf.AGF(W:h.Wf){b:Nat}(hb:b<h.next)(o:Blk)(i:Nat):(h.put b o).bl.get i=if i=b then o else h.bl.get i:=BT.AGg (fun j hj=>W.has j (ADY hj hb)) i
theorem Hp.Wf.push(W:h.Wf)(o:Blk):(h.push o).Wf where
 big:=ACU W.big
 has:=fun i hi=>BT.AGn (fun j hj=>W.has j hj) i (by
  have hi:i<h.next+1:=hi;rcases zD i h.next with h1|h1
  ·exact .inr (W.has i h1)
  ·exact .inl (by omega))
 fresh:=fun i hi=>by
  have hi:h.next+1<=i:=hi;rw[W.AF6 o i,if_neg (by omega)];exact W.fresh i (by omega)
theorem Hp.Wf.put(W:h.Wf){b:Nat}(hb:b<h.next)(o:Blk):(h.put b o).Wf where
 big:=W.big
 has:=fun i hi=>BT.AGn (fun j hj=>W.has j (ADY hj hb)) i (.inr (W.has i hi))
 fresh:=fun i hi=>by
  have hi:h.next<=i:=hi;rw[W.AGF hb o i,if_neg (by omega)];exact W.fresh i hi
structure Hp.Ext (h h':Hp):Prop where
 next:h.next<=h'.next
 get:∀ i,i<h.next->h'.bl.get i=h.bl.get i
 low:min h.low h.next<=h'.low
 wf:h'.Wf
theorem Hp.Ext.refl(W:h.Wf):h.Ext h:=⟨IT _,fun _ _=>rfl,Nat.min_le_left _ _,W⟩
theorem Hp.Ext.trans{h₁ h₂ h₃:Hp}(a:h₁.Ext h₂)(b:h₂.Ext h₃):h₁.Ext h₃ where
 next:=zO a.next b.next
 get:=fun i hi=>by rw[b.get i (zw hi a.next),a.get i hi]
 low:=by have:=a.low;have:=b.low;have:=a.next;omega
 wf:=b.wf
theorem Hp.Ext.push(a:h.Ext h')(o:Blk):h.Ext (h'.push o) where
 next:=ACU a.next
 get:=fun i hi=>by rw[a.wf.AF6,if_neg (by have:=a.next;omega),a.get i hi]
 low:=a.low
 wf:=a.wf.push o
theorem Hp.Ext.put(a:h.Ext h'){b:Nat}(h1:h.next<=b)(hb:b<h'.next)(o:Blk):h.Ext (h'.put b o) where
 next:=a.next
 get:=fun i hi=>by rw[a.wf.AGF hb,if_neg (by omega),a.get i hi]
 low:=by
  show _<=B9 h'.low b;rw[BZ];have:=a.low;omega
 wf:=a.wf.put hb o
def VT.Is(t:VT)(l:List IN):Prop:=∀ i,i<l.length->t.has i/\t.get i=l.getD i AFl
theorem EM:∀ (vs:List IN) (t:VT) (l:List IN) (i:Nat),t.Is l->i+vs.length<=l.length\/i=l.length->∃ t',Bt t i vs=some t'/\t'.Is (l.take i++vs++l.drop (i+vs.length))
 |[],t,l,i,ht,hi=>⟨t,rfl,by simpa using ht⟩
 |v::vs,t,l,i,ht,hi=>by
  have hi':i<=l.length:=by simp only[yh]at hi;omega
  have hh:∀ j,j<i->t.has j:=fun j hj=>(ht j (by omega)).1
  have h1:(t.lay i v).Is (l.take i++[v]++l.drop (i+1)):=fun j hj=>by
   have hl:(l.take i).length=i:=by simp;omega
   refine⟨VT.AGn hh j ?_,?_⟩
   ·by_cases hji:j=i
    ·exact .inl hji
    ·right
     refine(ht j ?_).1;simp only[No,yh,zS,zl,zJ]at hj;omega
   ·rw[VT.AGg hh]
    by_cases hji:j=i
    ·rw[if_pos hji,hji,yf,zC,zI (by omega)]
     simp[hl]
    ·rw[if_neg hji]
     have hjl:j<l.length:=by
      simp only[No,yh,zS,zl,zJ]at hj;omega
     rw[(ht j hjl).2,yf,yf]
     congr 1
     rcases zD j i with h2|h2
     ·rw[zC,List.getElem?_append_left (by omega),AA9,if_pos h2]
     ·rw[zI (by simp only[No,hl,yh,zS];omega),ABf]
      congr 1
      simp only[No,hl,yh,zS];omega
  have hlen:(l.take i++[v]++l.drop (i+1)).length=max l.length (i+1):=by
   simp only[No,yh,zS,zl,zJ];omega
  obtain⟨t',h2,h3⟩:=EM vs (t.lay i v) _ (i+1) h1 (by simp only[yh]at hi;omega);refine⟨t',?_,?_⟩
  ·show(match t.set i v with|some t'=>Bt t' (yg i) vs|none=>none)=_
   rw[VT.AGP hh];exact h2
  ·have e:(l.take i++[v]++l.drop (i+1)).take (i+1)++vs++(l.take i++[v]++l.drop (i+1)).drop (i+1+vs.length)=l.take i++(v::vs)++l.drop (i+(v::vs).length):=by
    have hl:(l.take i++[v]).length=i+1:=by simp;omega
    rw[List.take_left' hl];have e2:i+1+vs.length=(l.take i++[v]).length+vs.length:=by rw[hl]
    rw[e2,List.drop_length_add_append,List.drop_drop];have e3:i+1+vs.length=i+(v::vs).length:=by simp only[yh];omega
    rw[e3];simp
   rw[e]at h3;exact h3
theorem wI:VT.mt.Is []:=fun i h=>by cases h
def ofL(l:List IN):VT:=(Bt .mt 0 l).getD .mt
theorem Hs(l:List IN):Bt .mt 0 l=some (ofL l)/\(ofL l).Is l:=by
 obtain⟨t',h1,h2⟩:=EM l .mt [] 0 wI (.inr rfl);unfold ofL;rw[h1];refine⟨rfl,?_⟩
 simpa using h2
theorem VT.Is.of{t:VT}{l:List IN}(h:Bt .mt 0 l=some t):t.Is l:=by
 have:=Hs l;rw[h]at this;rw[Option.some.inj this.1];exact this.2
def Hp.Row(h:Hp)(b el:Nat)(l:List IN):Prop:=∃ c,h.bl.get b=.cells c l.length el/\c.Is l
def Hp.AFh(h:Hp)(el:Nat)(l:List IN):Hp:=h.push (.cells (ofL l) l.length el)
theorem C9(W:h.Wf){el:Nat}{l:List IN}{K:Nat->Hp->R}:newRow h el l K=K h.next (h.AFh el l):=by
 unfold newRow;rw[(Hs l).1];show CW h el (ofL l) (BF l) K=_;unfold CW;rw[Ao,C8 W,Bi];rfl
theorem Hp.Row.lt(W:h.Wf){b el:Nat}{l:List IN}(r:h.Row b el l):b<h.next:=by
 obtain⟨c,hc,_⟩:=r;rcases zD b h.next with h1|h1
 ·exact h1
 ·rw[W.fresh b h1]at hc;cases hc
theorem Hp.Row.new(W:h.Wf)(el:Nat)(l:List IN):(h.AFh el l).Row h.next el l:=⟨ofL l,by unfold Hp.AFh;rw[W.AF6,if_pos rfl],(Hs l).2⟩
theorem Hp.Row.ext{b el:Nat}{l:List IN}(r:h.Row b el l)(W:h.Wf)(x:h.Ext h'):h'.Row b el l:=by
 have:=r.lt W;obtain⟨c,hc,hl⟩:=r;exact⟨c,(x.get b this).trans hc,hl⟩
theorem Hp.Row.push{b el:Nat}{l:List IN}(r:h.Row b el l)(W:h.Wf)(o:Blk):(h.push o).Row b el l:=r.ext W ((Hp.Ext.refl W).push o)
theorem Hp.Ext.AFh(a:h.Ext h')(el:Nat)(l:List IN):h.Ext (h'.AFh el l):=a.push _
theorem Hp.Row.rowOf{b el:Nat}{l:List IN}(r:h.Row b el l):∃ c,rowOf h b=.ok c l.length el/\c.Is l:=by
 obtain⟨c,hc,hl⟩:=r;exact⟨c,by unfold Go.Proofs.YtbjadbhkogcfeaaGreat.rowOf;rw[hc];rfl,hl⟩
theorem Hp.Row.AFk{b el off:Nat}{l:List IN}(r:h.Row b el l)(ho:off<l.length):AFk ⟨b,off,none⟩ h=.ok (l.getD off AFl) h:=by
 obtain⟨c,hc,hl⟩:=r.rowOf;unfold Go.Proofs.YtbjadbhkogcfeaaGreat.AFk;simp only[hc];rw[BQ.2 ho];simp only[BV,(hl off ho).2]
theorem Is.AG1{c:VT}{l:List IN}(hl:c.Is l)(off n:Nat)(ho:off+n<=l.length):AG1 c off n=(l.drop off).take n:=by
 refine List.ext_getElem? fun i=>?_
 unfold Go.Proofs.YtbjadbhkogcfeaaGreat.AG1;rw[List.getElem?_map,AA9,ABf];by_cases hi:i<n
 ·rw[if_pos hi,List.getElem?_range hi]
  have:=(hl (off+i) (by omega)).2;rw[yf,sh (by omega)]at this;show some (c.get (off+i))=_;rw[this,sh (by omega)];rfl
 ·rw[if_neg hi,List.getElem?_eq_none (by simpa using hi)];rfl
theorem Hp.Row.loadN{b el off n:Nat}{l:List IN}(r:h.Row b el l)(ho:off+n<=l.length):loadN n ⟨b,off,none⟩ h=.ok (.agg ⟨(l.drop off).take n⟩) h:=by
 obtain⟨c,hc,hl⟩:=r.rowOf;unfold Go.Proofs.YtbjadbhkogcfeaaGreat.loadN;simp only[hc,AAD];rw[Av.2 ho];simp only[cond_true,F6,yw,Is.AG1 hl off n ho]
theorem Hp.Row.src{b el off n c:Nat}{l:List IN}(r:h.Row b el l)(ho:off+n<=l.length){sl:Nat}{k:List IN->R}:BP h 1 (.slice (some ⟨b,off,none⟩) sl c) n k=k ((l.drop off).take n):=by
 obtain⟨cc,hc,hl⟩:=r.rowOf;unfold BP;simp only[hc];have e:zi n 1=n:=AA0 n;rw[e];simp only[AAD];rw[Av.2 ho];simp only[cond_true,F6,yw,Is.AG1 hl off n ho]
def Hp.wr(h:Hp)(b off:Nat)(vs:List IN):Hp:=match rowOf h b with
 |.ok c s e=>h.put b (.cells ((Bt c off vs).getD c) s e)
 |.no=>h
def over(l:List IN)(off:Nat)(vs:List IN):List IN:=l.take off++vs++l.drop (off+vs.length)
theorem RL{l vs:List IN}{off:Nat}(ho:off+vs.length<=l.length):(over l off vs).length=l.length:=by
 unfold over;simp only[No,zJ,zl];omega
theorem Hp.Row.AGt{b el off:Nat}{l vs:List IN}(r:h.Row b el l)(ho:off+vs.length<=l.length):∃ c,c.Is (over l off vs)/\h.wr b off vs=h.put b (.cells c (over l off vs).length el)/\
  ∀ (W:h.Wf) (AFs:256<=b) (h1:Bc vs=true) (K:Hp->R),C1 ⟨b,off,none⟩ vs h K=K (h.wr b off vs):=by
 obtain⟨c,hc,hl⟩:=r.rowOf;obtain⟨c',h2,h3⟩:=EM vs c l off hl (.inl ho);have e:h.wr b off vs=h.put b (.cells c' l.length el):=by
  unfold Hp.wr;rw[hc];simp only[h2,Option.getD_some]
 refine⟨c',h3,by rw[RL ho];exact e,fun W AFs h1 K=>?_⟩;unfold C1;simp only[hc,AAD];rw[Bi,Av.2 ho,h1];simp only[cond_true,h2];rw[e,Dw W AFs (r.lt W)]
theorem Hp.Row.store{b el off:Nat}{l vs:List IN}(r:h.Row b el l)(W:h.Wf)(AFs:256<=b)(ho:off+vs.length<=l.length)(h1:Bc vs=true)(K:Hp->R):C1 ⟨b,off,none⟩ vs h K=K (h.wr b off vs):=by
 obtain⟨_,_,_,h4⟩:=r.AGt ho;exact h4 W AFs h1 K
theorem Hp.Row.AFu{b el off:Nat}{l vs:List IN}(r:h.Row b el l)(W:h.Wf)(ho:off+vs.length<=l.length):(h.wr b off vs).Row b el (over l off vs):=by
 obtain⟨c,h3,e,_⟩:=r.AGt ho;exact⟨c,by rw[e,W.AGF (r.lt W),if_pos rfl],h3⟩
theorem Hp.Row.AGr{b el off b' el':Nat}{l vs l':List IN}(r:h.Row b el l)(W:h.Wf)(ho:off+vs.length<=l.length)(r':h.Row b' el' l')(hb:b'≠b):(h.wr b off vs).Row b' el' l':=by
 obtain⟨c,h3,e,_⟩:=r.AGt ho;obtain⟨c',hc',hl'⟩:=r';exact⟨c',by rw[e,W.AGF (r.lt W),if_neg hb,hc'],hl'⟩
theorem Hp.Row.AGE{h0:Hp}{b el off:Nat}{l vs:List IN}(r:h.Row b el l)(x:h0.Ext h)(hb:h0.next<=b)(ho:off+vs.length<=l.length):h0.Ext (h.wr b off vs):=by
 obtain⟨c,h3,e,_⟩:=r.AGt ho;rw[e];exact x.put hb (r.lt x.wf) _
theorem Hp.Row.AGN{b el off:Nat}{l vs:List IN}(r:h.Row b el l)(ho:off+vs.length<=l.length):(h.wr b off vs).next=h.next:=by
 obtain⟨c,h3,e,_⟩:=r.AGt ho;rw[e];rfl
def Hn(v:IN)(h:Hp):R:=match Dy v with
 |.ok a=>AFk a h
 |.no=>.no
theorem AM:AO x F e h=Hn (x e) h:=by
 unfold AO Hn;cases Dy (x e)<;>rfl
theorem AP{a:ACS}:Hn (.pointer (some a)) h=AFk a h:=rfl
def Ky(n:Nat)(v:IN)(h:Hp):R:=match Dy v with
 |.ok a=>loadN n a h
 |.no=>.no
theorem Au{n:Nat}:BU n x F e h=Ky n (x e) h:=rfl
theorem Am{n:Nat}{a:ACS}:Ky n (.pointer (some a)) h=loadN n a h:=rfl
def AFr(n:Nat)(p v:IN)(h:Hp):R:=match Dy p with
 |.ok a=>bif yu (BF (cellsOf v)) n then C1 a (cellsOf v) h EK else .no
 |.no=>.no
theorem AX{n:Nat}:Ac n x y F e h=AFr n (x e) (y e) h:=by
 unfold Ac AFr;simp only[BV];cases Dy (x e)<;>rfl
theorem Hp.Row.AFr{n b el off:Nat}{l:List IN}{v:IN}(r:h.Row b el l)(W:h.Wf)(AFs:256<=b)(hn:(cellsOf v).length=n)(ho:off+(cellsOf v).length<=l.length)(h1:Bc (cellsOf v)=true):
  AFr n (.pointer (some ⟨b,off,none⟩)) v h=.ok AFl (h.wr b off (cellsOf v)):=by
 show(bif yu (BF (cellsOf v)) n then C1 ⟨b,off,none⟩ (cellsOf v) h EK else .no)=_;rw[Bi,Ay.2 hn,r.store W AFs ho h1];rfl
def eZ(v:IN)(h:Hp):R:=bif known v then newRow h 0 (cellsOf v) JB else .no
theorem EF:Ce x F e h=eZ (x e) h:=by
 unfold Ce eZ;simp only[BV]
theorem EC(W:h.Wf){v:IN}(hk:known v=true:=by rfl):eZ v h=.ok (.pointer (some ⟨h.next,0,none⟩)) (h.AFh 0 (cellsOf v)):=by
 unfold eZ;rw[hk,cond_true,C9 W];rfl
theorem BW(W:h.Wf){n:Nat}{t:VT}:Ba n t F e h=.ok (.pointer (some ⟨h.next,0,none⟩)) (h.push (.cells t n 0)):=by
 unfold Ba;rw[C8 W];rfl
theorem Hp.Row.alloc(W:h.Wf){n:Nat}{t:VT}{l:List IN}(ht:Bt .mt 0 l=some t)(hn:l.length=n):(h.push (.cells t n 0)).Row h.next 0 l:=⟨t,by rw[W.AF6,if_pos rfl,hn],.of ht⟩
theorem Na{n:Nat}:AE n x F e h=match Dy (x e)with|.ok a=>.ok (.pointer (some ⟨a.block,a.off+n,none⟩)) h|.no=>.no:=by
 unfold AE;cases Dy (x e)with
 |ok a=>exact Ao _ _
 |no=>rfl
def Uw(n:Nat)(v:IN)(h:Hp):R:=match Dy v with
 |.ok a=>.ok (.pointer (some ⟨a.block,a.off+n,none⟩)) h
 |.no=>.no
theorem AH{n:Nat}:AE n x F e h=Uw n (x e) h:=Na
theorem AN{n b off:Nat}:Uw n (.pointer (some ⟨b,off,none⟩)) h=.ok (.pointer (some ⟨b,off+n,none⟩)) h:=rfl
def NY(n es:Nat)(p i:IN)(h:Hp):R:=Mh n es (Dy p) (De i) h
theorem DT{n es:Nat}:Ci n es x y F e h=NY n es (x e) (y e) h:=rfl
theorem VN{n es b off i:Nat}(hi:i<n):Mh n es (.ok ⟨b,off,none⟩) (.ok i) h=.ok (.pointer (some ⟨b,off+i*es,none⟩)) h:=by
 show AA1 (motive:=fun _=>R) .no (OT ⟨b,off,none⟩ (zi i es) h) (zm i n)=_;rw[BQ.2 hi];exact Ao _ _
theorem VQ{n es b off i:Nat}{k:yy}(hi:i<n):NY n es (.pointer (some ⟨b,off,none⟩)) (.int k (i:Int)) h=.ok (.pointer (some ⟨b,off+i*es,none⟩)) h:=VN hi
def AGa(es:Nat)(s i:IN)(h:Hp):R:=match s with
 |.slice (some a) n _=>Mh n es (.ok a) (De i) h
 |_=>.no
theorem BB{es:Nat}:CG es x y F e h=AGa es (x e) (y e) h:=rfl
theorem DB{n c es b off i:Nat}{k:yy}(hi:i<n):AGa es (.slice (some ⟨b,off,none⟩) n c) (.int k (i:Int)) h=.ok (.pointer (some ⟨b,off+i*es,none⟩)) h:=VN hi
def AGQ(v:IN)(h:Hp):R:=match v with
 |.slice _ n _=>.ok (.int .i64 (.ofNat n)) h
 |.chan (some _)=>.ok (.int .i64 (.ofNat 0)) h
 |_=>.no
theorem Ah:Bl x F e h=AGQ (x e) h:=rfl
theorem D7{o:Option ACS}{n c:Nat}:AGQ (.slice o n c) h=.ok (.int .i64 (n:Int)) h:=rfl
end
end
noncomputable section
open Go
section
variable {F:AFi}{e:Env}{h h':Hp}{x y:O}
def Z9:X->Bool
 |.norm _ _=>false
 |.no=>false
 |_=>true
theorem Ql{body:C}{I:Nat->Env->Hp->Prop}{Q:X->Prop}(N:Nat)
  (step:∀ i e h,I i e h->(i<N/\∃ e' h',body F e h=.norm e' h'/\I (i+1) e' h')\/(Z9 (body F e h)=true/\Q (body F e h))):
  ∀ n i e h,N - i<n->I i e h->Q (iter body n F e h)
 |0,i,e,h,hn,_=>absurd hn (Nat.not_lt_zero _)
 |n+1,i,e,h,hn,hi=>by
  unfold iter;rcases step i e h hi with ⟨h1,e',h',h2,h3⟩|⟨h1,h2⟩
  ·rw[h2]
   exact Ql N step n (i+1) e' h' (by omega) h3
  ·cases hb:body F e h with
   |norm e' h'=>rw[hb]at h1;cases h1
   |no=>rw[hb]at h1;cases h1
   |exit i e' h'=>rw[hb]at h2;exact h2
   |ret e' h'=>rw[hb]at h2;exact h2
theorem Bh{body:C}(I:Nat->Env->Hp->Prop)(Q:X->Prop)(N:Nat)(hN:N<8796093022208)
  (step:∀ i e h,I i e h->(i<N/\∃ e' h',body F e h=.norm e' h'/\I (i+1) e' h')\/(Z9 (body F e h)=true/\Q (body F e h)))(h0:I 0 e h):Q (A9 body F e h):=
 Ql N step rounds 0 e h (by show N - 0<8796093022208;omega) h0
theorem Bf{n:Nat}(h:n<=9223372036854775807):AAh.wrap (n:Int)=n:=H0 h
theorem dL{n:Int}(h0:0<=n)(h:n<=9223372036854775807):AAh.wrap n=n:=by
 obtain⟨m,rfl⟩:=Int.eq_ofNat_of_zero_le h0;exact H0 (by omega)
theorem Ee{n:Nat}(h:n<=18446744073709551615):IntKind.u64.wrap (n:Int)=n:=Dp .u64 n h
theorem IY(n:Nat):AEi.wrap (n:Int)=((n % 256:Nat):Int):=by
 have:AEi.wrap (n:Int)=(n:Int) % 256:=rfl;rw[this];omega
def bv(n:Nat):IN:=.int .u8 (n:Int)
theorem MH:∀ l:List Nat,Eu (l.map bv)=some (l.map ABB)
 |[]=>rfl
 |n::l=>by
  show(match Eu (l.map bv)with|some bs=>AF1 n fun n=>some (ABB n::bs)|none=>none)=_;rw[MH l];exact Ao _ _
theorem DZ:∀ l:List Nat,Bc (l.map bv)=true
 |[]=>rfl
 |n::l=>DZ l
def Hp.Bytes(h:Hp)(v:IN)(l:List Nat):Prop:=(v=.slice none 0 0/\l=[])\/∃ b off c el L,v=.slice (some ⟨b,off,none⟩) l.length c/\h.Row b el L/\off+l.length<=L.length/\(L.drop off).take l.length=l.map bv
theorem Hp.Bytes.src{v:IN}{l:List Nat}(b:h.Bytes v l){n:Nat}(hn:n=l.length)(k:List IN->R):BP h 1 v n k=k (l.map bv):=by
 subst hn;rcases b with ⟨h1,h2⟩|⟨b,off,c,el,L,h1,h2,h3,h4⟩
 ·rw[h1,h2];rfl
 ·rw[h1,h2.src h3,h4]
theorem Hp.Bytes.shape{v:IN}{l:List Nat}(b:h.Bytes v l):∃ a c,v=.slice a l.length c:=by
 rcases b with ⟨h1,h2⟩|⟨b,off,c,el,L,h1,h2,h3,h4⟩
 ·exact⟨none,0,by rw[h1,h2];rfl⟩
 ·exact⟨_,_,h1⟩
def tO(v:IN)(h:Hp):R:=match v with
 |.slice a n c=>BP h 1 (.slice a n c) n fun cs=>match Eu cs with
  |some bs=>.ok (.string ⟨⟨bs⟩⟩) h
  |none=>.no
 |.chan r=>match r with
  |some _=>.ok (.string ⟨⟨[]⟩⟩) h
  |none=>.no
 |_=>.no
theorem K4:Ff x F e h=tO (x e) h:=rfl
theorem Hp.Bytes.str{v:IN}{l:List Nat}(b:h.Bytes v l):tO v h=.ok (.string ⟨⟨l.map ABB⟩⟩) h:=by
 obtain⟨a,c,rfl⟩:=b.shape;show BP h 1 (.slice a l.length c) l.length (fun cs=>match Eu cs with
  |some bs=>.ok (.string ⟨⟨bs⟩⟩) h
  |none=>.no)=_
 rw[b.src rfl,MH]
def vz(f:List UInt8->List UInt8->Bool)(a b:IN)(h:Hp):R:=co f a b h
theorem PO{f:List UInt8->List UInt8->Bool}:Ju f x y F e h=vz f (x e) (y e) h:=rfl
theorem Ot{f:List UInt8->List UInt8->Bool}{a b:List UInt8}:vz f (.string ⟨⟨a⟩⟩) (.string ⟨⟨b⟩⟩) h=.ok (.bool (f a b)) h:=Fg
theorem kP{v:IN}{l:List Nat}(b:h.Bytes v l):lenV v=.ok l.length:=by
 obtain⟨a,c,rfl⟩:=b.shape;rfl
theorem Ps{eb en b n c el:Nat}{l:List IN}{v:IN}(W:h.Wf)(AFs:256<=b)(r:h.Row b el l)(hx:h.Bytes v [])(hc:n<=c)(hn:n<=l.length):
  Dr 1 eb en (.slice (some ⟨b,0,none⟩) n c) v h=.ok (.slice (some ⟨b,0,none⟩) n c) (h.wr b n []):=by
 unfold Dr;simp only[kP hx,hx.src rfl,Ao,AAD];have e1:yl n c=true:=Av.2 hc;have e0:n+([]:List Nat).length=n:=rfl;simp only[e0,e1,List.map_nil];have e2:FH ⟨b,0,none⟩ (zi n 1)=⟨b,n,none⟩:=by
  rw[show zi n 1=n from AA0 n];cases n with
  |zero=>rfl
  |succ n=>show(⟨b,AAB 0 (yg n),none⟩:ACS)=_;rw[AAD,If]
 rw[e2,r.store W AFs (by simpa using hn) rfl]
def DU(es eb en:Nat)(s v:IN)(h:Hp):R:=Dr es eb en s v h
theorem BN{es eb en:Nat}:Bp es eb en x y F e h=DU es eb en (x e) (y e) h:=rfl
theorem Bs{cs:List IN}{k:List IN->R}:Ef cs e k []=k cs:=C7 _ _
theorem Af{cs:List IN}{k:List IN->R}{off size:Nat}{rest:List (Nat×Nat×O)}(hk:known (x e)=true:=by rfl):Ef cs e k ((off,size,x)::rest)=(if(cellsOf (x e)).length=size then(if off+size<=cs.length then Ef (over cs off (cellsOf (x e))) e k rest else .no)else .no):=by
 have e0:Ef cs e k ((off,size,x)::rest)=(bif known (x e)then(bif yu (BF (cellsOf (x e))) size then(bif yl (AAB off size) (BF cs)then Ef (lay cs off (cellsOf (x e))) e k rest else .no)else .no)else .no):=BV _ _;have e1:Ef cs e k ((off,size,x)::rest)=(bif yu (BF (cellsOf (x e))) size then(bif yl (AAB off size) (BF cs)then Ef (lay cs off (cellsOf (x e))) e k rest else .no)else .no):=by rw[e0,hk];rfl
 rw[e1,Bi,Bi,AGP];by_cases h1:(cellsOf (x e)).length=size
 ·rw[if_pos h1,Ay.2 h1]
  by_cases h2:off+size<=cs.length
  ·rw[if_pos h2,show yl (AAB off size) cs.length=true from Av.2 h2];rfl
  ·rw[if_neg h2]
   have:yl (AAB off size) cs.length=false:=by
    cases e:yl (AAB off size) cs.length
    ·rfl
    ·exact absurd (Av.1 e) h2
   rw[this];rfl
 ·rw[if_neg h1]
  have:yu (cellsOf (x e)).length size=false:=by
   cases e:yu (cellsOf (x e)).length size
   ·rfl
   ·exact absurd (Ay.1 e) h1
  rw[this];rfl
theorem Ch{k:yy}{n:Int}:cellsOf (.int k n)=[.int k n]:=rfl
theorem Fi{l vs:List IN}(hl:l.length=vs.length):over l 0 vs=vs:=by
 unfold over;rw[List.take_zero,zU,zx (by omega),yw]
theorem CS{zero:List IN}{ps:List (Nat×Nat×O)}:BK zero ps F e h=Ef zero e (fun cs=>.ok (.agg ⟨cs⟩) h) ps:=rfl
theorem CR{n:Nat}{zero:List IN}{ps:List (Nat×Nat×O)}:As n zero ps F e h=Ef zero e (fun cs=>newRow h 0 cs (Fq n n)) ps:=rfl
def Hp.marked(h:Hp):Hp:={next:=h.next,low:=h.low,high:=h.high,mark:=h.next,bl:=h.bl}
def Hp.quiet(h:Hp):Hp:={next:=h.next,low:=h.next,high:=0,mark:=h.mark,bl:=h.bl}
def Hp.back(h h':Hp):Hp:={next:=h'.next,low:=B9 h.low h'.low,high:=Cy h.high h'.high,mark:=h.mark,bl:=h'.bl}
theorem A1{k:C}:B8 k F e h=k F e h.marked:=rfl
theorem Hp.Wf.marked(W:h.Wf):h.marked.Wf:=⟨W.big,W.has,W.fresh⟩
theorem Hp.Wf.quiet(W:h.Wf):h.quiet.Wf:=⟨W.big,W.has,W.fresh⟩
theorem Hp.Ext.marked{h0:Hp}(x:h0.Ext h):h0.Ext h.marked:=⟨x.next,x.get,x.low,x.wf.marked⟩
theorem Hp.Row.same{b el:Nat}{l:List IN}(r:h.Row b el l)(hb:h'.bl=h.bl):h'.Row b el l:=by
 obtain⟨c,hc,hl⟩:=r;exact⟨c,by rw[hb];exact hc,hl⟩
theorem Hp.Ext.back(x:h.quiet.Ext h'):h.Ext (h.back h') where
 next:=x.next
 get:=x.get
 low:=by
  show _<=B9 h.low h'.low;rw[BZ];have h1:min h.next h.next<=h'.low:=x.low;omega
 wf:=⟨x.wf.big,x.wf.has,x.wf.fresh⟩
theorem Cp{f:OpF}{m:Qm}{v:IN}(hf:f F e h.quiet=.ok v h')(x:h.quiet.Ext h')(hm:h.mark<=h.next):Ad m f F e h=.ok v (h.back h'):=by
 have h1:min h.next h.next<=h'.low:=x.low;have hq:qOk m h h'.low=true:=by
  cases m with
  |AFz=>exact Av.2 (by omega)
  |weak=>exact Av.2 (by omega)
  |free=>rfl
 show(match f F e h.quiet with|.ok v h'=>bif qOk m h h'.low then Dg h v h' else .no|.no=>.no)=_;rw[hf];simp only[hq,cond_true];unfold Dg;simp only[Ao];rfl
theorem BO{f:OpF}{v:IN}(hf:f F e h.quiet=.ok v h'):Ad .free f F e h=.ok v (h.back h'):=by
 show(match f F e h.quiet with|.ok v h'=>bif qOk .free h h'.low then Dg h v h' else .no|.no=>.no)=_;rw[hf];show Dg h v h'=_;unfold Dg;simp only[Ao];rfl
def JA(v:IN)(k:C)(F:AFi)(e:Env)(h:Hp):X:=match AGG v with
 |.ok b=>bif zm b h.mark then k F e h else .no
 |.no=>k F e h
theorem ED{k:C}:EP x k F e h=JA (x e) k F e h:=rfl
theorem Dl{b off:Nat}{k:C}(hb:b<h.mark):JA (.pointer (some ⟨b,off,none⟩)) k F e h=k F e h:=by
 show(bif zm b h.mark then k F e h else .no)=_;rw[BQ.2 hb];rfl
theorem DV{k:C}:Cn x [] k F e h=k F e h:=by
 unfold Cn;cases AGG (x e)<;>rfl
theorem Hp.Ext.quiet{h0:Hp}(x:h0.Ext h):h0.Ext h.quiet:=⟨x.next,x.get,by show _<=h.next;have:=x.next;omega,x.wf.quiet⟩
theorem Hp.Ext.AGo{h0:Hp}(x:h0.Ext h)(y:h0.Ext h'):h0.Ext (h.back h') where
 next:=y.next
 get:=y.get
 low:=by
  show _<=B9 h.low h'.low;rw[BZ];have:=x.low;have:=y.low;omega
 wf:=⟨y.wf.big,y.wf.has,y.wf.fresh⟩
end
end
noncomputable section
open Go Go.RowKit Go.WideShapes Go.ChangeShapes
def sliceAt(b:Nat)(a:ACS)(n c:Nat):Phi:=fun i=>if i=b then some {blk:=a.block,off:=a.off,sz:=c,room:=c,es:=1,inp:=true}else none
theorem Yg{P:zp}{W:zP}{base t e:Nat}{v:IN}(ht:P.underlying t=some (.slice e))(h:AAI P W .any base t v):
  v=.slice none 0 0\/∃ a n c,v=.slice (some a) n c/\n<=c/\a.spot=none/\a.block<W.heap.size:=by
 unfold AAI at h;rw[ht]at h;simp only at h;unfold ADE at h;rw[ht]at h;have h:Cell.ok P W .any base t v:=by cases v<;>exact h
 unfold Cell.ok at h;rw[ht]at h;split at h<;>first|(exact h.elim;done)|skip
 all_goals (rename_i e1 _;cases e1)
 ·exact .inl rfl
 ·obtain⟨h1,_,h2⟩:=h
  obtain⟨_,h3,row,cells,h4,_⟩:=h2;refine .inr ⟨_,_,_,rfl,h1,h3,?_⟩;unfold World.shape? at h4;split at h4
  ·rename_i hb;exact(AAm.1 hb).1
  all_goals first|(cases h4;done)|(rename_i hb;exact(AAm.1 hb).1)
theorem Th{P:zp}{W:zP}{base t e:Nat}{v:IN}(ht:P.underlying t=some (.slice e))(h:ADE P W .any base t v):
  v=.slice none 0 0\/∃ a n c,v=.slice (some a) n c/\n<=c/\a.spot=none/\a.block<W.heap.size:=
 Yg (base:=base) ht (by unfold AAI;rw[ht];exact h)
end
noncomputable section
open Go Go.RowKit Go.WideShapes Go.ChangeShapes
theorem kI{P:zp}{ty:TTy}{bs:FT}(hC:∀ n,Db P ty (call bs n)){n f:Nat}{xs args:List IN}{φ:Phi}{w:zP}{h0 h':Hp}(hr:call bs n f xs h0=.ok (.bool true) h')(x:h0.Ext h')(hl:h0.low=h0.next)
  (ha:AF3 φ xs args)(H:AFp ty φ nil h0 w):Calls P f ⟨args⟩ w fun e w'=>e=.returned (.bool true)/\Below w.heap.size w w':=by
 obtain⟨_,hc⟩:=hC n f xs h0 _ h' hr;refine(hc φ w args ha H).mono fun e w' ⟨v',ψ,he,hv,_,ev⟩=>?_
 have:=hv.AGb;subst this;refine⟨he,⟨ev.os,ev.tape,ev.output,ev.size,fun k hk=>ev.frame k hk fun i p hp hn h1 _ _=>?_⟩⟩;have h2:=(H.dom i p hp).1;have h3:=x.low;omega
theorem N1:∀ (n i:Nat),i+1<2 ^ n->(FZ n).has i
 |0,i,h=>by rw[Nat.pow_zero]at h;omega
 |n+1,0,_=>trivial
 |n+1,k+1,h=>by
  show(BT.nd .dead (FZ n) (FZ n)).has (k+1);rw[BT.AFt];have h1:k/2+1<2 ^ n:=by
   have:2 ^ (n+1)=2*2 ^ n:=by rw[AFA,AAP]
   omega
  split<;>exact N1 n _ h1
def LO(L:List IN):Blk:=.cells (ofL L) L.length 0
def inB:List (List IN)->Nat->BT->BT
 |[],_,t=>t
 |L::Ls,i,t=>inB Ls (i+1) (t.lay i (LO L))
theorem O8:∀ (Ls:List (List IN)) (i:Nat) (t:BT),(∀ j,j<256->t.has j)->i+Ls.length<=256->
  (∀ j,j<256->(inB Ls i t).has j)/\(∀ k L,Ls[k]? =some L->(inB Ls i t).get (i+k)=LO L)/\(∀ j,j<i\/i+Ls.length<=j->(inB Ls i t).get j=t.get j)
 |[],i,t,ht,_=>⟨ht,(fun k L h=>by cases h),fun _ _=>rfl⟩
 |L::Ls,i,t,ht,hl=>by
  have hl':i+1+Ls.length<=256:=by simp only[yh]at hl;omega
  have hi:∀ j,j<i->t.has j:=fun j hj=>ht j (by omega)
  obtain⟨a,b,c⟩:=O8 Ls (i+1) (t.lay i (LO L)) (fun j hj=>BT.AGn hi j (.inr (ht j hj))) hl';refine⟨a,fun k M h=>?_,fun j hj=>?_⟩
  ·cases k with
   |zero=>
    obtain rfl:L=M:=Option.some.inj h;show(inB Ls (i+1) (t.lay i (LO L))).get i=_;rw[c i (.inl (Nat.lt_succ_self i)),BT.AGg hi,if_pos rfl]
   |succ k=>
    have:=b k M h;rw[show i+1+k=i+(k+1)by omega]at this;exact this
  ·show(inB Ls (i+1) (t.lay i (LO L))).get j=_
   simp only[yh]at hj;rw[c j (by omega),BT.AGg hi,if_neg (by omega)]
def inH(Ls:List (List IN)):Hp:={next:=256,low:=256,high:=0,mark:=256,bl:=inB Ls 0 (FZ 9)}
theorem Md(j:Nat)(hj:j<256):(FZ 9).has j:=N1 9 j (by omega)
theorem O9{Ls:List (List IN)}(hl:Ls.length<=256){i:Nat}{L:List IN}(h:Ls[i]? =some L):(inH Ls).bl.get i=LO L:=by
 have:=(O8 Ls 0 (FZ 9) Md (by omega)).2.1 i L h
 rwa [If]at this
theorem aO{Ls:List (List IN)}(hl:Ls.length<=256):(inH Ls).Wf where
 big:=IT _
 has:=(O8 Ls 0 (FZ 9) Md (by omega)).1
 fresh:=fun i hi=>by
  have hi:256<=i:=hi;have:=(O8 Ls 0 (FZ 9) Md (by omega)).2.2 i (.inr (by omega));show(inB Ls 0 (FZ 9)).get i=_;rw[this];exact Km 9 i
theorem Lq{Ls:List (List IN)}(hl:Ls.length<=256){i:Nat}{L:List IN}(h:Ls[i]? =some L):(inH Ls).Row i 0 L:=⟨ofL L,O9 hl h,(Hs L).2⟩
def LE(W:zP)(a:ACS)(L:List IN):Prop:=∃ cs t fr,W.heap[a.block]? =some (.cells cs t fr)/\(∀ j,j<L.length->cs[a.off+j]? =some (L.getD j AFl))/\∀ j,j<L.length->¬ (fr.1<=a.off+j/\a.off+j<fr.2)
def PU(a:ACS)(c:Nat):Pl:={blk:=a.block,off:=if c=0 then 0 else a.off,sz:=c,room:=c,es:=1,inp:=true}
def Mi(ps:List (Option Pl)):Phi:=fun i=>(ps[i]?).getD none
theorem cF{W:zP}{ty:TTy}{φ:Phi}{a:ACS}{L L':List IN}(h:LE W a L')(hL:AF3 φ L L'):AGe ty φ (PU a L.length) (LO L) W.heap[a.block]?:=by
 obtain⟨cs,t,fr,hb,hc,hf⟩:=h;have hlen:L'.length=L.length:=hL.length;rw[hlen]at hc hf;rw[hb];refine .cells {kind:=⟨rfl,.inl ⟨rfl,rfl,rfl,.inr rfl⟩⟩,room:=IT _,fits:=?_,loose:=.inr ⟨rfl,rfl,fun o h1 h2=>?_⟩,cell:=fun j hj=>?_}
 ·show(if L.length=0 then 0 else a.off)+L.length<=cs.size
  rcases za L.length with h0|h0
  ·rw[if_pos h0,h0];exact Nat.zero_le _
  ·rw[if_neg (by omega)]
   have:=(AAm.1 (hc (L.length - 1) (by omega))).1;omega
 ·have h1:(if L.length=0 then 0 else a.off)<=o:=h1
  have h2:o<(if L.length=0 then 0 else a.off)+L.length:=h2;rcases za L.length with h0|h0
  ·rw[if_pos h0]at h2;omega
  ·rw[if_neg (by omega)]at h1 h2
   have:=hf (o - a.off) (by omega);have e:a.off+(o - a.off)=o:=by omega
   rw[e]at this;exact this
 ·have h1:=hc j hj
  obtain⟨v',hv1,hv2⟩:=hL.get j (L.getD j AFl) (by rw[yf,sh hj];rfl);refine⟨v',?_,?_⟩
  ·show cs[(if L.length=0 then 0 else a.off)+j]? =_
   rw[if_neg (by omega),h1,yf,hv1];rfl
  ·rw[((Hs L).2 j hj).2];exact hv2
theorem LE.lt{W:zP}{a:ACS}{L:List IN}(h:LE W a L):a.block<W.heap.size:=by
 obtain⟨cs,t,fr,hb,_⟩:=h;exact(AAm.1 hb).1
theorem rh{W:zP}{ty:TTy}{ps:List (Option Pl)}{Ls:List (List IN)}(AFs:Ls.length<=256)
  (h:∀ i p,Mi ps i=some p->∃ a L,p=PU a L.length/\Ls[i]? =some L/\a.block<W.heap.size/\AGe ty (Mi ps) (PU a L.length) (LO L) W.heap[a.block]?):AFp ty (Mi ps) nil (inH Ls) W where
 dom:=fun i p e=>by
  obtain⟨a,L,rfl,h1,h2,_⟩:=h i p e;have h3:=(zG.1 h1).1;exact⟨by show i<256;omega,h2⟩
 inj:=fun i j p q h1 h2 _ _ _ _ hor=>by
  obtain⟨a,L,rfl,_⟩:=h i p h1;obtain⟨b,M,rfl,_⟩:=h j q h2;rcases hor with h3|h3<;>cases h3
 row:=fun i p e _=>by
  obtain⟨a,L,rfl,h1,_,h3⟩:=h i p e;rw[O9 AFs h1];exact h3
 fresh:=(aO AFs).fresh
 kind:=fun i p c s e hp hc=>by
  obtain⟨a,L,rfl,h1,_,h3⟩:=h i p hp;rw[O9 AFs h1]at hc;have hc:Blk.cells (ofL L) L.length 0=.cells c s e:=hc;cases hc;exact⟨rfl,.inl ⟨rfl,rfl,rfl,.inr rfl⟩⟩
 inp:=fun i p e _=>by
  obtain⟨a,L,rfl,h1,_⟩:=h i p e;have h3:=(zG.1 h1).1;omega
theorem xZ{φ:Phi}{a:ACS}{n c i:Nat}(hs:a.spot=none)(hn:n<=c)(hp:φ i=some (PU a c)):AFm φ (.slice (some ⟨i,0,none⟩) n c) (.slice (some a) n c):=by
 refine .slice hn ⟨rfl,hs,_,hp,rfl,?_⟩;rcases za c with h|h
 ·exact .inr ⟨h,.inl h⟩
 ·refine .inl ⟨h,?_,.inl rfl⟩
  show a.off=(if c=0 then 0 else a.off)+0;rw[if_neg (by omega),Nat.add_zero]
def ints(k:yy)(Z:List Int):List IN:=Z.map (.int k)
def yF(k:yy)(W:zP)(v:IN)(zs:List Int):Prop:=(v=.slice none 0 0/\zs=[])\/∃ (a:ACS) (n c:Nat) (Z:List Int),v=.slice (some a) n c/\n<=c/\a.spot=none/\Z.length=c/\zs=Z.take n/\LE W a (ints k Z)
def Hp.AF5(h:Hp)(v:IN)(xs:List IN):Prop:=(v=.slice none 0 0/\xs=[])\/∃ b off c el L,v=.slice (some ⟨b,off,none⟩) xs.length c/\h.Row b el L/\off+xs.length<=L.length/\(L.drop off).take xs.length=xs
def Yv(W:zP)(L:List IN)(q:Option Pl):Prop:=q=none\/∃ a,q=some (PU a L.length)/\LE W a L
end
noncomputable section
open Go Go.RowKit Go.ChangeShapes
theorem sT:type_of% (yx @Gv (yx @Ok (yx @Gn (yx @ZN (yx @HU (yx @BJ (yx @Az (yx @MJ (yx @US (yx @P6 (yx @Gw (yx @Z0 (yx @Iu (yx @HV (yx @BA (yx @OV (yx @DC (yx @CT (yx @CQ (yx @BD (yx @D9 (yx @Fd @AG)))))))))))))))))))))):=yx @Gv (yx @Ok (yx @Gn (yx @ZN (yx @HU (yx @BJ (yx @Az (yx @MJ (yx @US (yx @P6 (yx @Gw (yx @Z0 (yx @Iu (yx @HV (yx @BA (yx @OV (yx @DC (yx @CT (yx @CQ (yx @BD (yx @D9 (yx @Fd @AG)))))))))))))))))))))
theorem iN:type_of% (yx @J3 (yx @LV (yx @ADp @If))):=yx @J3 (yx @LV (yx @ADp @If))
theorem cA0:type_of% (yx @BR (yx @AV @A3)):=(yx @BR (yx @AV @A3))
theorem lV0:type_of% (yx @BI @QR):=(yx @BI @QR)
theorem gD:type_of% (yx @Sj (yx @N7 (yx @N6 (yx @N5 (yx @N4 (yx @LN (yx @SC (yx @RF (yx @M9 @LR))))))))):=yx @Sj (yx @N7 (yx @N6 (yx @N5 (yx @N4 (yx @LN (yx @SC (yx @RF (yx @M9 @LR))))))))
section
variable {F:AFi}{e:Env}{h h':Hp}{x y:O}
theorem Hp.AF5.ext{v:IN}{l:List IN}(b:h.AF5 v l)(W:h.Wf)(x:h.Ext h'):h'.AF5 v l:=by
 rcases b with h1|⟨b,off,c,el,L,h1,h2,h3⟩
 ·exact .inl h1
 ·exact .inr ⟨b,off,c,el,L,h1,h2.ext W x,h3⟩
theorem Hp.AF5.same{v:IN}{l:List IN}(b:h.AF5 v l)(hb:h'.bl=h.bl):h'.AF5 v l:=by
 rcases b with h1|⟨b,off,c,el,L,h1,h2,h3⟩
 ·exact .inl h1
 ·exact .inr ⟨b,off,c,el,L,h1,h2.same hb,h3⟩
theorem Hp.AF5.src{v:IN}{l:List IN}(b:h.AF5 v l){n:Nat}(hn:n=l.length)(k:List IN->R):BP h 1 v n k=k l:=by
 subst hn;rcases b with ⟨h1,h2⟩|⟨b,off,c,el,L,h1,h2,h3,h4⟩
 ·rw[h1,h2];rfl
 ·rw[h1,h2.src h3,h4]
theorem Hp.AF5.shape{v:IN}{l:List IN}(b:h.AF5 v l):∃ a c,v=.slice a l.length c:=by
 rcases b with ⟨h1,h2⟩|⟨b,off,c,el,L,h1,h2,h3,h4⟩
 ·exact⟨none,0,by rw[h1,h2];rfl⟩
 ·exact⟨_,_,h1⟩
theorem Hp.AF5.len{v:IN}{l:List IN}(b:h.AF5 v l):AGQ v h=.ok (.int .i64 (l.length:Int)) h:=by
 obtain⟨a,c,rfl⟩:=b.shape;rfl
theorem Hp.AF5.lenV{v:IN}{l:List IN}(b:h.AF5 v l):lenV v=.ok l.length:=by
 obtain⟨a,c,rfl⟩:=b.shape;rfl
theorem Hp.AF5.at{v:IN}{l:List IN}(b:h.AF5 v l){i:Nat}(hi:i<l.length):∃ a,AGa 1 v (.int .i64 (i:Int)) h=.ok (.pointer (some a)) h/\Hn (.pointer (some a)) h=.ok (l.getD i AFl) h:=by
 rcases b with ⟨h1,h2⟩|⟨b,off,c,el,L,h1,h2,h3,h4⟩
 ·rw[h2]at hi;cases hi
 ·refine⟨⟨b,off+i*1,none⟩,by rw[h1];exact DB hi,?_⟩
  rw[AP,h2.AFk (by omega)];have:=congrArg (fun m=>m[i]?) h4;simp only[AA9,ABf,if_pos hi]at this;rw[yf,AA0,this,yf]
theorem Hp.AF5.bytes{v:IN}{l:List Nat}(b:h.AF5 v (l.map bv)):h.Bytes v l:=by
 rcases b with ⟨h1,h2⟩|⟨b,off,c,el,L,h1,h2,h3,h4⟩
 ·exact .inl ⟨h1,by cases l with
   |nil=>rfl
   |cons a l=>cases h2⟩
 ·rw[List.length_map]at h1 h3 h4
  exact .inr ⟨b,off,c,el,L,h1,h2,h3,h4⟩
theorem Hp.AF5.cut{v:IN}{l:List IN}(b:h.AF5 v l){n:Nat}(hn:n<l.length):∃ o c,v=.slice (some o) l.length c/\h.AF5 (.slice (some o) n c) (l.take n):=by
 rcases b with ⟨h1,h2⟩|⟨b,off,c,el,L,h1,h2,h3,h4⟩
 ·rw[h2]at hn;cases hn
 ·have hl:(l.take n).length=n:=by rw[zJ];omega
  refine⟨⟨b,off,none⟩,c,h1,.inr ⟨b,off,c,el,L,by rw[hl],h2,by omega,?_⟩⟩;rw[hl,<- h4,List.take_take,Nat.min_eq_left (by omega)]
def AGA(v:IN)(b:Nat):Prop:=∃ off n c,v=.slice (some ⟨b,off,none⟩) n c
theorem GQ{b:Nat}:¬ AGA (.slice none 0 0) b:=fun⟨_,_,_,h⟩=>by cases h
theorem Ll{b b' n c:Nat}(h:b'≠b):¬ AGA (.slice (some ⟨b,0,none⟩) n c) b':=fun⟨_,_,_,e⟩=>by
 injection e with e _ _
 injection e with e
 injection e with e _ _
 exact h e.symm
def Hp.Own(h:Hp)(k en:Nat)(v:IN)(xs:List IN):Prop:=(v=.slice none 0 0/\xs=[])\/∃ b,v=.slice (some ⟨b,0,none⟩) xs.length xs.length/\h.Row b (en+1) xs/\k<=b/\256<=b
theorem Hp.Own.vals{k en:Nat}{v:IN}{xs:List IN}(o:h.Own k en v xs):h.AF5 v xs:=by
 rcases o with h1|⟨b,h1,h2,_⟩
 ·exact .inl h1
 ·exact .inr ⟨b,0,_,_,xs,h1,h2,by omega,by rw[List.drop_zero,List.take_length]⟩
theorem Hp.Own.le{k k' en:Nat}{v:IN}{xs:List IN}(o:h.Own k en v xs)(hk:k'<=k):h.Own k' en v xs:=by
 rcases o with h1|⟨b,h1,h2,h3,h4⟩
 ·exact .inl h1
 ·exact .inr ⟨b,h1,h2,zO hk h3,h4⟩
theorem Hp.Own.keep{k en:Nat}{v:IN}{xs:List IN}(o:h.Own k en v xs)(hk:∀ b el L,AGA v b->h.Row b el L->h'.Row b el L):h'.Own k en v xs:=by
 rcases o with h1|⟨b,h1,h2,h3,h4⟩
 ·exact .inl h1
 ·exact .inr ⟨b,h1,hk b _ _ ⟨0,_,_,h1⟩ h2,h3,h4⟩
theorem Hp.Own.ext{k en:Nat}{v:IN}{xs:List IN}(o:h.Own k en v xs)(W:h.Wf)(x:h.Ext h'):h'.Own k en v xs:=o.keep fun _ _ _ _ r=>r.ext W x
theorem Hp.Own.same{k en:Nat}{v:IN}{xs:List IN}(o:h.Own k en v xs)(hb:h'.bl=h.bl):h'.Own k en v xs:=o.keep fun _ _ _ _ r=>r.same hb
theorem Es{h0:Hp}{eb en k:Nat}{v u:IN}{xs ys:List IN}(x0:h0.Ext h)(hk:h0.next<=k)(hk2:k<=h.next)(o:h.Own k en v xs)(y:h.AF5 u ys)(hy:0<ys.length)(ha:Bc ys=true)(hm:(xs.length+ys.length+1)*(eb+1)<=1099511627776):
  ∃ h' v',DU 1 eb en v u h=.ok v' h'/\h0.Ext h'/\h'.Own k en v' (xs++ys)/\h'.next=h.next+1/\∀ b el L,¬ AGA v b->h.Row b el L->h'.Row b el L/\¬ AGA v' b:=by
 have W:=x0.wf;rcases o with ⟨rfl,rfl⟩|⟨b,rfl,r,hb,hb2⟩
 ·obtain⟨t1,t2⟩:=Hs ys
  refine⟨h.push (.cells (ofL ys) ys.length (en+1)),.slice (some ⟨h.next,0,none⟩) ys.length ys.length,?_,x0.push _,.inr ⟨h.next,rfl,⟨ofL ys,by rw[W.AF6,if_pos rfl];rfl,t2⟩,hk2,W.big⟩,rfl,fun b' el' L' _ r'=>⟨r'.push W _,Ll (by have:=r'.lt W;omega)⟩⟩;unfold DU Dr;simp only[y.lenV,y.src rfl,Ao,AAD,If];have e1:yl ys.length 0=false:=by
   cases e:yl ys.length 0
   ·rfl
   ·have:=Av.1 e;omega
  have e2:yl (zi (yg ys.length) (yg eb)) Jk=true:=Av.2 (IJ (by
   have:=hm;simp only[zS,If]at this;exact this))
  rw[e1];simp only[e2,cond_true,ha];unfold HL BP Jd;simp only[zU,t1];unfold E7;simp only[Bi];unfold CW;rw[Ao,C8 W];rfl
 ·obtain⟨cc,hcc,hl⟩:=r.rowOf
  obtain⟨t,h2,h3⟩:=EM ys cc xs xs.length hl (.inr rfl);have h3:t.Is (xs++ys):=by
   have e:xs.drop (xs.length+ys.length)=[]:=zx (by omega);rw[e]at h3
   simpa using h3
  have hlen:(xs++ys).length=xs.length+ys.length:=No;have hlt:=r.lt W;have W1:(h.put b .dead).Wf:=W.put hlt _;have x1:h0.Ext (h.put b .dead):=x0.put (by omega) hlt _;refine⟨(h.put b .dead).push (.cells t (xs.length+ys.length) (en+1)),.slice (some ⟨h.next,0,none⟩) (xs.length+ys.length) (xs.length+ys.length),?_,x1.push _,.inr ⟨h.next,by rw[hlen],⟨t,by
   have:=W1.AF6 (.cells t (xs.length+ys.length) (en+1)) h.next;rw[this,if_pos (show h.next=(h.put b .dead).next from rfl),hlen],h3⟩,hk2,W.big⟩,rfl,fun b' el' L' hne r'=>?_⟩
  ·unfold DU Dr
   simp only[y.lenV,y.src rfl,Ao,AAD];have e1:yl (xs.length+ys.length) xs.length=false:=by
    cases e:yl (xs.length+ys.length) xs.length
    ·rfl
    ·have:=Av.1 e;omega
   have e2:yl (zi (yg (xs.length+ys.length)) (yg eb)) Jk=true:=Av.2 (IJ hm);rw[e1];simp only[e2,cond_true,ha];unfold HL;have e3:yu xs.length (zi xs.length 1)=true:=Ay.2 (AA0 _).symm;simp only[hcc,e3,h2];unfold E7;have e4:LG 0 xs.length 1 xs.length=true:=by
    unfold LG;cases xs.length with
    |zero=>rfl
    |succ n=>exact Ay.2 (by show 0+(n+1)*1=n+1;omega)
   simp only[hcc,Bi,AAD,AAQ,cond_true,e4];rw[Dw W hb2 hlt];unfold CW;rw[Ao,C8 W1];rfl
  ·have AH9:b'≠b:=fun e=>hne ⟨0,_,_,by rw[e]⟩
   have hb':b'<h.next:=r'.lt W;obtain⟨c',hc',hl'⟩:=r';refine⟨⟨c',?_,hl'⟩,Ll (by omega)⟩;rw[W1.AF6,if_neg (by show b'≠h.next;omega),W.AGF hlt,if_neg AH9,hc']
theorem IQ(W:h.Wf){g:O}{z v:IN}(hv:g e=v)(hk:known v=true)(h1:cellsOf v=[v]):As 1 [z] [(0,1,g)] F e h=.ok (.slice (some ⟨h.next,0,none⟩) 1 1) (h.AFh 0 [v]):=by
 rw[CR,Af (hk:=by rw[hv];exact hk),hv,h1,if_pos (show [v].length=1 from rfl),if_pos (show 0+1<=[z].length from IT _),Bs,C9 W];rfl
theorem RJ(W:h.Wf){v:IN}:(h.AFh 0 [v]).AF5 (.slice (some ⟨h.next,0,none⟩) 1 1) [v]:=.inr ⟨h.next,0,1,0,[v],rfl,Hp.Row.new W 0 [v],by simp,rfl⟩
theorem HS(k:yy):∀ Z:List Int,Bc (ints k Z)=true
 |[]=>rfl
 |z::Z=>HS k Z
theorem Jw{h0:Hp}{eb en k:Nat}{v:IN}{xs:List IN}{n:Int}{kd:yy}(x0:h0.Ext h)(hk:h0.next<=k)(hk2:k<=h.next)(o:h.Own k en v xs)(hm:(xs.length+2)*(eb+1)<=1099511627776):
  ∃ h' v',DU 1 eb en v (.slice (some ⟨h.next,0,none⟩) 1 1) (h.AFh 0 [.int kd n])=.ok v' h'/\h0.Ext h'/\h'.Own k en v' (xs++[.int kd n])/\h'.next=h.next+2/\∀ b el L,¬ AGA v b->h.Row b el L->h'.Row b el L/\¬ AGA v' b:=by
 have W:=x0.wf;have x1:=x0.AFh 0 [.int kd n];have o1:(h.AFh 0 [.int kd n]).Own k en v xs:=o.ext W ((Hp.Ext.refl W).AFh _ _);obtain⟨h',v',a,b,c,d,f⟩:=Es (eb:=eb) x1 hk (ACU hk2) o1 (RJ W) (by simp) rfl (by simpa using hm);exact⟨h',v',a,b,c,d,fun b' el L hb r=>f b' el L hb (r.push W _)⟩
def KK(F:AFi)(v:IN)(args:List IN)(h:Hp):R:=match v with
 |.func (.func g) first cap=>F g (first.toList++(args++cap.toList)) h
 |_=>.no
theorem Ca{f:O}{l:List O}:EI f l F e h=KK F (f e) (vals e l) h:=by
 show(match f e with|.func (.func g) first cap=>AGT (vals e l) (fun args=>F g (first.toList++(args++cap.toList)) h)|_=>.no)=_;unfold KK;split<;>simp only[C7]
theorem Cr{g:Nat}{l c args:List IN}:KK F (.func (.func g) ⟨l⟩ ⟨c⟩) args h=F g (l++(args++c)) h:=rfl
theorem DX{fn:Fn}{l c:List O}:EX fn l c F e h=.ok (.func fn ⟨vals e l⟩ ⟨vals e c⟩) h:=by
 show AGT (vals e l) (fun f=>AGT (vals e c) fun c=>.ok (.func fn ⟨f⟩ ⟨c⟩) h)=_;rw[C7,C7]
end
def Y8(args:List IN)(h:Hp):R:=match args with
 |[]=>.ok (.bool true) h
 |_::_=>.no
def KQ:Body:=⟨[.x (fun _=>Y8)],cNo⟩
theorem G0{ty:TTy}{φ:Phi}{E:Nat->Prop}{h:Hp}{w w':zP}(H:AFp ty φ E h w)(hb:Below w.heap.size w w'):AFp ty φ E h w'/\Evo φ h w φ h w':=
 ⟨{dom:=fun i p e=>⟨(H.dom i p e).1,zw (H.dom i p e).2 hb.size⟩
   inj:=H.inj
   row:=fun i p e hE=>(by rw[hb.block _ (H.dom i p e).2];exact H.row i p e hE)
   fresh:=H.fresh
   kind:=H.kind
   inp:=H.inp},
  {le:=.refl _
   new:=fun _ _ e=>.inl e
   next:=IT _
   size:=hb.size
   tape:=hb.tape
   os:=hb.os
   output:=hb.output
   frame:=fun k hk _=>hb.block k hk
   back:=fun i p e hl _=>⟨i,p,e,hl,rfl,rfl,.inl rfl⟩
   kept:=fun _ _ _=>rfl
   low:=IT _
   high:=IT _
   shape:=fun _ _=>.refl _
   only:=fun _ _ _=>rfl
   all:=fun _ h1 h2=>absurd h2 (Nat.not_lt.2 h1)}⟩
theorem Yn{P:zp}{ty:TTy}{f:Nat}(hS:∃ fn,P.funcs[f]? =some fn/\fn.name≠"runtime.NumGoroutine" /\fn.body.isNone=false)(hc:∀ w:zP,Calls P f #[] w fun e w'=>e=.returned (.bool true)/\Below w.heap.size w w'):Il P ty f KQ:=fun F args h v h' _ hr=>⟨hS,fun φ w args' AGK H=>by
 have hr:Y8 args h=.ok v h':=hr;cases args with
 |cons a l=>cases hr
 |nil=>
  cases hr;cases AGK;exact(hc w).mono fun e w' ⟨he,hb⟩=>⟨_,φ,he,.bool true,(G0 H hb).1,(G0 H hb).2⟩⟩
theorem ML{bs:FT}{n f:Nat}(hb:bs.get f=some KQ){h:Hp}:call bs (yg n) f [] h=.ok (.bool true) h:=by
 rw[Ab hb];rfl
end
noncomputable section
open Go
def CD(n:Nat):List Nat:=if h:n<128 then [n]else(n % 128+128)::CD (n/128)
termination_by n
decreasing_by exact ACs (by omega) (by omega)
theorem FD{n:Nat}(h:n<128):CD n=[n]:=by rw[CD,dif_pos h]
theorem Gk{n:Nat}(h:128<=n):CD n=(n % 128+128)::CD (n/128):=by rw[CD,dif_neg (by omega)]
theorem dG:∀ (n x:Nat),x∈CD n->x<256:=by
 intro n
 induction n using ADS with
 |_ n ih=>
  intro x hx;by_cases h:n<128
  ·rw[FD h,List.mem_singleton]at hx
   omega
  ·rw[Gk (by omega)]at hx
   rcases List.mem_cons.1 hx with rfl|hx
   ·omega
   ·exact ih (n/128) (ACs (by omega) (by omega)) x hx
theorem Yp(n:Nat):0<(CD n).length:=by
 by_cases h:n<128
 ·rw[FD h];exact Nat.one_pos
 ·rw[Gk (by omega)];exact ABz _
theorem EO:∀ (k n:Nat),n<128 ^ (k+1)->(CD n).length<=k+1
 |0,n,h=>by
  have h:n<128:=by simpa using h
  rw[FD h];exact IT _
 |k+1,n,h=>by
  by_cases h1:n<128
  ·rw[FD h1];show 1<=_;omega
  ·rw[Gk (by omega),yh]
   have h2:n<128*128 ^ (k+1):=by rw[AFA]at h;rw[AAP];exact h
   have:=EO k (n/128) (ADh h2);omega
theorem LC{n:Nat}(h:n<18446744073709551616):(CD n).length<=10:=EO 9 n (by
 have:(128:Nat) ^ (9+1)=1180591620717411303424:=by decide
 rw[this];omega)
def Fy:Nat->Nat->List Nat->Option (Nat×Nat)
 |_,_,[]=>none
 |k,acc,c::r=>if(0<k/\c=0)\/(8<k/\1<c)then none else if c<128 then some (acc+c*2 ^ (7*k),k+1)else Fy (k+1) (acc+c % 128*2 ^ (7*k)) r
theorem NC(k:Nat):2 ^ (7*(k+1))=128*2 ^ (7*k):=by
 rw[show 7*(k+1)=7+7*k by omega,AFK,show(2:Nat) ^ 7=128 from rfl]
theorem RS{k:Nat}(hk:k<=8):2 ^ (64 - 7*k)=128*2 ^ (64 - 7*(k+1)):=by
 rw[show 64 - 7*k=7+(64 - 7*(k+1))by omega,AFK,show(2:Nat) ^ 7=128 from rfl]
theorem dF:∀ (n k acc:Nat) (r:List Nat),k<=9->n<2 ^ (64 - 7*k)->(0<k->n≠0)->Fy k acc (CD n++r)=some (acc+n*2 ^ (7*k),k+(CD n).length):=by
 intro n
 induction n using ADS with
 |_ n ih=>
  intro k acc r hk hn h0;by_cases h:n<128
  ·rw[FD h]
   show Fy k acc (n::r)=_;have h1:¬ ((0<k/\n=0)\/(8<k/\1<n)):=by
    rintro (⟨a,b⟩|⟨a,b⟩)
    ·exact h0 a b
    ·have:k=9:=by omega
     subst this;have:n<2:=hn;omega
   rw[Fy,if_neg h1,if_pos h];rfl
  ·have hk8:k<=8:=by
    rcases zD k 9 with h1|h1
    ·omega
    ·have:k=9:=by omega
     subst this;have:n<2:=hn;omega
   rw[Gk (by omega)];show Fy k acc ((n % 128+128)::(CD (n/128)++r))=_;have h1:¬ ((0<k/\n % 128+128=0)\/(8<k/\1<n % 128+128)):=by omega
   have h2:¬ n % 128+128<128:=by omega
   rw[Fy,if_neg h1,if_neg h2];have hlt:n/128<2 ^ (64 - 7*(k+1)):=by
    rw[RS hk8]at hn;exact ADh hn
   rw[ih (n/128) (ACs (by omega) (by omega)) (k+1) _ r (by omega) hlt (by omega)];have e2:(n % 128+128) % 128=n % 128:=by omega
   have e4:acc+n % 128*2 ^ (7*k)+n/128*(128*2 ^ (7*k))=acc+n*2 ^ (7*k):=by
    have e5:n*2 ^ (7*k)=(128*(n/128)+n % 128)*2 ^ (7*k):=by rw[Nat.div_add_mod]
    rw[e5,AB1,AAP 128 (n/128),AEu];omega
   rw[e2,NC,e4,yh,show k+1+(CD (n/128)).length=k+((CD (n/128)).length+1)by omega]
theorem ST:∀ (l:List Nat) (k acc v j:Nat),k<=9->(∀ x∈l,x<256)->Fy k acc l=some (v,j)->∃ n r,l=CD n++r/\v=acc+n*2 ^ (7*k)/\j=k+(CD n).length/\(0<k->n≠0)/\n<2 ^ (64 - 7*k)
 |[],k,acc,v,j,_,_,h=>by cases h
 |c::r,k,acc,v,j,hk,hb,h=>by
  rw[Fy]at h;split at h
  ·cases h
  ·rename_i h1
   split at h
   ·rename_i h2
    cases h;refine⟨c,r,by rw[FD h2];rfl,rfl,by rw[FD h2];rfl,by omega,?_⟩;rcases zD k 9 with h3|h3
    ·have h4:2 ^ 8<=2 ^ (64 - 7*k):=Nat.pow_le_pow_right (by omega) (by omega)
     have h5:(2:Nat) ^ 8=256:=rfl;omega
    ·have:k=9:=by omega
     subst this;show c<2;omega
   ·rename_i h2
    have hk8:k<=8:=by omega
    obtain⟨n,q,rfl,e2,e3,e4,e5⟩:=ST r (k+1) _ v j (by omega) (fun x hx=>hb x (List.mem_cons_of_mem _ hx)) h;have hc:=hb c List.mem_cons_self;have hn:n≠0:=e4 (ABz k);have hi:CD (c % 128+128*n)=c::CD n:=by
     rw[Gk (by omega)];have a1:(c % 128+128*n) % 128+128=c:=by omega
     have a2:(c % 128+128*n)/128=n:=by omega
     rw[a1,a2]
    refine⟨c % 128+128*n,q,by rw[hi];rfl,?_,?_,fun _=>by omega,?_⟩
    ·have e6:n*(128*2 ^ (7*k))=128*n*2 ^ (7*k):=by rw[<- AEu,AAP n 128]
     rw[e2,NC,AB1,e6];omega
    ·rw[e3,hi,yh];omega
    ·rw[RS hk8];omega
theorem tX{v:Nat}(h:v<18446744073709551616)(r:List Nat):Fy 0 0 (CD v++r)=some (v,(CD v).length):=by
 have:=dF v 0 0 r (by omega) h (by omega)
 simpa using this
theorem dE{l:List Nat}{v j:Nat}(hb:∀ x∈l,x<256)(h:Fy 0 0 l=some (v,j)):l=CD v++l.drop j/\j=(CD v).length/\v<18446744073709551616:=by
 obtain⟨n,r,e1,e2,e3,_,e5⟩:=ST l 0 0 v j (by omega) hb h;have hv:v=n:=by simpa using e2
 subst hv;have hj:j=(CD v).length:=by simpa using e3
 have e5:v<18446744073709551616:=e5;refine⟨?_,hj,e5⟩;subst e1;rw[hj,List.drop_left]
theorem mY{l:List Nat}{v j:Nat}(hb:∀ x∈l,x<256)(h:Fy 0 0 l=some (v,j)):j<=l.length:=by
 obtain⟨e1,e2,_⟩:=dE hb h;have:=congrArg List.length e1;rw[No]at this;omega
end
end Go.Proofs.YtbjadbhkogcfeaaGreat
