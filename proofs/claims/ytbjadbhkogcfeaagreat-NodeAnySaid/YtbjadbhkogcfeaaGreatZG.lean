/-
  Part ZG of what Lawan stands on: printed by program, names and spaces cut.
-/
import Derived.Test.YtbjadbhkogcfeaaGreatZF
import Derived.Scope
import Derived.Below
import Derived.ChangeSame
import Derived.ChangeSlices
import Derived.ChangeArms
open Go renaming Value→IN,IntKind→tw,World→uS,Program→vA,Addr→yZ,ResultVar→zX,results→AAf
open Nat renaming le_refl→If,zero_add→sh,succ→tk,beq→tm,ble→tz,lt_or_ge→uG,le_trans→uO,eq_zero_or_pos→ug,mul→ur,blt→uz,lt_of_lt_of_le→vD,add_eq→vH,add→vO,beq_refl→vT,mul_one→wD,mul_comm→wP,succ_pos→xh,add_mul→xn,le_succ_of_le→ya,div_lt_self→yy,strongRecOn→zd,lt_trans→zj,div_lt_of_lt_mul→zt,succ_eq_add_one→AAB,mul_assoc→AA0,pow_succ→ABC,pow_add→ABK
open List renaming length_append→No,length_map→OF,getElem?_eq_getElem→tW,getD_eq_getElem?_getD→tY,length_cons→tZ,append_assoc→uC,append_nil→uH,getElem?_append_right→uI,getElem?_eq_some_iff→uK,length_take→uL,nil_append→uN,length_nil→uR,length_drop→ua,drop_of_length_le→vC,all_eq_true→wu,getElem?_take→xL,getElem?_drop→yN,size_toArray→yX,mapM_cons→zE
open Go.Result renaming andThen_ok→tX
open Go.Sem renaming run_bind→tf,run_pure→tg
open And renaming intro→tu
open Bool renaming and_eq_true→uB,rec→wQ
open Int renaming ofNat→vW
open Array renaming getElem?_eq_some_iff→vz
open Go.IntKind renaming i64→wC,u8→AAw
open Go.Value renaming okWide→wJ
open UInt8 renaming ofNat→wa
open SizeOf renaming sizeOf→zB
open Go.DataW renaming TrodAll→AAp
open Go.Exit renaming inBlock→AA5
open Go.Cell renaming okWide→ABF
set_option linter.unusedSimpArgs false
set_option linter.unusedVariables false
namespace Go.Proofs.YtbjadbhkogcfeaaGreat
noncomputable section
open Go
section
variable {P:vA}{ty:TTy}{F:ABZ}{A:List Nat}{N:Nat}
theorem Evo.AEZ{φ ψ:Phi}{h g h':Hp}{w w':uS}(ev:Evo φ g w ψ h' w')(h1:g.bl=h.bl)(h2:g.next=h.next)(h3:g.low=h.low)(h4:g.high=h.high):Evo φ h w ψ h' w' where
 le:=ev.le
 new:=by rw[<- h2];exact ev.new
 next:=by rw[<- h2];exact ev.next
 size:=ev.size
 tape:=ev.tape
 os:=ev.os
 output:=ev.output
 frame:=by unfold Live;rw[<- h1];exact ev.frame
 back:=by
  have:=ev.back;unfold Live at this ⊢;rw[h1]at this;exact this
 kept:=by rw[<- h1,<- h2];exact ev.kept
 low:=by rw[<- h3];exact ev.low
 high:=by rw[<- h4];exact ev.high
 shape:=by rw[<- h1,<- h2];exact ev.shape
 only:=by rw[<- h1,<- h2];exact ev.only
 all:=by rw[<- h2];exact ev.all
theorem Xj(hT:DI P ty)(hF:Dc P ty F)(hm:P.follows .mixedOrders=true){id:Nat}{ops:Array Oper}{draw:Bool}{σ:Sg}{k:Option (Sg->C)}{e:Env}{h:Hp}{X:X}(hr:Bw ty A (.region id ops draw) σ k F e h=X)(hn:X≠.no)
  (hd:Cg N (.region id ops draw)=true){φ:Phi}{w:uS}{a:Act}(hS:ACq A σ)(HW:ABh ty φ nil h w)(HA:AR N φ (ABz A σ e) a){Q:Exit->Act->uS->Prop}(p:Post ty A N F φ h w k X Q):(Code.region id ops draw).wp P Q a w:=by
 have hN:∀ o∈ops.toList,∀ d,o.dst=some d->d<N:=by
  intro o ho d hod;unfold Cg at hd;rw[wu]at hd;have:=hd o ho;rw[hod]at this;exact Ba.1 this
 unfold Bw at hr;cases draw with
 |false=>
  simp only at hr;obtain⟨ρ,H,V,run,T,σ',e',tr,q1,q2,q3,q4,q5⟩:=PX hT hF ops.toList [] σ e h X (fun j o _=>.plain ty o) hS hr hn;refine wp_region_list ?_;have:=Pk (Q:=Q) (a:=a) (w:=w) (φ:=φ) ops.toList tr hN (by rw[q2];exact HW) (by rw[q1];exact HA) fun _ ψ a' w' r1 r2 r3=>p.then ⟨q4,r1,by rw[<- q3];exact r2,by rw[<- q2];exact r3⟩ q5
  simpa using this
 |true=>
  simp only at hr;cases hdr:Up ty ops.toList with
  |none=>rw[hdr]at hr;exact absurd hr.symm hn
  |some ahs=>
   rw[hdr]at hr;obtain⟨bs,hbs,he,hs,hah⟩:=ZG hdr;have hr:Gy ty A ops.toList (LE k) ahs ops.toList σ F e {next:=h.next,low:=h.low,high:=h.high,mark:=h.next,bl:=h.bl}=X:=hr;obtain⟨ρ,H,V,run,T,σ',e',tr,q1,q2,q3,q4,q5⟩:=PX hT hF ops.toList ahs σ e _ X (fun j o ho=>by obtain⟨xs,_,h⟩:=hah j o ho;exact h.ok) hS hr hn;have:=iM (id:=id) (Q:=Q) (a:=a) (w:=w) (φ0:=φ) hm (QM hbs he) (fI hbs he hs hah tr) tr hN (by rw[q2];exact HW.ACw rfl rfl) (by rw[q1];exact HA)
    fun ψ a' w' r1 r2 r3=>p.then ⟨q4,r1,by rw[<- q3];exact r2,by rw[q2]at r3;exact r3.AEZ rfl rfl rfl rfl⟩ q5
   simpa using this
theorem VY(hm:P.follows .mixedOrders=true){c:Code}{body:C}(ih:∀ {e:Env} {h:Hp} {X:X},body F e h=X->X≠.no->∀ (φ:Phi) (w:uS) (a:Act),ABh ty φ nil h w->AR N φ (ABz A [] e) a->∀ (Q:Exit->Act->uS->Prop),Post ty A N F φ h w none X Q->c.wp P Q a w):
  ∀ (n:Nat) {e:Env} {h:Hp} {X:X},iter body n F e h=X->X≠.no->∀ (φ:Phi) (w:uS) (a:Act),ABh ty φ nil h w->AR N φ (ABz A [] e) a->∀ (Q:Exit->Act->uS->Prop),Post ty A N F φ h w none X Q->Code.rounds P c Q n a w
 |0,e,h,X,hr,hn=>by exact absurd hr.symm hn
 |n+1,e,h,X,hr,hn=>by
  intro φ w a HW HA Q p;unfold iter at hr;cases hb:body F e h with
  |no=>rw[hb]at hr;exact absurd hr.symm hn
  |norm e1 h1=>
   rw[hb]at hr;simp only at hr;refine ih hb (fun h=>by cases h) φ w a HW HA _ {go:=(fun _ h=>by cases h),norm:=fun _ e' h' ψ a' w' g hx=>?_,exit:=(fun _ _ _ _ _ _ _ hx=>by cases hx),ret:=(fun _ _ _ _ _ _ hx=>by cases hx)};cases hx;exact VY hm ih n hr hn _ _ _ g.rel g.ar _ {go:=(fun _ h=>by cases h),norm:=fun h e2 h2 χ a2 w2 g2 hx=>p.norm h e2 h2 χ a2 w2 (g.trans g2) hx,exit:=fun id e2 h2 χ a2 w2 g2 hx=>p.exit id e2 h2 χ a2 w2 (g.trans g2) hx,ret:=fun e2 h2 χ a2 w2 g2 hx=>p.ret e2 h2 χ a2 w2 (g.trans g2) hx}
  |exit i e1 h1=>
   rw[hb]at hr;refine ih hb (fun h=>by cases h) φ w a HW HA _ {go:=(fun _ h=>by cases h),norm:=(fun _ _ _ _ _ _ _ hx=>by cases hx),exit:=fun id e2 h2 χ a2 w2 g2 hx=>p.exit id e2 h2 χ a2 w2 g2 (hr.symm.trans hx),ret:=(fun _ _ _ _ _ _ hx=>by cases hx)}
  |ret e1 h1=>
   rw[hb]at hr;refine ih hb (fun h=>by cases h) φ w a HW HA _ {go:=(fun _ h=>by cases h),norm:=(fun _ _ _ _ _ _ _ hx=>by cases hx),exit:=(fun _ _ _ _ _ _ _ hx=>by cases hx),ret:=fun e2 h2 χ a2 w2 g2 hx=>p.ret e2 h2 χ a2 w2 g2 (hr.symm.trans hx)}
theorem Ru{φ:Phi}{h:Hp}{w:uS}{k':Sg->C}{X:X}{Q:Exit->Act->uS->Prop}(p:Post ty A N F φ h w (some k') X Q){a:C}{e:Env}(hr:BB a (k' []) F e h=X)(hn:X≠.no):
  ∃ X1,a F e h=X1/\X1≠.no/\Post ty A N F φ h w none X1 Q:=by
 unfold BB at hr;cases hb:a F e h with
 |no=>rw[hb]at hr;exact absurd hr.symm hn
 |norm e1 h1=>
  rw[hb]at hr;exact⟨_,rfl,(fun h=>by cases h),{go:=(fun _ h=>by cases h),norm:=fun _ e2 h2 χ a2 w2 g2 hx=>by cases hx;exact p.go k' rfl [] _ _ χ a2 w2 g2 hr,exit:=(fun _ _ _ _ _ _ _ hx=>by cases hx),ret:=(fun _ _ _ _ _ _ hx=>by cases hx)}⟩
 |exit i e1 h1=>
  rw[hb]at hr;exact⟨_,rfl,(fun h=>by cases h),{go:=(fun _ h=>by cases h),norm:=(fun _ _ _ _ _ _ _ hx=>by cases hx),exit:=fun id e2 h2 χ a2 w2 g2 hx=>p.exit id e2 h2 χ a2 w2 g2 (hr.symm.trans hx),ret:=(fun _ _ _ _ _ _ hx=>by cases hx)}⟩
 |ret e1 h1=>
  rw[hb]at hr;exact⟨_,rfl,(fun h=>by cases h),{go:=(fun _ h=>by cases h),norm:=(fun _ _ _ _ _ _ _ hx=>by cases hx),exit:=(fun _ _ _ _ _ _ _ hx=>by cases hx),ret:=fun e2 h2 χ a2 w2 g2 hx=>p.ret e2 h2 χ a2 w2 g2 (hr.symm.trans hx)}⟩
theorem SY{φ:Phi}{h:Hp}{w:uS}{X:X}{Q:Exit->Act->uS->Prop}(p:Post ty A N F φ h w none X Q){id:Nat}{a:C}{e:Env}(hr:AY id a F e h=X)(hn:X≠.no):
  ∃ X1,a F e h=X1/\X1≠.no/\Post ty A N F φ h w none X1 (AA5 id Q):=by
 unfold AY at hr;cases hb:a F e h with
 |no=>rw[hb]at hr;exact absurd hr.symm hn
 |norm e1 h1=>
  rw[hb]at hr;exact⟨_,rfl,(fun h=>by cases h),{go:=(fun _ h=>by cases h),norm:=fun h e2 h2 χ a2 w2 g2 hx=>p.norm h e2 h2 χ a2 w2 g2 (hr.symm.trans hx),exit:=(fun _ _ _ _ _ _ _ hx=>by cases hx),ret:=(fun _ _ _ _ _ _ hx=>by cases hx)}⟩
 |exit i e1 h1=>
  rw[hb]at hr;simp only at hr;refine⟨_,rfl,(fun h=>by cases h),{go:=(fun _ h=>by cases h),norm:=fun _ _ _ _ _ _ _ hx=>(by cases hx),exit:=fun j e2 h2 χ a2 w2 g2 hx=>?_,ret:=fun _ _ _ _ _ _ hx=>(by cases hx)}⟩;cases hx;unfold AA5;cases hq:tm i id with
  |true=>
   rw[hq]at hr;simp only[A1.1 hq,if_true];exact p.norm rfl _ _ χ a2 w2 g2 hr.symm
  |false=>
   rw[hq]at hr;simp only[FR hq,if_false];exact p.exit i _ _ χ a2 w2 g2 hr.symm
 |ret e1 h1=>
  rw[hb]at hr;exact⟨_,rfl,(fun h=>by cases h),{go:=(fun _ h=>by cases h),norm:=(fun _ _ _ _ _ _ _ hx=>by cases hx),exit:=(fun _ _ _ _ _ _ _ hx=>by cases hx),ret:=fun e2 h2 χ a2 w2 g2 hx=>p.ret e2 h2 χ a2 w2 g2 (hr.symm.trans hx)}⟩
theorem ET(hT:DI P ty)(hF:Dc P ty F)(hm:P.follows .mixedOrders=true):∀ (c:Code) {σ:Sg} {k:Option (Sg->C)} {e:Env} {h:Hp} {X:X},Bw ty A c σ k F e h=X->X≠.no->Cg N c=true->
  ∀ (φ:Phi) (w:uS) (a:Act),ACq A σ->ABh ty φ nil h w->AR N φ (ABz A σ e) a->∀ (Q:Exit->Act->uS->Prop),Post ty A N F φ h w k X Q->c.wp P Q a w
 |.skip,σ,k,e,h,X,hr,hn,hd=>by
  intro φ w a hS HW HA Q p;exact wp_skip (p.then ⟨hS,HW,HA,.refl _ _ _⟩ hr)
 |.region id ops draw,σ,k,e,h,X,hr,hn,hd=>by
  intro φ w a hS HW HA Q p;exact Xj hT hF hm hr hn hd hS HW HA p
 |.seq x y,σ,k,e,h,X,hr,hn,hd=>by
  intro φ w a hS HW HA Q p;have hd:(Cg N x && Cg N y)=true:=hd;rw[uB]at hd;have hr:Bw ty A x σ (some fun σ=>Bw ty A y σ k) F e h=X:=hr;refine wp_seq (ET hT hF hm x hr hn hd.1 _ _ _ hS HW HA _ {go:=fun k' hk σ' e' h' ψ a' w' g hx=>?_,norm:=fun h=>(by cases h),exit:=p.exit,ret:=p.ret});cases hk;exact ET hT hF hm y hx hn hd.2 _ _ _ g.sg g.rel g.ar _ {go:=fun k' hk σ2 e2 h2 χ a2 w2 g2 hx=>p.go k' hk σ2 e2 h2 χ a2 w2 (g.trans g2) hx,norm:=fun h e2 h2 χ a2 w2 g2 hx=>p.norm h e2 h2 χ a2 w2 (g.trans g2) hx,exit:=fun id e2 h2 χ a2 w2 g2 hx=>p.exit id e2 h2 χ a2 w2 (g.trans g2) hx,ret:=fun e2 h2 χ a2 w2 g2 hx=>p.ret e2 h2 χ a2 w2 (g.trans g2) hx}
 |.cond c x y,σ,k,e,h,X,hr,hn,hd=>by
  intro φ w a hS HW HA Q p;have hd:(Cg N x && Cg N y)=true:=hd;rw[uB]at hd;unfold Bw at hr;cases hc:cO ⟨A,σ⟩ c with
  |none=>rw[hc]at hr;exact absurd hr.symm hn
  |some cc=>
   rw[hc]at hr;simp only at hr;have ACE:=HA.ev (Fv hc e);have two:∀ {kx:Option (Sg->C)} {Y:Go.Proofs.YtbjadbhkogcfeaaGreat.X},IR cc (Bw ty A x σ kx) (Bw ty A y σ kx) F e h=Y->Y≠.no->Post ty A N F φ h w kx Y Q->(Code.cond c x y).wp P Q a w:=by
    intro kx Y hr hn p;unfold IR at hr;cases hv:cc e with
    |bool t=>
     rw[hv]at hr ACE;have hev:=ACE.ACT;cases t with
     |true=>exact wp_cond_true hev (ET hT hF hm x hr hn hd.1 _ _ _ hS HW HA _ p)
     |false=>exact wp_cond_false hev (ET hT hF hm y hr hn hd.2 _ _ _ hS HW HA _ p)
    |_=>rw[hv]at hr;exact absurd hr.symm hn
   cases k with
   |none=>exact two hr hn p
   |some k'=>
    simp only at hr;cases hf:(Kz x && Kz y)with
    |false=>rw[hf]at hr;exact two hr hn p
    |true=>
     rw[hf]at hr;obtain⟨X1,h1,h2,p1⟩:=Ru p hr hn;exact two h1 h2 p1
 |.block id x,σ,k,e,h,X,hr,hn,hd=>by
  intro φ w a hS HW HA Q p;have hd:Cg N x=true:=hd;have one:∀ {Y:Go.Proofs.YtbjadbhkogcfeaaGreat.X},AY id (Bw ty A x [] none) F e h=Y->Y≠.no->Post ty A N F φ h w none Y Q->(Code.block id x).wp P Q a w:=by
   intro Y hr hn p;obtain⟨X1,h1,h2,p1⟩:=SY p hr hn;exact wp_block (ET hT hF hm x h1 h2 hd _ _ _ (.nil A) HW (HA.nil hS) _ p1)
  unfold Bw at hr;cases k with
  |none=>exact one hr hn p
  |some k'=>
   simp only at hr;obtain⟨X1,h1,h2,p1⟩:=Ru p hr hn;exact one h1 h2 p1
 |.loop x,σ,k,e,h,X,hr,hn,hd=>by
  intro φ w a hS HW HA Q p;have hd:Cg N x=true:=hd;have plain:iter (Bw ty A x [] none) rounds F e h=X->(Code.loop x).wp P Q a w:=by
   intro hr;refine wp_loop_rounds rounds (VY hm (fun h1 h2 φ w a HW HA Q p=>ET hT hF hm x h1 h2 hd _ _ _ (.nil A) HW HA _ p) rounds hr hn _ _ _ HW (HA.nil hS) _ {go:=fun _ h=>(by cases h),norm:=fun _ e2 h2 χ a2 w2 g2 hx=>?_,exit:=p.exit,ret:=p.ret})
   exfalso
   subst hx;have:∀ (n:Nat) (e:Env) (h:Hp),iter (Bw ty A x [] none) n F e h≠.norm e2 h2:=by
    intro n
    induction n with
    |zero=>intro e h hq;cases hq
    |succ n ih=>
     intro e h hq;unfold iter at hq;cases hb:Bw ty A x [] none F e h with
     |norm e1 h1=>rw[hb]at hq;exact ih e1 h1 hq
     |no=>rw[hb]at hq;cases hq
     |exit _ _ _=>rw[hb]at hq;cases hq
     |ret _ _=>rw[hb]at hq;cases hq
   exact this _ e h hr
  unfold Bw at hr;cases hw:WY A x with
  |none=>rw[hw]at hr;exact plain hr
  |some kw=>
   rw[hw]at hr;have hr:JG kw (Bw ty A x [] none) F e h=X:=hr;obtain⟨id,o1,o2,r2,W⟩:=SO hw;unfold JG at hr;split at hr
   case h_2=>exact absurd hr.symm hn
   rename_i ad hit;split at hr
   case h_2=>exact plain hr
   rename_i m since seen last ADL;split at hr
   case h_2=>exact absurd hr.symm hn
   split at hr
   case h_2=>exact absurd hr.symm hn
   rename_i es c ADM;split at hr
   case h_2=>exact plain hr
   have hdd:Cg N (.region id #[o1,o2] false)=true/\Cg N (.seq (.cond (.tmp kw.more) .skip (.exit kw.out)) r2)=true:=by
    rw[W.code]at hd;have hd:(Cg N (.region id #[o1,o2] false) && Cg N (.seq (.cond (.tmp kw.more) .skip (.exit kw.out)) r2))=true:=hd;exact Bool.and_eq_true_iff.1 hd
   have hnm:kw.nx<N/\kw.more<N:=by
    have:=hdd.1;unfold Cg at this;simp only[List.all_cons,List.all_nil,Bool.and_true,uB,W.ADn,W.AD3]at this;exact⟨Ba.1 this.1,Ba.1 this.2⟩
   have AHu:zB (Code.seq (.cond (.tmp kw.more) .skip (.exit kw.out)) r2)<zB x:=by
    rw[W.code];simp;omega
   obtain⟨hoff,hr⟩:=qp hr hn;obtain⟨ABj,hr⟩:=qp hr hn;exact Sq W hnm (fun h1 h2 φ w a HW HA Q p=>ET hT hF hm (.seq (.cond (.tmp kw.more) .skip (.exit kw.out)) r2) h1 h2 hdd.2 _ _ _ (.nil A) HW HA _ p) hit hoff (Ar.1 ABj) hr hn HW (HA.nil hS) p.exit
 |.exit id,σ,k,e,h,X,hr,hn,hd=>by
  intro φ w a hS HW HA Q p;have hr:(.exit id e h:Go.Proofs.YtbjadbhkogcfeaaGreat.X)=X:=hr;exact wp_exit (p.exit id e h φ a w ⟨.nil A,HW,HA.nil hS,.refl _ _ _⟩ hr.symm)
 |.ret,σ,k,e,h,X,hr,hn,hd=>by
  intro φ w a hS HW HA Q p;have hr:(.ret e h:Go.Proofs.YtbjadbhkogcfeaaGreat.X)=X:=hr;exact wp_ret (p.ret e h φ a w ⟨.nil A,HW,HA.nil hS,.refl _ _ _⟩ hr.symm)
 |.rangeFunc _ _ _ _,_,_,_,_,X,hr,hn,_=>by exact absurd hr.symm hn
 |.scope x,σ,k,e,h,X,hr,hn,hd=>by
  intro φ w a hS HW HA Q p;have hd:Cg N x=true:=hd;have hr:Bw ty A x σ k F e h=X:=hr;exact wp_scope_straight (ET hT hF hm x hr hn hd _ _ _ hS HW HA _ {go:=p.go,norm:=p.norm,exit:=p.exit,ret:=p.ret})
 |.label _,σ,k,e,h,X,hr,hn,hd=>by
  intro φ w a hS HW HA Q p;exact wp_label (p.then ⟨hS,HW,HA,.refl _ _ _⟩ hr)
 |.goto _,_,_,_,_,X,hr,hn,_=>by exact absurd hr.symm hn
 |.refuse _,_,_,_,_,X,hr,hn,_=>by exact absurd hr.symm hn
termination_by c=>zB c
decreasing_by
 all_goals simp_wf
 all_goals first|omega|(simp_all;omega)
end
end
noncomputable section
open Go
section
variable {P:vA}{ty:TTy}{A:List Nat}{N:Nat}{φ:Phi}{h h':Hp}{w:uS}{e:Env}{a:Act}{v:IN}
theorem OJ{t:Nat}(h:PV A t=true)(e:Env):ABz A [] e t=some (J t e):=by
 unfold PV at h;rw[Eb];show(match memN t A with|true=>none|false=>match uz t 240 with|true=>some (J t e)|false=>none)=_;cases hm:memN t A with
 |true=>rw[hm]at h;cases h
 |false=>
  rw[hm]at h;have h:uz t 240=true:=h;simp only[h]
def Rh(tmps:Array IN):zX->Sem IN
 |.tmp t=>pure (tmps.getD t undef)
 |.cell a t=>do loadVar t (<- asAddr (tmps.getD a undef))
theorem Tf(fn:Func)(tmps:Array IN):AAf fn tmps=(do let vs <- fn.results.mapM (Rh tmps);pure (if h:vs.size=1 then vs[0]else .tuple vs)):=by
 unfold AAf
 congr 2
theorem YD(f:zX->Sem IN)(l:Array zX){vs:List IN}(h:(l.toList.mapM f).run P w=.ok vs w):(l.mapM f).run P w=.ok ⟨vs⟩ w:=by
 have:l.mapM f=List.toArray <$> l.toList.mapM f:=by
  conv=>lhs;rw[<- Array.toArray_toList (xs:=l)]
  rw[List.mapM_toArray]
 rw[this,map_eq_pure_bind,tf,h,tX,tg]
theorem G1(hT:DI P ty)(H:ABh ty φ nil h w)(HA:AR N φ (ABz A [] e) a):∀ {l:List zX} {rs:List RV} {k:List IN->R},rsC ty A l=some rs->Go.Proofs.YtbjadbhkogcfeaaGreat.results e h k rs=.ok v h'->
  ∃ vs vs',ABv φ vs vs'/\k vs=.ok v h'/\(l.mapM (Rh a.tmps)).run P w=.ok vs' w
 |[],rs,k,hc,hr=>by
  cases hc;exact⟨[],[],.nil,hr,by simp⟩
 |.tmp t::l,rs,k,hc,hr=>by
  unfold rsC at hc;split at hc
  ·cases hc
  rename_i ht;split at hc
  case h_2=>cases hc
  rename_i r hrs;cases hc;unfold Go.Proofs.YtbjadbhkogcfeaaGreat.results at hr;have hr:ABm (J t e) (fun v=>Go.Proofs.YtbjadbhkogcfeaaGreat.results e h (fun vs=>k (v::vs)) r)=.ok v h':=hr;rw[BQ]at hr;obtain⟨vs,vs',h1,h2,h3⟩:=G1 hT H HA hrs hr;have h4:=HA.rel t _ (OJ ht e);exact⟨_,_,.cons h4 h1,h2,by simp[zE,Rh,h3]⟩
 |.cell c t::l,rs,k,hc,hr=>by
  unfold rsC at hc;split at hc
  ·cases hc
  rename_i ht;split at hc
  case h_2=>cases hc
  rename_i ti hti;split at hc
  case h_2=>cases hc
  rename_i r hrs;have T:=hT t ti hti;have h4:=HA.rel c _ (OJ ht e);cases hag:ti.k.agg with
  |true=>
   rw[hag]at hc;cases hc;unfold Go.Proofs.YtbjadbhkogcfeaaGreat.results FN at hr;simp only at hr;cases AD4:Dz (J c e)with
   |no=>rw[AD4]at hr;cases hr
   |ok ad=>
    rw[AD4]at hr;simp only at hr;cases hl:loadN ti.size ad h with
    |no=>rw[hl]at hr;cases hr
    |ok u h2=>
     rw[hl]at hr;simp only[BQ]at hr;rw[Hw AD4]at h4;obtain⟨a',ha',hra⟩:=h4.ACb;obtain⟨_,l',hv,hrun⟩:=Qy (P:=P) H hl hra (fun h=>h);obtain⟨vs,vs',h1,h5,h3⟩:=G1 hT H HA hrs hr;refine⟨_,_,.cons hv h1,h5,?_⟩;have:(Rh a.tmps (.cell c t)).run P w=.ok (.agg l'.toArray) w:=by
      unfold Rh;simp only[ha',asAddr,tf,tg,tX,loadVar,T.agg,hag,if_true,T.size,hrun]
     simp[zE,this,h3]
  |false=>
   rw[hag]at hc;cases hc;unfold Go.Proofs.YtbjadbhkogcfeaaGreat.results FN at hr;simp only at hr;cases AD4:Dz (J c e)with
   |no=>rw[AD4]at hr;cases hr
   |ok ad=>
    rw[AD4]at hr;simp only at hr;cases hl:ABa ad h with
    |no=>rw[hl]at hr;cases hr
    |ok u h2=>
     rw[hl]at hr;simp only[BQ]at hr;rw[Hw AD4]at h4;obtain⟨a',ha',hra⟩:=h4.ACb;obtain⟨_,v',hcell,hv⟩:=Qx H hl hra (fun h=>h);obtain⟨vs,vs',h1,h5,h3⟩:=G1 hT H HA hrs hr;refine⟨_,_,.cons hv h1,h5,?_⟩;have:(Rh a.tmps (.cell c t)).run P w=.ok v' w:=by
      unfold Rh;simp only[ha',asAddr,tf,tg,tX,loadVar,T.agg,hag,Bool.false_eq_true,if_false,run_load,hcell]
     simp[zE,this,h3]
theorem Nq(hT:DI P ty)(H:ABh ty φ nil h w)(HA:AR N φ (ABz A [] e) a){fn:Func}{rs:List RV}(hc:rsC ty A fn.results.toList=some rs)(hr:El rs e h=.ok v h'):
  h'=h/\∃ v',ABe φ v v'/\(AAf fn a.tmps).run P w=.ok v' w:=by
 unfold El at hr;obtain⟨vs,vs',h1,h2,h3⟩:=G1 hT H HA hc hr;have hrun:=YD (P:=P) (w:=w) (Rh a.tmps) fn.results h3;rw[Tf];simp only[tf,hrun,tX,tg];unfold JS at h2;split at h2
 ·cases h2
  cases h1 with
  |cons hv ht=>cases ht;exact⟨rfl,_,hv,rfl⟩
 ·rename_i hne
  cases h2;refine⟨rfl,_,.tuple h1,?_⟩;have:vs'.length≠1:=by
   rw[h1.length];intro hl;cases vs with
   |nil=>cases hl
   |cons x l=>
    cases l with
    |nil=>exact hne x rfl
    |cons _ _=>simp at hl
  have hs:¬ (Array.mk vs').size=1:=this;rw[dif_neg hs]
theorem Rx:∀ (args:List IN) (e:Env) (i t:Nat),i+args.length<=240->t<240->(As e i args).get t=if i<=t/\t<i+args.length then args.getD (t - i) ABd else e.get t
 |[],e,i,t,_,_=>by
  rw[if_neg (by simp)];rfl
 |v::l,e,i,t,hn,ht=>by
  simp only[tZ]at hn;unfold As;rw[Rx l _ (i+1) t (by omega) ht];by_cases h1:i+1<=t/\t<i+1+l.length
  ·rw[if_pos h1,if_pos (by simp only[tZ];omega)]
   have:t - i=(t - (i+1))+1:=by omega
   rw[this,List.getD_cons_succ]
  ·rw[if_neg h1,Env.ABq _ _ _ _ (by omega) ht]
   by_cases h2:t=i
   ·subst h2
    rw[if_pos rfl,if_pos (by simp only[tZ];omega)];simp
   ·rw[if_neg h2,if_neg (by simp only[tZ];omega)]
set_option maxRecDepth 100000 in
theorem nu{t:Nat}(ht:t<240):e0.get t=ABd:=by
 have H:Ll (fun i=>e0.get i=ABd) 240:=by
  repeat' (first|exact trivial|refine⟨rfl,?_⟩)
 exact H.at t ht
theorem ce{args args':List IN}(hr:ABv φ args args')(hn:args.length<=240)(n:Nat):
  AR (max args.length n) φ (ABz A [] (As e0 0 args)) {tmps:=(⟨args'⟩:Array IN)++Array.replicate (n - (⟨args'⟩:Array IN).size) undef,defers:=[]} where
 size:=by
  have:=hr.length;simp only[Array.size_append,Array.size_replicate,yX];omega
 defs:=rfl
 rel:=fun t u hu=>by
  rw[Eb]at hu;have hu:(match memN t A with|true=>none|false=>match uz t 240 with|true=>some (J t (As e0 0 args))|false=>none)=some u:=hu;cases hm:memN t A with
  |true=>rw[hm]at hu;cases hu
  |false=>
   rw[hm]at hu;simp only at hu;cases hb:uz t 240 with
   |false=>rw[hb]at hu;cases hu
   |true=>
    rw[hb]at hu;cases hu;have ht:=Ba.1 hb;rw[DE t ht,Rx args e0 0 t (by omega) ht,nu ht];have hlen:=hr.length;simp only[Array.getD_eq_getD_getElem?];by_cases h1:t<args.length
    ·rw[if_pos (by omega),Nat.sub_zero,Array.getElem?_append_left (by simp only[yX];omega)]
     obtain⟨v',h2,h3⟩:=hr.get t args[t] (tW h1);have:args.getD t ABd=args[t]:=by rw[tY,tW h1];rfl
     rw[this];have e2:(⟨args'⟩:Array IN)[t]? =some v':=by simpa using h2
     rw[e2];exact h3
    ·rw[if_neg (by omega),Array.getElem?_append_right (by simp only[yX];omega),Array.getElem?_replicate]
     split<;>exact .tuple .nil
theorem Xm{l:List zX}{rs:List RV}(hc:rsC ty A l=some rs):Pn rs=none:=by
 cases l with
 |nil=>cases hc;rfl
 |cons x l=>
  cases x with
  |tmp t=>
   unfold rsC at hc;split at hc
   ·cases hc
   ·split at hc
    ·cases hc;rfl
    ·cases hc
  |cell c t=>
   unfold rsC at hc;split at hc
   ·cases hc
   ·split at hc
    ·split at hc
     ·split at hc
      ·cases hc;rfl
      ·cases hc;rfl
     ·cases hc
    ·cases hc
def qj(P:vA)(ty:TTy)(g:Nat)(b:Body):Prop:=∃ fn A,P.funcs[g]? =some fn/\fn.name≠"runtime.NumGoroutine" /\YO ty A fn=some b
def Av:Body:=⟨[],cNo⟩
theorem Dg{n m:Nat}(h:n<=m):∀ {c:Code},Cg n c=true->Cg m c=true
 |.region _ ops _,hd=>by
  unfold Cg at hd ⊢;rw[wu]at hd ⊢;intro o ho;have:=hd o ho;split at this
  ·have:=Ba.1 this
   exact Ba.2 (by omega)
  ·rfl
 |.seq a b,hd=>by
  have hd:(Cg n a && Cg n b)=true:=hd;rw[uB]at hd;show(Cg m a && Cg m b)=true;rw[Dg h hd.1,Dg h hd.2];rfl
 |.cond _ a b,hd=>by
  have hd:(Cg n a && Cg n b)=true:=hd;rw[uB]at hd;show(Cg m a && Cg m b)=true;rw[Dg h hd.1,Dg h hd.2];rfl
 |.block _ a,hd=>Dg (c:=a) h hd
 |.loop a,hd=>Dg (c:=a) h hd
 |.skip,_=>rfl
 |.exit _,_=>rfl
 |.ret,_=>rfl
 |.rangeFunc _ _ _ _,_=>rfl
 |.scope a,hd=>Dg (c:=a) h hd
 |.label _,_=>rfl
 |.goto _,_=>rfl
 |.refuse _,_=>rfl
theorem ZP(hT:DI P ty){F:ABZ}(hF:Dc P ty F)(hm:P.follows .mixedOrders=true){g:Nat}{b:Body}(hb:qj P ty g b){args:List IN}(hr:enter F b args h=.ok v h'):
  (∃ fn,P.funcs[g]? =some fn/\fn.name≠"runtime.NumGoroutine" /\fn.body.isNone=false)/\
  ∀ φ w args',ABv φ args args'->ABh ty φ nil h w->
   Calls P g ⟨args'⟩ w fun en w'=>∃ v' ψ,en=.returned v'/\ABe ψ v v'/\ABh ty ψ nil h' w'/\Evo φ h w ψ h' w':=by
 obtain⟨fn,A,hfn,hname,hbody⟩:=hb;unfold YO at hbody;cases hc:fn.body with
 |none=>rw[hc]at hbody;cases hbody
 |some c=>
  rw[hc]at hbody;simp only at hbody;cases hrs:rsC ty A fn.results.toList with
  |none=>rw[hrs]at hbody;cases hbody
  |some rs=>
   rw[hrs]at hbody;simp only at hbody;cases hd:Cg fn.ntmps c with
   |false=>rw[hd]at hbody;cases hbody
   |true=>
    rw[hd]at hbody;cases hbody;refine⟨⟨fn,hfn,hname,by rw[hc];rfl⟩,fun φ w args' ACE HW=>?_⟩;unfold enter at hr
    dsimp only at hr
    rw[Xm hrs]at hr;obtain⟨hlen,hr⟩:=B3 hr;have hlen:args.length<=240:=by rw[<- Bi];exact Ar.1 hlen
    have hAR:=ce (A:=A) ACE hlen fn.ntmps;refine calls_of_wp hfn hc ?_;have hn:Bw ty A c [] none F (As e0 0 args) h≠.no:=by
     intro hx;rw[hx]at hr;cases hr
    refine ET hT hF hm c (e:=As e0 0 args) (h:=h) rfl hn (Dg (Nat.le_max_right _ _) hd) _ _ _ (.nil A) HW hAR _ {go:=fun _ h=>(by cases h),norm:=fun _ e1 h1 ψ a1 w1 g1 hx=>?_,exit:=fun id e1 h1 ψ a1 w1 g1 hx=>?_,ret:=fun e1 h1 ψ a1 w1 g1 hx=>?_}
    ·rw[hx]at hr
     obtain⟨rfl,v',hv,hrun⟩:=Nq hT g1.rel g1.ar hrs hr;exact⟨g1.ar.defs,v',hrun,v',ψ,rfl,hv,g1.rel,g1.evo⟩
    ·rw[hx]at hr;cases hr
    ·rw[hx]at hr
     obtain⟨rfl,v',hv,hrun⟩:=Nq hT g1.rel g1.ar hrs hr;exact⟨g1.ar.defs,v',hrun,v',ψ,rfl,hv,g1.rel,g1.evo⟩
def Lm(P:vA)(ty:TTy)(g:Nat)(b:Body):Prop:=∀ (F:ABZ) (args:List IN) (h:Hp) (v:IN) (h':Hp),Dc P ty F->enter F b args h=.ok v h'->
 (∃ fn,P.funcs[g]? =some fn/\fn.name≠"runtime.NumGoroutine" /\fn.body.isNone=false)/\
 ∀ φ w args',ABv φ args args'->ABh ty φ nil h w->
  Calls P g ⟨args'⟩ w fun en w'=>∃ v' ψ,en=.returned v'/\ABe ψ v v'/\ABh ty ψ nil h' w'/\Evo φ h w ψ h' w'
def BG(P:vA)(ty:TTy)(g:Nat)(b:Body):Prop:=qj P ty g b\/b=Av\/Lm P ty g b
def FT.All(p:Nat->Body->Prop):FT->(Nat->Nat)->Prop
 |.mt,_=>True
 |.nd b l r,ix=>p (ix 0) b/\FT.All p l (fun k=>ix (2*k+1))/\FT.All p r (fun k=>ix (2*k+2))
theorem FT.All.get{p:Nat->Body->Prop}:∀ {t:FT} {ix:Nat->Nat},FT.All p t ix->∀ {i:Nat} {b:Body},t.get i=some b->p (ix i) b
 |.mt,ix,_,i,b,h=>by cases h
 |.nd c l r,ix,⟨h0,hl,hr⟩,0,b,h=>by cases h;exact h0
 |.nd c l r,ix,⟨h0,hl,hr⟩,k+1,b,h=>by
  unfold FT.get at h;have e1:Nat.mod k 2=k % 2:=rfl;have e2:Nat.div k 2=k / 2:=rfl;rw[e1,e2]at h;rcases Nat.mod_two_eq_zero_or_one k with hk|hk
  ·rw[hk]at h
   have:=hl.get (i:=k/2) h;have e:2*(k/2)+1=k+1:=by omega
   simp only[e]at this;exact this
  ·rw[hk]at h
   have:=hr.get (i:=k/2) h;have e:2*(k/2)+2=k+1:=by omega
   simp only[e]at this;exact this
theorem JI(hT:DI P ty)(hm:P.follows .mixedOrders=true){bs:FT}(hb:FT.All (BG P ty) bs id):∀ n,Dc P ty (call bs n)
 |0=>fun g args h v h' hr=>by cases hr
 |n+1=>fun g args h v h' hr=>by
  have hr:(match bs.get g with|some b=>enter (call bs n) b args h|none=>.no)=.ok v h':=hr;cases hg:bs.get g with
  |none=>rw[hg]at hr;cases hr
  |some b=>
   rw[hg]at hr;rcases hb.get hg with hok|rfl|hdo
   ·exact ZP hT (JI hT hm hb n) hm hok hr
   ·exfalso
    have hr:(bif tz (Di args) 240 then He [] .no else .no)=.ok v h':=hr;obtain⟨_,hr⟩:=B3 hr;cases hr
   ·exact hdo _ args h v h' (JI hT hm hb n) hr
end
end
noncomputable section
open Go Go.RowKit Go.WideShapes Go.ChangeShapes
def aQ:R->Bool
 |.ok (.bool b) _=>b
 |_=>false
def pX:Phi:=fun _=>none
theorem OV(ty:TTy)(w:uS):ABh ty pX nil IZ w where
 dom:=fun i p h=>by cases h
 inj:=fun i j p q h=>by cases h
 row:=fun i p h=>by cases h
 fresh:=fun i _=>KQ 9 i
 kind:=fun i p c s e h=>by cases h
 inp:=fun i p h=>by cases h
theorem bM{P:vA}{ty:TTy}{bs:FT}(hC:∀ n,Dc P ty (call bs n)){n f:Nat}(h:aQ (call bs n f [] IZ)=true)(w:uS):
  Calls P f #[] w fun e w'=>e=.returned (.bool true)/\Below w.heap.size w w':=by
 cases hr:call bs n f [] IZ with
 |no=>rw[hr]at h;cases h
 |ok v h'=>
  rw[hr]at h;obtain⟨_,hc⟩:=hC n f [] IZ v h' hr;refine(hc pX w [] .nil (OV ty w)).mono fun e w' ⟨v',ψ,he,hv,_,ev⟩=>?_
  cases v with
  |bool b=>
   have h:b=true:=h;subst h;have:=hv.ACT;subst this;exact⟨he,⟨ev.os,ev.tape,ev.output,ev.size,fun k hk=>ev.frame k hk fun i p hp=>by cases hp⟩⟩
  |_=>cases h
section
variable {H:Type}{enc:TypeId×IN->H}{P:vA}
theorem NY{f:Func}{s:ChangeSpec}{apart fresh handsOn again:Bool}{W W':uS}{args:Array IN}{v:IN}{ds gs:List (DataW H)}{before pa pv:List MemPlace}
  (hW:DataW.Whole enc P f.params.toList s.vars apart W args.toList ds gs before)
  (hres:∀ (b:Nat) (sp:Nat->Bool) (hd:Bool),AAp enc P W' b sp hd f.resultTypes.toList (v.resultList f.resultTypes.size) (s.fn H (ds++gs)).results [])
  (hargs:∀ sp:Nat->Bool,(∀ p∈before,sp p.block=true)->AAp enc P W' 0 sp true f.params.toList args.toList (s.fn H (ds++gs)).args pa)
  (hvars:∀ sp:Nat->Bool,(∀ p∈before,sp p.block=true)->DataW.TrodVars enc P W' sp s.vars (s.fn H (ds++gs)).vars pv)
  (hps:before=pa++pv)(hb:Below W.heap.size W W')
  (hok:∀ (j:Nat) (t:TypeId) (r:IN),f.resultTypes[j]? =some t->(v.resultList f.resultTypes.size)[j]? =some r->wJ P W' .any 0 t r):
  s.post enc P f apart fresh handsOn again W args v W':=by
 have hlt:∀ p∈before,p.block<W.heap.size:=fun p hp=>hW.lt p hp
 have hold:∀ p∈before,(fun b=>decide (b<W.heap.size)) p.block=true:=fun p hp=>by simpa using hlt p hp
 refine⟨ds,gs,before,[],pa,pv,hW,hres _ _ _,hargs _ hold,hvars _ hold,World.keptBut_mono (fun p hp=>⟨hp,?_⟩) (hb.frame (· ∈before)),fun _=>?_⟩
 ·rw[hps,List.mem_append]at hp
  exact Or.inr hp
 ·obtain⟨_,_,_,_,_,hz,hn⟩:=hW
  refine⟨hok,_,_,([]++pa)++pv,⟨[]++pa,pv,trodAll_append (hargs _ (fun _ _=>rfl)) (hres _ _ _),hvars _ (fun _ _=>rfl),rfl,?_,?_⟩,?_⟩
  ·intro b off hp
   have hin:MemPlace.cell b off∈before:=by rw[hps];simpa using hp
   rw[hb.frozen (hlt _ hin)];exact hz b off hin
  ·intro ha
   have:=hn ha;rw[hps]at this
   simpa using this
  ·intro p hp _
   rw[hps]
   simpa using hp
end
end
noncomputable section
open Go
namespace VT
def has:VT->Nat->Prop
 |.mt,_=>False
 |.nd _ _ _,0=>True
 |.nd _ l r,k+1=>if k % 2=0 then l.has (k/2)else r.has (k/2)
theorem ABk(v:IN)(l r:VT)(k:Nat):(VT.nd v l r).has (k+1)=if k % 2=0 then l.has (k/2)else r.has (k/2):=by rw[has]
theorem Fl:∀ (t:VT) (i:Nat) (x:IN),(∀ j,j<i->t.has j)->∃ t',t.set i x=some t'
 |.mt,0,x,_=>⟨_,rfl⟩
 |.mt,i+1,x,h=>(h 0 (xh i)).elim
 |.nd v l r,0,x,_=>⟨_,rfl⟩
 |.nd v l r,k+1,x,h=>by
  rw[AB6];by_cases hk:k % 2=0
  ·rw[if_pos hk]
   obtain⟨l',hl⟩:=Fl l (k/2) x fun j hj=>by
    have:=h (2*j+1) (by omega);rw[ABk,if_pos (by omega)]at this;have e:2*j/2=j:=by omega
    rwa [e]at this
   rw[hl];exact⟨_,rfl⟩
  ·rw[if_neg hk]
   obtain⟨r',hr⟩:=Fl r (k/2) x fun j hj=>by
    have:=h (2*j+1+1) (by omega);rw[ABk,if_neg (by omega)]at this;have e:(2*j+1)/2=j:=by omega
    rwa [e]at this
   rw[hr];exact⟨_,rfl⟩
theorem G4:∀ (t:VT) (i:Nat) (x:IN) (t':VT),t.set i x=some t'->∀ j,(j=i\/t.has j)->t'.has j
 |.mt,0,x,t',h,j,hj=>by
  obtain rfl:VT.nd x .mt .mt=t':=Option.some.inj h;rcases hj with rfl|hj
  ·exact trivial
  ·exact hj.elim
 |.mt,i+1,x,t',h,j,hj=>by cases h
 |.nd v l r,0,x,t',h,j,hj=>by
  obtain rfl:VT.nd x l r=t':=Option.some.inj h;cases j with
  |zero=>exact trivial
  |succ j=>
   rcases hj with hj|hj
   ·cases hj
   ·rw[ABk]at hj ⊢;exact hj
 |.nd v l r,i+1,x,t',h,j,hj=>by
  rw[AB6]at h;split at h
  ·rename_i h0
   cases hs:l.set (i/2) x with
   |none=>rw[hs]at h;cases h
   |some l'=>
    rw[hs]at h;obtain rfl:VT.nd v l' r=t':=Option.some.inj h;cases j with
    |zero=>exact trivial
    |succ j=>
     rw[ABk];split
     ·rename_i h1
      refine G4 l _ x l' hs _ ?_;rcases hj with hj|hj
      ·left;have:j=i:=by omega
       rw[this]
      ·right;rw[ABk,if_pos h1]at hj;exact hj
     ·rename_i h1
      rcases hj with hj|hj
      ·have:j=i:=by omega
       exact absurd (this ▸ h0) h1
      ·rw[ABk,if_neg h1]at hj;exact hj
  ·rename_i h0
   cases hs:r.set (i/2) x with
   |none=>rw[hs]at h;cases h
   |some r'=>
    rw[hs]at h;obtain rfl:VT.nd v l r'=t':=Option.some.inj h;cases j with
    |zero=>exact trivial
    |succ j=>
     rw[ABk];split
     ·rename_i h1
      rcases hj with hj|hj
      ·have:j=i:=by omega
       exact absurd (this ▸ h1) h0
      ·rw[ABk,if_pos h1]at hj;exact hj
     ·rename_i h1
      refine G4 r _ x r' hs _ ?_;rcases hj with hj|hj
      ·left;have:j=i:=by omega
       rw[this]
      ·right;rw[ABk,if_neg h1]at hj;exact hj
def lay(t:VT)(i:Nat)(x:IN):VT:=(t.set i x).getD t
theorem ACG{t:VT}{i:Nat}{x:IN}(h:∀ j,j<i->t.has j):t.set i x=some (t.lay i x):=by
 obtain⟨t',ht⟩:=Fl t i x h;unfold lay;rw[ht];rfl
theorem ACW{t:VT}{i:Nat}{x:IN}(h:∀ j,j<i->t.has j)(j:Nat):(t.lay i x).get j=if j=i then x else t.get j:=ABq _ _ _ _ (ACG h) j
theorem ACd{t:VT}{i:Nat}{x:IN}(h:∀ j,j<i->t.has j)(j:Nat)(hj:j=i\/t.has j):(t.lay i x).has j:=G4 _ _ _ _ (ACG h) j hj
end VT
namespace BT
theorem ABk(v:Blk)(l r:BT)(k:Nat):(BT.nd v l r).has (k+1)=if k % 2=0 then l.has (k/2)else r.has (k/2):=by rw[has]
theorem Fl:∀ (t:BT) (i:Nat) (x:Blk),(∀ j,j<i->t.has j)->∃ t',t.set i x=some t'
 |.mt,0,x,_=>⟨_,rfl⟩
 |.mt,i+1,x,h=>(h 0 (xh i)).elim
 |.nd v l r,0,x,_=>⟨_,rfl⟩
 |.nd v l r,k+1,x,h=>by
  rw[AB6];by_cases hk:k % 2=0
  ·rw[if_pos hk]
   obtain⟨l',hl⟩:=Fl l (k/2) x fun j hj=>by
    have:=h (2*j+1) (by omega);rw[ABk,if_pos (by omega)]at this;have e:2*j/2=j:=by omega
    rwa [e]at this
   rw[hl];exact⟨_,rfl⟩
  ·rw[if_neg hk]
   obtain⟨r',hr⟩:=Fl r (k/2) x fun j hj=>by
    have:=h (2*j+1+1) (by omega);rw[ABk,if_neg (by omega)]at this;have e:(2*j+1)/2=j:=by omega
    rwa [e]at this
   rw[hr];exact⟨_,rfl⟩
theorem G4:∀ (t:BT) (i:Nat) (x:Blk) (t':BT),t.set i x=some t'->∀ j,(j=i\/t.has j)->t'.has j
 |.mt,0,x,t',h,j,hj=>by
  obtain rfl:BT.nd x .mt .mt=t':=Option.some.inj h;rcases hj with rfl|hj
  ·exact trivial
  ·exact hj.elim
 |.mt,i+1,x,t',h,j,hj=>by cases h
 |.nd v l r,0,x,t',h,j,hj=>by
  obtain rfl:BT.nd x l r=t':=Option.some.inj h;cases j with
  |zero=>exact trivial
  |succ j=>
   rcases hj with hj|hj
   ·cases hj
   ·rw[ABk]at hj ⊢;exact hj
 |.nd v l r,i+1,x,t',h,j,hj=>by
  rw[AB6]at h;split at h
  ·rename_i h0
   cases hs:l.set (i/2) x with
   |none=>rw[hs]at h;cases h
   |some l'=>
    rw[hs]at h;obtain rfl:BT.nd v l' r=t':=Option.some.inj h;cases j with
    |zero=>exact trivial
    |succ j=>
     rw[ABk];split
     ·rename_i h1
      refine G4 l _ x l' hs _ ?_;rcases hj with hj|hj
      ·left;have:j=i:=by omega
       rw[this]
      ·right;rw[ABk,if_pos h1]at hj;exact hj
     ·rename_i h1
      rcases hj with hj|hj
      ·have:j=i:=by omega
       exact absurd (this ▸ h0) h1
      ·rw[ABk,if_neg h1]at hj;exact hj
  ·rename_i h0
   cases hs:r.set (i/2) x with
   |none=>rw[hs]at h;cases h
   |some r'=>
    rw[hs]at h;obtain rfl:BT.nd v l r'=t':=Option.some.inj h;cases j with
    |zero=>exact trivial
    |succ j=>
     rw[ABk];split
     ·rename_i h1
      rcases hj with hj|hj
      ·have:j=i:=by omega
       exact absurd (this ▸ h1) h0
      ·rw[ABk,if_pos h1]at hj;exact hj
     ·rename_i h1
      refine G4 r _ x r' hs _ ?_;rcases hj with hj|hj
      ·left;have:j=i:=by omega
       rw[this]
      ·right;rw[ABk,if_neg h1]at hj;exact hj
def lay(t:BT)(i:Nat)(x:Blk):BT:=(t.set i x).getD t
theorem ACG{t:BT}{i:Nat}{x:Blk}(h:∀ j,j<i->t.has j):t.set i x=some (t.lay i x):=by
 obtain⟨t',ht⟩:=Fl t i x h;unfold lay;rw[ht];rfl
theorem ACW{t:BT}{i:Nat}{x:Blk}(h:∀ j,j<i->t.has j)(j:Nat):(t.lay i x).get j=if j=i then x else t.get j:=ABq _ _ _ _ (ACG h) j
theorem ACd{t:BT}{i:Nat}{x:Blk}(h:∀ j,j<i->t.has j)(j:Nat)(hj:j=i\/t.has j):(t.lay i x).has j:=G4 _ _ _ _ (ACG h) j hj
end BT
end
noncomputable section
open Go
section
variable {F:ABZ}{e:Env}{h:Hp}{k a b:C}{f:OpF}{x y:O}
def opX(i:Nat)(r:R)(k:C)(F:ABZ)(e:Env):X:=match r with
 |.ok v h=>k F (Env.set i v e) h
 |.no=>.no
def doX(r:R)(k:C)(F:ABZ)(e:Env):X:=match r with
 |.ok _ h=>k F e h
 |.no=>.no
def Xo(x:X)(b:C)(F:ABZ):X:=match x with
 |.norm e h=>b F e h
 |x=>x
def J8(id:Nat)(x:X):X:=match x with
 |.exit i e h=>bif tm i id then .norm e h else .exit i e h
 |x=>x
def QF(v:IN)(a b:C)(F:ABZ)(e:Env)(h:Hp):X:=match v with
 |.bool c=>(bif c then a else b) F e h
 |_=>.no
def WC(i:Nat)(k:C):C:=fun F e h=>k F (Env.set i ABd e) h
def HY(v:IN)(want:Bool)(a b:C)(F:ABZ)(e:Env)(h:Hp):X:=match v with
 |.bool c=>(bif want == c then a else b) F e h
 |.tuple _=>b F e h
 |_=>.no
theorem Hl{i:Nat}{v:IN}:opX i (.ok v h) k F e=k F (Env.set i v e) h:=rfl
theorem ZD{v:IN}:doX (.ok v h) k F e=k F e h:=rfl
theorem A3:Xo (.norm e h) b F=b F e h:=rfl
theorem Cq:Xo (.ret e h) b F=.ret e h:=rfl
theorem OQ{i:Nat}:Xo (.exit i e h) b F=.exit i e h:=rfl
theorem Bt{i:Nat}:J8 i (.norm e h)=.norm e h:=rfl
theorem CE{i:Nat}:J8 i (.ret e h)=.ret e h:=rfl
theorem A8{i:Nat}:J8 i (.exit i e h)=.norm e h:=by
 show(bif tm i i then _ else _)=_;rw[vT];rfl
theorem Ij:QF (.bool true) a b F e h=a F e h:=rfl
theorem HS:QF (.bool false) a b F e h=b F e h:=rfl
theorem N1:HY (.bool true) true a b F e h=a F e h:=rfl
theorem N0:HY (.bool true) false a b F e h=b F e h:=rfl
theorem Nz:HY (.bool false) true a b F e h=b F e h:=rfl
theorem Ny:HY (.bool false) false a b F e h=a F e h:=rfl
theorem K1{w:Bool}:HY ABd w a b F e h=b F e h:=rfl
theorem Ry{i:Nat}:WC i k F e h=k F (Env.set i ABd e) h:=rfl
theorem kG{i:Nat}(hi:i<240):SS (FF i) f k F e h=opX i (f F e h) k F e:=by
 unfold SS opX;cases f F e h with
 |ok v h=>exact ED i hi _ v e
 |no=>rfl
theorem YU:cDo f k F e h=doX (f F e h) k F e:=by
 unfold cDo doX;cases f F e h<;>rfl
theorem qq{g:O}{w:Bool}{i:Nat}(hi:i<240):cG g w (FF i) f k F e h=HY (g e) w (SS (FF i) f k) (WC i k) F e h:=by
 unfold cG HY WC;cases g e with
 |bool c=>
  simp only;cases w == c
  ·exact ED i hi _ _ e
  ·rfl
 |tuple l=>exact ED i hi _ _ e
 |_=>rfl
theorem A9:BB a b F e h=Xo (a F e h) b F:=by
 unfold BB Xo;cases a F e h<;>rfl
theorem An{i:Nat}:AY i a F e h=J8 i (a F e h):=by
 unfold AY J8;cases a F e h<;>rfl
theorem HP:IR x a b F e h=QF (x e) a b F e h:=by
 unfold IR QF;cases x e with
 |bool c=>cases c<;>rfl
 |_=>rfl
theorem Lw:Aq F e h=.norm e h:=rfl
theorem UO:Ah F e h=.ret e h:=rfl
theorem QC{i:Nat}:B8 i F e h=.exit i e h:=rfl
theorem AG{i j:Nat}{v:IN}(hi:i<240)(hj:j<240):J j (Env.set i v e)=if j=i then v else J j e:=by
 rw[DE j hj,Env.ABq _ _ _ _ hi hj,DE j hj]
theorem E6{v:IN}:kV v e=v:=rfl
theorem A5:vals e []=[]:=rfl
theorem AU{l:List O}:vals e (x::l)=x e::vals e l:=rfl
theorem LC{i:Nat}:As e i []=e:=rfl
theorem Jr{i:Nat}{v:IN}{l:List IN}:As e i (v::l)=As (Env.set i v e) (tk i) l:=rfl
theorem EY:AP x F e h=.ok (x e) h:=E7 _ _
theorem HQ{i:Nat}(hi:i<240):G i f k F e h=opX i (f F e h) k F e:=kG hi
theorem YV{a:Nat}{w:Bool}{i:Nat}(hi:i<240):Al a w i f k F e h=HY (J a e) w (G i f k) (WC i k) F e h:=qq hi
theorem Oi{i:Nat}:Bd i a b F e h=QF (J i e) a b F e h:=HP
theorem Hi{i:Nat}:AZ i F e h=.ok (J i e) h:=EY
theorem Eu{j:tw}{n:Int}:Cy j (.int j n)=.ok n:=by cases j<;>rfl
theorem fT{j:tw}{n:Nat}:GY j (.int j (.ofNat n))=.ok n:=by cases j<;>rfl
theorem IC{j:tw}{n:Nat}:GY j (.int j (n:Int))=.ok n:=fT
theorem Db{j:tw}{n:Nat}:DS (.int j (n:Int))=.ok n:=rfl
theorem Ff{c:Bool}:okB c h=.ok (.bool c) h:=by cases c<;>rfl
theorem Gs(a b:Int):iGt a b=decide (b<a):=DR b a
theorem O8(a b:Int):iLe a b=decide (a<=b):=by
 show(!iLt b a)=_;rw[DR,<- decide_not]
 congr 1;simp
theorem S6(a b:Int):iGe a b=decide (b<=a):=O8 b a
theorem Ha(a b:Int):iNe a b= !(a == b):=by
 show(!iEq a b)=_;rw[Dh]
def mI(f:Int->Int->Bool)(j:tw)(a b:IN)(h:Hp):R:=df f (Cy j a) (Cy j b) h
def FX(f:Int->Int->Int)(j:tw)(a b:IN)(h:Hp):R:=jO f j (Cy j a) (Cy j b) h
theorem AK{f:Int->Int->Bool}{j:tw}:Ae f j x y F e h=mI f j (x e) (y e) h:=rfl
theorem Bz{f:Int->Int->Int}{j:tw}:C1 f j x y F e h=FX f j (x e) (y e) h:=rfl
theorem AJ{f:Int->Int->Bool}{j:tw}{m n:Int}:mI f j (.int j m) (.int j n) h=.ok (.bool (f m n)) h:=by
 unfold mI;rw[Eu,Eu];exact Ff
theorem Ce{f:Int->Int->Int}{j:tw}{m n:Int}:FX f j (.int j m) (.int j n) h=.ok (.int j (j.wrap (f m n))) h:=by
 unfold FX;rw[Eu,Eu];show okI j (Eg j (f m n)) h=_;rw[Eq,DK]
def Fs(j:tw)(a b:IN)(h:Hp):R:=cd j (BC j) (Cy j a) (Cy j b) h
theorem BR{j:tw}:CD j (BC j) x y F e h=Fs j (x e) (y e) h:=rfl
theorem cK{j:tw}{n:Nat}(hn:tz n (BC j)=true):j.wrap (n:Int)=n:=by
 rw[<- DK];show wQ (motive:=fun _=>Int) (j.wrap (.ofNat n)) (.ofNat n) (tz n (BC j))=_;rw[hn];rfl
theorem EF{j:tw}{m n:Int}:Fs j (.int j m) (.int j n) h=.ok (.int j (j.wrap (m+n))) h:=by
 unfold Fs;rw[Eu,Eu];cases m with
 |negSucc m=>show okI j (Eg j _) h=_;rw[Eq,DK]
 |ofNat m=>
  cases n with
  |negSucc n=>show okI j (Eg j _) h=_;rw[Eq,DK]
  |ofNat n=>
   show wQ (motive:=fun _=>R) (okI j (j.wrap (.ofNat m+.ofNat n)) h) (ABu (vO m n) fun n=>.ok (.int j (.ofNat n)) h) (tz (vO m n) (BC j))=_;cases hb:tz (vO m n) (BC j)with
   |false=>simp only;rw[Eq]
   |true=>
    simp only;rw[Am];have:=cK hb;have e:(vW m+vW n:Int)=((vO m n:Nat):Int):=by
     show((m:Int)+(n:Int))=((m+n:Nat):Int);omega
    rw[e,this];rfl
def Sw(j:tw)(a b:IN)(h:Hp):R:=ZB j (Cy j a) (Cy j b) h
def bH(j:tw)(a b:IN)(h:Hp):R:=bG j (Cy j a) (Cy j b) h
theorem Ji{j:tw}:LL j x y F e h=Sw j (x e) (y e) h:=rfl
theorem PS{j:tw}:RC j x y F e h=bH j (x e) (y e) h:=rfl
theorem LX{j:tw}{m n:Int}(hn:n≠0):Sw j (.int j m) (.int j n) h=.ok (.int j (j.wrap (m.tdiv n))) h:=by
 unfold Sw;rw[Eu,Eu];show(bif iEq n 0 then R.no else okI j (Eg j (m.tdiv n)) h)=_;rw[Dh,Eq,DK,beq_false_of_ne hn];rfl
theorem V6{j:tw}{m n:Int}(hn:n≠0):bH j (.int j m) (.int j n) h=.ok (.int j (m.tmod n)) h:=by
 unfold bH;rw[Eu,Eu];show(bif iEq n 0 then R.no else okI j (m.tmod n) h)=_;rw[Dh,Eq,beq_false_of_ne hn];rfl
def YL(f:Nat->Nat->Nat)(j:tw)(a b:IN)(h:Hp):R:=YK f j (GY j a) (GY j b) h
theorem fl{f:Nat->Nat->Nat}{j:tw}:Ke f j x y F e h=YL f j (x e) (y e) h:=rfl
theorem UK{f:Nat->Nat->Nat}{j:tw}{m n:Nat}(hm:m<=BC j)(hn:n<=BC j):YL f j (.int j (m:Int)) (.int j (n:Int)) h=.ok (.int j (f m n:Nat)) h:=by
 unfold YL;rw[IC,IC];show(bif tz m (BC j)then(bif tz n (BC j)then okI j (.ofNat (f m n)) h else R.no)else R.no)=_;rw[Ar.2 hm,Ar.2 hn,Eq];rfl
def iB(j:tw)(a b:IN)(h:Hp):R:=bQ j (GY j a) (DS b) h
def bS(j:tw)(a b:IN)(h:Hp):R:=bR j (GY j a) (DS b) h
theorem Vm{j:tw}:NX j x y F e h=iB j (x e) (y e) h:=rfl
theorem Vn{j:tw}:LM j x y F e h=bS j (x e) (y e) h:=rfl
theorem iC{j q:tw}{m n:Nat}:iB j (.int j (m:Int)) (.int q (n:Int)) h=.ok (.int j (j.wrap ((m*2 ^ min n j.bits:Nat):Int))) h:=by
 unfold iB;rw[IC,Db];show okI j (Eg j (.ofNat (ur m (Nat.pow 2 (CC n j.bits))))) h=_;rw[Eq,DK,BW];rfl
theorem WA{j q:tw}{m n:Nat}:bS j (.int j (m:Int)) (.int q (n:Int)) h=.ok (.int j ((m/2 ^ min n j.bits:Nat):Int)) h:=by
 unfold bS;rw[IC,Db];show okI j (.ofNat (Nat.div m (Nat.pow 2 (CC n j.bits)))) h=_;rw[Eq,BW];rfl
def C3(j:tw)(a:IN)(h:Hp):R:=match XH a with
 |.ok n=>okI j (Eg j n) h
 |.no=>.no
theorem Bl{j:tw}:CR j x F e h=C3 j (x e) h:=rfl
theorem B4{j q:tw}{n:Int}:C3 j (.int q n) h=.ok (.int j (j.wrap n)) h:=by
 show okI j (Eg j n) h=_;rw[Eq,DK]
def rJ(a:IN)(h:Hp):R:=match a with
 |.bool b=>okB (!b) h
 |_=>.no
theorem BM:Dl x F e h=rJ (x e) h:=rfl
theorem BK{c:Bool}:rJ (.bool c) h=.ok (.bool (!c)) h:=Ff
def aj(c a b:IN)(h:Hp):R:=an c a b h
theorem RB{c:O}:A6 c x y F e h=aj (c e) (x e) (y e) h:=rfl
theorem Mt{v u:IN}:aj (.bool true) v u h=.ok v h:=E7 _ _
theorem K8{v u:IN}:aj (.bool false) v u h=.ok u h:=E7 _ _
theorem BP{g:Nat}{l:List O}:AS g l F e h=F g (vals e l) h:=DD _ _
theorem On{bs:FT}{n f:Nat}{b:Body}(hb:bs.get f=some b){args:List IN}:call bs (tk n) f args h=enter (call bs n) b args h:=by
 show(match bs.get f with|some b=>enter (call bs n) b args h|none=>.no)=_;rw[hb]
theorem ZO{rs:List RV}{c:C}{args:List IN}(hl:tz (Di args) 240=true)(hx:Pn rs=none:=by rfl):enter F ⟨rs,c⟩ args h=He rs (c F (As e0 0 args) h):=by
 unfold enter;rw[hx];show(bif tz (Di args) 240 then He rs (c F (As e0 0 args) h)else .no)=_;rw[hl];rfl
theorem Ay{rs:List RV}:He rs (.ret e h)=El rs e h:=rfl
theorem Eo{rs:List RV}:He rs (.norm e h)=El rs e h:=rfl
theorem QW{g:O}:El [.t g] e h=.ok (g e) h:=by
 show ABm (g e) _=_;rw[BQ];rfl
theorem CP{g g':O}:El [.t g,.t g'] e h=.ok (.tuple ⟨[g e,g' e]⟩) h:=by
 show ABm (g e) (fun v=>ABm (g' e) _)=_;rw[BQ,BQ];rfl
theorem EV{g g' g'':O}:El [.t g,.t g',.t g''] e h=.ok (.tuple ⟨[g e,g' e,g'' e]⟩) h:=by
 show ABm (g e) (fun v=>ABm (g' e) (fun v=>ABm (g'' e) _))=_;rw[BQ,BQ,BQ];rfl
def GP(i:Nat)(a:IN)(h:Hp):R:=match a with
 |.tuple vs=>match nth vs.toList i with
  |some v=>.ok v h
  |none=>.no
 |_=>.no
theorem Ao{i:Nat}:AV i x F e h=GP i (x e) h:=by
 show(match x e with|.tuple vs=>(match nth vs.toList i with|some v=>ABm v fun v=>.ok v h|none=>.no)|_=>.no)=_;unfold GP;cases x e with
 |tuple vs=>
  simp only;cases nth vs.toList i with
  |some v=>exact BQ _ _
  |none=>rfl
 |_=>rfl
theorem Ax{v:IN}{l:List IN}:GP 0 (.tuple ⟨v::l⟩) h=.ok v h:=rfl
theorem A2{u v:IN}{l:List IN}:GP 1 (.tuple ⟨u::v::l⟩) h=.ok v h:=rfl
theorem Bu{t u v:IN}{l:List IN}:GP 2 (.tuple ⟨t::u::v::l⟩) h=.ok v h:=rfl
end
end
noncomputable section
open Go
section
variable {F:ABZ}{e:Env}{h h':Hp}{x y:O}
structure Hp.Wf (h:Hp):Prop where
 big:256<=h.next
 has:∀ i,i<h.next->h.bl.has i
 fresh:∀ i,h.next<=i->h.bl.get i=.dead
def Hp.push(h:Hp)(o:Blk):Hp:={next:=tk h.next,low:=h.low,high:=h.high,mark:=h.mark,bl:=h.bl.lay h.next o}
def Hp.put(h:Hp)(b:Nat)(o:Blk):Hp:={next:=h.next,low:=CC h.low b,high:=C5 h.high b,mark:=h.mark,bl:=h.bl.lay b o}
theorem Cz(W:h.Wf){o:Blk}{K:Nat->Hp->R}:GH h o K=K h.next (h.push o):=by
 unfold GH;rw[BT.ACG fun j hj=>W.has j hj];simp only[Am];rfl
theorem EM(W:h.Wf){b:Nat}(ABj:256<=b)(hb:b<h.next){o:Blk}{K:Hp->R}:Es h b o K=K (h.put b o):=by
 unfold Es;rw[BT.ACG fun j hj=>W.has j (zj hj hb),Ar.2 ABj];simp only[Am];rfl
theorem Hp.Wf.ABx(W:h.Wf)(o:Blk)(i:Nat):(h.push o).bl.get i=if i=h.next then o else h.bl.get i:=BT.ACW (fun j hj=>W.has j hj) i
theorem Hp.Wf.ACD(W:h.Wf){b:Nat}(hb:b<h.next)(o:Blk)(i:Nat):(h.put b o).bl.get i=if i=b then o else h.bl.get i:=BT.ACW (fun j hj=>W.has j (zj hj hb)) i
theorem Hp.Wf.push(W:h.Wf)(o:Blk):(h.push o).Wf where
 big:=ya W.big
 has:=fun i hi=>BT.ACd (fun j hj=>W.has j hj) i (by
  have hi:i<h.next+1:=hi;rcases uG i h.next with h1|h1
  ·exact .inr (W.has i h1)
  ·exact .inl (by omega))
 fresh:=fun i hi=>by
  have hi:h.next+1<=i:=hi;rw[W.ABx o i,if_neg (by omega)];exact W.fresh i (by omega)
theorem Hp.Wf.put(W:h.Wf){b:Nat}(hb:b<h.next)(o:Blk):(h.put b o).Wf where
 big:=W.big
 has:=fun i hi=>BT.ACd (fun j hj=>W.has j (zj hj hb)) i (.inr (W.has i hi))
 fresh:=fun i hi=>by
  have hi:h.next<=i:=hi;rw[W.ACD hb o i,if_neg (by omega)];exact W.fresh i hi
structure Hp.Ext (h h':Hp):Prop where
 next:h.next<=h'.next
 get:∀ i,i<h.next->h'.bl.get i=h.bl.get i
 low:min h.low h.next<=h'.low
 wf:h'.Wf
theorem Hp.Ext.refl(W:h.Wf):h.Ext h:=⟨If _,fun _ _=>rfl,Nat.min_le_left _ _,W⟩
theorem Hp.Ext.trans{h₁ h₂ h₃:Hp}(a:h₁.Ext h₂)(b:h₂.Ext h₃):h₁.Ext h₃ where
 next:=uO a.next b.next
 get:=fun i hi=>by rw[b.get i (vD hi a.next),a.get i hi]
 low:=by have:=a.low;have:=b.low;have:=a.next;omega
 wf:=b.wf
theorem Hp.Ext.push(a:h.Ext h')(o:Blk):h.Ext (h'.push o) where
 next:=ya a.next
 get:=fun i hi=>by rw[a.wf.ABx,if_neg (by have:=a.next;omega),a.get i hi]
 low:=a.low
 wf:=a.wf.push o
theorem Hp.Ext.put(a:h.Ext h'){b:Nat}(h1:h.next<=b)(hb:b<h'.next)(o:Blk):h.Ext (h'.put b o) where
 next:=a.next
 get:=fun i hi=>by rw[a.wf.ACD hb,if_neg (by omega),a.get i hi]
 low:=by
  show _<=CC h'.low b;rw[BW];have:=a.low;omega
 wf:=a.wf.put hb o
def VT.Is(t:VT)(l:List IN):Prop:=∀ i,i<l.length->t.has i/\t.get i=l.getD i ABd
theorem Dy:∀ (vs:List IN) (t:VT) (l:List IN) (i:Nat),t.Is l->i+vs.length<=l.length\/i=l.length->∃ t',Bo t i vs=some t'/\t'.Is (l.take i++vs++l.drop (i+vs.length))
 |[],t,l,i,ht,hi=>⟨t,rfl,by simpa using ht⟩
 |v::vs,t,l,i,ht,hi=>by
  have hi':i<=l.length:=by simp only[tZ]at hi;omega
  have hh:∀ j,j<i->t.has j:=fun j hj=>(ht j (by omega)).1
  have h1:(t.lay i v).Is (l.take i++[v]++l.drop (i+1)):=fun j hj=>by
   have hl:(l.take i).length=i:=by simp;omega
   refine⟨VT.ACd hh j ?_,?_⟩
   ·by_cases hji:j=i
    ·exact .inl hji
    ·right
     refine(ht j ?_).1;simp only[No,tZ,uR,ua,uL]at hj;omega
   ·rw[VT.ACW hh]
    by_cases hji:j=i
    ·rw[if_pos hji,hji,tY,uC,uI (by omega)]
     simp[hl]
    ·rw[if_neg hji]
     have hjl:j<l.length:=by
      simp only[No,tZ,uR,ua,uL]at hj;omega
     rw[(ht j hjl).2,tY,tY]
     congr 1
     rcases uG j i with h2|h2
     ·rw[uC,List.getElem?_append_left (by omega),xL,if_pos h2]
     ·rw[uI (by simp only[No,hl,tZ,uR];omega),yN]
      congr 1
      simp only[No,hl,tZ,uR];omega
  have hlen:(l.take i++[v]++l.drop (i+1)).length=max l.length (i+1):=by
   simp only[No,tZ,uR,ua,uL];omega
  obtain⟨t',h2,h3⟩:=Dy vs (t.lay i v) _ (i+1) h1 (by simp only[tZ]at hi;omega);refine⟨t',?_,?_⟩
  ·show(match t.set i v with|some t'=>Bo t' (tk i) vs|none=>none)=_
   rw[VT.ACG hh];exact h2
  ·have e:(l.take i++[v]++l.drop (i+1)).take (i+1)++vs++(l.take i++[v]++l.drop (i+1)).drop (i+1+vs.length)=l.take i++(v::vs)++l.drop (i+(v::vs).length):=by
    have hl:(l.take i++[v]).length=i+1:=by simp;omega
    rw[List.take_left' hl];have e2:i+1+vs.length=(l.take i++[v]).length+vs.length:=by rw[hl]
    rw[e2,List.drop_length_add_append,List.drop_drop];have e3:i+1+vs.length=i+(v::vs).length:=by simp only[tZ];omega
    rw[e3];simp
   rw[e]at h3;exact h3
theorem rF:VT.mt.Is []:=fun i h=>by cases h
def ofL(l:List IN):VT:=(Bo .mt 0 l).getD .mt
theorem Hj(l:List IN):Bo .mt 0 l=some (ofL l)/\(ofL l).Is l:=by
 obtain⟨t',h1,h2⟩:=Dy l .mt [] 0 rF (.inr rfl);unfold ofL;rw[h1];refine⟨rfl,?_⟩
 simpa using h2
theorem VT.Is.of{t:VT}{l:List IN}(h:Bo .mt 0 l=some t):t.Is l:=by
 have:=Hj l;rw[h]at this;rw[Option.some.inj this.1];exact this.2
def Hp.Row(h:Hp)(b el:Nat)(l:List IN):Prop:=∃ c,h.bl.get b=.cells c l.length el/\c.Is l
def Hp.ABY(h:Hp)(el:Nat)(l:List IN):Hp:=h.push (.cells (ofL l) l.length el)
theorem CQ(W:h.Wf){el:Nat}{l:List IN}{K:Nat->Hp->R}:newRow h el l K=K h.next (h.ABY el l):=by
 unfold newRow;rw[(Hj l).1];show CT h el (ofL l) (Di l) K=_;unfold CT;rw[Am,Cz W,Bi];rfl
theorem Hp.Row.lt(W:h.Wf){b el:Nat}{l:List IN}(r:h.Row b el l):b<h.next:=by
 obtain⟨c,hc,_⟩:=r;rcases uG b h.next with h1|h1
 ·exact h1
 ·rw[W.fresh b h1]at hc;cases hc
theorem Hp.Row.new(W:h.Wf)(el:Nat)(l:List IN):(h.ABY el l).Row h.next el l:=⟨ofL l,by unfold Hp.ABY;rw[W.ABx,if_pos rfl],(Hj l).2⟩
theorem Hp.Row.ext{b el:Nat}{l:List IN}(r:h.Row b el l)(W:h.Wf)(x:h.Ext h'):h'.Row b el l:=by
 have:=r.lt W;obtain⟨c,hc,hl⟩:=r;exact⟨c,(x.get b this).trans hc,hl⟩
theorem Hp.Row.push{b el:Nat}{l:List IN}(r:h.Row b el l)(W:h.Wf)(o:Blk):(h.push o).Row b el l:=r.ext W ((Hp.Ext.refl W).push o)
theorem Hp.Ext.ABY(a:h.Ext h')(el:Nat)(l:List IN):h.Ext (h'.ABY el l):=a.push _
theorem Hp.Row.rowOf{b el:Nat}{l:List IN}(r:h.Row b el l):∃ c,rowOf h b=.ok c l.length el/\c.Is l:=by
 obtain⟨c,hc,hl⟩:=r;exact⟨c,by unfold Go.Proofs.YtbjadbhkogcfeaaGreat.rowOf;rw[hc];rfl,hl⟩
theorem Hp.Row.ABa{b el off:Nat}{l:List IN}(r:h.Row b el l)(ho:off<l.length):ABa ⟨b,off,none⟩ h=.ok (l.getD off ABd) h:=by
 obtain⟨c,hc,hl⟩:=r.rowOf;unfold Go.Proofs.YtbjadbhkogcfeaaGreat.ABa;simp only[hc];rw[Ba.2 ho];simp only[BQ,(hl off ho).2]
theorem Is.ACp{c:VT}{l:List IN}(hl:c.Is l)(off n:Nat)(ho:off+n<=l.length):ACp c off n=(l.drop off).take n:=by
 refine List.ext_getElem? fun i=>?_
 unfold Go.Proofs.YtbjadbhkogcfeaaGreat.ACp;rw[List.getElem?_map,xL,yN];by_cases hi:i<n
 ·rw[if_pos hi,List.getElem?_range hi]
  have:=(hl (off+i) (by omega)).2;rw[tY,tW (by omega)]at this;show some (c.get (off+i))=_;rw[this,tW (by omega)];rfl
 ·rw[if_neg hi,List.getElem?_eq_none (by simpa using hi)];rfl
theorem Hp.Row.loadN{b el off n:Nat}{l:List IN}(r:h.Row b el l)(ho:off+n<=l.length):loadN n ⟨b,off,none⟩ h=.ok (.agg ⟨(l.drop off).take n⟩) h:=by
 obtain⟨c,hc,hl⟩:=r.rowOf;unfold Go.Proofs.YtbjadbhkogcfeaaGreat.loadN;simp only[hc,vH];rw[Ar.2 ho];simp only[cond_true,F1,uH,Is.ACp hl off n ho]
theorem Hp.Row.src{b el off n c:Nat}{l:List IN}(r:h.Row b el l)(ho:off+n<=l.length){sl:Nat}{k:List IN->R}:BI h 1 (.slice (some ⟨b,off,none⟩) sl c) n k=k ((l.drop off).take n):=by
 obtain⟨cc,hc,hl⟩:=r.rowOf;unfold BI;simp only[hc];have e:ur n 1=n:=wD n;rw[e];simp only[vH];rw[Ar.2 ho];simp only[cond_true,F1,uH,Is.ACp hl off n ho]
def Hp.wr(h:Hp)(b off:Nat)(vs:List IN):Hp:=match rowOf h b with
 |.ok c s e=>h.put b (.cells ((Bo c off vs).getD c) s e)
 |.no=>h
def over(l:List IN)(off:Nat)(vs:List IN):List IN:=l.take off++vs++l.drop (off+vs.length)
theorem RI{l vs:List IN}{off:Nat}(ho:off+vs.length<=l.length):(over l off vs).length=l.length:=by
 unfold over;simp only[No,uL,ua];omega
theorem Hp.Row.ACh{b el off:Nat}{l vs:List IN}(r:h.Row b el l)(ho:off+vs.length<=l.length):∃ c,c.Is (over l off vs)/\h.wr b off vs=h.put b (.cells c (over l off vs).length el)/\
  ∀ (W:h.Wf) (ABj:256<=b) (h1:BX vs=true) (K:Hp->R),C6 ⟨b,off,none⟩ vs h K=K (h.wr b off vs):=by
 obtain⟨c,hc,hl⟩:=r.rowOf;obtain⟨c',h2,h3⟩:=Dy vs c l off hl (.inl ho);have e:h.wr b off vs=h.put b (.cells c' l.length el):=by
  unfold Hp.wr;rw[hc];simp only[h2,Option.getD_some]
 refine⟨c',h3,by rw[RI ho];exact e,fun W ABj h1 K=>?_⟩;unfold C6;simp only[hc,vH];rw[Bi,Ar.2 ho,h1];simp only[cond_true,h2];rw[e,EM W ABj (r.lt W)]
theorem Hp.Row.store{b el off:Nat}{l vs:List IN}(r:h.Row b el l)(W:h.Wf)(ABj:256<=b)(ho:off+vs.length<=l.length)(h1:BX vs=true)(K:Hp->R):C6 ⟨b,off,none⟩ vs h K=K (h.wr b off vs):=by
 obtain⟨_,_,_,h4⟩:=r.ACh ho;exact h4 W ABj h1 K
theorem Hp.Row.ABl{b el off:Nat}{l vs:List IN}(r:h.Row b el l)(W:h.Wf)(ho:off+vs.length<=l.length):(h.wr b off vs).Row b el (over l off vs):=by
 obtain⟨c,h3,e,_⟩:=r.ACh ho;exact⟨c,by rw[e,W.ACD (r.lt W),if_pos rfl],h3⟩
theorem Hp.Row.ACi{b el off b' el':Nat}{l vs l':List IN}(r:h.Row b el l)(W:h.Wf)(ho:off+vs.length<=l.length)(r':h.Row b' el' l')(hb:b'≠b):(h.wr b off vs).Row b' el' l':=by
 obtain⟨c,h3,e,_⟩:=r.ACh ho;obtain⟨c',hc',hl'⟩:=r';exact⟨c',by rw[e,W.ACD (r.lt W),if_neg hb,hc'],hl'⟩
theorem Hp.Row.AB3{h0:Hp}{b el off:Nat}{l vs:List IN}(r:h.Row b el l)(x:h0.Ext h)(hb:h0.next<=b)(ho:off+vs.length<=l.length):h0.Ext (h.wr b off vs):=by
 obtain⟨c,h3,e,_⟩:=r.ACh ho;rw[e];exact x.put hb (r.lt x.wf) _
theorem Hp.Row.ACH{b el off:Nat}{l vs:List IN}(r:h.Row b el l)(ho:off+vs.length<=l.length):(h.wr b off vs).next=h.next:=by
 obtain⟨c,h3,e,_⟩:=r.ACh ho;rw[e];rfl
def IY(v:IN)(h:Hp):R:=match Dz v with
 |.ok a=>ABa a h
 |.no=>.no
theorem AN:AM x F e h=IY (x e) h:=by
 unfold AM IY;cases Dz (x e)<;>rfl
theorem AQ{a:yZ}:IY (.pointer (some a)) h=ABa a h:=rfl
def Iq(n:Nat)(v:IN)(h:Hp):R:=match Dz v with
 |.ok a=>loadN n a h
 |.no=>.no
theorem Ap{n:Nat}:BE n x F e h=Iq n (x e) h:=rfl
theorem Aj{n:Nat}{a:yZ}:Iq n (.pointer (some a)) h=loadN n a h:=rfl
def ABg(n:Nat)(p v:IN)(h:Hp):R:=match Dz p with
 |.ok a=>bif tm (Di (cellsOf v)) n then C6 a (cellsOf v) h EI else .no
 |.no=>.no
theorem AW{n:Nat}:Ac n x y F e h=ABg n (x e) (y e) h:=by
 unfold Ac ABg;simp only[BQ];cases Dz (x e)<;>rfl
theorem Hp.Row.ABg{n b el off:Nat}{l:List IN}{v:IN}(r:h.Row b el l)(W:h.Wf)(ABj:256<=b)(hn:(cellsOf v).length=n)(ho:off+(cellsOf v).length<=l.length)(h1:BX (cellsOf v)=true):
  ABg n (.pointer (some ⟨b,off,none⟩)) v h=.ok ABd (h.wr b off (cellsOf v)):=by
 show(bif tm (Di (cellsOf v)) n then C6 ⟨b,off,none⟩ (cellsOf v) h EI else .no)=_;rw[Bi,A1.2 hn,r.store W ABj ho h1];rfl
def cq(v:IN)(h:Hp):R:=bif known v then newRow h 0 (cellsOf v) I6 else .no
theorem Dx:CW x F e h=cq (x e) h:=by
 unfold CW cq;simp only[BQ]
theorem Dt(W:h.Wf){v:IN}(hk:known v=true:=by rfl):cq v h=.ok (.pointer (some ⟨h.next,0,none⟩)) (h.ABY 0 (cellsOf v)):=by
 unfold cq;rw[hk,cond_true,CQ W];rfl
theorem BL(W:h.Wf){n:Nat}{t:VT}:BN n t F e h=.ok (.pointer (some ⟨h.next,0,none⟩)) (h.push (.cells t n 0)):=by
 unfold BN;rw[Cz W];rfl
theorem Hp.Row.alloc(W:h.Wf){n:Nat}{t:VT}{l:List IN}(ht:Bo .mt 0 l=some t)(hn:l.length=n):(h.push (.cells t n 0)).Row h.next 0 l:=⟨t,by rw[W.ABx,if_pos rfl,hn],.of ht⟩
theorem NU{n:Nat}:AF n x F e h=match Dz (x e)with|.ok a=>.ok (.pointer (some ⟨a.block,a.off+n,none⟩)) h|.no=>.no:=by
 unfold AF;cases Dz (x e)with
 |ok a=>exact Am _ _
 |no=>rfl
def Us(n:Nat)(v:IN)(h:Hp):R:=match Dz v with
 |.ok a=>.ok (.pointer (some ⟨a.block,a.off+n,none⟩)) h
 |.no=>.no
theorem AH{n:Nat}:AF n x F e h=Us n (x e) h:=NU
theorem AO{n b off:Nat}:Us n (.pointer (some ⟨b,off,none⟩)) h=.ok (.pointer (some ⟨b,off+n,none⟩)) h:=rfl
def NS(n es:Nat)(p i:IN)(h:Hp):R:=MQ n es (Dz p) (DS i) h
theorem DT{n es:Nat}:Cm n es x y F e h=NS n es (x e) (y e) h:=rfl
theorem VH{n es b off i:Nat}(hi:i<n):MQ n es (.ok ⟨b,off,none⟩) (.ok i) h=.ok (.pointer (some ⟨b,off+i*es,none⟩)) h:=by
 show wQ (motive:=fun _=>R) .no (OM ⟨b,off,none⟩ (ur i es) h) (uz i n)=_;rw[Ba.2 hi];exact Am _ _
theorem VK{n es b off i:Nat}{k:tw}(hi:i<n):NS n es (.pointer (some ⟨b,off,none⟩)) (.int k (i:Int)) h=.ok (.pointer (some ⟨b,off+i*es,none⟩)) h:=VH hi
def ACN(es:Nat)(s i:IN)(h:Hp):R:=match s with
 |.slice (some a) n _=>MQ n es (.ok a) (DS i) h
 |_=>.no
theorem BA{es:Nat}:CB es x y F e h=ACN es (x e) (y e) h:=rfl
theorem Ch{n c es b off i:Nat}{k:tw}(hi:i<n):ACN es (.slice (some ⟨b,off,none⟩) n c) (.int k (i:Int)) h=.ok (.pointer (some ⟨b,off+i*es,none⟩)) h:=VH hi
def AB2(v:IN)(h:Hp):R:=match v with
 |.slice _ n _=>.ok (.int .i64 (.ofNat n)) h
 |.chan (some _)=>.ok (.int .i64 (.ofNat 0)) h
 |_=>.no
theorem AX:BJ x F e h=AB2 (x e) h:=rfl
theorem EC{o:Option yZ}{n c:Nat}:AB2 (.slice o n c) h=.ok (.int .i64 (n:Int)) h:=rfl
end
end
noncomputable section
open Go
section
variable {F:ABZ}{e:Env}{h h':Hp}{x y:O}
def ZM:X->Bool
 |.norm _ _=>false
 |.no=>false
 |_=>true
theorem Qo{body:C}{I:Nat->Env->Hp->Prop}{Q:X->Prop}(N:Nat)
  (step:∀ i e h,I i e h->(i<N/\∃ e' h',body F e h=.norm e' h'/\I (i+1) e' h')\/(ZM (body F e h)=true/\Q (body F e h))):
  ∀ n i e h,N - i<n->I i e h->Q (iter body n F e h)
 |0,i,e,h,hn,_=>absurd hn (Nat.not_lt_zero _)
 |n+1,i,e,h,hn,hi=>by
  unfold iter;rcases step i e h hi with ⟨h1,e',h',h2,h3⟩|⟨h1,h2⟩
  ·rw[h2]
   exact Qo N step n (i+1) e' h' (by omega) h3
  ·cases hb:body F e h with
   |norm e' h'=>rw[hb]at h1;cases h1
   |no=>rw[hb]at h1;cases h1
   |exit i e' h'=>rw[hb]at h2;exact h2
   |ret e' h'=>rw[hb]at h2;exact h2
theorem Bb{body:C}(I:Nat->Env->Hp->Prop)(Q:X->Prop)(N:Nat)(hN:N<8796093022208)
  (step:∀ i e h,I i e h->(i<N/\∃ e' h',body F e h=.norm e' h'/\I (i+1) e' h')\/(ZM (body F e h)=true/\Q (body F e h)))(h0:I 0 e h):Q (A4 body F e h):=
 Qo N step rounds 0 e h (by show N - 0<8796093022208;omega) h0
theorem Bc{n:Nat}(h:n<=9223372036854775807):wC.wrap (n:Int)=n:=Hv h
theorem cJ{n:Int}(h0:0<=n)(h:n<=9223372036854775807):wC.wrap n=n:=by
 obtain⟨m,rfl⟩:=Int.eq_ofNat_of_zero_le h0;exact Hv (by omega)
theorem DG{n:Nat}(h:n<=18446744073709551615):IntKind.u64.wrap (n:Int)=n:=Ds .u64 n h
theorem G9(n:Nat):AAw.wrap (n:Int)=((n % 256:Nat):Int):=by
 have:AAw.wrap (n:Int)=(n:Int) % 256:=rfl;rw[this];omega
def bv(n:Nat):IN:=.int .u8 (n:Int)
theorem Lu:∀ l:List Nat,Et (l.map bv)=some (l.map wa)
 |[]=>rfl
 |n::l=>by
  show(match Et (l.map bv)with|some bs=>ABu n fun n=>some (wa n::bs)|none=>none)=_;rw[Lu l];exact Am _ _
theorem DB:∀ l:List Nat,BX (l.map bv)=true
 |[]=>rfl
 |n::l=>DB l
def Hp.Bytes(h:Hp)(v:IN)(l:List Nat):Prop:=(v=.slice none 0 0/\l=[])\/∃ b off c el L,v=.slice (some ⟨b,off,none⟩) l.length c/\h.Row b el L/\off+l.length<=L.length/\(L.drop off).take l.length=l.map bv
theorem Hp.Bytes.src{v:IN}{l:List Nat}(b:h.Bytes v l){n:Nat}(hn:n=l.length)(k:List IN->R):BI h 1 v n k=k (l.map bv):=by
 subst hn;rcases b with ⟨h1,h2⟩|⟨b,off,c,el,L,h1,h2,h3,h4⟩
 ·rw[h1,h2];rfl
 ·rw[h1,h2.src h3,h4]
theorem Hp.Bytes.shape{v:IN}{l:List Nat}(b:h.Bytes v l):∃ a c,v=.slice a l.length c:=by
 rcases b with ⟨h1,h2⟩|⟨b,off,c,el,L,h1,h2,h3,h4⟩
 ·exact⟨none,0,by rw[h1,h2];rfl⟩
 ·exact⟨_,_,h1⟩
def sL(v:IN)(h:Hp):R:=match v with
 |.slice a n c=>BI h 1 (.slice a n c) n fun cs=>match Et cs with
  |some bs=>.ok (.string ⟨⟨bs⟩⟩) h
  |none=>.no
 |.chan r=>match r with
  |some _=>.ok (.string ⟨⟨[]⟩⟩) h
  |none=>.no
 |_=>.no
theorem Kg:Fe x F e h=sL (x e) h:=rfl
theorem Hp.Bytes.str{v:IN}{l:List Nat}(b:h.Bytes v l):sL v h=.ok (.string ⟨⟨l.map wa⟩⟩) h:=by
 obtain⟨a,c,rfl⟩:=b.shape;show BI h 1 (.slice a l.length c) l.length (fun cs=>match Et cs with
  |some bs=>.ok (.string ⟨⟨bs⟩⟩) h
  |none=>.no)=_
 rw[b.src rfl,Lu]
def qx(f:List UInt8->List UInt8->Bool)(a b:IN)(h:Hp):R:=be f a b h
theorem PT{f:List UInt8->List UInt8->Bool}:Jj f x y F e h=qx f (x e) (y e) h:=rfl
theorem Ov{f:List UInt8->List UInt8->Bool}{a b:List UInt8}:qx f (.string ⟨⟨a⟩⟩) (.string ⟨⟨b⟩⟩) h=.ok (.bool (f a b)) h:=Ff
theorem WJ{v:IN}{l:List Nat}(b:h.Bytes v l):lenV v=.ok l.length:=by
 obtain⟨a,c,rfl⟩:=b.shape;rfl
theorem Px{eb en b c:Nat}{l:List IN}{v:IN}{m:List Nat}(W:h.Wf)(r:h.Row b 0 l)(hx:h.Bytes v m)(hc:c<l.length+m.length)(hm:(l.length+m.length+1)*(eb+1)<=1099511627776):
  ∃ h',DH 1 eb en (.slice (some ⟨b,0,none⟩) l.length c) v h=.ok (.slice (some ⟨h.next,0,none⟩) (l.length+m.length) (l.length+m.length)) h'/\h.Ext h'/\h'.Row h.next (en+1) (l++m.map bv)/\h'.next=h.next+1:=by
 obtain⟨cc,hcc,hl⟩:=r.rowOf;obtain⟨t,h2,h3⟩:=Dy (m.map bv) cc l l.length hl (.inr rfl);have h3:t.Is (l++m.map bv):=by
  have e:l.drop (l.length+(m.map bv).length)=[]:=vC (by omega);rw[e]at h3
  simpa using h3
 have hlen:(l++m.map bv).length=l.length+m.length:=by simp
 refine⟨h.push (.cells t (l.length+m.length) (en+1)),?_,(Hp.Ext.refl W).push _,⟨t,by rw[W.ABx,if_pos rfl,hlen],h3⟩,rfl⟩;unfold DH;simp only[WJ hx,hx.src rfl,Am,vH];have e1:tz (l.length+m.length) c=false:=by
  cases e:tz (l.length+m.length) c
  ·rfl
  ·have:=Ar.1 e;omega
 have e2:tz (ur (tk (l.length+m.length)) (tk eb)) It=true:=Ar.2 (Gv hm);rw[e1];simp only[e2,cond_true,DB];unfold GU;have e3:tm l.length (ur l.length 1)=true:=A1.2 (wD _).symm;simp only[hcc,e3,h2];unfold Ee;simp only[hcc,Bi,OF,vH];unfold CT;rw[Am,Cz W];rfl
theorem Py{eb en b n c el:Nat}{l:List IN}{v:IN}(W:h.Wf)(ABj:256<=b)(r:h.Row b el l)(hx:h.Bytes v [])(hc:n<=c)(hn:n<=l.length):
  DH 1 eb en (.slice (some ⟨b,0,none⟩) n c) v h=.ok (.slice (some ⟨b,0,none⟩) n c) (h.wr b n []):=by
 unfold DH;simp only[WJ hx,hx.src rfl,Am,vH];have e1:tz n c=true:=Ar.2 hc;have e0:n+([]:List Nat).length=n:=rfl;simp only[e0,e1,List.map_nil];have e2:Eh ⟨b,0,none⟩ (ur n 1)=⟨b,n,none⟩:=by
  rw[show ur n 1=n from wD n];cases n with
  |zero=>rfl
  |succ n=>show(⟨b,vO 0 (tk n),none⟩:yZ)=_;rw[vH,sh]
 rw[e2,r.store W ABj (by simpa using hn) rfl]
def DN(es eb en:Nat)(s v:IN)(h:Hp):R:=DH es eb en s v h
theorem BZ{es eb en:Nat}:Bk es eb en x y F e h=DN es eb en (x e) (y e) h:=rfl
theorem Bg{cs:List IN}{k:List IN->R}:Ed cs e k []=k cs:=DD _ _
theorem Ad{cs:List IN}{k:List IN->R}{off size:Nat}{rest:List (Nat×Nat×O)}(hk:known (x e)=true:=by rfl):Ed cs e k ((off,size,x)::rest)=(if(cellsOf (x e)).length=size then(if off+size<=cs.length then Ed (over cs off (cellsOf (x e))) e k rest else .no)else .no):=by
 have e0:Ed cs e k ((off,size,x)::rest)=(bif known (x e)then(bif tm (Di (cellsOf (x e))) size then(bif tz (vO off size) (Di cs)then Ed (lay cs off (cellsOf (x e))) e k rest else .no)else .no)else .no):=BQ _ _;have e1:Ed cs e k ((off,size,x)::rest)=(bif tm (Di (cellsOf (x e))) size then(bif tz (vO off size) (Di cs)then Ed (lay cs off (cellsOf (x e))) e k rest else .no)else .no):=by rw[e0,hk];rfl
 rw[e1,Bi,Bi,ACG];by_cases h1:(cellsOf (x e)).length=size
 ·rw[if_pos h1,A1.2 h1]
  by_cases h2:off+size<=cs.length
  ·rw[if_pos h2,show tz (vO off size) cs.length=true from Ar.2 h2];rfl
  ·rw[if_neg h2]
   have:tz (vO off size) cs.length=false:=by
    cases e:tz (vO off size) cs.length
    ·rfl
    ·exact absurd (Ar.1 e) h2
   rw[this];rfl
 ·rw[if_neg h1]
  have:tm (cellsOf (x e)).length size=false:=by
   cases e:tm (cellsOf (x e)).length size
   ·rfl
   ·exact absurd (A1.1 e) h1
  rw[this];rfl
theorem CZ{k:tw}{n:Int}:cellsOf (.int k n)=[.int k n]:=rfl
theorem EJ{l vs:List IN}(hl:l.length=vs.length):over l 0 vs=vs:=by
 unfold over;rw[List.take_zero,uN,vC (by omega),uH]
theorem Cb{zero:List IN}{ps:List (Nat×Nat×O)}:BH zero ps F e h=Ed zero e (fun cs=>.ok (.agg ⟨cs⟩) h) ps:=rfl
theorem Bq{n:Nat}{zero:List IN}{ps:List (Nat×Nat×O)}:Ab n zero ps F e h=Ed zero e (fun cs=>newRow h 0 cs (GK n n)) ps:=rfl
def Hp.marked(h:Hp):Hp:={next:=h.next,low:=h.low,high:=h.high,mark:=h.next,bl:=h.bl}
def Hp.quiet(h:Hp):Hp:={next:=h.next,low:=h.next,high:=0,mark:=h.mark,bl:=h.bl}
def Hp.back(h h':Hp):Hp:={next:=h'.next,low:=CC h.low h'.low,high:=C5 h.high h'.high,mark:=h.mark,bl:=h'.bl}
theorem Az{k:C}:B2 k F e h=k F e h.marked:=rfl
theorem Hp.Wf.marked(W:h.Wf):h.marked.Wf:=⟨W.big,W.has,W.fresh⟩
theorem Hp.Wf.quiet(W:h.Wf):h.quiet.Wf:=⟨W.big,W.has,W.fresh⟩
theorem Hp.Ext.marked{h0:Hp}(x:h0.Ext h):h0.Ext h.marked:=⟨x.next,x.get,x.low,x.wf.marked⟩
theorem Hp.Row.same{b el:Nat}{l:List IN}(r:h.Row b el l)(hb:h'.bl=h.bl):h'.Row b el l:=by
 obtain⟨c,hc,hl⟩:=r;exact⟨c,by rw[hb];exact hc,hl⟩
theorem Hp.Ext.back(x:h.quiet.Ext h'):h.Ext (h.back h') where
 next:=x.next
 get:=x.get
 low:=by
  show _<=CC h.low h'.low;rw[BW];have h1:min h.next h.next<=h'.low:=x.low;omega
 wf:=⟨x.wf.big,x.wf.has,x.wf.fresh⟩
theorem Cp{f:OpF}{m:Qm}{v:IN}(hf:f F e h.quiet=.ok v h')(x:h.quiet.Ext h')(hm:h.mark<=h.next):Aa m f F e h=.ok v (h.back h'):=by
 have h1:min h.next h.next<=h'.low:=x.low;have hq:qOk m h h'.low=true:=by
  cases m with
  |ABn=>exact Ar.2 (by omega)
  |weak=>exact Ar.2 (by omega)
  |free=>rfl
 show(match f F e h.quiet with|.ok v h'=>bif qOk m h h'.low then Df h v h' else .no|.no=>.no)=_;rw[hf];simp only[hq,cond_true];unfold Df;simp only[Am];rfl
theorem BF{f:OpF}{v:IN}(hf:f F e h.quiet=.ok v h'):Aa .free f F e h=.ok v (h.back h'):=by
 show(match f F e h.quiet with|.ok v h'=>bif qOk .free h h'.low then Df h v h' else .no|.no=>.no)=_;rw[hf];show Df h v h'=_;unfold Df;simp only[Am];rfl
def I5(v:IN)(k:C)(F:ABZ)(e:Env)(h:Hp):X:=match AB4 v with
 |.ok b=>bif uz b h.mark then k F e h else .no
 |.no=>k F e h
theorem EG{k:C}:EQ x k F e h=I5 (x e) k F e h:=rfl
theorem Dm{b off:Nat}{k:C}(hb:b<h.mark):I5 (.pointer (some ⟨b,off,none⟩)) k F e h=k F e h:=by
 show(bif uz b h.mark then k F e h else .no)=_;rw[Ba.2 hb];rfl
theorem DU{k:C}:Cf x [] k F e h=k F e h:=by
 unfold Cf;cases AB4 (x e)<;>rfl
theorem Hp.Ext.quiet{h0:Hp}(x:h0.Ext h):h0.Ext h.quiet:=⟨x.next,x.get,by show _<=h.next;have:=x.next;omega,x.wf.quiet⟩
theorem Hp.Ext.ACe{h0:Hp}(x:h0.Ext h)(y:h0.Ext h'):h0.Ext (h.back h') where
 next:=y.next
 get:=y.get
 low:=by
  show _<=CC h.low h'.low;rw[BW];have:=x.low;have:=y.low;omega
 wf:=⟨y.wf.big,y.wf.has,y.wf.fresh⟩
end
end
noncomputable section
open Go Go.RowKit Go.WideShapes Go.ChangeShapes
def sliceAt(b:Nat)(a:yZ)(n c:Nat):Phi:=fun i=>if i=b then some {blk:=a.block,off:=a.off,sz:=c,room:=c,es:=1,inp:=true}else none
theorem Xq{P:vA}{W:uS}{base t e:Nat}{v:IN}(ht:P.underlying t=some (.slice e))(h:wJ P W .any base t v):
  v=.slice none 0 0\/∃ a n c,v=.slice (some a) n c/\n<=c/\a.spot=none/\a.block<W.heap.size:=by
 unfold wJ at h;rw[ht]at h;simp only at h;unfold ABF at h;rw[ht]at h;have h:Cell.ok P W .any base t v:=by cases v<;>exact h
 unfold Cell.ok at h;rw[ht]at h;split at h<;>first|(exact h.elim;done)|skip
 all_goals (rename_i e1 _;cases e1)
 ·exact .inl rfl
 ·obtain⟨h1,_,h2⟩:=h
  obtain⟨_,h3,row,cells,h4,_⟩:=h2;refine .inr ⟨_,_,_,rfl,h1,h3,?_⟩;unfold World.shape? at h4;split at h4
  ·rename_i hb;exact(vz.1 hb).1
  all_goals first|(cases h4;done)|(rename_i hb;exact(vz.1 hb).1)
theorem Tj{P:vA}{W:uS}{base t e:Nat}{v:IN}(ht:P.underlying t=some (.slice e))(h:ABF P W .any base t v):
  v=.slice none 0 0\/∃ a n c,v=.slice (some a) n c/\n<=c/\a.spot=none/\a.block<W.heap.size:=
 Xq (base:=base) ht (by unfold wJ;rw[ht];exact h)
end
noncomputable section
open Go Go.RowKit Go.WideShapes Go.ChangeShapes
theorem hJ{P:vA}{ty:TTy}{bs:FT}(hC:∀ n,Dc P ty (call bs n)){n f:Nat}{xs args:List IN}{φ:Phi}{w:uS}{h0 h':Hp}(hr:call bs n f xs h0=.ok (.bool true) h')(x:h0.Ext h')(hl:h0.low=h0.next)
  (ha:ABv φ xs args)(H:ABh ty φ nil h0 w):Calls P f ⟨args⟩ w fun e w'=>e=.returned (.bool true)/\Below w.heap.size w w':=by
 obtain⟨_,hc⟩:=hC n f xs h0 _ h' hr;refine(hc φ w args ha H).mono fun e w' ⟨v',ψ,he,hv,_,ev⟩=>?_
 have:=hv.ACT;subst this;refine⟨he,⟨ev.os,ev.tape,ev.output,ev.size,fun k hk=>ev.frame k hk fun i p hp hn h1 _ _=>?_⟩⟩;have h2:=(H.dom i p hp).1;have h3:=x.low;omega
theorem Nu:∀ (n i:Nat),i+1<2 ^ n->(Fb n).has i
 |0,i,h=>by rw[Nat.pow_zero]at h;omega
 |n+1,0,_=>trivial
 |n+1,k+1,h=>by
  show(BT.nd .dead (Fb n) (Fb n)).has (k+1);rw[BT.ABk];have h1:k/2+1<2 ^ n:=by
   have:2 ^ (n+1)=2*2 ^ n:=by rw[ABC,wP]
   omega
  split<;>exact Nu n _ h1
def K3(L:List IN):Blk:=.cells (ofL L) L.length 0
def inB:List (List IN)->Nat->BT->BT
 |[],_,t=>t
 |L::Ls,i,t=>inB Ls (i+1) (t.lay i (K3 L))
theorem PB:∀ (Ls:List (List IN)) (i:Nat) (t:BT),(∀ j,j<256->t.has j)->i+Ls.length<=256->
  (∀ j,j<256->(inB Ls i t).has j)/\(∀ k L,Ls[k]? =some L->(inB Ls i t).get (i+k)=K3 L)/\(∀ j,j<i\/i+Ls.length<=j->(inB Ls i t).get j=t.get j)
 |[],i,t,ht,_=>⟨ht,(fun k L h=>by cases h),fun _ _=>rfl⟩
 |L::Ls,i,t,ht,hl=>by
  have hl':i+1+Ls.length<=256:=by simp only[tZ]at hl;omega
  have hi:∀ j,j<i->t.has j:=fun j hj=>ht j (by omega)
  obtain⟨a,b,c⟩:=PB Ls (i+1) (t.lay i (K3 L)) (fun j hj=>BT.ACd hi j (.inr (ht j hj))) hl';refine⟨a,fun k M h=>?_,fun j hj=>?_⟩
  ·cases k with
   |zero=>
    obtain rfl:L=M:=Option.some.inj h;show(inB Ls (i+1) (t.lay i (K3 L))).get i=_;rw[c i (.inl (Nat.lt_succ_self i)),BT.ACW hi,if_pos rfl]
   |succ k=>
    have:=b k M h;rw[show i+1+k=i+(k+1)by omega]at this;exact this
  ·show(inB Ls (i+1) (t.lay i (K3 L))).get j=_
   simp only[tZ]at hj;rw[c j (by omega),BT.ACW hi,if_neg (by omega)]
def inH(Ls:List (List IN)):Hp:={next:=256,low:=256,high:=0,mark:=256,bl:=inB Ls 0 (Fb 9)}
theorem MM(j:Nat)(hj:j<256):(Fb 9).has j:=Nu 9 j (by omega)
theorem PC{Ls:List (List IN)}(hl:Ls.length<=256){i:Nat}{L:List IN}(h:Ls[i]? =some L):(inH Ls).bl.get i=K3 L:=by
 have:=(PB Ls 0 (Fb 9) MM (by omega)).2.1 i L h
 rwa [sh]at this
theorem Ze{Ls:List (List IN)}(hl:Ls.length<=256):(inH Ls).Wf where
 big:=If _
 has:=(PB Ls 0 (Fb 9) MM (by omega)).1
 fresh:=fun i hi=>by
  have hi:256<=i:=hi;have:=(PB Ls 0 (Fb 9) MM (by omega)).2.2 i (.inr (by omega));show(inB Ls 0 (Fb 9)).get i=_;rw[this];exact KQ 9 i
theorem PD{Ls:List (List IN)}(hl:Ls.length<=256){i:Nat}{L:List IN}(h:Ls[i]? =some L):(inH Ls).Row i 0 L:=⟨ofL L,PC hl h,(Hj L).2⟩
def Ks(W:uS)(a:yZ)(L:List IN):Prop:=∃ cs t fr,W.heap[a.block]? =some (.cells cs t fr)/\(∀ j,j<L.length->cs[a.off+j]? =some (L.getD j ABd))/\∀ j,j<L.length->¬ (fr.1<=a.off+j/\a.off+j<fr.2)
def PZ(a:yZ)(c:Nat):Pl:={blk:=a.block,off:=if c=0 then 0 else a.off,sz:=c,room:=c,es:=1,inp:=true}
def MR(ps:List (Option Pl)):Phi:=fun i=>(ps[i]?).getD none
theorem aq{W:uS}{ty:TTy}{φ:Phi}{a:yZ}{L L':List IN}(h:Ks W a L')(hL:ABv φ L L'):ACY ty φ (PZ a L.length) (K3 L) W.heap[a.block]?:=by
 obtain⟨cs,t,fr,hb,hc,hf⟩:=h;have hlen:L'.length=L.length:=hL.length;rw[hlen]at hc hf;rw[hb];refine .cells {kind:=⟨rfl,.inl ⟨rfl,rfl,rfl,.inr rfl⟩⟩,room:=If _,fits:=?_,loose:=.inr ⟨rfl,rfl,fun o h1 h2=>?_⟩,cell:=fun j hj=>?_}
 ·show(if L.length=0 then 0 else a.off)+L.length<=cs.size
  rcases ug L.length with h0|h0
  ·rw[if_pos h0,h0];exact Nat.zero_le _
  ·rw[if_neg (by omega)]
   have:=(vz.1 (hc (L.length - 1) (by omega))).1;omega
 ·have h1:(if L.length=0 then 0 else a.off)<=o:=h1
  have h2:o<(if L.length=0 then 0 else a.off)+L.length:=h2;rcases ug L.length with h0|h0
  ·rw[if_pos h0]at h2;omega
  ·rw[if_neg (by omega)]at h1 h2
   have:=hf (o - a.off) (by omega);have e:a.off+(o - a.off)=o:=by omega
   rw[e]at this;exact this
 ·have h1:=hc j hj
  obtain⟨v',hv1,hv2⟩:=hL.get j (L.getD j ABd) (by rw[tY,tW hj];rfl);refine⟨v',?_,?_⟩
  ·show cs[(if L.length=0 then 0 else a.off)+j]? =_
   rw[if_neg (by omega),h1,tY,hv1];rfl
  ·rw[((Hj L).2 j hj).2];exact hv2
theorem Ks.lt{W:uS}{a:yZ}{L:List IN}(h:Ks W a L):a.block<W.heap.size:=by
 obtain⟨cs,t,fr,hb,_⟩:=h;exact(vz.1 hb).1
theorem oq{W:uS}{ty:TTy}{ps:List (Option Pl)}{Ls:List (List IN)}(ABj:Ls.length<=256)
  (h:∀ i p,MR ps i=some p->∃ a L,p=PZ a L.length/\Ls[i]? =some L/\a.block<W.heap.size/\ACY ty (MR ps) (PZ a L.length) (K3 L) W.heap[a.block]?):ABh ty (MR ps) nil (inH Ls) W where
 dom:=fun i p e=>by
  obtain⟨a,L,rfl,h1,h2,_⟩:=h i p e;have h3:=(uK.1 h1).1;exact⟨by show i<256;omega,h2⟩
 inj:=fun i j p q h1 h2 _ _ _ _ hor=>by
  obtain⟨a,L,rfl,_⟩:=h i p h1;obtain⟨b,M,rfl,_⟩:=h j q h2;rcases hor with h3|h3<;>cases h3
 row:=fun i p e _=>by
  obtain⟨a,L,rfl,h1,_,h3⟩:=h i p e;rw[PC ABj h1];exact h3
 fresh:=(Ze ABj).fresh
 kind:=fun i p c s e hp hc=>by
  obtain⟨a,L,rfl,h1,_,h3⟩:=h i p hp;rw[PC ABj h1]at hc;have hc:Blk.cells (ofL L) L.length 0=.cells c s e:=hc;cases hc;exact⟨rfl,.inl ⟨rfl,rfl,rfl,.inr rfl⟩⟩
 inp:=fun i p e _=>by
  obtain⟨a,L,rfl,h1,_⟩:=h i p e;have h3:=(uK.1 h1).1;omega
theorem sK{φ:Phi}{a:yZ}{n c i:Nat}(hs:a.spot=none)(hn:n<=c)(hp:φ i=some (PZ a c)):ABe φ (.slice (some ⟨i,0,none⟩) n c) (.slice (some a) n c):=by
 refine .slice hn ⟨rfl,hs,_,hp,rfl,?_⟩;rcases ug c with h|h
 ·exact .inr ⟨h,.inl h⟩
 ·refine .inl ⟨h,?_,.inl rfl⟩
  show a.off=(if c=0 then 0 else a.off)+0;rw[if_neg (by omega),Nat.add_zero]
def ints(k:tw)(Z:List Int):List IN:=Z.map (.int k)
def sk(k:tw)(W:uS)(v:IN)(zs:List Int):Prop:=(v=.slice none 0 0/\zs=[])\/∃ (a:yZ) (n c:Nat) (Z:List Int),v=.slice (some a) n c/\n<=c/\a.spot=none/\Z.length=c/\zs=Z.take n/\Ks W a (ints k Z)
def Hp.ABy(h:Hp)(v:IN)(xs:List IN):Prop:=(v=.slice none 0 0/\xs=[])\/∃ b off c el L,v=.slice (some ⟨b,off,none⟩) xs.length c/\h.Row b el L/\off+xs.length<=L.length/\(L.drop off).take xs.length=xs
def X4(W:uS)(L:List IN)(q:Option Pl):Prop:=q=none\/∃ a,q=some (PZ a L.length)/\Ks W a L
end
noncomputable section
open Go Go.RowKit Go.ChangeShapes
theorem sT:type_of% (tu @Hi (tu @Oi (tu @HQ (tu @YU (tu @HP (tu @A9 (tu @An (tu @Lw (tu @UO (tu @QC (tu @Hl (tu @ZD (tu @Ij (tu @HS (tu @A3 (tu @OQ (tu @Cq (tu @Bt (tu @CE (tu @A8 (tu @EY (tu @E6 @AG)))))))))))))))))))))):=tu @Hi (tu @Oi (tu @HQ (tu @YU (tu @HP (tu @A9 (tu @An (tu @Lw (tu @UO (tu @QC (tu @Hl (tu @ZD (tu @Ij (tu @HS (tu @A3 (tu @OQ (tu @Cq (tu @Bt (tu @CE (tu @A8 (tu @EY (tu @E6 @AG)))))))))))))))))))))
theorem iN:type_of% (tu @Jr (tu @LC (tu @AAB @sh))):=tu @Jr (tu @LC (tu @AAB @sh))
theorem cA0:type_of% (tu @BP (tu @AU @A5)):=(tu @BP (tu @AU @A5))
theorem lV0:type_of% (tu @Ay @QW):=(tu @Ay @QW)
theorem gD:type_of% (tu @YV (tu @N1 (tu @N0 (tu @Nz (tu @Ny (tu @K1 (tu @Ry (tu @RB (tu @Mt @K8))))))))):=tu @YV (tu @N1 (tu @N0 (tu @Nz (tu @Ny (tu @K1 (tu @Ry (tu @RB (tu @Mt @K8))))))))
section
variable {F:ABZ}{e:Env}{h h':Hp}{x y:O}
theorem Hp.ABy.ext{v:IN}{l:List IN}(b:h.ABy v l)(W:h.Wf)(x:h.Ext h'):h'.ABy v l:=by
 rcases b with h1|⟨b,off,c,el,L,h1,h2,h3⟩
 ·exact .inl h1
 ·exact .inr ⟨b,off,c,el,L,h1,h2.ext W x,h3⟩
theorem Hp.ABy.same{v:IN}{l:List IN}(b:h.ABy v l)(hb:h'.bl=h.bl):h'.ABy v l:=by
 rcases b with h1|⟨b,off,c,el,L,h1,h2,h3⟩
 ·exact .inl h1
 ·exact .inr ⟨b,off,c,el,L,h1,h2.same hb,h3⟩
theorem Hp.ABy.src{v:IN}{l:List IN}(b:h.ABy v l){n:Nat}(hn:n=l.length)(k:List IN->R):BI h 1 v n k=k l:=by
 subst hn;rcases b with ⟨h1,h2⟩|⟨b,off,c,el,L,h1,h2,h3,h4⟩
 ·rw[h1,h2];rfl
 ·rw[h1,h2.src h3,h4]
theorem Hp.ABy.shape{v:IN}{l:List IN}(b:h.ABy v l):∃ a c,v=.slice a l.length c:=by
 rcases b with ⟨h1,h2⟩|⟨b,off,c,el,L,h1,h2,h3,h4⟩
 ·exact⟨none,0,by rw[h1,h2];rfl⟩
 ·exact⟨_,_,h1⟩
theorem Hp.ABy.len{v:IN}{l:List IN}(b:h.ABy v l):AB2 v h=.ok (.int .i64 (l.length:Int)) h:=by
 obtain⟨a,c,rfl⟩:=b.shape;rfl
theorem Hp.ABy.lenV{v:IN}{l:List IN}(b:h.ABy v l):lenV v=.ok l.length:=by
 obtain⟨a,c,rfl⟩:=b.shape;rfl
theorem Hp.ABy.at{v:IN}{l:List IN}(b:h.ABy v l){i:Nat}(hi:i<l.length):∃ a,ACN 1 v (.int .i64 (i:Int)) h=.ok (.pointer (some a)) h/\IY (.pointer (some a)) h=.ok (l.getD i ABd) h:=by
 rcases b with ⟨h1,h2⟩|⟨b,off,c,el,L,h1,h2,h3,h4⟩
 ·rw[h2]at hi;cases hi
 ·refine⟨⟨b,off+i*1,none⟩,by rw[h1];exact Ch hi,?_⟩
  rw[AQ,h2.ABa (by omega)];have:=congrArg (fun m=>m[i]?) h4;simp only[xL,yN,if_pos hi]at this;rw[tY,wD,this,tY]
theorem Hp.ABy.bytes{v:IN}{l:List Nat}(b:h.ABy v (l.map bv)):h.Bytes v l:=by
 rcases b with ⟨h1,h2⟩|⟨b,off,c,el,L,h1,h2,h3,h4⟩
 ·exact .inl ⟨h1,by cases l with
   |nil=>rfl
   |cons a l=>cases h2⟩
 ·rw[OF]at h1 h3 h4
  exact .inr ⟨b,off,c,el,L,h1,h2,h3,h4⟩
theorem Hp.ABy.cut{v:IN}{l:List IN}(b:h.ABy v l){n:Nat}(hn:n<l.length):∃ o c,v=.slice (some o) l.length c/\h.ABy (.slice (some o) n c) (l.take n):=by
 rcases b with ⟨h1,h2⟩|⟨b,off,c,el,L,h1,h2,h3,h4⟩
 ·rw[h2]at hn;cases hn
 ·have hl:(l.take n).length=n:=by rw[uL];omega
  refine⟨⟨b,off,none⟩,c,h1,.inr ⟨b,off,c,el,L,by rw[hl],h2,by omega,?_⟩⟩;rw[hl,<- h4,List.take_take,Nat.min_eq_left (by omega)]
def ABw(v:IN)(b:Nat):Prop:=∃ off n c,v=.slice (some ⟨b,off,none⟩) n c
theorem JD{b:Nat}:¬ ABw (.slice none 0 0) b:=fun⟨_,_,_,h⟩=>by cases h
theorem LS{b b' n c:Nat}(h:b'≠b):¬ ABw (.slice (some ⟨b,0,none⟩) n c) b':=fun⟨_,_,_,e⟩=>by
 injection e with e _ _
 injection e with e
 injection e with e _ _
 exact h e.symm
def Hp.Own(h:Hp)(k en:Nat)(v:IN)(xs:List IN):Prop:=(v=.slice none 0 0/\xs=[])\/∃ b,v=.slice (some ⟨b,0,none⟩) xs.length xs.length/\h.Row b (en+1) xs/\k<=b/\256<=b
theorem Hp.Own.vals{k en:Nat}{v:IN}{xs:List IN}(o:h.Own k en v xs):h.ABy v xs:=by
 rcases o with h1|⟨b,h1,h2,_⟩
 ·exact .inl h1
 ·exact .inr ⟨b,0,_,_,xs,h1,h2,by omega,by rw[List.drop_zero,List.take_length]⟩
theorem Hp.Own.le{k k' en:Nat}{v:IN}{xs:List IN}(o:h.Own k en v xs)(hk:k'<=k):h.Own k' en v xs:=by
 rcases o with h1|⟨b,h1,h2,h3,h4⟩
 ·exact .inl h1
 ·exact .inr ⟨b,h1,h2,uO hk h3,h4⟩
theorem Hp.Own.keep{k en:Nat}{v:IN}{xs:List IN}(o:h.Own k en v xs)(hk:∀ b el L,ABw v b->h.Row b el L->h'.Row b el L):h'.Own k en v xs:=by
 rcases o with h1|⟨b,h1,h2,h3,h4⟩
 ·exact .inl h1
 ·exact .inr ⟨b,h1,hk b _ _ ⟨0,_,_,h1⟩ h2,h3,h4⟩
theorem Hp.Own.ext{k en:Nat}{v:IN}{xs:List IN}(o:h.Own k en v xs)(W:h.Wf)(x:h.Ext h'):h'.Own k en v xs:=o.keep fun _ _ _ _ r=>r.ext W x
theorem Hp.Own.same{k en:Nat}{v:IN}{xs:List IN}(o:h.Own k en v xs)(hb:h'.bl=h.bl):h'.Own k en v xs:=o.keep fun _ _ _ _ r=>r.same hb
theorem Er{h0:Hp}{eb en k:Nat}{v u:IN}{xs ys:List IN}(x0:h0.Ext h)(hk:h0.next<=k)(hk2:k<=h.next)(o:h.Own k en v xs)(y:h.ABy u ys)(hy:0<ys.length)(ha:BX ys=true)(hm:(xs.length+ys.length+1)*(eb+1)<=1099511627776):
  ∃ h' v',DN 1 eb en v u h=.ok v' h'/\h0.Ext h'/\h'.Own k en v' (xs++ys)/\h'.next=h.next+1/\∀ b el L,¬ ABw v b->h.Row b el L->h'.Row b el L/\¬ ABw v' b:=by
 have W:=x0.wf;rcases o with ⟨rfl,rfl⟩|⟨b,rfl,r,hb,hb2⟩
 ·obtain⟨t1,t2⟩:=Hj ys
  refine⟨h.push (.cells (ofL ys) ys.length (en+1)),.slice (some ⟨h.next,0,none⟩) ys.length ys.length,?_,x0.push _,.inr ⟨h.next,rfl,⟨ofL ys,by rw[W.ABx,if_pos rfl];rfl,t2⟩,hk2,W.big⟩,rfl,fun b' el' L' _ r'=>⟨r'.push W _,LS (by have:=r'.lt W;omega)⟩⟩;unfold DN DH;simp only[y.lenV,y.src rfl,Am,vH,sh];have e1:tz ys.length 0=false:=by
   cases e:tz ys.length 0
   ·rfl
   ·have:=Ar.1 e;omega
  have e2:tz (ur (tk ys.length) (tk eb)) It=true:=Ar.2 (Gv (by
   have:=hm;simp only[uR,sh]at this;exact this))
  rw[e1];simp only[e2,cond_true,ha];unfold GU BI JY;simp only[uN,t1];unfold Ee;simp only[Bi];unfold CT;rw[Am,Cz W];rfl
 ·obtain⟨cc,hcc,hl⟩:=r.rowOf
  obtain⟨t,h2,h3⟩:=Dy ys cc xs xs.length hl (.inr rfl);have h3:t.Is (xs++ys):=by
   have e:xs.drop (xs.length+ys.length)=[]:=vC (by omega);rw[e]at h3
   simpa using h3
  have hlen:(xs++ys).length=xs.length+ys.length:=No;have hlt:=r.lt W;have W1:(h.put b .dead).Wf:=W.put hlt _;have x1:h0.Ext (h.put b .dead):=x0.put (by omega) hlt _;refine⟨(h.put b .dead).push (.cells t (xs.length+ys.length) (en+1)),.slice (some ⟨h.next,0,none⟩) (xs.length+ys.length) (xs.length+ys.length),?_,x1.push _,.inr ⟨h.next,by rw[hlen],⟨t,by
   have:=W1.ABx (.cells t (xs.length+ys.length) (en+1)) h.next;rw[this,if_pos (show h.next=(h.put b .dead).next from rfl),hlen],h3⟩,hk2,W.big⟩,rfl,fun b' el' L' hne r'=>?_⟩
  ·unfold DN DH
   simp only[y.lenV,y.src rfl,Am,vH];have e1:tz (xs.length+ys.length) xs.length=false:=by
    cases e:tz (xs.length+ys.length) xs.length
    ·rfl
    ·have:=Ar.1 e;omega
   have e2:tz (ur (tk (xs.length+ys.length)) (tk eb)) It=true:=Ar.2 (Gv hm);rw[e1];simp only[e2,cond_true,ha];unfold GU;have e3:tm xs.length (ur xs.length 1)=true:=A1.2 (wD _).symm;simp only[hcc,e3,h2];unfold Ee;have e4:Kv 0 xs.length 1 xs.length=true:=by
    unfold Kv;cases xs.length with
    |zero=>rfl
    |succ n=>exact A1.2 (by show 0+(n+1)*1=n+1;omega)
   simp only[hcc,Bi,vH,vT,cond_true,e4];rw[EM W hb2 hlt];unfold CT;rw[Am,Cz W1];rfl
  ·have ADz:b'≠b:=fun e=>hne ⟨0,_,_,by rw[e]⟩
   have hb':b'<h.next:=r'.lt W;obtain⟨c',hc',hl'⟩:=r';refine⟨⟨c',?_,hl'⟩,LS (by omega)⟩;rw[W1.ABx,if_neg (by show b'≠h.next;omega),W.ACD hlt,if_neg ADz,hc']
theorem Gb(W:h.Wf){g:O}{z v:IN}(hv:g e=v)(hk:known v=true)(h1:cellsOf v=[v]):Ab 1 [z] [(0,1,g)] F e h=.ok (.slice (some ⟨h.next,0,none⟩) 1 1) (h.ABY 0 [v]):=by
 rw[Bq,Ad (hk:=by rw[hv];exact hk),hv,h1,if_pos (show [v].length=1 from rfl),if_pos (show 0+1<=[z].length from If _),Bg,CQ W];rfl
theorem Mp(W:h.Wf){v:IN}:(h.ABY 0 [v]).ABy (.slice (some ⟨h.next,0,none⟩) 1 1) [v]:=.inr ⟨h.next,0,1,0,[v],rfl,Hp.Row.new W 0 [v],by simp,rfl⟩
theorem HM(k:tw):∀ Z:List Int,BX (ints k Z)=true
 |[]=>rfl
 |z::Z=>HM k Z
theorem ge{h0:Hp}{eb en k:Nat}{v:IN}{xs:List IN}{n:Int}{kd:tw}(x0:h0.Ext h)(hk:h0.next<=k)(hk2:k<=h.next)(o:h.Own k en v xs)(hm:(xs.length+2)*(eb+1)<=1099511627776):
  ∃ h' v',DN 1 eb en v (.slice (some ⟨h.next,0,none⟩) 1 1) (h.ABY 0 [.int kd n])=.ok v' h'/\h0.Ext h'/\h'.Own k en v' (xs++[.int kd n])/\h'.next=h.next+2/\∀ b el L,¬ ABw v b->h.Row b el L->h'.Row b el L/\¬ ABw v' b:=by
 have W:=x0.wf;have x1:=x0.ABY 0 [.int kd n];have o1:(h.ABY 0 [.int kd n]).Own k en v xs:=o.ext W ((Hp.Ext.refl W).ABY _ _);obtain⟨h',v',a,b,c,d,f⟩:=Er (eb:=eb) x1 hk (ya hk2) o1 (Mp W) (by simp) rfl (by simpa using hm);exact⟨h',v',a,b,c,d,fun b' el L hb r=>f b' el L hb (r.push W _)⟩
def Ic(F:ABZ)(v:IN)(args:List IN)(h:Hp):R:=match v with
 |.func (.func g) first cap=>F g (first.toList++(args++cap.toList)) h
 |_=>.no
theorem Ck{f:O}{l:List O}:C9 f l F e h=Ic F (f e) (vals e l) h:=by
 show(match f e with|.func (.func g) first cap=>ACK (vals e l) (fun args=>F g (first.toList++(args++cap.toList)) h)|_=>.no)=_;unfold Ic;split<;>simp only[DD]
theorem DC{g:Nat}{l c args:List IN}:Ic F (.func (.func g) ⟨l⟩ ⟨c⟩) args h=F g (l++(args++c)) h:=rfl
theorem Dj{fn:Fn}{l c:List O}:EL fn l c F e h=.ok (.func fn ⟨vals e l⟩ ⟨vals e c⟩) h:=by
 show ACK (vals e l) (fun f=>ACK (vals e c) fun c=>.ok (.func fn ⟨f⟩ ⟨c⟩) h)=_;rw[DD,DD]
end
def YF(args:List IN)(h:Hp):R:=match args with
 |[]=>.ok (.bool true) h
 |_::_=>.no
def J7:Body:=⟨[.x (fun _=>YF)],cNo⟩
theorem G0{ty:TTy}{φ:Phi}{E:Nat->Prop}{h:Hp}{w w':uS}(H:ABh ty φ E h w)(hb:Below w.heap.size w w'):ABh ty φ E h w'/\Evo φ h w φ h w':=
 ⟨{dom:=fun i p e=>⟨(H.dom i p e).1,vD (H.dom i p e).2 hb.size⟩
   inj:=H.inj
   row:=fun i p e hE=>(by rw[hb.block _ (H.dom i p e).2];exact H.row i p e hE)
   fresh:=H.fresh
   kind:=H.kind
   inp:=H.inp},
  {le:=.refl _
   new:=fun _ _ e=>.inl e
   next:=If _
   size:=hb.size
   tape:=hb.tape
   os:=hb.os
   output:=hb.output
   frame:=fun k hk _=>hb.block k hk
   back:=fun i p e hl _=>⟨i,p,e,hl,rfl,rfl,.inl rfl⟩
   kept:=fun _ _ _=>rfl
   low:=If _
   high:=If _
   shape:=fun _ _=>.refl _
   only:=fun _ _ _=>rfl
   all:=fun _ h1 h2=>absurd h2 (Nat.not_lt.2 h1)}⟩
theorem Xx{P:vA}{ty:TTy}{f:Nat}(hS:∃ fn,P.funcs[f]? =some fn/\fn.name≠"runtime.NumGoroutine" /\fn.body.isNone=false)(hc:∀ w:uS,Calls P f #[] w fun e w'=>e=.returned (.bool true)/\Below w.heap.size w w'):Lm P ty f J7:=fun F args h v h' _ hr=>⟨hS,fun φ w args' ACE H=>by
 have hr:YF args h=.ok v h':=hr;cases args with
 |cons a l=>cases hr
 |nil=>
  cases hr;cases ACE;exact(hc w).mono fun e w' ⟨he,hb⟩=>⟨_,φ,he,.bool true,(G0 H hb).1,(G0 H hb).2⟩⟩
theorem Ly{bs:FT}{n f:Nat}(hb:bs.get f=some J7){h:Hp}:call bs (tk n) f [] h=.ok (.bool true) h:=by
 rw[On hb];rfl
end
noncomputable section
open Go
def Bx(n:Nat):List Nat:=if h:n<128 then [n]else(n % 128+128)::Bx (n/128)
termination_by n
decreasing_by exact yy (by omega) (by omega)
theorem FB{n:Nat}(h:n<128):Bx n=[n]:=by rw[Bx,dif_pos h]
theorem Gj{n:Nat}(h:128<=n):Bx n=(n % 128+128)::Bx (n/128):=by rw[Bx,dif_neg (by omega)]
theorem NL:∀ (n x:Nat),x∈Bx n->x<256:=by
 intro n
 induction n using zd with
 |_ n ih=>
  intro x hx;by_cases h:n<128
  ·rw[FB h,List.mem_singleton]at hx
   omega
  ·rw[Gj (by omega)]at hx
   rcases List.mem_cons.1 hx with rfl|hx
   ·omega
   ·exact ih (n/128) (yy (by omega) (by omega)) x hx
theorem OZ(n:Nat):0<(Bx n).length:=by
 by_cases h:n<128
 ·rw[FB h];exact Nat.one_pos
 ·rw[Gj (by omega)];exact xh _
theorem EO:∀ (k n:Nat),n<128 ^ (k+1)->(Bx n).length<=k+1
 |0,n,h=>by
  have h:n<128:=by simpa using h
  rw[FB h];exact If _
 |k+1,n,h=>by
  by_cases h1:n<128
  ·rw[FB h1];show 1<=_;omega
  ·rw[Gj (by omega),tZ]
   have h2:n<128*128 ^ (k+1):=by rw[ABC]at h;rw[wP];exact h
   have:=EO k (n/128) (zt h2);omega
theorem Gk{n:Nat}(h:n<18446744073709551616):(Bx n).length<=10:=EO 9 n (by
 have:(128:Nat) ^ (9+1)=1180591620717411303424:=by decide
 rw[this];omega)
def FP:Nat->Nat->List Nat->Option (Nat×Nat)
 |_,_,[]=>none
 |k,acc,c::r=>if(0<k/\c=0)\/(8<k/\1<c)then none else if c<128 then some (acc+c*2 ^ (7*k),k+1)else FP (k+1) (acc+c % 128*2 ^ (7*k)) r
theorem Mw(k:Nat):2 ^ (7*(k+1))=128*2 ^ (7*k):=by
 rw[show 7*(k+1)=7+7*k by omega,ABK,show(2:Nat) ^ 7=128 from rfl]
theorem RQ{k:Nat}(hk:k<=8):2 ^ (64 - 7*k)=128*2 ^ (64 - 7*(k+1)):=by
 rw[show 64 - 7*k=7+(64 - 7*(k+1))by omega,ABK,show(2:Nat) ^ 7=128 from rfl]
theorem cE:∀ (n k acc:Nat) (r:List Nat),k<=9->n<2 ^ (64 - 7*k)->(0<k->n≠0)->FP k acc (Bx n++r)=some (acc+n*2 ^ (7*k),k+(Bx n).length):=by
 intro n
 induction n using zd with
 |_ n ih=>
  intro k acc r hk hn h0;by_cases h:n<128
  ·rw[FB h]
   show FP k acc (n::r)=_;have h1:¬ ((0<k/\n=0)\/(8<k/\1<n)):=by
    rintro (⟨a,b⟩|⟨a,b⟩)
    ·exact h0 a b
    ·have:k=9:=by omega
     subst this;have:n<2:=hn;omega
   rw[FP,if_neg h1,if_pos h];rfl
  ·have hk8:k<=8:=by
    rcases uG k 9 with h1|h1
    ·omega
    ·have:k=9:=by omega
     subst this;have:n<2:=hn;omega
   rw[Gj (by omega)];show FP k acc ((n % 128+128)::(Bx (n/128)++r))=_;have h1:¬ ((0<k/\n % 128+128=0)\/(8<k/\1<n % 128+128)):=by omega
   have h2:¬ n % 128+128<128:=by omega
   rw[FP,if_neg h1,if_neg h2];have hlt:n/128<2 ^ (64 - 7*(k+1)):=by
    rw[RQ hk8]at hn;exact zt hn
   rw[ih (n/128) (yy (by omega) (by omega)) (k+1) _ r (by omega) hlt (by omega)];have e2:(n % 128+128) % 128=n % 128:=by omega
   have e4:acc+n % 128*2 ^ (7*k)+n/128*(128*2 ^ (7*k))=acc+n*2 ^ (7*k):=by
    have e5:n*2 ^ (7*k)=(128*(n/128)+n % 128)*2 ^ (7*k):=by rw[Nat.div_add_mod]
    rw[e5,xn,wP 128 (n/128),AA0];omega
   rw[e2,Mw,e4,tZ,show k+1+(Bx (n/128)).length=k+((Bx (n/128)).length+1)by omega]
theorem SN:∀ (l:List Nat) (k acc v j:Nat),k<=9->(∀ x∈l,x<256)->FP k acc l=some (v,j)->∃ n r,l=Bx n++r/\v=acc+n*2 ^ (7*k)/\j=k+(Bx n).length/\(0<k->n≠0)/\n<2 ^ (64 - 7*k)
 |[],k,acc,v,j,_,_,h=>by cases h
 |c::r,k,acc,v,j,hk,hb,h=>by
  rw[FP]at h;split at h
  ·cases h
  ·rename_i h1
   split at h
   ·rename_i h2
    cases h;refine⟨c,r,by rw[FB h2];rfl,rfl,by rw[FB h2];rfl,by omega,?_⟩;rcases uG k 9 with h3|h3
    ·have h4:2 ^ 8<=2 ^ (64 - 7*k):=Nat.pow_le_pow_right (by omega) (by omega)
     have h5:(2:Nat) ^ 8=256:=rfl;omega
    ·have:k=9:=by omega
     subst this;show c<2;omega
   ·rename_i h2
    have hk8:k<=8:=by omega
    obtain⟨n,q,rfl,e2,e3,e4,e5⟩:=SN r (k+1) _ v j (by omega) (fun x hx=>hb x (List.mem_cons_of_mem _ hx)) h;have hc:=hb c List.mem_cons_self;have hn:n≠0:=e4 (xh k);have hi:Bx (c % 128+128*n)=c::Bx n:=by
     rw[Gj (by omega)];have a1:(c % 128+128*n) % 128+128=c:=by omega
     have a2:(c % 128+128*n)/128=n:=by omega
     rw[a1,a2]
    refine⟨c % 128+128*n,q,by rw[hi];rfl,?_,?_,fun _=>by omega,?_⟩
    ·have e6:n*(128*2 ^ (7*k))=128*n*2 ^ (7*k):=by rw[<- AA0,wP n 128]
     rw[e2,Mw,xn,e6];omega
    ·rw[e3,hi,tZ];omega
    ·rw[RQ hk8];omega
theorem qK{v:Nat}(h:v<18446744073709551616)(r:List Nat):FP 0 0 (Bx v++r)=some (v,(Bx v).length):=by
 have:=cE v 0 0 r (by omega) h (by omega)
 simpa using this
theorem cD{l:List Nat}{v j:Nat}(hb:∀ x∈l,x<256)(h:FP 0 0 l=some (v,j)):l=Bx v++l.drop j/\j=(Bx v).length/\v<18446744073709551616:=by
 obtain⟨n,r,e1,e2,e3,_,e5⟩:=SN l 0 0 v j (by omega) hb h;have hv:v=n:=by simpa using e2
 subst hv;have hj:j=(Bx v).length:=by simpa using e3
 have e5:v<18446744073709551616:=e5;refine⟨?_,hj,e5⟩;subst e1;rw[hj,List.drop_left]
theorem WV{l:List Nat}{v j:Nat}(hb:∀ x∈l,x<256)(h:FP 0 0 l=some (v,j)):j<=l.length:=by
 obtain⟨e1,e2,_⟩:=cD hb h;have:=congrArg List.length e1;rw[No]at this;omega
end
end Go.Proofs.YtbjadbhkogcfeaaGreat
