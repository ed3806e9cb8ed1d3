/-
  Part ZP of what Lawnl stands on: printed by program, names and spaces cut.
-/
import Derived.Test.YtbjadbhkogcfeaaGreatZO
open Go.Value renaming int→AI
open Go.IntKind renaming i64→AT
open Nat renaming reduceEqDiff→BY,reduceLT→By,reduceAdd→IS,le_refl→IT,zero_add→OF,succ→xM,ble→xU,zero_le→yC,mul→yK,le_trans→yO,eq_zero_or_pos→yV,add_zero→yy,mul_comm→zW,min_le_right→zg,min_le_left→ABC,mul_zero→ADA,one_pos→ADs,le_min→AD1
open Go renaming Value→IN
open List renaming length_append→No,length_map→sh,getElem?_eq_getElem→xL,getD_eq_getElem?_getD→xN,length_cons→xP,mem_cons_of_mem→xS,mem_cons_self→xT,replicate→xV,append_nil→xZ,mem_of_getElem?→xd,mem_cons→xe,append_assoc→xp,mem_singleton→xr,getElem?_eq_some_iff→xy,length_take→yE,mem_append→yH,mem_append_right→yI,mem_append_left→yN,nil_append→yP,map_append→yR,mem_filter→yS,length_drop→yd,drop_zero→yf,getElem?_map→yk,mem_map→yl,eq_nil_of_length_eq_zero→yv,take_length→yz,drop_eq_getElem_cons→zD,length_filter_le→zJ,take_append_drop→zQ,filter_cons_of_pos→zS,filter_cons_of_neg→zT,nodup_cons→AAO,drop_length_add_append→AAP,length_reverse→AAb,reverse_perm→AAq,nodup_append→AAr,map_cons→AAs,length→AAw,drop_length→AAz,find?_some→ABF,filter_nil→ABG,find?_eq_none→ABL,perm_middle→ABa,foldl_append→ABk,map_set→ABp,getElem?_replicate→AB8,take_left→ACQ,perm_append_comm→ACR,filter_sublist→ACi,take_add_one→ACr,mem_nil_iff→AC0,ext_getElem→AC3
open Bool renaming and_eq_true→xk
open Go.Value renaming int→yX,slice→ABd
open Option renaming map_some→yx
open Int renaming toNat_of_nonneg→AAi
open List.Pairwise renaming sublist→ABX
open List.Perm renaming trans→ACX
set_option linter.unusedVariables false
set_option linter.unusedSimpArgs false
namespace Go.Proofs.YtbjadbhkogcfeaaGreat
noncomputable section
open Go
set_option maxRecDepth 100000
theorem Yf{b n:Nat}:FB ⟨b,0,none⟩ n=⟨b,n,none⟩:=by
 cases n with
 |zero=>rfl
 |succ m=>
  show(⟨b,0+(m+1),none⟩:Addr)=_;rw[OF]
theorem Sk(x:Kt):(AY x).length=6:=rfl
theorem gk{ks:List Kt}(hu:∀ k∈ks,oneCell k.u=true):Bb (flK ks)=true:=by
 induction ks with
 |nil=>rfl
 |cons k l ih=>
  refine PJ fun x hx=>?_
  obtain⟨y,hy,hxy⟩:=List.mem_flatMap.1 hx;have huy:=hu y hy;have hxy:x∈[yX .i64 y.a,AI AT y.b,AI AT y.c,.int .u8 (y.s:Int),y.u,AI AT (y.p:Int)]:=hxy;simp only[xe,AC0,or_false]at hxy;rcases hxy with rfl|rfl|rfl|rfl|rfl|rfl
  all_goals first|exact huy|rfl
section
variable {F:AEB}{e:Env}{h h':Hp}{S:Nat->Prop}{m k n bl:Nat}{v:IN}
theorem FX{x:O}{d N i:Nat}{K:Nat->R}(hx:x e=AI AT (i:Int))(hi:i<=N):Ct e (some x) d N K=K i:=by
 show(match DG (x e)with|.ok n=>(bif xU n N then K n else .no)|.no=>.no)=_;rw[hx,DD];simp only;rw[Au.2 hi];rfl
theorem Hq{b lo hi c:Nat}(hc:lo<c):Bp (some ⟨b,0,none⟩) 6 lo hi c h=.ok (.slice (some ⟨b,6*lo,none⟩) (hi - lo) (c - lo)) h:=by
 unfold Bp;simp only[Ao];have e1:Nat.beq c lo=false:=by
  cases hb:Nat.beq c lo
  ·rfl
  ·have:=Nat.eq_of_beq_eq_true hb;omega
 rw[e1];simp only;cases lo with
 |zero=>rfl
 |succ i=>
  have e2:yK (i+1) 6=xM (6*i+5):=by
   show(i+1)*6=_;omega
  rw[e2];have e3:Nat.add 0 (xM (6*i+5))=6*(i+1):=by
   show 0+(6*i+5+1)=_;omega
  simp only[e3];rfl
theorem Uw{L:List IN}(R:h.Row bl 124 L):E0 123 (some ⟨bl,0,none⟩) h=true:=by
 obtain⟨cc,hcc,_⟩:=R.rowOf;unfold E0;simp only[hcc];rfl
theorem fJ{lo hi c:Nat}{L:List IN}(R:h.Row bl 124 L)(hc:lo<c):EM 123 6 (some ⟨bl,0,none⟩) false lo hi c h=.ok (.slice (some ⟨bl,6*lo,none⟩) (hi - lo) (c - lo)) h:=by
 cases lo with
 |zero=>exact Hq hc
 |succ l=>
  show(bif E0 123 (some ⟨bl,0,none⟩) h then Bp (some ⟨bl,0,none⟩) 6 (l+1) hi c h else .no)=_;rw[Uw R];exact Hq hc
theorem Xa{P Q:List Kt}{x:Kt}(W:h.Wf)(R:h.Row bl 124 (flK (P++x::Q)))(AEM:256<=bl)(hn:n=(P++x::Q).length)(hl:n<=100000)(hu:∀ k∈P++x::Q,oneCell k.u=true):
  ∃ h',call AC (m+1) 130 [.slice (some ⟨bl,0,none⟩) n n,AI AT (P.length:Int),AI AT ((P.length+1:Nat):Int)] h=.ok (.slice (some ⟨bl,0,none⟩) (n - 1) n) h'/\Fx (fun b=>b=bl) h h'/\h'.Row bl 124 (flK (P++Q)++AY K0):=by
 have hn':n=P.length+1+Q.length:=by rw[hn,No,xP];omega
 have lf:(flK (P++x::Q)).length=6*n:=by rw[CW,hn]
 have AKH:∀ (F:AEB) (e:Env),J 0 e=.slice (some ⟨bl,0,none⟩) n n->J 1 e=AI AT (P.length:Int)->J 2 e=AI AT ((P.length+1:Nat):Int)->J 12 e=AI AT (n:Int)->∃ v,D9 123 6 (J 0) (some (J 1)) (some (J 2)) (some (J 12)) F e h=.ok v h:=fun F e e0 e1 e2 e3=>by
  show ∃ v,(match J 0 e with|.slice a n c=>DY e n c (some (J 1)) (some (J 2)) (some (J 12)) (fun l hh m=>EM 123 6 a true l hh m h)|_=>.no)=.ok v h;rw[e0];show ∃ v,Ct e (some (J 12)) n n (fun m=>Ct e (some (J 2)) n m fun hh=>Ct e (some (J 1)) 0 hh fun l=>EM 123 6 (some ⟨bl,0,none⟩) true l hh m h)=.ok v h;rw[FX e3 (IT _),FX e2 (by omega),FX e1 (by omega)];exact⟨_,Hq (by omega)⟩
 have AKI:∀ (F:AEB) (e:Env) (h:Hp),J 0 e=.slice (some ⟨bl,0,none⟩) n n->J 1 e=AI AT (P.length:Int)->D9 123 6 (J 0) none (some (J 1)) none F e h=.ok (.slice (some ⟨bl,0,none⟩) P.length n) h:=fun F e h e0 e1=>by
  show(match J 0 e with|.slice a n c=>DY e n c none (some (J 1)) none (fun l hh m=>EM 123 6 a false l hh m h)|_=>.no)=_;rw[e0];show Ct e (some (J 1)) n n (fun hh=>EM 123 6 (some ⟨bl,0,none⟩) false 0 hh n h)=_;rw[FX e1 (by omega)];exact Hq (lo:=0) (by omega)
 have xm:=(Hp.Ext.refl W).marked;have Rm:h.marked.Row bl 124 (flK (P++x::Q)):=R.same rfl;have Rq:h.marked.quiet.Row bl 124 (flK (P++x::Q)):=R.same rfl;have AGo:((flK (P++x::Q)).drop (6*(P.length+1))).take (Q.length*6)=flK Q:=by
  have e1:flK (P++x::Q)=flK (P++[x])++flK Q:=by rw[<- JP];simp
  have e2:6*(P.length+1)=(flK (P++[x])).length:=by rw[CW,No];rfl
  rw[e1,e2,List.drop_left,List.take_of_length_le (by rw[CW];omega)]
 obtain⟨src,AKJ,hsrc,hlen⟩:∃ src,(∀ (F:AEB) (e:Env),J 0 e=.slice (some ⟨bl,0,none⟩) n n->J 2 e=AI AT ((P.length+1:Nat):Int)->D9 123 6 (J 0) (some (J 2)) none none F e h.marked=.ok src h.marked)/\(∀ K:List IN->Go.Proofs.YtbjadbhkogcfeaaGreat.R,BO h.marked.quiet 6 src Q.length K=K (flK Q))/\lenV src=.ok Q.length:=by
  have key:∀ (F:AEB) (e:Env),J 0 e=.slice (some ⟨bl,0,none⟩) n n->J 2 e=AI AT ((P.length+1:Nat):Int)->D9 123 6 (J 0) (some (J 2)) none none F e h.marked=Bp (some ⟨bl,0,none⟩) 6 (P.length+1) n n h.marked:=fun F e e0 e2=>by
   show(match J 0 e with|.slice a n c=>DY e n c (some (J 2)) none none (fun l hh m=>EM 123 6 a false l hh m h.marked)|_=>.no)=_;rw[e0];show Ct e (some (J 2)) 0 n (fun l=>EM 123 6 (some ⟨bl,0,none⟩) false l n n h.marked)=_;rw[FX e2 (by omega)];show(bif E0 123 (some ⟨bl,0,none⟩) h.marked then Bp (some ⟨bl,0,none⟩) 6 (P.length+1) n n h.marked else .no)=_;rw[Uw Rm];rfl
  rcases yV Q.length with hq|hq
  ·obtain rfl:Q=[]:=yv hq
   have hnp:n=P.length+1:=by rw[hn'];rfl
   refine⟨.slice (some ⟨bl,0,none⟩) 0 0,fun F e e0 e2=>?_,fun K=>?_,rfl⟩
   ·rw[key F e e0 e2,hnp]
    unfold Bp;simp only[Ao,Nat.beq_refl];have:Nat.sub (P.length+1) (P.length+1)=0:=Nat.sub_self _;rw[this]
   ·have:=Rq.AGE (es:=6) (off:=0) (n:=0) (sl:=0) (c:=0) (k:=K) (by omega)
    exact this
  ·refine⟨.slice (some ⟨bl,6*(P.length+1),none⟩) Q.length Q.length,fun F e e0 e2=>?_,fun K=>?_,rfl⟩
   ·rw[key F e e0 e2,Hq (by omega),show n - (P.length+1)=Q.length by omega]
   ·have:=Rq.AGE (es:=6) (off:=6*(P.length+1)) (n:=Q.length) (sl:=Q.length) (c:=Q.length) (k:=K) (by rw[lf];omega)
    rw[this,AGo]
 have hoQ:Bb (flK Q)=true:=gk fun k hk=>hu k (yI _ (xS _ hk))
 have hoo:6*P.length+(flK Q).length<=(flK (P++x::Q)).length:=by rw[lf,CW];omega
 have ap:DO 6 64 123 (.slice (some ⟨bl,0,none⟩) P.length n) src h.marked.quiet=.ok (.slice (some ⟨bl,0,none⟩) (n - 1) n) (h.marked.quiet.wr bl (6*P.length) (flK Q)):=by
  unfold DO Dl;simp only[hlen,hsrc,Ao,Nat.add_eq];rw[Au.2 (show P.length+Q.length<=n by omega)];simp only;have e2:FB ⟨bl,0,none⟩ (yK P.length 6)=⟨bl,6*P.length,none⟩:=by
   have:yK P.length 6=6*P.length:=zW _ _;rw[this,Yf]
  rw[e2,Rq.store xm.wf.quiet AEM hoo hoQ,show P.length+Q.length=n - 1 by omega]
 have wr:=Rq.AEP xm.wf.quiet hoo;have fx:=Fx.wr (S:=fun b=>b=bl) xm.wf.quiet Rq hoo rfl;generalize h.marked.quiet.wr bl (6 * P.length) (flK Q)=q at ap wr fx;obtain⟨Z,hZ,hov⟩:∃ Z:List IN,Z.length=6/\over (flK (P++x::Q)) (6 * P.length) (flK Q)=flK (P++Q)++Z:=by
  refine⟨(flK (x::Q)).drop (6*Q.length),by rw[yd,CW,xP];omega,?_⟩;unfold over;have e1:flK (P++x::Q)=flK P++flK (x::Q):=JP _ _;have e2:6*P.length=(flK P).length:=(CW P).symm;have e3:(flK Q).length=6*Q.length:=CW Q;rw[e3,e1,e2,ACQ,AAP,JP]
 rw[hov]at wr;have q1:∀ (F:AEB) (e:Env),J 22 e=.slice (some ⟨bl,0,none⟩) P.length n->J 25 e=src->Ad .free (Bo 6 64 123 (J 22) (J 25)) F e h.marked=.ok (.slice (some ⟨bl,0,none⟩) (n - 1) n) (h.marked.back q):=fun F e e1 e2=>by
  refine BI ?_;rw[BL,e1,e2];exact ap
 have f1:Fx (fun b=>b=bl) h (h.marked.back q):=((fx.from (h:=h.marked) rfl rfl).same (h2:=h.marked.back q) rfl rfl).from (h:=h) rfl rfl;have R1:(h.marked.back q).Row bl 124 (flK (P++Q)++Z):=wr.same rfl;generalize h.marked.back q=h1 at q1 f1 R1;have lPQ:(flK (P++Q)).length=6 * (n - 1):=by rw[CW,No];omega
 have AKK:∀ (F:AEB) (e:Env),J 0 e=.slice (some ⟨bl,0,none⟩) (n - 1) n->J 29 e=AI AT ((n - 1:Nat):Int)->J 7 e=AI AT (n:Int)->D9 123 6 (J 0) (some (J 29)) (some (J 7)) none F e h1=.ok (.slice (some ⟨bl,6*(n - 1),none⟩) 1 1) h1:=fun F e e0 e1 e2=>by
  show(match J 0 e with|.slice a n c=>DY e n c (some (J 29)) (some (J 7)) none (fun l hh m=>EM 123 6 a false l hh m h1)|_=>.no)=_;rw[e0];show Ct e (some (J 7)) (n - 1) n (fun hh=>Ct e (some (J 29)) 0 hh fun l=>EM 123 6 (some ⟨bl,0,none⟩) false l hh n h1)=_;rw[FX e2 (IT _),FX e1 (by omega),fJ R1 (by omega),show n - (n - 1)=1 by omega]
 have AIP:6*(n - 1)+(AY K0).length<=(flK (P++Q)++Z).length:=by rw[No,lPQ,hZ];exact IT _
 have cl:∀ (F:AEB) (e:Env),J 31 e=.slice (some ⟨bl,6*(n - 1),none⟩) 1 1->Mo Dj.zero (J 31) F e h1=.ok AEE (h1.wr bl (6*(n - 1)) (AY K0)):=fun F e e1=>by
  show(match J 31 e with|.slice none _ _=>Dv h1|.slice (some a) n _=>(match n with| 0=>Dv h1|xM k=>Cw a (Ba Dj.zero (xM k)) h1 Dv)|_=>.no)=_;rw[e1];show Cw ⟨bl,6*(n - 1),none⟩ (Ba Dj.zero 1) h1 Dv=_;rw[WT,R1.store f1.wf AEM AIP rfl];rfl
 have wr2:=R1.AEP f1.wf AIP;have fx2:=Fx.wr (S:=fun b=>b=bl) f1.wf R1 AIP rfl;have AKL:over (flK (P++Q)++Z) (6*(n - 1)) (AY K0)=flK (P++Q)++AY K0:=by
  unfold over;rw[<- lPQ,ACQ,AAP,Sk,List.drop_of_length_le (by omega),xZ]
 rw[AKL]at wr2;generalize h1.wr bl (6 * (n - 1)) (AY K0)=h2 at cl wr2 fx2;refine⟨h2,?_,f1.trans fx2,wr2⟩;have c1:iEq (P.length:Int) ((P.length+1:Nat):Int)=false:=B8 (by omega);rw[eZ rfl];unfold gA;simp only[iN,IS,sT,By,BY,reduceIte,Ae,Df];obtain⟨v,hv⟩:=AKH (call AC m) (Env.set 12 (AI AT (n:Int)) (Env.set 6 (.slice none 0 0) (Env.set 2 (AI AT ((P.length+1:Nat):Int)) (Env.set 1 (AI AT (P.length:Int)) (Env.set 0 (.slice (some ⟨bl,0,none⟩) n n) e0))))) (by simp[AG]) (by simp[AG]) (by simp[AG]) (by simp[AG]);rw[hv];simp only[sT,By,BY,reduceIte,AK,AJ,c1,Ae,Df,Ay,AKI,AKJ,q1,AKK,cl,lV0]
end
end
noncomputable section
open Go
set_option maxRecDepth 100000
theorem Fx.xt{S:Nat->Prop}{h h':Hp}(x:Fx S h h')(hs:∀ b,S b->h.next<=b):h.Ext h':=⟨x.next,fun i hi=>x.get i hi fun s=>by have:=hs i s;omega,x.low _ (ABC _ _) (zg _ _) fun b hb=>yO (zg _ _) (hs b hb),x.wf⟩
theorem Fx.xtF{S:Nat->Prop}{h0 h h':Hp}(x0:h0.Ext h)(x:Fx S h h')(hs:∀ b,S b->h0.next<=b):h0.Ext h':=Fx.xt (S:=S) ((Fx.of x0).trans x) hs
theorem Z0(a b:List Nat):iv (a++b)=iv a++iv b:=by unfold iv ints;rw[yR,yR]
section
variable {F:AEB}{e:Env}{h h':Hp}{A:At}{T M:List Nat}{c0 bad m k p n bl:Nat}{arm:Int}{fr:List Nat}{v lv fv:IN}
theorem pZ{n z:Nat}(W:h.Wf){u:IN}{xs:List Nat}(V:h.AEY u (iv xs))(hl:xs.length<=1000):
  ∃ h1 w h2 b,call AC (n+1) 102 [u] h=.ok w h1/\h.Ext h1/\DO 1 8 3 w (.slice (some ⟨h1.next,0,none⟩) 1 1) (h1.AEA 0 [AI AT (z:Int)])=.ok (.slice (some ⟨b,0,none⟩) (xs.length+1) (xs.length+1)) h2/\h.Ext h2/\h2.Row b 4 (iv (xs++[z]))/\h.next<=b:=by
 have ha:Bb (iv xs)=true:=HH .i64 _;have fin:∀ (h1:Hp) (w:IN),h.Ext h1->(h1.Own h.next 3 w (iv xs)\/(xs=[]/\∃ b,w=.slice (some ⟨b,0,none⟩) 0 0/\h1.Row b 0 []))->∃ h2 b,DO 1 8 3 w (.slice (some ⟨h1.next,0,none⟩) 1 1) (h1.AEA 0 [AI AT (z:Int)])=.ok (.slice (some ⟨b,0,none⟩) (xs.length+1) (xs.length+1)) h2/\h.Ext h2/\h2.Row b 4 (iv (xs++[z]))/\h.next<=b:=fun h1 w x1 o=>by
  have y2:=(Hp.Ext.refl x1.wf).AEA 0 [yX .i64 (z:Int)];have Rw:=Hp.Row.new x1.wf 0 [yX .i64 (z:Int)];have hlt:h1.next<(h1.AEA 0 [yX .i64 (z:Int)]).next:=Nat.lt_succ_self _;generalize h1.AEA 0 [yX .i64 (z:Int)]=g at y2 Rw hlt;have x2:=x1.trans y2;have Vz:g.AEY (.slice (some ⟨h1.next,0,none⟩) 1 1) [AI AT (z:Int)]:=.inr ⟨h1.next,0,1,0,_,rfl,Rw,IT _,rfl⟩;rcases o with o|⟨rfl,b,rfl,r⟩
  ·obtain⟨h2,v',a1,a2,a3,a4,_⟩:=Es (eb:=8) (en:=3) (k:=h.next) x2 (IT _) (by have:=x1.next;omega) (o.ext x1.wf y2) Vz (ADs) rfl (by rw[EP];show(xs.length+1+1)*9<=_;omega)
   rcases a3 with ⟨_,h2'⟩|⟨b,h1',h2',h3',h4'⟩
   ·have:=congrArg AAw h2'
    simp at this
   ·have e1:(iv xs++[yX .i64 (z:Int)]).length=xs.length+1:=by rw[No,EP];rfl
    rw[e1]at h1';subst h1';exact⟨h2,b,a1,a2,by rw[Z0];exact h2',h3'⟩
  ·have hs:∀ K:List IN->Go.Proofs.YtbjadbhkogcfeaaGreat.R,BO g 1 (.slice (some ⟨h1.next,0,none⟩) 1 1) 1 K=K [AI AT (z:Int)]:=fun K=>Rw.AGE (es:=1) (off:=0) (n:=1) (IT _)
   obtain⟨h2,a1,a2,a3,a4,_⟩:=El (eb:=8) (en:=3) x2 (r.ext x1.wf y2) hs rfl rfl (by omega) rfl (by omega);exact⟨h2,g.next,a1,a2,a3,by have:=x2.next;omega⟩
 rcases V with ⟨rfl,hx⟩|⟨b,off,c,el,L,h1,h2,h3,h4⟩
 ·have hx0:xs=[]:=by
   have:=congrArg AAw hx;rw[EP]at this;exact yv this
  have ne:∀ e:Env,J 0 e=.slice none 0 0->oEq To.k false (J 0) (kV (.slice none 0 0)) (call AC n) e h=.ok (.bool true) h:=fun e he=>Ja (t:=0) WN he
  have k1:call AC (n+1) 102 [.slice none 0 0] h=.ok AEG h:=by
   rw[Hz rfl];unfold Ob;simp only[iN,IS,sT,By,BY,reduceIte,ne,lV0]
  obtain⟨h2,b,q1,q2,q3,q4⟩:=fin h AEG (.refl W) (.inl (.inl ⟨rfl,hx⟩));exact⟨h,AEG,h2,b,k1,.refl W,q1,q2,q3,q4⟩
 ·have V:h.AEY u (iv xs):=.inr ⟨b,off,c,el,L,h1,h2,h3,h4⟩
  have x1:=(Hp.Ext.refl W).AEA 0 [];have R:=Hp.Row.new W 0 [];have es:=fun (e:Env) (t:List IN)=>KH (F:=call AC n) (e:=e) (t:=t) W
  have n1:(h.AEA 0 []).next=h.next+1:=rfl;generalize h.AEA 0 []=g at x1 R es n1;have ne:∀ e:Env,J 0 e=u->oEq To.k false (J 0) (kV (.slice none 0 0)) (call AC n) e h=.ok (.bool false) h:=fun e he=>JZ (t:=0) WN (he.trans h1)
  have V1:=V.ext W x1;have big:=W.big;rcases yV xs.length with hz|hz
  ·obtain rfl:xs=[]:=yv hz
   have ap:DO 1 8 3 (.slice (some ⟨h.next,0,none⟩) 0 0) u g=.ok (.slice (some ⟨h.next,0,none⟩) 0 0) (g.wr h.next 0 []):=Hh x1.wf big R (fun k=>V1.src rfl k) V1.lenV;have R2:=R.AEP x1.wf (off:=0) (vs:=[]) (IT _);have x2:=R.AEi x1 (IT _) (off:=0) (vs:=[]) (IT _);have k1:call AC (n+1) 102 [u] h=.ok (.slice (some ⟨h.next,0,none⟩) 0 0) (g.wr h.next 0 []):=by
    rw[Hz rfl];unfold Ob;simp only[iN,IS,sT,By,BY,reduceIte,ne,es,BL,ap,lV0]
   obtain⟨h2,b,q1,q2,q3,q4⟩:=fin _ (.slice (some ⟨h.next,0,none⟩) 0 0) x2 (.inr ⟨rfl,h.next,rfl,R2⟩);exact⟨_,_,h2,b,k1,x2,q1,q2,q3,q4⟩
  ·have hlv:=V1.lenV
   rw[EP]at hlv;obtain⟨h2,a1,a2,a3,a4,a5⟩:=El (eb:=8) (en:=3) (n:=xs.length) x1 R (es:=1) (fun k=>by have:=V1.src rfl k;rwa [EP]at this) hlv (by rw[EP];omega) hz ha (by omega);have k1:call AC (n+1) 102 [u] h=.ok (.slice (some ⟨g.next,0,none⟩) xs.length xs.length) h2:=by
    rw[Hz rfl];unfold Ob;simp only[iN,IS,sT,By,BY,reduceIte,ne,es,BL,a1,lV0]
   obtain⟨h3,b,q1,q2,q3,q4⟩:=fin h2 (.slice (some ⟨g.next,0,none⟩) xs.length xs.length) a2 (.inl (.inr ⟨g.next,by rw[EP],a3,by omega,by omega⟩));exact⟨h2,_,h3,b,k1,a2,q1,q2,q3,q4⟩
theorem VH{P Q:List Kt}{x:Kt}(W:h.Wf)(s:Sl h A T M c0 arm (P++x::Q) fr lv fv bad false)(hkl:(P++x::Q).length<=100)(hfl:fr.length<=11)(hp3:3*x.p+3<=A.n):
  ∃ h' lv' fv',call AC (m+7) 104 [pt A.bs,AI AT (P.length:Int)] h=.ok (AI AT (x.p:Int)) h'/\Fx (fun b=>b=A.bs) h h'/\Sl h' A T M c0 arm (P++Q) (Ed (fr++[x.p])) lv' fv' bad false/\∀ b,AEe fv' b->h.next<=b:=by
 have hD:=s.AGp W;have hu:∀ k∈P++x::Q,oneCell k.u=true:=fun k hk=>(s.ko k hk).1.vs.one.2.1
 obtain⟨_,_,_,l3,_⟩:=BF s.row;obtain⟨b0,_,ix,_,lde⟩:=s.ls.at (i:=P.length) (k:=x) F8;have lp:=lde 5 (AI AT (x.p:Int)) rfl;obtain⟨h1,w,k1,x1,ko⟩:=UV (m:=m+5) W s.ls hu (by omega);obtain⟨bl,hw,Rb,hbl,AEM⟩:∃ bl,w=.slice (some ⟨bl,0,none⟩) (P++x::Q).length (P++x::Q).length/\h1.Row bl 124 (flK (P++x::Q))/\h.next<=bl/\256<=bl:=by
  rcases ko with (⟨_,h2⟩|h2)|⟨h2,_⟩
  ·have:=congrArg AAw h2
   simp at this
  ·exact h2
  ·have:=congrArg AAw h2
   simp at this
 subst hw;obtain⟨h2,k2,f2,R2⟩:=Xa (m:=m+5) x1.wf Rb AEM rfl (by omega) hu;have x2:h.Ext h2:=Fx.xtF x1 f2 fun b hb=>by rw[hb];exact hbl
 have s2:=s.ext W x2;have nD:∀ b,h.next<=b->¬ A.D b:=fun b hb hd=>by have:=hD b hd;omega
 have nbs:∀ b,¬ A.D b->b≠A.bs:=fun b hb h=>hb (.inl h)
 have lPQ:(P++x::Q).length=(P++Q).length+1:=by simp only[No,xP];omega
 generalize AIQ:(ABd (some ⟨bl,0,none⟩) ((P++x::Q).length - 1) (P++x::Q).length)=lv' at k2;obtain⟨h3,st3,AHK,n3,f3,_⟩:=F1 (v:=lv') x2.wf s2.row (off:=3) (show 3<7 by omega) s.ne.2.2.2.2 (by rw[<- AIQ];rfl) (by rw[<- AIQ];rfl);have AHK:h3.Row A.bs 0 (slL A.bd A.tb lv' fv bad false):=AHK;have s3:Sl h3 A T M c0 arm (P++Q) fr lv' fv bad false:=s2.bsx x2.wf f3 AHK (by
   rw[<- AIQ];exact(PQ (n:=(P++x::Q).length - 1) (c:=(P++x::Q).length) (f3.row x2.wf R2 (nbs _ (nD _ hbl))) (by omega) (by omega)).mono fun b hb=>by rw[show b=bl from hb];exact nD _ hbl)
  (fun k hk=>by
   have hk':k∈P++x::Q:=by
    rcases yH.1 hk with h1|h1
    ·exact yN _ h1
    ·exact yI _ (xS _ h1)
   exact⟨(s2.ko k hk').1.keep fun b el L hb _ r=>f3.row x2.wf r (nbs b hb),(s2.ko k hk').2⟩)
  (s2.fs.keep fun b el L hb r=>f3.row x2.wf r (nbs b hb)) ⟨by have:=s.le.1;omega,s.le.2⟩
 obtain⟨_,_,_,_,l4,_⟩:=BF s3.row;obtain⟨h4,w4,h5,b5,k4,x4,a5,x5,R5,hb5⟩:=pZ (n:=m+5) (z:=x.p) f3.wf (xs:=fr) s3.fs.vals (by omega);have bs:=fun (F:AEB) (e:Env) (he:J 5 e=AI AT (x.p:Int))=>Em (F:=F) x4.wf he
 have s5:=s3.ext f3.wf x5;generalize AG2:(ABd (some ⟨b5,0,none⟩) (fr.length+1) (fr.length+1))=fv' at a5;obtain⟨h6,st6,AIR,n6,f6,_⟩:=F1 (v:=fv') x5.wf s5.row (off:=4) (show 4<7 by omega) s.ne.2.2.2.2 (by rw[<- AG2];rfl) (by rw[<- AG2];rfl);have AIR:h6.Row A.bs 0 (slL A.bd A.tb lv' fv' bad false):=AIR;have AJB:h.next<=b5:=by have:=x2.next;have:=f3.next;omega
 have nb5:=nD _ AJB;have R6:=f6.row x5.wf R5 (nbs _ nb5);have AIS:256<=b5:=by have:=W.big;omega
 have lfa:(iv (fr++[x.p])).length=fr.length+1:=by rw[EP,No];rfl
 have AFx:∀ q∈fr++[x.p],3*q+3<=A.n:=fun q hq=>by
  rcases yH.1 hq with h1|h1
  ·exact s.le.2.2.2 q h1
  ·rw[xr.1 h1];exact hp3
 have s6:Sl h6 A T M c0 arm (P++Q) (fr++[x.p]) lv' fv' bad false:=s5.bsx x5.wf f6 AIR (s5.ls.keep fun b el L hb r=>f6.row x5.wf r (nbs b hb)) (fun k hk=>⟨(s5.ko k hk).1.keep fun b el L hb _ r=>f6.row x5.wf r (nbs b hb),(s5.ko k hk).2⟩)
  (by
   rw[<- AG2];refine .inr ⟨b5,4,?_,R6,.inl rfl,nb5⟩;show _=ABd _ (iv (fr++[x.p])).length (iv (fr++[x.p])).length;rw[lfa]) ⟨s5.le.1,by rw[No];show fr.length+1<=1000;omega,s5.le.2.2.1,AFx⟩
 obtain⟨_,_,_,_,l46,_⟩:=BF s6.row;obtain⟨h7,k7,f7,R7⟩:=cE (m:=m) (Z:=[]) (n:=fr.length+1) (c:=fr.length+1) f6.wf (by rw[xZ];exact R6) AIS (by rw[No];rfl) (by omega);rw[xZ]at R7;rw[AG2]at k7;have pm:=Gy (fr++[x.p]);have kp:∀ b el L,b≠b5->h6.Row b el L->h7.Row b el L:=fun b el L hb r=>f7.row f6.wf r hb
 have nbb:∀ b el L,(el=0\/el=6\/el=124)->h6.Row b el L->b≠b5:=fun b el L he r=>D5 r R6 (by omega)
 have s7:Sl h7 A T M c0 arm (P++Q) (Ed (fr++[x.p])) lv' fv' bad false:=by
  refine⟨kp _ _ _ (nbb _ _ _ (.inl rfl) s6.row) s6.row,s6.dk.fr f6.wf f7 (nbb _ _ _ (.inl rfl) s6.dk.disk) (nbb _ _ _ (.inl rfl) s6.dk.med) (fun h=>(Jm R6 s6.dk.map) h.symm),kp _ _ _ (nbb _ _ _ (.inl rfl) s6.tab) s6.tab,s.tok,?_,fun y hy=>⟨(s6.ko y hy).1.keep fun b el L hb he r=>kp b el L (nbb b el L (by omega) r) r,(s6.ko y hy).2⟩,?_,s.ne,?_⟩
  ·rcases s6.ls with h1|⟨b,c,el,L,q1,q2,q3,q4,q5,q6,q7⟩
   ·exact .inl h1
   ·exact .inr ⟨b,c,el,L,q1,q2,kp _ _ _ (nbb b el _ (by omega) q3) q3,q4,q5,q6,q7⟩
  ·rw[<- AG2]
   refine .inr ⟨b5,4,?_,R7,.inl rfl,nb5⟩;show _=ABd _ (iv (Ed (fr++[x.p]))).length (iv (Ed (fr++[x.p]))).length;rw[EP,pm.length_eq,No];rfl
  ·exact⟨s6.le.1,by rw[pm.length_eq];exact s6.le.2.1,s6.le.2.2.1,fun q hq=>AFx q (pm.mem_iff.1 hq)⟩
 have fx:Fx (fun b=>b=A.bs) h h7:=by
  have e1:Fx (fun b=>b=A.bs) h h2:=.of x2;have e2:=((e1.trans f3).trans (.of x5)).trans f6;exact e2.fresh f7 AJB
 refine⟨h7,lv',fv',?_,fx,s7,fun b hb=>by
  obtain⟨off,n,c,e1⟩:=hb;rw[<- AG2]at e1;injection e1 with e1 _ _
  injection e1 with e1
  injection e1 with e1 _ _
  omega⟩
 have a1:=CN (i:=P.length) (h:=h1) (by have:=lPQ;simp only[No]at hkl;omega);have k1':call AC (m+6) 103 [lv] h=.ok (.slice (some ⟨bl,0,none⟩) (P++x::Q).length (P++x::Q).length) h1:=k1;have k2':call AC (m+6) 130 [.slice (some ⟨bl,0,none⟩) (P++x::Q).length (P++x::Q).length,AI AT (P.length:Int),AI AT ((P.length+1:Nat):Int)] h1=.ok lv' h2:=k2;have k4':call AC (m+6) 102 [fv] h3=.ok w4 h4:=k4;have k7':call AC (m+6) 107 [fv'] h6=.ok AEE h7:=k7;rw[eI rfl];unfold fO;simp only[iN,IS,sT,By,BY,reduceIte,Av,Af,AH,AN,OF,AM,AP,l3,A8,ix,lp,cA0,k1',BP,a1,k2',AX,st3,l4,k4',bs,BL,a5,st6,l46,k7',lV0]
theorem bN{P Q:List Kt}{x:Kt}(W:h.Wf)(s:Sl h A T M c0 arm (P++x::Q) fr lv fv bad false)(hkl:(P++x::Q).length<=100)(hfl:fr.length<=11)(hp3:3*x.p+3<=A.n)(ha:CA arm (k+2)):
  ∃ h' c1 AEg lv' fv',call AC (m+8) 105 [pt A.bs,AI AT (P.length:Int)] h=.ok (AI AT 0) h'/\Fx A.D h h'/\Sl h' A T (Gz M [x.p]) c1 AEg (P++Q) (Ed (fr++[x.p])) lv' fv' bad false/\CA AEg k:=by
 obtain⟨_,_,_,l3,_⟩:=BF s.row;obtain⟨b0,_,ix,_,lde⟩:=s.ls.at (i:=P.length) (k:=x) F8;have lp:=lde 5 (AI AT (x.p:Int)) rfl;have bs:=fun (F:AEB) (e:Env) (he:J 14 e=AI AT (x.p:Int))=>Em (F:=F) W he
 have y1:=(Hp.Ext.refl W).AEA 0 [yX .i64 (x.p:Int)];have Rw:=Hp.Row.new W 0 [yX .i64 (x.p:Int)];generalize h.AEA 0 [yX .i64 (x.p:Int)]=h1 at bs y1 Rw;have s1:=s.ext W y1;obtain⟨h2,c1,AHP,k2,f2,s2,a2⟩:=Kk (m:=m+1) (k:=k) y1.wf s1 (ps:=[x.p]) (pv:=.slice (some ⟨h.next,0,none⟩) 1 1) (.inr ⟨h.next,0,1,0,_,rfl,Rw,IT _,rfl⟩) (fun p hp=>by rw[xr.1 hp];exact hp3) (by simp) (by show 1<=50;omega) (ha.le (by show 1+1+k<=k+2;omega));obtain⟨h3,lv',fv',k3,f3,s3,_⟩:=VH (m:=m) f2.wf s2 hkl hfl hp3;have c00:iNe 0 0=false:=CE rfl;have k2':call AC (m+7) 81 [pt A.bs,.slice (some ⟨h.next,0,none⟩) 1 1] h1=.ok (AI AT 0) h2:=k2;refine⟨h3,c1,AHP,lv',fv',?_,((Fx.of y1).trans (f2.mono fun b hb=>.inr hb)).trans (f3.mono fun b hb=>.inl hb),s3,a2⟩;rw[eJ rfl];unfold fP;simp only[iN,IS,sT,By,BY,reduceIte,Av,Af,AH,AN,OF,AM,AP,l3,A8,ix,lp,bs,cA0,k2',AK,AJ,c00,k3,lV0]
end
end
noncomputable section
open Go
set_option maxRecDepth 100000
def JC(ks:List Kt)(a b c:Int):Option Int:=match ks.find? (Bs a b c)with
 |some k=>if k.s=2 then some 0 else if CU a b c ks=true then some 61 else none
 |none=>if CU a b c ks=true then some 61 else some 60
def elB(a b c:Int)(k:Kt):Bool:=decide (k.a=a) && decide (k.b=b) && decide (k.c<c)
def frE(fr:List Nat)(out:List Kt):List Nat:=out.foldl (fun f x=>Ed (f++[x.p])) fr
theorem QO(fr:List Nat)(out:List Kt)(x:Kt):frE fr (out++[x])=Ed (frE fr out++[x.p]):=by unfold frE;rw[ABk];rfl
theorem JR:∀ (out:List Kt) (fr:List Nat),(frE fr out).Perm (fr++out.map (·.p))
 |[],fr=>by rw[List.map_nil,xZ];exact .refl _
 |x::out,fr=>by
  show(frE (Ed (fr++[x.p])) out).Perm _;have:=JR out (Ed (fr++[x.p]));refine this.trans (((Gy _).append_right _).trans ?_);rw[xp];exact .refl _
theorem VC(fr:List Nat)(out:List Kt):(frE fr out).length=fr.length+out.length:=by rw[(JR out fr).length_eq,No,sh]
theorem MJ{α:Type}(P:α->Bool)(l:List α)(x:α):(l++[x]).filter P=if P x=true then l.filter P++[x]else l.filter P:=by
 rw[List.filter_append];cases h:P x
 ·rw[if_neg (by decide),zT (by rw[h];decide),ABG,xZ]
 ·rw[if_pos rfl,zS h,ABG]
theorem Fx.drop{S:Nat->Prop}{h h':Hp}(x:Fx (fun b=>S b\/h.next<=b) h h'):Fx S h h':=⟨x.next,fun i hi hs=>x.get i hi (fun h1=>h1.elim hs (fun h2=>by omega)),x.wf,fun L q1 q2 q3=>x.low L q1 q2 fun b hb=>hb.elim (q3 b) (fun h2=>by omega)⟩
theorem Hp.WI.blk{h:Hp}{S:Nat->Prop}{v:IN}{xs:List IN}(o:h.WI S v xs){b:Nat}(hb:AEe v b):∃ el L,h.Row b el L:=by
 obtain⟨_,_,_,e⟩:=hb;rcases o with ⟨h1,_⟩|⟨b',el,h1,h2,_⟩
 ·rw[h1]at e;cases e
 ·rw[h1]at e
  injection e with e _ _
  injection e with e
  injection e with e _ _
  exact⟨el,_,e ▸ h2⟩
section
variable {F:AEB}{e:Env}{h h':Hp}{S:Nat->Prop}{A:At}{T M:List Nat}{c0 bad m k p n bl:Nat}{arm:Int}{ks:List Kt}{fr:List Nat}{v lv fv:IN}{ov:Bool}
theorem Hp.Own.fx{en:Nat}{xs:List IN}(o:h.Own k en v xs)(W:h.Wf)(x:Fx S h h')(hs:∀ b,k<=b->¬ S b):h'.Own k en v xs:=by
 rcases o with h1|⟨b,h1,h2,h3,h4⟩
 ·exact .inl h1
 ·exact .inr ⟨b,h1,x.row W h2 (hs b h3),h3,h4⟩
theorem Hp.Own.AKM{en:Nat}{xs:List IN}(o:h.Own k en v xs)(W:h.Wf){b:Nat}(hb:AEe v b):b<h.next:=by
 obtain⟨_,_,_,e⟩:=hb;rcases o with ⟨h1,_⟩|⟨b',h1,h2,_⟩
 ·rw[h1]at e;cases e
 ·rw[h1]at e
  injection e with e _ _
  injection e with e
  injection e with e _ _
  exact e ▸ h2.lt W
theorem Sl.app{w:IN}{xs:List IN}(s:Sl h A T M c0 arm ks fr lv fv bad ov)(o:h.Own k 3 w xs)(hr:∀ b el L,¬ AEe w b->h.Row b el L->h'.Row b el L)(hm:h'.bl.get A.bc=h.bl.get A.bc)(hf:∀ b,AEe fv b->¬ AEe w b):Sl h' A T M c0 arm ks fr lv fv bad ov:=by
 have nb:∀ b el L,(el=0\/el=6\/el=124)->h.Row b el L->¬ AEe w b:=fun b el L he r hb=>by
  obtain⟨_,_,_,e⟩:=hb;rcases o with ⟨h1,_⟩|⟨b',h1,h2,_⟩
  ·rw[h1]at e;cases e
  ·rw[h1]at e
   injection e with e _ _
   injection e with e
   injection e with e _ _
   exact D5 r h2 (by omega) e.symm
 refine⟨hr _ _ _ (nb _ _ _ (.inl rfl) s.row) s.row,⟨hr _ _ _ (nb _ _ _ (.inl rfl) s.dk.disk) s.dk.disk,hr _ _ _ (nb _ _ _ (.inl rfl) s.dk.med) s.dk.med,s.dk.len,s.dk.byt,hm.trans s.dk.map,s.dk.big,s.dk.n1⟩,hr _ _ _ (nb _ _ _ (.inl rfl) s.tab) s.tab,s.tok,?_,fun y hy=>⟨(s.ko y hy).1.keep fun b el L hb he r=>hr b el L (nb b el L (by omega) r) r,(s.ko y hy).2⟩,?_,s.ne,s.le⟩
 ·rcases s.ls with h1|⟨b,c,el,L,q1,q2,q3,q4,q5,q6,q7⟩
  ·exact .inl h1
  ·exact .inr ⟨b,c,el,L,q1,q2,hr _ _ _ (nb b el _ (by omega) q3) q3,q4,q5,q6,q7⟩
 ·rcases s.fs with h1|⟨b,el,h1,h2,h3,h4⟩
  ·exact .inl h1
  ·exact .inr ⟨b,el,h1,hr _ _ _ (hf b ⟨_,_,_,h1⟩) h2,h3,h4⟩
theorem jc(W:h.Wf){z:Nat}{xs:List Nat}(hk:k<=h.next)(o:h.Own k 3 v (iv xs))(hl:xs.length<=1000):
  ∃ h2 v',DO 1 8 3 v (.slice (some ⟨h.next,0,none⟩) 1 1) (h.AEA 0 [AI AT (z:Int)])=.ok v' h2/\Fx (fun b=>k<=b) h h2/\h2.Own k 3 v' (iv (xs++[z]))/\∀ b el L,¬ AEe v b->h.Row b el L->h2.Row b el L/\¬ AEe v' b:=by
 have y2:=(Hp.Ext.refl W).AEA 0 [yX .i64 (z:Int)];have Rw:=Hp.Row.new W 0 [yX .i64 (z:Int)];have n2:(h.AEA 0 [yX .i64 (z:Int)]).next=h.next+1:=rfl;generalize h.AEA 0 [yX .i64 (z:Int)]=g at y2 Rw n2;have Vz:g.AEY (.slice (some ⟨h.next,0,none⟩) 1 1) [AI AT (z:Int)]:=.inr ⟨h.next,0,1,0,_,rfl,Rw,IT _,rfl⟩;have x0:Hp.Ext {g with next:=k,low:=min g.low k} g:=⟨by show k<=g.next;omega,fun _ _=>rfl,by show min (min g.low k) k<=g.low;omega,y2.wf⟩;obtain⟨h2,v',a1,a2,a3,a4,a5⟩:=Es (eb:=8) (en:=3) (k:=k) x0 (IT _) (by omega) (o.ext W y2) Vz ADs rfl (by rw[EP];show(xs.length+1+1) * 9<=_;omega);have f2:Fx (fun b=>k<=b) g h2:=⟨by omega,fun i hi hs=>a2.get i (by show i<k;omega),a2.wf,fun L q1 q2 q3=>yO (AD1.2 ⟨AD1.2 ⟨q1,q3 k (IT _)⟩,q3 k (IT _)⟩) a2.low⟩;refine⟨h2,v',a1,(Fx.of y2).trans f2,by rw[Z0];exact a3,fun b el L hb r=>?_⟩;exact a5 b el L hb (r.ext W y2)
theorem Y9{a b c:Int}(W:h.Wf)(s:Sl h A T M c0 arm ks fr lv fv bad false)(hkl:fr.length+ks.length<=11)(hp3:∀ k∈ks,3*k.p+3<=A.n)(s0:J 0 e=pt A.bs)(s1:J 1 e=AI AT a)(s2:J 2 e=AI AT b)(s3:J 3 e=AI AT c)(s15:J 15 e=AEG)(s16:J 16 e=AI AT ((0:Nat):Int)):
  ∃ e' h' lv' fv' w,A6 cmL (call AC (m+7)) e h=.exit 1 e' h'/\Fx (fun b=>b=A.bs) h h'/\J 0 e'=pt A.bs/\J 15 e'=w/\h'.Own h.next 3 w (iv ((ks.filter (elB a b c)).map (·.p)))/\
   Sl h' A T M c0 arm (ks.filter fun k=> !elB a b c k) (frE fr (ks.filter (elB a b c))) lv' fv' bad false:=by
 have hD:=s.AGp W;have hbs:=hD A.bs (.inl rfl);refine Be (I:=fun i e' h'=>∃ lv' fv' w,Fx (fun b=>b=A.bs\/h.next<=b) h h'/\J 0 e'=pt A.bs/\J 1 e'=AI AT a/\J 2 e'=AI AT b/\J 3 e'=AI AT c/\J 15 e'=w/\J 16 e'=AI AT ((((ks.take i).filter fun k=> !elB a b c k).length:Nat):Int)/\i<=ks.length/\h'.Own h.next 3 w (iv (((ks.take i).filter (elB a b c)).map (·.p)))/\
   Sl h' A T M c0 arm ((ks.take i).filter (fun k=> !elB a b c k)++ks.drop i) (frE fr ((ks.take i).filter (elB a b c))) lv' fv' bad false/\∀ b,AEe fv' b->¬ AEe w b)
  (Q:=fun x=>∃ e' h' lv' fv' w,x=.exit 1 e' h'/\Fx (fun b=>b=A.bs) h h'/\J 0 e'=pt A.bs/\J 15 e'=w/\h'.Own h.next 3 w (iv ((ks.filter (elB a b c)).map (·.p)))/\
   Sl h' A T M c0 arm (ks.filter fun k=> !elB a b c k) (frE fr (ks.filter (elB a b c))) lv' fv' bad false) ks.length (by omega) (fun i e' h' ⟨lv',fv',w,fx,t0,t1,t2,t3,t15,t16,hi,ow,sl,hf⟩=>?_) ⟨lv,fv,AEG,.refl W,s0,s1,s2,s3,s15,s16,yC _,.inl ⟨rfl,rfl⟩,s,fun b _ h=>GL h⟩
 have W':=fx.wf;obtain⟨_,_,_,l3,_⟩:=BF sl.row;have ln:=sl.ls.len h';have hfl:=VC fr ((ks.take i).filter (elB a b c));have hf1:((ks.take i).filter (elB a b c)).length<=(ks.take i).length:=zJ _ _;have hf2:((ks.take i).filter (fun k=> !elB a b c k)).length<=(ks.take i).length:=zJ _ _;rw[yE,Nat.min_eq_left hi]at hf1 hf2;by_cases hlt:i<ks.length
 ·left
  obtain⟨x,hx⟩:∃ x,ks[i]? =some x:=⟨_,xL hlt⟩;have hxm:=xd hx;have htk:ks.take (i+1)=ks.take i++[x]:=by rw[ACr,hx];rfl
  have hdr:ks.drop i=x::ks.drop (i+1):=by
   rw[zD hlt];rw[xL hlt]at hx;injection hx with hx
   rw[hx]
  have hfN:=MJ (fun k=> !elB a b c k) (ks.take i) x;have hfY:=MJ (elB a b c) (ks.take i) x;rw[<- htk]at hfN hfY;generalize hP:(ks.take i).filter (fun k=> !elB a b c k)=P at *;generalize hO:(ks.take i).filter (elB a b c)=O at *;rw[hdr]at sl ln;have hPl:(P++x::ks.drop (i+1)).length=P.length+1+(ks.length - (i+1)):=by rw[No,xP,yd];omega
  have c1:iLt (P.length:Int) ((P++x::ks.drop (i+1)).length:Int)=true:=Ep (by omega);obtain⟨b',_,ix,ld,_⟩:=sl.ls.at (i:=P.length) (k:=x) F8;have al:=fun (F:AEB) (e:Env)=>BQ (F:=F) (e:=e) W' (n:=6) (t:=CO)
  have Ra:=Hp.Row.alloc W' FA (show(AY K0).length=6 from rfl);have y1:h'.Ext (h'.push (.cells CO 6 0)):=(Hp.Ext.refl W').push _;generalize h'.push (.cells CO 6 0)=h1 at al Ra y1;have hu:=(sl.ko x (yI _ xT)).1.vs.one.2.1;obtain⟨st,_,y2,R5,n2⟩:=Kh W' y1 (IT _) Ra rfl (k:=x) hu;generalize h1.wr h'.next 0 (AY x)=h2 at st y2 R5 n2;obtain⟨m0,m1,m2,_⟩:=Bw R5;have sl2:=sl.ext W' y2;cases hel:elB a b c x with
  |false=>
   have a3:=CN (i:=P.length) (h:=h2) (by omega);rw[if_pos (by rw[hel];rfl)]at hfN;rw[if_neg (by rw[hel];decide)]at hfY;have hrun:∃ e2,cmL (call AC (m+7)) e' h'=.norm e2 h2/\J 0 e2=pt A.bs/\J 1 e2=AI AT a/\J 2 e2=AI AT b/\J 3 e2=AI AT c/\J 15 e2=w/\J 16 e2=AI AT ((P.length+1:Nat):Int):=by
    unfold cmL;by_cases h1:x.a=a
    ·have d1:iEq x.a a=true:=CV h1
     by_cases h2:x.b=b
     ·have d2:iEq x.b b=true:=CV h2
      have d3:iLt x.c c=false:=E5 (fun h3=>by
       unfold elB at hel;rw[decide_eq_true h1,decide_eq_true h2,decide_eq_true h3]at hel;cases hel)
      simp only[sT,By,BY,reduceIte,gD,Av,t0,Af,AH,AN,OF,AM,AP,l3,Ae,ln,AK,AJ,t16,c1,A8,ix,Ar,Aj,ld,al,AX,st,m0,m1,m2,t1,t2,t3,d1,d2,d3,BP,a3];exact⟨_,rfl,by simp[AG,t0,t1,t2,t3,t15]⟩
     ·have d2:iEq x.b b=false:=B8 h2
      simp only[sT,By,BY,reduceIte,gD,Av,t0,Af,AH,AN,OF,AM,AP,l3,Ae,ln,AK,AJ,t16,c1,A8,ix,Ar,Aj,ld,al,AX,st,m0,m1,m2,t1,t2,t3,d1,d2,BP,a3];exact⟨_,rfl,by simp[AG,t0,t1,t2,t3,t15]⟩
    ·have d1:iEq x.a a=false:=B8 h1
     simp only[sT,By,BY,reduceIte,gD,Av,t0,Af,AH,AN,OF,AM,AP,l3,Ae,ln,AK,AJ,t16,c1,A8,ix,Ar,Aj,ld,al,AX,st,m0,m1,m2,t1,t2,t3,d1,BP,a3];exact⟨_,rfl,by simp[AG,t0,t1,t2,t3,t15]⟩
   obtain⟨e2,r1,r2,r3,r4,r5,r6,r7⟩:=hrun;refine⟨hlt,e2,h2,r1,lv',fv',w,fx.trans (.of y2),r2,r3,r4,r5,r6,?_,hlt,?_,?_,hf⟩
   ·rw[hfN,r7,No];rfl
   ·rw[hfY];exact ow.ext W' y2
   ·rw[hfN,hfY,xp];exact sl2
  |true=>
   rw[if_neg (by rw[hel];decide)]at hfN;rw[if_pos hel]at hfY;have hxx:x.a=a/\x.b=b/\x.c<c:=by
    unfold elB at hel;rw[xk,xk]at hel;exact⟨of_decide_eq_true hel.1.1,of_decide_eq_true hel.1.2,of_decide_eq_true hel.2⟩
   have d1:iEq x.a a=true:=CV hxx.1;have d2:iEq x.b b=true:=CV hxx.2.1;have d3:iLt x.c c=true:=GT hxx.2.2;obtain⟨h3,lv3,fv3,k3,f3,s3',hfr⟩:=VH (m:=m) y2.wf sl2 (by omega) (by omega) (hp3 x hxm);have ow3:h3.Own h.next 3 w (iv (O.map (·.p))):=(ow.ext W' y2).fx y2.wf f3 fun b hb h1=>by omega
   have n3:h.next<=h3.next:=by have:=fx.next;have:=y2.next;have:=f3.next;omega
   obtain⟨h5,w',k5,f5,ow5,kp5⟩:=jc (z:=x.p) f3.wf n3 ow3 (by rw[sh];omega);have bs:=fun (F:AEB) (e:Env) (he:J 134 e=AI AT (x.p:Int))=>Em (F:=F) f3.wf he
   have hm5:h5.bl.get A.bc=h3.bl.get A.bc:=f5.get _ ((s3'.dk.lt f3.wf).2.2) (fun h1=>by
    have:=hD A.bc (.inr (.inr (.inr rfl)));omega)
   have hf3:∀ b,AEe fv3 b->¬ AEe w b:=fun b hb h1=>by
    have:=hfr b hb;have:=ow.AKM W' h1;have:=y2.next;omega
   have s5:=s3'.app ow3 (fun b el L hb r=>(kp5 b el L hb r).1) hm5 hf3;have hf5:∀ b,AEe fv3 b->¬ AEe w' b:=fun b hb=>by
    obtain⟨el,L,r⟩:=s3'.fs.blk hb;exact(kp5 b el L (hf3 b hb) r).2
   have a3:=fun (g:Hp)=>CN (i:=P.length) (h:=g) (by omega)
   have k3':call AC (m+7) 104 [pt A.bs,AI AT (P.length:Int)] h2=.ok (AI AT (x.p:Int)) h3:=k3;have hrun:∃ e2,cmL (call AC (m+7)) e' h'=.norm e2 h5/\J 0 e2=pt A.bs/\J 1 e2=AI AT a/\J 2 e2=AI AT b/\J 3 e2=AI AT c/\J 15 e2=w'/\J 16 e2=AI AT (P.length:Int):=by
    unfold cmL;simp only[sT,By,BY,reduceIte,gD,Av,t0,Af,AH,AN,OF,AM,AP,l3,Ae,ln,AK,AJ,t16,c1,A8,ix,Ar,Aj,ld,al,AX,st,m0,m1,m2,t1,t2,t3,d1,d2,d3,cA0,k3',bs,BL,t15,k5];exact⟨_,rfl,by simp[AG,t0,t1,t2,t3,t16]⟩
   obtain⟨e2,r1,r2,r3,r4,r5,r6,r7⟩:=hrun;refine⟨hlt,e2,h5,r1,lv3,fv3,w',?_,r2,r3,r4,r5,r6,?_,hlt,?_,?_,hf5⟩
   ·exact((fx.trans (.of y2)).trans (f3.mono fun b hb=>.inl hb)).trans (f5.mono fun b hb=>.inr hb)
   ·rw[hfN];exact r7
   ·rw[hfY,yR];exact ow5
   ·rw[hfN,hfY,QO];exact s5
 ·right
  have hie:i=ks.length:=by omega
  subst hie;rw[yz]at *;rw[AAz,xZ]at sl ln;have c1:iLt (((ks.filter fun k=> !elB a b c k).length:Nat):Int) (((ks.filter fun k=> !elB a b c k).length:Nat):Int)=false:=DE (IT _);have hrun:∃ e2,cmL (call AC (m+7)) e' h'=.exit 1 e2 h'/\J 0 e2=pt A.bs/\J 15 e2=w:=by
   unfold cmL;simp only[sT,By,BY,reduceIte,Av,t0,Af,AH,AN,OF,AM,AP,l3,Ae,ln,AK,AJ,t16,c1];exact⟨_,rfl,by simp[AG,t0,t15]⟩
  obtain⟨e2,r1,r2,r3⟩:=hrun;rw[r1];exact⟨rfl,e2,h',lv',fv',w,rfl,fx.drop,r2,r3,ow,sl⟩
end
end
noncomputable section
open Go
set_option maxRecDepth 100000
theorem M9{α:Type}{l:List α}{j:Nat}{x:α}(h:l[j]? =some x):l.set j x=l:=by
 obtain⟨hj,rfl⟩:=xy.1 h;exact List.set_getElem_self hj
theorem PA{α:Type}{l:List α}{j:Nat}{x:α}(h:l[j]? =some x):l=l.take j++x::l.drop (j+1)/\(l.take j).length=j:=by
 obtain⟨hj,rfl⟩:=xy.1 h;refine⟨?_,by rw[yE];omega⟩;rw[<- zD hj,zQ]
theorem H5{a b c:Int}{k:Kt}(h:Bs a b c k=true):k.a=a/\k.b=b/\k.c=c:=by
 unfold Bs at h;rw[xk,xk]at h;exact⟨of_decide_eq_true h.1.1,of_decide_eq_true h.1.2,of_decide_eq_true h.2⟩
theorem wL{i:Nat}{g:Hp}(hi:i<=1000000):GG Int.sub .i64 (AI AT (i:Int)) (AI AT 1) g=.ok (AI AT ((i:Int) - 1)) g:=by
 cases i with
 |zero=>rw[Ck];rfl
 |succ n=>rw[Tj (by omega),show((n+1:Nat):Int) - 1=(n:Int)by omega]
theorem qO:dpS=BH (Ac 0 (A6 dpL)) dpE:=rfl
theorem qG:d67=gU:=rfl
section
variable {F:AEB}{e:Env}{h h':Hp}{A:At}{T M:List Nat}{c0 bad m k p n:Nat}{arm:Int}{ks:List Kt}{fr:List Nat}{lv fv:IN}
theorem ZB(W:h.Wf)(s:Sl h A T M c0 arm ks fr lv fv bad false){a b c z:Int}(hz:JC ks a b c=some z):
  ∃ h',call AC (m+8) 59 [pt A.bs,AI AT a,AI AT b,AI AT c] h=.ok (AI AT z) h'/\h.Ext h':=by
 have hkl:=s.le.1;have c00:iNe 0 0=false:=CE rfl;have k0:=NJ (m:=m+6) s.row;obtain⟨h1,k1,x1⟩:=F0 (m:=m+4) W s.row s.ls.ks (by omega) a b c;have s1:=s.ext W x1;obtain⟨_,_,_,l3,_⟩:=BF s1.row;obtain⟨h2,k2,x2⟩:=Gb (m:=m+3) x1.wf s1.row s1.ls.ks (by omega) a b c;have x12:=x1.trans x2;unfold JC at hz;rcases Dn (Bs a b c) ks 0 with ⟨e1,e2⟩|⟨j,kx,e1,e2,e3⟩
 ·rw[e1]at hz
  rw[e2]at k1;have c1:iGe (-1) 0=false:=Ea (by omega);have c2:iLt (-1) 0=true:=GT (by omega);simp only at hz;cases hst:CU a b c ks with
  |true=>
   rw[hst]at hz k2;rw[if_pos rfl]at hz;cases hz;refine⟨h2,?_,x12⟩;rw[Lz rfl,MC];unfold Oc;simp only[iN,IS,sT,By,BY,reduceIte,gD,cA0,k0,AK,AJ,c00,k1,c1,k2,lV0]
  |false=>
   rw[hst]at hz k2;rw[if_neg (by decide)]at hz;cases hz;refine⟨h2,?_,x12⟩;rw[Lz rfl,MC];unfold Oc;simp only[iN,IS,sT,By,BY,reduceIte,gD,cA0,k0,AK,AJ,c00,k1,c1,k2,c2,lV0]
 ·rw[e1]at hz
  rw[e3,OF]at k1;have hjl:=(xy.1 e2).1;have hkm:=xd e2;have c1:iGe (j:Int) 0=true:=F4 (by omega);have c3:iLt (j:Int) 0=false:=E5 (by omega);obtain⟨bb,_,ix,ld,lde⟩:=s1.ls.ks.at e2;have lst:=lde 3 (.int .u8 (kx.s:Int)) rfl;simp only at hz;by_cases hs2:kx.s=2
  ·rw[if_pos hs2]at hz
   cases hz;have c2:iEq (kx.s:Int) 2=true:=CV (by omega);refine⟨h1,?_,x1⟩;rw[Lz rfl,MC];unfold Oc;simp only[iN,IS,sT,By,BY,reduceIte,gD,cA0,k0,AK,AJ,c00,k1,c1,Av,Af,AH,AN,OF,yy,AM,AP,l3,A8,ix,lst,c2,lV0]
  ·rw[if_neg hs2]at hz
   have c2:iEq (kx.s:Int) 2=false:=B8 (by omega);cases hst:CU a b c ks with
   |true=>
    rw[hst]at hz k2;rw[if_pos rfl]at hz;cases hz;refine⟨h2,?_,x12⟩;rw[Lz rfl,MC];unfold Oc;simp only[iN,IS,sT,By,BY,reduceIte,gD,cA0,k0,AK,AJ,c00,k1,c1,Av,Af,AH,AN,OF,yy,AM,AP,l3,A8,ix,lst,c2,k2,lV0]
   |false=>
    rw[hst]at hz;rw[if_neg (by decide)]at hz;cases hz
theorem ZA(W:h.Wf)(s:Sl h A T M c0 arm ks fr lv fv bad false){a b c:Int}(hkl:fr.length+ks.length<=11)(hp3:∀ k∈ks,3*k.p+3<=A.n)(hnd:(ks.map (·.p)).Nodup)(ha:CA arm (k+20)):
  (∃ z h',JC ks a b c=some z/\call AC (m+8) 59 [pt A.bs,AI AT a,AI AT b,AI AT c] h=.ok (AI AT z) h'/\h.Ext h')\/
  (JC ks a b c=none/\∃ j kx h' c1 AEg lv' fv',ks[j]? =some kx/\(kx.a=a/\kx.b=b/\kx.c=c)/\kx.s=1/\ks.find? (Bs a b c)=some kx/\CU a b c ks=false/\call AC (m+8) 59 [pt A.bs,AI AT a,AI AT b,AI AT c] h=.ok (AI AT 0) h'/\Fx A.D h h'/\
   Sl h' A T (Gz (G7 M kx.p (AEc T a b c 2 kx.l)) (((ks.set j {kx with s:=2}).filter (elB a b c)).map (·.p))) c1 AEg ((ks.set j {kx with s:=2}).filter fun k=> !elB a b c k) (frE fr ((ks.set j {kx with s:=2}).filter (elB a b c))) lv' fv' bad false/\CA AEg k):=by
 cases hz:JC ks a b c with
 |some z=>
  obtain⟨h',k1,x1⟩:=ZB (m:=m) W s hz;exact .inl ⟨z,h',rfl,k1,x1⟩
 |none=>
  right;unfold JC at hz;rcases Dn (Bs a b c) ks 0 with ⟨e1,e2⟩|⟨j,kx,e1,e2,e3⟩
  ·rw[e1]at hz
   simp only at hz;split at hz<;>cases hz
  rw[e1]at hz;simp only at hz;split at hz
  ·cases hz
  rename_i hs2;split at hz
  ·cases hz
  rename_i hst;have AGY:CU a b c ks=false:=by
   cases hq:CU a b c ks
   ·rfl
   ·exact absurd hq hst
  have hkm:=xd e2;have hs1:kx.s=1:=(s.ko kx hkm).2.2.2.1.resolve_right hs2;have AFP:=H5 (ABF e1);rw[OF]at e3;obtain⟨h12,c9,AGQ,w10,e2',r1,u0,u1,u2,u3,u15,u16,AHi,s12,a9⟩:=ZD (m:=m) (k:=k+15) W s e2 hs1 e3 AFP AGY (hp3 kx hkm) s.le.1 (ha.le (by omega));have sm:(ks.set j {kx with s:=2}).map (·.p)=ks.map (·.p):=by
   rw[ABp];exact M9 (by rw[yk,e2];rfl)
  have AJC:∀ x∈ks.set j {kx with s:=2},3*x.p+3<=A.n:=fun x hx=>by
   rcases List.mem_or_eq_of_mem_set hx with h1|h1
   ·exact hp3 x h1
   ·rw[h1];exact hp3 kx hkm
  have hsl:(ks.set j {kx with s:=2}).length=ks.length:=List.length_set;generalize hX:ks.set j {kx with s:=2}=ksX at *;obtain⟨e3',h13,lv3,fv3,w,r2,f13,v0,v15,ow,s13⟩:=Y9 (m:=m) (a:=a) (b:=b) (c:=c) AHi.wf s12 (by omega) AJC u0 u1 u2 u3 u15 u16;have hfl:(ksX.filter (elB a b c)).length<=ksX.length:=zJ _ _;have hos:((ksX.filter (elB a b c)).map (·.p)).Nodup:=ABX (ACi.map _) (sm ▸ hnd);have hol:((ksX.filter (elB a b c)).map (·.p)).length<=11:=by rw[sh];omega
  obtain⟨h14,c14,AFk,k14,f14,s14,a14⟩:=Kk (m:=m+1) (k:=k) f13.wf s13 (ps:=(ksX.filter (elB a b c)).map fun x:Kt=>x.p) (pv:=w) ow.vals (fun p hp=>by
   obtain⟨x,hx,rfl⟩:=yl.1 hp;exact AJC x ((yS.1 hx).1)) hos (by omega) (a9.le (by omega))
  have AIM:call AC (m+7) 81 [pt A.bs,w] h13=.ok (AI AT 0) h14:=k14;refine⟨rfl,j,kx,h14,c14,AFk,lv3,fv3,e2,AFP,hs1,e1,AGY,?_,(AHi.trans (f13.mono fun b hb=>.inl hb)).trans (f14.mono fun b hb=>.inr hb),by rw[hX];exact s14,a14⟩;rw[Lz rfl,MC,r1,pk];simp only[BJ,Az,r2,A9,BD];unfold cmE;simp only[sT,By,BY,reduceIte,cA0,v0,v15,AIM,lV0]
def abE(ks:List Kt)(a b c:Int):Option Int:=if CU a b c ks=true then some 61 else match ks.find? (Bs a b c)with
 |some _=>none
 |none=>some 0
theorem mH(W:h.Wf)(s:Sl h A T M c0 arm ks fr lv fv bad false){a b c z:Int}(hz:abE ks a b c=some z):
  ∃ h',call AC (m+9) 60 [pt A.bs,AI AT a,AI AT b,AI AT c] h=.ok (AI AT z) h'/\h.Ext h':=by
 have AKN:=s.le.1;have c00:iNe 0 0=false:=CE rfl;have k0:=NJ (m:=m+7) s.row;obtain⟨h1,k1,x1⟩:=F0 (m:=m+5) W s.row s.ls.ks (by omega) a b c;have s1:=s.ext W x1;obtain⟨h2,k2,x2⟩:=Gb (m:=m+4) x1.wf s1.row s1.ls.ks (by omega) a b c;have x12:=x1.trans x2;unfold abE at hz;cases hst:CU a b c ks with
 |true=>
  rw[hst]at k2 hz;rw[if_pos rfl]at hz;cases hz;refine⟨h2,?_,x12⟩;rw[Sf rfl];unfold d60;simp only[iN,IS,sT,By,BY,reduceIte,gD,cA0,k0,AK,AJ,c00,k1,k2,lV0]
 |false=>
  rw[hst]at k2 hz;rw[if_neg (by decide)]at hz;rcases Dn (Bs a b c) ks 0 with ⟨e1,e2⟩|⟨j,kx,e1,e2,e3⟩
  ·rw[e2]at k1
   rw[e1]at hz;cases hz;have c2:iLt (-1) 0=true:=GT (by omega);refine⟨h2,?_,x12⟩;rw[Sf rfl];unfold d60;simp only[iN,IS,sT,By,BY,reduceIte,gD,cA0,k0,AK,AJ,c00,k1,k2,c2,lV0]
  ·rw[e1]at hz
   cases hz
theorem WX(W:h.Wf)(s:Sl h A T M c0 arm ks fr lv fv bad false){a b c:Int}(hkl:fr.length+ks.length<=11)(hp3:∀ k∈ks,3*k.p+3<=A.n)(ha:CA arm (k+2)):
  (∃ z h',abE ks a b c=some z/\call AC (m+9) 60 [pt A.bs,AI AT a,AI AT b,AI AT c] h=.ok (AI AT z) h'/\h.Ext h')\/
  (abE ks a b c=none/\∃ j kx h' c1 AEg lv' fv',ks[j]? =some kx/\(kx.a=a/\kx.b=b/\kx.c=c)/\ks.find? (Bs a b c)=some kx/\CU a b c ks=false/\call AC (m+9) 60 [pt A.bs,AI AT a,AI AT b,AI AT c] h=.ok (AI AT 0) h'/\Fx A.D h h'/\
   Sl h' A T (Gz M [kx.p]) c1 AEg (ks.take j++ks.drop (j+1)) (Ed (fr++[kx.p])) lv' fv' bad false/\CA AEg k):=by
 cases hz:abE ks a b c with
 |some z=>
  obtain⟨h',k1,x1⟩:=mH (m:=m) W s hz;exact .inl ⟨z,h',rfl,k1,x1⟩
 |none=>
  have AKN:=s.le.1;have c00:iNe 0 0=false:=CE rfl;have k0:=NJ (m:=m+7) s.row;obtain⟨h1,k1,x1⟩:=F0 (m:=m+5) W s.row s.ls.ks (by omega) a b c;have s1:=s.ext W x1;obtain⟨h2,k2,x2⟩:=Gb (m:=m+4) x1.wf s1.row s1.ls.ks (by omega) a b c;have x12:=x1.trans x2;unfold abE at hz;cases hst:CU a b c ks with
  |true=>
   rw[hst]at hz;rw[if_pos rfl]at hz;cases hz
  |false=>
   rw[hst]at k2 hz;rw[if_neg (by decide)]at hz;rcases Dn (Bs a b c) ks 0 with ⟨e1,e2⟩|⟨j,kx,e1,e2,e3⟩
   ·rw[e1]at hz
    cases hz
   ·rw[e3,OF]at k1
    have c2:iLt (j:Int) 0=false:=E5 (by omega);have hkm:=xd e2;have AFP:=H5 (ABF e1);obtain⟨q1,q2⟩:=PA e2;have s2:=s.ext W x12;have s2':Sl h2 A T M c0 arm (ks.take j++kx::ks.drop (j+1)) fr lv fv bad false:=by rw[<- q1];exact s2
    obtain⟨h3,c1,AEg,lv',fv',k3,f3,s3,a3⟩:=bN (m:=m) (k:=k) x12.wf s2' (by rw[<- q1];omega) (by omega) (hp3 kx hkm) ha;rw[q2]at k3;have k3':call AC (m+8) 105 [pt A.bs,AI AT (j:Int)] h2=.ok (AI AT 0) h3:=k3;refine .inr ⟨rfl,j,kx,h3,c1,AEg,lv',fv',e2,AFP,e1,rfl,?_,(Fx.of x12).trans f3,s3,a3⟩;rw[Sf rfl];unfold d60;simp only[iN,IS,sT,By,BY,reduceIte,gD,cA0,k0,AK,AJ,c00,k1,k2,c2,k3',lV0]
def drB(a b c:Int)(k:Kt):Bool:=decide (k.a=a) && decide (k.b=b) && decide (k.c<=c)
def IU(M:List Nat)(out:List Kt):List Nat:=out.foldl (fun M x=>Gz M [x.p]) M
theorem Su(M:List Nat)(out:List Kt)(x:Kt):IU M (out++[x])=Gz (IU M out) [x.p]:=by unfold IU;rw[ABk];rfl
def drO(a b c:Int)(ks:List Kt):List Kt:=(ks.filter (drB a b c)).reverse
theorem Zc(a b c:Int)(x:Kt)(ks:List Kt):drO a b c (x::ks)=if drB a b c x=true then drO a b c ks++[x]else drO a b c ks:=by
 unfold drO;cases h:drB a b c x
 ·rw[if_neg (by decide),zT (by rw[h];decide)]
 ·rw[if_pos rfl,zS h,List.reverse_cons]
theorem gc(a b c:Int)(x:Kt)(ks:List Kt):(drO a b c (ks++[x])).length=(drO a b c ks).length+if drB a b c x=true then 1 else 0:=by
 unfold drO;rw[AAb,AAb,MJ];split
 ·rw[No];rfl
 ·rfl
theorem Xb{a b c:Int}(W:h.Wf)(s:Sl h A T M c0 arm ks fr lv fv bad false)(hkl:fr.length+ks.length<=11)(hp3:∀ k∈ks,3*k.p+3<=A.n)(ha:CA arm (k+2*(drO a b c ks).length))(s0:J 0 e=pt A.bs)(s1:J 1 e=AI AT a)(s2:J 2 e=AI AT b)(s3:J 3 e=AI AT c)(s10:J 10 e=AI AT ((ks.length:Int) - 1)):
  ∃ e' h' c1 AEg lv' fv',A6 dpL (call AC (m+8)) e h=.exit 0 e' h'/\Fx A.D h h'/\Sl h' A T (IU M (drO a b c ks)) c1 AEg (ks.filter fun k=> !drB a b c k) (frE fr (drO a b c ks)) lv' fv' bad false/\CA AEg k:=by
 refine Be (I:=fun t e' h'=>∃ i c1 AEg lv' fv',i+t=ks.length/\Fx A.D h h'/\J 0 e'=pt A.bs/\J 1 e'=AI AT a/\J 2 e'=AI AT b/\J 3 e'=AI AT c/\J 10 e'=AI AT ((i:Int) - 1)/\
   Sl h' A T (IU M (drO a b c (ks.drop i))) c1 AEg (ks.take i++(ks.drop i).filter fun k=> !drB a b c k) (frE fr (drO a b c (ks.drop i))) lv' fv' bad false/\CA AEg (k+2*(drO a b c (ks.take i)).length))
  (Q:=fun x=>∃ e' h' c1 AEg lv' fv',x=.exit 0 e' h'/\Fx A.D h h'/\Sl h' A T (IU M (drO a b c ks)) c1 AEg (ks.filter fun k=> !drB a b c k) (frE fr (drO a b c ks)) lv' fv' bad false/\CA AEg k) ks.length (by omega) (fun t e' h' ⟨i,c1,AHP,lv',fv',hit,fx,t0,t1,t2,t3,t10,sl,am⟩=>?_) ⟨ks.length,c0,arm,lv,fv,rfl,.refl W,s0,s1,s2,s3,s10,by rw[yz,AAz,ABG,xZ];exact s,by rw[yz];exact ha⟩
 have W':=fx.wf;cases i with
 |zero=>
  right;rw[List.take_zero,yP,yf]at sl;have c2:iGe (((0:Nat):Int) - 1) 0=false:=Ea (by omega);obtain⟨e2,r1⟩:∃ e2,dpL (call AC (m+8)) e' h'=.exit 0 e2 h':=by
   unfold dpL;simp only[sT,By,BY,reduceIte,AK,AJ,t10,c2];exact⟨_,rfl⟩
  rw[r1];exact⟨rfl,e2,h',c1,AHP,lv',fv',rfl,fx,sl,am.le (Nat.le_add_right _ _)⟩
 |succ i=>
  left;have hlt:i<ks.length:=by omega
  obtain⟨x,hx⟩:∃ x,ks[i]? =some x:=⟨_,xL hlt⟩;have hxm:=xd hx;have htk:ks.take (i+1)=ks.take i++[x]:=by rw[ACr,hx];rfl
  have hdr:ks.drop i=x::ks.drop (i+1):=by
   rw[zD hlt];rw[xL hlt]at hx;injection hx with hx
   rw[hx]
  have hdl:=gc a b c x (ks.take i);rw[<- htk]at hdl;have hPl:(ks.take i).length=i:=by rw[yE];omega
  have hdo:=Zc a b c x (ks.drop (i+1));rw[<- hdr]at hdo;have hol:(drO a b c (ks.drop (i+1))).length<=ks.length - (i+1):=by
   unfold drO;rw[AAb,<- yd];exact zJ _ _
  have hRl:((ks.drop (i+1)).filter fun k=> !drB a b c k).length<=ks.length - (i+1):=by
   rw[<- yd];exact zJ _ _
  have hfi:(ks.drop i).filter (fun k=> !drB a b c k)=if drB a b c x=true then(ks.drop (i+1)).filter (fun k=> !drB a b c k)else x::(ks.drop (i+1)).filter (fun k=> !drB a b c k):=by
   rw[hdr];cases h:drB a b c x
   ·rw[if_neg (by decide),zS (by rw[h];rfl)]
   ·rw[if_pos rfl,zT (by rw[h];decide)]
  generalize hP:ks.take i=P at *;generalize hR:(ks.drop (i+1)).filter (fun k=> !drB a b c k)=R at *;generalize hO:drO a b c (ks.drop (i+1))=O at *;rw[htk,xp]at sl;have sl:Sl h' A T (IU M O) c1 AHP (P++x::R) (frE fr O) lv' fv' bad false:=sl;have hle:(P++x::R).length=i+1+R.length:=by rw[No,xP,hPl];omega
  obtain⟨_,_,_,l3,_⟩:=BF sl.row;have t10:J 10 e'=AI AT (i:Int):=by rw[t10,show((i+1:Nat):Int) - 1=(i:Int)by omega]
  have c2:iGe (i:Int) 0=true:=F4 (by omega);obtain⟨b',_,ix,ld,_⟩:=sl.ls.at (i:=P.length) (k:=x) F8;rw[hPl]at ix ld;have al:=fun (F:AEB) (e:Env)=>BQ (F:=F) (e:=e) W' (n:=6) (t:=CO)
  have Ra:=Hp.Row.alloc W' FA (show(AY K0).length=6 from rfl);have y1:h'.Ext (h'.push (.cells CO 6 0)):=(Hp.Ext.refl W').push _;generalize h'.push (.cells CO 6 0)=h1 at al Ra y1;have hu:=(sl.ko x (yI _ xT)).1.vs.one.2.1;obtain⟨st,_,y2,R5,n2⟩:=Kh W' y1 (IT _) Ra rfl (k:=x) hu;generalize h1.wr h'.next 0 (AY x)=h2 at st y2 R5 n2;obtain⟨m0,m1,m2,_⟩:=Bw R5;have sl2:=sl.ext W' y2;have sb:=fun (g:Hp)=>wL (i:=i) (g:=g) (by omega)
  cases hel:drB a b c x with
  |false=>
   rw[if_neg (by rw[hel];decide)]at hdo hfi;have hrun:∃ e2,dpL (call AC (m+8)) e' h'=.norm e2 h2/\J 0 e2=pt A.bs/\J 1 e2=AI AT a/\J 2 e2=AI AT b/\J 3 e2=AI AT c/\J 10 e2=AI AT ((i:Int) - 1):=by
    unfold dpL;by_cases h1:x.a=a
    ·have d1:iEq x.a a=true:=CV h1
     by_cases h2:x.b=b
     ·have d2:iEq x.b b=true:=CV h2
      have d3:iLe x.c c=false:=JV (fun h3=>by
       unfold drB at hel;rw[decide_eq_true h1,decide_eq_true h2,decide_eq_true h3]at hel;cases hel)
      simp only[sT,By,BY,reduceIte,gD,Av,t0,Af,AH,AN,OF,AM,AP,l3,AK,AJ,t10,c2,A8,ix,Ar,Aj,ld,al,AX,st,m0,m1,m2,t1,t2,t3,d1,d2,d3,B5,sb];exact⟨_,rfl,by simp[AG,t0,t1,t2,t3]⟩
     ·have d2:iEq x.b b=false:=B8 h2
      simp only[sT,By,BY,reduceIte,gD,Av,t0,Af,AH,AN,OF,AM,AP,l3,AK,AJ,t10,c2,A8,ix,Ar,Aj,ld,al,AX,st,m0,m1,m2,t1,t2,t3,d1,d2,B5,sb];exact⟨_,rfl,by simp[AG,t0,t1,t2,t3]⟩
    ·have d1:iEq x.a a=false:=B8 h1
     simp only[sT,By,BY,reduceIte,gD,Av,t0,Af,AH,AN,OF,AM,AP,l3,AK,AJ,t10,c2,A8,ix,Ar,Aj,ld,al,AX,st,m0,m1,m2,t1,t2,t3,d1,B5,sb];exact⟨_,rfl,by simp[AG,t0,t1,t2,t3]⟩
   obtain⟨e2,r1,r2,r3,r4,r5,r6⟩:=hrun;refine⟨by omega,e2,h2,r1,i,c1,AHP,lv',fv',by omega,fx.trans (.of y2),r2,r3,r4,r5,r6,?_,am.le (by rw[hdl,hP];omega)⟩;rw[hdo,hfi,hP];exact sl2
  |true=>
   rw[if_pos hel]at hdo hfi;have hxx:x.a=a/\x.b=b/\x.c<=c:=by
    unfold drB at hel;rw[xk,xk]at hel;exact⟨of_decide_eq_true hel.1.1,of_decide_eq_true hel.1.2,of_decide_eq_true hel.2⟩
   have d1:iEq x.a a=true:=CV hxx.1;have d2:iEq x.b b=true:=CV hxx.2.1;have d3:iLe x.c c=true:=HT hxx.2.2;have c00:iNe 0 0=false:=CE rfl;have hfl:=VC fr O;obtain⟨h3,c3,AKO,lv3,fv3,k3,f3,s3',a3⟩:=bN (m:=m) (k:=k+2*(drO a b c P).length) y2.wf sl2 (by omega) (by omega) (hp3 x hxm) (am.le (by rw[hdl,if_pos hel];omega));rw[hPl]at k3;have k3':call AC (m+8) 105 [pt A.bs,AI AT (i:Int)] h2=.ok (AI AT 0) h3:=k3;have hrun:∃ e2,dpL (call AC (m+8)) e' h'=.norm e2 h3/\J 0 e2=pt A.bs/\J 1 e2=AI AT a/\J 2 e2=AI AT b/\J 3 e2=AI AT c/\J 10 e2=AI AT ((i:Int) - 1):=by
    unfold dpL;simp only[sT,By,BY,reduceIte,gD,Av,t0,Af,AH,AN,OF,AM,AP,l3,AK,AJ,t10,c2,A8,ix,Ar,Aj,ld,al,AX,st,m0,m1,m2,t1,t2,t3,d1,d2,d3,cA0,k3',c00,B5,sb];exact⟨_,rfl,by simp[AG,t0,t1,t2,t3]⟩
   obtain⟨e2,r1,r2,r3,r4,r5,r6⟩:=hrun;refine⟨by omega,e2,h3,r1,i,c3,AKO,lv3,fv3,by omega,(fx.trans (.of y2)).trans f3,r2,r3,r4,r5,r6,?_,by rw[hP];exact a3⟩;rw[hdo,hfi,hP,Su,QO];exact s3'
theorem Ze(W:h.Wf)(s:Sl h A T M c0 arm ks fr lv fv bad false)(a b c:Int)(hkl:fr.length+ks.length<=11)(hp3:∀ k∈ks,3*k.p+3<=A.n)(ha:CA arm (k+2*(drO a b c ks).length)):
  ∃ h' c1 AEg lv' fv',call AC (m+9) 67 [pt A.bs,AI AT a,AI AT b,AI AT c] h=.ok (AI AT 0) h'/\Fx A.D h h'/\Sl h' A T (IU M (drO a b c ks)) c1 AEg (ks.filter fun k=> !drB a b c k) (frE fr (drO a b c ks)) lv' fv' bad false/\CA AEg k:=by
 have c00:iNe 0 0=false:=CE rfl;have k0:=NJ (m:=m+7) s.row;obtain⟨_,_,_,l3,_⟩:=BF s.row;have ln:=s.ls.len h;have sb:=wL (i:=ks.length) (g:=h) (by omega);have pre:∃ e1,gU (call AC (m+8)) (AS e0 0 [pt A.bs,AI AT a,AI AT b,AI AT c]) h=dpS (call AC (m+8)) e1 h/\J 0 e1=pt A.bs/\J 1 e1=AI AT a/\J 2 e1=AI AT b/\J 3 e1=AI AT c/\J 10 e1=AI AT ((ks.length:Int) - 1):=by
  unfold gU;simp only[iN,IS,sT,By,BY,reduceIte,gD,cA0,k0,AK,AJ,c00,Av,Af,AH,AN,OF,AM,AP,l3,Ae,ln,B5,sb];exact⟨_,rfl,by simp[AG]⟩
 obtain⟨e1,p1,t0,t1,t2,t3,t10⟩:=pre;obtain⟨e2,h2,c1,AEg,lv',fv',r2,f2,s2,a2⟩:=Xb (m:=m) (k:=k) W s hkl hp3 ha t0 t1 t2 t3 t10;refine⟨h2,c1,AEg,lv',fv',?_,f2,s2,a2⟩;rw[pG rfl,qG,p1,qO];simp only[BJ,Az,r2,A9,BD];unfold dpE;simp only[sT,By,BY,reduceIte,lV0]
end
end
noncomputable section
open Go
set_option maxRecDepth 100000
theorem U9:∀ (ks:List Kt) (i:Nat) (k:Kt),ks[i]? =some k->((flS ks).drop (5*i)).take 5=KD k
 |[],i,k,h=>by cases h
 |x::ks,0,k,h=>by
  have h:some x=some k:=h;cases h;show((KD x++flS ks).drop 0).take 5=_;rw[yf];exact List.take_left' rfl
 |x::ks,i+1,k,h=>by
  rw[List.getElem?_cons_succ]at h;show((KD x++flS ks).drop (5*(i+1))).take 5=_;have:5*(i+1)=(KD x).length+5*i:=by show _=5+_;omega
  rw[this,AAP];exact U9 ks i k h
section
variable {F:AEB}{e:Env}{h h':Hp}{A:At}{bad m k n:Nat}{ks:List Kt}{v lv fv w:IN}{ov:Bool}
theorem SL{h:Hp}{u:IN}{xs:List IN}(V:h.AEY u xs):known u=true/\cellsOf u=[u]/\oneCell u=true:=by
 rcases V with ⟨rfl,rfl⟩|⟨b,off,c,el,L,rfl,_⟩<;>exact⟨rfl,rfl,rfl⟩
theorem RZ{h:Hp}{b el el':Nat}{L L':List IN}(r:h.Row b el L)(r':h.Row b el' L'):L=L':=by
 obtain⟨c,hc,hl⟩:=r;obtain⟨c',hc',hl'⟩:=r';rw[hc]at hc';injection hc' with e1 e2 e3
 subst e1;refine AC3 e2 fun i h1 h2=>?_
 have a1:=(hl i h1).2;have a2:=(hl' i h2).2;rw[a1,xN,xN,xL h1,xL h2]at a2;exact a2
theorem Hp.AL.len(o:h.AL k v ks)(g:Hp):AEv v g=.ok (AI AT (ks.length:Int)) g:=by
 rcases o with ⟨rfl,rfl⟩|⟨b,L,rfl,_⟩<;>rfl
theorem Hp.AL.keep(o:h.AL k v ks)(hk:∀ b el L,k<=b->h.Row b el L->h'.Row b el L):h'.AL k v ks:=by
 rcases o with h1|⟨b,L,h1,h2,h3,h4,h5⟩
 ·exact .inl h1
 ·exact .inr ⟨b,L,h1,hk _ _ _ h4 h2,h3,h4,fun x hx=>(h5 x hx).keep fun b el L hb _ r=>hk b el L hb r⟩
theorem Hp.AL.ext(o:h.AL k v ks)(W:h.Wf)(x:h.Ext h'):h'.AL k v ks:=o.keep fun b el L _ r=>r.ext W x
theorem Hp.AL.at(o:h.AL k v ks){i:Nat}{x:Kt}(hi:ks[i]? =some x):∃ b u,AE6 5 v (AI AT (i:Int)) h=.ok (.pointer (some ⟨b,5*i,none⟩)) h/\loadN 5 ⟨b,5*i,none⟩ h=.ok (Bn x.a x.b x.c x.s u) h/\h.AEY u (x.l.map bv):=by
 have hil:=(xy.1 hi).1;rcases o with ⟨rfl,rfl⟩|⟨b,L,rfl,h2,h3,h4,h5⟩
 ·cases hi
 ·have hLl:L.length=ks.length:=by rw[<- sh (f:=Kt.core),h3,sh]
  obtain⟨y,hy⟩:∃ y,L[i]? =some y:=⟨_,xL (by omega)⟩;have hc:=U9 L i y hy;have hyx:y.core=x.core:=by
   have h6:=congrArg (fun l=>l[i]?) h3;simp only[yk,hy,hi,yx]at h6;injection h6
  have e1:y.a=x.a:=congrArg Kc.a hyx;have e2:y.b=x.b:=congrArg Kc.b hyx;have e3:y.c=x.c:=congrArg Kc.c hyx;have e4:y.s=x.s:=congrArg Kc.s hyx;have e5:y.l=x.l:=congrArg Kc.l hyx;refine⟨b,y.u,?_,?_,?_⟩
  ·have:=DT (h:=h) (n:=ks.length) (c:=ks.length) (es:=5) (b:=b) (off:=0) (i:=i) (k:=.i64) hil
   rwa [OF,zW]at this
  ·rw[h2.loadN (by rw[Oj,hLl];omega),hc,<- e1,<- e2,<- e3,<- e4];rfl
  ·rw[<- e5];exact(h5 y (xd hy)).vs.vals
theorem NB(W:h.Wf){g:O}{a b c:Int}{s:Nat}{u:IN}(hg:g e=Bn a b c s u):CZ g F e h=.ok (pt h.next) (h.AEA 0 (A2 a b c s u)):=by rw[Ew,hg,Et W];rfl
theorem br(W:h.Wf){a b c:Int}{s:Nat}{u w:IN}{l:List Nat}(U:h.AEY u (l.map bv))(V:h.AEY w (l.map bv))(hl:∀ x∈l,x<256):
  ∃ h',call AC (m+2) 41 [Bn a b c s u,Bn a b c s w] h=.ok (.bool true) h'/\h.Ext h':=by
 have b1:=fun (F:AEB) (e:Env) (he:J 0 e=Bn a b c s u)=>NB (F:=F) W he
 have x1:=(Hp.Ext.refl W).AEA 0 (A2 a b c s u);have R1:=Hp.Row.new W 0 (A2 a b c s u);generalize h.AEA 0 (A2 a b c s u)=h1 at b1 x1 R1;have b2:=fun (F:AEB) (e:Env) (he:J 1 e=Bn a b c s w)=>NB (F:=F) x1.wf he
 have y2:=(Hp.Ext.refl x1.wf).AEA 0 (A2 a b c s w);have R2:=Hp.Row.new x1.wf 0 (A2 a b c s w);generalize h1.AEA 0 (A2 a b c s w)=h2 at b2 y2 R2;have x2:=x1.trans y2;obtain⟨l0,l1,l2,l3,l4,_⟩:=Bq (R1.ext x1.wf y2);obtain⟨m0,m1,m2,m3,m4,_⟩:=Bq R2;have ca:∀ z:Int,iEq z z=true:=fun z=>CV rfl
 have k1:=wI (n:=m) (U.ext W x2) (V.ext W x2) hl hl;rw[decide_eq_true rfl]at k1;refine⟨h2,?_,x2⟩;rw[oo rfl];unfold d41;simp only[iN,IS,sT,By,BY,reduceIte,gD,b1,b2,AH,AN,OF,AM,AP,l0,l1,l2,l3,l4,m0,m1,m2,m3,m4,AK,AJ,ca,cA0,k1,lV0]
theorem sH:smS=BH (Ac 0 (A6 smL)) smE:=rfl
theorem py:d15=gO:=rfl
theorem jr{ks':List Kt}{k':Nat}(W:h.Wf)(V:h.AL k v ks)(V':h.AL k' w ks')(hc:ks.map Kt.core=ks'.map Kt.core)(hb:∀ x∈ks,∀ y∈x.l,y<256)(hl:ks.length<=1000):
  ∃ h',call AC (m+3) 15 [v,w] h=.ok (.bool true) h'/\h.Ext h':=by
 have hll:ks.length=ks'.length:=by rw[<- sh (f:=Kt.core),hc,sh]
 have ln:=V.len h;have ln':=V'.len h;have c00:iNe (ks.length:Int) (ks'.length:Int)=false:=CE (by rw[hll]);have pre:∃ e1,gO (call AC (m+2)) (AS e0 0 [v,w]) h=smS (call AC (m+2)) e1 h/\J 0 e1=v/\J 1 e1=w/\J 5 e1=AI AT ((0:Nat):Int):=by
  unfold gO;simp only[iN,IS,sT,By,BY,reduceIte,Ae,ln,ln',AK,AJ,c00];exact⟨_,rfl,by simp[AG]⟩
 obtain⟨e1,p1,t0,t1,t5⟩:=pre;have run:∃ e2 h2,A6 smL (call AC (m+2)) e1 h=.exit 0 e2 h2/\h.Ext h2:=by
  refine Be (I:=fun i e' h'=>h.Ext h'/\J 0 e'=v/\J 1 e'=w/\J 5 e'=AI AT (i:Int)/\i<=ks.length)
   (Q:=fun x=>∃ e2 h2,x=.exit 0 e2 h2/\h.Ext h2) ks.length (by omega) (fun i e' h' ⟨x',u0,u1,u5,hi⟩=>?_) ⟨.refl W,t0,t1,t5,yC _⟩
  have W':=x'.wf;have ln:=V.len h';by_cases hlt:i<ks.length
  ·left
   have c1:=Ep hlt;obtain⟨x,hx⟩:∃ x,ks[i]? =some x:=⟨_,xL hlt⟩;obtain⟨y,hy⟩:∃ y,ks'[i]? =some y:=⟨_,xL (by omega)⟩;have hyx:x.core=y.core:=by
    have h6:=congrArg (fun l=>l[i]?) hc;simp only[yk,hy,hx,yx]at h6;injection h6
   have e1:x.a=y.a:=congrArg Kc.a hyx;have e2:x.b=y.b:=congrArg Kc.b hyx;have e3:x.c=y.c:=congrArg Kc.c hyx;have e4:x.s=y.s:=congrArg Kc.s hyx;have e5:x.l=y.l:=congrArg Kc.l hyx;have xm:=x'.marked;obtain⟨b1,u,ix1,ld1,U⟩:=(V.ext W xm).at hx;obtain⟨b2,u',ix2,ld2,U'⟩:=(V'.ext W xm).at hy;rw[<- e1,<- e2,<- e3,<- e4]at ld2;rw[<- e5]at U';obtain⟨g,k6,x6⟩:=br (m:=m) (a:=x.a) (b:=x.b) (c:=x.c) (s:=x.s) xm.quiet.wf (U.same (h':=h'.marked.quiet) rfl) (U'.same (h':=h'.marked.quiet) rfl) (hb x (xd hx));have q6:∀ e:Env,J 20 e=Bn x.a x.b x.c x.s u->J 24 e=Bn x.a x.b x.c x.s u'->Ad .free (AU 41 [J 20,J 24]) (call AC (m+2)) e h'.marked=.ok (.bool true) (h'.marked.back g):=fun e e1 e2=>by
    refine BI ?_;rw[BN,AV,AV,A0,e1,e2];exact k6
   have y7:h'.Ext (h'.marked.back g):=(Hp.Ext.refl W').marked.trans (.back x6);generalize h'.marked.back g=h7 at q6 y7;have a3:=CN (i:=i) (h:=h7) (by omega);have hrun:∃ e2,smL (call AC (m+2)) e' h'=.norm e2 h7/\J 0 e2=v/\J 1 e2=w/\J 5 e2=AI AT ((i+1:Nat):Int):=by
    unfold smL;simp only[sT,By,BY,reduceIte,Ae,u0,ln,AK,AJ,u5,c1,Ay,A8,ix1,Ar,Aj,ld1,u1,ix2,ld2,q6,BZ,BX,Bool.not_true,BP,a3];exact⟨_,rfl,by simp[AG,u0,u1]⟩
   obtain⟨e2,r1,r2,r3,r4⟩:=hrun;exact⟨hlt,e2,h7,r1,x'.trans y7,r2,r3,r4,hlt⟩
  ·right
   have c1:=DE (show ks.length<=i by omega);obtain⟨e2,r1⟩:∃ e2,smL (call AC (m+2)) e' h'=.exit 0 e2 h':=by
    unfold smL;simp only[sT,By,BY,reduceIte,Ae,u0,ln,AK,AJ,u5,c1];exact⟨_,rfl⟩
   rw[r1];exact⟨rfl,e2,h',rfl,x'⟩
 obtain⟨e2,h2,r1,x2⟩:=run;refine⟨h2,?_,x2⟩;rw[oP rfl,py,p1,sH];simp only[BJ,Az,r1,A9,BD];unfold smE;simp only[sT,By,BY,reduceIte,lV0]
theorem jk{k:TK}{t:Nat}{a:Addr}{g:O}(hk:k=.ptr t)(hg:g e=.pointer (some a)):oEq k true g (kV (.pointer none)) F e h=.ok (.bool true) h:=by
 subst hk;show(match eqV (.ptr t) (g e) (.pointer none)with|some r=>okB (true != r) h|none=>.no)=_;rw[hg];exact FC
theorem Vv(R:h.Row A.bs 0 (slL A.bd A.tb lv fv bad ov)):call AC (m+1) 53 [pt A.bs] h=.ok (.bool ov) h:=by
 obtain⟨_,_,_,_,_,_,l6⟩:=BF R;have p1:∀ (F:AEB) (e:Env) (g:Hp),J 0 e=pt A.bs->oEq Hs.k true (J 0) (kV (.pointer none)) F e g=.ok (.bool true) g:=fun F e g he=>jk WM he
 rw[oy rfl];unfold d53;simp only[iN,IS,sT,By,BY,reduceIte,gD,p1,Av,Af,AH,AN,OF,AM,AP,l6,lV0]
end
end
noncomputable section
open Go
set_option maxRecDepth 100000
def opL(kd a b c n:Int)(u w:IN):List IN:=[AI AT kd,AI AT a,AI AT b,AI AT c,AI AT n,u,w]
def opV(kd a b c n:Int)(u w:IN):IN:=.agg ⟨opL kd a b c n u w⟩
def S2(kd:Int):Prop:=kd=1\/kd=2\/kd=3\/kd=4
def kT(ks:List Kt)(n:Nat)(kd a b c:Int)(l:List Nat)(z:Int):Prop:=
 (S2 kd/\HE ks n a b c l=some z)\/((kd=5\/kd=6)/\JC ks a b c=some z)\/(kd=7/\abE ks a b c=some z)\/(kd=8/\drO a b c ks=[]/\z=0)\/(¬ S2 kd/\kd≠5/\kd≠6/\kd≠7/\kd≠8/\z=0)
def SS(T M:List Nat)(ks:List Kt)(fr:List Nat)(kd a b c:Int)(l M':List Nat)(ks':List Kt)(fr':List Nat):Prop:=
 (S2 kd/\HE ks fr.length a b c l=none/\∃ p k',fr=p::fr'/\ks'=EG (ks++[k'])/\k'.core=⟨a,b,c,1,l,p⟩/\M'=Dw T M p l (AEc T a b c 1 l))\/
 ((kd=5\/kd=6)/\∃ j kx,ks[j]? =some kx/\(kx.a=a/\kx.b=b/\kx.c=c)/\CU a b c ks=false/\ks'=((ks.set j {kx with s:=2}).filter fun k=> !elB a b c k)/\fr'=frE fr ((ks.set j {kx with s:=2}).filter (elB a b c))/\M'=Gz (G7 M kx.p (AEc T a b c 2 kx.l)) (((ks.set j {kx with s:=2}).filter (elB a b c)).map (·.p)))\/
 (kd=7/\∃ j kx,ks[j]? =some kx/\(kx.a=a/\kx.b=b/\kx.c=c)/\CU a b c ks=false/\ks'=ks.take j++ks.drop (j+1)/\fr'=Ed (fr++[kx.p])/\M'=Gz M [kx.p])\/
 (kd=8/\ks'=(ks.filter fun k=> !drB a b c k)/\fr'=frE fr (drO a b c ks)/\M'=IU M (drO a b c ks))
section

end
end
noncomputable section
open Go
set_option maxRecDepth 100000
theorem Xi:∀ (A:List Kt) (x:Kt),(Im A x).Perm (x::A):=fun A x=>by
 unfold Im;refine(AAq _).trans ?_;have:∀ l:List Kt,(Il x l).Perm (x::l):=fun l=>by
  induction l with
  |nil=>exact .refl _
  |cons y r ih=>
   rw[Nx];split
   ·exact(ih.cons y).trans (.swap x y r)
   ·exact .refl _
 exact(this _).trans ((AAq A).cons x)
theorem R0:∀ (B A:List Kt),(srt A B).Perm (A++B)
 |[],A=>by
  rw[xZ];exact .refl _
 |x::B,A=>by
  show(srt (Im A x) B).Perm _;exact(R0 B _).trans (((Xi A x).append_right B).trans ABa.symm)
theorem Ix(l:List Kt):(EG l).Perm l:=by
 unfold EG;have:=R0 (l.drop 1) (l.take 1)
 rwa [zQ]at this
def Kt.key(k:Kt):Int×Int×Int:=(k.a,k.b,k.c)
def Kt.plc(k:Kt):Nat:=k.p
structure AFa (np:Nat)(ks:List Kt)(fr:List Nat):Prop where
 key:(ks.map Kt.key).Nodup
 plc:(ks.map Kt.plc++fr).Perm (List.range np)
abbrev se(ks:List Kt)(fr:List Nat):Prop:=AFa 8 ks fr
section
variable {T M M':List Nat}{ks ks':List Kt}{fr fr':List Nat}{kd a b c:Int}{l:List Nat}{np:Nat}
theorem AFa.len(i:AFa np ks fr):ks.length+fr.length=np:=by
 have:=i.plc.length_eq;rw[No,sh,List.length_range]at this;exact this
theorem AFa.lt(i:AFa np ks fr):∀ k∈ks,3*k.p+3<=3*np:=fun k hk=>by
 have h1:k.p∈ks.map Kt.plc++fr:=yN _ (yl.2 ⟨k,hk,rfl⟩);have h2:=List.mem_range.1 (i.plc.mem_iff.1 h1);omega
theorem AFa.nd(i:AFa np ks fr):(ks.map Kt.plc).Nodup:=(AAr.1 (i.plc.nodup_iff.2 List.nodup_range)).1
theorem FR{α β:Type}{f:α->β}:∀ {l:List α},(l.map f).Nodup->∀ {x y:α},x∈l->y∈l->f x=f y->x=y
 |[],_,x,y,hx,_,_=>by cases hx
 |w::l,h,x,y,hx,hy,hf=>by
  rw[AAs,AAO]at h;rcases xe.1 hx with h1|h1
  ·rcases xe.1 hy with h2|h2
   ·rw[h1,h2]
   ·exact absurd (yl.2 ⟨y,h2,by rw[<- hf,h1]⟩) h.1
  ·rcases xe.1 hy with h2|h2
   ·exact absurd (yl.2 ⟨x,h1,by rw[hf,h2]⟩) h.1
   ·exact FR h.2 h1 h2 hf
theorem QF{x:Kt}(h:Bs a b c x=true):x.key=(a,b,c):=by
 obtain⟨rfl,rfl,rfl⟩:=H5 h;rfl
theorem Nh{x:Kt}(h:x.key=(a,b,c)):Bs a b c x=true:=by
 unfold Kt.key at h;injection h with h1 h2
 injection h2 with h2 h3
 unfold Bs;rw[decide_eq_true h1,decide_eq_true h2,decide_eq_true h3];rfl
theorem QG(hn:(ks.map Kt.key).Nodup){x:Kt}(hx:x∈ks)(hk:x.key=(a,b,c)):ks.find? (Bs a b c)=some x:=by
 cases h:ks.find? (Bs a b c)with
 |none=>exact absurd (Nh hk) (ABL.1 h x hx)
 |some y=>rw[FR hn (List.mem_of_find?_eq_some h) hx ((QF (ABF h)).trans hk.symm)]
theorem KJ(P:Kt->Bool):∀ l:List Kt,(l.filter P++l.filter fun k=> !P k).Perm l
 |[]=>.refl _
 |x::l=>by
  cases h:P x
  ·rw[zT (by rw[h];decide),zS (by rw[h];rfl)]
   exact ABa.trans ((KJ P l).cons x)
  ·rw[zS h,zT (by rw[h];decide)]
   exact(KJ P l).cons x
theorem AFa.cut(i:AFa np ks fr)(P:Kt->Bool){out:List Kt}(ho:out.Perm (ks.filter P)):AFa np (ks.filter fun k=> !P k) (frE fr out):=by
 refine⟨ABX (ACi.map _) i.key,?_⟩;have h1:(frE fr out).Perm (fr++(ks.filter P).map Kt.plc):=(JR out fr).trans ((ho.map Kt.plc).append_left fr);have h2:((ks.filter fun k=> !P k).map Kt.plc++(fr++(ks.filter P).map Kt.plc)).Perm (ks.map Kt.plc++fr):=by
  rw[<- xp];refine(ACR).trans ?_;rw[<- xp,<- yR];exact((KJ P ks).map Kt.plc).append_right fr
 exact(h1.append_left _).trans (h2.trans i.plc)
theorem AFa.set(i:AFa np ks fr){j:Nat}{x y:Kt}(hj:ks[j]? =some x)(h1:y.key=x.key)(h2:y.p=x.p):AFa np (ks.set j y) fr:=by
 have e1:(ks.set j y).map Kt.key=ks.map Kt.key:=by rw[ABp,h1];exact M9 (by rw[yk,hj];rfl)
 have e2:(ks.set j y).map Kt.plc=ks.map Kt.plc:=by
  rw[ABp,show y.plc=x.plc from h2];exact M9 (by rw[yk,hj];rfl)
 exact⟨e1 ▸ i.key,e2 ▸ i.plc⟩
theorem Zl{P Q:List Kt}(p:Kt->Bool):(P++Q).find? p=(P.find? p).or (Q.find? p):=List.find?_append
theorem Ju(i:AFa np ks fr)(t:SS T M ks fr kd a b c l M' ks' fr'):AFa np ks' fr'/\kT ks' fr'.length kd a b c l 0:=by
 rcases t with ⟨hk,hz,p,k',rfl,rfl,hc,_⟩|⟨hk,j,kx,hj,AFP,_,rfl,rfl,_⟩|⟨rfl,j,kx,hj,AFP,hst,rfl,rfl,_⟩|⟨rfl,rfl,rfl,_⟩
 ·unfold HE at hz
  split at hz
  ·cases hz
  rename_i hn;split at hz
  ·split at hz<;>cases hz
  rename_i hfd;have ek:k'.key=(a,b,c):=by
   show(k'.core.a,k'.core.b,k'.core.c)=_;rw[hc]
  have ep:k'.p=p:=congrArg Kc.p hc;have el:k'.l=l:=congrArg Kc.l hc;have pm:=Ix (ks++[k']);have kn:((ks++[k']).map Kt.key).Nodup:=by
   rw[yR,AAr];refine⟨i.key,AAO.2 ⟨List.not_mem_nil,List.nodup_nil⟩,fun x hx y hy hxy=>?_⟩;rw[xr.1 hy]at hxy;obtain⟨w,hw,rfl⟩:=yl.1 hx;exact absurd (Nh (hxy.trans ek)) (ABL.1 hfd w hw)
  have kn':((EG (ks++[k'])).map Kt.key).Nodup:=(pm.map Kt.key).nodup_iff.2 kn;refine⟨⟨kn',?_⟩,.inl ⟨hk,?_⟩⟩
  ·refine((pm.map Kt.plc).append_right fr').trans (ACX ?_ i.plc)
   rw[yR,xp];show(ks.map Kt.plc++([k'.p]++fr')).Perm _;rw[ep];exact .refl _
  ·unfold HE
   rw[if_neg hn,QG kn' (pm.mem_iff.2 (yI _ (xr.2 rfl))) ek];simp only;rw[if_pos el]
 ·have kk:({kx with s:=2}:Kt).key=(a,b,c):=by obtain⟨rfl,rfl,rfl⟩:=AFP;rfl
  have i2:=i.set (y:={kx with s:=2}) hj rfl rfl;have hX:({kx with s:=2}:Kt)∈ks.set j {kx with s:=2}:=List.mem_set (xy.1 hj).1 _;generalize ks.set j {kx with s:=2}=ksX at i2 hX;have i3:=i2.cut (elB a b c) (out:=ksX.filter (elB a b c)) (.refl _);refine⟨i3,.inr (.inl ⟨hk,?_⟩)⟩;have hel:elB a b c {kx with s:=2}=false:=by
   obtain⟨rfl,rfl,rfl⟩:=AFP;unfold elB;rw[decide_eq_false (Int.lt_irrefl _),Bool.and_false]
  unfold JC;rw[QG i3.key (yS.2 ⟨hX,by rw[hel];rfl⟩) kk];exact if_pos rfl
 ·obtain⟨AFm,hPl⟩:=PA hj
  have kk:kx.key=(a,b,c):=by obtain⟨rfl,rfl,rfl⟩:=AFP;rfl
  generalize ks.take j=P at *;generalize ks.drop (j+1)=Q at *;subst AFm;have pm:(P++kx::Q).Perm (kx::(P++Q)):=ABa;have kn:((kx::(P++Q)).map Kt.key).Nodup:=(pm.map Kt.key).nodup_iff.1 i.key;rw[AAs,AAO]at kn;refine⟨⟨kn.2,?_⟩,.inr (.inr (.inl ⟨rfl,?_⟩))⟩
  ·refine((Gy (fr++[kx.p])).append_left _).trans (ACX ?_ i.plc)
   rw[<- xp];refine ACR.trans ?_;show(kx.plc::((P++Q).map Kt.plc++fr)).Perm _;exact((pm.map Kt.plc).symm).append_right fr
  ·have hne:(P++Q).find? (Bs a b c)=none:=ABL.2 fun x hx hf=>kn.1 (yl.2 ⟨x,hx,(QF hf).trans kk.symm⟩)
   have AGY:CU a b c (P++Q)=false:=by
    unfold CU at hst ⊢;rw[Zl]at hst ⊢;cases hP:P.find? (Ml a b)with
    |some y=>
     rw[hP]at hst;exact hst
    |none=>
     rw[hP]at hst;rw[Option.none_or]at hst ⊢;cases hx:Ml a b kx
     ·rw[List.find?_cons_of_neg (by rw[hx];decide)]at hst
      exact hst
     ·rw[List.find?_cons_of_pos hx]at hst
      simp only at hst;have:=of_decide_eq_false hst;exact absurd (Int.le_of_eq AFP.2.2.symm) this
   unfold abE;rw[AGY,hne,if_neg (by decide)]
 ·have i3:=i.cut (drB a b c) (out:=drO a b c ks) (AAq _)
  refine⟨i3,.inr (.inr (.inr (.inl ⟨rfl,?_,rfl⟩)))⟩;unfold drO;rw[List.filter_filter,List.filter_eq_nil_iff.2 (fun x _=>by cases drB a b c x<;>decide)];rfl
end
end
noncomputable section
open Go
set_option maxRecDepth 100000
theorem JJ{l l':List Nat}(hl:l.length=l'.length)(h:∀ i,i<l.length->l.getD i 0=l'.getD i 0):l=l':=by
 refine AC3 hl fun i h1 h2=>?_
 have:=h i h1;rw[xN,xN,xL h1,xL h2]at this;exact this
theorem KR{l:List Nat}{n i:Nat}(h:i<n):(l.take n).getD i 0=l.getD i 0:=by
 rw[xN,xN,List.getElem?_take,if_pos h]
theorem KQ{l:List Nat}{n i:Nat}:(l.drop n).getD i 0=l.getD (n+i) 0:=by
 rw[xN,xN,List.getElem?_drop]
theorem V4:∀ (k:Nat) (l:List Nat) (p:Nat) (ns:List Nat) (q:Nat),rdN k l p=some (ns,q)->ns.length=k
 |0,l,p,ns,q,h=>by cases h;rfl
 |k+1,l,p,ns,q,h=>by
  rw[RQ]at h;cases hu:Fs 0 0 (l.drop p)with
  |none=>rw[hu]at h;cases h
  |some vj=>
   obtain⟨v,j⟩:=vj;rw[hu]at h;simp only at h;by_cases hv:v<=1099511627776
   ·rw[if_pos hv]at h
    cases hr:rdN k l (p+j)with
    |none=>rw[hr]at h;cases h
    |some y=>
     obtain⟨vs,q'⟩:=y;rw[hr]at h;cases h;rw[xP,V4 k l (p+j) vs _ hr]
   ·rw[if_neg hv]at h;cases h
theorem bQ{T:List Nat}{a b c:Int}{s:Nat}{l:List Nat}(h:AET a b c s l.length=true):LF T (AEc T a b c s l) (CH a.toNat b.toNat c.toNat s l.length (CC T l)):=by
 obtain⟨h1,h2,h3,h4,h5,h6,h7,h8⟩:=EE h;have hst:=IJ T l;refine(RG MS).2 ?_;have hle:∀ v∈CH a.toNat b.toNat c.toNat s l.length (CC T l),v<=1099511627776:=fun v hv=>by
  unfold CH at hv;simp only[xe,AC0,or_false]at hv;omega
 have e0:at6 (CH a.toNat b.toNat c.toNat s l.length (CC T l)) 0=s:=rfl;have e1:at6 (CH a.toNat b.toNat c.toNat s l.length (CC T l)) 1=a.toNat:=rfl;have e2:at6 (CH a.toNat b.toNat c.toNat s l.length (CC T l)) 2=b.toNat:=rfl;have e3:at6 (CH a.toNat b.toNat c.toNat s l.length (CC T l)) 3=c.toNat:=rfl;have e4:at6 (CH a.toNat b.toNat c.toNat s l.length (CC T l)) 4=l.length:=rfl;have e5:at6 (CH a.toNat b.toNat c.toNat s l.length (CC T l)) 5=CC T l:=rfl;have hr:=Lh (CH a.toNat b.toNat c.toNat s l.length (CC T l)) [] (xV (60 - (Bz (CH a.toNat b.toNat c.toNat s l.length (CC T l))).length) 0++G0 (CC T (LJ (CH a.toNat b.toNat c.toNat s l.length (CC T l))))) hle;refine⟨(Bz (CH a.toNat b.toNat c.toNat s l.length (CC T l))).length,?_,⟨by rw[e0];omega,by rw[e4];omega,by rw[e5];omega,?_⟩,rfl⟩
 ·have hx:AEc T a b c s l=Bz (CH a.toNat b.toNat c.toNat s l.length (CC T l))++(xV (60 - (Bz (CH a.toNat b.toNat c.toNat s l.length (CC T l))).length) 0++G0 (CC T (LJ (CH a.toNat b.toNat c.toNat s l.length (CC T l))))):=by
   unfold AEc Ec;rw[<- xp];rfl
  rw[hx];simp only[yP,List.length_nil,OF]at hr;exact hr
 ·rw[e0,e1,e2,e3]
  exact decide_eq_true ⟨by omega,by omega,by omega,by omega,by omega,by omega,h7,by omega⟩
theorem RH{T:List Nat}{ns:List Nat}{l:List Nat}(hl:l.length=64)(hz:∀ x∈l,x=0):¬ LF T l ns:=fun h=>by
 have hlt:∀ x∈l,x<256:=fun x hx=>by rw[hz x hx];decide
 obtain⟨q,h1,h2,h3⟩:=(RG hlt).1 h;have hlen:=V4 _ _ _ _ _ h1;obtain⟨_,_,_,h4⟩:=h2;have hs:=(EE h4).2.2.2.2.2.2.1;cases ns with
 |nil=>cases hlen
 |cons n ns=>
  have hn:n=1\/n=2:=hs;have hu:CB n=[n]:=by
   unfold CB;rw[dif_pos (by omega)]
  have:n∈l:=by
   rw[<- h3];unfold Ec LJ PL;refine yN _ (yN _ ?_);rw[E9,hu];exact yN _ xT
  have:=hz n this;omega
end
noncomputable section
open Go
set_option maxRecDepth 100000
theorem Ic{l:List Nat}{j r:Nat}(hr:r<64):(Cy l j).getD r 0=l.getD (64*j+r) 0:=by
 unfold Cy;have hl:((l.drop (64*j)).take 64).length=min 64 (l.length - 64*j):=by rw[yE,yd]
 rcases Nat.lt_or_ge r ((l.drop (64*j)).take 64).length with h|h
 ·rw[xN,List.getElem?_append_left h,<- xN,KR hr,KQ]
 ·rw[xN,List.getElem?_append_right h,AB8]
  have:l.getD (64*j+r) 0=0:=by
   rw[xN,List.getElem?_eq_none (by omega)];rfl
  rw[this];split<;>rfl
theorem ZV{T M l H:List Nat}{n p:Nat}(hM:M.length=64*n)(hp:3*p+3<=n)(hl:1<=l.length/\l.length<=100)(hH:H.length=64):
  (Dw T M p l H).length=64*n/\∀ x,(Dw T M p l H).getD x 0=if x/64=3*p then H.getD (x % 64) 0 else if x/64=3*p+1 then l.getD (x % 64) 0 else if x/64=3*p+2/\64<l.length then l.getD (64+x % 64) 0 else M.getD x 0:=by
 have hk:(l.length+63)/64=1\/(l.length+63)/64=2:=by omega
 rcases hk with hk|hk
 ·have e:Dw T M p l H=IM (IM M (p*3+1+0) (Cy l 0)) (p*3) H:=by
   unfold Dw Jy GF;rw[hk];rfl
  have l1:=DU hM (show p*3+1+0<n by omega) (Cp l 0);rw[e];refine⟨DU l1 (by omega) hH,fun x=>?_⟩;rw[EU l1 (by omega) hH,EU hM (show p*3+1+0<n by omega) (Cp l 0),Ic (by omega),ADA,OF,zW p 3,yy];by_cases h1:x/64=3*p
  ·rw[if_pos h1,if_pos h1]
  ·rw[if_neg h1,if_neg h1]
   by_cases h2:x/64=3*p+1
   ·rw[if_pos h2,if_pos h2]
   ·rw[if_neg h2,if_neg h2,if_neg (by omega)]
 ·have e:Dw T M p l H=IM (IM (IM M (p*3+1+0) (Cy l 0)) (p*3+1+1) (Cy l 1)) (p*3) H:=by
   unfold Dw Jy GF;rw[hk];rfl
  have l1:=DU hM (show p*3+1+0<n by omega) (Cp l 0);have l2:=DU l1 (show p*3+1+1<n by omega) (Cp l 1);rw[e];refine⟨DU l2 (by omega) hH,fun x=>?_⟩;rw[EU l2 (by omega) hH,EU l1 (show p*3+1+1<n by omega) (Cp l 1),EU hM (show p*3+1+0<n by omega) (Cp l 0),Ic (by omega),Ic (by omega),ADA,OF,zW p 3,yy,Nat.mul_one];by_cases h1:x/64=3*p
  ·rw[if_pos h1,if_pos h1]
  ·rw[if_neg h1,if_neg h1]
   by_cases h2:x/64=3*p+1
   ·rw[if_neg (by omega),if_pos h2,if_pos h2]
   ·rw[if_neg h2]
    by_cases h3:x/64=3*p+2
    ·rw[if_pos (show x/64=3*p+1+1 by omega),if_neg h2,if_pos (show x/64=3*p+2/\64<l.length from⟨h3,by omega⟩)]
    ·rw[if_neg (show ¬ x/64=3*p+1+1 by omega),if_neg h2,if_neg (show ¬ (x/64=3*p+2/\64<l.length)by omega)]
theorem ZC{M H:List Nat}{n p:Nat}(hM:M.length=64*n)(hp:3*p+3<=n)(hH:H.length=64):(G7 M p H).length=64*n/\∀ x,(G7 M p H).getD x 0=if x/64=3*p then H.getD (x % 64) 0 else M.getD x 0:=by
 have e:G7 M p H=IM M (p*3) H:=rfl;rw[e];refine⟨DU hM (by omega) hH,fun x=>?_⟩;rw[EU hM (by omega) hH,zW p 3]
theorem RU{n x:Nat}:(xV n 0).getD x 0=0:=by
 rw[xN,AB8];split<;>rfl
def iP:List Nat:=xV (64*24) 0
section
variable {T b:List Nat}(hl:1<=b.length/\b.length<=100)
include hl
end
theorem Jn{M:List Nat}{i r:Nat}(hr:r<64):(sec M i).getD r 0=M.getD (64*i+r) 0:=by
 unfold sec;rw[KR hr,KQ]
theorem MD{M:List Nat}{p k r:Nat}(hr:r<k):(dat M p k).getD r 0=M.getD (64*(3*p+1)+r) 0:=by
 unfold dat;rw[KR hr,KQ]
theorem QT{T M:List Nat}{p:Nat}{a b c:Int}{s:Nat}{l:List Nat}(hr:AET a b c s l.length=true)(hl:l.length<=100)(h1:sec M (3*p)=AEc T a b c s l)(h2:dat M p l.length=l):
  G4 T M p (CH a.toNat b.toNat c.toNat s l.length (CC T l))/\lkN T M p=some (CH a.toNat b.toNat c.toNat s l.length (CC T l))/\Xm M p (CH a.toNat b.toNat c.toNat s l.length (CC T l))=⟨a,b,c,s,l,p⟩/\EQ T M p=false:=by
 obtain⟨g1,g2,g3,g4,g5,g6,_⟩:=EE hr;have hH:G4 T M p (CH a.toNat b.toNat c.toNat s l.length (CC T l)):=by
  refine⟨by rw[h1];exact bQ hr,hl,?_⟩;show CC T (dat M p l.length)=CC T l;rw[h2]
 refine⟨hH,Ql hH,?_,?_⟩
 ·show(⟨(a.toNat:Int),(b.toNat:Int),(c.toNat:Int),s,dat M p l.length,p⟩:Kc)=_
  rw[h2,AAi g1,AAi g3,AAi (by omega)]
 ·cases hb:EQ T M p
  ·rfl
  ·exact absurd ⟨_,hH⟩ (Hd.1 hb).1
theorem Zg{T M:List Nat}{n p:Nat}(hM:M.length=64*n)(hp:3*p<n)(h:∀ r,r<64->M.getD (64*(3*p)+r) 0=0):lkN T M p=none/\EQ T M p=false:=by
 have hl:=Jo hM hp;have hz:∀ x∈sec M (3*p),x=0:=fun x hx=>by
  obtain⟨i,hi⟩:=List.mem_iff_getElem?.1 hx;have hil:=(xy.1 hi).1;have:=Jn (M:=M) (i:=3*p) (r:=i) (by omega);rw[h i (by omega),xN,hi]at this;exact this
 have hno:¬ ∃ ns,G4 T M p ns:=fun⟨ns,h1,_⟩=>RH hl hz h1
 refine⟨Qk hno,?_⟩;cases hb:EQ T M p
 ·rfl
 ·rcases (Hd.1 hb).2 with ⟨x,hx,h1⟩|⟨ns,h1,_⟩
  ·exact absurd (hz x hx) h1
  ·exact absurd h1 (RH hl hz)
end
noncomputable section
open Go
set_option maxRecDepth 100000
structure Trn (b:List Nat)(hd:Bool)(k:Nat)(ts:List Nat):Prop where
 lt:∀ t∈ts,t<256
 win:k+ts.length<=if hd=true then 60 else b.length
 four:ts.length<=4
def chg(ts:List Nat):Bool:=ts.any fun t=>decide (t≠0)
section
variable {b ts:List Nat}{hd:Bool}{k:Nat}
variable (hl:1<=b.length/\b.length<=100)(hb:∀ x∈b,x<256)(t:Trn b hd k ts)
include hl t
end
end
noncomputable section
open Go
set_option maxRecDepth 100000
theorem kO:Bt .mt 0 kD.zero=some Pb:=by kernel_rfl
theorem SO:∀ {L:List IN},(∀ v∈L,isW v=true)->∃ T:List Nat,L=T.map wv/\∀ x∈T,x<4294967296
 |[],_=>⟨[],rfl,fun x hx=>by cases hx⟩
 |v::L,h=>by
  obtain⟨n,rfl,hn⟩:=Oy (h v xT);obtain⟨T,rfl,hT⟩:=SO fun x hx=>h x (xS _ hx)
  refine⟨n::T,rfl,fun x hx=>?_⟩;rcases xe.1 hx with rfl|hx
  ·exact hn
  ·exact hT x hx
theorem sL{T:List Nat}(h1:T.length=256)(h2:∀ x∈T,x<4294967296):AE5 T:=⟨h1,fun i=>by
 rw[xN];cases h:T[i]? with
 |none=>decide
 |some x=>exact h2 x (xd h)⟩
theorem NW:∀ T:List Nat,Bb (T.map wv)=true
 |[]=>rfl
 |x::T=>NW T
theorem rv{h g:Hp}(W0:h.Wf)(x:h.Ext g){r:Nat}(hr:h.next<=r){L:List IN}(R:g.Row r 0 L)(hL:L.length=256){T:List Nat}(hT:T.length=256):
  AEK 256 (pt r) (.agg ⟨T.map wv⟩) g=.ok AEE (g.wr r 0 (T.map wv))/\h.Ext (g.wr r 0 (T.map wv))/\(g.wr r 0 (T.map wv)).Row r 0 (T.map wv):=by
 have AEM:256<=r:=by have:=W0.big;omega
 have hl:(T.map wv).length=256:=by rw[sh];exact hT
 have ho:0+(T.map wv).length<=L.length:=by omega
 have st:=R.AEK (n:=256) (off:=0) x.wf AEM (v:=.agg ⟨T.map wv⟩) hl ho (NW T);have wr:=R.AEP x.wf ho;rw[Ff (show L.length=(T.map wv).length by omega)]at wr;exact⟨st,R.AEi x hr ho,wr⟩
theorem Fx.ext{S:Nat->Prop}{h h':Hp}(x:Fx S h h')(hs:∀ b,S b->h.next<=b):h.Ext h':=⟨x.next,fun i hi=>x.get i hi fun s=>by have:=hs i s;omega,x.low _ (ABC _ _) (zg _ _) fun b hb=>yO (zg _ _) (hs b hb),x.wf⟩
theorem Fx.AKP{S:Nat->Prop}{h0 h h':Hp}(x0:h0.Ext h)(x:Fx S h h')(hs:∀ b,S b->h0.next<=b):h0.Ext h':=Fx.ext (S:=S) ((Fx.of x0).trans x) hs
theorem xH:ty4.k=.bool:=by kernel_rfl
theorem we(k:Nat):CA (-1) k:=⟨by omega,by omega,.inl (by omega)⟩
end
noncomputable section
open Go
set_option maxRecDepth 100000
def AKQ(v:IN):Prop:=oneCell v=true/\∀ k z,v≠.int k z
structure AKj (h:Hp)(v:IN)(n cap:Nat):Prop where
 len:∀ g:Hp,AEv v g=.ok (AI AT (n:Int)) g
 get:∀ i,i<n->i<cap->∃ (r:Nat) (kd a b c no:Int) (u w:IN) (l:List Nat),(∀ g:Hp,h.Ext g->AE6 7 v (AI AT (i:Int)) g=.ok (.pointer (some ⟨r,i*7,none⟩)) g/\loadN 7 ⟨r,i*7,none⟩ g=.ok (opV kd a b c no u w) g/\AEF ⟨r,i*7+5,none⟩ g=.ok u g)/\h.VE u (l.map bv)/\(∀ x∈l,x<256)/\oneCell u=true/\AKQ w
section
variable {h:Hp}{A:At}{T M:List Nat}{c0 bad k:Nat}{arm:Int}{ks:List Kt}{fr:List Nat}{lv fv u:IN}{ov:Bool}{l:List Nat}
theorem Sl.all(s:Sl h A T M c0 arm ks fr lv fv bad ov):∀ k∈ks,h.AEY k.u (k.l.map bv)/\k.l.length<=1000/\oneCell k.u=true:=fun x hx=>⟨(s.ko x hx).1.vs.vals,by have:=(s.ko x hx).2.2.1;omega,(s.ko x hx).1.vs.one.2.1⟩
theorem j9:∃ T:List Nat,ND=T.map wv/\AE5 T:=by
 obtain⟨_,_,h1,h2⟩:=Tl;obtain⟨T,h3,h4⟩:=SO h2;have hl:T.length=256:=by rw[h3,sh]at h1;exact h1
 exact⟨T,h3,sL hl h4⟩
end
end
noncomputable section
open Go
set_option maxRecDepth 100000
theorem uf{n:Nat}{args:List IN}{h:Hp}(hl:xU (BB args) 160=true):call AC (xM n) 3 args h=A3 [.t (J 4)] (d3 (call AC n) (AS e0 0 args) h):=by
 have hb:AC.get 3=some b3:=by kernel_rfl
 rw[Ab hb];have hd:b3=⟨[.t (J 4)],d3⟩:=by kernel_rfl
 rw[hd,AW hl]
theorem ug{n:Nat}{args:List IN}{h:Hp}(hl:xU (BB args) 160=true):call AC (xM n) 9 args h=A3 [.t (J 2),.t (J 3),.t (J 4)] (d9 (call AC n) (AS e0 0 args) h):=by
 have hb:AC.get 9=some b9:=by kernel_rfl
 rw[Ab hb];have hd:b9=⟨[.t (J 2),.t (J 3),.t (J 4)],d9⟩:=by kernel_rfl
 rw[hd,AW hl]
theorem oL{n:Nat}{args:List IN}{h:Hp}(hl:xU (BB args) 160=true):call AC (xM n) 10 args h=A3 [.t (J 2)] (d10 (call AC n) (AS e0 0 args) h):=by
 have hb:AC.get 10=some b10:=by kernel_rfl
 rw[Ab hb];have hd:b10=⟨[.t (J 2)],d10⟩:=by kernel_rfl
 rw[hd,AW hl]
theorem Sd{n:Nat}{args:List IN}{h:Hp}(hl:xU (BB args) 160=true):call AC (xM n) 11 args h=A3 [.cN (J 4) 7,.t (J 5)] (d11 (call AC n) (AS e0 0 args) h):=by
 have hb:AC.get 11=some b11:=by kernel_rfl
 rw[Ab hb];have hd:b11=⟨[.cN (J 4) 7,.t (J 5)],d11⟩:=by kernel_rfl
 rw[hd,AW hl]
theorem oM{n:Nat}{args:List IN}{h:Hp}(hl:xU (BB args) 160=true):call AC (xM n) 12 args h=A3 [.t (J 2)] (d12 (call AC n) (AS e0 0 args) h):=by
 have hb:AC.get 12=some b12:=by kernel_rfl
 rw[Ab hb];have hd:b12=⟨[.t (J 2)],d12⟩:=by kernel_rfl
 rw[hd,AW hl]
theorem oN{n:Nat}{args:List IN}{h:Hp}(hl:xU (BB args) 160=true):call AC (xM n) 13 args h=A3 [.t (J 2)] (d13 (call AC n) (AS e0 0 args) h):=by
 have hb:AC.get 13=some b13:=by kernel_rfl
 rw[Ab hb];have hd:b13=⟨[.t (J 2)],d13⟩:=by kernel_rfl
 rw[hd,AW hl]
theorem oO{n:Nat}{args:List IN}{h:Hp}(hl:xU (BB args) 160=true):call AC (xM n) 14 args h=A3 [.t (J 4)] (d14 (call AC n) (AS e0 0 args) h):=by
 have hb:AC.get 14=some b14:=by kernel_rfl
 rw[Ab hb];have hd:b14=⟨[.t (J 4)],d14⟩:=by kernel_rfl
 rw[hd,AW hl]
theorem oS{n:Nat}{args:List IN}{h:Hp}(hl:xU (BB args) 160=true):call AC (xM n) 21 args h=A3 [.t (J 6),.t (J 7)] (d21 (call AC n) (AS e0 0 args) h):=by
 have hb:AC.get 21=some b21:=by kernel_rfl
 rw[Ab hb];have hd:b21=⟨[.t (J 6),.t (J 7)],d21⟩:=by kernel_rfl
 rw[hd,AW hl]
theorem oW{n:Nat}{args:List IN}{h:Hp}(hl:xU (BB args) 160=true):call AC (xM n) 31 args h=A3 [.t (J 2)] (d31 (call AC n) (AS e0 0 args) h):=by
 have hb:AC.get 31=some b31:=by kernel_rfl
 rw[Ab hb];have hd:b31=⟨[.t (J 2)],d31⟩:=by kernel_rfl
 rw[hd,AW hl]
theorem oX{n:Nat}{args:List IN}{h:Hp}(hl:xU (BB args) 160=true):call AC (xM n) 32 args h=A3 [.t (J 2)] (d32 (call AC n) (AS e0 0 args) h):=by
 have hb:AC.get 32=some b32:=by kernel_rfl
 rw[Ab hb];have hd:b32=⟨[.t (J 2)],d32⟩:=by kernel_rfl
 rw[hd,AW hl]
theorem Y0{n:Nat}{args:List IN}{h:Hp}(hl:xU (BB args) 160=true):call AC (xM n) 33 args h=A3 [.cN (J 6) 7,.t (J 7)] (d33 (call AC n) (AS e0 0 args) h):=by
 have hb:AC.get 33=some b33:=by kernel_rfl
 rw[Ab hb];have hd:b33=⟨[.cN (J 6) 7,.t (J 7)],d33⟩:=by kernel_rfl
 rw[hd,AW hl]
theorem oY{n:Nat}{args:List IN}{h:Hp}(hl:xU (BB args) 160=true):call AC (xM n) 34 args h=A3 [.cN (J 4) 7] (d34 (call AC n) (AS e0 0 args) h):=by
 have hb:AC.get 34=some b34:=by kernel_rfl
 rw[Ab hb];have hd:b34=⟨[.cN (J 4) 7],d34⟩:=by kernel_rfl
 rw[hd,AW hl]
theorem oZ{n:Nat}{args:List IN}{h:Hp}(hl:xU (BB args) 160=true):call AC (xM n) 35 args h=A3 [.cN (J 4) 7] (d35 (call AC n) (AS e0 0 args) h):=by
 have hb:AC.get 35=some b35:=by kernel_rfl
 rw[Ab hb];have hd:b35=⟨[.cN (J 4) 7],d35⟩:=by kernel_rfl
 rw[hd,AW hl]
theorem oa{n:Nat}{args:List IN}{h:Hp}(hl:xU (BB args) 160=true):call AC (xM n) 36 args h=A3 [.cN (J 4) 7] (d36 (call AC n) (AS e0 0 args) h):=by
 have hb:AC.get 36=some b36:=by kernel_rfl
 rw[Ab hb];have hd:b36=⟨[.cN (J 4) 7],d36⟩:=by kernel_rfl
 rw[hd,AW hl]
theorem Se{n:Nat}{args:List IN}{h:Hp}(hl:xU (BB args) 160=true):call AC (xM n) 37 args h=A3 [.cN (J 4) 7] (d37 (call AC n) (AS e0 0 args) h):=by
 have hb:AC.get 37=some b37:=by kernel_rfl
 rw[Ab hb];have hd:b37=⟨[.cN (J 4) 7],d37⟩:=by kernel_rfl
 rw[hd,AW hl]
theorem od{n:Nat}{args:List IN}{h:Hp}(hl:xU (BB args) 160=true):call AC (xM n) 38 args h=A3 [.cN (J 4) 7] (d38 (call AC n) (AS e0 0 args) h):=by
 have hb:AC.get 38=some b38:=by kernel_rfl
 rw[Ab hb];have hd:b38=⟨[.cN (J 4) 7],d38⟩:=by kernel_rfl
 rw[hd,AW hl]
theorem oe{n:Nat}{args:List IN}{h:Hp}(hl:xU (BB args) 160=true):call AC (xM n) 39 args h=A3 [.cN (J 4) 7] (d39 (call AC n) (AS e0 0 args) h):=by
 have hb:AC.get 39=some b39:=by kernel_rfl
 rw[Ab hb];have hd:b39=⟨[.cN (J 4) 7],d39⟩:=by kernel_rfl
 rw[hd,AW hl]
theorem oz{n:Nat}{args:List IN}{h:Hp}(hl:xU (BB args) 160=true):call AC (xM n) 55 args h=A3 [.t (J 6)] (d55 (call AC n) (AS e0 0 args) h):=by
 have hb:AC.get 55=some b55:=by kernel_rfl
 rw[Ab hb];have hd:b55=⟨[.t (J 6)],d55⟩:=by kernel_rfl
 rw[hd,AW hl]
theorem o7{n:Nat}{args:List IN}{h:Hp}(hl:xU (BB args) 160=true):call AC (xM n) 56 args h=A3 [.t (J 8)] (d56 (call AC n) (AS e0 0 args) h):=by
 have hb:AC.get 56=some b56:=by kernel_rfl
 rw[Ab hb];have hd:b56=⟨[.t (J 8)],d56⟩:=by kernel_rfl
 rw[hd,AW hl]
theorem pB{n:Nat}{args:List IN}{h:Hp}(hl:xU (BB args) 160=true):call AC (xM n) 61 args h=A3 [.t (J 4)] (d61 (call AC n) (AS e0 0 args) h):=by
 have hb:AC.get 61=some b61:=by kernel_rfl
 rw[Ab hb];have hd:b61=⟨[.t (J 4)],d61⟩:=by kernel_rfl
 rw[hd,AW hl]
theorem pC{n:Nat}{args:List IN}{h:Hp}(hl:xU (BB args) 160=true):call AC (xM n) 62 args h=A3 [.t (J 3)] (d62 (call AC n) (AS e0 0 args) h):=by
 have hb:AC.get 62=some b62:=by kernel_rfl
 rw[Ab hb];have hd:b62=⟨[.t (J 3)],d62⟩:=by kernel_rfl
 rw[hd,AW hl]
theorem pE{n:Nat}{args:List IN}{h:Hp}(hl:xU (BB args) 160=true):call AC (xM n) 65 args h=A3 [.cN (J 2) 4] (d65 (call AC n) (AS e0 0 args) h):=by
 have hb:AC.get 65=some b65:=by kernel_rfl
 rw[Ab hb];have hd:b65=⟨[.cN (J 2) 4],d65⟩:=by kernel_rfl
 rw[hd,AW hl]
theorem pF{n:Nat}{args:List IN}{h:Hp}(hl:xU (BB args) 160=true):call AC (xM n) 66 args h=A3 [.t (J 3)] (d66 (call AC n) (AS e0 0 args) h):=by
 have hb:AC.get 66=some b66:=by kernel_rfl
 rw[Ab hb];have hd:b66=⟨[.t (J 3)],d66⟩:=by kernel_rfl
 rw[hd,AW hl]
theorem pS{n:Nat}{args:List IN}{h:Hp}(hl:xU (BB args) 160=true):call AC (xM n) 89 args h=A3 [.t (J 6)] (d89 (call AC n) (AS e0 0 args) h):=by
 have hb:AC.get 89=some b89:=by kernel_rfl
 rw[Ab hb];have hd:b89=⟨[.t (J 6)],d89⟩:=by kernel_rfl
 rw[hd,AW hl]
end
end Go.Proofs.YtbjadbhkogcfeaaGreat
