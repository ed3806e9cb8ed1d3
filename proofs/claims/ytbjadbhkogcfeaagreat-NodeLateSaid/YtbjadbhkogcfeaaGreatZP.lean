/-
  Part ZP of what Lawlt stands on: printed by program, names and spaces cut.
-/
import Derived.Test.YtbjadbhkogcfeaaGreatZO
open Go.Value renaming int→AI
open Go.IntKind renaming i64→AT
open Nat renaming reduceEqDiff→BY,reduceLT→By,reduceAdd→IS,le_refl→IT,zero_add→If,succ→yg,ble→yl,beq→yu,le_trans→zO,eq_zero_or_pos→za,mul→zi,add_zero→AAE,mul_comm→AAP,min_le_right→AAp,min_le_left→AB8,mul_zero→AEL,one_pos→AFL,le_min→AFZ
open Go renaming Value→IN
open List renaming length_append→No,length_map→OF,getElem?_eq_getElem→sh,getD_eq_getElem?_getD→yf,length_cons→yh,mem_cons_of_mem→yj,mem_cons_self→yk,replicate→yp,mem_cons→yv,append_nil→yw,mem_of_getElem?→yz,mem_singleton→zB,append_assoc→zC,mem_append_right→zE,getElem?_eq_some_iff→zG,length_take→zJ,mem_append→zK,mem_filter→zQ,mem_append_left→zR,nil_append→zU,map_append→zb,eq_nil_of_length_eq_zero→zc,length_drop→zl,mem_map→zq,drop_zero→zr,getElem?_map→zy,take_length→AAF,length_filter_le→AAR,drop_eq_getElem_cons→AAV,take_append_drop→AAY,filter_cons_of_pos→AAb,filter_cons_of_neg→AAc,nodup_cons→ABH,nodup_append→ABI,drop_length_add_append→ABK,map_cons→ABV,length_reverse→ABW,find?_eq_none→ABg,reverse_perm→ABp,drop_length→ABy,length→ACA,find?_some→ACB,filter_nil→ACC,perm_middle→ACZ,foldl_append→ACn,map_set→ACt,getElem?_replicate→ADB,perm_append_comm→ADU,filter_sublist→ADj,take_add_one→ADy,mem_nil_iff→AD8,ext_getElem→AEA,take_left→AEV
open Bool renaming and_eq_true→yr
open Go.Value renaming int→zd,slice→ACc,map→AD5
open Int renaming toNat_of_nonneg→ABd
open List.Pairwise renaming sublist→ACV
open List.Perm renaming trans→ADZ
set_option linter.unusedVariables false
set_option linter.unusedSimpArgs false
namespace Go.Proofs.YtbjadbhkogcfeaaGreat
noncomputable section
open Go
set_option maxRecDepth 100000
theorem Y1{b n:Nat}:FH ⟨b,0,none⟩ n=⟨b,n,none⟩:=by
 cases n with
 |zero=>rfl
 |succ m=>
  show(⟨b,0+(m+1),none⟩:Addr)=_;rw[If]
theorem Sq(x:Kt):(AZ x).length=6:=rfl
theorem iR{ks:List Kt}(hu:∀ k∈ks,oneCell k.u=true):Bc (flK ks)=true:=by
 induction ks with
 |nil=>rfl
 |cons k l ih=>
  refine PR fun x hx=>?_
  obtain⟨y,hy,hxy⟩:=List.mem_flatMap.1 hx;have huy:=hu y hy;have hxy:x∈[zd .i64 y.a,AI AT y.b,AI AT y.c,.int .u8 (y.s:Int),y.u,AI AT (y.p:Int)]:=hxy;simp only[yv,AD8,or_false]at hxy;rcases hxy with rfl|rfl|rfl|rfl|rfl|rfl
  all_goals first|exact huy|rfl
section
variable {F:AFi}{e:Env}{h h':Hp}{S:Nat->Prop}{m k n bl:Nat}{v:IN}
theorem FX{x:O}{d N i:Nat}{K:Nat->R}(hx:x e=AI AT (i:Int))(hi:i<=N):Cv e (some x) d N K=K i:=by
 show(match De (x e)with|.ok n=>(bif yl n N then K n else .no)|.no=>.no)=_;rw[hx,DI];simp only;rw[Av.2 hi];rfl
theorem Hy{b lo hi c:Nat}(hc:lo<c):Br (some ⟨b,0,none⟩) 6 lo hi c h=.ok (.slice (some ⟨b,6*lo,none⟩) (hi - lo) (c - lo)) h:=by
 unfold Br;simp only[Ao];have e1:yu c lo=false:=by
  cases hb:yu c lo
  ·rfl
  ·have:=Nat.eq_of_beq_eq_true hb;omega
 rw[e1];simp only;cases lo with
 |zero=>rfl
 |succ i=>
  have e2:zi (i+1) 6=yg (6*i+5):=by
   show(i+1)*6=_;omega
  rw[e2];have e3:Nat.add 0 (yg (6*i+5))=6*(i+1):=by
   show 0+(6*i+5+1)=_;omega
  simp only[e3];rfl
theorem Ux{L:List IN}(R:h.Row bl 124 L):E5 123 (some ⟨bl,0,none⟩) h=true:=by
 obtain⟨cc,hcc,_⟩:=R.rowOf;unfold E5;simp only[hcc];rfl
theorem fz{lo hi c:Nat}{L:List IN}(R:h.Row bl 124 L)(hc:lo<c):ET 123 6 (some ⟨bl,0,none⟩) false lo hi c h=.ok (.slice (some ⟨bl,6*lo,none⟩) (hi - lo) (c - lo)) h:=by
 cases lo with
 |zero=>exact Hy hc
 |succ l=>
  show(bif E5 123 (some ⟨bl,0,none⟩) h then Br (some ⟨bl,0,none⟩) 6 (l+1) hi c h else .no)=_;rw[Ux R];exact Hy hc
theorem Xi{P Q:List Kt}{x:Kt}(W:h.Wf)(R:h.Row bl 124 (flK (P++x::Q)))(AFs:256<=bl)(hn:n=(P++x::Q).length)(hl:n<=100000)(hu:∀ k∈P++x::Q,oneCell k.u=true):
  ∃ h',call AC (m+1) 130 [.slice (some ⟨bl,0,none⟩) n n,AI AT (P.length:Int),AI AT ((P.length+1:Nat):Int)] h=.ok (.slice (some ⟨bl,0,none⟩) (n - 1) n) h'/\Fx (fun b=>b=bl) h h'/\h'.Row bl 124 (flK (P++Q)++AZ K0):=by
 have hn':n=P.length+1+Q.length:=by rw[hn,No,yh];omega
 have lf:(flK (P++x::Q)).length=6*n:=by rw[Cd,hn]
 have ALm:∀ (F:AFi) (e:Env),J 0 e=.slice (some ⟨bl,0,none⟩) n n->J 1 e=AI AT (P.length:Int)->J 2 e=AI AT ((P.length+1:Nat):Int)->J 12 e=AI AT (n:Int)->∃ v,EJ 123 6 (J 0) (some (J 1)) (some (J 2)) (some (J 12)) F e h=.ok v h:=fun F e e0 e1 e2 e3=>by
  show ∃ v,(match J 0 e with|.slice a n c=>Dh e n c (some (J 1)) (some (J 2)) (some (J 12)) (fun l hh m=>ET 123 6 a true l hh m h)|_=>.no)=.ok v h;rw[e0];show ∃ v,Cv e (some (J 12)) n n (fun m=>Cv e (some (J 2)) n m fun hh=>Cv e (some (J 1)) 0 hh fun l=>ET 123 6 (some ⟨bl,0,none⟩) true l hh m h)=.ok v h;rw[FX e3 (IT _),FX e2 (by omega),FX e1 (by omega)];exact⟨_,Hy (by omega)⟩
 have ALn:∀ (F:AFi) (e:Env) (h:Hp),J 0 e=.slice (some ⟨bl,0,none⟩) n n->J 1 e=AI AT (P.length:Int)->EJ 123 6 (J 0) none (some (J 1)) none F e h=.ok (.slice (some ⟨bl,0,none⟩) P.length n) h:=fun F e h e0 e1=>by
  show(match J 0 e with|.slice a n c=>Dh e n c none (some (J 1)) none (fun l hh m=>ET 123 6 a false l hh m h)|_=>.no)=_;rw[e0];show Cv e (some (J 1)) n n (fun hh=>ET 123 6 (some ⟨bl,0,none⟩) false 0 hh n h)=_;rw[FX e1 (by omega)];exact Hy (lo:=0) (by omega)
 have xm:=(Hp.Ext.refl W).marked;have Rm:h.marked.Row bl 124 (flK (P++x::Q)):=R.same rfl;have Rq:h.marked.quiet.Row bl 124 (flK (P++x::Q)):=R.same rfl;have AIG:((flK (P++x::Q)).drop (6*(P.length+1))).take (Q.length*6)=flK Q:=by
  have e1:flK (P++x::Q)=flK (P++[x])++flK Q:=by rw[<- Ja];simp
  have e2:6*(P.length+1)=(flK (P++[x])).length:=by rw[Cd,No];rfl
  rw[e1,e2,List.drop_left,List.take_of_length_le (by rw[Cd];omega)]
 obtain⟨src,ALo,hsrc,hlen⟩:∃ src,(∀ (F:AFi) (e:Env),J 0 e=.slice (some ⟨bl,0,none⟩) n n->J 2 e=AI AT ((P.length+1:Nat):Int)->EJ 123 6 (J 0) (some (J 2)) none none F e h.marked=.ok src h.marked)/\(∀ K:List IN->Go.Proofs.YtbjadbhkogcfeaaGreat.R,BP h.marked.quiet 6 src Q.length K=K (flK Q))/\lenV src=.ok Q.length:=by
  have key:∀ (F:AFi) (e:Env),J 0 e=.slice (some ⟨bl,0,none⟩) n n->J 2 e=AI AT ((P.length+1:Nat):Int)->EJ 123 6 (J 0) (some (J 2)) none none F e h.marked=Br (some ⟨bl,0,none⟩) 6 (P.length+1) n n h.marked:=fun F e e0 e2=>by
   show(match J 0 e with|.slice a n c=>Dh e n c (some (J 2)) none none (fun l hh m=>ET 123 6 a false l hh m h.marked)|_=>.no)=_;rw[e0];show Cv e (some (J 2)) 0 n (fun l=>ET 123 6 (some ⟨bl,0,none⟩) false l n n h.marked)=_;rw[FX e2 (by omega)];show(bif E5 123 (some ⟨bl,0,none⟩) h.marked then Br (some ⟨bl,0,none⟩) 6 (P.length+1) n n h.marked else .no)=_;rw[Ux Rm];rfl
  rcases za Q.length with hq|hq
  ·obtain rfl:Q=[]:=zc hq
   have hnp:n=P.length+1:=by rw[hn'];rfl
   refine⟨.slice (some ⟨bl,0,none⟩) 0 0,fun F e e0 e2=>?_,fun K=>?_,rfl⟩
   ·rw[key F e e0 e2,hnp]
    unfold Br;simp only[Ao,Nat.beq_refl];have:Nat.sub (P.length+1) (P.length+1)=0:=Nat.sub_self _;rw[this]
   ·have:=Rq.AHh (es:=6) (off:=0) (n:=0) (sl:=0) (c:=0) (k:=K) (by omega)
    exact this
  ·refine⟨.slice (some ⟨bl,6*(P.length+1),none⟩) Q.length Q.length,fun F e e0 e2=>?_,fun K=>?_,rfl⟩
   ·rw[key F e e0 e2,Hy (by omega),show n - (P.length+1)=Q.length by omega]
   ·have:=Rq.AHh (es:=6) (off:=6*(P.length+1)) (n:=Q.length) (sl:=Q.length) (c:=Q.length) (k:=K) (by rw[lf];omega)
    rw[this,AIG]
 have hoQ:Bc (flK Q)=true:=iR fun k hk=>hu k (zE _ (yj _ hk))
 have hoo:6*P.length+(flK Q).length<=(flK (P++x::Q)).length:=by rw[lf,Cd];omega
 have ap:DU 6 64 123 (.slice (some ⟨bl,0,none⟩) P.length n) src h.marked.quiet=.ok (.slice (some ⟨bl,0,none⟩) (n - 1) n) (h.marked.quiet.wr bl (6*P.length) (flK Q)):=by
  unfold DU Dr;simp only[hlen,hsrc,Ao,Nat.add_eq];rw[Av.2 (show P.length+Q.length<=n by omega)];simp only;have e2:FH ⟨bl,0,none⟩ (zi P.length 6)=⟨bl,6*P.length,none⟩:=by
   have:zi P.length 6=6*P.length:=AAP _ _;rw[this,Y1]
  rw[e2,Rq.store xm.wf.quiet AFs hoo hoQ,show P.length+Q.length=n - 1 by omega]
 have wr:=Rq.AFu xm.wf.quiet hoo;have fx:=Fx.wr (S:=fun b=>b=bl) xm.wf.quiet Rq hoo rfl;generalize h.marked.quiet.wr bl (6 * P.length) (flK Q)=q at ap wr fx;obtain⟨Z,hZ,hov⟩:∃ Z:List IN,Z.length=6/\over (flK (P++x::Q)) (6 * P.length) (flK Q)=flK (P++Q)++Z:=by
  refine⟨(flK (x::Q)).drop (6*Q.length),by rw[zl,Cd,yh];omega,?_⟩;unfold over;have e1:flK (P++x::Q)=flK P++flK (x::Q):=Ja _ _;have e2:6*P.length=(flK P).length:=(Cd P).symm;have e3:(flK Q).length=6*Q.length:=Cd Q;rw[e3,e1,e2,AEV,ABK,Ja]
 rw[hov]at wr;have q1:∀ (F:AFi) (e:Env),J 22 e=.slice (some ⟨bl,0,none⟩) P.length n->J 25 e=src->Ad .free (Bp 6 64 123 (J 22) (J 25)) F e h.marked=.ok (.slice (some ⟨bl,0,none⟩) (n - 1) n) (h.marked.back q):=fun F e e1 e2=>by
  refine BO ?_;rw[BN,e1,e2];exact ap
 have f1:Fx (fun b=>b=bl) h (h.marked.back q):=((fx.from (h:=h.marked) rfl rfl).same (h2:=h.marked.back q) rfl rfl).from (h:=h) rfl rfl;have R1:(h.marked.back q).Row bl 124 (flK (P++Q)++Z):=wr.same rfl;generalize h.marked.back q=h1 at q1 f1 R1;have lPQ:(flK (P++Q)).length=6 * (n - 1):=by rw[Cd,No];omega
 have ALp:∀ (F:AFi) (e:Env),J 0 e=.slice (some ⟨bl,0,none⟩) (n - 1) n->J 29 e=AI AT ((n - 1:Nat):Int)->J 7 e=AI AT (n:Int)->EJ 123 6 (J 0) (some (J 29)) (some (J 7)) none F e h1=.ok (.slice (some ⟨bl,6*(n - 1),none⟩) 1 1) h1:=fun F e e0 e1 e2=>by
  show(match J 0 e with|.slice a n c=>Dh e n c (some (J 29)) (some (J 7)) none (fun l hh m=>ET 123 6 a false l hh m h1)|_=>.no)=_;rw[e0];show Cv e (some (J 7)) (n - 1) n (fun hh=>Cv e (some (J 29)) 0 hh fun l=>ET 123 6 (some ⟨bl,0,none⟩) false l hh n h1)=_;rw[FX e2 (IT _),FX e1 (by omega),fz R1 (by omega),show n - (n - 1)=1 by omega]
 have AJs:6*(n - 1)+(AZ K0).length<=(flK (P++Q)++Z).length:=by rw[No,lPQ,hZ];exact IT _
 have cl:∀ (F:AFi) (e:Env),J 31 e=.slice (some ⟨bl,6*(n - 1),none⟩) 1 1->Mz Dn.zero (J 31) F e h1=.ok AFl (h1.wr bl (6*(n - 1)) (AZ K0)):=fun F e e1=>by
  show(match J 31 e with|.slice none _ _=>EK h1|.slice (some a) n _=>(match n with| 0=>EK h1|yg k=>C1 a (Bb Dn.zero (yg k)) h1 EK)|_=>.no)=_;rw[e1];show C1 ⟨bl,6*(n - 1),none⟩ (Bb Dn.zero 1) h1 EK=_;rw[WY,R1.store f1.wf AFs AJs rfl];rfl
 have wr2:=R1.AFu f1.wf AJs;have fx2:=Fx.wr (S:=fun b=>b=bl) f1.wf R1 AJs rfl;have ALq:over (flK (P++Q)++Z) (6*(n - 1)) (AZ K0)=flK (P++Q)++AZ K0:=by
  unfold over;rw[<- lPQ,AEV,ABK,Sq,List.drop_of_length_le (by omega),yw]
 rw[ALq]at wr2;generalize h1.wr bl (6 * (n - 1)) (AZ K0)=h2 at cl wr2 fx2;refine⟨h2,?_,f1.trans fx2,wr2⟩;have c1:iEq (P.length:Int) ((P.length+1:Nat):Int)=false:=B6 (by omega);rw[fR rfl];unfold gc;simp only[iN,IS,sT,By,BY,reduceIte,Ah,D7];obtain⟨v,hv⟩:=ALm (call AC m) (Env.set 12 (AI AT (n:Int)) (Env.set 6 (.slice none 0 0) (Env.set 2 (AI AT ((P.length+1:Nat):Int)) (Env.set 1 (AI AT (P.length:Int)) (Env.set 0 (.slice (some ⟨bl,0,none⟩) n n) e0))))) (by simp[AG]) (by simp[AG]) (by simp[AG]) (by simp[AG]);rw[hv];simp only[sT,By,BY,reduceIte,AK,AJ,c1,Ah,D7,A1,ALn,ALo,q1,ALp,cl,lV0]
end
end
noncomputable section
open Go
set_option maxRecDepth 100000
theorem Fx.xt{S:Nat->Prop}{h h':Hp}(x:Fx S h h')(hs:∀ b,S b->h.next<=b):h.Ext h':=⟨x.next,fun i hi=>x.get i hi fun s=>by have:=hs i s;omega,x.low _ (AB8 _ _) (AAp _ _) fun b hb=>zO (AAp _ _) (hs b hb),x.wf⟩
theorem Fx.xtF{S:Nat->Prop}{h0 h h':Hp}(x0:h0.Ext h)(x:Fx S h h')(hs:∀ b,S b->h0.next<=b):h0.Ext h':=Fx.xt (S:=S) ((Fx.of x0).trans x) hs
theorem aR(a b:List Nat):iv (a++b)=iv a++iv b:=by unfold iv ints;rw[zb,zb]
section
variable {F:AFi}{e:Env}{h h':Hp}{A:At}{T M:List Nat}{c0 bad m k p n bl:Nat}{arm:Int}{fr:List Nat}{v lv fv:IN}
theorem qK{n z:Nat}(W:h.Wf){u:IN}{xs:List Nat}(V:h.AF5 u (iv xs))(hl:xs.length<=1000):
  ∃ h1 w h2 b,call AC (n+1) 102 [u] h=.ok w h1/\h.Ext h1/\DU 1 8 3 w (.slice (some ⟨h1.next,0,none⟩) 1 1) (h1.AFh 0 [AI AT (z:Int)])=.ok (.slice (some ⟨b,0,none⟩) (xs.length+1) (xs.length+1)) h2/\h.Ext h2/\h2.Row b 4 (iv (xs++[z]))/\h.next<=b:=by
 have ha:Bc (iv xs)=true:=HS .i64 _;have fin:∀ (h1:Hp) (w:IN),h.Ext h1->(h1.Own h.next 3 w (iv xs)\/(xs=[]/\∃ b,w=.slice (some ⟨b,0,none⟩) 0 0/\h1.Row b 0 []))->∃ h2 b,DU 1 8 3 w (.slice (some ⟨h1.next,0,none⟩) 1 1) (h1.AFh 0 [AI AT (z:Int)])=.ok (.slice (some ⟨b,0,none⟩) (xs.length+1) (xs.length+1)) h2/\h.Ext h2/\h2.Row b 4 (iv (xs++[z]))/\h.next<=b:=fun h1 w x1 o=>by
  have y2:=(Hp.Ext.refl x1.wf).AFh 0 [zd .i64 (z:Int)];have Rw:=Hp.Row.new x1.wf 0 [zd .i64 (z:Int)];have hlt:h1.next<(h1.AFh 0 [zd .i64 (z:Int)]).next:=Nat.lt_succ_self _;generalize h1.AFh 0 [zd .i64 (z:Int)]=g at y2 Rw hlt;have x2:=x1.trans y2;have Vz:g.AF5 (.slice (some ⟨h1.next,0,none⟩) 1 1) [AI AT (z:Int)]:=.inr ⟨h1.next,0,1,0,_,rfl,Rw,IT _,rfl⟩;rcases o with o|⟨rfl,b,rfl,r⟩
  ·obtain⟨h2,v',a1,a2,a3,a4,_⟩:=Es (eb:=8) (en:=3) (k:=h.next) x2 (IT _) (by have:=x1.next;omega) (o.ext x1.wf y2) Vz (AFL) rfl (by rw[EV];show(xs.length+1+1)*9<=_;omega)
   rcases a3 with ⟨_,h2'⟩|⟨b,h1',h2',h3',h4'⟩
   ·have:=congrArg ACA h2'
    simp at this
   ·have e1:(iv xs++[zd .i64 (z:Int)]).length=xs.length+1:=by rw[No,EV];rfl
    rw[e1]at h1';subst h1';exact⟨h2,b,a1,a2,by rw[aR];exact h2',h3'⟩
  ·have hs:∀ K:List IN->Go.Proofs.YtbjadbhkogcfeaaGreat.R,BP g 1 (.slice (some ⟨h1.next,0,none⟩) 1 1) 1 K=K [AI AT (z:Int)]:=fun K=>Rw.AHh (es:=1) (off:=0) (n:=1) (IT _)
   obtain⟨h2,a1,a2,a3,a4,_⟩:=Ep (eb:=8) (en:=3) x2 (r.ext x1.wf y2) hs rfl rfl (by omega) rfl (by omega);exact⟨h2,g.next,a1,a2,a3,by have:=x2.next;omega⟩
 rcases V with ⟨rfl,hx⟩|⟨b,off,c,el,L,h1,h2,h3,h4⟩
 ·have hx0:xs=[]:=by
   have:=congrArg ACA hx;rw[EV]at this;exact zc this
  have ne:∀ e:Env,J 0 e=.slice none 0 0->oEq Tu.k false (J 0) (kV (.slice none 0 0)) (call AC n) e h=.ok (.bool true) h:=fun e he=>Jo (t:=0) WT he
  have k1:call AC (n+1) 102 [.slice none 0 0] h=.ok AFn h:=by
   rw[H7 rfl];unfold On;simp only[iN,IS,sT,By,BY,reduceIte,ne,lV0]
  obtain⟨h2,b,q1,q2,q3,q4⟩:=fin h AFn (.refl W) (.inl (.inl ⟨rfl,hx⟩));exact⟨h,AFn,h2,b,k1,.refl W,q1,q2,q3,q4⟩
 ·have V:h.AF5 u (iv xs):=.inr ⟨b,off,c,el,L,h1,h2,h3,h4⟩
  have x1:=(Hp.Ext.refl W).AFh 0 [];have R:=Hp.Row.new W 0 [];have es:=fun (e:Env) (t:List IN)=>Kg (F:=call AC n) (e:=e) (t:=t) W
  have n1:(h.AFh 0 []).next=h.next+1:=rfl;generalize h.AFh 0 []=g at x1 R es n1;have ne:∀ e:Env,J 0 e=u->oEq Tu.k false (J 0) (kV (.slice none 0 0)) (call AC n) e h=.ok (.bool false) h:=fun e he=>Jn (t:=0) WT (he.trans h1)
  have V1:=V.ext W x1;have big:=W.big;rcases za xs.length with hz|hz
  ·obtain rfl:xs=[]:=zc hz
   have ap:DU 1 8 3 (.slice (some ⟨h.next,0,none⟩) 0 0) u g=.ok (.slice (some ⟨h.next,0,none⟩) 0 0) (g.wr h.next 0 []):=Hr x1.wf big R (fun k=>V1.src rfl k) V1.lenV;have R2:=R.AFu x1.wf (off:=0) (vs:=[]) (IT _);have x2:=R.AGE x1 (IT _) (off:=0) (vs:=[]) (IT _);have k1:call AC (n+1) 102 [u] h=.ok (.slice (some ⟨h.next,0,none⟩) 0 0) (g.wr h.next 0 []):=by
    rw[H7 rfl];unfold On;simp only[iN,IS,sT,By,BY,reduceIte,ne,es,BN,ap,lV0]
   obtain⟨h2,b,q1,q2,q3,q4⟩:=fin _ (.slice (some ⟨h.next,0,none⟩) 0 0) x2 (.inr ⟨rfl,h.next,rfl,R2⟩);exact⟨_,_,h2,b,k1,x2,q1,q2,q3,q4⟩
  ·have hlv:=V1.lenV
   rw[EV]at hlv;obtain⟨h2,a1,a2,a3,a4,a5⟩:=Ep (eb:=8) (en:=3) (n:=xs.length) x1 R (es:=1) (fun k=>by have:=V1.src rfl k;rwa [EV]at this) hlv (by rw[EV];omega) hz ha (by omega);have k1:call AC (n+1) 102 [u] h=.ok (.slice (some ⟨g.next,0,none⟩) xs.length xs.length) h2:=by
    rw[H7 rfl];unfold On;simp only[iN,IS,sT,By,BY,reduceIte,ne,es,BN,a1,lV0]
   obtain⟨h3,b,q1,q2,q3,q4⟩:=fin h2 (.slice (some ⟨g.next,0,none⟩) xs.length xs.length) a2 (.inl (.inr ⟨g.next,by rw[EV],a3,by omega,by omega⟩));exact⟨h2,_,h3,b,k1,a2,q1,q2,q3,q4⟩
theorem VJ{P Q:List Kt}{x:Kt}(W:h.Wf)(s:Sl h A T M c0 arm (P++x::Q) fr lv fv bad false)(hkl:(P++x::Q).length<=100)(hfl:fr.length<=11)(hp3:3*x.p+3<=A.n):
  ∃ h' lv' fv',call AC (m+7) 104 [pt A.bs,AI AT (P.length:Int)] h=.ok (AI AT (x.p:Int)) h'/\Fx (fun b=>b=A.bs) h h'/\Sl h' A T M c0 arm (P++Q) (Eh (fr++[x.p])) lv' fv' bad false/\∀ b,AGA fv' b->h.next<=b:=by
 have hD:=s.AHz W;have hu:∀ k∈P++x::Q,oneCell k.u=true:=fun k hk=>(s.ko k hk).1.vs.one.2.1
 obtain⟨_,_,_,l3,_⟩:=BG s.row;obtain⟨b0,_,ix,_,lde⟩:=s.ls.at (i:=P.length) (k:=x) GC;have lp:=lde 5 (AI AT (x.p:Int)) rfl;obtain⟨h1,w,k1,x1,ko⟩:=Ua (m:=m+5) W s.ls hu (by omega);obtain⟨bl,hw,Rb,hbl,AFs⟩:∃ bl,w=.slice (some ⟨bl,0,none⟩) (P++x::Q).length (P++x::Q).length/\h1.Row bl 124 (flK (P++x::Q))/\h.next<=bl/\256<=bl:=by
  rcases ko with (⟨_,h2⟩|h2)|⟨h2,_⟩
  ·have:=congrArg ACA h2
   simp at this
  ·exact h2
  ·have:=congrArg ACA h2
   simp at this
 subst hw;obtain⟨h2,k2,f2,R2⟩:=Xi (m:=m+5) x1.wf Rb AFs rfl (by omega) hu;have x2:h.Ext h2:=Fx.xtF x1 f2 fun b hb=>by rw[hb];exact hbl
 have s2:=s.ext W x2;have nD:∀ b,h.next<=b->¬ A.D b:=fun b hb hd=>by have:=hD b hd;omega
 have nbs:∀ b,¬ A.D b->b≠A.bs:=fun b hb h=>hb (.inl h)
 have lPQ:(P++x::Q).length=(P++Q).length+1:=by simp only[No,yh];omega
 generalize AJt:(ACc (some ⟨bl,0,none⟩) ((P++x::Q).length - 1) (P++x::Q).length)=lv' at k2;obtain⟨h3,st3,AIl,n3,f3,_⟩:=Dt (v:=lv') x2.wf s2.row (off:=3) (show 3<7 by omega) s.ne.2.2.2.2 (by rw[<- AJt];rfl) (by rw[<- AJt];rfl);have AIl:h3.Row A.bs 0 (slL A.bd A.tb lv' fv bad false):=AIl;have s3:Sl h3 A T M c0 arm (P++Q) fr lv' fv bad false:=s2.bsx x2.wf f3 AIl (by
   rw[<- AJt];exact(PX (n:=(P++x::Q).length - 1) (c:=(P++x::Q).length) (f3.row x2.wf R2 (nbs _ (nD _ hbl))) (by omega) (by omega)).mono fun b hb=>by rw[show b=bl from hb];exact nD _ hbl)
  (fun k hk=>by
   have hk':k∈P++x::Q:=by
    rcases zK.1 hk with h1|h1
    ·exact zR _ h1
    ·exact zE _ (yj _ h1)
   exact⟨(s2.ko k hk').1.keep fun b el L hb _ r=>f3.row x2.wf r (nbs b hb),(s2.ko k hk').2⟩)
  (s2.fs.keep fun b el L hb r=>f3.row x2.wf r (nbs b hb)) ⟨by have:=s.le.1;omega,s.le.2⟩
 obtain⟨_,_,_,_,l4,_⟩:=BG s3.row;obtain⟨h4,w4,h5,b5,k4,x4,a5,x5,R5,hb5⟩:=qK (n:=m+5) (z:=x.p) f3.wf (xs:=fr) s3.fs.vals (by omega);have bs:=fun (F:AFi) (e:Env) (he:J 5 e=AI AT (x.p:Int))=>Eq (F:=F) x4.wf he
 have s5:=s3.ext f3.wf x5;generalize AIU:(ACc (some ⟨b5,0,none⟩) (fr.length+1) (fr.length+1))=fv' at a5;obtain⟨h6,st6,AJu,n6,f6,_⟩:=Dt (v:=fv') x5.wf s5.row (off:=4) (show 4<7 by omega) s.ne.2.2.2.2 (by rw[<- AIU];rfl) (by rw[<- AIU];rfl);have AJu:h6.Row A.bs 0 (slL A.bd A.tb lv' fv' bad false):=AJu;have AKh:h.next<=b5:=by have:=x2.next;have:=f3.next;omega
 have nb5:=nD _ AKh;have R6:=f6.row x5.wf R5 (nbs _ nb5);have AJv:256<=b5:=by have:=W.big;omega
 have lfa:(iv (fr++[x.p])).length=fr.length+1:=by rw[EV,No];rfl
 have hfree:∀ q∈fr++[x.p],3*q+3<=A.n:=fun q hq=>by
  rcases zK.1 hq with h1|h1
  ·exact s.le.2.2.2 q h1
  ·rw[zB.1 h1];exact hp3
 have s6:Sl h6 A T M c0 arm (P++Q) (fr++[x.p]) lv' fv' bad false:=s5.bsx x5.wf f6 AJu (s5.ls.keep fun b el L hb r=>f6.row x5.wf r (nbs b hb)) (fun k hk=>⟨(s5.ko k hk).1.keep fun b el L hb _ r=>f6.row x5.wf r (nbs b hb),(s5.ko k hk).2⟩)
  (by
   rw[<- AIU];refine .inr ⟨b5,4,?_,R6,.inl rfl,nb5⟩;show _=ACc _ (iv (fr++[x.p])).length (iv (fr++[x.p])).length;rw[lfa]) ⟨s5.le.1,by rw[No];show fr.length+1<=1000;omega,s5.le.2.2.1,hfree⟩
 obtain⟨_,_,_,_,l46,_⟩:=BG s6.row;obtain⟨h7,k7,f7,R7⟩:=cg (m:=m) (Z:=[]) (n:=fr.length+1) (c:=fr.length+1) f6.wf (by rw[yw];exact R6) AJv (by rw[No];rfl) (by omega);rw[yw]at R7;rw[AIU]at k7;have pm:=G7 (fr++[x.p]);have kp:∀ b el L,b≠b5->h6.Row b el L->h7.Row b el L:=fun b el L hb r=>f7.row f6.wf r hb
 have nbb:∀ b el L,(el=0\/el=6\/el=124)->h6.Row b el L->b≠b5:=fun b el L he r=>EE r R6 (by omega)
 have s7:Sl h7 A T M c0 arm (P++Q) (Eh (fr++[x.p])) lv' fv' bad false:=by
  refine⟨kp _ _ _ (nbb _ _ _ (.inl rfl) s6.row) s6.row,s6.dk.fr f6.wf f7 (nbb _ _ _ (.inl rfl) s6.dk.disk) (nbb _ _ _ (.inl rfl) s6.dk.med) (fun h=>(J0 R6 s6.dk.map) h.symm),kp _ _ _ (nbb _ _ _ (.inl rfl) s6.tab) s6.tab,s.tok,?_,fun y hy=>⟨(s6.ko y hy).1.keep fun b el L hb he r=>kp b el L (nbb b el L (by omega) r) r,(s6.ko y hy).2⟩,?_,s.ne,?_⟩
  ·rcases s6.ls with h1|⟨b,c,el,L,q1,q2,q3,q4,q5,q6,q7⟩
   ·exact .inl h1
   ·exact .inr ⟨b,c,el,L,q1,q2,kp _ _ _ (nbb b el _ (by omega) q3) q3,q4,q5,q6,q7⟩
  ·rw[<- AIU]
   refine .inr ⟨b5,4,?_,R7,.inl rfl,nb5⟩;show _=ACc _ (iv (Eh (fr++[x.p]))).length (iv (Eh (fr++[x.p]))).length;rw[EV,pm.length_eq,No];rfl
  ·exact⟨s6.le.1,by rw[pm.length_eq];exact s6.le.2.1,s6.le.2.2.1,fun q hq=>hfree q (pm.mem_iff.1 hq)⟩
 have fx:Fx (fun b=>b=A.bs) h h7:=by
  have e1:Fx (fun b=>b=A.bs) h h2:=.of x2;have e2:=((e1.trans f3).trans (.of x5)).trans f6;exact e2.fresh f7 AKh
 refine⟨h7,lv',fv',?_,fx,s7,fun b hb=>by
  obtain⟨off,n,c,e1⟩:=hb;rw[<- AIU]at e1;injection e1 with e1 _ _
  injection e1 with e1
  injection e1 with e1 _ _
  omega⟩
 have a1:=Cc (i:=P.length) (h:=h1) (by have:=lPQ;simp only[No]at hkl;omega);have k1':call AC (m+6) 103 [lv] h=.ok (.slice (some ⟨bl,0,none⟩) (P++x::Q).length (P++x::Q).length) h1:=k1;have k2':call AC (m+6) 130 [.slice (some ⟨bl,0,none⟩) (P++x::Q).length (P++x::Q).length,AI AT (P.length:Int),AI AT ((P.length+1:Nat):Int)] h1=.ok lv' h2:=k2;have k4':call AC (m+6) 102 [fv] h3=.ok w4 h4:=k4;have k7':call AC (m+6) 107 [fv'] h6=.ok AFl h7:=k7;rw[eu rfl];unfold gC;simp only[iN,IS,sT,By,BY,reduceIte,Ax,Al,AH,AN,If,AM,AP,l3,BB,ix,lp,cA0,k1',BM,a1,k2',AX,st3,l4,k4',bs,BN,a5,st6,l46,k7',lV0]
theorem bt{P Q:List Kt}{x:Kt}(W:h.Wf)(s:Sl h A T M c0 arm (P++x::Q) fr lv fv bad false)(hkl:(P++x::Q).length<=100)(hfl:fr.length<=11)(hp3:3*x.p+3<=A.n)(ha:CB arm (k+2)):
  ∃ h' c1 AGB lv' fv',call AC (m+8) 105 [pt A.bs,AI AT (P.length:Int)] h=.ok (AI AT 0) h'/\Fx A.D h h'/\Sl h' A T (G9 M [x.p]) c1 AGB (P++Q) (Eh (fr++[x.p])) lv' fv' bad false/\CB AGB k:=by
 obtain⟨_,_,_,l3,_⟩:=BG s.row;obtain⟨b0,_,ix,_,lde⟩:=s.ls.at (i:=P.length) (k:=x) GC;have lp:=lde 5 (AI AT (x.p:Int)) rfl;have bs:=fun (F:AFi) (e:Env) (he:J 14 e=AI AT (x.p:Int))=>Eq (F:=F) W he
 have y1:=(Hp.Ext.refl W).AFh 0 [zd .i64 (x.p:Int)];have Rw:=Hp.Row.new W 0 [zd .i64 (x.p:Int)];generalize h.AFh 0 [zd .i64 (x.p:Int)]=h1 at bs y1 Rw;have s1:=s.ext W y1;obtain⟨h2,c1,AIq,k2,f2,s2,a2⟩:=LB (m:=m+1) (k:=k) y1.wf s1 (ps:=[x.p]) (pv:=.slice (some ⟨h.next,0,none⟩) 1 1) (.inr ⟨h.next,0,1,0,_,rfl,Rw,IT _,rfl⟩) (fun p hp=>by rw[zB.1 hp];exact hp3) (by simp) (by show 1<=50;omega) (ha.le (by show 1+1+k<=k+2;omega));obtain⟨h3,lv',fv',k3,f3,s3,_⟩:=VJ (m:=m) f2.wf s2 hkl hfl hp3;have c00:iNe 0 0=false:=CH rfl;have k2':call AC (m+7) 81 [pt A.bs,.slice (some ⟨h.next,0,none⟩) 1 1] h1=.ok (AI AT 0) h2:=k2;refine⟨h3,c1,AIq,lv',fv',?_,((Fx.of y1).trans (f2.mono fun b hb=>.inr hb)).trans (f3.mono fun b hb=>.inl hb),s3,a2⟩;rw[ez rfl];unfold gE;simp only[iN,IS,sT,By,BY,reduceIte,Ax,Al,AH,AN,If,AM,AP,l3,BB,ix,lp,bs,cA0,k2',AK,AJ,c00,k3,lV0]
end
end
noncomputable section
open Go
set_option maxRecDepth 100000
def Ie(ks:List Kt)(a b c:Int):Option Int:=match ks.find? (Bo a b c)with
 |some k=>if k.s=2 then some 0 else if CA a b c ks=true then some 61 else none
 |none=>if CA a b c ks=true then some 61 else some 60
def elB(a b c:Int)(k:Kt):Bool:=decide (k.a=a) && decide (k.b=b) && decide (k.c<c)
def frE(fr:List Nat)(out:List Kt):List Nat:=out.foldl (fun f x=>Eh (f++[x.p])) fr
theorem QY(fr:List Nat)(out:List Kt)(x:Kt):frE fr (out++[x])=Eh (frE fr out++[x.p]):=by unfold frE;rw[ACn];rfl
theorem Jc:∀ (out:List Kt) (fr:List Nat),(frE fr out).Perm (fr++out.map (·.p))
 |[],fr=>by rw[List.map_nil,yw];exact .refl _
 |x::out,fr=>by
  show(frE (Eh (fr++[x.p])) out).Perm _;have:=Jc out (Eh (fr++[x.p]));refine this.trans (((G7 _).append_right _).trans ?_);rw[zC];exact .refl _
theorem VF(fr:List Nat)(out:List Kt):(frE fr out).length=fr.length+out.length:=by rw[(Jc out fr).length_eq,No,OF]
theorem MX{α:Type}(P:α->Bool)(l:List α)(x:α):(l++[x]).filter P=if P x=true then l.filter P++[x]else l.filter P:=by
 rw[List.filter_append];cases h:P x
 ·rw[if_neg (by decide),AAc (by rw[h];decide),ACC,yw]
 ·rw[if_pos rfl,AAb h,ACC]
theorem Fx.drop{S:Nat->Prop}{h h':Hp}(x:Fx (fun b=>S b\/h.next<=b) h h'):Fx S h h':=⟨x.next,fun i hi hs=>x.get i hi (fun h1=>h1.elim hs (fun h2=>by omega)),x.wf,fun L q1 q2 q3=>x.low L q1 q2 fun b hb=>hb.elim (q3 b) (fun h2=>by omega)⟩
theorem Hp.WI.blk{h:Hp}{S:Nat->Prop}{v:IN}{xs:List IN}(o:h.WI S v xs){b:Nat}(hb:AGA v b):∃ el L,h.Row b el L:=by
 obtain⟨_,_,_,e⟩:=hb;rcases o with ⟨h1,_⟩|⟨b',el,h1,h2,_⟩
 ·rw[h1]at e;cases e
 ·rw[h1]at e
  injection e with e _ _
  injection e with e
  injection e with e _ _
  exact⟨el,_,e ▸ h2⟩
section
variable {F:AFi}{e:Env}{h h':Hp}{S:Nat->Prop}{A:At}{T M:List Nat}{c0 bad m k p n bl:Nat}{arm:Int}{ks:List Kt}{fr:List Nat}{v lv fv:IN}{ov:Bool}
theorem Hp.Own.fx{en:Nat}{xs:List IN}(o:h.Own k en v xs)(W:h.Wf)(x:Fx S h h')(hs:∀ b,k<=b->¬ S b):h'.Own k en v xs:=by
 rcases o with h1|⟨b,h1,h2,h3,h4⟩
 ·exact .inl h1
 ·exact .inr ⟨b,h1,x.row W h2 (hs b h3),h3,h4⟩
theorem Hp.Own.ALr{en:Nat}{xs:List IN}(o:h.Own k en v xs)(W:h.Wf){b:Nat}(hb:AGA v b):b<h.next:=by
 obtain⟨_,_,_,e⟩:=hb;rcases o with ⟨h1,_⟩|⟨b',h1,h2,_⟩
 ·rw[h1]at e;cases e
 ·rw[h1]at e
  injection e with e _ _
  injection e with e
  injection e with e _ _
  exact e ▸ h2.lt W
theorem Sl.app{w:IN}{xs:List IN}(s:Sl h A T M c0 arm ks fr lv fv bad ov)(o:h.Own k 3 w xs)(hr:∀ b el L,¬ AGA w b->h.Row b el L->h'.Row b el L)(hm:h'.bl.get A.bc=h.bl.get A.bc)(hf:∀ b,AGA fv b->¬ AGA w b):Sl h' A T M c0 arm ks fr lv fv bad ov:=by
 have nb:∀ b el L,(el=0\/el=6\/el=124)->h.Row b el L->¬ AGA w b:=fun b el L he r hb=>by
  obtain⟨_,_,_,e⟩:=hb;rcases o with ⟨h1,_⟩|⟨b',h1,h2,_⟩
  ·rw[h1]at e;cases e
  ·rw[h1]at e
   injection e with e _ _
   injection e with e
   injection e with e _ _
   exact EE r h2 (by omega) e.symm
 refine⟨hr _ _ _ (nb _ _ _ (.inl rfl) s.row) s.row,⟨hr _ _ _ (nb _ _ _ (.inl rfl) s.dk.disk) s.dk.disk,hr _ _ _ (nb _ _ _ (.inl rfl) s.dk.med) s.dk.med,s.dk.len,s.dk.byt,hm.trans s.dk.map,s.dk.big,s.dk.n1⟩,hr _ _ _ (nb _ _ _ (.inl rfl) s.tab) s.tab,s.tok,?_,fun y hy=>⟨(s.ko y hy).1.keep fun b el L hb he r=>hr b el L (nb b el L (by omega) r) r,(s.ko y hy).2⟩,?_,s.ne,s.le⟩
 ·rcases s.ls with h1|⟨b,c,el,L,q1,q2,q3,q4,q5,q6,q7⟩
  ·exact .inl h1
  ·exact .inr ⟨b,c,el,L,q1,q2,hr _ _ _ (nb b el _ (by omega) q3) q3,q4,q5,q6,q7⟩
 ·rcases s.fs with h1|⟨b,el,h1,h2,h3,h4⟩
  ·exact .inl h1
  ·exact .inr ⟨b,el,h1,hr _ _ _ (hf b ⟨_,_,_,h1⟩) h2,h3,h4⟩
theorem jz(W:h.Wf){z:Nat}{xs:List Nat}(hk:k<=h.next)(o:h.Own k 3 v (iv xs))(hl:xs.length<=1000):
  ∃ h2 v',DU 1 8 3 v (.slice (some ⟨h.next,0,none⟩) 1 1) (h.AFh 0 [AI AT (z:Int)])=.ok v' h2/\Fx (fun b=>k<=b) h h2/\h2.Own k 3 v' (iv (xs++[z]))/\∀ b el L,¬ AGA v b->h.Row b el L->h2.Row b el L/\¬ AGA v' b:=by
 have y2:=(Hp.Ext.refl W).AFh 0 [zd .i64 (z:Int)];have Rw:=Hp.Row.new W 0 [zd .i64 (z:Int)];have n2:(h.AFh 0 [zd .i64 (z:Int)]).next=h.next+1:=rfl;generalize h.AFh 0 [zd .i64 (z:Int)]=g at y2 Rw n2;have Vz:g.AF5 (.slice (some ⟨h.next,0,none⟩) 1 1) [AI AT (z:Int)]:=.inr ⟨h.next,0,1,0,_,rfl,Rw,IT _,rfl⟩;have x0:Hp.Ext {g with next:=k,low:=min g.low k} g:=⟨by show k<=g.next;omega,fun _ _=>rfl,by show min (min g.low k) k<=g.low;omega,y2.wf⟩;obtain⟨h2,v',a1,a2,a3,a4,a5⟩:=Es (eb:=8) (en:=3) (k:=k) x0 (IT _) (by omega) (o.ext W y2) Vz AFL rfl (by rw[EV];show(xs.length+1+1) * 9<=_;omega);have f2:Fx (fun b=>k<=b) g h2:=⟨by omega,fun i hi hs=>a2.get i (by show i<k;omega),a2.wf,fun L q1 q2 q3=>zO (AFZ.2 ⟨AFZ.2 ⟨q1,q3 k (IT _)⟩,q3 k (IT _)⟩) a2.low⟩;refine⟨h2,v',a1,(Fx.of y2).trans f2,by rw[aR];exact a3,fun b el L hb r=>?_⟩;exact a5 b el L hb (r.ext W y2)
theorem Za{a b c:Int}(W:h.Wf)(s:Sl h A T M c0 arm ks fr lv fv bad false)(hkl:fr.length+ks.length<=11)(hp3:∀ k∈ks,3*k.p+3<=A.n)(s0:J 0 e=pt A.bs)(s1:J 1 e=AI AT a)(s2:J 2 e=AI AT b)(s3:J 3 e=AI AT c)(s15:J 15 e=AFn)(s16:J 16 e=AI AT ((0:Nat):Int)):
  ∃ e' h' lv' fv' w,A9 cmL (call AC (m+7)) e h=.exit 1 e' h'/\Fx (fun b=>b=A.bs) h h'/\J 0 e'=pt A.bs/\J 15 e'=w/\h'.Own h.next 3 w (iv ((ks.filter (elB a b c)).map (·.p)))/\
   Sl h' A T M c0 arm (ks.filter fun k=> !elB a b c k) (frE fr (ks.filter (elB a b c))) lv' fv' bad false:=by
 have hD:=s.AHz W;have hbs:=hD A.bs (.inl rfl);refine Bh (I:=fun i e' h'=>∃ lv' fv' w,Fx (fun b=>b=A.bs\/h.next<=b) h h'/\J 0 e'=pt A.bs/\J 1 e'=AI AT a/\J 2 e'=AI AT b/\J 3 e'=AI AT c/\J 15 e'=w/\J 16 e'=AI AT ((((ks.take i).filter fun k=> !elB a b c k).length:Nat):Int)/\i<=ks.length/\h'.Own h.next 3 w (iv (((ks.take i).filter (elB a b c)).map (·.p)))/\
   Sl h' A T M c0 arm ((ks.take i).filter (fun k=> !elB a b c k)++ks.drop i) (frE fr ((ks.take i).filter (elB a b c))) lv' fv' bad false/\∀ b,AGA fv' b->¬ AGA w b)
  (Q:=fun x=>∃ e' h' lv' fv' w,x=.exit 1 e' h'/\Fx (fun b=>b=A.bs) h h'/\J 0 e'=pt A.bs/\J 15 e'=w/\h'.Own h.next 3 w (iv ((ks.filter (elB a b c)).map (·.p)))/\
   Sl h' A T M c0 arm (ks.filter fun k=> !elB a b c k) (frE fr (ks.filter (elB a b c))) lv' fv' bad false) ks.length (by omega) (fun i e' h' ⟨lv',fv',w,fx,t0,t1,t2,t3,t15,t16,hi,ow,sl,hf⟩=>?_) ⟨lv,fv,AFn,.refl W,s0,s1,s2,s3,s15,s16,Nat.zero_le _,.inl ⟨rfl,rfl⟩,s,fun b _ h=>GQ h⟩
 have W':=fx.wf;obtain⟨_,_,_,l3,_⟩:=BG sl.row;have ln:=sl.ls.len h';have hfl:=VF fr ((ks.take i).filter (elB a b c));have hf1:((ks.take i).filter (elB a b c)).length<=(ks.take i).length:=AAR _ _;have hf2:((ks.take i).filter (fun k=> !elB a b c k)).length<=(ks.take i).length:=AAR _ _;rw[zJ,Nat.min_eq_left hi]at hf1 hf2;by_cases hlt:i<ks.length
 ·left
  obtain⟨x,hx⟩:∃ x,ks[i]? =some x:=⟨_,sh hlt⟩;have hxm:=yz hx;have htk:ks.take (i+1)=ks.take i++[x]:=by rw[ADy,hx];rfl
  have hdr:ks.drop i=x::ks.drop (i+1):=by
   rw[AAV hlt];rw[sh hlt]at hx;injection hx with hx
   rw[hx]
  have hfN:=MX (fun k=> !elB a b c k) (ks.take i) x;have hfY:=MX (elB a b c) (ks.take i) x;rw[<- htk]at hfN hfY;generalize hP:(ks.take i).filter (fun k=> !elB a b c k)=P at *;generalize hO:(ks.take i).filter (elB a b c)=O at *;rw[hdr]at sl ln;have hPl:(P++x::ks.drop (i+1)).length=P.length+1+(ks.length - (i+1)):=by rw[No,yh,zl];omega
  have c1:iLt (P.length:Int) ((P++x::ks.drop (i+1)).length:Int)=true:=E9 (by omega);obtain⟨b',_,ix,ld,_⟩:=sl.ls.at (i:=P.length) (k:=x) GC;have al:=fun (F:AFi) (e:Env)=>BW (F:=F) (e:=e) W' (n:=6) (t:=CU)
  have Ra:=Hp.Row.alloc W' FF (show(AZ K0).length=6 from rfl);have y1:h'.Ext (h'.push (.cells CU 6 0)):=(Hp.Ext.refl W').push _;generalize h'.push (.cells CU 6 0)=h1 at al Ra y1;have hu:=(sl.ko x (zE _ yk)).1.vs.one.2.1;obtain⟨st,_,y2,R5,n2⟩:=K7 W' y1 (IT _) Ra rfl (k:=x) hu;generalize h1.wr h'.next 0 (AZ x)=h2 at st y2 R5 n2;obtain⟨m0,m1,m2,_⟩:=Bw R5;have sl2:=sl.ext W' y2;cases hel:elB a b c x with
  |false=>
   have a3:=Cc (i:=P.length) (h:=h2) (by omega);rw[if_pos (by rw[hel];rfl)]at hfN;rw[if_neg (by rw[hel];decide)]at hfY;have hrun:∃ e2,cmL (call AC (m+7)) e' h'=.norm e2 h2/\J 0 e2=pt A.bs/\J 1 e2=AI AT a/\J 2 e2=AI AT b/\J 3 e2=AI AT c/\J 15 e2=w/\J 16 e2=AI AT ((P.length+1:Nat):Int):=by
    unfold cmL;by_cases h1:x.a=a
    ·have d1:iEq x.a a=true:=Cb h1
     by_cases h2:x.b=b
     ·have d2:iEq x.b b=true:=Cb h2
      have d3:iLt x.c c=false:=Fb (fun h3=>by
       unfold elB at hel;rw[decide_eq_true h1,decide_eq_true h2,decide_eq_true h3]at hel;cases hel)
      simp only[sT,By,BY,reduceIte,gD,Ax,t0,Al,AH,AN,If,AM,AP,l3,Ah,ln,AK,AJ,t16,c1,BB,ix,Au,Am,ld,al,AX,st,m0,m1,m2,t1,t2,t3,d1,d2,d3,BM,a3];exact⟨_,rfl,by simp[AG,t0,t1,t2,t3,t15]⟩
     ·have d2:iEq x.b b=false:=B6 h2
      simp only[sT,By,BY,reduceIte,gD,Ax,t0,Al,AH,AN,If,AM,AP,l3,Ah,ln,AK,AJ,t16,c1,BB,ix,Au,Am,ld,al,AX,st,m0,m1,m2,t1,t2,t3,d1,d2,BM,a3];exact⟨_,rfl,by simp[AG,t0,t1,t2,t3,t15]⟩
    ·have d1:iEq x.a a=false:=B6 h1
     simp only[sT,By,BY,reduceIte,gD,Ax,t0,Al,AH,AN,If,AM,AP,l3,Ah,ln,AK,AJ,t16,c1,BB,ix,Au,Am,ld,al,AX,st,m0,m1,m2,t1,t2,t3,d1,BM,a3];exact⟨_,rfl,by simp[AG,t0,t1,t2,t3,t15]⟩
   obtain⟨e2,r1,r2,r3,r4,r5,r6,r7⟩:=hrun;refine⟨hlt,e2,h2,r1,lv',fv',w,fx.trans (.of y2),r2,r3,r4,r5,r6,?_,hlt,?_,?_,hf⟩
   ·rw[hfN,r7,No];rfl
   ·rw[hfY];exact ow.ext W' y2
   ·rw[hfN,hfY,zC];exact sl2
  |true=>
   rw[if_neg (by rw[hel];decide)]at hfN;rw[if_pos hel]at hfY;have hxx:x.a=a/\x.b=b/\x.c<c:=by
    unfold elB at hel;rw[yr,yr]at hel;exact⟨of_decide_eq_true hel.1.1,of_decide_eq_true hel.1.2,of_decide_eq_true hel.2⟩
   have d1:iEq x.a a=true:=Cb hxx.1;have d2:iEq x.b b=true:=Cb hxx.2.1;have d3:iLt x.c c=true:=Hd hxx.2.2;obtain⟨h3,lv3,fv3,k3,f3,s3',hfr⟩:=VJ (m:=m) y2.wf sl2 (by omega) (by omega) (hp3 x hxm);have ow3:h3.Own h.next 3 w (iv (O.map (·.p))):=(ow.ext W' y2).fx y2.wf f3 fun b hb h1=>by omega
   have n3:h.next<=h3.next:=by have:=fx.next;have:=y2.next;have:=f3.next;omega
   obtain⟨h5,w',k5,f5,ow5,kp5⟩:=jz (z:=x.p) f3.wf n3 ow3 (by rw[OF];omega);have bs:=fun (F:AFi) (e:Env) (he:J 134 e=AI AT (x.p:Int))=>Eq (F:=F) f3.wf he
   have hm5:h5.bl.get A.bc=h3.bl.get A.bc:=f5.get _ ((s3'.dk.lt f3.wf).2.2) (fun h1=>by
    have:=hD A.bc (.inr (.inr (.inr rfl)));omega)
   have hf3:∀ b,AGA fv3 b->¬ AGA w b:=fun b hb h1=>by
    have:=hfr b hb;have:=ow.ALr W' h1;have:=y2.next;omega
   have s5:=s3'.app ow3 (fun b el L hb r=>(kp5 b el L hb r).1) hm5 hf3;have hf5:∀ b,AGA fv3 b->¬ AGA w' b:=fun b hb=>by
    obtain⟨el,L,r⟩:=s3'.fs.blk hb;exact(kp5 b el L (hf3 b hb) r).2
   have a3:=fun (g:Hp)=>Cc (i:=P.length) (h:=g) (by omega)
   have k3':call AC (m+7) 104 [pt A.bs,AI AT (P.length:Int)] h2=.ok (AI AT (x.p:Int)) h3:=k3;have hrun:∃ e2,cmL (call AC (m+7)) e' h'=.norm e2 h5/\J 0 e2=pt A.bs/\J 1 e2=AI AT a/\J 2 e2=AI AT b/\J 3 e2=AI AT c/\J 15 e2=w'/\J 16 e2=AI AT (P.length:Int):=by
    unfold cmL;simp only[sT,By,BY,reduceIte,gD,Ax,t0,Al,AH,AN,If,AM,AP,l3,Ah,ln,AK,AJ,t16,c1,BB,ix,Au,Am,ld,al,AX,st,m0,m1,m2,t1,t2,t3,d1,d2,d3,cA0,k3',bs,BN,t15,k5];exact⟨_,rfl,by simp[AG,t0,t1,t2,t3,t16]⟩
   obtain⟨e2,r1,r2,r3,r4,r5,r6,r7⟩:=hrun;refine⟨hlt,e2,h5,r1,lv3,fv3,w',?_,r2,r3,r4,r5,r6,?_,hlt,?_,?_,hf5⟩
   ·exact((fx.trans (.of y2)).trans (f3.mono fun b hb=>.inl hb)).trans (f5.mono fun b hb=>.inr hb)
   ·rw[hfN];exact r7
   ·rw[hfY,zb];exact ow5
   ·rw[hfN,hfY,QY];exact s5
 ·right
  have hie:i=ks.length:=by omega
  subst hie;rw[AAF]at *;rw[ABy,yw]at sl ln;have c1:iLt (((ks.filter fun k=> !elB a b c k).length:Nat):Int) (((ks.filter fun k=> !elB a b c k).length:Nat):Int)=false:=DJ (IT _);have hrun:∃ e2,cmL (call AC (m+7)) e' h'=.exit 1 e2 h'/\J 0 e2=pt A.bs/\J 15 e2=w:=by
   unfold cmL;simp only[sT,By,BY,reduceIte,Ax,t0,Al,AH,AN,If,AM,AP,l3,Ah,ln,AK,AJ,t16,c1];exact⟨_,rfl,by simp[AG,t0,t15]⟩
  obtain⟨e2,r1,r2,r3⟩:=hrun;rw[r1];exact⟨rfl,e2,h',lv',fv',w,rfl,fx.drop,r2,r3,ow,sl⟩
end
end
noncomputable section
open Go
set_option maxRecDepth 100000
theorem NK{α:Type}{l:List α}{j:Nat}{x:α}(h:l[j]? =some x):l.set j x=l:=by
 obtain⟨hj,rfl⟩:=zG.1 h;exact List.set_getElem_self hj
theorem PJ{α:Type}{l:List α}{j:Nat}{x:α}(h:l[j]? =some x):l=l.take j++x::l.drop (j+1)/\(l.take j).length=j:=by
 obtain⟨hj,rfl⟩:=zG.1 h;refine⟨?_,by rw[zJ];omega⟩;rw[<- AAV hj,AAY]
theorem IE{a b c:Int}{k:Kt}(h:Bo a b c k=true):k.a=a/\k.b=b/\k.c=c:=by
 unfold Bo at h;rw[yr,yr]at h;exact⟨of_decide_eq_true h.1.1,of_decide_eq_true h.1.2,of_decide_eq_true h.2⟩
theorem xd{i:Nat}{g:Hp}(hi:i<=1000000):Fv Int.sub .i64 (AI AT (i:Int)) (AI AT 1) g=.ok (AI AT ((i:Int) - 1)) g:=by
 cases i with
 |zero=>rw[Cg];rfl
 |succ n=>rw[Tm (by omega),show((n+1:Nat):Int) - 1=(n:Int)by omega]
theorem qv:dpS=BL (Ae 0 (A9 dpL)) dpE:=rfl
theorem qk:d67=iA:=rfl
section
variable {F:AFi}{e:Env}{h h':Hp}{A:At}{T M:List Nat}{c0 bad m k p n:Nat}{arm:Int}{ks:List Kt}{fr:List Nat}{lv fv:IN}
theorem Zc(W:h.Wf)(s:Sl h A T M c0 arm ks fr lv fv bad false){a b c z:Int}(hz:Ie ks a b c=some z):
  ∃ h',call AC (m+8) 59 [pt A.bs,AI AT a,AI AT b,AI AT c] h=.ok (AI AT z) h'/\h.Ext h':=by
 have hkl:=s.le.1;have c00:iNe 0 0=false:=CH rfl;have k0:=NU (m:=m+6) s.row;obtain⟨h1,k1,x1⟩:=F5 (m:=m+4) W s.row s.ls.ks (by omega) a b c;have s1:=s.ext W x1;obtain⟨_,_,_,l3,_⟩:=BG s1.row;obtain⟨h2,k2,x2⟩:=Gi (m:=m+3) x1.wf s1.row s1.ls.ks (by omega) a b c;have x12:=x1.trans x2;unfold Ie at hz;rcases Du (Bo a b c) ks 0 with ⟨e1,e2⟩|⟨j,kx,e1,e2,e3⟩
 ·rw[e1]at hz
  rw[e2]at k1;have c1:iGe (-1) 0=false:=E8 (by omega);have c2:iLt (-1) 0=true:=Hd (by omega);simp only at hz;cases hst:CA a b c ks with
  |true=>
   rw[hst]at hz k2;rw[if_pos rfl]at hz;cases hz;refine⟨h2,?_,x12⟩;rw[MK rfl,MS];unfold Oo;simp only[iN,IS,sT,By,BY,reduceIte,gD,cA0,k0,AK,AJ,c00,k1,c1,k2,lV0]
  |false=>
   rw[hst]at hz k2;rw[if_neg (by decide)]at hz;cases hz;refine⟨h2,?_,x12⟩;rw[MK rfl,MS];unfold Oo;simp only[iN,IS,sT,By,BY,reduceIte,gD,cA0,k0,AK,AJ,c00,k1,c1,k2,c2,lV0]
 ·rw[e1]at hz
  rw[e3,If]at k1;have hjl:=(zG.1 e2).1;have hkm:=yz e2;have c1:iGe (j:Int) 0=true:=F7 (by omega);have c3:iLt (j:Int) 0=false:=Fb (by omega);obtain⟨bb,_,ix,ld,lde⟩:=s1.ls.ks.at e2;have lst:=lde 3 (.int .u8 (kx.s:Int)) rfl;simp only at hz;by_cases hs2:kx.s=2
  ·rw[if_pos hs2]at hz
   cases hz;have c2:iEq (kx.s:Int) 2=true:=Cb (by omega);refine⟨h1,?_,x1⟩;rw[MK rfl,MS];unfold Oo;simp only[iN,IS,sT,By,BY,reduceIte,gD,cA0,k0,AK,AJ,c00,k1,c1,Ax,Al,AH,AN,If,AAE,AM,AP,l3,BB,ix,lst,c2,lV0]
  ·rw[if_neg hs2]at hz
   have c2:iEq (kx.s:Int) 2=false:=B6 (by omega);cases hst:CA a b c ks with
   |true=>
    rw[hst]at hz k2;rw[if_pos rfl]at hz;cases hz;refine⟨h2,?_,x12⟩;rw[MK rfl,MS];unfold Oo;simp only[iN,IS,sT,By,BY,reduceIte,gD,cA0,k0,AK,AJ,c00,k1,c1,Ax,Al,AH,AN,If,AAE,AM,AP,l3,BB,ix,lst,c2,k2,lV0]
   |false=>
    rw[hst]at hz;rw[if_neg (by decide)]at hz;cases hz
theorem Zb(W:h.Wf)(s:Sl h A T M c0 arm ks fr lv fv bad false){a b c:Int}(hkl:fr.length+ks.length<=11)(hp3:∀ k∈ks,3*k.p+3<=A.n)(hnd:(ks.map (·.p)).Nodup)(ha:CB arm (k+20)):
  (∃ z h',Ie ks a b c=some z/\call AC (m+8) 59 [pt A.bs,AI AT a,AI AT b,AI AT c] h=.ok (AI AT z) h'/\h.Ext h')\/
  (Ie ks a b c=none/\∃ j kx h' c1 AGB lv' fv',ks[j]? =some kx/\(kx.a=a/\kx.b=b/\kx.c=c)/\kx.s=1/\ks.find? (Bo a b c)=some kx/\CA a b c ks=false/\call AC (m+8) 59 [pt A.bs,AI AT a,AI AT b,AI AT c] h=.ok (AI AT 0) h'/\Fx A.D h h'/\
   Sl h' A T (G9 (HI M kx.p (AF8 T a b c 2 kx.l)) (((ks.set j {kx with s:=2}).filter (elB a b c)).map (·.p))) c1 AGB ((ks.set j {kx with s:=2}).filter fun k=> !elB a b c k) (frE fr ((ks.set j {kx with s:=2}).filter (elB a b c))) lv' fv' bad false/\CB AGB k):=by
 cases hz:Ie ks a b c with
 |some z=>
  obtain⟨h',k1,x1⟩:=Zc (m:=m) W s hz;exact .inl ⟨z,h',rfl,k1,x1⟩
 |none=>
  right;unfold Ie at hz;rcases Du (Bo a b c) ks 0 with ⟨e1,e2⟩|⟨j,kx,e1,e2,e3⟩
  ·rw[e1]at hz
   simp only at hz;split at hz<;>cases hz
  rw[e1]at hz;simp only at hz;split at hz
  ·cases hz
  rename_i hs2;split at hz
  ·cases hz
  rename_i hst;have AH1:CA a b c ks=false:=by
   cases hq:CA a b c ks
   ·rfl
   ·exact absurd hq hst
  have hkm:=yz e2;have hs1:kx.s=1:=(s.ko kx hkm).2.2.2.1.resolve_right hs2;have AGw:=IE (ACB e1);rw[If]at e3;obtain⟨h12,c9,AHt,w10,e2',r1,u0,u1,u2,u3,u15,u16,AJB,s12,a9⟩:=Ze (m:=m) (k:=k+15) W s e2 hs1 e3 AGw AH1 (hp3 kx hkm) s.le.1 (ha.le (by omega));have sm:(ks.set j {kx with s:=2}).map (·.p)=ks.map (·.p):=by
   rw[ACt];exact NK (by rw[zy,e2];rfl)
  have AKi:∀ x∈ks.set j {kx with s:=2},3*x.p+3<=A.n:=fun x hx=>by
   rcases List.mem_or_eq_of_mem_set hx with h1|h1
   ·exact hp3 x h1
   ·rw[h1];exact hp3 kx hkm
  have hsl:(ks.set j {kx with s:=2}).length=ks.length:=List.length_set;generalize hX:ks.set j {kx with s:=2}=ksX at *;obtain⟨e3',h13,lv3,fv3,w,r2,f13,v0,v15,ow,s13⟩:=Za (m:=m) (a:=a) (b:=b) (c:=c) AJB.wf s12 (by omega) AKi u0 u1 u2 u3 u15 u16;have hfl:(ksX.filter (elB a b c)).length<=ksX.length:=AAR _ _;have hos:((ksX.filter (elB a b c)).map (·.p)).Nodup:=ACV (ADj.map _) (sm ▸ hnd);have hol:((ksX.filter (elB a b c)).map (·.p)).length<=11:=by rw[OF];omega
  obtain⟨h14,c14,AHF,k14,f14,s14,a14⟩:=LB (m:=m+1) (k:=k) f13.wf s13 (ps:=(ksX.filter (elB a b c)).map fun x:Kt=>x.p) (pv:=w) ow.vals (fun p hp=>by
   obtain⟨x,hx,rfl⟩:=zq.1 hp;exact AKi x ((zQ.1 hx).1)) hos (by omega) (a9.le (by omega))
  have AJp:call AC (m+7) 81 [pt A.bs,w] h13=.ok (AI AT 0) h14:=k14;refine⟨rfl,j,kx,h14,c14,AHF,lv3,fv3,e2,AGw,hs1,e1,AH1,?_,(AJB.trans (f13.mono fun b hb=>.inl hb)).trans (f14.mono fun b hb=>.inr hb),by rw[hX];exact s14,a14⟩;rw[MK rfl,MS,r1,qP];simp only[BJ,Az,r2,BD,BA];unfold cmE;simp only[sT,By,BY,reduceIte,cA0,v0,v15,AJp,lV0]
def abE(ks:List Kt)(a b c:Int):Option Int:=if CA a b c ks=true then some 61 else match ks.find? (Bo a b c)with
 |some _=>none
 |none=>some 0
theorem mg(W:h.Wf)(s:Sl h A T M c0 arm ks fr lv fv bad false){a b c z:Int}(hz:abE ks a b c=some z):
  ∃ h',call AC (m+9) 60 [pt A.bs,AI AT a,AI AT b,AI AT c] h=.ok (AI AT z) h'/\h.Ext h':=by
 have ALs:=s.le.1;have c00:iNe 0 0=false:=CH rfl;have k0:=NU (m:=m+7) s.row;obtain⟨h1,k1,x1⟩:=F5 (m:=m+5) W s.row s.ls.ks (by omega) a b c;have s1:=s.ext W x1;obtain⟨h2,k2,x2⟩:=Gi (m:=m+4) x1.wf s1.row s1.ls.ks (by omega) a b c;have x12:=x1.trans x2;unfold abE at hz;cases hst:CA a b c ks with
 |true=>
  rw[hst]at k2 hz;rw[if_pos rfl]at hz;cases hz;refine⟨h2,?_,x12⟩;rw[Sn rfl];unfold d60;simp only[iN,IS,sT,By,BY,reduceIte,gD,cA0,k0,AK,AJ,c00,k1,k2,lV0]
 |false=>
  rw[hst]at k2 hz;rw[if_neg (by decide)]at hz;rcases Du (Bo a b c) ks 0 with ⟨e1,e2⟩|⟨j,kx,e1,e2,e3⟩
  ·rw[e2]at k1
   rw[e1]at hz;cases hz;have c2:iLt (-1) 0=true:=Hd (by omega);refine⟨h2,?_,x12⟩;rw[Sn rfl];unfold d60;simp only[iN,IS,sT,By,BY,reduceIte,gD,cA0,k0,AK,AJ,c00,k1,k2,c2,lV0]
  ·rw[e1]at hz
   cases hz
theorem Wa(W:h.Wf)(s:Sl h A T M c0 arm ks fr lv fv bad false){a b c:Int}(hkl:fr.length+ks.length<=11)(hp3:∀ k∈ks,3*k.p+3<=A.n)(ha:CB arm (k+2)):
  (∃ z h',abE ks a b c=some z/\call AC (m+9) 60 [pt A.bs,AI AT a,AI AT b,AI AT c] h=.ok (AI AT z) h'/\h.Ext h')\/
  (abE ks a b c=none/\∃ j kx h' c1 AGB lv' fv',ks[j]? =some kx/\(kx.a=a/\kx.b=b/\kx.c=c)/\ks.find? (Bo a b c)=some kx/\CA a b c ks=false/\call AC (m+9) 60 [pt A.bs,AI AT a,AI AT b,AI AT c] h=.ok (AI AT 0) h'/\Fx A.D h h'/\
   Sl h' A T (G9 M [kx.p]) c1 AGB (ks.take j++ks.drop (j+1)) (Eh (fr++[kx.p])) lv' fv' bad false/\CB AGB k):=by
 cases hz:abE ks a b c with
 |some z=>
  obtain⟨h',k1,x1⟩:=mg (m:=m) W s hz;exact .inl ⟨z,h',rfl,k1,x1⟩
 |none=>
  have ALs:=s.le.1;have c00:iNe 0 0=false:=CH rfl;have k0:=NU (m:=m+7) s.row;obtain⟨h1,k1,x1⟩:=F5 (m:=m+5) W s.row s.ls.ks (by omega) a b c;have s1:=s.ext W x1;obtain⟨h2,k2,x2⟩:=Gi (m:=m+4) x1.wf s1.row s1.ls.ks (by omega) a b c;have x12:=x1.trans x2;unfold abE at hz;cases hst:CA a b c ks with
  |true=>
   rw[hst]at hz;rw[if_pos rfl]at hz;cases hz
  |false=>
   rw[hst]at k2 hz;rw[if_neg (by decide)]at hz;rcases Du (Bo a b c) ks 0 with ⟨e1,e2⟩|⟨j,kx,e1,e2,e3⟩
   ·rw[e1]at hz
    cases hz
   ·rw[e3,If]at k1
    have c2:iLt (j:Int) 0=false:=Fb (by omega);have hkm:=yz e2;have AGw:=IE (ACB e1);obtain⟨q1,q2⟩:=PJ e2;have s2:=s.ext W x12;have s2':Sl h2 A T M c0 arm (ks.take j++kx::ks.drop (j+1)) fr lv fv bad false:=by rw[<- q1];exact s2
    obtain⟨h3,c1,AGB,lv',fv',k3,f3,s3,a3⟩:=bt (m:=m) (k:=k) x12.wf s2' (by rw[<- q1];omega) (by omega) (hp3 kx hkm) ha;rw[q2]at k3;have k3':call AC (m+8) 105 [pt A.bs,AI AT (j:Int)] h2=.ok (AI AT 0) h3:=k3;refine .inr ⟨rfl,j,kx,h3,c1,AGB,lv',fv',e2,AGw,e1,rfl,?_,(Fx.of x12).trans f3,s3,a3⟩;rw[Sn rfl];unfold d60;simp only[iN,IS,sT,By,BY,reduceIte,gD,cA0,k0,AK,AJ,c00,k1,k2,c2,k3',lV0]
def drB(a b c:Int)(k:Kt):Bool:=decide (k.a=a) && decide (k.b=b) && decide (k.c<=c)
def Ig(M:List Nat)(out:List Kt):List Nat:=out.foldl (fun M x=>G9 M [x.p]) M
theorem Sz(M:List Nat)(out:List Kt)(x:Kt):Ig M (out++[x])=G9 (Ig M out) [x.p]:=by unfold Ig;rw[ACn];rfl
def drO(a b c:Int)(ks:List Kt):List Kt:=(ks.filter (drB a b c)).reverse
theorem Z2(a b c:Int)(x:Kt)(ks:List Kt):drO a b c (x::ks)=if drB a b c x=true then drO a b c ks++[x]else drO a b c ks:=by
 unfold drO;cases h:drB a b c x
 ·rw[if_neg (by decide),AAc (by rw[h];decide)]
 ·rw[if_pos rfl,AAb h,List.reverse_cons]
theorem iH(a b c:Int)(x:Kt)(ks:List Kt):(drO a b c (ks++[x])).length=(drO a b c ks).length+if drB a b c x=true then 1 else 0:=by
 unfold drO;rw[ABW,ABW,MX];split
 ·rw[No];rfl
 ·rfl
theorem Xj{a b c:Int}(W:h.Wf)(s:Sl h A T M c0 arm ks fr lv fv bad false)(hkl:fr.length+ks.length<=11)(hp3:∀ k∈ks,3*k.p+3<=A.n)(ha:CB arm (k+2*(drO a b c ks).length))(s0:J 0 e=pt A.bs)(s1:J 1 e=AI AT a)(s2:J 2 e=AI AT b)(s3:J 3 e=AI AT c)(s10:J 10 e=AI AT ((ks.length:Int) - 1)):
  ∃ e' h' c1 AGB lv' fv',A9 dpL (call AC (m+8)) e h=.exit 0 e' h'/\Fx A.D h h'/\Sl h' A T (Ig M (drO a b c ks)) c1 AGB (ks.filter fun k=> !drB a b c k) (frE fr (drO a b c ks)) lv' fv' bad false/\CB AGB k:=by
 refine Bh (I:=fun t e' h'=>∃ i c1 AGB lv' fv',i+t=ks.length/\Fx A.D h h'/\J 0 e'=pt A.bs/\J 1 e'=AI AT a/\J 2 e'=AI AT b/\J 3 e'=AI AT c/\J 10 e'=AI AT ((i:Int) - 1)/\
   Sl h' A T (Ig M (drO a b c (ks.drop i))) c1 AGB (ks.take i++(ks.drop i).filter fun k=> !drB a b c k) (frE fr (drO a b c (ks.drop i))) lv' fv' bad false/\CB AGB (k+2*(drO a b c (ks.take i)).length))
  (Q:=fun x=>∃ e' h' c1 AGB lv' fv',x=.exit 0 e' h'/\Fx A.D h h'/\Sl h' A T (Ig M (drO a b c ks)) c1 AGB (ks.filter fun k=> !drB a b c k) (frE fr (drO a b c ks)) lv' fv' bad false/\CB AGB k) ks.length (by omega) (fun t e' h' ⟨i,c1,AIq,lv',fv',hit,fx,t0,t1,t2,t3,t10,sl,am⟩=>?_) ⟨ks.length,c0,arm,lv,fv,rfl,.refl W,s0,s1,s2,s3,s10,by rw[AAF,ABy,ACC,yw];exact s,by rw[AAF];exact ha⟩
 have W':=fx.wf;cases i with
 |zero=>
  right;rw[List.take_zero,zU,zr]at sl;have c2:iGe (((0:Nat):Int) - 1) 0=false:=E8 (by omega);obtain⟨e2,r1⟩:∃ e2,dpL (call AC (m+8)) e' h'=.exit 0 e2 h':=by
   unfold dpL;simp only[sT,By,BY,reduceIte,AK,AJ,t10,c2];exact⟨_,rfl⟩
  rw[r1];exact⟨rfl,e2,h',c1,AIq,lv',fv',rfl,fx,sl,am.le (Nat.le_add_right _ _)⟩
 |succ i=>
  left;have hlt:i<ks.length:=by omega
  obtain⟨x,hx⟩:∃ x,ks[i]? =some x:=⟨_,sh hlt⟩;have hxm:=yz hx;have htk:ks.take (i+1)=ks.take i++[x]:=by rw[ADy,hx];rfl
  have hdr:ks.drop i=x::ks.drop (i+1):=by
   rw[AAV hlt];rw[sh hlt]at hx;injection hx with hx
   rw[hx]
  have hdl:=iH a b c x (ks.take i);rw[<- htk]at hdl;have hPl:(ks.take i).length=i:=by rw[zJ];omega
  have hdo:=Z2 a b c x (ks.drop (i+1));rw[<- hdr]at hdo;have hol:(drO a b c (ks.drop (i+1))).length<=ks.length - (i+1):=by
   unfold drO;rw[ABW,<- zl];exact AAR _ _
  have hRl:((ks.drop (i+1)).filter fun k=> !drB a b c k).length<=ks.length - (i+1):=by
   rw[<- zl];exact AAR _ _
  have hfi:(ks.drop i).filter (fun k=> !drB a b c k)=if drB a b c x=true then(ks.drop (i+1)).filter (fun k=> !drB a b c k)else x::(ks.drop (i+1)).filter (fun k=> !drB a b c k):=by
   rw[hdr];cases h:drB a b c x
   ·rw[if_neg (by decide),AAb (by rw[h];rfl)]
   ·rw[if_pos rfl,AAc (by rw[h];decide)]
  generalize hP:ks.take i=P at *;generalize hR:(ks.drop (i+1)).filter (fun k=> !drB a b c k)=R at *;generalize hO:drO a b c (ks.drop (i+1))=O at *;rw[htk,zC]at sl;have sl:Sl h' A T (Ig M O) c1 AIq (P++x::R) (frE fr O) lv' fv' bad false:=sl;have hle:(P++x::R).length=i+1+R.length:=by rw[No,yh,hPl];omega
  obtain⟨_,_,_,l3,_⟩:=BG sl.row;have t10:J 10 e'=AI AT (i:Int):=by rw[t10,show((i+1:Nat):Int) - 1=(i:Int)by omega]
  have c2:iGe (i:Int) 0=true:=F7 (by omega);obtain⟨b',_,ix,ld,_⟩:=sl.ls.at (i:=P.length) (k:=x) GC;rw[hPl]at ix ld;have al:=fun (F:AFi) (e:Env)=>BW (F:=F) (e:=e) W' (n:=6) (t:=CU)
  have Ra:=Hp.Row.alloc W' FF (show(AZ K0).length=6 from rfl);have y1:h'.Ext (h'.push (.cells CU 6 0)):=(Hp.Ext.refl W').push _;generalize h'.push (.cells CU 6 0)=h1 at al Ra y1;have hu:=(sl.ko x (zE _ yk)).1.vs.one.2.1;obtain⟨st,_,y2,R5,n2⟩:=K7 W' y1 (IT _) Ra rfl (k:=x) hu;generalize h1.wr h'.next 0 (AZ x)=h2 at st y2 R5 n2;obtain⟨m0,m1,m2,_⟩:=Bw R5;have sl2:=sl.ext W' y2;have sb:=fun (g:Hp)=>xd (i:=i) (g:=g) (by omega)
  cases hel:drB a b c x with
  |false=>
   rw[if_neg (by rw[hel];decide)]at hdo hfi;have hrun:∃ e2,dpL (call AC (m+8)) e' h'=.norm e2 h2/\J 0 e2=pt A.bs/\J 1 e2=AI AT a/\J 2 e2=AI AT b/\J 3 e2=AI AT c/\J 10 e2=AI AT ((i:Int) - 1):=by
    unfold dpL;by_cases h1:x.a=a
    ·have d1:iEq x.a a=true:=Cb h1
     by_cases h2:x.b=b
     ·have d2:iEq x.b b=true:=Cb h2
      have d3:iLe x.c c=false:=Jg (fun h3=>by
       unfold drB at hel;rw[decide_eq_true h1,decide_eq_true h2,decide_eq_true h3]at hel;cases hel)
      simp only[sT,By,BY,reduceIte,gD,Ax,t0,Al,AH,AN,If,AM,AP,l3,AK,AJ,t10,c2,BB,ix,Au,Am,ld,al,AX,st,m0,m1,m2,t1,t2,t3,d1,d2,d3,B3,sb];exact⟨_,rfl,by simp[AG,t0,t1,t2,t3]⟩
     ·have d2:iEq x.b b=false:=B6 h2
      simp only[sT,By,BY,reduceIte,gD,Ax,t0,Al,AH,AN,If,AM,AP,l3,AK,AJ,t10,c2,BB,ix,Au,Am,ld,al,AX,st,m0,m1,m2,t1,t2,t3,d1,d2,B3,sb];exact⟨_,rfl,by simp[AG,t0,t1,t2,t3]⟩
    ·have d1:iEq x.a a=false:=B6 h1
     simp only[sT,By,BY,reduceIte,gD,Ax,t0,Al,AH,AN,If,AM,AP,l3,AK,AJ,t10,c2,BB,ix,Au,Am,ld,al,AX,st,m0,m1,m2,t1,t2,t3,d1,B3,sb];exact⟨_,rfl,by simp[AG,t0,t1,t2,t3]⟩
   obtain⟨e2,r1,r2,r3,r4,r5,r6⟩:=hrun;refine⟨by omega,e2,h2,r1,i,c1,AIq,lv',fv',by omega,fx.trans (.of y2),r2,r3,r4,r5,r6,?_,am.le (by rw[hdl,hP];omega)⟩;rw[hdo,hfi,hP];exact sl2
  |true=>
   rw[if_pos hel]at hdo hfi;have hxx:x.a=a/\x.b=b/\x.c<=c:=by
    unfold drB at hel;rw[yr,yr]at hel;exact⟨of_decide_eq_true hel.1.1,of_decide_eq_true hel.1.2,of_decide_eq_true hel.2⟩
   have d1:iEq x.a a=true:=Cb hxx.1;have d2:iEq x.b b=true:=Cb hxx.2.1;have d3:iLe x.c c=true:=Hc hxx.2.2;have c00:iNe 0 0=false:=CH rfl;have hfl:=VF fr O;obtain⟨h3,c3,ALt,lv3,fv3,k3,f3,s3',a3⟩:=bt (m:=m) (k:=k+2*(drO a b c P).length) y2.wf sl2 (by omega) (by omega) (hp3 x hxm) (am.le (by rw[hdl,if_pos hel];omega));rw[hPl]at k3;have k3':call AC (m+8) 105 [pt A.bs,AI AT (i:Int)] h2=.ok (AI AT 0) h3:=k3;have hrun:∃ e2,dpL (call AC (m+8)) e' h'=.norm e2 h3/\J 0 e2=pt A.bs/\J 1 e2=AI AT a/\J 2 e2=AI AT b/\J 3 e2=AI AT c/\J 10 e2=AI AT ((i:Int) - 1):=by
    unfold dpL;simp only[sT,By,BY,reduceIte,gD,Ax,t0,Al,AH,AN,If,AM,AP,l3,AK,AJ,t10,c2,BB,ix,Au,Am,ld,al,AX,st,m0,m1,m2,t1,t2,t3,d1,d2,d3,cA0,k3',c00,B3,sb];exact⟨_,rfl,by simp[AG,t0,t1,t2,t3]⟩
   obtain⟨e2,r1,r2,r3,r4,r5,r6⟩:=hrun;refine⟨by omega,e2,h3,r1,i,c3,ALt,lv3,fv3,by omega,(fx.trans (.of y2)).trans f3,r2,r3,r4,r5,r6,?_,by rw[hP];exact a3⟩;rw[hdo,hfi,hP,Sz,QY];exact s3'
theorem Z4(W:h.Wf)(s:Sl h A T M c0 arm ks fr lv fv bad false)(a b c:Int)(hkl:fr.length+ks.length<=11)(hp3:∀ k∈ks,3*k.p+3<=A.n)(ha:CB arm (k+2*(drO a b c ks).length)):
  ∃ h' c1 AGB lv' fv',call AC (m+9) 67 [pt A.bs,AI AT a,AI AT b,AI AT c] h=.ok (AI AT 0) h'/\Fx A.D h h'/\Sl h' A T (Ig M (drO a b c ks)) c1 AGB (ks.filter fun k=> !drB a b c k) (frE fr (drO a b c ks)) lv' fv' bad false/\CB AGB k:=by
 have c00:iNe 0 0=false:=CH rfl;have k0:=NU (m:=m+7) s.row;obtain⟨_,_,_,l3,_⟩:=BG s.row;have ln:=s.ls.len h;have sb:=xd (i:=ks.length) (g:=h) (by omega);have pre:∃ e1,iA (call AC (m+8)) (AS e0 0 [pt A.bs,AI AT a,AI AT b,AI AT c]) h=dpS (call AC (m+8)) e1 h/\J 0 e1=pt A.bs/\J 1 e1=AI AT a/\J 2 e1=AI AT b/\J 3 e1=AI AT c/\J 10 e1=AI AT ((ks.length:Int) - 1):=by
  unfold iA;simp only[iN,IS,sT,By,BY,reduceIte,gD,cA0,k0,AK,AJ,c00,Ax,Al,AH,AN,If,AM,AP,l3,Ah,ln,B3,sb];exact⟨_,rfl,by simp[AG]⟩
 obtain⟨e1,p1,t0,t1,t2,t3,t10⟩:=pre;obtain⟨e2,h2,c1,AGB,lv',fv',r2,f2,s2,a2⟩:=Xj (m:=m) (k:=k) W s hkl hp3 ha t0 t1 t2 t3 t10;refine⟨h2,c1,AGB,lv',fv',?_,f2,s2,a2⟩;rw[pk rfl,qk,p1,qv];simp only[BJ,Az,r2,BD,BA];unfold dpE;simp only[sT,By,BY,reduceIte,lV0]
end
end
noncomputable section
open Go
set_option maxRecDepth 100000
theorem VB:∀ (ks:List Kt) (i:Nat) (k:Kt),ks[i]? =some k->((flS ks).drop (5*i)).take 5=Ka k
 |[],i,k,h=>by cases h
 |x::ks,0,k,h=>by
  have h:some x=some k:=h;cases h;show((Ka x++flS ks).drop 0).take 5=_;rw[zr];exact List.take_left' rfl
 |x::ks,i+1,k,h=>by
  rw[List.getElem?_cons_succ]at h;show((Ka x++flS ks).drop (5*(i+1))).take 5=_;have:5*(i+1)=(Ka x).length+5*i:=by show _=5+_;omega
  rw[this,ABK];exact VB ks i k h
section
variable {F:AFi}{e:Env}{h h':Hp}{A:At}{T M:List Nat}{c0 bad m k n bl:Nat}{arm:Int}{ks:List Kt}{fr:List Nat}{v lv fv:IN}{ov:Bool}
theorem NV{h:Hp}{u:IN}{xs:List IN}(V:h.AF5 u xs):known u=true/\cellsOf u=[u]/\oneCell u=true:=by
 rcases V with ⟨rfl,rfl⟩|⟨b,off,c,el,L,rfl,_⟩<;>exact⟨rfl,rfl,rfl⟩
theorem Ru{h:Hp}{b el el':Nat}{L L':List IN}(r:h.Row b el L)(r':h.Row b el' L'):L=L':=by
 obtain⟨c,hc,hl⟩:=r;obtain⟨c',hc',hl'⟩:=r';rw[hc]at hc';injection hc' with e1 e2 e3
 subst e1;refine AEA e2 fun i h1 h2=>?_
 have a1:=(hl i h1).2;have a2:=(hl' i h2).2;rw[a1,yf,yf,sh h1,sh h2]at a2;exact a2
theorem Hp.AL.len(o:h.AL k v ks)(g:Hp):AGQ v g=.ok (AI AT (ks.length:Int)) g:=by
 rcases o with ⟨rfl,rfl⟩|⟨b,L,rfl,_⟩<;>rfl
theorem Hp.AL.keep(o:h.AL k v ks)(hk:∀ b el L,k<=b->h.Row b el L->h'.Row b el L):h'.AL k v ks:=by
 rcases o with h1|⟨b,L,h1,h2,h3,h4,h5⟩
 ·exact .inl h1
 ·exact .inr ⟨b,L,h1,hk _ _ _ h4 h2,h3,h4,fun x hx=>(h5 x hx).keep fun b el L hb _ r=>hk b el L hb r⟩
theorem Hp.AL.ext(o:h.AL k v ks)(W:h.Wf)(x:h.Ext h'):h'.AL k v ks:=o.keep fun b el L _ r=>r.ext W x
theorem Hp.AL.at(o:h.AL k v ks){i:Nat}{x:Kt}(hi:ks[i]? =some x):∃ b u,AGa 5 v (AI AT (i:Int)) h=.ok (.pointer (some ⟨b,5*i,none⟩)) h/\loadN 5 ⟨b,5*i,none⟩ h=.ok (Bu x.a x.b x.c x.s u) h/\h.AF5 u (x.l.map bv):=by
 have hil:=(zG.1 hi).1;rcases o with ⟨rfl,rfl⟩|⟨b,L,rfl,h2,h3,h4,h5⟩
 ·cases hi
 ·have hLl:L.length=ks.length:=by rw[<- OF (f:=Kt.core),h3,OF]
  obtain⟨y,hy⟩:∃ y,L[i]? =some y:=⟨_,sh (by omega)⟩;have hc:=VB L i y hy;have hyx:y.core=x.core:=by
   have h6:=congrArg (fun l=>l[i]?) h3;simp only[zy,hy,hi,Option.map_some]at h6;injection h6
  have e1:y.a=x.a:=congrArg Kc.a hyx;have e2:y.b=x.b:=congrArg Kc.b hyx;have e3:y.c=x.c:=congrArg Kc.c hyx;have e4:y.s=x.s:=congrArg Kc.s hyx;have e5:y.l=x.l:=congrArg Kc.l hyx;refine⟨b,y.u,?_,?_,?_⟩
  ·have:=DB (h:=h) (n:=ks.length) (c:=ks.length) (es:=5) (b:=b) (off:=0) (i:=i) (k:=.i64) hil
   rwa [If,AAP]at this
  ·rw[h2.loadN (by rw[Oy,hLl];omega),hc,<- e1,<- e2,<- e3,<- e4];rfl
  ·rw[<- e5];exact(h5 y (yz hy)).vs.vals
theorem To(W:h.Wf){g:O}{a b c:Int}{s:Nat}{u:IN}(hg:g e=Bu a b c s u):Ce g F e h=.ok (pt h.next) (h.AFh 0 (A8 a b c s u)):=by rw[EF,hg,EC W];rfl
theorem kC{k:TK}{t:Nat}{a:Addr}{g:O}(hk:k=.ptr t)(hg:g e=.pointer (some a)):oEq k true g (kV (.pointer none)) F e h=.ok (.bool true) h:=by
 subst hk;show(match eqV (.ptr t) (g e) (.pointer none)with|some r=>okB (true != r) h|none=>.no)=_;rw[hg];exact Fg
theorem V4(R:h.Row A.bs 0 (slL A.bd A.tb lv fv bad ov)):call AC (m+1) 53 [pt A.bs] h=.ok (.bool ov) h:=by
 obtain⟨_,_,_,_,_,_,l6⟩:=BG R;have p1:∀ (F:AFi) (e:Env) (g:Hp),J 0 e=pt A.bs->oEq Hz.k true (J 0) (kV (.pointer none)) F e g=.ok (.bool true) g:=fun F e g he=>kC WS he
 rw[pU rfl];unfold d53;simp only[iN,IS,sT,By,BY,reduceIte,gD,p1,Ax,Al,AH,AN,If,AM,AP,l6,lV0]
theorem Ti(W:h.Wf){r bc clk:Nat}(R:h.Row r 0 [.map (some bc)])(hr:256<=r)(hm:h.bl.get bc=.map [] clk):call AC (m+1) 69 [.func (.func 108) ⟨[]⟩ ⟨[pt r]⟩] h=.ok AFn h:=by
 have hb:AC.get 69=some bS:=by kernel_rfl
 have hs:L7 3 h (.map (some bc))=.ok AFn h:=by
  show(match iJ (h.bl.get bc)with|.ok es clk=>(match yl (BF es) 1000000 with|true=>(match Qp clk es 0 with|some ks=>J7 3 h (FJ ks)|none=>.no)|false=>.no)|.no=>.no)=_;rw[hm];rfl
 obtain⟨c,hc,hl⟩:=R.rowOf;have hA:J6 3 ⟨r,0,none⟩ h=.ok AFn h:=by
  unfold J6;have e1:(yu 0 0 && yl 256 r)=true:=by rw[Av.2 hr];rfl
  simp only[e1,hc];have e2:c.get 0=.map (some bc):=(hl 0 (by show 0<1;omega)).2;show(match yu 0 0 && Nat.blt 0 1 with|true=>L7 3 h (c.get 0)|false=>.no)=_;rw[e2];exact hs
 rw[Ab hb];exact hA
theorem XZ(W:h.Wf)(s:Sl h A T M c0 arm ks fr lv fv bad ov):∃ h',call AC (m+2) 46 [pt A.bd] h=.ok AFn h'/\h.Ext h':=by
 have d:=s.dk;have k1:=Jp (m:=m) d;obtain⟨_,l1,_,_⟩:=DA d.disk;have bx:=fun (F:AFi) (e:Env) (he:J 0 e=.map (some A.bc))=>show Ce (J 0) F e h=.ok (pt h.next) (h.AFh 0 [.map (some A.bc)])by rw[EF,he,EC W];rfl
 have x1:=(Hp.Ext.refl W).AFh 0 [AD5 (some A.bc)];have R1:=Hp.Row.new W 0 [AD5 (some A.bc)];have big:=W.big;have hm:=d.map;generalize h.AFh 0 [AD5 (some A.bc)]=h1 at bx x1 R1;have k67:call AC (m+1) 70 [.map (some A.bc)] h=.ok (.func (.func 108) ⟨[]⟩ ⟨[pt h.next]⟩) h1:=by
  rw[po rfl];unfold d70;simp only[iN,IS,sT,By,BY,reduceIte,bx,DX,AV,A3,lV0]
 have k66:=Ti (m:=m) x1.wf R1 big (clk:=c0) (by rw[x1.get _ (d.lt W).2.2];exact hm);refine⟨h1,?_,x1⟩;rw[pR rfl];unfold d46;simp only[iN,IS,sT,By,BY,reduceIte,cA0,k1,Ax,Al,AH,AN,If,AM,AP,l1,k67,k66,lV0]
end
end
noncomputable section
open Go
set_option maxRecDepth 100000
def opL(kd a b c n:Int)(u w:IN):List IN:=[AI AT kd,AI AT a,AI AT b,AI AT c,AI AT n,u,w]
def opV(kd a b c n:Int)(u w:IN):IN:=.agg ⟨opL kd a b c n u w⟩
def I5(kd:Int):Prop:=kd=1\/kd=2\/kd=3\/kd=4
def lM(ks:List Kt)(n:Nat)(kd a b c:Int)(l:List Nat)(z:Int):Prop:=
 (I5 kd/\Fk ks n a b c l=some z)\/((kd=5\/kd=6)/\Ie ks a b c=some z)\/(kd=7/\abE ks a b c=some z)\/(kd=8/\drO a b c ks=[]/\z=0)\/(¬ I5 kd/\kd≠5/\kd≠6/\kd≠7/\kd≠8/\z=0)
def Pn(T M:List Nat)(ks:List Kt)(fr:List Nat)(kd a b c:Int)(l M':List Nat)(ks':List Kt)(fr':List Nat):Prop:=
 (I5 kd/\Fk ks fr.length a b c l=none/\∃ p k',fr=p::fr'/\ks'=EN (ks++[k'])/\k'.core=⟨a,b,c,1,l,p⟩/\M'=D5 T M p l (AF8 T a b c 1 l))\/
 ((kd=5\/kd=6)/\∃ j kx,ks[j]? =some kx/\(kx.a=a/\kx.b=b/\kx.c=c)/\CA a b c ks=false/\ks'=((ks.set j {kx with s:=2}).filter fun k=> !elB a b c k)/\fr'=frE fr ((ks.set j {kx with s:=2}).filter (elB a b c))/\M'=G9 (HI M kx.p (AF8 T a b c 2 kx.l)) (((ks.set j {kx with s:=2}).filter (elB a b c)).map (·.p)))\/
 (kd=7/\∃ j kx,ks[j]? =some kx/\(kx.a=a/\kx.b=b/\kx.c=c)/\CA a b c ks=false/\ks'=ks.take j++ks.drop (j+1)/\fr'=Eh (fr++[kx.p])/\M'=G9 M [kx.p])\/
 (kd=8/\ks'=(ks.filter fun k=> !drB a b c k)/\fr'=frE fr (drO a b c ks)/\M'=Ig M (drO a b c ks))
section

end
end
noncomputable section
open Go
set_option maxRecDepth 100000
theorem Xu:∀ (A:List Kt) (x:Kt),(I4 A x).Perm (x::A):=fun A x=>by
 unfold I4;refine(ABp _).trans ?_;have:∀ l:List Kt,(I2 x l).Perm (x::l):=fun l=>by
  induction l with
  |nil=>exact .refl _
  |cons y r ih=>
   rw[OA];split
   ·exact(ih.cons y).trans (.swap x y r)
   ·exact .refl _
 exact(this _).trans ((ABp A).cons x)
theorem SL:∀ (B A:List Kt),(srt A B).Perm (A++B)
 |[],A=>by
  rw[yw];exact .refl _
 |x::B,A=>by
  show(srt (I4 A x) B).Perm _;exact(SL B _).trans (((Xu A x).append_right B).trans ACZ.symm)
theorem G6(l:List Kt):(EN l).Perm l:=by
 unfold EN;have:=SL (l.drop 1) (l.take 1)
 rwa [AAY]at this
def Kt.key(k:Kt):Int×Int×Int:=(k.a,k.b,k.c)
def Kt.plc(k:Kt):Nat:=k.p
structure AGy (np:Nat)(ks:List Kt)(fr:List Nat):Prop where
 key:(ks.map Kt.key).Nodup
 plc:(ks.map Kt.plc++fr).Perm (List.range np)
abbrev uB(ks:List Kt)(fr:List Nat):Prop:=AGy 8 ks fr
section
variable {T M M':List Nat}{ks ks':List Kt}{fr fr':List Nat}{kd a b c:Int}{l:List Nat}{np:Nat}
theorem AGy.len(i:AGy np ks fr):ks.length+fr.length=np:=by
 have:=i.plc.length_eq;rw[No,OF,List.length_range]at this;exact this
theorem AGy.lt(i:AGy np ks fr):∀ k∈ks,3*k.p+3<=3*np:=fun k hk=>by
 have h1:k.p∈ks.map Kt.plc++fr:=zR _ (zq.2 ⟨k,hk,rfl⟩);have h2:=List.mem_range.1 (i.plc.mem_iff.1 h1);omega
theorem AGy.nd(i:AGy np ks fr):(ks.map Kt.plc).Nodup:=(ABI.1 (i.plc.nodup_iff.2 List.nodup_range)).1
theorem FU{α β:Type}{f:α->β}:∀ {l:List α},(l.map f).Nodup->∀ {x y:α},x∈l->y∈l->f x=f y->x=y
 |[],_,x,y,hx,_,_=>by cases hx
 |w::l,h,x,y,hx,hy,hf=>by
  rw[ABV,ABH]at h;rcases yv.1 hx with h1|h1
  ·rcases yv.1 hy with h2|h2
   ·rw[h1,h2]
   ·exact absurd (zq.2 ⟨y,h2,by rw[<- hf,h1]⟩) h.1
  ·rcases yv.1 hy with h2|h2
   ·exact absurd (zq.2 ⟨x,h1,by rw[hf,h2]⟩) h.1
   ·exact FU h.2 h1 h2 hf
theorem QQ{x:Kt}(h:Bo a b c x=true):x.key=(a,b,c):=by
 obtain⟨rfl,rfl,rfl⟩:=IE h;rfl
theorem Nw{x:Kt}(h:x.key=(a,b,c)):Bo a b c x=true:=by
 unfold Kt.key at h;injection h with h1 h2
 injection h2 with h2 h3
 unfold Bo;rw[decide_eq_true h1,decide_eq_true h2,decide_eq_true h3];rfl
theorem Ma(hn:(ks.map Kt.key).Nodup){x:Kt}(hx:x∈ks)(hk:x.key=(a,b,c)):ks.find? (Bo a b c)=some x:=by
 cases h:ks.find? (Bo a b c)with
 |none=>exact absurd (Nw hk) (ABg.1 h x hx)
 |some y=>rw[FU hn (List.mem_of_find?_eq_some h) hx ((QQ (ACB h)).trans hk.symm)]
theorem Kj(P:Kt->Bool):∀ l:List Kt,(l.filter P++l.filter fun k=> !P k).Perm l
 |[]=>.refl _
 |x::l=>by
  cases h:P x
  ·rw[AAc (by rw[h];decide),AAb (by rw[h];rfl)]
   exact ACZ.trans ((Kj P l).cons x)
  ·rw[AAb h,AAc (by rw[h];decide)]
   exact(Kj P l).cons x
theorem AGy.cut(i:AGy np ks fr)(P:Kt->Bool){out:List Kt}(ho:out.Perm (ks.filter P)):AGy np (ks.filter fun k=> !P k) (frE fr out):=by
 refine⟨ACV (ADj.map _) i.key,?_⟩;have h1:(frE fr out).Perm (fr++(ks.filter P).map Kt.plc):=(Jc out fr).trans ((ho.map Kt.plc).append_left fr);have h2:((ks.filter fun k=> !P k).map Kt.plc++(fr++(ks.filter P).map Kt.plc)).Perm (ks.map Kt.plc++fr):=by
  rw[<- zC];refine(ADU).trans ?_;rw[<- zC,<- zb];exact((Kj P ks).map Kt.plc).append_right fr
 exact(h1.append_left _).trans (h2.trans i.plc)
theorem AGy.set(i:AGy np ks fr){j:Nat}{x y:Kt}(hj:ks[j]? =some x)(h1:y.key=x.key)(h2:y.p=x.p):AGy np (ks.set j y) fr:=by
 have e1:(ks.set j y).map Kt.key=ks.map Kt.key:=by rw[ACt,h1];exact NK (by rw[zy,hj];rfl)
 have e2:(ks.set j y).map Kt.plc=ks.map Kt.plc:=by
  rw[ACt,show y.plc=x.plc from h2];exact NK (by rw[zy,hj];rfl)
 exact⟨e1 ▸ i.key,e2 ▸ i.plc⟩
theorem aD{P Q:List Kt}(p:Kt->Bool):(P++Q).find? p=(P.find? p).or (Q.find? p):=List.find?_append
theorem KA(i:AGy np ks fr)(t:Pn T M ks fr kd a b c l M' ks' fr'):AGy np ks' fr'/\lM ks' fr'.length kd a b c l 0:=by
 rcases t with ⟨hk,hz,p,k',rfl,rfl,hc,_⟩|⟨hk,j,kx,hj,AGw,_,rfl,rfl,_⟩|⟨rfl,j,kx,hj,AGw,hst,rfl,rfl,_⟩|⟨rfl,rfl,rfl,_⟩
 ·unfold Fk at hz
  split at hz
  ·cases hz
  rename_i hn;split at hz
  ·split at hz<;>cases hz
  rename_i hfd;have ek:k'.key=(a,b,c):=by
   show(k'.core.a,k'.core.b,k'.core.c)=_;rw[hc]
  have ep:k'.p=p:=congrArg Kc.p hc;have el:k'.l=l:=congrArg Kc.l hc;have pm:=G6 (ks++[k']);have kn:((ks++[k']).map Kt.key).Nodup:=by
   rw[zb,ABI];refine⟨i.key,ABH.2 ⟨List.not_mem_nil,List.nodup_nil⟩,fun x hx y hy hxy=>?_⟩;rw[zB.1 hy]at hxy;obtain⟨w,hw,rfl⟩:=zq.1 hx;exact absurd (Nw (hxy.trans ek)) (ABg.1 hfd w hw)
  have kn':((EN (ks++[k'])).map Kt.key).Nodup:=(pm.map Kt.key).nodup_iff.2 kn;refine⟨⟨kn',?_⟩,.inl ⟨hk,?_⟩⟩
  ·refine((pm.map Kt.plc).append_right fr').trans (ADZ ?_ i.plc)
   rw[zb,zC];show(ks.map Kt.plc++([k'.p]++fr')).Perm _;rw[ep];exact .refl _
  ·unfold Fk
   rw[if_neg hn,Ma kn' (pm.mem_iff.2 (zE _ (zB.2 rfl))) ek];simp only;rw[if_pos el]
 ·have kk:({kx with s:=2}:Kt).key=(a,b,c):=by obtain⟨rfl,rfl,rfl⟩:=AGw;rfl
  have i2:=i.set (y:={kx with s:=2}) hj rfl rfl;have hX:({kx with s:=2}:Kt)∈ks.set j {kx with s:=2}:=List.mem_set (zG.1 hj).1 _;generalize ks.set j {kx with s:=2}=ksX at i2 hX;have i3:=i2.cut (elB a b c) (out:=ksX.filter (elB a b c)) (.refl _);refine⟨i3,.inr (.inl ⟨hk,?_⟩)⟩;have hel:elB a b c {kx with s:=2}=false:=by
   obtain⟨rfl,rfl,rfl⟩:=AGw;unfold elB;rw[decide_eq_false (Int.lt_irrefl _),Bool.and_false]
  unfold Ie;rw[Ma i3.key (zQ.2 ⟨hX,by rw[hel];rfl⟩) kk];exact if_pos rfl
 ·obtain⟨AHG,hPl⟩:=PJ hj
  have kk:kx.key=(a,b,c):=by obtain⟨rfl,rfl,rfl⟩:=AGw;rfl
  generalize ks.take j=P at *;generalize ks.drop (j+1)=Q at *;subst AHG;have pm:(P++kx::Q).Perm (kx::(P++Q)):=ACZ;have kn:((kx::(P++Q)).map Kt.key).Nodup:=(pm.map Kt.key).nodup_iff.1 i.key;rw[ABV,ABH]at kn;refine⟨⟨kn.2,?_⟩,.inr (.inr (.inl ⟨rfl,?_⟩))⟩
  ·refine((G7 (fr++[kx.p])).append_left _).trans (ADZ ?_ i.plc)
   rw[<- zC];refine ADU.trans ?_;show(kx.plc::((P++Q).map Kt.plc++fr)).Perm _;exact((pm.map Kt.plc).symm).append_right fr
  ·have hne:(P++Q).find? (Bo a b c)=none:=ABg.2 fun x hx hf=>kn.1 (zq.2 ⟨x,hx,(QQ hf).trans kk.symm⟩)
   have AH1:CA a b c (P++Q)=false:=by
    unfold CA at hst ⊢;rw[aD]at hst ⊢;cases hP:P.find? (HO a b)with
    |some y=>
     rw[hP]at hst;exact hst
    |none=>
     rw[hP]at hst;rw[Option.none_or]at hst ⊢;cases hx:HO a b kx
     ·rw[List.find?_cons_of_neg (by rw[hx];decide)]at hst
      exact hst
     ·rw[List.find?_cons_of_pos hx]at hst
      simp only at hst;have:=of_decide_eq_false hst;exact absurd (Int.le_of_eq AGw.2.2.symm) this
   unfold abE;rw[AH1,hne,if_neg (by decide)]
 ·have i3:=i.cut (drB a b c) (out:=drO a b c ks) (ABp _)
  refine⟨i3,.inr (.inr (.inr (.inl ⟨rfl,?_,rfl⟩)))⟩;unfold drO;rw[List.filter_filter,List.filter_eq_nil_iff.2 (fun x _=>by cases drB a b c x<;>decide)];rfl
end
end
noncomputable section
open Go
set_option maxRecDepth 100000
theorem JU{l l':List Nat}(hl:l.length=l'.length)(h:∀ i,i<l.length->l.getD i 0=l'.getD i 0):l=l':=by
 refine AEA hl fun i h1 h2=>?_
 have:=h i h1;rw[yf,yf,sh h1,sh h2]at this;exact this
theorem Ko{l:List Nat}{n i:Nat}(h:i<n):(l.take n).getD i 0=l.getD i 0:=by
 rw[yf,yf,List.getElem?_take,if_pos h]
theorem Kn{l:List Nat}{n i:Nat}:(l.drop n).getD i 0=l.getD (n+i) 0:=by
 rw[yf,yf,List.getElem?_drop]
theorem V8:∀ (k:Nat) (l:List Nat) (p:Nat) (ns:List Nat) (q:Nat),rdN k l p=some (ns,q)->ns.length=k
 |0,l,p,ns,q,h=>by cases h;rfl
 |k+1,l,p,ns,q,h=>by
  rw[RY]at h;cases hu:Fy 0 0 (l.drop p)with
  |none=>rw[hu]at h;cases h
  |some vj=>
   obtain⟨v,j⟩:=vj;rw[hu]at h;simp only at h;by_cases hv:v<=1099511627776
   ·rw[if_pos hv]at h
    cases hr:rdN k l (p+j)with
    |none=>rw[hr]at h;cases h
    |some y=>
     obtain⟨vs,q'⟩:=y;rw[hr]at h;cases h;rw[yh,V8 k l (p+j) vs _ hr]
   ·rw[if_neg hv]at h;cases h
theorem cA{T:List Nat}{a b c:Int}{s:Nat}{l:List Nat}(h:AFx a b c s l.length=true):LY T (AF8 T a b c s l) (CN a.toNat b.toNat c.toNat s l.length (CE T l)):=by
 obtain⟨h1,h2,h3,h4,h5,h6,h7,h8⟩:=EL h;have hst:=IX T l;refine(RP Mg).2 ?_;have hle:∀ v∈CN a.toNat b.toNat c.toNat s l.length (CE T l),v<=1099511627776:=fun v hv=>by
  unfold CN at hv;simp only[yv,AD8,or_false]at hv;omega
 have e0:at6 (CN a.toNat b.toNat c.toNat s l.length (CE T l)) 0=s:=rfl;have e1:at6 (CN a.toNat b.toNat c.toNat s l.length (CE T l)) 1=a.toNat:=rfl;have e2:at6 (CN a.toNat b.toNat c.toNat s l.length (CE T l)) 2=b.toNat:=rfl;have e3:at6 (CN a.toNat b.toNat c.toNat s l.length (CE T l)) 3=c.toNat:=rfl;have e4:at6 (CN a.toNat b.toNat c.toNat s l.length (CE T l)) 4=l.length:=rfl;have e5:at6 (CN a.toNat b.toNat c.toNat s l.length (CE T l)) 5=CE T l:=rfl;have hr:=Lx (CN a.toNat b.toNat c.toNat s l.length (CE T l)) [] (yp (60 - (B4 (CN a.toNat b.toNat c.toNat s l.length (CE T l))).length) 0++HB (CE T (Lb (CN a.toNat b.toNat c.toNat s l.length (CE T l))))) hle;refine⟨(B4 (CN a.toNat b.toNat c.toNat s l.length (CE T l))).length,?_,⟨by rw[e0];omega,by rw[e4];omega,by rw[e5];omega,?_⟩,rfl⟩
 ·have hx:AF8 T a b c s l=B4 (CN a.toNat b.toNat c.toNat s l.length (CE T l))++(yp (60 - (B4 (CN a.toNat b.toNat c.toNat s l.length (CE T l))).length) 0++HB (CE T (Lb (CN a.toNat b.toNat c.toNat s l.length (CE T l))))):=by
   unfold AF8 Eg;rw[<- zC];rfl
  rw[hx];simp only[zU,List.length_nil,If]at hr;exact hr
 ·rw[e0,e1,e2,e3]
  exact decide_eq_true ⟨by omega,by omega,by omega,by omega,by omega,by omega,h7,by omega⟩
theorem RQ{T:List Nat}{ns:List Nat}{l:List Nat}(hl:l.length=64)(hz:∀ x∈l,x=0):¬ LY T l ns:=fun h=>by
 have hlt:∀ x∈l,x<256:=fun x hx=>by rw[hz x hx];decide
 obtain⟨q,h1,h2,h3⟩:=(RP hlt).1 h;have hlen:=V8 _ _ _ _ _ h1;obtain⟨_,_,_,h4⟩:=h2;have hs:=(EL h4).2.2.2.2.2.2.1;cases ns with
 |nil=>cases hlen
 |cons n ns=>
  have hn:n=1\/n=2:=hs;have hu:CD n=[n]:=by
   unfold CD;rw[dif_pos (by omega)]
  have:n∈l:=by
   rw[<- h3];unfold Eg Lb PT;refine zR _ (zR _ ?_);rw[FE,hu];exact zR _ yk
  have:=hz n this;omega
end
noncomputable section
open Go
set_option maxRecDepth 100000
theorem Ir{l:List Nat}{j r:Nat}(hr:r<64):(C4 l j).getD r 0=l.getD (64*j+r) 0:=by
 unfold C4;have hl:((l.drop (64*j)).take 64).length=min 64 (l.length - 64*j):=by rw[zJ,zl]
 rcases Nat.lt_or_ge r ((l.drop (64*j)).take 64).length with h|h
 ·rw[yf,List.getElem?_append_left h,<- yf,Ko hr,Kn]
 ·rw[yf,List.getElem?_append_right h,ADB]
  have:l.getD (64*j+r) 0=0:=by
   rw[yf,List.getElem?_eq_none (by omega)];rfl
  rw[this];split<;>rfl
theorem Zx{T M l H:List Nat}{n p:Nat}(hM:M.length=64*n)(hp:3*p+3<=n)(hl:1<=l.length/\l.length<=100)(hH:H.length=64):
  (D5 T M p l H).length=64*n/\∀ x,(D5 T M p l H).getD x 0=if x/64=3*p then H.getD (x % 64) 0 else if x/64=3*p+1 then l.getD (x % 64) 0 else if x/64=3*p+2/\64<l.length then l.getD (64+x % 64) 0 else M.getD x 0:=by
 have hk:(l.length+63)/64=1\/(l.length+63)/64=2:=by omega
 rcases hk with hk|hk
 ·have e:D5 T M p l H=IZ (IZ M (p*3+1+0) (C4 l 0)) (p*3) H:=by
   unfold D5 KG GK;rw[hk];rfl
  have l1:=DY hM (show p*3+1+0<n by omega) (Cs l 0);rw[e];refine⟨DY l1 (by omega) hH,fun x=>?_⟩;rw[Ea l1 (by omega) hH,Ea hM (show p*3+1+0<n by omega) (Cs l 0),Ir (by omega),AEL,If,AAP p 3,AAE];by_cases h1:x/64=3*p
  ·rw[if_pos h1,if_pos h1]
  ·rw[if_neg h1,if_neg h1]
   by_cases h2:x/64=3*p+1
   ·rw[if_pos h2,if_pos h2]
   ·rw[if_neg h2,if_neg h2,if_neg (by omega)]
 ·have e:D5 T M p l H=IZ (IZ (IZ M (p*3+1+0) (C4 l 0)) (p*3+1+1) (C4 l 1)) (p*3) H:=by
   unfold D5 KG GK;rw[hk];rfl
  have l1:=DY hM (show p*3+1+0<n by omega) (Cs l 0);have l2:=DY l1 (show p*3+1+1<n by omega) (Cs l 1);rw[e];refine⟨DY l2 (by omega) hH,fun x=>?_⟩;rw[Ea l2 (by omega) hH,Ea l1 (show p*3+1+1<n by omega) (Cs l 1),Ea hM (show p*3+1+0<n by omega) (Cs l 0),Ir (by omega),Ir (by omega),AEL,If,AAP p 3,AAE,Nat.mul_one];by_cases h1:x/64=3*p
  ·rw[if_pos h1,if_pos h1]
  ·rw[if_neg h1,if_neg h1]
   by_cases h2:x/64=3*p+1
   ·rw[if_neg (by omega),if_pos h2,if_pos h2]
   ·rw[if_neg h2]
    by_cases h3:x/64=3*p+2
    ·rw[if_pos (show x/64=3*p+1+1 by omega),if_neg h2,if_pos (show x/64=3*p+2/\64<l.length from⟨h3,by omega⟩)]
    ·rw[if_neg (show ¬ x/64=3*p+1+1 by omega),if_neg h2,if_neg (show ¬ (x/64=3*p+2/\64<l.length)by omega)]
theorem Zd{M H:List Nat}{n p:Nat}(hM:M.length=64*n)(hp:3*p+3<=n)(hH:H.length=64):(HI M p H).length=64*n/\∀ x,(HI M p H).getD x 0=if x/64=3*p then H.getD (x % 64) 0 else M.getD x 0:=by
 have e:HI M p H=IZ M (p*3) H:=rfl;rw[e];refine⟨DY hM (by omega) hH,fun x=>?_⟩;rw[Ea hM (by omega) hH,AAP p 3]
theorem Ri{n x:Nat}:(yp n 0).getD x 0=0:=by
 rw[yf,ADB];split<;>rfl
def jA:List Nat:=yp (64*24) 0
section
variable {T b:List Nat}(hl:1<=b.length/\b.length<=100)
include hl
end
theorem J1{M:List Nat}{i r:Nat}(hr:r<64):(sec M i).getD r 0=M.getD (64*i+r) 0:=by
 unfold sec;rw[Ko hr,Kn]
theorem MT{M:List Nat}{p k r:Nat}(hr:r<k):(dat M p k).getD r 0=M.getD (64*(3*p+1)+r) 0:=by
 unfold dat;rw[Ko hr,Kn]
theorem Qd{T M:List Nat}{p:Nat}{a b c:Int}{s:Nat}{l:List Nat}(hr:AFx a b c s l.length=true)(hl:l.length<=100)(h1:sec M (3*p)=AF8 T a b c s l)(h2:dat M p l.length=l):
  HF T M p (CN a.toNat b.toNat c.toNat s l.length (CE T l))/\lkN T M p=some (CN a.toNat b.toNat c.toNat s l.length (CE T l))/\Xy M p (CN a.toNat b.toNat c.toNat s l.length (CE T l))=⟨a,b,c,s,l,p⟩/\EW T M p=false:=by
 obtain⟨g1,g2,g3,g4,g5,g6,_⟩:=EL hr;have hH:HF T M p (CN a.toNat b.toNat c.toNat s l.length (CE T l)):=by
  refine⟨by rw[h1];exact cA hr,hl,?_⟩;show CE T (dat M p l.length)=CE T l;rw[h2]
 refine⟨hH,Qz hH,?_,?_⟩
 ·show(⟨(a.toNat:Int),(b.toNat:Int),(c.toNat:Int),s,dat M p l.length,p⟩:Kc)=_
  rw[h2,ABd g1,ABd g3,ABd (by omega)]
 ·cases hb:EW T M p
  ·rfl
  ·exact absurd ⟨_,hH⟩ (Hm.1 hb).1
theorem Z7{T M:List Nat}{n p:Nat}(hM:M.length=64*n)(hp:3*p<n)(h:∀ r,r<64->M.getD (64*(3*p)+r) 0=0):lkN T M p=none/\EW T M p=false:=by
 have hl:=J2 hM hp;have hz:∀ x∈sec M (3*p),x=0:=fun x hx=>by
  obtain⟨i,hi⟩:=List.mem_iff_getElem?.1 hx;have hil:=(zG.1 hi).1;have:=J1 (M:=M) (i:=3*p) (r:=i) (by omega);rw[h i (by omega),yf,hi]at this;exact this
 have hno:¬ ∃ ns,HF T M p ns:=fun⟨ns,h1,_⟩=>RQ hl hz h1
 refine⟨Qy hno,?_⟩;cases hb:EW T M p
 ·rfl
 ·rcases (Hm.1 hb).2 with ⟨x,hx,h1⟩|⟨ns,h1,_⟩
  ·exact absurd (hz x hx) h1
  ·exact absurd h1 (RQ hl hz)
end
noncomputable section
open Go
set_option maxRecDepth 100000
structure Trn (b:List Nat)(hd:Bool)(k:Nat)(ts:List Nat):Prop where
 lt:∀ t∈ts,t<256
 win:k+ts.length<=if hd=true then 60 else b.length
 four:ts.length<=4
def chg(ts:List Nat):Bool:=ts.any fun t=>decide (t≠0)
section
variable {b ts:List Nat}{hd:Bool}{k:Nat}
variable (hl:1<=b.length/\b.length<=100)(hb:∀ x∈b,x<256)(t:Trn b hd k ts)
include hl t
end
end
noncomputable section
open Go
set_option maxRecDepth 100000
theorem lG:Bt .mt 0 kY.zero=some Ph:=by kernel_rfl
theorem SW:∀ {L:List IN},(∀ v∈L,isW v=true)->∃ T:List Nat,L=T.map wv/\∀ x∈T,x<4294967296
 |[],_=>⟨[],rfl,fun x hx=>by cases hx⟩
 |v::L,h=>by
  obtain⟨n,rfl,hn⟩:=PD (h v yk);obtain⟨T,rfl,hT⟩:=SW fun x hx=>h x (yj _ hx)
  refine⟨n::T,rfl,fun x hx=>?_⟩;rcases yv.1 hx with rfl|hx
  ·exact hn
  ·exact hT x hx
theorem tS{T:List Nat}(h1:T.length=256)(h2:∀ x∈T,x<4294967296):AGc T:=⟨h1,fun i=>by
 rw[yf];cases h:T[i]? with
 |none=>decide
 |some x=>exact h2 x (yz h)⟩
theorem Nj:∀ T:List Nat,Bc (T.map wv)=true
 |[]=>rfl
 |x::T=>Nj T
theorem tB{h g:Hp}(W0:h.Wf)(x:h.Ext g){r:Nat}(hr:h.next<=r){L:List IN}(R:g.Row r 0 L)(hL:L.length=256){T:List Nat}(hT:T.length=256):
  AFr 256 (pt r) (.agg ⟨T.map wv⟩) g=.ok AFl (g.wr r 0 (T.map wv))/\h.Ext (g.wr r 0 (T.map wv))/\(g.wr r 0 (T.map wv)).Row r 0 (T.map wv):=by
 have AFs:256<=r:=by have:=W0.big;omega
 have hl:(T.map wv).length=256:=by rw[OF];exact hT
 have ho:0+(T.map wv).length<=L.length:=by omega
 have st:=R.AFr (n:=256) (off:=0) x.wf AFs (v:=.agg ⟨T.map wv⟩) hl ho (Nj T);have wr:=R.AFu x.wf ho;rw[Fi (show L.length=(T.map wv).length by omega)]at wr;exact⟨st,R.AGE x hr ho,wr⟩
theorem Fx.ext{S:Nat->Prop}{h h':Hp}(x:Fx S h h')(hs:∀ b,S b->h.next<=b):h.Ext h':=⟨x.next,fun i hi=>x.get i hi fun s=>by have:=hs i s;omega,x.low _ (AB8 _ _) (AAp _ _) fun b hb=>zO (AAp _ _) (hs b hb),x.wf⟩
theorem Fx.ALu{S:Nat->Prop}{h0 h h':Hp}(x0:h0.Ext h)(x:Fx S h h')(hs:∀ b,S b->h0.next<=b):h0.Ext h':=Fx.ext (S:=S) ((Fx.of x0).trans x) hs
theorem vk(k:Nat):CB (-1) k:=⟨by omega,by omega,.inl (by omega)⟩
end
noncomputable section
open Go
set_option maxRecDepth 100000
def ALv(v:IN):Prop:=oneCell v=true/\∀ k z,v≠.int k z
structure AMK (h:Hp)(v:IN)(n cap:Nat):Prop where
 len:∀ g:Hp,AGQ v g=.ok (AI AT (n:Int)) g
 get:∀ i,i<n->i<cap->∃ (r:Nat) (kd a b c no:Int) (u w:IN) (l:List Nat),(∀ g:Hp,h.Ext g->AGa 7 v (AI AT (i:Int)) g=.ok (.pointer (some ⟨r,i*7,none⟩)) g/\loadN 7 ⟨r,i*7,none⟩ g=.ok (opV kd a b c no u w) g/\AFk ⟨r,i*7+5,none⟩ g=.ok u g)/\h.VE u (l.map bv)/\(∀ x∈l,x<256)/\oneCell u=true/\ALv w
section
variable {h:Hp}{A:At}{T M:List Nat}{c0 bad k:Nat}{arm:Int}{ks:List Kt}{fr:List Nat}{lv fv u:IN}{ov:Bool}{l:List Nat}
theorem Sl.all(s:Sl h A T M c0 arm ks fr lv fv bad ov):∀ k∈ks,h.AF5 k.u (k.l.map bv)/\k.l.length<=1000/\oneCell k.u=true:=fun x hx=>⟨(s.ko x hx).1.vs.vals,by have:=(s.ko x hx).2.2.1;omega,(s.ko x hx).1.vs.one.2.1⟩
theorem kU:∃ T:List Nat,NO=T.map wv/\AGc T:=by
 obtain⟨_,_,h1,h2⟩:=Tp;obtain⟨T,h3,h4⟩:=SW h2;have hl:T.length=256:=by rw[h3,OF]at h1;exact h1
 exact⟨T,h3,tS hl h4⟩
end
end
noncomputable section
open Go
set_option maxRecDepth 100000
theorem mN{n:Nat}{args:List IN}{h:Hp}(hl:yl (BF args) 240=true):call AC (yg n) 5 args h=A4 [.t (J 8)] (d5 (call AC n) (AS e0 0 args) h):=by
 have hb:AC.get 5=some b5:=by kernel_rfl
 rw[Ab hb];have hd:b5=⟨[.t (J 8)],d5⟩:=by kernel_rfl
 rw[hd,AW hl]
theorem vu{n:Nat}{args:List IN}{h:Hp}(hl:yl (BF args) 240=true):call AC (yg n) 9 args h=A4 [.t (J 2),.t (J 3),.t (J 4)] (d9 (call AC n) (AS e0 0 args) h):=by
 have hb:AC.get 9=some b9:=by kernel_rfl
 rw[Ab hb];have hd:b9=⟨[.t (J 2),.t (J 3),.t (J 4)],d9⟩:=by kernel_rfl
 rw[hd,AW hl]
theorem pA{n:Nat}{args:List IN}{h:Hp}(hl:yl (BF args) 240=true):call AC (yg n) 10 args h=A4 [.t (J 2)] (d10 (call AC n) (AS e0 0 args) h):=by
 have hb:AC.get 10=some b10:=by kernel_rfl
 rw[Ab hb];have hd:b10=⟨[.t (J 2)],d10⟩:=by kernel_rfl
 rw[hd,AW hl]
theorem ZP{n:Nat}{args:List IN}{h:Hp}(hl:yl (BF args) 240=true):call AC (yg n) 11 args h=A4 [.cN (J 4) 7,.t (J 5)] (d11 (call AC n) (AS e0 0 args) h):=by
 have hb:AC.get 11=some b11:=by kernel_rfl
 rw[Ab hb];have hd:b11=⟨[.cN (J 4) 7,.t (J 5)],d11⟩:=by kernel_rfl
 rw[hd,AW hl]
theorem pB{n:Nat}{args:List IN}{h:Hp}(hl:yl (BF args) 240=true):call AC (yg n) 14 args h=A4 [.t (J 4)] (d14 (call AC n) (AS e0 0 args) h):=by
 have hb:AC.get 14=some b14:=by kernel_rfl
 rw[Ab hb];have hd:b14=⟨[.t (J 4)],d14⟩:=by kernel_rfl
 rw[hd,AW hl]
theorem pE{n:Nat}{args:List IN}{h:Hp}(hl:yl (BF args) 240=true):call AC (yg n) 20 args h=A4 [] (d20 (call AC n) (AS e0 0 args) h):=by
 have hb:AC.get 20=some b20:=by kernel_rfl
 rw[Ab hb];have hd:b20=⟨[],d20⟩:=by kernel_rfl
 rw[hd,AW hl]
theorem ZQ{n:Nat}{args:List IN}{h:Hp}(hl:yl (BF args) 240=true):call AC (yg n) 21 args h=A4 [.t (J 6),.t (J 7)] (d21 (call AC n) (AS e0 0 args) h):=by
 have hb:AC.get 21=some b21:=by kernel_rfl
 rw[Ab hb];have hd:b21=⟨[.t (J 6),.t (J 7)],d21⟩:=by kernel_rfl
 rw[hd,AW hl]
theorem pH{n:Nat}{args:List IN}{h:Hp}(hl:yl (BF args) 240=true):call AC (yg n) 31 args h=A4 [.t (J 2)] (d31 (call AC n) (AS e0 0 args) h):=by
 have hb:AC.get 31=some b31:=by kernel_rfl
 rw[Ab hb];have hd:b31=⟨[.t (J 2)],d31⟩:=by kernel_rfl
 rw[hd,AW hl]
theorem pI{n:Nat}{args:List IN}{h:Hp}(hl:yl (BF args) 240=true):call AC (yg n) 32 args h=A4 [.t (J 2)] (d32 (call AC n) (AS e0 0 args) h):=by
 have hb:AC.get 32=some b32:=by kernel_rfl
 rw[Ab hb];have hd:b32=⟨[.t (J 2)],d32⟩:=by kernel_rfl
 rw[hd,AW hl]
theorem pJ{n:Nat}{args:List IN}{h:Hp}(hl:yl (BF args) 240=true):call AC (yg n) 33 args h=A4 [.cN (J 6) 7,.t (J 7)] (d33 (call AC n) (AS e0 0 args) h):=by
 have hb:AC.get 33=some b33:=by kernel_rfl
 rw[Ab hb];have hd:b33=⟨[.cN (J 6) 7,.t (J 7)],d33⟩:=by kernel_rfl
 rw[hd,AW hl]
theorem pK{n:Nat}{args:List IN}{h:Hp}(hl:yl (BF args) 240=true):call AC (yg n) 34 args h=A4 [.cN (J 4) 7] (d34 (call AC n) (AS e0 0 args) h):=by
 have hb:AC.get 34=some b34:=by kernel_rfl
 rw[Ab hb];have hd:b34=⟨[.cN (J 4) 7],d34⟩:=by kernel_rfl
 rw[hd,AW hl]
theorem pL{n:Nat}{args:List IN}{h:Hp}(hl:yl (BF args) 240=true):call AC (yg n) 35 args h=A4 [.cN (J 4) 7] (d35 (call AC n) (AS e0 0 args) h):=by
 have hb:AC.get 35=some b35:=by kernel_rfl
 rw[Ab hb];have hd:b35=⟨[.cN (J 4) 7],d35⟩:=by kernel_rfl
 rw[hd,AW hl]
theorem pM{n:Nat}{args:List IN}{h:Hp}(hl:yl (BF args) 240=true):call AC (yg n) 36 args h=A4 [.cN (J 4) 7] (d36 (call AC n) (AS e0 0 args) h):=by
 have hb:AC.get 36=some b36:=by kernel_rfl
 rw[Ab hb];have hd:b36=⟨[.cN (J 4) 7],d36⟩:=by kernel_rfl
 rw[hd,AW hl]
theorem Sm{n:Nat}{args:List IN}{h:Hp}(hl:yl (BF args) 240=true):call AC (yg n) 37 args h=A4 [.cN (J 4) 7] (d37 (call AC n) (AS e0 0 args) h):=by
 have hb:AC.get 37=some b37:=by kernel_rfl
 rw[Ab hb];have hd:b37=⟨[.cN (J 4) 7],d37⟩:=by kernel_rfl
 rw[hd,AW hl]
theorem pN{n:Nat}{args:List IN}{h:Hp}(hl:yl (BF args) 240=true):call AC (yg n) 38 args h=A4 [.cN (J 4) 7] (d38 (call AC n) (AS e0 0 args) h):=by
 have hb:AC.get 38=some b38:=by kernel_rfl
 rw[Ab hb];have hd:b38=⟨[.cN (J 4) 7],d38⟩:=by kernel_rfl
 rw[hd,AW hl]
theorem pO{n:Nat}{args:List IN}{h:Hp}(hl:yl (BF args) 240=true):call AC (yg n) 39 args h=A4 [.cN (J 4) 7] (d39 (call AC n) (AS e0 0 args) h):=by
 have hb:AC.get 39=some b39:=by kernel_rfl
 rw[Ab hb];have hd:b39=⟨[.cN (J 4) 7],d39⟩:=by kernel_rfl
 rw[hd,AW hl]
theorem pV{n:Nat}{args:List IN}{h:Hp}(hl:yl (BF args) 240=true):call AC (yg n) 55 args h=A4 [.t (J 6)] (d55 (call AC n) (AS e0 0 args) h):=by
 have hb:AC.get 55=some b55:=by kernel_rfl
 rw[Ab hb];have hd:b55=⟨[.t (J 6)],d55⟩:=by kernel_rfl
 rw[hd,AW hl]
theorem pW{n:Nat}{args:List IN}{h:Hp}(hl:yl (BF args) 240=true):call AC (yg n) 56 args h=A4 [.t (J 8)] (d56 (call AC n) (AS e0 0 args) h):=by
 have hb:AC.get 56=some b56:=by kernel_rfl
 rw[Ab hb];have hd:b56=⟨[.t (J 8)],d56⟩:=by kernel_rfl
 rw[hd,AW hl]
theorem pY{n:Nat}{args:List IN}{h:Hp}(hl:yl (BF args) 240=true):call AC (yg n) 61 args h=A4 [.t (J 4)] (d61 (call AC n) (AS e0 0 args) h):=by
 have hb:AC.get 61=some b61:=by kernel_rfl
 rw[Ab hb];have hd:b61=⟨[.t (J 4)],d61⟩:=by kernel_rfl
 rw[hd,AW hl]
theorem pZ{n:Nat}{args:List IN}{h:Hp}(hl:yl (BF args) 240=true):call AC (yg n) 62 args h=A4 [.t (J 3)] (d62 (call AC n) (AS e0 0 args) h):=by
 have hb:AC.get 62=some b62:=by kernel_rfl
 rw[Ab hb];have hd:b62=⟨[.t (J 3)],d62⟩:=by kernel_rfl
 rw[hd,AW hl]
theorem ph{n:Nat}{args:List IN}{h:Hp}(hl:yl (BF args) 240=true):call AC (yg n) 65 args h=A4 [.cN (J 2) 4] (d65 (call AC n) (AS e0 0 args) h):=by
 have hb:AC.get 65=some b65:=by kernel_rfl
 rw[Ab hb];have hd:b65=⟨[.cN (J 2) 4],d65⟩:=by kernel_rfl
 rw[hd,AW hl]
theorem pi{n:Nat}{args:List IN}{h:Hp}(hl:yl (BF args) 240=true):call AC (yg n) 66 args h=A4 [.t (J 3)] (d66 (call AC n) (AS e0 0 args) h):=by
 have hb:AC.get 66=some b66:=by kernel_rfl
 rw[Ab hb];have hd:b66=⟨[.t (J 3)],d66⟩:=by kernel_rfl
 rw[hd,AW hl]
theorem qD{n:Nat}{args:List IN}{h:Hp}(hl:yl (BF args) 240=true):call AC (yg n) 89 args h=A4 [.t (J 6)] (d89 (call AC n) (AS e0 0 args) h):=by
 have hb:AC.get 89=some b89:=by kernel_rfl
 rw[Ab hb];have hd:b89=⟨[.t (J 6)],d89⟩:=by kernel_rfl
 rw[hd,AW hl]
end
end Go.Proofs.YtbjadbhkogcfeaaGreat
