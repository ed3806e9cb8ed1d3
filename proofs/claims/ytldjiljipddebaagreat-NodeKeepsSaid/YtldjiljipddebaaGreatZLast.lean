/-
  'NodeKeeps' of layer 11 answers true, whatever memory it is called in, whatever asks, number and marks it is handed and whatever the tape answers: no condition. What the canonical machine gives is shown for any of them (YtldjiljipddebaaGreatNkk); that machine is sound for the model (YtldjiljipddebaaGreatFns).
-/
import Derived.Test.YtldjiljipddebaaGreatZG
import Derived.Test.YtldjiljipddebaaGreatRows
import Derived.ProofKit
import Derived.OpenShut
import Derived.Carry
open Bool renaming true→IN,false→IS
open Option renaming some→BY
open Go.Value renaming int→AI
open Go.IntKind renaming i64→AT
open Nat renaming reduceEqDiff→OF,reduceLT→sh,reduceAdd→wA,le_refl→wB,zero_add→wC,zero_le→wl
open Go renaming Value→vz,MemPlace→ACi
open List renaming length_append→wD,getElem?_eq_getElem→wE,mem_cons_of_mem→wI,mem_cons_self→wJ,length_cons→wK,mem_of_getElem?→wO,mem_singleton→wP,append_nil→wT,mem_append→wd,mem_append_right→wz,mem_append_left→xF,getElem?_map→xc,countP_eq_length_filter→ABa
open Go.Proofs.Tryz renaming prog→wL,underlying3→yd,underlying5→AAd,underlying4→AAo,checked→ACJ,f3→ACY,underlying23→ACl,underlying22→ACm,func3→AD6
open Bool renaming not_true→xK,not_false→xP
open Go.Value renaming int→xd,okWide→yc
open Go.DataW renaming trod→ym,trod_int→zO,Trod→ACj
open Go.MemPlace renaming cell→zh
open Int renaming toNat_of_nonneg→AAU
open Go.WideElems renaming Trod_stays→AAc
open Go.Cell renaming okWide→AB8
open Go.ChangeSpec renaming witness6→AEK
open Go.OpenClaim renaming holds_of_wide→AEM
set_option linter.unusedVariables false
set_option linter.unusedSimpArgs false
namespace Go.Proofs.YtldjiljipddebaaGreat
set_option maxRecDepth 100000
noncomputable section
open Go
structure Ctx (h0:Hp)(A:At)(nb kk:Nat):Prop where
 W0:h0.Wf
 hD:∀b,A.D b->h0.next<=b/\b<nb
 n24:A.n=24
 nb0:h0.next<=nb
 kk:nb<kk
 tb:A.tb≠nb
section
variable {F:AES}{e:Env}{h:Hp}{k n r:Nat}{b c z:Int}{v u:vz}{xs:List Ak}
theorem aF{p:Bool}{g1 g2:O}(a:g1 e=.bool p)(h2:g2 e=.bool p):oEq ty4.k IN g1 g2 F e h=.ok (.bool IS) h:=by
 show(match eqV ty4.k (g1 e) (g2 e)with|some r=>okB (IN != r) h|none=>.no)=_;rw[vu,a,h2];cases p<;>exact Fd
theorem WT(c:h.Wf){z:VT}{a vs:List vz}(o:Bt .mt 0 a=BY z)(f:a.length=7)(i:vs.length=7)(l:Bd vs=IN):
  ∃g1 g2,(∀(F:AES) (e:Env),Bc 7 z F e h=.ok (pt h.next) g1)/\AEa 7 (pt h.next) (.agg ⟨vs⟩) g1=.ok AEU g2/\h.Ext g2/\g2.Row h.next 0 vs/\h.next<g2.next:=by
 have j:=λ(F:AES) (e:Env)=>BU (F:=F) (e:=e) c (n:=7) (t:=z)
 have b:=Hp.Row.alloc c o f;have d:h.Ext (h.push (.cells z 7 0)):=(Hp.Ext.refl c).push _;generalize h.push (.cells z 7 0)=m at j b d;have q:=c.big;have g:0+vs.length<=a.length:=by rw[f,i];exact wB _
 have p:=b.AEa (n:=7) (off:=0) d.wf (by omega) (v:=.agg ⟨vs⟩) i g l;have wr:=b.AEf d.wf g;rw[FF (show a.length=vs.length by rw[f,i])]at wr;have k:=b.AEy d (wB _) g;exact⟨m,_,j,p,k,wr,wr.lt k.wf⟩
theorem Hp.VE.lt{xs:List vz}(e:h.VE u xs)(f:h.Wf):∀b,AEu u b->b<h.next:=λb ⟨m,n,c,a⟩=>by
 rcases e with (⟨d,_⟩|⟨j,o,k,l,i,d,g,_⟩)|⟨⟨r,d⟩,_⟩
 ·rw[d]at a;cases a
 ·rw[d]at a
  injection a with a
  injection a with a
  injection a with a
  rw[<- a];exact g.lt f
 ·rw[d]at a;cases a
end
theorem nO:bhK=BJ (Ab 1 bhB) bhI:=rfl
theorem Z6:bhL=gJ:=rfl
theorem nP:bhS=BJ (Ab 0 (A4 bhL)) bhE:=rfl
theorem pu:d13=iG:=rfl
section
variable {h h' h0:Hp}{A:At}{T M:List Nat}{m k nb i tb:Nat}{ks:List Kt}{fr:List Nat}{v u vl:vz}{x:Ak}{xs:List Ak}{p q:Nst}
theorem OR(X:h0.Wf)(R:h0.Ext h)(W:h.Row tb 0 (T.map wv))(hT:AFD T)(K:h.KL k vl xs)(H:∀x∈xs,AF2 h0 x/\x.l.length<=1000)(hl:xs.length<=100):
  ∃h' k' v ks,call AC (m+13) 13 [pt tb,vl] h=.ok (.tuple ⟨[v,.bool IN]⟩) h'/\h.Ext h'/\h.next<=k'/\h'.AL k' v ks/\Cg ks (AGf xs).ks/\(∀x∈ks,∀y∈x.l,y<256)/\ks.length<=8:=by
 have u:=R.wf;have b3:=u.big;obtain⟨B,f,e,z,w,nb,N,x1,U1,a1,Z,b5⟩:=Nl (m:=m+2) u W hT;have N:call AC (m+12) 6 [pt tb] h=.ok (.tuple ⟨[pt e,pt nb,.bool IN]⟩) B:=N;have ln:=K.len B;have b6:=W.lt u;obtain⟨j,p1,t7,t19,t20,t21⟩:∃j,iG (call AC (m+12)) (Ay e0 0 [pt tb,vl]) h=bhS (call AC (m+12)) j B/\J 7 j=pt nb/\J 19 j=vl/\J 20 j=AI AT (xs.length:Int)/\J 21 j=AI AT ((0:Nat):Int):=by
  unfold iG;simp only[iN,wA,sT,sh,OF,reduceIte,cA0,N,Az,A8,A9,Cm,BO,BN,xK,Aa,ln];exact⟨_,rfl,by simp[AG]⟩
 have a8:∃a b,∃p:Nst,A4 bhL (call AC (m+12)) j B=.exit 0 a b/\h.Ext b/\J 7 a=pt nb/\b.Row nb 0 (AEq e tb f p.AEl)/\UpP (AFH IS) (λc=>c=nb) b ⟨f,e,z,w,tb,24⟩ T p.ks p.fr/\p.Al (AGf xs):=by
  refine Bb (I:=λi g h'=>∃p:Nst,h.Ext h'/\J 7 g=pt nb/\J 19 g=vl/\J 20 g=AI AT (xs.length:Int)/\J 21 g=AI AT (i:Int)/\i<=xs.length/\h'.Row nb 0 (AEq e tb f p.AEl)/\UpP (AFH IS) (λc=>c=nb) h' ⟨f,e,z,w,tb,24⟩ T p.ks p.fr/\p.Al (AGf (xs.take i)))
   (Q:=λy=>∃a b,∃p:Nst,y=.exit 0 a b/\h.Ext b/\J 7 a=pt nb/\b.Row nb 0 (AEq e tb f p.AEl)/\UpP (AFH IS) (λc=>c=nb) b ⟨f,e,z,w,tb,24⟩ T p.ks p.fr/\p.Al (AGf xs)) xs.length (by omega) (λi g h' ⟨p,D,t7,t19,t20,t21,hi,V,E,r⟩=>?_) ⟨⟨0,[],[0,1,2,3,4,5,6,7]⟩,x1,t7,t19,t20,t21,wl _,a1,U1,rfl,rfl,rfl⟩
  have F:=D.wf;by_cases C:i<xs.length
  ·left
   have G:=Ec C;obtain⟨x,L⟩:∃x,xs[i]? =BY x:=⟨_,wE C⟩;obtain⟨ok,a5⟩:=H x (wO L);obtain⟨c,ix,ld⟩:=(K.ext u D).at L;obtain⟨g1,b,a4,P,U,R2,_⟩:=WT F Qr rfl (vs:=x.cells) rfl (x.one ok.2.2.1);have P:AEa 7 (pt h'.next) x.val g1=.ok AEU b:=P;have a7:loadN 7 ⟨h'.next,0,none⟩ b=.ok x.val b:=(B3 (show b.Row h'.next 0 (CW x.lf x.sq x.op x.a x.b x.c x.u)from R2)).2.2.2.2.2.2.2;have o:=D.trans U;have Y:=o.wf;have t:=V.ext F U;rcases sv (fa:=IS) (m:=m) (AEl:=p.AEl) Y rfl t (E.ext F U) (λc d=>by rw[d];exact t.lt Y) rfl (λd=>by have:=Z _ d;omega) (by show tb≠nb;omega) (by omega) (ok.ext X (R.trans o)) a5 (λc d=>by
    have:=ok.1.lt X c d;have:=R.next;omega)with ⟨tv,l,q,n,f3,a2,U3,al3,_⟩|⟨_,_,_,_,_,_,_,dd,_⟩
   case inr=>cases dd.may
   have n:call AC (m+12) 9 [pt nb,x.val] b=.ok (.tuple ⟨[tv,AI AT (if rgt x=IN then 0 else 110)]⟩) l:=n;have S:=Fx.xtF o f3 λc d=>by
    rcases d with d|d
    ·exact(Z c d).1
    ·omega
   have a3:=CL (i:=i) (h:=l) (by omega);obtain⟨a,s,u7,a9,b0,b1⟩:∃a,bhL (call AC (m+12)) g h'=.norm a l/\J 7 a=pt nb/\J 19 a=vl/\J 20 a=AI AT (xs.length:Int)/\J 21 a=AI AT ((i+1:Nat):Int):=by
    rw[Z6];unfold gJ;simp only[sT,sh,OF,reduceIte,AM,AK,t21,t20,G];rw[nO];unfold bhB bhI;simp only[sT,sh,OF,reduceIte,A1,t19,t21,ix,Ai,Ac,ld,a4,AV,P,a7,cA0,t7,n,BL,a3];exact⟨_,rfl,by simp[AG,t7,t19,t20]⟩
   obtain⟨⟨_,_,_,_,_,_,iv,_⟩,_⟩:=id E;have a6:xs.take (i+1)=xs.take i++[x]:=by rw[List.take_add_one,L];rfl
   exact⟨C,a,l,s,q,S,u7,a9,b0,b1,C,a2,U3,by rw[a6,Iy];exact al3.trans (Ux r (r.2.1.symm.key iv.key))⟩
  ·right
   obtain rfl:i=xs.length:=by omega
   have G:=DC (wB xs.length);obtain⟨a,s,O⟩:∃a,bhL (call AC (m+12)) g h'=.exit 0 a h'/\J 7 a=pt nb:=by
    rw[Z6];unfold gJ;simp only[sT,sh,OF,reduceIte,AM,AK,t21,t20,G];exact⟨_,rfl,by simp[AG,t7]⟩
   rw[s];rw[List.take_length]at r;exact⟨rfl,a,h',p,rfl,D,O,V,E,r⟩
 obtain⟨a,b,p,s,o,O,t,U2,r⟩:=a8;obtain⟨⟨M,c0,b2,lv,fv,a0,iv,_⟩,_⟩:=id U2;have b4:=iv.len;obtain⟨l,v3,n,S,V3⟩:=Xd (m:=m+7) (A:=⟨f,e,z,w,tb,24⟩) o.wf t a0;have n:call AC (m+12) 17 [pt nb] b=.ok v3 l:=n;refine⟨l,_,v3,p.ks,?_,o.trans S,o.next,V3,r.2.1,λx H=>(a0.ko x H).2.1,by omega⟩;rw[nZ rfl,pu,p1,nP];simp only[BC,Aw,s,A6,BA];unfold bhE;simp only[sT,sh,OF,reduceIte,cA0,O,n,A7,C0]
end
theorem nX:BZ 11 [.t (J 2)] d11:=Ba (by kernel_rfl) rfl
theorem cx:mlB=jN:=rfl
theorem cy:mlK=BJ (Ab 1 mlB) mlI:=rfl
theorem cz:mlL=jO:=rfl
def mq(j:Nat):Prop:=j=2\/j=7\/j=8\/j=9\/j=12\/j=39\/j=40
structure Mcx (h0 hS:Hp)(A:At)(nb r kk:Nat):Prop where
 W0:h0.Wf
 x0:h0.Ext hS
 n24:A.n=24
 hD:∀b,A.D b->h0.next<=b/\b<nb
 nb0:h0.next<=nb/\nb<r
 rk:r<kk
 kl:kk<=hS.next
 tb:A.tb<nb
structure Mst (h0 hS:Hp)(A:At)(T:List Nat)(nb r:Nat)(v:vz)(xs:List Ak)(y:Ak)(B:List Kt)(fr:List Nat)(AEl:Int)(h:Hp):Prop where
 f:Fx (λb=>A.D b\/b=nb\/b=r) hS h
 U:UpP (AFH IN) (λb=>b=nb\/b=r) h A T B fr
 Rn:h.Row nb 0 (AEq A.bd A.tb A.bs AEl)
 al:(⟨AEl,B,fr⟩:Nst).Al (AGf xs)
 kl:h.KL hS.next v xs
 ok:∀x∈xs,AF2 h0 x/\x.l.length<=150
 Ry:h.Row r 0 y.cells
 oy:AF2 h0 y/\y.l.length<=150
section
variable {F:AES}{e:Env}{h h' h0 hS g:Hp}{A:At}{T M:List Nat}{m k kk nb r i:Nat}{AEl:Int}{B ks:List Kt}{fr:List Nat}{v vl:vz}{x y:Ak}{xs zs:List Ak}{p q:Nst}
theorem kA:Odd x.cells:=⟨.inr (λa h=>by cases h),.int .u8 (x.op:Int),wI _ (wI _ wJ),λq h=>by cases h⟩
theorem cg{a:List vz}(c:h.Wf)(R:h.Row r 0 a)(e:a.length=7)(f:256<=r)(g:oneCell x.u=IN):∃h',AEa 7 (pt r) x.val h=.ok AEU h'/\Fx (λb=>b=r) h h'/\h'.Row r 0 x.cells:=by
 have d:0+x.cells.length<=a.length:=by rw[e];exact wB _
 have i:=R.AEa (n:=7) (off:=0) c f (v:=x.val) rfl d (x.one g);have wr:=R.AEf c d;rw[FF (show a.length=x.cells.length from e)]at wr;exact⟨_,i,Fx.wr c R d rfl,wr⟩
theorem dG{bd b bs:Nat}{k f:vz}{d:Nat}{a:Bool}(c:h.Row nb 0 (AEq bd b bs AEl))(Rs:h.Row bs 0 (slL bd b k f d a)):call AC (m+2) 11 [pt nb] h=.ok (.bool a) h:=by
 obtain⟨_,_,l,_⟩:=CB c;have n:∀(F:AES) (e:Env) (g:Hp),J 0 e=pt nb->oEq OM.k IN (J 0) (W (.pointer none)) F e g=.ok (.bool IN) g:=λF e g i=>Xu YI i
 have j:call AC (m+1) 35 [pt bs] h=.ok (.bool a) h:=MX (A:=⟨bs,bd,0,0,b,0⟩) (m:=m) Rs;rw[nX rfl];unfold d11;simp only[iN,wA,sT,sh,OF,reduceIte,gD,cA0,n,An,AX,AH,AN,wC,AJ,AP,l,j,lV0]
theorem Mcx.ext(C:Mcx h0 hS A nb r kk)(f:Fx (λb=>A.D b\/b=nb\/b=r) hS h):h0.Ext h:=Fx.xtF C.x0 f λb a=>by
 have:=C.nb0;rcases a with a|a|a
 ·exact(C.hD b a).1
 ·omega
 ·omega
theorem Mcx.nD(C:Mcx h0 hS A nb r kk){b:Nat}(a:kk<=b):¬(A.D b\/b=nb\/b=r):=λh=>by
 have:=C.nb0;have:=C.rk;rcases h with h|h|h
 ·have:=(C.hD b h).2
  omega
 ·omega
 ·omega
theorem rR(C:Mcx h0 hS A nb r kk)(s:Mst h0 hS A T nb r v xs y B fr AEl h)(K:hS.KL kk vl zs)(hi:zs[i]? =BY x)(ok:AF2 h0 x)(AHA:x.l.length<=150)(hl:xs.length<=100)
  (s8:J 8 e=pt A.bd)(s9:J 9 e=pt nb)(s11:J 11 e=v)(s12:J 12 e=pt r)(s39:J 39 e=vl)(s41:J 41 e=AI AT (i:Int)):
  (∃e' h' v' B' fr' AIu,mlB (call AC (m+13)) e h=.norm e' h'/\Mst h0 hS A T nb r v' (xs++[x]) x B' fr' AIu h'/\J 11 e'=v'/\∀j,mq j\/j=13\/j=41->J j e'=J j e)\/
  (∃e' h' M cs,mlB (call AC (m+13)) e h=.exit 0 e' h'/\Fx (λb=>A.D b\/b=nb\/b=r) hS h'/\h'.KL hS.next v xs/\h'.Row r 0 x.cells/\J 11 e'=v/\J 13 e'=.bool IN/\(∀j,mq j->J j e'=J j e)/\AFQ IN h' A T M cs/\(rgt x=IN/\AEl<=x.lf)/\(x.op≠4/\x.op≠5)/\AFi 8 T M cs (Aft B fr (kdO x.op) x.a x.b x.c (lO x.op x.l))):=by
 have hh:=C.ext s.f;have W:=hh.wf;have big:=C.W0.big;have hn:=C.nb0;have hrk:=C.rk;have hkl:=C.kl;have htb:=C.tb;have hnx:=s.f.next;obtain⟨b,ix,ld⟩:=(K.fx C.x0.wf s.f λb hb=>C.nD hb).at hi;obtain⟨g1,h1,al1,st1,y1,R1,_⟩:=WT W Qr rfl (vs:=x.cells) rfl (x.one ok.2.2.1);have st1:AEa 7 (pt h.next) x.val g1=.ok AEU h1:=st1;have W1:=y1.wf;have asks:∀{g:Hp} {r:Nat},g.Row r 0 x.cells->loadN 7 ⟨r,0,none⟩ g=.ok x.val g:=λR=>(B3 (show Hp.Row _ _ 0 (CW x.lf x.sq x.op x.a x.b x.c x.u)from R)).2.2.2.2.2.2.2
 have lda:=asks R1;have hDr:¬A.D r:=λh=>by have:=(C.hD _ h).2;omega
 obtain⟨h2,st2,f2,Rr2⟩:=cg W1 (s.Ry.ext W y1) rfl (by omega) ok.2.2.1;have W2:=f2.wf;have U2:=UpP.wr W1 (s.U.ext W y1) (.inr rfl) (s.Ry.ext W y1) Rr2 f2 hDr (by omega) kA;have Rn2:=f2.row W1 (s.Rn.ext W y1) (by omega);have R2:=f2.row W1 R1 (by omega);have ldb:=asks R2;have f02:Fx (λb=>A.D b\/b=nb\/b=r) hS h2:=(s.f.trans (.of y1)).trans (f2.mono λb hb=>.inr (.inr hb));have x2:=C.ext f02;have n2:=f02.next;have kl2:=(s.kl.ext W y1).fx W1 f2 λb hb=>by omega
 have fin:∀(h3 h5:Hp) (tv:vz) (er:Int) (e0:Env),call AC (m+13) 9 [pt nb,x.val] h2=.ok (.tuple ⟨[tv,AI AT er]⟩) h3->h3.Wf->Zx tv->True:=λ_ _ _ _ _ _ _ _=>trivial
 rcases sv (fa:=IN) (m:=m+1) (AEl:=AEl) W2 C.n24 Rn2 U2 (λb hb=>by
  have h1:=Rn2.lt W2;have h2:=Rr2.lt W2;rcases hb with hb|hb<;>rw[hb]<;>assumption) (.inl rfl) (λhb=>by have:=(C.hD _ hb).2;omega) (by omega) (by omega) (ok.ext C.W0 x2) (by omega) (λb hb=>by
  have:=ok.1.lt C.W0 b hb;omega)with ⟨tv,h3,p,k3,f3,Rn3,U3,al3,tl,tsq,top,tz,tiv,tbw,trm,rfl,o1,o2⟩|⟨tv,h3,M,cs,k3,f3,Rn3,d3,hr,hop,gd,tl,tsq,top,tz,tiv,tbw,trm,rfl,o1,o2⟩
 ·left
  have k3:call AC (m+13) 9 [pt nb,x.val] h2=.ok (.tuple ⟨[Bs tl tsq top tz tiv tbw trm,AI AT (if rgt x=IN then 0 else 110)]⟩) h3:=k3;have W3:=f3.wf;have f03:=f02.trans (f3.mono λb hb=>hb.imp id .inl);have R3:=f3.row W2 R2 (λhb=>by
   rcases hb with hb|hb
   ·have:=(C.hD _ hb).2
    omega
   ·omega)
  have Rr3:=f3.row W2 Rr2 (λhb=>by
   rcases hb with hb|hb
   ·exact hDr hb
   ·omega)
  have kl3:=kl2.fx W2 f3 λb hb hs=>by
   rcases hs with hs|hs
   ·have:=(C.hD _ hs).2
    omega
   ·omega
  obtain⟨g4,h4,al4,st4,y4,_,_⟩:=WT W3 Ev rfl (vs:=Ea tl tsq top tz tiv tbw trm) rfl (KR o1 o2);have st4:AEa 7 (pt h3.next) (Bs tl tsq top tz tiv tbw trm) g4=.ok AEU h4:=st4;have W4:=y4.wf;have U4:=U3.ext W3 y4;have kd:call AC (m+13) 10 [pt A.bd] h4=.ok (.bool IS) h4:=by
   obtain⟨⟨_,_,_,_,_,q,_⟩,_⟩:=id U4;exact MQ (m:=m+11) q.dk
  have ld4:=asks (R3.ext W3 y4);have f04:=f03.trans (.of y4);obtain⟨h5,k5,y5⟩:=PF (m:=m+10) (AEl:=x.lf) (seq:=x.sq) (op:=x.op) (a:=x.a) (b:=x.b) (c:=x.c) W4 ok.2.2.2 (λg=>ok.1.bl g);have k5:call AC (m+13) 12 [x.val] h4=.ok (.bool (rgt x)) h5:=k5;have W5:=y5.wf;have ce:iEq (if rgt x=IN then 0 else 110) 0=rgt x:=by
   cases rgt x
   ·exact B8 (by decide)
   ·exact CZ rfl
  have ld5:=asks ((R3.ext W3 y4).ext W4 y5);have sl:=λ(F:AES) (e:Env) (he:J 67 e=x.val)=>Mn (F:=F) W5 he
  have f05:=f04.trans (.of y5);have y45:=y4.trans y5;have kl5:=kl3.ext W3 y45;have n5:=f05.next;obtain⟨h6,v6,k6,x6,kl6,f6⟩:=kl5.app (x:=x) C.W0 (C.ext f05) (by have:=C.x0.next;omega) n5 (by omega) ok.2.2.1;have hv:∀b,AEu v b->hS.next<=b:=λb ⟨_,_,_,hb⟩=>by
   rcases s.kl with ⟨h1,_⟩|⟨b',h1,_,h3⟩
   ·rw[h1]at hb;cases hb
   ·rw[h1]at hb
    injection hb with hb
    injection hb with hb
    injection hb with hb
    omega
  have kq:=Kq.of W5 kl5 f6;have f06:Fx (λb=>A.D b\/b=nb\/b=r) hS h6:=Fx.drop ((f05.mono λb hb=>.inl hb).trans (f6.mono λb hb=>.inr (hv b hb)));obtain⟨⟨_,_,_,_,_,_,iv,_⟩,_⟩:=id s.U;have al6:(⟨p.AEl,p.ks,p.fr⟩:Nst).Al (AGf (xs++[x])):=by
   rw[Iy];exact al3.trans (Ux s.al (s.al.2.1.symm.key iv.key))
  obtain⟨e1,r1,t11,tj⟩:∃e1,mlB (call AC (m+13)) e h=.norm e1 h6/\J 11 e1=v6/\∀j,mq j\/j=13\/j=41->J j e1=J j e:=by
   rw[cx];unfold jN;simp only[sT,sh,OF,reduceIte,A1,s39,s41,ix,Ai,Ac,ld,al1,AV,st1,lda,s12,st2,ldb,cA0,s9,k3,Az,A8,A9,al4,st4,s8,kd];unfold mlC;simp only[sT,sh,OF,reduceIte,AM,AK,ce,Ai,Ac,ld4,cA0,k5];rw[aF (p:=rgt x) (by simp[AG]) (by simp[AG])];simp only[sT,sh,OF,reduceIte,Ai,Ac,ld5,sl,BD,s11,k6];refine⟨_,rfl,by simp[AG],λj hj=>?_⟩;rcases hj with (rfl|rfl|rfl|rfl|rfl|rfl|rfl)|rfl|rfl<;>simp only[AG,sh,OF,reduceIte]
  refine⟨e1,h6,v6,p.ks,p.fr,p.AEl,r1,⟨f06,(U4.ext W4 y5).kq kq,kq.row _ _ _ (by omega) (Rn3.ext W3 y45),al6,kl6,λz hz=>?_,kq.row _ _ _ (by omega) (Rr3.ext W3 y45),ok,AHA⟩,t11,tj⟩;rcases wd.1 hz with hz|hz
  ·exact s.ok z hz
  ·rw[wP.1 hz];exact⟨ok,AHA⟩
 ·right
  have k3:call AC (m+13) 9 [pt nb,x.val] h2=.ok (.tuple ⟨[Bs tl tsq top tz tiv tbw trm,AI AT 15]⟩) h3:=k3;have W3:=f3.wf;have f03:=f02.trans (f3.mono λb hb=>hb.imp id .inl);have Rr3:=f3.row W2 Rr2 (λhb=>by
   rcases hb with hb|hb
   ·exact hDr hb
   ·omega)
  have kl3:=kl2.fx W2 f3 λb hb hs=>by
   rcases hs with hs|hs
   ·have:=(C.hD _ hs).2
    omega
   ·omega
  obtain⟨g4,h4,al4,st4,y4,_,_⟩:=WT W3 Ev rfl (vs:=Ea tl tsq top tz tiv tbw trm) rfl (KR o1 o2);have st4:AEa 7 (pt h3.next) (Bs tl tsq top tz tiv tbw trm) g4=.ok AEU h4:=st4;have d4:=d3.ext W3 y4;have kd:call AC (m+13) 10 [pt A.bd] h4=.ok (.bool IN) h4:=by
   obtain⟨_,q⟩:=d4.dk;exact MQ (m:=m+11) q
  have ko:call AC (m+13) 11 [pt nb] h4=.ok (.bool IN) h4:=by
   obtain⟨lv,fv,bad,q⟩:=d4.row;exact dG (m:=m+11) (Rn3.ext W3 y4) q
  have c15:iNe 15 15=IS:=CE rfl;obtain⟨e1,r1,t11,t13,tj⟩:∃e1,mlB (call AC (m+13)) e h=.exit 0 e1 h4/\J 11 e1=v/\J 13 e1=.bool IN/\∀j,mq j->J j e1=J j e:=by
   rw[cx];unfold jN;simp only[sT,sh,OF,reduceIte,A1,s39,s41,ix,Ai,Ac,ld,al1,AV,st1,lda,s12,st2,ldb,cA0,s9,k3,Az,A8,A9,al4,st4,s8,kd];unfold mlD;simp only[sT,sh,OF,reduceIte,gD,AM,AK,c15,s9,cA0,ko,BO,BN,xK];refine⟨_,rfl,by simp[AG,s11],by simp[AG],λj hj=>?_⟩;rcases hj with rfl|rfl|rfl|rfl|rfl|rfl|rfl<;>simp only[AG,sh,OF,reduceIte]
  exact⟨e1,h4,M,cs,r1,f03.trans (.of y4),kl3.ext W3 y4,Rr3.ext W3 y4,t11,t13,tj,d4,hr,hop,gd⟩
structure AIv (h0 hS:Hp)(A:At)(T:List Nat)(nb r:Nat)(v:vz)(xs:List Ak)(y:Ak)(B:List Kt)(fr:List Nat)(AEl:Int)(ov:Bool)(h:Hp):Prop where
 f:Fx (λb=>A.D b\/b=nb\/b=r) hS h
 kl:h.KL hS.next v xs
 len:xs.length<=25
 ok:∀x∈xs,AF2 h0 x/\x.l.length<=150
 Ry:h.Row r 0 y.cells
 oy:AF2 h0 y/\y.l.length<=150
 al:(⟨AEl,B,fr⟩:Nst).Al (AGf xs)
 iv:AFE 8 B fr
 com:Com B
 asc:B.Pairwise LtK
 en:AGK (λb=>b=nb\/b=r) h A T B fr (kdO y.op) y.a y.b y.c (lO y.op y.l) ov
 la:ov=IN->(rgt y=IN/\AEl<=y.lf)/\(y.op≠4/\y.op≠5)
theorem jP(C:Mcx h0 hS A nb r kk)(s0:Mst h0 hS A T nb r AEW [] y B fr 0 hS)(K:hS.KL kk vl zs)(hl:zs.length<=25)(hx:∀x∈zs,AF2 h0 x/\x.l.length<=150)
  (s8:J 8 e=pt A.bd)(s9:J 9 e=pt nb)(s11:J 11 e=AEW)(s12:J 12 e=pt r)(s13:J 13 e=.bool IS)(a5:J 39 e=vl)(a6:J 40 e=AI AT (zs.length:Int))(a7:J 41 e=AI AT ((0:Nat):Int)):
  ∃a h' v xs y B fr AEl o,A4 mlL (call AC (m+13)) e hS=.exit 0 a h'/\(∀j,mq j->J j a=J j e)/\J 11 a=v/\J 13 a=.bool o/\AIv h0 hS A T nb r v xs y B fr AEl o h':=by
 refine Bb (I:=λi a h'=>∃v xs y B fr AEl,Mst h0 hS A T nb r v xs y B fr AEl h'/\(AGf xs).ks.Pairwise LtK/\(∀j,mq j->J j a=J j e)/\J 11 a=v/\J 13 a=.bool IS/\J 41 a=AI AT (i:Int)/\i<=zs.length/\xs.length=i)
  (Q:=λq=>∃a h' v xs y B fr AEl o,q=.exit 0 a h'/\(∀j,mq j->J j a=J j e)/\J 11 a=v/\J 13 a=.bool o/\AIv h0 hS A T nb r v xs y B fr AEl o h') zs.length (by omega) (λi a h' ⟨v,xs,y,B,fr,AEl,c,asc,z,t11,t13,t41,hi,a2⟩=>?_) ⟨AEW,[],y,B,fr,0,s0,.nil,λ_ _=>rfl,s11,s13,a7,wl _,rfl⟩
 have t40:=(z 40 (by unfold mq;omega)).trans a6;obtain⟨⟨_,_,_,_,_,_,iv,_,O,_⟩,_⟩:=id c.U;have N:=c.al.2.1.asc asc;by_cases s:i<zs.length
 ·have u:=Ec s
  obtain⟨x,P⟩:∃x,zs[i]? =BY x:=⟨_,wE s⟩;obtain⟨ok,L⟩:=hx x (wO P);obtain⟨d,t,k⟩:∃d,mlL (call AC (m+13)) a h'=mlK (call AC (m+13)) d h'/\∀j,mq j\/j=11\/j=13\/j=41->J j d=J j a:=by
   rw[cz];unfold jO;simp only[sT,sh,OF,reduceIte,AM,AK,t41,t40,u];refine⟨_,rfl,λj b=>?_⟩;rcases b with (rfl|rfl|rfl|rfl|rfl|rfl|rfl)|rfl|rfl|rfl<;>simp only[AG,sh,OF,reduceIte]
  have g:=λj (b:mq j)=>(k j (.inl b)).trans (z j b)
  have D:=(k 11 (by unfold mq;omega)).trans t11;have E:=(k 13 (by unfold mq;omega)).trans t13;have R:=(k 41 (by unfold mq;omega)).trans t41;rcases rR (m:=m) C c K P ok L (by omega) ((g 8 (by unfold mq;omega)).trans s8) ((g 9 (by unfold mq;omega)).trans s9) D ((g 12 (by unfold mq;omega)).trans s12) ((g 39 (by unfold mq;omega)).trans a5) R with ⟨l,f,v2,U,a0,S,w,s2,F,p⟩|⟨l,f,M,X,w,f2,a4,V,F,G,p,Y,hr,a1,gd⟩
  ·left
   have G:=(p 13 (.inr (.inl rfl))).trans E;have a8:=(p 41 (.inr (.inr rfl))).trans R;have W:=CL (i:=i) (h:=f) (by omega);obtain⟨n,Z,a9,H⟩:∃n,mlI (call AC (m+13)) l f=.norm n f/\J 41 n=AI AT ((i+1:Nat):Int)/\∀j,mq j\/j=11\/j=13->J j n=J j l:=by
    unfold mlI;simp only[sT,sh,OF,reduceIte,BL,a8,W];refine⟨_,rfl,by simp[AG],λj b=>?_⟩;rcases b with (rfl|rfl|rfl|rfl|rfl|rfl|rfl)|rfl|rfl<;>simp only[AG,sh,OF,reduceIte]
   refine⟨s,n,f,?_,v2,xs++[x],x,U,a0,S,s2,?_,λj b=>(H j (.inl b)).trans ((p j (.inl b)).trans (g j b)),(H 11 (.inr (.inl rfl))).trans F,(H 13 (.inr (.inr rfl))).trans G,a9,s,by rw[wD,a2];rfl⟩
   ·rw[t,cy]
    simp only[BC,Aw,w,DU,BA,Z]
   ·rw[Iy]
    exact jY asc (c.al.2.1.symm.key iv.key)
  ·right
   have e0:mlL (call AC (m+13)) a h'=.exit 0 l f:=by
    rw[t,cy];simp only[BC,Aw,w,A6];rfl
   rw[e0];exact⟨rfl,l,f,v,xs,x,B,fr,AEl,IN,rfl,λj b=>(p j b).trans (g j b),F,G,f2,a4,by omega,c.ok,V,⟨ok,L⟩,c.al,iv,O,N,.inr ⟨rfl,M,X,Y,gd⟩,λ_=>⟨hr,a1⟩⟩
 ·right
  obtain rfl:i=zs.length:=by omega
  have u:=DC (wB zs.length);obtain⟨d,t,D,E,k⟩:∃d,mlL (call AC (m+13)) a h'=.exit 0 d h'/\J 11 d=v/\J 13 d=.bool IS/\∀j,mq j->J j d=J j a:=by
   rw[cz];unfold jO;simp only[sT,sh,OF,reduceIte,AM,AK,t41,t40,u];refine⟨_,rfl,by simp[AG,t11],by simp[AG,t13],λj b=>?_⟩;rcases b with rfl|rfl|rfl|rfl|rfl|rfl|rfl<;>simp only[AG,sh,OF,reduceIte]
  rw[t];exact⟨rfl,d,h',v,xs,y,B,fr,AEl,IS,rfl,λj b=>(k j b).trans (z j b),D,E,c.f,c.kl,by omega,c.ok,c.Ry,c.oy,c.al,iv,O,N,.inl ⟨rfl,c.U⟩,λh=>by cases h⟩
end
section
variable {F:AES}{e:Env}{h h':Hp}{m k n:Nat}{u w:vz}
def KZ(a b c:Int)(s:Nat)(l:List Nat)(a' b' c':Int)(s':Nat)(l':List Nat):Bool:=decide (a=a'/\b=b'/\c=c'/\s=s'/\l=l')
theorem eW(k:h.Wf){a b c a' b' c':Int}{s s':Nat}{u w:vz}{l l':List Nat}(S:h.AEs u (l.map bv))(T:h.AEs w (l'.map bv))(W:∀x∈l,x<256)(X:∀x∈l',x<256):
  ∃h',call AC (m+2) 44 [Bn a b c s u,Bn a' b' c' s' w] h=.ok (.bool (KZ a b c s l a' b' c' s' l')) h'/\h.Ext h':=by
 have f:=λ(F:AES) (e:Env) (M:J 0 e=Bn a b c s u)=>N2 (F:=F) k M
 have j:=(Hp.Ext.refl k).AER 0 (A5 a b c s u);have P:=Hp.Row.new k 0 (A5 a b c s u);generalize h.AER 0 (A5 a b c s u)=U at f j P;have g:=λ(F:AES) (e:Env) (M:J 1 e=Bn a' b' c' s' w)=>N2 (F:=F) j.wf M
 have O:=(Hp.Ext.refl j.wf).AER 0 (A5 a' b' c' s' w);have Q:=Hp.Row.new j.wf 0 (A5 a' b' c' s' w);generalize U.AER 0 (A5 a' b' c' s' w)=V at g O Q;have N:=j.trans O;obtain⟨q,r,t,y,z,_⟩:=Br (P.ext j.wf O);obtain⟨A,B,C,D,E,_⟩:=Br Q;have p:=un (n:=m) (S.ext k N) (T.ext k N) W X;refine⟨V,?_,N⟩;rw[oE rfl];unfold d44;rcases GP a a' with ⟨i,I⟩|⟨i,I⟩
 ·rcases GP b b' with ⟨o,K⟩|⟨o,K⟩
  ·rcases GP c c' with ⟨G,L⟩|⟨G,L⟩
   ·rcases GP (s:Int) (s':Int)with ⟨H,R⟩|⟨H,R⟩
    ·have d:KZ a b c s l a' b' c' s' l'=decide (l=l'):=by
      unfold KZ;exact decide_eq_decide.2 ⟨λh=>h.2.2.2.2,λh=>⟨I,K,L,by omega,h⟩⟩
     rw[d];simp only[iN,wA,sT,sh,OF,reduceIte,gD,f,g,AH,AN,wC,AJ,AP,q,r,t,y,z,A,B,C,D,E,AM,AK,i,o,G,H,cA0,p,lV0]
    ·have d:KZ a b c s l a' b' c' s' l'=IS:=decide_eq_false λh=>R (by rw[h.2.2.2.1])
     rw[d];simp only[iN,wA,sT,sh,OF,reduceIte,gD,f,g,AH,AN,wC,AJ,AP,q,r,t,y,z,A,B,C,D,E,AM,AK,i,o,G,H,cA0,p,lV0]
   ·have d:KZ a b c s l a' b' c' s' l'=IS:=decide_eq_false λh=>L h.2.2.1
    rw[d];simp only[iN,wA,sT,sh,OF,reduceIte,gD,f,g,AH,AN,wC,AJ,AP,q,r,t,y,z,A,B,C,D,E,AM,AK,i,o,G,cA0,p,lV0]
  ·have d:KZ a b c s l a' b' c' s' l'=IS:=decide_eq_false λh=>K h.2.1
   rw[d];simp only[iN,wA,sT,sh,OF,reduceIte,gD,f,g,AH,AN,wC,AJ,AP,q,r,t,y,z,A,B,C,D,E,AM,AK,i,o,cA0,p,lV0]
 ·have d:KZ a b c s l a' b' c' s' l'=IS:=decide_eq_false λh=>I h.1
  rw[d];simp only[iN,wA,sT,sh,OF,reduceIte,gD,f,g,AH,AN,wC,AJ,AP,q,r,t,y,z,A,B,C,D,E,AM,AK,i,cA0,p,lV0]
theorem ru{n k:Nat}(hk:0<k):VJ .u8 (.int .u8 (n:Int)) (.int .u8 (k:Int)) h=.ok (.int .u8 ((n % k:Nat):Int)) h:=by
 have:((n:Nat):Int).tmod (k:Int)=((n % k:Nat):Int):=rfl;rw[Qa (by omega),this]
end
def Kt.c5(k:Kt):Int×Int×Int×Nat×List Nat:=(k.a,k.b,k.c,k.s,k.l)
section
variable {e:Env}{h h':Hp}{m k k':Nat}{ks ks':List Kt}{v w:vz}{x y:Kt}
theorem gO:KZ x.a x.b x.c x.s x.l y.a y.b y.c y.s y.l=decide (x.c5=y.c5):=by
 unfold KZ;refine decide_eq_decide.2 ⟨λ⟨b,c,d,e,f⟩=>?_,λa=>?_⟩
 ·unfold Kt.c5
  rw[b,c,d,e,f]
 ·exact⟨congrArg (·.1) a,congrArg (·.2.1) a,congrArg (·.2.2.1) a,congrArg (·.2.2.2.1) a,congrArg (·.2.2.2.2) a⟩
theorem Cg.c5(h:Cg ks ks'):ks.map Kt.c5=ks'.map Kt.c5:=by
 have e:∀b:List Kt,b.map Kt.c5=(b.map Kt.core).map λa=>(a.a,a.b,a.c,a.s,a.l):=λb=>by rw[List.map_map];rfl
 rw[e,e,show ks.map Kt.core=ks'.map Kt.core from h]
theorem sL(g:h.Wf)(B:h.AL k v ks)(C:h.AL k' w ks')(F:∀x∈ks,∀y∈x.l,y<256)(G:∀x∈ks',∀y∈x.l,y<256)(t:h.Ext h'){i j:Nat}(n:ks[i]? =BY x)(o:ks'[j]? =BY y):
  ∃l p q u d,AFM 5 v (AI AT (i:Int)) h'.marked=.ok p h'.marked/\II 5 p h'.marked=.ok (Bn x.a x.b x.c x.s u) h'.marked/\AFM 5 w (AI AT (j:Int)) h'.marked=.ok q h'.marked/\II 5 q h'.marked=.ok (Bn y.a y.b y.c y.s d) h'.marked/\h'.Ext l/\
   ∀(e:Env) (g1 g2:O),g1 e=Bn x.a x.b x.c x.s u->g2 e=Bn y.a y.b y.c y.s d->AZ .free (AU 44 [g1,g2]) (call AC (m+2)) e h'.marked=.ok (.bool (decide (x.c5=y.c5))) l:=by
 have f:=t.marked;obtain⟨M,u,H,J,z⟩:=(B.ext g f).at n;obtain⟨N,d,I,K,A⟩:=(C.ext g f).at o;obtain⟨P,r,L⟩:=eW (m:=m) (a:=x.a) (b:=x.b) (c:=x.c) (s:=x.s) (a':=y.a) (b':=y.b) (c':=y.c) (s':=y.s) f.quiet.wf (z.same (h':=h'.marked.quiet) rfl) (A.same (h':=h'.marked.quiet) rfl) (F x (wO n)) (G y (wO o));rw[gO]at r;exact⟨_,_,_,u,d,H,J,I,K,(Hp.Ext.refl t.wf).marked.trans (.back L),λe g1 g2 D E=>by
  refine BE ?_;rw[BG,AS,AS,Av,D,E];exact r⟩
theorem TM(u:h.Wf)(t:h.AL k v ks)(F:h.AL k' w ks')(V:∀x∈ks,∀y∈x.l,y<256)(W:∀x∈ks',∀y∈x.l,y<256)(hl:ks.length<=1000):
  ∃r h',call AC (m+3) 19 [v,w] h=.ok (.bool r) h'/\h.Ext h'/\(Cg ks ks'->r=IN):=by
 have f:=t.len h;have R:=F.len h;by_cases H:ks.length=ks'.length
 case neg=>
  have z:iNe (ks.length:Int) (ks'.length:Int)=IN:=De (by omega);refine⟨IS,h,?_,.refl u,λg=>absurd g.len H⟩;rw[UF rfl,UQ];unfold bC;simp only[iN,wA,sT,sh,OF,reduceIte,Aa,f,R,AM,AK,z,lV0]
 have z:iNe (ks.length:Int) (ks'.length:Int)=IS:=CE (by rw[H]);have Z:∃e,bC (call AC (m+2)) (Ay e0 0 [v,w]) h=smS (call AC (m+2)) e h/\J 0 e=v/\J 1 e=w/\J 5 e=AI AT ((0:Nat):Int):=by
  unfold bC;simp only[iN,wA,sT,sh,OF,reduceIte,Aa,f,R,AM,AK,z];exact⟨_,rfl,by simp[AG]⟩
 obtain⟨e,S,t0,t1,t5⟩:=Z;have a0:(∃a b,A4 smL (call AC (m+2)) e h=.exit 0 a b/\h.Ext b)\/∃a b,A4 smL (call AC (m+2)) e h=.ret a b/\J 4 a=.bool IS/\h.Ext b/\¬Cg ks ks':=by
  refine Bb (I:=λi d h'=>h.Ext h'/\J 0 d=v/\J 1 d=w/\J 5 d=AI AT (i:Int)/\i<=ks.length)
   (Q:=λx=>(∃a b,x=.exit 0 a b/\h.Ext b)\/∃a b,x=.ret a b/\J 4 a=.bool IS/\h.Ext b/\¬Cg ks ks') ks.length (by omega) (λi d h' ⟨n,s,C,D,hi⟩=>?_) ⟨.refl u,t0,t1,t5,wl _⟩
  have W':=n.wf;have f:=t.len h';by_cases p:i<ks.length
  ·have o:=Ec p
   obtain⟨x,K⟩:∃x,ks[i]? =BY x:=⟨_,wE p⟩;obtain⟨y,L⟩:∃y,ks'[i]? =BY y:=⟨_,wE (by omega)⟩;obtain⟨j,a1,a2,a4,u',M,O,N,P,T,q⟩:=sL (m:=m) u t F V W n K L;by_cases A:x.c5=y.c5
   ·left
    rw[decide_eq_true A]at q;have U:=CL (i:=i) (h:=j) (by omega);have B:∃a,smL (call AC (m+2)) d h'=.norm a j/\J 0 a=v/\J 1 a=w/\J 5 a=AI AT ((i+1:Nat):Int):=by
     unfold smL;simp only[sT,sh,OF,reduceIte,Aa,s,f,AM,AK,D,o,Ar,A1,M,Ai,O,C,N,P,q,BO,BN,xK,BL,U];exact⟨_,rfl,by simp[AG,s,C]⟩
    obtain⟨a,c,l,r3,r4⟩:=B;exact⟨p,a,j,c,n.trans T,l,r3,r4,p⟩
   ·right
    rw[decide_eq_false A]at q;have B:∃a,smL (call AC (m+2)) d h'=.ret a j/\J 4 a=.bool IS:=by
     unfold smL;simp only[sT,sh,OF,reduceIte,Aa,s,f,AM,AK,D,o,Ar,A1,M,Ai,O,C,N,P,q,BO,BN,xP];exact⟨_,rfl,by simp[AG]⟩
    obtain⟨a,c,l⟩:=B;rw[c];refine⟨rfl,.inr ⟨a,j,rfl,l,n.trans T,λg=>A ?_⟩⟩;have G:=congrArg (λY=>Y[i]?) g.c5;simp only[xc,L,K,Option.map_some]at G;exact Option.some.inj G
  ·right
   have o:=DC (show ks.length<=i by omega);obtain⟨a,c⟩:∃a,smL (call AC (m+2)) d h'=.exit 0 a h':=by
    unfold smL;simp only[sT,sh,OF,reduceIte,Aa,s,f,AM,AK,D,o];exact⟨_,rfl⟩
   rw[c];exact⟨rfl,.inl ⟨a,h',rfl,n⟩⟩
 rcases a0 with ⟨a,b,c,E⟩|⟨a,b,c,l,E,X⟩
 ·refine⟨IN,b,?_,E,λ_=>rfl⟩
  rw[UF rfl,UQ,S,et];simp only[BC,Aw,c,A6,BA];unfold smE;simp only[sT,sh,OF,reduceIte,lV0]
 ·refine⟨IS,b,?_,E,λg=>absurd g X⟩
  rw[UF rfl,UQ,S,et];simp only[BC,Aw,c,B7,Ce,lV0,l]
end
theorem rJ:kjV=rK:=rfl
theorem rH:kjT=rI:=rfl
section
variable {F:AES}{e:Env}{h h' h0 hS g:Hp}{X:Nat->Prop}{A:At}{T M:List Nat}{m k kk nb r:Nat}{AEl a b c kd:Int}{B ks:List Kt}{fr l:List Nat}{v kv:vz}{x y:Ak}{xs:List Ak}{p q:Nst}{ov:Bool}{bs:List Bool}
theorem AGK.ext(e:AGK X h A T B fr kd a b c l ov)(d:h.Wf)(x:h.Ext h'):AGK X h' A T B fr kd a b c l ov:=
 e.imp (λq=>⟨q.1,q.2.ext d x⟩) λ⟨q,M,f,i,g⟩=>⟨q,M,f,i.ext d x,g⟩
theorem AGK.kq(d:AGK X h A T B fr kd a b c l ov)(p:Kq h h'):AGK X h' A T B fr kd a b c l ov:=
 d.imp (λq=>⟨q.1,q.2.kq p⟩) λ⟨q,M,e,f,g⟩=>⟨q,M,e,f.kq p,g⟩
theorem AGK.tab(f:AGK X h A T B fr kd a b c l ov):h.Row A.tb 0 (T.map wv)/\AFD T:=by
 rcases f with ⟨_,d⟩|⟨_,_,_,e,_⟩
 ·exact⟨d.tab.1,d.tab.2.1⟩
 ·exact⟨e.tab,e.tok⟩
theorem AGK.lt(e:AGK X h A T B fr kd a b c l ov)(d:h.Wf):∀b,A.D b->b<h.next:=by
 rcases e with ⟨_,f⟩|⟨_,_,_,g,_⟩
 ·exact f.lt d
 ·exact kpD.lt (X:=X) g d
theorem cd(C:Mcx h0 hS A nb r kk)(Q:AIv h0 hS A T nb r v xs y B fr AEl ov h)(s7:J 7 e=pt A.tb)(s11:J 11 e=v)(s12:J 12 e=pt r)(s13:J 13 e=.bool ov):
  ∃l h' g t k s d i,kjT (call AC (m+13)) e h=kjV (call AC (m+13)) l h'/\h0.Ext h'/\(∀j,j=2\/j=7\/j=8\/j=12\/j=13->J j l=J j e)/\J 18 l=g/\J 19 l=.bool IN/\J 20 l=t/\J 21 l=.bool IN/\h'.AL k g d/\h'.AL s t i/\Cg d B/\Cg i (if ov=IN then(nxt B fr (kdO y.op) y.a y.b y.c (lO y.op y.l)).1 else B)/\
   ((∀x∈d,∀y∈x.l,y<256)/\d.length<=8)/\((∀x∈i,∀y∈x.l,y<256)/\i.length<=8)/\AGK (λb=>b=nb\/b=r) h' A T B fr (kdO y.op) y.a y.b y.c (lO y.op y.l) ov/\h'.Row r 0 y.cells/\∀b,A.D b->b<k/\b<s:=by
 have N:=C.ext Q.f;have o:=N.wf;have a8:=Q.f.next;have a6:=C.x0.next;obtain⟨Rt,Y⟩:=Q.en.tab;have a2:∀x∈xs,AF2 h0 x/\x.l.length<=1000:=λx Z=>⟨(Q.ok x Z).1,by have:=(Q.ok x Z).2;omega⟩
 have b4:=Q.len;obtain⟨f,k,g,d,U,n,n1,V1,q1,E,L⟩:=OR (m:=m) C.W0 N Rt Y Q.kl a2 (by omega);have D:=n.wf;have b0:=N.trans n;have R:=Q.Ry.ext o n;have a1:loadN 7 ⟨r,0,none⟩ f=.ok y.val f:=(B3 (show f.Row r 0 (CW y.lf y.sq y.op y.a y.b y.c y.u)from R)).2.2.2.2.2.2.2;have sl:=λ(F:AES) (e:Env) (he:J 78 e=y.val)=>Mn (F:=F) D he
 have a0:=Q.kl.ext o n;obtain⟨G,v2,V,O,a9,X⟩:=a0.app (x:=y) C.W0 b0 a6 (Nat.le_trans a8 n.next) (by omega) Q.oy.1.2.2.1;have kq:=Kq.of D a0 X;have p:=O.wf;have hv:∀b,AEu v b->b<h.next:=λb ⟨_,_,_,a⟩=>by
  rcases Q.kl with ⟨f,_⟩|⟨b',f,G,_⟩
  ·rw[f]at a;cases a
  ·rw[f]at a
   injection a with a
   injection a with a
   injection a with a
   rw[<- a];exact G.lt o
 have a5:=V1.fx D X λb a=>by have:=hv b a;omega
 have E1:=Q.en.ext o n;have z:=E1.kq kq;obtain⟨a4,_⟩:=z.tab;have S:=kq.row _ _ _ (by omega) R;obtain⟨H,s,t,i,W,u,n3,V3,q3,b3,l3⟩:=OR (m:=m) C.W0 O a4 Y a9 (λb2 q=>by
  rcases wd.1 q with q|q
  ·exact a2 b2 q
  ·rw[wP.1 q]
   exact⟨Q.oy.1,by have:=Q.oy.2;omega⟩) (by rw[wD];show xs.length+1<=100;omega)
 have K:∀b,A.D b->b<k/\b<s:=λb a=>by
  have f:=Q.en.lt o b a;have G:=z.lt p b a;omega
 have M:Cg d B:=q1.trans Q.al.2.1.symm;have p3:ov=IN->Cg i (nxt B fr (kdO y.op) y.a y.b y.c (lO y.op y.l)).1:=λho=>by
  obtain⟨⟨hr,a7⟩,h4,h5⟩:=Q.la ho;have c:=Ux (x:=y) Q.al (Q.al.2.1.symm.key Q.iv.key);rw[<- Iy]at c;have e2:(nxK ⟨AEl,B,fr⟩ y).ks=(nxt B fr (kdO y.op) y.a y.b y.c (lO y.op y.l)).1:=by
   unfold nxK;rw[IT ⟨hr,a7⟩,dK];show(nxt B fr (kdR y.op) y.a y.b y.c y.l).1=_;rw[show kdR y.op=kdO y.op from If (by omega)]
  exact q3.trans (e2 ▸ c.2.1.symm)
 have P:=z.ext p u;have w:=a5.ext p u;obtain⟨c,r1,t18,t19,t20,t21,tj⟩:∃c,kjT (call AC (m+13)) e h=kjV (call AC (m+13)) c H/\J 18 c=g/\J 19 c=.bool IN/\J 20 c=(if ov=IN then t else g)/\J 21 c=.bool IN/\∀j,j=2\/j=7\/j=8\/j=12\/j=13->J j c=J j e:=by
  rw[rH];unfold rI;cases ov with
  |true=>
   simp only[sT,sh,OF,reduceIte,gD,cA0,s7,s11,U,Az,A8,A9,Ai,Ac,s12,a1,sl,BD,V,W,BO,BN,s13,xK];refine⟨_,rfl,by simp[AG],by simp[AG],by simp[AG],by simp[AG],λj I=>?_⟩;rcases I with rfl|rfl|rfl|rfl|rfl<;>simp only[AG,sh,OF,reduceIte]
  |false=>
   simp only[sT,sh,OF,reduceIte,gD,cA0,s7,s11,U,Az,A8,A9,Ai,Ac,s12,a1,sl,BD,V,W,BO,BN,s13,xP];refine⟨_,rfl,by simp[AG],by simp[AG],by simp[AG],by simp[AG],λj I=>?_⟩;rcases I with rfl|rfl|rfl|rfl|rfl<;>simp only[AG,sh,OF,reduceIte]
 have a3:=O.trans u;cases ov with
 |true=>exact⟨c,H,g,t,k,s,d,i,r1,a3,tj,t18,t19,t20,t21,w,V3,M,p3 rfl,⟨E,L⟩,⟨b3,l3⟩,P,S.ext p u,K⟩
 |false=>exact⟨c,H,g,g,k,k,d,d,r1,a3,tj,t18,t19,t20,t21,w,w,M,M,⟨E,L⟩,⟨E,L⟩,P,S.ext p u,λb a=>⟨(K b a).1,(K b a).1⟩⟩
theorem tO(h:1<=r/\r<=6/\r≠4/\r≠5):kdO r=8↔r=6:=by
 unfold kdO;split
 ·omega
 ·split
  ·omega
  ·split<;>omega
theorem rL{k18 k20:Nat}{v18 v20:vz}{AF8 AGG:List Kt}(C:Mcx h0 hS A nb r kk)(x0:h0.Ext h)(E:AGK (λb=>b=nb\/b=r) h A T B fr (kdO y.op) y.a y.b y.c (lO y.op y.l) ov)(iv:AFE 8 B fr)(hc:Com B)(ha:B.Pairwise LtK)(la:ov=IN->rgt y=IN/\(y.op≠4/\y.op≠5))(Kb:KB h0 kv bs)
  (V18:h.AL k18 v18 AF8)(V20:h.AL k20 v20 AGG)(g18:Cg AF8 B)(g20:Cg AGG (if ov=IN then(nxt B fr (kdO y.op) y.a y.b y.c (lO y.op y.l)).1 else B))(b18:(∀x∈AF8,∀y∈x.l,y<256)/\AF8.length<=8)(b20:(∀x∈AGG,∀y∈x.l,y<256)/\AGG.length<=8)(Ry:h.Row r 0 y.cells)(hlt:∀b,A.D b->b<k18/\b<k20)
  (s2:J 2 e=kv)(s7:J 7 e=pt A.tb)(s8:J 8 e=pt A.bd)(s12:J 12 e=pt r)(s13:J 13 e=.bool ov)(s18:J 18 e=v18)(s19:J 19 e=.bool IN)(s20:J 20 e=v20)(s21:J 21 e=.bool IN):
  ∃e' h',kjV (call AC (m+13)) e h=.ret e' h'/\J 6 e'=.bool IN/\h0.Ext h':=by
 have W:=x0.wf;have hnb:=C.nb0;obtain⟨h1,h2,bs2,nb2,ks,M2,c2,ALG,fr3,lv,fv,k1,k2,f,sl,hl,Rn2,told⟩:=Yb (m:=m+4) C.W0 x0 (λb hb=>(C.hD b hb).1) C.n24 Kb iv hc ha E;have k1:call AC (m+13) 14 [pt A.bd,kv] h=.ok AEU h1:=k1;have k2:call AC (m+13) 15 [pt A.bd,pt A.tb,AI AT 100] h1=.ok (.tuple ⟨[pt nb2,AI AT 0]⟩) h2:=k2;have W2:=f.wf;have k3:call AC (m+13) 16 [pt nb2] h2=.ok (AI AT 0) h2:=jK (m:=m+12) Rn2;obtain⟨h3,v3,k4,x3,V3⟩:=Xd (m:=m+8) (A:=⟨bs2,A.bd,A.bm,A.bc,A.tb,A.n⟩) W2 Rn2 sl;have k4:call AC (m+13) 17 [pt nb2] h2=.ok v3 h3:=k4;have W3:=x3.wf;have fD:∀b,(b=A.bd\/b=A.bm\/b=A.bc)->A.D b:=λb hb=>.inr hb
 have AJl:=(V18.fx W f λb hb=>(hlt b (fD b hb)).1).ext W2 x3;have AJm:=(V20.fx W f λb hb=>(hlt b (fD b hb)).2).ext W2 x3;have R3:=(f.row W Ry λhb=>by have:=(C.hD _ (fD _ hb)).2;omega).ext W2 x3;have x03:h0.Ext h3:=(Fx.xtF x0 f λb hb=>(C.hD b (fD b hb)).1).trans x3;have b3:∀x∈ks,∀y∈x.l,y<256:=λx hx=>(sl.ko x hx).2.1
 have c0:iNe 0 0=IS:=CE rfl;obtain⟨e1,p1,t6,t12,t13,t18,t20,t22⟩:∃e1,kjV (call AC (m+13)) e h=kjW (call AC (m+13)) e1 h2/\True/\J 12 e1=pt r/\J 13 e1=.bool ov/\J 18 e1=v18/\J 20 e1=v20/\J 22 e1=pt nb2:=by
  rw[rJ];unfold rK;simp only[sT,sh,OF,reduceIte,gD,cA0,s8,s2,k1,s7,Gw,k2,Az,A8,A9,BO,BN,s19,s21,xK,AM,AK,c0,k3];exact⟨_,rfl,No,by simp[AG,s12,s13,s18,s20]⟩
 have aw:=λg=>UL (bs:=AC) (n:=m+12) (f:=18) Z4 (h:=g)
 obtain⟨_,_,lop,_⟩:=B3 (show h3.Row r 0 (CW y.lf y.sq y.op y.a y.b y.c y.u)from R3);have same:(ov=IN->y.op≠6)->∃r1 h4 r2 h5,call AC (m+13) 19 [v3,v18] h3=.ok (.bool r1) h4/\call AC (m+13) 19 [v3,v20] h4=.ok (.bool r2) h5/\(r1=IN\/r2=IN)/\h3.Ext h4/\h4.Ext h5:=λh6=>by
  obtain⟨r1,h4,q1,x4,w1⟩:=TM (m:=m+10) W3 V3 AJl b3 b18.1 (by omega);obtain⟨r2,h5,q2,x5,w2⟩:=TM (m:=m+10) x4.wf (V3.ext W3 x4) (AJm.ext W3 x4) b3 b20.1 (by omega);refine⟨r1,h4,r2,h5,q1,q2,?_,x4,x5⟩;rcases told with ⟨_,t⟩|⟨ho,h8,t|t⟩|⟨ho,h8,_⟩
  ·exact .inl (w1 (t.trans g18.symm))
  ·exact .inl (w1 (t.trans g18.symm))
  ·rw[IT ho]at g20
   exact .inr (w2 (t.trans g20.symm))
  ·obtain⟨hr,h4',h5'⟩:=la ho
   obtain⟨o1,o6,_⟩:=Lg (show Es y.lf y.sq y.op y.a y.b y.c y.l.length=IN from hr);exact absurd ((tO ⟨o1,o6,h4',h5'⟩).1 h8) (h6 ho)
 have fin:(ov=IN->y.op≠6)->∀(pk:Bool),(ov=IS/\pk=IS\/ov=IN/\pk=IS)->∃e' h',kjW (call AC (m+13)) e1 h2=.ret e' h'/\J 6 e'=.bool IN/\h0.Ext h':=λh6 pk hpk=>by
  obtain⟨r1,h4,r2,h5,q1,q2,hr,x4,x5⟩:=same h6;have x04:=x03.trans x4;have x05:=x04.trans x5;have c6:ov=IN->iEq (y.op:Int) 6=IS:=λho=>B8 (by have:=h6 ho;omega)
  cases ov with
  |false=>
   cases r1 with
   |true=>
    obtain⟨e',q1,q2⟩:∃e',kjW (call AC (m+13)) e1 h2=.ret e' h4/\J 6 e'=.bool IN:=by
     unfold kjW;simp only[sT,sh,OF,reduceIte,gD,cA0,t22,k4,t13,t18,q1,aw];exact⟨_,rfl,by simp[AG]⟩
    exact⟨e',h4,q1,q2,x04⟩
   |false=>
    obtain rfl:r2=IN:=by rcases hr with h|h;cases h;exact h
    obtain⟨e',q1,q2⟩:∃e',kjW (call AC (m+13)) e1 h2=.ret e' h5/\J 6 e'=.bool IN:=by
     unfold kjW;simp only[sT,sh,OF,reduceIte,gD,cA0,t22,k4,t13,t18,q1,t20,q2,aw];exact⟨_,rfl,by simp[AG]⟩
    exact⟨e',h5,q1,q2,x05⟩
  |true=>
   have c6:=c6 rfl;cases r1 with
   |true=>
    obtain⟨e',q1,q2⟩:∃e',kjW (call AC (m+13)) e1 h2=.ret e' h4/\J 6 e'=.bool IN:=by
     unfold kjW;simp only[sT,sh,OF,reduceIte,gD,cA0,t22,k4,t13,t12,AH,AN,wC,AJ,AP,lop,AM,AK,c6,t18,q1,aw];exact⟨_,rfl,by simp[AG]⟩
    exact⟨e',h4,q1,q2,x04⟩
   |false=>
    obtain rfl:r2=IN:=by rcases hr with h|h;cases h;exact h
    obtain⟨e',q1,q2⟩:∃e',kjW (call AC (m+13)) e1 h2=.ret e' h5/\J 6 e'=.bool IN:=by
     unfold kjW;simp only[sT,sh,OF,reduceIte,gD,cA0,t22,k4,t13,t12,AH,AN,wC,AJ,AP,lop,AM,AK,c6,t18,q1,t20,q2,aw];exact⟨_,rfl,by simp[AG]⟩
    exact⟨e',h5,q1,q2,x05⟩
 rw[p1];cases hov:ov with
 |false=>exact fin (λh=>by rw[hov]at h;cases h) IS (.inl ⟨hov,rfl⟩)
 |true=>
  by_cases h6:y.op=6
  ·subst hov
   have c6:iEq (y.op:Int) 6=IN:=CZ (by omega);obtain⟨P,hP,t⟩:∃P:Kt->Bool,(∀k∈B,P k=IN->drB y.a y.b y.c k=IN)/\Cg ks (B.filter λk=> !P k):=by
    have h8:kdO y.op=8:=by rw[h6];rfl
    rcases told with ⟨ho,_⟩|⟨_,hn,_⟩|⟨_,_,q⟩
    ·cases ho
    ·exact absurd h8 hn
    ·exact q
   rw[IT rfl,show kdO y.op=8 by rw[h6];rfl,IP]at g20;have l3:=V3.len h3;have l18:=AJl.len h3;have l20:=AJm.len h3;have e18:=g18.len;have e20:AGG.length=(B.filter λk=> !drB y.a y.b y.c k).length:=g20.len;have e3:=t.len;have n1:(B.filter λk=> !P k).length<=B.length:=List.length_filter_le _ _;have n2:(B.filter λk=> !drB y.a y.b y.c k).length<=(B.filter λk=> !P k).length:=by
    rw[<- ABa,<- ABa];refine List.countP_mono_left λk hk h=>?_
    cases hp:P k
    ·rfl
    ·rw[hP k hk hp]at h;cases h
   have c1:iGe (ks.length:Int) (AGG.length:Int)=IN:=F0 (by omega);have c2:iLe (ks.length:Int) (AF8.length:Int)=IN:=Hn (by omega);obtain⟨e',q1,q2⟩:∃e',kjW (call AC (m+13)) e1 h2=.ret e' h3/\J 6 e'=.bool IN:=by
    unfold kjW;simp only[sT,sh,OF,reduceIte,gD,cA0,t22,k4,t13,t12,AH,AN,wC,AJ,AP,lop,AM,AK,c6,Aa,l3,t20,l20,c1,t18,l18,c2,aw];exact⟨_,rfl,by simp[AG]⟩
   exact⟨e',h3,q1,q2,x03⟩
  ·exact fin (λ_=>h6) IS (.inr ⟨hov,rfl⟩)
end
theorem rQ:mlS=BJ (Ab 0 (A4 mlL)) kjT:=rfl
theorem tF:d3=d3h:=rfl
def ak0:Ak:=⟨0,0,0,0,0,0,AEW,[]⟩
section
variable {F:AES}{e:Env}{h h' h0:Hp}{m n arm:Nat}{v kv:vz}{bs:List Bool}
theorem ug(g:Hp):VJ .u8 (.int .u8 (arm:Int)) (.int .u8 60) g=.ok (.int .u8 ((arm % 60:Nat):Int)) g:=ru (k:=60) (by omega)
theorem cV(c:h.Wf)(O:AIj h v n 25)(Kb:KB h kv bs):∃h',call AC (m+14) 3 [v,.int .u8 (arm:Int),kv] h=.ok (.bool IN) h'/\h.Ext h':=by
 have Z:call AC (m+13) 5 [] h=.ok (.agg ⟨N4⟩) h:=YY (n:=m+12) fL;obtain⟨Q,b3,V⟩:=lD;rw[b3]at Z;have X:lI.zero.length=256:=by kernel_rfl
 have T:=λ(F:AES) (e:Env)=>BU (F:=F) (e:=e) (n:=256) (t:=Qp) c
 have y2:=(Hp.Ext.refl c).push (.cells Qp 256 0);have N:(h.push (.cells Qp 256 0)).Row h.next 0 lI.zero:=Hp.Row.alloc c lW X;generalize h.push (.cells Qp 256 0)=h2 at T y2 N;obtain⟨st,w,x⟩:=rt c y2 (wB _) N X V.1;generalize h2.wr h.next 0 (Q.map wv)=h3 at st w x;have R:=w.wf;have d3:=x.lt R;have c9:=c.big;obtain⟨r,D,f,B,A,nb,E,x4,U4,P,b2,d1⟩:=Nl (m:=m+3) R x V;have E:call AC (m+13) 6 [pt h.next] h3=.ok (.tuple ⟨[pt f,pt nb,.bool IN]⟩) r:=E;have a2:=w.trans x4;have y:=a2.wf;have n3:=w.next;have d2:=P.lt y;obtain⟨⟨a5,c0,_,lv,fv,s4,iv,md,hc,_⟩,_⟩:=U4;have cv:Ds .i64 (.int .u8 ((arm % 60:Nat):Int)) r=.ok (AI AT ((arm % 60:Nat):Int)) r:=by rw[Cz,Bl (by omega)]
 obtain⟨b,G,q,s5⟩:=mP (m:=m+11) y s4 (z:=((arm % 60:Nat):Int)) (by omega);have G:call AC (m+13) 7 [pt f,AI AT ((arm % 60:Nat):Int)] r=.ok AEU b:=G;have k:=q.wf;have s:∀d,At.D ⟨D,f,B,A,h.next,24⟩ d->h.next<=d/\d<nb:=λd l=>by have:=b2 d l;omega
 have d0:=s f (.inr (.inl rfl));have c3:=Fx.xtF a2 q λd l=>(s d (.inr l)).1
 have a6:=q.row y P (λl=>by
  have:=(s nb (.inr l)).2;omega)
 have n5:=q.next;have al6:=λ(F:AES) (e:Env)=>BU (F:=F) (e:=e) k (n:=7) (t:=ON)
 have M:=Hp.Row.alloc k Qr (show ak0.cells.length=7 from rfl);have K:b.Ext (b.push (.cells ON 7 0)):=(Hp.Ext.refl k).push _;have n6:(b.push (.cells ON 7 0)).next=b.next+1:=rfl;generalize b.push (.cells ON 7 0)=U at al6 M K n6;have I:=c3.trans K;have S:=I.wf;obtain⟨i,v7,zs,H,u,L,b4,b6⟩:=qY (m:=m+12) (h0:=h) S I c O;have H:call AC (m+13) 8 [v] U=.ok v7 i:=H;have a3:=I.trans u;have W7:=a3.wf;have ln:=L.len i;have a4:=K.trans u;have C:Mcx h i ⟨D,f,B,A,h.next,24⟩ nb b.next U.next:=⟨c,a3,rfl,s,⟨by omega,by omega⟩,by omega,u.next,by show h.next<nb;omega⟩;have s0:Mst h i ⟨D,f,B,A,h.next,24⟩ Q nb b.next AEW [] ak0 [] [0,1,2,3,4,5,6,7] 0 i:=⟨.refl W7,⟨⟨a5,c0,_,lv,fv,s5.ext k a4,iv,md,hc,⟨by omega,by omega⟩,λh=>by cases h⟩,λa1 o=>by cases o⟩,a6.ext k a4,⟨rfl,rfl,rfl⟩,.inl ⟨rfl,rfl⟩,λa1 o=>(by cases o),M.ext S u,⟨.inl (.inl ⟨rfl,rfl⟩),λa1 o=>(by cases o),rfl,by show 0<256;omega⟩,wl _⟩;obtain⟨a,p1,t2,t7,t8,t9,t11,t12,t13,t39,t40,t41⟩:∃a,d3h (call AC (m+13)) (Ay e0 0 [v,.int .u8 (arm:Int),kv]) h=mlS (call AC (m+13)) a i/\J 2 a=kv/\J 7 a=pt h.next/\J 8 a=pt f/\J 9 a=pt nb/\J 11 a=AEW/\J 12 a=pt b.next/\J 13 a=.bool IS/\J 39 a=v7/\J 40 a=AI AT (zs.length:Int)/\J 41 a=AI AT ((0:Nat):Int):=by
  unfold d3h;simp only[iN,wA,sT,sh,OF,reduceIte,cA0,Z,T,AV,st,E,Az,A8,A9,Cm,BO,BN,xK,MW,Gw,ug,CU,cv,G,al6,H,Aa,ln];exact⟨_,rfl,by simp[AG]⟩
 obtain⟨e2,h8,v8,xs,d8,c8,fr,c5,ov,r2,j2,b7,a0,g⟩:=jP (m:=m) C s0 L b4 b6 t8 t9 t11 t12 t13 t39 t40 t41;have j:=λY (hj:mq Y)=>j2 Y hj
 obtain⟨e3,h9,d6,d7,d4,d5,c6,c7,r3,x9,p,b8,b9,c1,c2,a8,a9,g18,g20,b18,b0,E9,a7,b5⟩:=cd (m:=m) C g ((j 7 (by unfold mq;omega)).trans t7) b7 ((j 12 (by unfold mq;omega)).trans t12) a0;obtain⟨e4,b1,r4,w6,c4⟩:=rL (m:=m) C x9 E9 g.iv g.com g.asc (λW=>⟨(g.la W).1.1,(g.la W).2⟩) Kb a8 a9 g18 g20 b18 b0 a7 b5 ((p 2 (by omega)).trans ((j 2 (by unfold mq;omega)).trans t2)) ((p 7 (by omega)).trans ((j 7 (by unfold mq;omega)).trans t7)) ((p 8 (by omega)).trans ((j 8 (by unfold mq;omega)).trans t8)) ((p 12 (by omega)).trans ((j 12 (by unfold mq;omega)).trans t12)) ((p 13 (by omega)).trans a0) b8 b9 c1 c2;refine⟨b1,?_,c4⟩;rw[tA rfl,tF,p1,rQ];simp only[BC,Aw,r2,A6,BA,r3,r4];rw[A7,NB,w6]
end
end
end Go.Proofs.YtldjiljipddebaaGreat
namespace Go.Proofs.YtldjiljipddebaaGreat.nodeKeeps
set_option maxRecDepth 100000
noncomputable section
open Go Go.ChangeShapes Go.WideShapes Go.ChangeAt Go.RowKit
set_option linter.unusedVariables false
theorem own:ownKnob wL.godebug=none:=by kernel_rfl
theorem QF:laidOutB wL=IN:=by kernel_rfl
theorem pA:wL.cellsOf 5=1:=by kernel_rfl
theorem gm:wL.cellsOf 37=7:=by kernel_rfl
theorem slc{H:Type}{enc:TypeId×vz->H}{P:Program}{a:World}{base t e:Nat}{v:vz}{x:DataW H}{p:List ACi}(c:P.underlying t=BY (.slice e))(h:yc P a .any base t v)(g:ACj enc P a 0 (λ_=>IN) IN t v x p):
  ∃b,ym enc P a 0 (λ_=>IN) IN b t [v]=BY (x,p):=by
 have d:AB8 P a .any base t v:=by
  unfold yc at h;rw[c]at h;exact h
 obtain⟨b,f⟩:=g;refine⟨b,?_⟩;rcases VN c d with rfl|⟨i,k,j,rfl,_⟩<;>exact f
section
variable {H:Type}{enc:TypeId×vz->H}{w:World}
theorem vS(m:Nat)(l:List vz)(y:DataW H×List ACi)(d:l.length=1)(h:ym enc wL w 0 (λ_=>IN) IN m 5 l=BY y)(_:∀b off,zh b off∈y.2->w.frozen? ⟨b,off,none⟩=IS):QB l:=by
 obtain⟨a,e0,_,c⟩:=zO AAd h;have:=bounds_u8 c;subst e0;exact⟨a.toNat,by
  show [xd .u8 a]=[xd .u8 ((a.toNat:Nat):Int)];rw[AAU this.1],by omega⟩
theorem Ut{n:Nat}{l:List vz}(h:l.length=n+1):∃a l',l=a::l'/\l'.length=n:=by
 cases l with
 |nil=>cases h
 |cons a l'=>exact⟨a,l',rfl,Nat.succ.inj h⟩
theorem vV{l:List vz}(h:l.length=7):∃c0 a b c d c5 e,l=[c0,a,b,c,d,c5,e]:=by
 obtain⟨c0,o,rfl,f⟩:=Ut h;obtain⟨a,p,rfl,g⟩:=Ut f;obtain⟨b,q,rfl,i⟩:=Ut g;obtain⟨c,r,rfl,j⟩:=Ut i;obtain⟨d,s,rfl,k⟩:=Ut j;obtain⟨c5,t,rfl,m⟩:=Ut k;obtain⟨e,u,rfl,n⟩:=Ut m;obtain rfl:=List.eq_nil_of_length_eq_zero n;exact⟨c0,a,b,c,d,c5,e,rfl⟩
theorem vR(m:Nat)(l:List vz)(y:DataW H×List ACi)(F:l.length=7)(h:ym enc wL w 0 (λ_=>IN) IN m 37 l=BY y)(E:∀b off,zh b off∈y.2->w.frozen? ⟨b,off,none⟩=IS):∃x:AD,l=x.cells/\Zo w x:=by
 obtain⟨p,q,r,s,t,c5,f,rfl⟩:=vV F;obtain⟨a,d,_,rfl,_,o,c⟩:=DataW.trod_struct Tryz.underlying37 h;have o:a.length=7:=o;have g0:=c 0 _ rfl;have g1:=c 1 _ rfl;have g2:=c 2 _ rfl;have g3:=c 3 _ rfl;have g4:=c 4 _ rfl;have g5:=c 5 _ rfl;have g6:=c 6 _ rfl;have g0:ym enc wL w 0 (λ_=>IN) IN d 3 [p]=BY (a[0]'(by omega)):=g0.trans (wE _);have g1:ym enc wL w 0 (λ_=>IN) IN d 3 [q]=BY (a[1]'(by omega)):=g1.trans (wE _);have g2:ym enc wL w 0 (λ_=>IN) IN d 34 [r]=BY (a[2]'(by omega)):=g2.trans (wE _);have g3:ym enc wL w 0 (λ_=>IN) IN d 3 [s]=BY (a[3]'(by omega)):=g3.trans (wE _);have g4:ym enc wL w 0 (λ_=>IN) IN d 3 [t]=BY (a[4]'(by omega)):=g4.trans (wE _);have g5:ym enc wL w 0 (λ_=>IN) IN d 3 [c5]=BY (a[5]'(by omega)):=g5.trans (wE _);have g6:ym enc wL w 0 (λ_=>IN) IN d 35 [f]=BY (a[6]'(by omega)):=g6.trans (wE _);obtain⟨g,e0,_⟩:=zO yd g0;obtain⟨i,u,_⟩:=zO yd g1;obtain⟨e,z,_,I⟩:=zO Tryz.underlying34 g2;obtain⟨j,A,_⟩:=zO yd g3;obtain⟨k,B,_⟩:=zO yd g4;obtain⟨n,C,_⟩:=zO yd g5;have D:=Qc Tryz.underlying35 pA (by omega) (Q:=QB) vS g6 (λb off G=>E b off (List.mem_flatMap.2 ⟨_,List.getElem_mem (by omega),G⟩));have b8:=bounds_u8 I;cases e0;cases u;cases z;cases A;cases B;cases C;refine⟨⟨g,i,e.toNat,j,k,n,f⟩,?_,D,by show e.toNat<256;omega⟩;show [xd .i64 g,xd .i64 i,xd .u8 e,xd .i64 j,xd .i64 k,xd .i64 n,f]=[xd .i64 g,xd .i64 i,xd .u8 ((e.toNat:Nat):Int),xd .i64 j,xd .i64 k,xd .i64 n,f];rw[AAU b8.1]
theorem sN{base:Nat}{v:vz}(h:yc wL w .any base 5 v):∃n:Nat,v=.int .u8 (n:Int)/\n<256:=by
 unfold yc at h;rw[AAd]at h;have h:AB8 wL w .any base 5 v:=h;unfold AB8 at h;rw[AAd]at h;have h:Cell.ok wL w .any base 5 v:=by cases v<;>exact h
 unfold Cell.ok at h;rw[AAd]at h;split at h<;>first|(exact h.elim;done)|skip
 all_goals (rename_i n b _;cases b)
 obtain⟨f,_,_⟩:=h;rename_i d a _ _;subst d;have c:(0:Int)<=_:=a.1;have g:_<=(255:Int):=a.2;obtain⟨e,rfl⟩:=Int.eq_ofNat_of_zero_le c;exact⟨e,rfl,by omega⟩
def QO(l:List vz):Prop:=∃a:Bool,l=[.bool a]
theorem mH{l:List vz}(h:QO l)(φ:Phi):AEp φ l l:=by
 obtain⟨a,rfl⟩:=h;exact .cons (.bool _) .nil
theorem vT(m:Nat)(l:List vz)(y:DataW H×List ACi)(c:l.length=1)(h:ym enc wL w 0 (λ_=>IN) IN m 4 l=BY y)(_:∀b off,zh b off∈y.2->w.frozen? ⟨b,off,none⟩=IS):QO l:=by
 obtain⟨a,e0,_⟩:=DataW.trod_bool AAo h;exact⟨a,e0⟩
theorem Oy:∀{a:List (List vz)},(∀l∈a,QO l)->∃xs:List Bool,a.flatten=xs.map Value.bool/\xs.length=a.length
 |[],_=>⟨[],rfl,rfl⟩
 |l::a,b=>by
  obtain⟨f,rfl⟩:=b l wJ;obtain⟨xs,c,d⟩:=Oy λl e=>b l (wI _ e)
  exact⟨f::xs,by rw[List.flatten_cons,c];rfl,by rw[wK,wK,d]⟩
theorem cr{s:World}{v:vz}{n:Nat}{a:List (List vz)}(b:JN s QO 1 v n a):∃bs:List Bool,∀(i:Nat) (u:vz),((u=AEW/\a=[])\/(u=.chan (BY 0)/\a=[])\/u=.slice (BY ⟨i,0,none⟩) n a.length)->∀h:Hp,h.Wf->h.Row i 0 a.flatten->KB h u bs:=by
 obtain⟨w,m,_⟩:=b;obtain⟨e,l,D⟩:=Oy λB g=>(w B g).2
 have q:(e.take n).length=n:=by rw[List.length_take];omega
 refine⟨e.take n,λi u A h t z=>?_⟩;rcases A with ⟨rfl,j⟩|⟨rfl,j⟩|rfl
 ·subst j
  obtain rfl:n=0:=by simpa using m
  exact⟨λd=>rfl,λi b f=>by cases f⟩
 ·subst j
  obtain rfl:n=0:=by simpa using m
  exact⟨λd=>rfl,λi b f=>by cases f⟩
 ·refine⟨λd=>by rw[q];rfl,λr b x d C=>?_⟩
  obtain⟨p,o⟩:=List.getElem?_eq_some_iff.1 x;rw[q]at p;have y:r<e.length:=by omega
  refine⟨⟨i,0+r*1,none⟩,DB (h:=d) (n:=n) (c:=a.length) (es:=1) (b:=i) (off:=0) (k:=.i64) p,?_⟩;have g:a.flatten.length=e.length:=by rw[l,List.length_map]
  rw[List.getElem_take]at o;rw[(z.ext t C).AEV (by rw[g];omega),l,List.getD_eq_getElem?_getD,xc,wC,Nat.mul_one,wE y,o];rfl
end
theorem oz:wL.cellsOf 4=1:=by kernel_rfl
theorem sQ{H:Type}{enc:TypeId×vz->H}(o z k:vz)(w:World){base:Nat}{F G:DataW H}{x y:List ACi}(S:yc wL w .any base 22 o)(V:yc wL w .any base 5 z)(hk:yc wL w .any base 23 k)
  (a0:ACj enc wL w 0 (λ_=>IN) IN 22 o F x)(J:∀b off,zh b off∈x->w.frozen? ⟨b,off,none⟩=IS)
  (Z:ACj enc wL w 0 (λ_=>IN) IN 23 k G y)(I:∀b off,zh b off∈y->w.frozen? ⟨b,off,none⟩=IS):
  Calls wL 3 #[o,z,k] w λe w'=>e=.returned (.bool IN)/\Below w.heap.size w w':=by
 obtain⟨vb,rfl,a4⟩:=sN V;obtain⟨a2,N⟩:=slc ACm S a0;obtain⟨a5,Ls,R⟩:=Qc ACm gm (by omega) (Q:=λu=>∃A:AD,u=A.cells/\Zo w A) vR N J;obtain⟨a6,j,r,g,q,l1,l2,W,X,Y⟩:=gG R 0 2 25;obtain⟨a3,P⟩:=slc ACl hk Z;obtain⟨n2,s,t⟩:=Qc ACl oz (by omega) (Q:=QO) vT P I;obtain⟨u2,l,B,C,D,E⟩:=t.rel (by omega) (λu L a1=>mH L a1) 1;obtain⟨bs,M⟩:=cr t;have d:(r::s.flatten::q).length<=256:=by simp only[wK];omega
 have p:(inH (r::s.flatten::q)).Wf:=cJ d;have O:=Y _ p (Pz d (i:=0) rfl) (λh n e=>Pz d (i:=h+2) e);have K:=M 1 u2 E _ p (Pz d (i:=1) rfl);obtain⟨h',T,U⟩:=cV (m:=50) (arm:=vb) p O K;obtain⟨g1,g2⟩:=W (Ol (j::l::g)) rfl (λh f e=>by
  show((j::l::g)[h+2]?).getD none=f;have e:(j::l::g)[h+2]? =BY f:=e;rw[e];rfl)
 refine kU aX T U rfl (.cons g2 (.cons (.int _ _) (.cons (D _ rfl) .nil))) (eU (ps:=j::l::g) d (by simp only[wK];omega) λi f n a c=>?_)
 match i,a,c with
 |0,a,c=>cases a;cases c;exact g1
 |1,a,c=>cases a;cases c;exact B.AJQ (C _)
 |i+2,a,c=>
  have a:g[i]? =BY f:=a;have c:q[i]? =BY n:=c;obtain⟨s1,s2⟩:=X i f n a c;exact s1.AJQ (s2 _)
theorem rO(os:Os)(started:os.Started)(H:Type)(enc:TypeId×vz->H):
  ReturnsInHanded {} ACJ os 3 .any (Rows.nodeKeepsSpec.pre6 enc wL ACY Rows.nodeKeepsRow.domain IS) (Rows.nodeKeepsSpec.post enc wL ACY IS IN IS IS):=by
 refine returnsInHanded_of_change (C:=ACJ) own started (by kernel_rfl) AD6
  (AEK (enc:=enc) (C:=ACJ) IS ⟨#[],#[.slice none 0 0,.int .u8 0,.slice none 0 0],[]⟩ 8 (by kernel_rfl) (by kernel_rfl) (by kernel_rfl) (by kernel_rfl)) ?_
 intro W base args ds gs before AHn hW ALH _;have hval:∀(j:Nat) t v,ACY.params[j]? =BY t->args[j]? =BY v->yc wL W .any base t v:=AHn;have hW':=hW;obtain⟨p,q,hA0,hV,rfl,hfz,hnd⟩:=hW;have hA:DataW.TrodAll enc wL W 0 (λ_=>IN) IN ACY.params.toList args.toList ds p:=hA0;rw[Tryz.params3]at hA hval;obtain⟨v0,vs0,d0,ds0,p0,q0,hargs,rfl,rfl,h0,r0⟩:=trodAll_cons hA;obtain⟨v1,vs1,d1,ds1,p1,q1,rfl,rfl,rfl,h1,r1⟩:=trodAll_cons r0;obtain⟨v2,vs2,d2,ds2,p2,q2,rfl,rfl,rfl,h2,r2⟩:=trodAll_cons r1;obtain⟨rfl,rfl,rfl⟩:=trodAll_nil r2;obtain rfl:args= #[v0,v1,v2]:=by cases args;simp_all
 obtain⟨rfl,rfl⟩:=trodVars_none hV;clear hA0 AHn;simp only[wT]at hW' hfz;have hlt:∀x∈p0++(p1++p2),x.block<W.heap.size:=λx hx=>hW'.lt x hx
 have i0:∀x∈p0,x∈p0++(p1++p2):=λx hx=>xF _ hx
 have i1:∀x∈p1,x∈p0++(p1++p2):=λx hx=>wz _ (xF _ hx)
 have i2:∀x∈p2,x∈p0++(p1++p2):=λx hx=>wz _ (wz _ hx)
 refine(sQ v0 v1 v2 W (hval 0 22 v0 rfl rfl) (hval 1 5 v1 rfl rfl) (hval 2 23 v2 rfl rfl) h0 (λb off hm=>hfz b off (i0 _ hm)) h2 (λb off hm=>hfz b off (i2 _ hm))).mono λe W' ⟨he,hb⟩=>?_
 subst he;refine⟨_,rfl,OK (pa:=p0++(p1++p2)) (pv:=[]) hW' (λ_ _ _=>(trodAll_cons_mk (shut_bool AAo _) trodAll_mk0)) (λsp hsp=>?_) (λ_ _=>rfl) (by simp) hb (ok_one (by kernel_rfl) rfl (okWide_bool_mk AAo _))⟩;have s0:=AAc QF (by kernel_rfl) (of_decide_eq_true (by kernel_rfl)) h0 (λx hx=>hb.same (hlt x (i0 x hx))) (λx hx=>hsp x (i0 x hx));have s1:=AAc QF (by kernel_rfl) (of_decide_eq_true (by kernel_rfl)) h1 (λx hx=>hb.same (hlt x (i1 x hx))) (λx hx=>hsp x (i1 x hx));have s2:=AAc QF (by kernel_rfl) (of_decide_eq_true (by kernel_rfl)) h2 (λx hx=>hb.same (hlt x (i2 x hx))) (λx hx=>hsp x (i2 x hx));have:=trodAll_cons_mk s0 (trodAll_cons_mk s1 (trodAll_cons_mk s2 (trodAll_mk0 (enc:=enc) (P:=wL) (w:=W') (base:=0) (spare:=sp) (held:=IN))));rw[wT]at this;exact this
theorem over:Rows.nodeKeepsRow.holds Tryz.pinned (OpenSpec.ofChange Rows.nodeKeepsSpec):=
 AEM 3 ACY rfl rfl rfl rfl rfl rfl rfl ⟨rfl,rfl,rfl,rfl,rfl⟩ rfl rfl rfl rfl rfl (by kernel_rfl) AD6 (by kernel_rfl)
  (of_decide_eq_true (by kernel_rfl)) (by unfold Func.isWrapper;first|(rw[IT (by decide +kernel)];kernel_rfl)|(rw[If (by decide +kernel)];exact⟨rfl,rfl⟩))
  (λos started H enc _=>rO os started H enc)
theorem proved:Rows.NodeKeepsSaid:=
 over
#print axioms proved
end
end Go.Proofs.YtldjiljipddebaaGreat.nodeKeeps
