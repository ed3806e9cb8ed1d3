/-
  'NodeTwice' of layer 11 answers true, whatever memory it is called in, whatever asks it is handed and whatever the tape answers: no condition. What the canonical machine gives is shown for any of them (YtldjiljipddebaaGreatNtl); that machine is sound for the model (YtldjiljipddebaaGreatFns).
-/
import Derived.Test.YtldjiljipddebaaGreatZG
import Derived.Test.YtldjiljipddebaaGreatRows
import Derived.ProofKit
import Derived.OpenShut
import Derived.Carry
open Bool renaming true→IN,false→IT
open Option renaming some→BY
open Go.Value renaming int→AI
open Go.IntKind renaming i64→AT
open Nat renaming reduceEqDiff→sh,reduceLT→xT,reduceAdd→xV,le_refl→xW,zero_add→xZ,zero_le→yH,le_trans→yS
open Go renaming Value→xU,MemPlace→AD3
open List renaming length_map→xa,getElem?_eq_getElem→xc,length_cons→xh,mem_of_getElem?→xy,append_nil→yF,range→zP,mem_range→AAZ,length_range→ABh
open Go.Proofs.Tryz renaming prog→xk,underlying3→AAs,checked→ACw,f4→ADA,underlying22→ADK,underlying4→ADT,func4→AEO
open Bool renaming not_true→yY,not_false→yg
open Go.Value renaming int→yy,okWide→AAr
open Int renaming toNat_of_nonneg→zh
open Go.DataW renaming trod→AAE,trod_int→AAR,Trod→AEL
open Go.MemPlace renaming cell→ABg
open Go.ChangeSpec renaming witness6→AEa
open Go.WideElems renaming Trod_stays→AEb
open Go.OpenClaim renaming holds_of_wide→AEc
set_option linter.unusedVariables false
set_option linter.unusedSimpArgs false
namespace Go.Proofs.YtldjiljipddebaaGreat
set_option maxRecDepth 100000
noncomputable section
open Go
structure Mcx (h0 hS:Hp)(A:At)(nb r kk:Nat):Prop where
 W0:h0.Wf
 x0:h0.Ext hS
 n24:A.n=24
 hD:∀b,A.D b->h0.next<=b/\b<nb
 nb0:h0.next<=nb/\nb<r
 rk:r<kk
 kl:kk<=hS.next
 tb:A.tb<nb
structure Mst (h0 hS:Hp)(A:At)(T:List Nat)(nb r:Nat)(v:xU)(xs:List Ak)(y:Ak)(B:List Kt)(fr:List Nat)(AEr:Int)(h:Hp):Prop where
 f:Fx (λb=>A.D b\/b=nb\/b=r) hS h
 U:UpP (AIC IN) (λb=>b=nb\/b=r) h A T B fr
 Rn:h.Row nb 0 (AE3 A.bd A.tb A.bs AEr)
 al:(⟨AEr,B,fr⟩:Nst).Al (AJq xs)
 kl:h.KL hS.next v xs
 ok:∀x∈xs,AGc h0 x/\x.l.length<=150
 Ry:h.Row r 0 y.cells
 oy:AGc h0 y/\y.l.length<=150
section
variable {F:AEh}{e:Env}{h h0 hS g:Hp}{A:At}{T:List Nat}{m k nb r:Nat}{AEr:Int}{B:List Kt}{fr:List Nat}{v:xU}{x y:Ak}{xs:List Ak}
theorem cg{bd b bs:Nat}{k f:xU}{d:Nat}{a:Bool}(c:h.Row nb 0 (AE3 bd b bs AEr))(Rs:h.Row bs 0 (slL bd b k f d a)):call AC (m+2) 11 [pt nb] h=.ok (.bool a) h:=by
 obtain⟨_,_,l,_⟩:=CG c;have n:∀(F:AEh) (e:Env) (g:Hp),J 0 e=pt nb->oEq Qy.k IN (J 0) (W (.pointer none)) F e g=.ok (.bool IN) g:=λF e g i=>Xi fM i
 have j:call AC (m+1) 35 [pt bs] h=.ok (.bool a) h:=Qn (A:=⟨bs,bd,0,0,b,0⟩) (m:=m) Rs;rw[oJ rfl];unfold d11;simp only[iN,xV,sT,xT,sh,reduceIte,gD,cA0,n,Ax,Am,AH,AO,xZ,AN,AQ,l,j,lV0]
structure ALR (h0 hS:Hp)(A:At)(T:List Nat)(nb r:Nat)(v:xU)(xs:List Ak)(y:Ak)(B:List Kt)(fr:List Nat)(AEr:Int)(ov:Bool)(h:Hp):Prop where
 f:Fx (λb=>A.D b\/b=nb\/b=r) hS h
 kl:h.KL hS.next v xs
 len:xs.length<=25
 ok:∀x∈xs,AGc h0 x/\x.l.length<=150
 Ry:h.Row r 0 y.cells
 oy:AGc h0 y/\y.l.length<=150
 al:(⟨AEr,B,fr⟩:Nst).Al (AJq xs)
 iv:AFb 8 B fr
 com:Com B
 asc:B.Pairwise LtK
 en:AK9 (λb=>b=nb\/b=r) h A T B fr (kdO y.op) y.a y.b y.c (lO y.op y.l) ov
 la:ov=IN->(rgt y=IN/\AEr<=y.lf)/\(y.op≠4/\y.op≠5)
end
section
variable {F:AEh}{e:Env}{h h':Hp}{m n:Nat}{u w:xU}
def KJ(a b c:Int)(s:Nat)(l:List Nat)(a' b' c':Int)(s':Nat)(l':List Nat):Bool:=decide (a=a'/\b=b'/\c=c'/\s=s'/\l=l')
theorem eI(k:h.Wf){a b c a' b' c':Int}{s s':Nat}{u w:xU}{l l':List Nat}(R:h.AE7 u (l.map bv))(S:h.AE7 w (l'.map bv))(V:∀x∈l,x<256)(W:∀x∈l',x<256):
  ∃h',call AC (m+2) 44 [Bn a b c s u,Bn a' b' c' s' w] h=.ok (.bool (KJ a b c s l a' b' c' s' l')) h'/\h.Ext h':=by
 have f:=λ(F:AEh) (e:Env) (L:J 0 e=Bn a b c s u)=>OD (F:=F) k L
 have j:=(Hp.Ext.refl k).AEg 0 (A9 a b c s u);have O:=Hp.Row.new k 0 (A9 a b c s u);generalize h.AEg 0 (A9 a b c s u)=T at f j O;have g:=λ(F:AEh) (e:Env) (L:J 1 e=Bn a' b' c' s' w)=>OD (F:=F) j.wf L
 have N:=(Hp.Ext.refl j.wf).AEg 0 (A9 a' b' c' s' w);have P:=Hp.Row.new j.wf 0 (A9 a' b' c' s' w);generalize T.AEg 0 (A9 a' b' c' s' w)=U at g N P;have M:=j.trans N;obtain⟨q,r,t,y,z,_⟩:=Bw (O.ext j.wf N);obtain⟨A,B,C,D,E,_⟩:=Bw P;have p:=wM (n:=m) (R.ext k M) (S.ext k M) V W;refine⟨U,?_,M⟩;rw[oo rfl];unfold d44;rcases SC a a' with ⟨i,H⟩|⟨i,H⟩
 ·rcases SC b b' with ⟨o,I⟩|⟨o,I⟩
  ·rcases SC c c' with ⟨G,K⟩|⟨G,K⟩
   ·rcases SC (s:Int) (s':Int)with ⟨c4,Q⟩|⟨c4,Q⟩
    ·have d:KJ a b c s l a' b' c' s' l'=decide (l=l'):=by
      unfold KJ;exact decide_eq_decide.2 ⟨λh=>h.2.2.2.2,λh=>⟨H,I,K,by omega,h⟩⟩
     rw[d];simp only[iN,xV,sT,xT,sh,reduceIte,gD,f,g,AH,AO,xZ,AN,AQ,q,r,t,y,z,A,B,C,D,E,AK,AJ,i,o,G,c4,cA0,p,lV0]
    ·have d:KJ a b c s l a' b' c' s' l'=IT:=decide_eq_false λh=>Q (by rw[h.2.2.2.1])
     rw[d];simp only[iN,xV,sT,xT,sh,reduceIte,gD,f,g,AH,AO,xZ,AN,AQ,q,r,t,y,z,A,B,C,D,E,AK,AJ,i,o,G,c4,cA0,p,lV0]
   ·have d:KJ a b c s l a' b' c' s' l'=IT:=decide_eq_false λh=>K h.2.2.1
    rw[d];simp only[iN,xV,sT,xT,sh,reduceIte,gD,f,g,AH,AO,xZ,AN,AQ,q,r,t,y,z,A,B,C,D,E,AK,AJ,i,o,G,cA0,p,lV0]
  ·have d:KJ a b c s l a' b' c' s' l'=IT:=decide_eq_false λh=>I h.2.1
   rw[d];simp only[iN,xV,sT,xT,sh,reduceIte,gD,f,g,AH,AO,xZ,AN,AQ,q,r,t,y,z,A,B,C,D,E,AK,AJ,i,o,cA0,p,lV0]
 ·have d:KJ a b c s l a' b' c' s' l'=IT:=decide_eq_false λh=>H h.1
  rw[d];simp only[iN,xV,sT,xT,sh,reduceIte,gD,f,g,AH,AO,xZ,AN,AQ,q,r,t,y,z,A,B,C,D,E,AK,AJ,i,cA0,p,lV0]
end
def Kt.c5(k:Kt):Int×Int×Int×Nat×List Nat:=(k.a,k.b,k.c,k.s,k.l)
section
variable {e:Env}{h h':Hp}{m k k':Nat}{ks ks':List Kt}{v w:xU}{x y:Kt}
theorem gH:KJ x.a x.b x.c x.s x.l y.a y.b y.c y.s y.l=decide (x.c5=y.c5):=by
 unfold KJ;refine decide_eq_decide.2 ⟨λ⟨b,c,d,e,f⟩=>?_,λa=>?_⟩
 ·unfold Kt.c5
  rw[b,c,d,e,f]
 ·exact⟨congrArg (·.1) a,congrArg (·.2.1) a,congrArg (·.2.2.1) a,congrArg (·.2.2.2.1) a,congrArg (·.2.2.2.2) a⟩
theorem Cg.c5(h:Cg ks ks'):ks.map Kt.c5=ks'.map Kt.c5:=by
 have e:∀b:List Kt,b.map Kt.c5=(b.map Kt.core).map λa=>(a.a,a.b,a.c,a.s,a.l):=λb=>by rw[List.map_map];rfl
 rw[e,e,show ks.map Kt.core=ks'.map Kt.core from h]
theorem uL(g:h.Wf)(B:h.AL k v ks)(C:h.AL k' w ks')(F:∀x∈ks,∀y∈x.l,y<256)(G:∀x∈ks',∀y∈x.l,y<256)(t:h.Ext h'){i j:Nat}(n:ks[i]? =BY x)(o:ks'[j]? =BY y):
  ∃l p q u d,AFV 5 v (AI AT (i:Int)) h'.marked=.ok p h'.marked/\HN 5 p h'.marked=.ok (Bn x.a x.b x.c x.s u) h'.marked/\AFV 5 w (AI AT (j:Int)) h'.marked=.ok q h'.marked/\HN 5 q h'.marked=.ok (Bn y.a y.b y.c y.s d) h'.marked/\h'.Ext l/\
   ∀(e:Env) (g1 g2:O),g1 e=Bn x.a x.b x.c x.s u->g2 e=Bn y.a y.b y.c y.s d->Ac .free (AS 44 [g1,g2]) (call AC (m+2)) e h'.marked=.ok (.bool (decide (x.c5=y.c5))) l:=by
 have f:=t.marked;obtain⟨M,u,H,J,z⟩:=(B.ext g f).at n;obtain⟨N,d,I,K,A⟩:=(C.ext g f).at o;obtain⟨P,r,L⟩:=eI (m:=m) (a:=x.a) (b:=x.b) (c:=x.c) (s:=x.s) (a':=y.a) (b':=y.b) (c':=y.c) (s':=y.s) f.quiet.wf (z.same (h':=h'.marked.quiet) rfl) (A.same (h':=h'.marked.quiet) rfl) (F x (xy n)) (G y (xy o));rw[gH]at r;exact⟨_,_,_,u,d,H,J,I,K,(Hp.Ext.refl t.wf).marked.trans (.back L),λe g1 g2 D E=>by
  refine BF ?_;rw[BX,AV,AV,A4,D,E];exact r⟩
theorem TO(u:h.Wf)(t:h.AL k v ks)(F:h.AL k' w ks')(V:∀x∈ks,∀y∈x.l,y<256)(W:∀x∈ks',∀y∈x.l,y<256)(hl:ks.length<=1000):
  ∃r h',call AC (m+3) 19 [v,w] h=.ok (.bool r) h'/\h.Ext h'/\(Cg ks ks'->r=IN):=by
 have f:=t.len h;have R:=F.len h;by_cases H:ks.length=ks'.length
 case neg=>
  have z:iNe (ks.length:Int) (ks'.length:Int)=IN:=EG (by omega);refine⟨IT,h,?_,.refl u,λg=>absurd g.len H⟩;rw[Ty rfl,UO];unfold aX;simp only[iN,xV,sT,xT,sh,reduceIte,AX,f,R,AK,AJ,z,lV0]
 have z:iNe (ks.length:Int) (ks'.length:Int)=IT:=B0 (by rw[H]);have Z:∃e,aX (call AC (m+2)) (Au e0 0 [v,w]) h=smS (call AC (m+2)) e h/\J 0 e=v/\J 1 e=w/\J 5 e=AI AT ((0:Nat):Int):=by
  unfold aX;simp only[iN,xV,sT,xT,sh,reduceIte,AX,f,R,AK,AJ,z];exact⟨_,rfl,by simp[AG]⟩
 obtain⟨e,S,t0,t1,t5⟩:=Z;have a0:(∃a b,A3 smL (call AC (m+2)) e h=.exit 0 a b/\h.Ext b)\/∃a b,A3 smL (call AC (m+2)) e h=.ret a b/\J 4 a=.bool IT/\h.Ext b/\¬Cg ks ks':=by
  refine Bd (I:=λi d h'=>h.Ext h'/\J 0 d=v/\J 1 d=w/\J 5 d=AI AT (i:Int)/\i<=ks.length)
   (Q:=λx=>(∃a b,x=.exit 0 a b/\h.Ext b)\/∃a b,x=.ret a b/\J 4 a=.bool IT/\h.Ext b/\¬Cg ks ks') ks.length (by omega) (λi d h' ⟨n,s,C,D,hi⟩=>?_) ⟨.refl u,t0,t1,t5,yH _⟩
  have W':=n.wf;have f:=t.len h';by_cases p:i<ks.length
  ·have o:=EU p
   obtain⟨x,K⟩:∃x,ks[i]? =BY x:=⟨_,xc p⟩;obtain⟨y,L⟩:∃y,ks'[i]? =BY y:=⟨_,xc (by omega)⟩;obtain⟨j,a1,a2,a4,u',M,O,N,P,T,q⟩:=uL (m:=m) u t F V W n K L;by_cases A:x.c5=y.c5
   ·left
    rw[decide_eq_true A]at q;have U:=Cc (i:=i) (h:=j) (by omega);have B:∃a,smL (call AC (m+2)) d h'=.norm a j/\J 0 a=v/\J 1 a=w/\J 5 a=AI AT ((i+1:Nat):Int):=by
     unfold smL;simp only[sT,xT,sh,reduceIte,AX,s,f,AK,AJ,D,o,Aw,BA,M,An,O,C,N,P,q,BJ,BI,yY,BW,U];exact⟨_,rfl,by simp[AG,s,C]⟩
    obtain⟨a,c,l,r3,r4⟩:=B;exact⟨p,a,j,c,n.trans T,l,r3,r4,p⟩
   ·right
    rw[decide_eq_false A]at q;have B:∃a,smL (call AC (m+2)) d h'=.ret a j/\J 4 a=.bool IT:=by
     unfold smL;simp only[sT,xT,sh,reduceIte,AX,s,f,AK,AJ,D,o,Aw,BA,M,An,O,C,N,P,q,BJ,BI,yg];exact⟨_,rfl,by simp[AG]⟩
    obtain⟨a,c,l⟩:=B;rw[c];refine⟨rfl,.inr ⟨a,j,rfl,l,n.trans T,λg=>A ?_⟩⟩;have G:=congrArg (λY=>Y[i]?) g.c5;simp only[List.getElem?_map,L,K,Option.map_some]at G;exact Option.some.inj G
  ·right
   have o:=Cz (show ks.length<=i by omega);obtain⟨a,c⟩:∃a,smL (call AC (m+2)) d h'=.exit 0 a h':=by
    unfold smL;simp only[sT,xT,sh,reduceIte,AX,s,f,AK,AJ,D,o];exact⟨_,rfl⟩
   rw[c];exact⟨rfl,.inl ⟨a,h',rfl,n⟩⟩
 rcases a0 with ⟨a,b,c,E⟩|⟨a,b,c,l,E,X⟩
 ·refine⟨IN,b,?_,E,λ_=>rfl⟩
  rw[Ty rfl,UO,S,eT];simp only[A7,Ap,c,A5,Ay];unfold smE;simp only[sT,xT,sh,reduceIte,lV0]
 ·refine⟨IT,b,?_,E,λg=>absurd g X⟩
  rw[Ty rfl,UO,S,eT];simp only[A7,Ap,c,CE,Cr,lV0,l]
end
def TlX(x:Ak)(p:Nst):Tl:=if rgt x=IN then ans p x else⟨0,[],[]⟩
def hd1(x:Ak):Int:=if rgt x=IN then x.lf else 0
def hd2(x:Ak):Int:=if rgt x=IN then x.sq else 0
def hd3(x:Ak):Nat:=if rgt x=IN then x.op else 0
def erX(x:Ak):Int:=if rgt x=IN then 0 else 110
def IH(x:Ak)(p:Nst):Int:=if rgt x=IN then(p.fr.length:Int)else 0
def tvX(x:Ak)(t:Tl)(p:Nst)(iv bw:xU):xU:=Be (hd1 x) (hd2 x) (hd3 x) t.z iv bw (IH x p)
def tlX(x:Ak)(t:Tl)(p:Nst)(iv bw:xU):List xU:=B9 (hd1 x) (hd2 x) (hd3 x) t.z iv bw (IH x p)
structure AF5 (h:Hp)(k:Nat)(iv bw:xU)(t:Tl):Prop where
 is:h.IS iv t.xs
 V:h.AE7 bw (t.l.map bv)
 ok:∀x∈t.xs,AFi x
 nx:t.xs.length<=50
 b8:∀y∈t.l,y<256
 i1:oneCell iv=IN
 b1:oneCell bw=IN
 lo:∀b,AE1 iv b\/AE1 bw b->k<=b
def OS(T:List Nat)(p:Nst)(x:Ak)(q:Nst):Prop:=(rgt x=IN->Did T p x (ans p x).z q)/\(rgt x=IT->q=p)
def fl(h:Hp)(k:Nat)(T:List Nat)(x:Ak)(q a:Nst)(w:xU):Prop:=∃b,k<=b/\Mk h b w (DH T (FO x.lf x.sq x.op (ans q x).z (a.fr.length:Int) (ans q x).xs (ans q x).l))/\(FO x.lf x.sq x.op (ans q x).z (a.fr.length:Int) (ans q x).xs (ans q x).l).length<=800000/\(∀e∈FO x.lf x.sq x.op (ans q x).z (a.fr.length:Int) (ans q x).xs (ans q x).l,e<256)/\∃d iv c,AFv d x.lf x.sq x.op (ans q x).z iv c (a.fr.length:Int) (ans q x).xs (ans q x).l
section
variable {h h' g:Hp}{R R1:Int->Prop}{X:Nat->Prop}{A:At}{T M:List Nat}{m n k nb op kM tb:Nat}{AEr z:Int}{ks ks':List Kt}{fr fr' l:List Nat}{u v w iv bw:xU}{x:Ak}{p q p1 q1 p2:Nst}{t:Tl}
theorem AF5.ext(a:AF5 h k iv bw t)(b:h.Wf)(y:h.Ext h'):AF5 h' k iv bw t:=⟨a.is.ext b y,a.V.ext b y,a.ok,a.nx,a.b8,a.i1,a.b1,a.lo⟩
theorem AF5.fx{S:Nat->Prop}(c:AF5 h k iv bw t)(g:h.Wf)(f:Fx S h h')(p:∀b,S b->b<k):AF5 h' k iv bw t:=by
 have j:∀b,AE1 iv b\/AE1 bw b->¬S b:=λb q r=>by
  have a:=c.lo b q;have d:=p b r;omega
 refine⟨?_,?_,c.ok,c.nx,c.b8,c.i1,c.b1,c.lo⟩
 ·rcases c.is with a|⟨b,e,a,d⟩
  ·exact .inl a
  ·exact .inr ⟨b,e,a,f.row g d (j b (.inl ⟨0,_,_,a⟩))⟩
 ·rcases c.V with a|⟨b,l,i,e,m,a,d,n,o⟩
  ·exact .inl a
  ·exact .inr ⟨b,l,i,e,m,a,f.row g d (j b (.inr ⟨l,_,i,a⟩)),n,o⟩
theorem doZ(c:h.Wf)(G:A.n=24)(d:h.Row nb 0 (AE3 A.bd A.tb A.bs p.AEr))(e:UpX X h A T p.ks p.fr k)(H:∀b,X b->b<h.next)(I:X nb)(K:¬A.D nb)(L:A.tb≠nb)(z:256<=nb)(t:h.VE x.u (x.l.map bv))(b8:∀y∈x.l,y<256)(M:∀b,AE1 x.u b->b≠nb)(w:x.op<256)(u:n<=k)
  (sl:rgt x=IN->p.AEr<=x.lf->x.op=1\/x.op=2\/x.op=3\/x.op=6->∀(g:Hp) (Y:Nat->Prop),g.Wf->UpX Y g A T p.ks p.fr k->(∀b,Y b->b<g.next)->(x.op=1->g.VE x.u (x.l.map bv))->SlC m A T p.ks p.fr n x.op x.a x.b x.c x.u x.l Y g):
  ∃iv bw h',∃p1:Nst,call AC (m+12) 9 [pt nb,x.val] h=.ok (.tuple ⟨[tvX x (TlX x p) p1 iv bw,AI AT (erX x)]⟩) h'/\Fx (λb=>A.D b\/b=nb) h h'/\h'.Row nb 0 (AE3 A.bd A.tb A.bs p1.AEr)/\UpX X h' A T p1.ks p1.fr n/\AF5 h' h.next iv bw (TlX x p)/\OS T p x p1:=by
 cases a:rgt x
 ·obtain⟨O,l,q,r,rfl⟩:=rO (m:=m+8) c d e w (λg=>t.bl g) a
  have f:tvX x (TlX x p) p AEk AEk=Be 0 0 0 0 AEk AEk 0:=by
   unfold tvX TlX hd1 hd2 hd3 IH;simp only[a,Bool.false_eq_true,if_false]
  have i:erX x=110:=No (by rw[a];decide);have j:TlX x p=⟨0,[],[]⟩:=No (by rw[a];decide);refine⟨AEk,AEk,l,p,by rw[f,i];exact q,.of r,d.ext c r,(e.ext c r).le u,?_,(λh=>by rw[a]at h;cases h),λ_=>rfl⟩;rw[j];exact⟨.inl ⟨rfl,rfl⟩,.inl ⟨rfl,rfl⟩,(λx o=>by cases o),yH _,(λx o=>by cases o),rfl,rfl,λb J=>J.elim Ge Ge⟩
 ·obtain⟨iv,bw,l,ks',fr',s,q,F,B,C,t2,E,D,N⟩:=doA (m:=m) (n:=n) c G d e H I K L z t b8 M w a u (sl a)
  have f:tvX x (TlX x p) ⟨s,ks',fr'⟩ iv bw=Be x.lf x.sq x.op (ans p x).z iv bw (fr'.length:Int):=by
   unfold tvX TlX hd1 hd2 hd3 IH;simp only[a,if_true]
  have i:erX x=0:=If a;have j:TlX x p=ans p x:=If a;refine⟨iv,bw,l,⟨s,ks',fr'⟩,by rw[f,i];exact q,F,B,C,?_,λ_=>E,(λh=>by rw[a]at h;cases h)⟩;rw[j];exact⟨t2.is,t2.V,t2.ok,t2.nx,D,t2.i1,t2.b1,N⟩
theorem iX(iv:AFb 8 p.ks p.fr)(d:OS T p x p1)(f:A.n=24)(h:x.l.length<=1000)(j:rgt x=IN)(i:p1.AEr<=x.lf)(a:x.op=1\/x.op=2\/x.op=3\/x.op=6)(g:Hp)(Y:Nat->Prop)(e:g.Wf)(b:UpX Y g A T p1.ks p1.fr k)(c:x.op=1->g.VE x.u (x.l.map bv)):SlC m A T p1.ks p1.fr k x.op x.a x.b x.c x.u x.l Y g:=
 slQ (m:=m) e f b c h a (K3 iv (d.1 j) i a)
theorem ZR(iv:AFb 8 p.ks p.fr)(d:OS T p x p1):TlX x p1=TlX x p:=by
 unfold TlX;cases a:rgt x
 ·rfl
 ·rw[If rfl,If rfl,iY iv (d.1 a)]
theorem Ya(iv:AFb 8 p.ks p.fr)(e:AFb 8 p1.ks p1.fr)(c:Com p1.ks)(d:OS T p x p1)(b:OS T p1 x p2):p2.Al p1:=by
 cases a:rgt x
 ·rw[b.2 a]
  exact⟨rfl,rfl,rfl⟩
 ·exact bG iv e c (d.1 a) (b.1 a)
theorem eE(h:p.Al q):IH x p=IH x q:=by
 unfold IH;rw[h.2.2]
theorem iW(iv:AFb 8 p.ks p.fr)(c:AFb 8 q.ks q.fr)(o:Com p.ks)(r:Com q.ks)(h:p.Al q)(d:OS T p x p1)(b:OS T q x q1):p1.Al q1:=by
 cases a:rgt x
 ·rw[d.2 a,b.2 a]
  exact h
 ·obtain⟨e,f,g⟩:=bF a iv o (d.1 a)
  obtain⟨i,j,k⟩:=bF a c r (b.1 a);obtain⟨l,m,n⟩:=sx (x:=x) h c.key;exact⟨e.trans (l.trans i.symm),f.trans (m.trans j.symm),g.trans (n.trans k.symm)⟩
theorem jD(d:h.Wf)(B:A.n=24)(e:h.Row nb 0 (AE3 A.bd A.tb A.bs q.AEr))(f:UpX X h A T q.ks q.fr (k+40))(C:∀b,X b->b<h.next)(D:X nb)(J:¬A.D nb)(K:A.tb≠nb)(l:256<=nb)(L:x.op<256)(b8:∀y∈x.l,y<256)(G:x.l.length<=1000)(N:rgt x=IT->u=AEk)(O:rgt x=IN->∃kM,Mk h kM u (DH T (Gb x.lf x.sq x.op x.a x.b x.c x.l))/\(Gb x.lf x.sq x.op x.a x.b x.c x.l).length<=800000):
  ∃w h' c,∃q1:Nst,call AC (m+13) 21 [pt nb,u] h=.ok (.tuple ⟨[w,AI AT c]⟩) h'/\Fx (λb=>A.D b\/b=nb) h h'/\h'.Row nb 0 (AE3 A.bd A.tb A.bs q1.AEr)/\UpX X h' A T q1.ks q1.fr k/\OS T q x q1/\(rgt x=IN->c=0/\fl h' h.next T x q q1 w)/\(rgt x=IT->c≠0):=by
 cases a:rgt x
 ·obtain rfl:=N a
  obtain⟨g,c,i,E,j⟩:=Yi (m:=m) d e f;exact⟨AEk,g,c,q,i,.of j,e.ext d j,(f.ext d j).le (by omega),⟨(λh=>by rw[a]at h;cases h),λ_=>rfl⟩,(λh=>by cases h),λ_=>E⟩
 ·obtain⟨kM,M,I⟩:=O a
  obtain⟨w,g,ks',fr',n,P,i,t,p,r,s,o,F,H,z,tr⟩:=jC (m:=m) d B e f C D J K l a L b8 G M I;exact⟨w,g,0,⟨n,ks',fr'⟩,i,t,p,r,⟨λ_=>s,(λh=>by rw[a]at h;cases h)⟩,λ_=>⟨rfl,P,F,o,H,z,tr⟩,(λh=>by cases h)⟩
theorem xH(i:h.Wf)(R:h.Row tb 0 (T.map wv))(j:AFQ T)(g:h.VE x.u (x.l.map bv))(k:∀y∈x.l,y<256)(o:x.op<256):
  ∃h' w,call AC (m+6) 20 [pt tb,x.val] h=.ok (.tuple ⟨[w,AI AT (erX x)]⟩) h'/\h.Ext h'/\(rgt x=IT->w=AEk)/\(rgt x=IN->∃kM,Mk h' kM w (DH T (Gb x.lf x.sq x.op x.a x.b x.c x.l))/\(Gb x.lf x.sq x.op x.a x.b x.c x.l).length<=800000/\h.next<=kM):=by
 obtain⟨h',y,⟨d,f⟩|⟨d,w,kM,f,M,l,n⟩⟩:=ZA (m:=m) (lf:=x.lf) (sq:=x.sq) (a:=x.a) (b:=x.b) (c:=x.c) i R j g k o
 ·have d:rgt x=IT:=d
  have e:erX x=110:=No (by rw[d];decide);exact⟨h',AEk,by rw[e];exact f,y,λ_=>rfl,(λh=>by rw[d]at h;cases h)⟩
 ·have d:rgt x=IN:=d
  have e:erX x=0:=If d;exact⟨h',w,by rw[e];exact f,y,(λh=>by rw[d]at h;cases h),λ_=>⟨kM,M,n,l⟩⟩
theorem fR(b:h.Wf)(a:UpP R X h A T ks fr)(k:0<=z)(g:R1 z):∃h',call AC (m+2) 7 [pt A.bd,AI AT z] h=.ok AEl h'/\Fx A.K h h'/\UpP R1 X h' A T ks fr:=by
 obtain⟨⟨M,c,q,n,e,p,iv,o,i,_⟩,j⟩:=a;obtain⟨f,l,d,s2⟩:=mi (m:=m) b p k;exact⟨f,l,d,⟨M,c,z,n,e,s2,iv,o,i,g⟩,j⟩
theorem UpP.inv(a:UpP R X h A T ks fr):AFb 8 ks fr/\Com ks/\(∀y∈ks,∀z∈y.l,z<256):=by
 obtain⟨⟨M,f,e,i,g,d,iv,j,b,_⟩,_⟩:=a;exact⟨iv,b,λy c=>(d.ko y c).2.1⟩
theorem Pv(c:h.Wf)(a:h.Row nb 0 (AE3 A.bd A.tb A.bs AEr))(b:UpP R X h A T ks fr):∃h' v,call AC (m+5) 17 [pt nb] h=.ok v h'/\h.Ext h'/\h'.AL h.next v ks:=by
 obtain⟨⟨M,f,e,i,g,d,_⟩,_⟩:=b;exact jV (m:=m) c a d
end
theorem fG:twD=lV:=rfl
theorem uF:twC=uG:=rfl
theorem uD:twB=uE:=rfl
def TS(A B:At)(a b:Nat)(r:Nat):Prop:=(A.D r\/r=a)\/(B.D r\/r=b)
structure Tcx (h0 hB:Hp)(A B:At)(a b cc kk:Nat):Prop where
 W0:h0.Wf
 x0:h0.Ext hB
 nA:A.n=24
 nB:B.n=24
 tb:B.tb=A.tb
 t0:h0.next<=A.tb
 dA:∀r,A.D r\/r=a->A.tb<r/\r<cc
 dB:∀r,B.D r\/r=b->cc<=r/\r<kk
 ac:A.tb<cc
 na:¬A.D a
 nb:¬B.D b
 kl:kk<=hB.next
structure Tst (hB:Hp)(A B:At)(T:List Nat)(a b i j:Nat)(p q:Nst)(h:Hp):Prop where
 f:Fx (TS A B a b) hB h
 U:UpX (TS A B a b) h A T p.ks p.fr i
 N:h.Row a 0 (AE3 A.bd A.tb A.bs p.AEr)
 V:UpX (TS A B a b) h B T q.ks q.fr j
 O:h.Row b 0 (AE3 B.bd B.tb B.bs q.AEr)
section
variable {e:Env}{h h' h0 hB g:Hp}{A B:At}{T M:List Nat}{m n k kk cc a b r op i j i2 j2 k14:Nat}{p q p' q' p1 q1 p2:Nst}{x:Ak}{xs:List Ak}{u w vl iv bw iv2 bw2 v14:xU}
theorem Tst.ext(s:Tst hB A B T a b i j p q h)(y:h.Ext h'):Tst hB A B T a b i j p q h':=⟨s.f.trans (.of y),s.U.ext s.f.wf y,s.N.ext s.f.wf y,s.V.ext s.f.wf y,s.O.ext s.f.wf y⟩
theorem Tcx.sA(C:Tcx h0 hB A B a b cc kk)(r:Nat)(c:A.D r\/r=a):TS A B a b r/\¬B.D r/\B.tb≠r:=by
 have e:=C.dA r c;refine⟨.inl c,λd=>?_,by rw[C.tb];omega⟩;have:=C.dB r (.inl d);omega
theorem Tcx.sB(C:Tcx h0 hB A B a b cc kk)(r:Nat)(c:B.D r\/r=b):TS A B a b r/\¬A.D r/\A.tb≠r:=by
 have e:=C.dB r c;have f:=C.ac;refine⟨.inr c,λd=>?_,by omega⟩;have:=C.dA r (.inl d);omega
theorem Tcx.lt(C:Tcx h0 hB A B a b cc kk)(r:Nat)(c:TS A B a b r):A.tb<r/\r<kk:=by
 have d:=C.ac;rcases c with c|c
 ·have:=C.dA r c
  have:=C.dB b (.inr rfl);omega
 ·have:=C.dB r c
  omega
theorem Tcx.big(C:Tcx h0 hB A B a b cc kk)(s:Fx (TS A B a b) hB h):∀r,TS A B a b r->r<h.next:=λr c=>by
 have:=(C.lt r c).2;have:=C.kl;have:=s.next;omega
theorem Tcx.ext(C:Tcx h0 hB A B a b cc kk)(f:Fx (TS A B a b) hB h):h0.Ext h:=Fx.xtF C.x0 f λr c=>by
 have:=(C.lt r c).1;have:=C.t0;omega
theorem Tst.left(C:Tcx h0 hB A B a b cc kk)(s:Tst hB A B T a b i j p q h)(f:Fx (λr=>A.D r\/r=a) h h')(d:UpX (TS A B a b) h' A T p'.ks p'.fr i2)(N:h'.Row a 0 (AE3 A.bd A.tb A.bs p'.AEr)):Tst hB A B T a b i2 j p' q h':=
 ⟨s.f.trans (f.mono λr c=>.inl c),d,N,s.V.beside s.f.wf s.U d C.nA s.N N f C.sA,f.row s.f.wf s.O λc=>(C.sA b c).2.1.elim (by
  have:=C.dA b c;have:=C.dB b (.inr rfl);omega)⟩
theorem Tst.right(C:Tcx h0 hB A B a b cc kk)(s:Tst hB A B T a b i j p q h)(f:Fx (λr=>B.D r\/r=b) h h')(d:UpX (TS A B a b) h' B T q'.ks q'.fr j2)(O:h'.Row b 0 (AE3 B.bd B.tb B.bs q'.AEr)):Tst hB A B T a b i j2 p q' h':=
 ⟨s.f.trans (f.mono λr c=>.inr c),s.U.beside s.f.wf s.V d C.nB s.O O f C.sB,f.row s.f.wf s.N λc=>by
  have:=C.dB a c;have:=C.dA a (.inr rfl);omega,d,O⟩
def wq(j:Nat):Prop:=j=3\/j=4\/j=5\/j=8\/j=41\/j=42\/j=43
theorem fI(C:Tcx h0 hB A B a b cc kk)(s:Tst hB A B T a b 40 (j+40) p q h)(K:hB.KL kk vl xs)(hi:xs[i]? =BY x)(ok:AGc h0 x)(f5:x.l.length<=150)
  (s3:J 3 e=pt A.tb)(s4:J 4 e=pt A.bd)(s5:J 5 e=pt a)(s8:J 8 e=pt b)(f1:J 41 e=vl)(f3:J 43 e=AI AT (i:Int)):
  ∃f h' c Y Z k k14 iv bw iv2 bw2 v14 w,∃p1 p2 q1:Nst,twB (call AC (m+13)) e h=twC (call AC (m+13)) f h'/\Tst hB A B T a b 40 j p2 q1 h'/\(∀j,wq j->J j f=J j e)/\J 12 f=pt Y/\J 13 f=AI AT (erX x)/\J 14 f=v14/\J 16 f=AI AT (erX x)/\J 17 f=w/\J 18 f=AI AT c/\J 19 f=pt Z/\J 20 f=AI AT (erX x)/\
   h'.Row Y 0 (tlX x (TlX x p) p1 iv bw)/\h'.Row Z 0 (tlX x (TlX x p) p1 iv2 bw2)/\AF5 h' k iv bw (TlX x p)/\AF5 h' k iv2 bw2 (TlX x p)/\hB.next<=k/\h'.AL k14 v14 p1.ks/\hB.next<=k14/\OS T p x p1/\p2.Al p1/\OS T q x q1/\AFb 8 p.ks p.fr/\Com p.ks/\AFb 8 q.ks q.fr/\Com q.ks/\(∀y∈p1.ks,∀z∈y.l,z<256)/\(rgt x=IN->c=0/\fl h' hB.next T x q q1 w)/\(rgt x=IT->c≠0):=by
 have c6:=s.f.wf;have a2:256<=a/\256<=b:=by
  have S:=C.W0.big;have G:=C.dA a (.inr rfl);have I:=C.dB b (.inr rfl);have U:=C.t0;omega
 have b5:A.tb≠a:=by have:=C.dA a (.inr rfl);omega
 have d7:B.tb≠b:=by have:=C.dB b (.inr rfl);have:=C.ac;rw[C.tb];omega
 have Kh:=K.fx C.x0.wf s.f λr d hs=>by have:=C.lt r hs;omega
 obtain⟨b0,ix,ld⟩:=Kh.at hi;obtain⟨V,cp,_⟩:=s.U.inv;obtain⟨iq,d1,_⟩:=s.V.inv;obtain⟨g1,S,c7,a7,y1,R1,g4⟩:=Jk c6 Ki rfl (vs:=x.cells) rfl (x.one ok.2.2.1);have a7:AEn 7 (pt h.next) x.val g1=.ok AEl S:=a7;have s1:=s.ext y1;have O:=s1.f.wf;have n0:=s.f.next;have n1:=y1.next;have a3:∀r,TS A B a b r->r≠h.next:=λr d=>by have:=C.big s.f r d;omega
 have f4:=C.ext s1.f;have V1:=ok.1.ext C.W0 f4;have b6:∀r,AE1 x.u r->∀X,TS A B a b X->r≠X:=λr d X hs=>by
  have:=ok.1.lt C.W0 r d;have:=(C.lt X hs).1;have:=C.t0;omega
 have a6:∀{g:Hp},g.Row h.next 0 x.cells->loadN 7 ⟨h.next,0,none⟩ g=.ok x.val g:=λR=>(Br (show Hp.Row _ h.next 0 (CM x.lf x.sq x.op x.a x.b x.c x.u)from R)).2.2.2.2.2.2.2
 have e2:=a6 R1;obtain⟨iv,bw,G,p1,k2,f2,N2,U2,t2,Q⟩:=doZ (m:=m+1) (n:=0) (k:=40) O C.nA s1.N s1.U (C.big s1.f) (.inl (.inr rfl)) C.na b5 a2.1 V1 ok.2.1 (λr d=>b6 r d a (.inl (.inr rfl))) ok.2.2.2 (by omega) λ_ _ ho g b2 Wg Ug hY Vg=>slN (m:=m+1) Wg C.nA Ug hY Vg ok.2.1 (by omega) ho
 have k2:call AC (m+13) 9 [pt a,x.val] S=.ok (.tuple ⟨[tvX x (TlX x p) p1 iv bw,AI AT (erX x)]⟩) G:=k2;have s2:=s1.left C f2 U2 N2;have W2:=s2.f.wf;have b9:=f2.row O R1 (λd=>a3 _ (.inl d) rfl);have n2:=f2.next;obtain⟨g3,I,c8,a8,y3,R3,g5⟩:=Jk W2 Dd rfl (vs:=tlX x (TlX x p) p1 iv bw) rfl (KX t2.i1 t2.b1);have a8:AEn 7 (pt G.next) (tvX x (TlX x p) p1 iv bw) g3=.ok AEl I:=a8;have a0:=s2.ext y3;have W3:=a0.f.wf;obtain⟨U,v4,k4,y4,L4⟩:=Pv (m:=m+8) W3 a0.N a0.U;have k4:call AC (m+13) 17 [pt a] I=.ok v4 U:=k4;have a1:=a0.ext y4;have W4:=a1.f.wf;have b8:=y3.trans y4;have b1:=b9.ext W2 b8;have e3:=a6 b1;have n3:=y3.next;have n4:=y4.next;obtain⟨c3,hT,_⟩:=a1.U.tab;obtain⟨h5,w5,k5,H,d9,e0⟩:=xH (m:=m+7) W4 c3 hT (V1.ext O ((Hp.Ext.refl O)) |> λ_=>ok.1.ext C.W0 (C.ext a1.f)) ok.2.1 ok.2.2.2;have k5:call AC (m+13) 20 [pt A.tb,x.val] U=.ok (.tuple ⟨[w5,AI AT (erX x)]⟩) h5:=k5;have N:=a1.ext H;have W5:=N.f.wf;have n5:=H.next;obtain⟨w6,h6,c,q1,k6,D,O6,V6,d6,d5,d4⟩:=jD (m:=m) (k:=j) W5 C.nB N.O N.V (C.big N.f) (.inr (.inr rfl)) C.nb d7 a2.2 ok.2.2.2 ok.2.1 (by omega) d9 λd=>(e0 d).imp λkM h=>⟨h.1,h.2.1⟩
 have s6:=N.right C D V6 O6;have P:=s6.f.wf;have n6:=D.next;obtain⟨h7,k7,f7,U7⟩:=fR (m:=m+11) (z:=0) (R1:=λa4=>CL a4 0) P s6.U (by omega) ⟨by omega,by omega,.inr (by omega)⟩;have k7:call AC (m+13) 7 [pt A.bd,AI AT 0] h6=.ok AEl h7:=k7;have E:Fx (λr=>A.D r\/r=a) h6 h7:=f7.mono λr d=>.inl (.inr d)
 have N7:=f7.row P s6.N λd=>C.na (.inr d)
 have s7:=s6.left C E (i2:=0) (p':=p1) U7 N7;have W7:=s7.f.wf;have n7:=f7.next;have c1:=b1.ext W4 H;have c2:=E.row P (D.row W5 c1 (λd=>a3 _ (.inr d) rfl)) (λd=>a3 _ (.inl d) rfl);have e4:=a6 c2;obtain⟨i1,d0,c9⟩:=s7.U.inv;obtain⟨iv2,bw2,L,p2,W,F,N8,U8,t8,d8⟩:=doZ (m:=m+1) (n:=0) (k:=0) W7 C.nA s7.N s7.U (C.big s7.f) (.inl (.inr rfl)) C.na b5 a2.1 (ok.1.ext C.W0 (C.ext s7.f)) ok.2.1 (λr d=>b6 r d a (.inl (.inr rfl))) ok.2.2.2 (by omega) λd d3 ho g b2 Wg Ug _ Vg=>iX (m:=m+1) V Q C.nA (by omega) d d3 ho g b2 Wg Ug Vg
 have b4:p2.Al p1:=Ya V i1 d0 Q d8;rw[ZR V Q]at W t8;have W:call AC (m+13) 9 [pt a,x.val] h7=.ok (.tuple ⟨[tvX x (TlX x p) p1 iv2 bw2,AI AT (erX x)]⟩) L:=by
  have e1:tvX x (TlX x p) p2 iv2 bw2=tvX x (TlX x p) p1 iv2 bw2:=by
   unfold tvX;rw[eE b4]
  rw[<- e1];exact W
 have b7:=s7.left C F U8 N8;have W8:=b7.f.wf;have n8:=F.next;obtain⟨g9,h9,al9,a9,u,R9,g6⟩:=Jk W8 Dd rfl (vs:=tlX x (TlX x p) p1 iv2 bw2) rfl (KX t8.i1 t8.b1);have a9:AEn 7 (pt L.next) (tvX x (TlX x p) p1 iv2 bw2) g9=.ok AEl h9:=a9;have s9:=b7.ext u;have W9:=s9.f.wf;have n9:=u.next;obtain⟨l,a5,b3,c5⟩:=fR (m:=m+11) (z:=1048576) (R1:=λa4=>CL a4 40) W9 s9.U (by omega) ⟨by omega,by omega,.inr (by omega)⟩;have a5:call AC (m+13) 7 [pt A.bd,AI AT 1048576] h9=.ok AEl l:=a5;have o:Fx (λr=>A.D r\/r=a) h9 l:=b3.mono λr d=>.inl (.inr d)
 have c0:=b3.row W9 s9.N λd=>C.na (.inr d)
 have s10:=s9.left C o (i2:=40) (p':=p2) c5 c0;have S6:Fx (TS A B a b) G l:=(Fx.of ((b8.trans H))).trans ((D.mono λr d=>.inr d).trans ((E.mono λr d=>.inl d).trans ((F.mono λr d=>.inl d).trans ((Fx.of u).trans (o.mono λr d=>.inl d)))));have S8:Fx (TS A B a b) L l:=(Fx.of u).trans (o.mono λr d=>.inl d);have S3:Fx (TS A B a b) I l:=(Fx.of (y4.trans H)).trans ((D.mono λr d=>.inr d).trans ((E.mono λr d=>.inl d).trans ((F.mono λr d=>.inl d).trans ((Fx.of u).trans (o.mono λr d=>.inl d)))));have S4:Fx (TS A B a b) U l:=(Fx.of H).trans ((D.mono λr d=>.inr d).trans ((E.mono λr d=>.inl d).trans ((F.mono λr d=>.inl d).trans ((Fx.of u).trans (o.mono λr d=>.inl d)))));have t:∀r,TS A B a b r->r<hB.next:=C.big (.refl C.x0.wf);have c4:Fx (TS A B a b) h6 l:=(E.mono λr d=>.inl d).trans ((F.mono λr d=>.inl d).trans ((Fx.of u).trans (o.mono λr d=>.inl d)));have hM:rgt x=IN->c=0/\fl l hB.next T x q q1 w6:=λd=>by
  obtain⟨hc,kw,g0,M,g1,g2,g3⟩:=d5 d;exact⟨hc,kw,by omega,M.keep λr el f9 hb R=>c4.row P R λd=>by
   have:=t r d;have:=LP M hb;omega,g1,g2,g3⟩
 obtain⟨f,r0,rj,Y,e5,e6,e7,e8,e9,Z,f0⟩:∃f,twB (call AC (m+13)) e h=twC (call AC (m+13)) f l/\(∀j,wq j->J j f=J j e)/\J 12 f=pt G.next/\J 13 f=AI AT (erX x)/\J 14 f=v4/\J 16 f=AI AT (erX x)/\J 17 f=w6/\J 18 f=AI AT c/\J 19 f=pt L.next/\J 20 f=AI AT (erX x):=by
  rw[uD];unfold uE;simp only[sT,xT,sh,reduceIte,BA,f1,f3,ix,An,Ah,ld,c7,AW,a7,e2,cA0,s5,k2,Aq,Az,A1,c8,a8,k4,e3,s3,k5,s8,k6,s4,EY,k7,e4,W,al9,a9,a5];refine⟨_,rfl,λj hj=>?_,by simp[AG]⟩;rcases hj with rfl|rfl|rfl|rfl|rfl|rfl|rfl<;>simp only[AG,xT,sh,reduceIte]
 exact⟨f,l,c,G.next,L.next,S.next,I.next,iv,bw,iv2,bw2,v4,w6,p1,p2,q1,r0,s10,rj,Y,e5,e6,e7,e8,e9,Z,f0,S3.row W3 R3 (λd=>by have:=t _ d;omega),o.row W9 R9 (λd=>by have:=t _ (.inl d);omega),t2.fx W2 S6 (λr d=>by have:=t _ d;omega),⟨(t8.fx W8 S8 (λr d=>by have:=t _ d;omega)).is,(t8.fx W8 S8 (λr d=>by have:=t _ d;omega)).V,t8.ok,t8.nx,t8.b8,t8.i1,t8.b1,λr d=>by have:=t8.lo r d;omega⟩,by omega,L4.fx W4 S4 (λr d=>by have:=t _ d;omega),by omega,Q,b4,d6,V,cp,iq,d1,c9,hM,d4⟩
end
section
variable {e:Env}{h h' h0 hB g:Hp}{A B:At}{T M:List Nat}{m n k kk cc a b r op i j k14:Nat}{p q p' q' p1 q1 p2:Nst}{x:Ak}{xs:List Ak}{w vl iv bw iv2 bw2 v14:xU}
theorem UpP.over{R:Int->Prop}{X:Nat->Prop}{ks:List Kt}{fr:List Nat}{AEr:Int}(b:UpP R X h A T ks fr)(N:h.Row a 0 (AE3 A.bd A.tb A.bs AEr)):call AC (m+2) 11 [pt a] h=.ok (.bool IT) h:=by
 obtain⟨⟨M,e,d,g,f,c,_⟩,_⟩:=b;exact cg (m:=m) N c.row
theorem UpP.few{R:Int->Prop}{X:Nat->Prop}{ks:List Kt}{fr:List Nat}(a:UpP R X h A T ks fr):ks.length<=1000:=by
 obtain⟨⟨M,d,c,f,e,b,_⟩,_⟩:=a;exact b.le.1
theorem uJ(C:Tcx h0 hB A B a b cc kk)(s:Tst hB A B T a b 40 j p2 q1 h)(N:rgt x=IN)(Z:p.Al q)(a0:p1.Al q1)(H:h.Row r 0 (tlX x (TlX x p) p1 iv bw))(t12:AF5 h k iv bw (TlX x p))(M:fl h hB.next T x q q1 w)
  (s3:J 3 e=pt A.tb)(s12:J 12 e=pt r)(a7:J 17 e=w)(a8:J 18 e=AI AT 0):
  ∃c h',twG (call AC (m+13)) e h=.norm c h'/\h.Ext h'/\∀j,wq j->J j c=J j e:=by
 have o:=s.f.wf;obtain⟨kw,b1,M,a5,h8,g,b2,b0,tr⟩:=M;obtain⟨V,hT,_⟩:=s.U.tab;obtain⟨K,i,d,y,R,t3⟩:=Uc (m:=m+6) o V hT M tr.hd tr.z0 tr.rm tr.ok tr.nx tr.no tr.nl a5 h8;have y:call AC (m+13) 23 [pt A.tb,w] h=.ok (.tuple ⟨[Be x.lf x.sq x.op (ans q x).z i d (q1.fr.length:Int),AI AT 0]⟩) K:=y;have t:=R.wf;obtain⟨g3,L,a4,E,l,U,_⟩:=Jk t Dd rfl (vs:=B9 x.lf x.sq x.op (ans q x).z i d (q1.fr.length:Int)) rfl (KX t3.i1 t3.b1);have E:AEn 7 (pt K.next) (Be x.lf x.sq x.op (ans q x).z i d (q1.fr.length:Int)) g3=.ok AEl L:=E;have W:=l.wf;have F:=R.trans l;obtain⟨_,_,_,a6⟩:=B7 U;have f:TlX x p=ans p x:=If N;obtain⟨X,Y,I⟩:=mf (x:=x) Z;have e4:tlX x (TlX x p) p1 iv bw=B9 x.lf x.sq x.op (ans q x).z iv bw (q1.fr.length:Int):=by
  unfold tlX hd1 hd2 hd3 IH;simp only[N,if_true];rw[f,X,a0.2.2]
 rw[e4]at H;obtain⟨_,_,_,S⟩:=B7 (H.ext o F);have G:=t12.ext o F;have Q:=G.V;have P:=G.is;rw[f,I]at Q;rw[f]at P;obtain⟨u,D,y4⟩:=Lv (n:=m+11) (lf:=x.lf) (sq:=x.sq) (op:=x.op) (z:=(ans q x).z) (room:=(q1.fr.length:Int)) W (t3.is.ext t l) P (ur Y).symm t3.ok (yS t3.nx (by omega)) (t3.V.ext t l) Q (λa9 O=>by rw[<- I,<- f]at O;exact t12.b8 a9 O);have D:call AC (m+13) 22 [Be x.lf x.sq x.op (ans q x).z i d (q1.fr.length:Int),Be x.lf x.sq x.op (ans q x).z iv bw (q1.fr.length:Int)] L=.ok (.bool IN) u:=D;have c0:iNe 0 0=IT:=B0 rfl;refine(show ∃c,twG (call AC (m+13)) e h=.norm c u/\∀j,wq j->J j c=J j e from ?_).elim λc ⟨r1,r2⟩=>⟨c,u,r1,F.trans y4,r2⟩
 unfold twG;simp only[sT,xT,sh,reduceIte,gD,cA0,s3,a7,y,Aq,Az,A1,a4,AW,E,AK,AJ,a8,c0,An,Ah,a6,s12,S,D,BJ,BI,yY];refine⟨_,rfl,λj hj=>?_⟩;rcases hj with rfl|rfl|rfl|rfl|rfl|rfl|rfl<;>simp only[AG,xT,sh,reduceIte]
theorem uK(C:Tcx h0 hB A B a b cc kk)(s:Tst hB A B T a b 40 (j+40) p q h)(Y:p.Al q)(K:hB.KL kk vl xs)(hi:xs[i]? =BY x)(ok:AGc h0 x)(b0:x.l.length<=150)
  (s3:J 3 e=pt A.tb)(s4:J 4 e=pt A.bd)(s5:J 5 e=pt a)(s8:J 8 e=pt b)(b7:J 41 e=vl)(b8:J 43 e=AI AT (i:Int)):
  ∃G h',∃p' q':Nst,(twB (call AC (m+13)) e h=.norm G h'\/twB (call AC (m+13)) e h=.exit 1 G h')/\Tst hB A B T a b 40 j p' q' h'/\p'.Al q'/\∀j,wq j->J j G=J j e:=by
 obtain⟨e1,h1,a1,a3,d7,k,k14,iv,bw,iv2,bw2,v14,w,p1,p2,q1,z0,s1,t,a7,a8,c8,c9,d0,d2,d3,d4,X,b3,t12,t19,hk,W,d5,d1,Z,d6,ip,cp,iq,cq,b1,b6,b5⟩:=fI (m:=m) C s K hi ok b0 s3 s4 s5 s8 b7 b8;have E:=iW ip iq cp cq Y d1 d6;have l:=s1.f.wf;have g3:=(t 3 (by unfold wq;omega)).trans s3;have g5:=(t 5 (by unfold wq;omega)).trans s5;have g8:=(t 8 (by unfold wq;omega)).trans s8;obtain⟨_,_,_,a9⟩:=B7 X;obtain⟨_,_,_,b2⟩:=B7 b3;obtain⟨u,I,D⟩:=Lv (n:=m+11) (lf:=hd1 x) (sq:=hd2 x) (op:=hd3 x) (z:=(TlX x p).z) (room:=IH x p1) l t12.is t19.is rfl t12.ok (yS t12.nx (by omega)) t12.V t19.V t12.b8;have I:call AC (m+13) 22 [Be (hd1 x) (hd2 x) (hd3 x) (TlX x p).z iv bw (IH x p1),Be (hd1 x) (hd2 x) (hd3 x) (TlX x p).z iv2 bw2 (IH x p1)] h1=.ok (.bool IN) u:=I;have s2:=s1.ext D;have W2:=s2.f.wf;have k3:call AC (m+13) 11 [pt a] u=.ok (.bool IT) u:=s2.U.over (m:=m+11) s2.N;obtain⟨h4,v4,L,S,L4⟩:=Pv (m:=m+8) W2 s2.N s2.U;have L:call AC (m+13) 17 [pt a] u=.ok v4 h4:=L;have W4:=S.wf;obtain⟨r5,h5,N,y5,q5⟩:=TO (m:=m+10) W4 L4 (W.ext l (D.trans S)) s2.U.inv.2.2 b1 s2.U.few;obtain rfl:=q5 Z.2.1;have N:call AC (m+13) 19 [v4,v14] h4=.ok (.bool IN) h5:=N;have U:=S.trans y5;have r:=s2.ext U;have W5:=r.f.wf;obtain⟨h6,v6,O,V,L6⟩:=Pv (m:=m+8) W5 r.O r.V;have O:call AC (m+13) 17 [pt b] h5=.ok v6 h6:=O;have W6:=V.wf;obtain⟨r7,g,P,y7,q7⟩:=TO (m:=m+10) W6 L6 (W.ext l ((D.trans U).trans V)) r.V.inv.2.2 b1 r.V.few;obtain rfl:=q7 E.2.1.symm;have P:call AC (m+13) 19 [v6,v14] h6=.ok (.bool IN) g:=P;have a6:=U.trans (V.trans y7);have s7:=s2.ext a6;have c1:iNe (erX x) (erX x)=IT:=B0 rfl;obtain⟨d,a2,w3,b9,a4,y,c0,a5,wj⟩:∃d,twC (call AC (m+13)) e1 h1=twD (call AC (m+13)) d g/\J 3 d=pt A.tb/\J 12 d=pt a3/\J 13 d=AI AT (erX x)/\J 16 d=AI AT (erX x)/\J 17 d=w/\J 18 d=AI AT a1/\∀j,wq j->J j d=J j e1:=by
  rw[uF];unfold uG;simp only[sT,xT,sh,reduceIte,gD,AK,AJ,a8,d4,c1,An,Ah,a7,d3,a9,b2,cA0,I,BJ,BI,yY,g5,k3,L,c8,N,g8,O,P];refine⟨_,rfl,by simp[AG,g3],by simp[AG,a7],by simp[AG,a8],by simp[AG,c9],by simp[AG,d0],by simp[AG,d2],λj c=>?_⟩;rcases c with rfl|rfl|rfl|rfl|rfl|rfl|rfl<;>simp only[AG,xT,sh,reduceIte]
 have a0:=Z.trans E;cases o:rgt x
 ·have H:erX x=110:=No (by rw[o];decide)
  rw[H]at a4 y;have F:iNe 110 0=IN:=EG (by omega);have c3:iNe 110 110=IT:=B0 rfl;have c4:iEq a1 0=IT:=CF (b5 o);obtain⟨f,Q,vj⟩:∃f,twD (call AC (m+13)) d g=.exit 1 f g/\∀j,wq j->J j f=J j d:=by
   rw[fG];unfold lV;simp only[sT,xT,sh,reduceIte,gD,AK,AJ,y,F,a4,c3,a5,c4];refine⟨_,rfl,λj c=>?_⟩;rcases c with rfl|rfl|rfl|rfl|rfl|rfl|rfl<;>simp only[AG,xT,sh,reduceIte]
  exact⟨f,g,p2,q1,.inr (by rw[z0,a2,Q]),s7,a0,λj c=>(vj j c).trans ((wj j c).trans (t j c))⟩
 ·have H:erX x=0:=If o
  rw[H]at y;obtain⟨rfl,M⟩:=b6 o;have F:iNe 0 0=IT:=B0 rfl;obtain⟨f,Q,x3,c5,c6,c7,xj⟩:∃f,twD (call AC (m+13)) d g=twG (call AC (m+13)) f g/\J 3 f=pt A.tb/\J 12 f=pt a3/\J 17 f=w/\J 18 f=AI AT 0/\∀j,wq j->J j f=J j d:=by
   rw[fG];unfold lV;simp only[sT,xT,sh,reduceIte,gD,AK,AJ,y,F];refine⟨_,rfl,by simp[AG,w3],by simp[AG,b9],by simp[AG,c0],by simp[AG,a5],λj c=>?_⟩;rcases c with rfl|rfl|rfl|rfl|rfl|rfl|rfl<;>simp only[AG,xT,sh,reduceIte]
  have R:=D.trans a6;obtain⟨kw,b4,M1,M2⟩:=M;obtain⟨e4,h8,p4,y8,yj⟩:=uJ (m:=m) C s7 o Y E (X.ext l R) (t12.ext l R) ⟨kw,b4,M1.ext l R,M2⟩ x3 c5 c6 c7;exact⟨e4,h8,p2,q1,.inl (by rw[z0,a2,Q,p4]),s7.ext y8,a0,λj c=>(yj j c).trans ((xj j c).trans ((wj j c).trans (t j c)))⟩
end
section
variable {F:AEh}{e:Env}{h g g':Hp}{T M:List Nat}{bs r9 k1 bd bm bc tb i m n c0 k p:Nat}{arm x:Int}{fv:xU}
theorem eU:call AC (m+6) 70 [AEk,.func (.func 71) ⟨[]⟩ ⟨[]⟩] h=.ok AEl h:=by
 have r:AFB AEk h=.ok (AI AT ((0:Nat):Int)) h:=rfl;have c:GC .i64 (AI AT 0) (AI AT 1) h=.ok (AI AT ((1:Nat):Int)) h:=Cc (i:=0) (by omega);have c0:iLt ((1:Nat):Int) ((0:Nat):Int)=IT:=Cz (by omega);have p:call AC (m+4) 133 [AEk,AI AT 0,AI AT ((0:Nat):Int),.func (.func 71) ⟨[]⟩ ⟨[]⟩] h=.ok AEl h:=by
  have o:∀e:Env,J 8 e=AI AT ((1:Nat):Int)->J 2 e=AI AT ((0:Nat):Int)->∃j,jsB (call AC (m+3)) e h=.exit 0 j h:=λe t8 t2=>by
   rw[Uk];unfold cJ;simp only[sT,xT,sh,reduceIte,AK,AJ,t8,t2,c0];exact⟨_,rfl⟩
  obtain⟨b,a⟩:=o (Env.set 8 (AI AT ((1:Nat):Int)) (Env.set 11 (AI AT ((1:Nat):Int)) (Au e0 0 [AEk,AI AT 0,AI AT ((0:Nat):Int),.func (.func 71) ⟨[]⟩ ⟨[]⟩]))) (by simp[AG]) (by simp only[iN,xV,AG,xT,sh,reduceIte]);have a:=LO a;simp only[iN,xV]at a;rw[WK rfl,Wd];unfold We;simp only[iN,xV,sT,xT,sh,reduceIte,BW,c,a,ET,EN]
 obtain⟨k,q⟩:=Pw (m:=m+3) (h:=h) (n:=0) (by omega);have g:Ct .u64 (AI AT ((0:Nat):Int)) h=.ok (.int .u64 ((0:Nat):Int)) h:=by rw[Bu,DJ (by omega)]
 have d:Fp Int.sub .i64 (AI AT ((0:Nat):Int)) (AI AT 0) h=.ok (AI AT ((0:Nat):Int)) h:=rfl;have f:iLe ((0:Nat):Int) 12=IN:=Gv (by omega);have s:call AC (m+5) 111 [AEk,AI AT 0,AI AT ((0:Nat):Int),AI AT (k:Int),.func (.func 71) ⟨[]⟩ ⟨[]⟩] h=.ok AEl h:=by
  have l:∃b,pdB (call AC (m+4)) (Env.set 11 (.bool IN) (Env.set 10 (.bool IN) (Au e0 0 [AEk,AI AT 0,AI AT ((0:Nat):Int),AI AT (k:Int),.func (.func 71) ⟨[]⟩ ⟨[]⟩]))) h=.ret b h:=by
   rw[df];unfold kT;simp only[iN,xV,sT,xT,sh,reduceIte,B6,d,AK,AJ,f,cA0,p];exact⟨_,rfl⟩
  obtain⟨b,a⟩:=l;have a:=Nc a;simp only[iN,xV]at a;rw[WG rfl,WU];unfold WV;simp only[iN,xV,sT,xT,sh,reduceIte,a,Av,EN]
 rw[aE rfl];unfold d70;simp only[iN,xV,sT,xT,sh,reduceIte,AX,r,Bi,g,cA0,q,s,ET,EN]
theorem RO:call AC (m+4) 72 [AEk] h=.ok AEk h:=by
 have e:AFB AEk h=.ok (AI AT ((0:Nat):Int)) h:=rfl;have d:=Cz (xW 0);obtain⟨a,f,s3,s9,s10⟩:∃a,iP (call AC (m+3)) (Au e0 0 [AEk]) h=coS (call AC (m+3)) a h/\J 3 a=AEk/\J 9 a=AI AT ((0:Nat):Int)/\J 10 a=AI AT ((0:Nat):Int):=by
  unfold iP;simp only[iN,xV,sT,xT,sh,reduceIte,AX,e];exact⟨_,rfl,by simp[AG]⟩
 obtain⟨b,c,g⟩:∃b,coB (call AC (m+3)) a h=.exit 0 b h/\J 3 b=AEk:=by
  unfold coB;simp only[sT,xT,sh,reduceIte,AK,AJ,s10,s9,d];exact⟨_,rfl,by simp[AG,s3]⟩
 have c:=LO c;rw[pN rfl,rF,f,qE];simp only[A7,Ap,c,A5,Ay];unfold coE;simp only[sT,xT,sh,reduceIte,g,lV0]
theorem P9:call AC (m+2) 76 [AEk,AI AT x] h=.ok (.bool IT) h:=by
 have f:AFB AEk h=.ok (AI AT 0) h:=rfl;have d:iLt 0 0=IT:=FI (by omega);have k1:call AC (m+1) 118 [AEk,AI AT x] h=.ok (AI AT (-1)) h:=by
  obtain⟨a,g,i,j⟩:∃a,Wa (call AC m) (Au e0 0 [AEk,AI AT x]) h=ixS (call AC m) a h/\J 7 a=AI AT 0/\J 8 a=AI AT 0:=by
   unfold Wa;simp only[iN,xV,sT,xT,sh,reduceIte,AX,f];exact⟨_,rfl,by simp[AG]⟩
  obtain⟨c,b⟩:∃c,ixB (call AC m) a h=.exit 0 c h:=by
   unfold ixB;simp only[sT,xT,sh,reduceIte,AK,AJ,j,i,d];exact⟨_,rfl⟩
  have b:=LO b;rw[gQ rfl,hU,g,sU];simp only[A7,Ap,b,A5,Ay];unfold ixE;simp only[sT,xT,sh,reduceIte,lV0]
 have e:iGe (-1) 0=IT:=EX (by omega);rw[pQ rfl];unfold d76;simp only[iN,xV,sT,xT,sh,reduceIte,cA0,k1,AK,AJ,e,lV0]
theorem UN(b:h.Wf)(R:h.Row bs 0 (slL bd tb AEk fv 0 IT))(i:h.Row r9 0 [pt bs]):∃h',call AC (m+4) 73 [AI AT (p:Int),pt r9] h=.ok (.bool IT) h'/\h.Ext h':=by
 have d:=λ(F:AEh) (e:Env) (k:J 0 e=AI AT (p:Int))=>Ic (F:=F) b k
 have a:=(Hp.Ext.refl b).AEg 0 [AI AT (p:Int)];generalize h.AEg 0 [AI AT (p:Int)]=j at d a;have o:=Dy (i.ext b a);obtain⟨_,_,_,n,_⟩:=BK (R.ext b a);obtain⟨f,c,q⟩:=jH (m:=m+1) (g:=75) (caps:=[pt h.next]) (P:=λ_=>IT) (v:=AEk) (ks:=[]) (S:=λ_=>True) a.wf (.inl ⟨rfl,rfl⟩) (yH _) λg r s l=>by cases l
 have c:call AC (m+3) 74 [AEk,.func (.func 75) ⟨[]⟩ ⟨[pt h.next]⟩] j=.ok (.bool IT) f:=c;refine⟨f,?_,a.trans q⟩;rw[pO rfl];unfold d73;simp only[iN,xV,sT,xT,sh,reduceIte,d,AN,AQ,o,Ax,Am,AH,AO,xZ,n,Dx,AV,A4,BX,c,lV0]
theorem dY(D:g.Wf)(d:Dk g bd bm bc n M c0 [] arm IT)(C:g.Row tb 0 (T.map wv))(L:AFQ T)(R:g.Row bs 0 (slL bd tb AEk AEk 0 IT))(B:g.Row r9 0 [pt bs])(W:n=24)(O:∀p,p<8->lkN T M p=none/\I4 T M p=IT)(hi:i<n/3)
  (t9:J 9 e=pt r9)(t51:J 51 e=AI AT ((n/3:Nat):Int))(t52:J 52 e=AI AT (i:Int)):
  ∃f g',Sp (call AC (m+6)) e g=.norm f g'/\g.Ext g'/\J 52 f=AI AT ((i+1:Nat):Int)/\∀j,j=2\/j=8\/j=9\/j=10\/j=11\/j=51->J j f=J j e:=by
 obtain⟨y,V⟩:=O i (by omega);have I:iLt (i:Int) ((n/3:Nat):Int)=IN:=EU hi;have P:=Dy B;obtain⟨c,b,A⟩:=XQ (m:=m+1) D R C L d (p:=i) (by omega);have r:=λ(F:AEh) (e:Env)=>BO (F:=F) (e:=e) b.wf (n:=6) (t:=C1)
 have q:=Hp.Row.alloc b.wf GB (show(Aj K0).length=6 from rfl);have w:c.Ext (c.push (.cells C1 6 0)):=(Hp.Ext.refl b.wf).push _;generalize c.push (.cells C1 6 0)=K at r q w;have H:iNe 0 0=IT:=B0 rfl;rcases A with ⟨Y,Z,o,s,X⟩|⟨o,G,s,z⟩
 ·rw[SS o]at y
  cases y
 ·obtain⟨u,_,x,_,_⟩:=N0 b.wf w (xW _) q rfl (k:=K0) rfl
  generalize K.wr c.next 0 (Aj K0)=l at u x;cases G with
  |true=>exact absurd (V.symm.trans (Na.2 ⟨o,z.1 rfl⟩)) (by decide)
  |false=>
   have E:=Cc (i:=i) (h:=l) (by omega);refine(show ∃a,Sp (call AC (m+6)) e g=.norm a l/\J 52 a=AI AT ((i+1:Nat):Int)/\∀j,j=2\/j=8\/j=9\/j=10\/j=11\/j=51->J j a=J j e from ?_).elim λa ⟨Q,S,U⟩=>⟨a,l,Q,b.trans x,S,U⟩
   unfold Sp;simp only[sT,xT,sh,reduceIte,gD,AK,AJ,t52,t51,I,AN,AQ,t9,P,cA0,s,Aq,Az,A1,Bx,HI,r,AW,u,H,BW,E];refine⟨_,rfl,by simp[AG],λj N=>?_⟩;rcases N with rfl|rfl|rfl|rfl|rfl|rfl<;>simp only[AG,xT,sh,reduceIte]
structure Z2 (h g:Hp)(bs r9 k1 bd tb i:Nat)(fv:xU):Prop where
 x:h.Ext g
 row:g.Row bs 0 (slL bd tb AEk fv 0 IT)
 rb:g.Row r9 0 [pt bs]
 fs:g.Own k1 3 fv (ints .i64 ((zP i).map Int.ofNat))
 le:k1<=g.next
theorem Z2.ext(o:Z2 h g bs r9 k1 bd tb i fv)(x:g.Ext g'):Z2 h g' bs r9 k1 bd tb i fv:=
 have a:=o.x.wf
 ⟨o.x.trans x,o.row.ext a x,o.rb.ext a x,o.fs.ext a x,yS o.le x.next⟩
theorem dZ(S:h.Wf)(o:Z2 h g bs r9 k1 bd tb i fv)(a5:h.next<=bs/\bs<r9/\r9<k1)(hn:n=24)(hi:i<n/3)
  (t9:J 9 e=pt r9)(t11:J 11 e=AEk)(t17:J 17 e=.func (.func 73) ⟨[]⟩ ⟨[pt r9]⟩)(eu:J 102 e=AI AT ((n/3:Nat):Int))(ZN:J 103 e=AI AT (i:Int)):
  ∃s g' Z,Sq (call AC (m+6)) e g=.norm s g'/\Z2 h g' bs r9 k1 bd tb (i+1) Z/\J 103 s=AI AT ((i+1:Nat):Int)/\∀j,j=9\/j=11\/j=17\/j=18\/j=102->J j s=J j e:=by
 have T:=o.x.wf;have a6:h.next<=k1:=by omega
 have P:256<=bs:=by have:=S.big;omega
 have W:iLt (i:Int) ((n/3:Nat):Int)=IN:=EU hi;obtain⟨a,a8,x1⟩:=UN (m:=m+2) (p:=i) T o.row o.rb;have w:=o.ext x1;have q:=w.x.marked;have y:=w.ext (Hp.Ext.refl w.x.wf).marked;have lb:=Dy y.rb;obtain⟨_,_,_,_,l4,_⟩:=BK y.row;have N:∀(F:AEh) (e:Env),J 19 e=AI AT (i:Int)->Ac .AEv (Ab 1 (BP ty3.zero 1) [(0,1,J 19)]) F e a.marked=.ok (.slice (BY ⟨a.next,0,none⟩) 1 1) (a.marked.back (a.marked.quiet.AEg 0 [AI AT (i:Int)])):=λF e he=>Cq (Id q.wf.quiet he) ((Hp.Ext.refl q.wf.quiet).AEg _ _) (xW _)
 have O:a.marked.Ext (a.marked.back (a.marked.quiet.AEg 0 [AI AT (i:Int)])):=.back ((Hp.Ext.refl q.wf.quiet).AEg _ _);have A:(a.marked.back (a.marked.quiet.AEg 0 [AI AT (i:Int)])).Row a.next 0 [AI AT (i:Int)]:=(Hp.Row.new q.wf.quiet 0 [AI AT (i:Int)]).same rfl;generalize a.marked.back (a.marked.quiet.AEg 0 [AI AT (i:Int)])=G at N O A;have c:=y.ext O;have X:∀(K:C) (F:AEh) (e:Env),J 114 e=fv->J 9 e=pt r9->Ci (J 114) [J 9] K F e G=K F e G:=λK F e B D=>by
  rcases c.fs with ⟨d,_⟩|⟨V,d,H,I,_⟩
  ·exact gk (b:=0) B (.inl d) D (.inl d)
  ·exact gk (b:=V) B (.inr ⟨_,_,_,d⟩) D (.inr (by omega))
 obtain⟨h3,l,k3,z,E,n3,_,L,_⟩:=kQ c.x a6 c.le c.fs A (by unfold ints;rw[xa,xa,ABh];omega);have Q:=L _ _ _ (c.fs.nb c.row (by omega)) c.row;have b0:=L _ _ _ (c.fs.nb c.rb (by omega)) c.rb;have kG:cellsOf l=[l]/\oneCell l=IN:=by
  rcases E with ⟨a,_⟩|⟨b,a,_⟩<;>rw[a]<;>exact⟨rfl,rfl⟩
 obtain⟨f,k4,R,n4,_,a0,Y⟩:=NK z.wf Q (off:=4) (show 4<7 by omega) P kG.1 kG.2;have M:∀b t r,b≠bs->h3.Row b t r->f.Row b t r:=λb t r hb a9=>a0.row z.wf a9 hb
 have u:=P9 (m:=m+4) (x:=(i:Int)) (h:=f);have u:call AC (m+6) 76 [AEk,AI AT (i:Int)] f=.ok (.bool IT) f:=u;have U:=Cc (i:=i) (h:=f) (by omega);have a7:∃k,Sq (call AC (m+6)) e g=.norm k f/\J 103 k=AI AT ((i+1:Nat):Int)/\∀j,j=9\/j=11\/j=17\/j=18\/j=102->J j k=J j e:=by
  unfold Sq;simp only[sT,xT,sh,reduceIte,AK,AJ,ZN,eu,W,CU,t17,Cf,AV,A4,List.nil_append,List.singleton_append,a8,BJ,BI,yg,Aw,AN,AQ,t9,lb,Ax,Am,AH,AO,xZ,l4,N];rw[X _ _ _ (by simp[AG]) (by simp[AG,t9])];simp only[sT,xT,sh,reduceIte];rw[k3 _ _ _ _ (by simp[AG]) (by simp[AG])];simp only[sT,xT,sh,reduceIte,Ax,Am,AH,AO,xZ];rw[k4 _ _ _ _ (by simp[AG]) (by simp[AG])];simp only[sT,xT,sh,reduceIte,cA0,t11,u,ZN,BW,U];refine⟨_,rfl,by simp[AG],λj hj=>?_⟩;rcases hj with rfl|rfl|rfl|rfl|rfl<;>simp only[AG,xT,sh,reduceIte]
 obtain⟨k,r1,r2,r3⟩:=a7;refine⟨k,f,l,r1,⟨Y h z a5.1,R,M _ _ _ (by omega) b0,?_,by have:=c.le;omega⟩,r2,r3⟩;rw[List.range_succ,cE];rcases E with d|⟨b,d,H,I,a4⟩
 ·exact .inl d
 ·exact .inr ⟨b,d,M b _ _ (by omega) H,I,a4⟩
theorem dT(o:h.Wf)(d:Dk h bd bm bc n M c0 [] arm IT)(S:h.Row tb 0 (T.map wv))(hT:AFQ T)(hn:n=24)(hz:∀p,p<8->lkN T M p=none/\I4 T M p=IT)(V:tb≠bd/\tb≠bm/\tb≠bc):
  ∃h' bs fv,call AC (m+8) 39 [pt bd,pt tb,AI AT 100] h=.ok (.tuple ⟨[pt bs,AI AT 0]⟩) h'/\h.Ext h'/\Sl h' ⟨bs,bd,bm,bc,tb,n⟩ T M c0 arm [] (zP (n/3)) AEk fv 0 IT/\h.next<=bs:=by
 have big:=o.big;have b8:∀(Y:Nat) (g:Hp),call AC (Y+1) 68 [AI AT 100] g=.ok (AI AT 3) g:=λY g=>by
  have:=Xu (n:=Y) (h:=g) (z:=100);rw[Pd]at this;exact this
 have a0:=λg=>b8 (m+6) g
 have k1:=lJ (m:=m+5) d;have k2:=Wi (m:=m+5) d;have E:iEq (n:Int) 0=IT:=CF (by omega);have c2:iEq 3 0=IT:=CF (by omega);have c3:iGt 3 (n:Int)=IT:=FW (by omega);have ne:∀(F:AEh) (e:Env),J 27 e=pt tb->oEq Td.k IT (J 27) (W (.pointer none)) F e h=.ok (.bool IT) h:=λF e w=>GU mW w
 have bl:∀(F:AEh) (e:Env),J 0 e=pt bd->J 1 e=pt tb->J 2 e=AI AT 100->BG Tb.zero [(0,1,J 0),(1,1,J 1),(2,1,J 2)] F e h=.ok (.agg ⟨slL bd tb AEk AEk 0 IT⟩) h:=λF e a5 l a6=>gE a5 l a6
 have bx:∀(F:AEh) (e:Env),J 46 e=.agg ⟨slL bd tb AEk AEk 0 IT⟩->CV (J 46) F e h=.ok (pt h.next) (h.AEg 0 (slL bd tb AEk AEk 0 IT)):=λF e w=>by rw[DN,w,DM o];rfl
 have D:=(Hp.Ext.refl o).AEg 0 (slL bd tb AEk AEk 0 IT);have K:=Hp.Row.new o 0 (slL bd tb AEk AEk 0 IT);have n1:(h.AEg 0 (slL bd tb AEk AEk 0 IT)).next=h.next+1:=rfl;generalize h.AEg 0 (slL bd tb AEk AEk 0 IT)=a at bx D K n1;obtain⟨t,al,st,u,R,n2,_⟩:=Jl D.wf mG (v:=pt h.next) rfl rfl;have x2:=D.trans u;have dv:=λg=>wi (h:=g) (n:=n) (by omega)
 obtain⟨q,p1,s2,s8,s9,s10,s11,b6,b7⟩:∃q,iG (call AC (m+7)) (Au e0 0 [pt bd,pt tb,AI AT 100]) h=tH (call AC (m+7)) q t/\J 2 q=AI AT 100/\J 8 q=AI AT (n:Int)/\J 9 q=pt a.next/\J 10 q=AEk/\J 11 q=AEk/\J 51 q=AI AT ((n/3:Nat):Int)/\J 52 q=AI AT ((0:Nat):Int):=by
  unfold iG;simp only[iN,xV,sT,xT,sh,reduceIte,gD,cA0,k1,AK,AJ,E,ne,a0,c2,c3,k2,bl,bx,al,AW,st,J9,dv];exact⟨_,rfl,by simp[AG]⟩
 obtain⟨f,g2,q1,x3,t10,t11,t2,t8,t9⟩:∃b g,A3 Sp (call AC (m+7)) q t=.exit 1 b g/\t.Ext g/\J 10 b=AEk/\J 11 b=AEk/\J 2 b=AI AT 100/\J 8 b=AI AT (n:Int)/\J 9 b=pt a.next:=by
  refine Bd (I:=λi b g=>t.Ext g/\i<=n/3/\J 52 b=AI AT (i:Int)/\∀c,c=2\/c=8\/c=9\/c=10\/c=11\/c=51->J c b=J c q)
   (Q:=λx=>∃b g,x=.exit 1 b g/\t.Ext g/\J 10 b=AEk/\J 11 b=AEk/\J 2 b=AI AT 100/\J 8 b=AI AT (n:Int)/\J 9 b=pt a.next) (n/3) (by omega) (λi b g ⟨x,hi,t52,j⟩=>?_) ⟨.refl u.wf,yH _,b7,λ_ _=>rfl⟩
  have t9:=(j 9 (by omega)).trans s9;have t51:=(j 51 (by omega)).trans b6;by_cases A:i<n/3
  ·left
   obtain⟨f,g2,B,c8,r,G⟩:=dY (m:=m+1) x.wf (d.ext o (x2.trans x)) (S.ext o (x2.trans x)) hT (K.ext D.wf (u.trans x)) (R.ext u.wf x) hn hz A t9 t51 t52;exact⟨A,f,g2,B,x.trans c8,A,r,λc y=>(G c y).trans (j c y)⟩
  ·right
   have E:iLt (i:Int) ((n/3:Nat):Int)=IT:=Cz (by omega);obtain⟨f,B,r⟩:∃f,Sp (call AC (m+7)) b g=.exit 1 f g/\∀c,c=2\/c=8\/c=9\/c=10\/c=11->J c f=J c b:=by
    unfold Sp;simp only[sT,xT,sh,reduceIte,AK,AJ,t52,t51,E];refine⟨_,rfl,λc y=>?_⟩;rcases y with rfl|rfl|rfl|rfl|rfl<;>simp only[AG,xT,sh,reduceIte]
   rw[B];exact⟨rfl,f,g,rfl,x,((r 10 (by omega)).trans (j 10 (by omega))).trans s10,((r 11 (by omega)).trans (j 11 (by omega))).trans s11,((r 2 (by omega)).trans (j 2 (by omega))).trans s2,((r 8 (by omega)).trans (j 8 (by omega))).trans s8,((r 9 (by omega)).trans (j 9 (by omega))).trans s9⟩
 have k3:call AC (m+7) 70 [AEk,.func (.func 71) ⟨[]⟩ ⟨[]⟩] g2=.ok AEl g2:=eU (m:=m+1);have H:=x3.marked;have Rm:=K.ext D.wf (u.trans H);have lb:=Dy (R.ext u.wf H);have b5:∀(X:C) (F:AEh) (e:Env),Ir (pt a.next) X F e g2.marked=X F e g2.marked:=λX F e=>Df (by
  show a.next<g2.next;have:=x3.next;omega)
 have q5:∀e:Env,J 10 e=AEk->Ac .weak (AS 72 [J 10]) (call AC (m+7)) e g2.marked=.ok AEk (g2.marked.back g2.marked.quiet):=λe w=>by
  refine Cq ?_ (.refl H.wf.quiet) (xW _);rw[BX,AV,A4,w];exact RO (m:=m+3)
 have y5:g2.marked.Ext (g2.marked.back g2.marked.quiet):=.back (.refl H.wf.quiet);generalize g2.marked.back g2.marked.quiet=g6 at q5 y5;have N:=H.trans y5;have Z:=x2.trans N;obtain⟨g7,k7,P,n7,_,b0,a8⟩:=NK (v:=AEk) Z.wf (K.ext D.wf (u.trans N)) (off:=3) (show 3<7 by omega) big rfl rfl;have x7:=a8 h Z (xW _);have P:g7.Row h.next 0 (slL bd tb AEk AEk 0 IT):=P;have d1:=N.next;have b2:h.next<=h.next/\h.next<a.next/\a.next<t.next:=⟨xW _,by omega,by omega⟩;have p0:Z2 h g7 h.next a.next t.next bd tb 0 AEk:=⟨x7,P,b0.row Z.wf (R.ext u.wf N) (by omega),.inl ⟨rfl,rfl⟩,by omega⟩;obtain⟨s,p3,u9,b9,c5,c6,a3,a4⟩:∃s,Xd (call AC (m+7)) f g2=tJ (call AC (m+7)) s g7/\J 9 s=pt a.next/\J 11 s=AEk/\J 17 s=.func (.func 73) ⟨[]⟩ ⟨[pt a.next]⟩/\J 18 s=AEk/\J 102 s=AI AT ((n / 3:Nat):Int)/\J 103 s=AI AT ((0:Nat):Int):=by
  unfold Xd;simp only[sT,xT,sh,reduceIte,cA0,t10,k3,Aw,ED,t9,b5,DQ,AN,AQ,lb,q5,Ax,Am,AH,AO,xZ];rw[k7 _ _ _ _ (by simp[AG]) (by simp[AG])];simp only[sT,xT,sh,reduceIte,cA0,Dx,t9,t2,a0,t8,J9,dv];exact⟨_,rfl,by simp[AG,t9,t11]⟩
 obtain⟨e4,g8,fv,q8,o8,v9,c7⟩:∃b g fv,A3 Sq (call AC (m+7)) s g7=.exit 4 b g/\Z2 h g h.next a.next t.next bd tb (n/3) fv/\J 9 b=pt a.next/\J 18 b=AEk:=by
  refine Bd (I:=λi b g=>∃fv,Z2 h g h.next a.next t.next bd tb i fv/\i<=n/3/\J 103 b=AI AT (i:Int)/\∀c,c=9\/c=11\/c=17\/c=18\/c=102->J c b=J c s)
   (Q:=λx=>∃b g fv,x=.exit 4 b g/\Z2 h g h.next a.next t.next bd tb (n/3) fv/\J 9 b=pt a.next/\J 18 b=AEk) (n/3) (by omega) (λi b g ⟨fv,a2,hi,ZN,j⟩=>?_) ⟨_,p0,yH _,a4,λ_ _=>rfl⟩
  have eu:=(j 102 (by omega)).trans a3;by_cases A:i<n/3
  ·left
   obtain⟨f,g2,a9,B,o2,r,G⟩:=dZ (m:=m+1) o a2 b2 hn A ((j 9 (by omega)).trans u9) ((j 11 (by omega)).trans b9) ((j 17 (by omega)).trans c5) eu ZN;exact⟨A,f,g2,B,a9,o2,A,r,λc y=>(G c y).trans (j c y)⟩
  ·right
   obtain rfl:i=n/3:=by omega
   have E:iLt ((n/3:Nat):Int) ((n/3:Nat):Int)=IT:=Cz (by omega);obtain⟨f,B,r,G⟩:∃f,Sq (call AC (m+7)) b g=.exit 4 f g/\J 9 f=J 9 b/\J 18 f=J 18 b:=by
    unfold Sq;simp only[sT,xT,sh,reduceIte,AK,AJ,ZN,eu,E];exact⟨_,rfl,by simp[AG]⟩
   rw[B];exact⟨rfl,f,g,fv,rfl,a2,(r.trans (j 9 (by omega))).trans u9,(G.trans (j 18 (by omega))).trans c6⟩
 have L:=o8.x.wf;have lt:=d.lt o;have nD:∀l,h.next<l->¬(⟨h.next,bd,bm,bc,tb,n⟩:At).D l:=λl hb=>by
  rintro (a|a|a|a)
  ·have a:l=h.next:=a
   omega
  ·have a:l=bd:=a
   omega
  ·have a:l=bm:=a
   omega
  ·have a:l=bc:=a
   omega
 have c9:=S.lt o;have sl:Sl g8 ⟨h.next,bd,bm,bc,tb,n⟩ T M c0 arm [] (zP (n/3)) AEk fv 0 IT:=by
  refine⟨o8.row,d.ext o o8.x,S.ext o o8.x,hT,.inl ⟨rfl,rfl⟩,λk hk=>(by cases hk),?_,⟨by show h.next≠bd;omega,by show h.next≠bm;omega,by show h.next≠bc;omega,?_,big⟩,⟨yH _,by rw[ABh];omega,by omega,λp hp=>?_⟩⟩
  ·rcases o8.fs with U|⟨l,U,b1,d0,_⟩
   ·exact .inl U
   ·exact .inr ⟨l,4,U,b1,.inl rfl,nD l (by omega)⟩
  ·rintro (a|a|a|a)
   ·have a:tb=h.next:=a
    omega
   ·exact V.1 a
   ·exact V.2.1 a
   ·exact V.2.2 a
  ·have:=AAZ.1 hp
   show 3*p+3<=n;omega
 have a1:=λ(F:AEh) (e:Env) (w:J 0 e=pt h.next)=>(show CV (J 0) F e g8=.ok (pt g8.next) (g8.AEg 0 [pt h.next])by rw[DN,w,DM L];rfl)
 have O:=(Hp.Ext.refl L).AEg 0 [pt h.next];generalize g8.AEg 0 [pt h.next]=g9 at a1 O;have ln:AFB AEk g9=.ok (AI AT 0) g9:=rfl;have c4:iEq 0 0=IN:=CP rfl;have k9:call AC (m+7) 77 [pt h.next,AEk] g8=.ok (AI AT 0) g9:=by
  rw[UD rfl,UR];unfold YY;simp only[iN,xV,sT,xT,sh,reduceIte,a1,AX,ln,AK,AJ,c4,lV0]
 have b3:=Dy o8.rb;have a7:iNe 0 0=IT:=B0 rfl;have b4:=Dy (o8.rb.ext L O);refine⟨g9,h.next,fv,?_,o8.x.trans O,sl.ext L O,xW _⟩;rw[od rfl,qv,p1,kJ];simp only[A7,Ap,q1,A5,Ay];rw[kI,p3,kK];simp only[A7,Ap,q8,A5,Ay];unfold tG;simp only[sT,xT,sh,reduceIte,AN,AQ,v9,b3,cA0,c7,k9,AK,AJ,a7,b4,Av,CO]
end
section
variable {h:Hp}{R:Int->Prop}{T:List Nat}{m tb:Nat}
theorem Nr(g:h.Wf)(p:h.Row tb 0 (T.map wv))(H:AFQ T)(G:R (-1)):
  ∃h' bs bd bm bc nb,call AC (m+10) 6 [pt tb] h=.ok (.tuple ⟨[pt bd,pt nb,.bool IN]⟩) h'/\h.Ext h'/\UpP R (λb=>b=nb) h' ⟨bs,bd,bm,bc,tb,24⟩ T [] [0,1,2,3,4,5,6,7]/\h'.Row nb 0 (AE3 bd tb bs 0)/\(∀b,At.D ⟨bs,bd,bm,bc,tb,24⟩ b->h.next<=b/\b<nb)/\h.next<=nb:=by
 obtain⟨c,bd,bm,bc,k,f,i,N,O,P⟩:=ia (m:=m+8) (n:=24) g (by omega);have V:=p.lt g;have i:Dk c bd bm bc 24 cX 0 [] (-1) IT:=i;have s:Med T cX [] [0,1,2,3,4,5,6,7]:=vG;obtain⟨a,bs,q,l,U,s2,Q⟩:=dT (m:=m) f.wf i (p.ext g f) H rfl (λt L=>bP (T:=T) s.len (show 3*t<3*8 by omega) (s.bl t (AAZ.2 L))) ⟨by omega,by omega,by omega⟩;have s2:Sl a ⟨bs,bd,bm,bc,tb,24⟩ T cX 0 (-1) [] [0,1,2,3,4,5,6,7] AEk q 0 IT:=s2;have l:call AC (m+8) 39 [pt bd,pt tb,AI AT 100] c=.ok (.tuple ⟨[pt bs,AI AT 0]⟩) a:=l;have k:call AC (m+9) 25 [AI AT 24] h=.ok (.tuple ⟨[pt bd,AI AT 0]⟩) c:=k;have o:h.Ext a:=f.trans U;have e:=o.wf;have K:=f.next;have A:iEq 0 0=IN:=CP rfl;have B:iNe 0 0=IT:=B0 rfl;have u:=(Hp.Ext.refl e).AEg 0 (AE3 bd tb bs 0);have x:=Hp.Row.new e 0 (AE3 bd tb bs 0);have M:call AC (m+9) 15 [pt bd,pt tb,AI AT 100] c=.ok (.tuple ⟨[pt a.next,AI AT 0]⟩) (a.AEg 0 (AE3 bd tb bs 0)):=by
  have y:=λ(F:AEh) (d:Env) (C:J 0 d=pt bd) (D:J 1 d=pt tb) (E:J 8 d=pt bs)=>nz (F:=F) (h:=a) C D E
  have z:=λ(F:AEh) (d:Env) (I:J 23 d=.agg ⟨AE3 bd tb bs 0⟩)=>(show CV (J 23) F d a=.ok (pt a.next) (a.AEg 0 (AE3 bd tb bs 0))by rw[DN,I,DM e];rfl)
  rw[oL rfl];unfold d15;simp only[iN,xV,sT,xT,sh,reduceIte,cA0,l,Aq,Az,A1,AK,AJ,B,y,z,Av,CO]
 have w:=s2.AHJ e;have s3:=s2.ext e u;refine⟨_,bs,bd,bm,bc,a.next,?_,o.trans u,⟨⟨cX,0,-1,AEk,q,s3,wm,vG,λS j=>(by cases j),G⟩,λS j=>(by cases j)⟩,x,λb r=>⟨?_,w b r⟩,o.next⟩
 ·rw[um rfl]
  unfold d6;simp only[iN,xV,sT,xT,sh,reduceIte,gD,cA0,k,Aq,Az,A1,M,AK,AJ,A,Av,Eh]
 ·rcases r with c|c|c|c<;>rw[c]
  ·exact yS K Q
  ·exact N
  ·exact O
  ·exact P
end
theorem uH:twK=BB (AY 1 twB) twI:=rfl
theorem fH:twL=lW:=rfl
theorem uI:twS=BB (AY 0 (A3 twL)) twE:=rfl
theorem ut:d4=d4h:=rfl
section
variable {F:AEh}{e:Env}{h h' h0 hB:Hp}{A B:At}{T:List Nat}{m n kk cc a b r i j:Nat}{p q:Nst}{x:Ak}{xs:List Ak}{v w vl:xU}
theorem lX(C:Tcx h0 hB A B a b cc kk)(s:Tst hB A B T a b 40 1000 p q h)(M:p.Al q)(K:hB.KL kk vl xs)(hl:xs.length<=25)(S:∀x∈xs,AGc h0 x/\x.l.length<=150)
  (s3:J 3 e=pt A.tb)(s4:J 4 e=pt A.bd)(s5:J 5 e=pt a)(s8:J 8 e=pt b)(W:J 41 e=vl)(X:J 42 e=AI AT (xs.length:Int))(Y:J 43 e=AI AT ((0:Nat):Int)):
  ∃c h',A3 twL (call AC (m+13)) e h=.exit 0 c h'/\h0.Ext h':=by
 refine Bd (I:=λi c h'=>∃p q:Nst,Tst hB A B T a b 40 (1000 - 40*i) p q h'/\p.Al q/\(∀j,wq j->j≠43->J j c=J j e)/\J 43 c=AI AT (i:Int)/\i<=xs.length)
  (Q:=λa0=>∃c h',a0=.exit 0 c h'/\h0.Ext h') xs.length (by omega) (λi c h' ⟨p,q,E,N,F,t43,hi⟩=>?_) ⟨p,q,s,M,λ_ _ _=>rfl,Y,yH _⟩
 have t42:=(F 42 (by unfold wq;omega) (by omega)).trans X;by_cases o:i<xs.length
 ·left
  have r:=EU o;obtain⟨x,D⟩:∃x,xs[i]? =BY x:=⟨_,xc o⟩;obtain⟨ok,H⟩:=S x (xy D);obtain⟨f,t,u⟩:∃f,twL (call AC (m+13)) c h'=twK (call AC (m+13)) f h'/\∀j,wq j->J j f=J j c:=by
   rw[fH];unfold lW;simp only[sT,xT,sh,reduceIte,AK,AJ,t43,t42,r];refine⟨_,rfl,λj d=>?_⟩;rcases d with rfl|rfl|rfl|rfl|rfl|rfl|rfl<;>simp only[AG,xT,sh,reduceIte]
  have w:=λj (d:wq j) (g:j≠43)=>(u j d).trans (F j d g)
  obtain⟨y,n,U,V,l,s2,O,G⟩:=uK (m:=m) (j:=1000 - 40*(i+1)) C (by rw[show 1000 - 40*(i+1)+40=1000 - 40*i by omega];exact E) N K D ok H ((w 3 (by unfold wq;omega) (by omega)).trans s3) ((w 4 (by unfold wq;omega) (by omega)).trans s4) ((w 5 (by unfold wq;omega) (by omega)).trans s5) ((w 8 (by unfold wq;omega) (by omega)).trans s8) ((w 41 (by unfold wq;omega) (by omega)).trans W) ((u 43 (by unfold wq;omega)).trans t43);have Z:=(G 43 (by unfold wq;omega)).trans ((u 43 (by unfold wq;omega)).trans t43);have L:=Cc (i:=i) (h:=n) (by omega);obtain⟨k,z,P,R⟩:∃k,twI (call AC (m+13)) y n=.norm k n/\J 43 k=AI AT ((i+1:Nat):Int)/\∀j,wq j->j≠43->J j k=J j y:=by
   unfold twI;simp only[sT,xT,sh,reduceIte,BW,Z,L];refine⟨_,rfl,by simp[AG],λj d g=>?_⟩;rcases d with rfl|rfl|rfl|rfl|rfl|rfl|rfl<;>first|exact absurd rfl g|simp only[AG,xT,sh,reduceIte]
  refine⟨o,k,n,?_,U,V,s2,O,λj d g=>(R j d g).trans ((G j d).trans (w j d g)),P,o⟩;rw[t,uH];rcases l with l|l
  ·simp only[A7,Ap,l,Bt,Ay,z]
  ·simp only[A7,Ap,l,A5,Ay,z]
 ·right
  obtain rfl:i=xs.length:=by omega
  have r:=Cz (xW xs.length);obtain⟨f,t⟩:∃f,twL (call AC (m+13)) c h'=.exit 0 f h':=by
   rw[fH];unfold lW;simp only[sT,xT,sh,reduceIte,AK,AJ,t43,t42,r];exact⟨_,rfl⟩
  rw[t];exact⟨rfl,f,h',rfl,C.ext E.f⟩
theorem fJ(g:h.Wf)(O:AI1 h v n 25):∃h',call AC (m+14) 4 [v] h=.ok (.bool IN) h'/\h.Ext h':=by
 have k9:call AC (m+13) 5 [] h=.ok (.agg ⟨OG⟩) h:=YR (n:=m+12) ez;obtain⟨T,a2,B⟩:=lR;rw[a2]at k9;have hz:lY.zero.length=256:=by kernel_rfl
 have W:=λ(F:AEh) (e:Env)=>BO (F:=F) (e:=e) (n:=256) (t:=Q0) g
 have y2:=(Hp.Ext.refl g).push (.cells Q0 256 0);have L:(h.push (.cells Q0 256 0)).Row h.next 0 lY.zero:=Hp.Row.alloc g mD hz;generalize h.push (.cells Q0 256 0)=h2 at W y2 L;obtain⟨st,u,o⟩:=tT g y2 (xW _) L hz B.1;generalize h2.wr h.next 0 (T.map wv)=h3 at st u o;have w:=u.wf;have a7:=o.lt w;obtain⟨l,bs,q,S,P,a,D,I,U4,M,Y,a5⟩:=Nr (m:=m+3) (R:=λy=>CL y 40) w o B (ue _);have D:call AC (m+13) 6 [pt h.next] h3=.ok (.tuple ⟨[pt q,pt a,.bool IN]⟩) l:=D;have a0:=u.trans I;have p:=a0.wf;obtain⟨A,V,z,U,Q,b,E,s,U5,N,Z,a6⟩:=Nr (m:=m+3) (R:=λy=>CL y 1000) p (o.ext w I) B (ue _);have E:call AC (m+13) 6 [pt h.next] l=.ok (.tuple ⟨[pt z,pt b,.bool IN]⟩) A:=E;have H:=a0.trans s;have i:=H.wf;obtain⟨j,v6,xs,G,k,K,a3,a4⟩:=rZ (m:=m+12) (h0:=h) i H g O;have G:call AC (m+13) 8 [v] A=.ok v6 j:=G;have a1:=H.trans k;have W6:=a1.wf;have ln:=K.len j;have n3:=u.next;have n4:=I.next;have n5:=s.next;have n6:=k.next;have ha:=M.lt p;have hb:=N.lt i;have C0:Tcx h j ⟨bs,q,S,P,h.next,24⟩ ⟨V,z,U,Q,h.next,24⟩ a b l.next A.next:=⟨g,a1,rfl,rfl,rfl,xW _,λr c=>by
  show h.next<r/\r<l.next;rcases c with c|rfl
  ·have:=Y r c
   omega
  ·omega,λr c=>by
  rcases c with c|rfl
  ·have:=Z r c
   omega
  ·omega,by show h.next<l.next;omega,λc=>by have:=Y a c;omega,λc=>by have:=Z b c;omega,n6⟩
 have s6:Tst j ⟨bs,q,S,P,h.next,24⟩ ⟨V,z,U,Q,h.next,24⟩ T a b 40 1000 ⟨0,[],[0,1,2,3,4,5,6,7]⟩ ⟨0,[],[0,1,2,3,4,5,6,7]⟩ j:=
  ⟨.refl W6,UpP.ext ⟨(U4.ext p s).1,λx C=>by cases C⟩ i k,(M.ext p s).ext i k,UpP.ext ⟨U5.1,λx C=>by cases C⟩ i k,N.ext i k⟩
 obtain⟨d,p1,t3,t4,t5,t8,t41,t42,t43⟩:∃d,d4h (call AC (m+13)) (Au e0 0 [v]) h=twS (call AC (m+13)) d j/\J 3 d=pt h.next/\J 4 d=pt q/\J 5 d=pt a/\J 8 d=pt b/\J 41 d=v6/\J 42 d=AI AT (xs.length:Int)/\J 43 d=AI AT ((0:Nat):Int):=by
  unfold d4h;simp only[iN,xV,sT,xT,sh,reduceIte,gD,cA0,k9,W,AW,st,D,Aq,Az,A1,Bx,E,BJ,BI,yY,G,AX,ln];exact⟨_,rfl,by simp[AG]⟩
 obtain⟨e2,X,r1,x7⟩:=lX (m:=m) C0 s6 ⟨rfl,rfl,rfl⟩ K a3 a4 t3 t4 t5 t8 t41 t42 t43;have aw:=UH (bs:=AC) (n:=m+12) (f:=18) Zo (h:=X);refine⟨X,?_,x7⟩;rw[uh rfl,ut,p1,uI];simp only[A7,Ap,r1,A5,Ay];unfold twE;simp only[sT,xT,sh,reduceIte,cA0,aw,lV0]
end
end
end Go.Proofs.YtldjiljipddebaaGreat
namespace Go.Proofs.YtldjiljipddebaaGreat.nodeTwice
set_option maxRecDepth 100000
noncomputable section
open Go Go.ChangeShapes Go.WideShapes Go.ChangeAt Go.RowKit
set_option linter.unusedVariables false
theorem own:ownKnob xk.godebug=none:=by kernel_rfl
theorem jK:laidOutB xk=IN:=by kernel_rfl
theorem pq:xk.cellsOf 5=1:=by kernel_rfl
theorem gj:xk.cellsOf 37=7:=by kernel_rfl
theorem slc{H:Type}{enc:TypeId×xU->H}{P:Program}{a:World}{base t e:Nat}{v:xU}{x:DataW H}{p:List AD3}(c:P.underlying t=BY (.slice e))(h:AAr P a .any base t v)(g:AEL enc P a 0 (λ_=>IN) IN t v x p):
  ∃b,AAE enc P a 0 (λ_=>IN) IN b t [v]=BY (x,p):=by
 have d:Cell.okWide P a .any base t v:=by
  unfold AAr at h;rw[c]at h;exact h
 obtain⟨b,f⟩:=g;refine⟨b,?_⟩;rcases VP c d with rfl|⟨i,k,j,rfl,_⟩<;>exact f
section
variable {H:Type}{enc:TypeId×xU->H}{w:World}
theorem wh(m:Nat)(l:List xU)(y:DataW H×List AD3)(d:l.length=1)(h:AAE enc xk w 0 (λ_=>IN) IN m 5 l=BY y)(_:∀b off,ABg b off∈y.2->w.frozen? ⟨b,off,none⟩=IT):QB l:=by
 obtain⟨a,e0,_,c⟩:=AAR Tryz.underlying5 h;have:=bounds_u8 c;subst e0;exact⟨a.toNat,by
  show [yy .u8 a]=[yy .u8 ((a.toNat:Nat):Int)];rw[zh this.1],by omega⟩
theorem Us{n:Nat}{l:List xU}(h:l.length=n+1):∃a l',l=a::l'/\l'.length=n:=by
 cases l with
 |nil=>cases h
 |cons a l'=>exact⟨a,l',rfl,Nat.succ.inj h⟩
theorem wy{l:List xU}(h:l.length=7):∃c0 a b c c4 c5 d,l=[c0,a,b,c,c4,c5,d]:=by
 obtain⟨c0,n,rfl,e⟩:=Us h;obtain⟨a,o,rfl,f⟩:=Us e;obtain⟨b,p,rfl,g⟩:=Us f;obtain⟨c,q,rfl,i⟩:=Us g;obtain⟨c4,r,rfl,j⟩:=Us i;obtain⟨c5,s,rfl,k⟩:=Us j;obtain⟨d,t,rfl,m⟩:=Us k;obtain rfl:=List.eq_nil_of_length_eq_zero m;exact⟨c0,a,b,c,c4,c5,d,rfl⟩
theorem wg(m:Nat)(l:List xU)(y:DataW H×List AD3)(E:l.length=7)(h:AAE enc xk w 0 (λ_=>IN) IN m 37 l=BY y)(D:∀b off,ABg b off∈y.2->w.frozen? ⟨b,off,none⟩=IT):∃x:AD,l=x.cells/\ZX w x:=by
 obtain⟨p,q,r,s,c4,c5,f,rfl⟩:=wy E;obtain⟨a,d,_,rfl,_,o,c⟩:=DataW.trod_struct Tryz.underlying37 h;have o:a.length=7:=o;have g0:=c 0 _ rfl;have g1:=c 1 _ rfl;have g2:=c 2 _ rfl;have g3:=c 3 _ rfl;have g4:=c 4 _ rfl;have g5:=c 5 _ rfl;have g6:=c 6 _ rfl;have g0:AAE enc xk w 0 (λ_=>IN) IN d 3 [p]=BY (a[0]'(by omega)):=g0.trans (xc _);have g1:AAE enc xk w 0 (λ_=>IN) IN d 3 [q]=BY (a[1]'(by omega)):=g1.trans (xc _);have g2:AAE enc xk w 0 (λ_=>IN) IN d 34 [r]=BY (a[2]'(by omega)):=g2.trans (xc _);have g3:AAE enc xk w 0 (λ_=>IN) IN d 3 [s]=BY (a[3]'(by omega)):=g3.trans (xc _);have g4:AAE enc xk w 0 (λ_=>IN) IN d 3 [c4]=BY (a[4]'(by omega)):=g4.trans (xc _);have g5:AAE enc xk w 0 (λ_=>IN) IN d 3 [c5]=BY (a[5]'(by omega)):=g5.trans (xc _);have g6:AAE enc xk w 0 (λ_=>IN) IN d 35 [f]=BY (a[6]'(by omega)):=g6.trans (xc _);obtain⟨g,e0,_⟩:=AAR AAs g0;obtain⟨i,t,_⟩:=AAR AAs g1;obtain⟨e,u,_,G⟩:=AAR Tryz.underlying34 g2;obtain⟨j,z,_⟩:=AAR AAs g3;obtain⟨k,A,_⟩:=AAR AAs g4;obtain⟨n,B,_⟩:=AAR AAs g5;have C:=Xn Tryz.underlying35 pq (by omega) (Q:=QB) wh g6 (λb off F=>D b off (List.mem_flatMap.2 ⟨_,List.getElem_mem (by omega),F⟩));have b8:=bounds_u8 G;cases e0;cases t;cases u;cases z;cases A;cases B;refine⟨⟨g,i,e.toNat,j,k,n,f⟩,?_,C,by show e.toNat<256;omega⟩;show [yy .i64 g,yy .i64 i,yy .u8 e,yy .i64 j,yy .i64 k,yy .i64 n,f]=[yy .i64 g,yy .i64 i,yy .u8 ((e.toNat:Nat):Int),yy .i64 j,yy .i64 k,yy .i64 n,f];rw[zh b8.1]
end
theorem uP{H:Type}{enc:TypeId×xU->H}(o:xU)(w:World){base:Nat}{s:DataW H}{q:List AD3}(x:AAr xk w .any base 22 o)
  (E:AEL enc xk w 0 (λ_=>IN) IN 22 o s q)(t:∀b off,ABg b off∈q->w.frozen? ⟨b,off,none⟩=IT):
  Calls xk 4 #[o] w λe w'=>e=.returned (.bool IN)/\Below w.heap.size w w':=by
 obtain⟨G,u⟩:=slc ADK x E;obtain⟨L,F,R⟩:=Xn ADK gj (by omega) (Q:=λA=>∃r:AD,A=r.cells/\ZX w r) wg u t;obtain⟨M,j,n,f,l,J,K,B,C,D⟩:=fz R 0 1 25;have g:(n::l).length<=256:=by simp only[xh];omega
 have p:(inH (n::l)).Wf:=cA g;have O:=D _ p (XH g (i:=0) rfl) (λh k e=>XH g (i:=h+1) e);obtain⟨I,y,z⟩:=fJ (m:=51) p O;obtain⟨g1,g2⟩:=B (PC (j::f)) rfl (λh d e=>by
  show((j::f)[h+1]?).getD none=d;have e:(j::f)[h+1]? =BY d:=e;rw[e];rfl)
 refine lE aI y z rfl (.cons g2 .nil) (eG (ps:=j::f) g (by simp only[xh];omega) λi d k a c=>?_)
 match i,a,c with
 |0,a,c=>cases a;cases c;exact g1
 |i+1,a,c=>
  have a:f[i]? =BY d:=a;have c:l[i]? =BY k:=c;obtain⟨s1,s2⟩:=C i d k a c;exact s1.AK0 (s2 _)
theorem sZ(os:Os)(started:os.Started)(H:Type)(enc:TypeId×xU->H):
  ReturnsInHanded {} ACw os 4 .any (Rows.nodeTwiceSpec.pre6 enc xk ADA Rows.nodeTwiceRow.domain IT) (Rows.nodeTwiceSpec.post enc xk ADA IT IN IT IT):=by
 refine returnsInHanded_of_change (C:=ACw) own started (by kernel_rfl) AEO
  (AEa (enc:=enc) (C:=ACw) IT ⟨#[],#[.slice none 0 0],[]⟩ 8 (by kernel_rfl) (by kernel_rfl) (by kernel_rfl) (by kernel_rfl)) ?_
 intro W base args ds gs before AHx hW ALU _;have hval:∀(j:Nat) t v,ADA.params[j]? =BY t->args[j]? =BY v->AAr xk W .any base t v:=AHx;have hW':=hW;obtain⟨p,q,hA0,hV,rfl,hfz,hnd⟩:=hW;have hA:DataW.TrodAll enc xk W 0 (λ_=>IN) IN ADA.params.toList args.toList ds p:=hA0;rw[Tryz.params4]at hA hval;obtain⟨v0,vs0,d0,ds0,p0,q0,hargs,rfl,rfl,h0,r0⟩:=trodAll_cons hA;obtain⟨rfl,rfl,rfl⟩:=trodAll_nil r0;obtain rfl:args= #[v0]:=by cases args;simp_all
 obtain⟨rfl,rfl⟩:=trodVars_none hV;clear hA0 AHx;simp only[yF]at hW' hfz;have hlt:∀x∈p0,x.block<W.heap.size:=λx hx=>hW'.lt x hx
 refine(uP v0 W (hval 0 22 v0 rfl rfl) h0 (λb off hm=>hfz b off hm)).mono λe W' ⟨he,hb⟩=>?_
 subst he;refine⟨_,rfl,Oc (pa:=p0) (pv:=[]) hW' (λ_ _ _=>(trodAll_cons_mk (shut_bool ADT _) trodAll_mk0)) (λsp hsp=>?_) (λ_ _=>rfl) (by simp) hb (ok_one (by kernel_rfl) rfl (okWide_bool_mk ADT _))⟩;have s0:=AEb jK (by kernel_rfl) (of_decide_eq_true (by kernel_rfl)) h0 (λx hx=>hb.same (hlt x hx)) (λx hx=>hsp x hx);have:=trodAll_cons_mk s0 (trodAll_mk0 (enc:=enc) (P:=xk) (w:=W') (base:=0) (spare:=sp) (held:=IN));rw[yF]at this;exact this
theorem over:Rows.nodeTwiceRow.holds Tryz.pinned (OpenSpec.ofChange Rows.nodeTwiceSpec):=
 AEc 4 ADA rfl rfl rfl rfl rfl rfl rfl ⟨rfl,rfl,rfl,rfl,rfl⟩ rfl rfl rfl rfl rfl (by kernel_rfl) AEO (by kernel_rfl)
  (of_decide_eq_true (by kernel_rfl)) (by unfold Func.isWrapper;first|(rw[If (by decide +kernel)];kernel_rfl)|(rw[No (by decide +kernel)];exact⟨rfl,rfl⟩))
  (λos started H enc _=>sZ os started H enc)
theorem proved:Rows.NodeTwiceSaid:=
 over
#print axioms proved
end
end Go.Proofs.YtldjiljipddebaaGreat.nodeTwice
