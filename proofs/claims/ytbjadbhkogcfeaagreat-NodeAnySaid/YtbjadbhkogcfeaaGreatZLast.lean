/-
  'NodeAny' of layer 11 answers true, whatever memory it is called in, whatever asks and bytes it is handed and whatever the tape answers: no condition. What the canonical machine gives is shown for any of them (YtbjadbhkogcfeaaGreatNai); that machine is sound for the model (YtbjadbhkogcfeaaGreatFns).
-/
import Derived.Test.YtbjadbhkogcfeaaGreatZR
import Derived.Test.YtbjadbhkogcfeaaGreatRows
import Derived.ProofKit
import Derived.OpenShut
import Derived.Carry
open Go.Value renaming int→AI
open Go.IntKind renaming i64→AT
open Nat renaming reduceEqDiff→BY,reduceLT→By,reduceAdd→IT,le_refl→If
open Go renaming Value→IN,MemPlace→AAt
open List renaming getElem?_eq_getElem→tW,length_cons→tZ,append_nil→uH
open Go.Proofs.Tryz renaming prog→tc,underlying3→wX,underlying34→yV,checked→zc,f6→zr,underlying22→AAF,underlying4→AAQ,func6→ABH
open Bool renaming not_true→uX
open Go.Value renaming int→ue,okWide→wJ
open Go.DataW renaming trod→vu,trod_int→wA,Trod→AAD
open Go.MemPlace renaming cell→xF
open Int renaming toNat_of_nonneg→xK
open Go.WideElems renaming Trod_stays→zA
open Go.ChangeSpec renaming witness6→ABT
open Go.OpenClaim renaming holds_of_wide→ABU
set_option linter.unusedVariables false
set_option linter.unusedSimpArgs false
namespace Go.Proofs.YtbjadbhkogcfeaaGreat
noncomputable section
open Go
set_option maxRecDepth 100000
theorem qQ:yaK=BB (AY 3 yaB) yaI:=rfl
theorem cP:yaL=iW:=rfl
theorem qR:yaT=AY 2 (A4 yaL):=rfl
theorem qS:ybB=qT:=rfl
theorem qU:ybK=BB (AY 1 ybB) ybI:=rfl
theorem cR:ybL=iY:=rfl
theorem qV:ybS=BB (AY 0 (A4 ybL)) ybE:=rfl
theorem i6:d6=d6h:=rfl
structure Acx (h0 hB:Hp)(A:At)(nb kk:Nat):Prop where
 W0:h0.Wf
 x0:h0.Ext hB
 n24:A.n=24
 tb:A.tb≠nb
 nb0:h0.next<=nb/\nb<kk
 hD:∀ b,A.D b->h0.next<=b/\b<nb
 kl:kk<=hB.next
structure Ast (hB:Hp)(A:At)(T:List Nat)(nb j:Nat)(h:Hp):Prop where
 f:Fx (fun b=>A.D b\/b=nb) hB h
 st:∃ ks fr ABs,UpX (fun b=>b=nb) h A T ks fr j/\h.Row nb 0 (AB0 A.bd A.tb A.bs ABs)
section
variable {F:ABZ}{e:Env}{h h' h0 hB hS g:Hp}{A:At}{T M:List Nat}{m n k kk nb r op i j:Nat}{ABs:Int}{ks:List Kt}{fr l lb L:List Nat}{u v w cv ub sv vl:IN}{x:Ak}{xs:List Ak}
theorem Acx.ext(C:Acx h0 hB A nb kk)(s:Ast hB A T nb j h):h0.Ext h:=Fx.xtF C.x0 s.f fun b hb=>by
 rcases hb with hb|hb
 ·exact(C.hD b hb).1
 ·rw[hb];exact C.nb0.1
theorem Acx.nD(C:Acx h0 hB A nb kk)(hr:kk<=r):¬ (A.D r\/r=nb):=fun h=>by
 have:=C.nb0;rcases h with h|h
 ·have:=C.hD r h
  omega
 ·omega
theorem Ast.ext(s:Ast hB A T nb j h)(y:h.Ext h'):Ast hB A T nb j h':=by
 obtain⟨f,ks,fr,ABs,U,Rn⟩:=s;exact⟨f.trans (.of y),ks,fr,ABs,U.ext f.wf y,Rn.ext f.wf y⟩
theorem qn(C:Acx h0 hB A nb kk)(s:Ast hB A T nb (j+40) h)(ok:ADk h0 x)(AEN:x.l.length<=150):∃ w h',call AC (m+12) 11 [pt nb,x.val] h=.ok w h'/\Ast hB A T nb j h':=by
 have x0:=C.ext s;obtain⟨f,ks,fr,ABs,U,Rn⟩:=s;have W:=f.wf;have V:=ok.1.ext C.W0 x0;have hn:=C.nb0;have big:=C.W0.big;cases hr:DA x.lf x.sq x.op x.a x.b x.c x.l.length
 ·obtain⟨tv,h2,k2,y2,_⟩:=ng (m:=m+8) W Rn U ok.2.2.2 (fun g=>V.bl g) hr
  exact⟨_,h2,k2,f.trans (.of y2),ks,fr,ABs,(U.ext W y2).le (by omega),Rn.ext W y2⟩
 ·obtain⟨z,iv,bw,room,h2,ks',fr',ACz,_,_,k2,f2,Rn2,U2,_⟩:=ZE (m:=m) (k:=j) W C.n24 Rn U (fun b hb=>by rw[hb];exact Rn.lt W) rfl (fun h=>by have:=C.hD _ h;omega) C.tb (by omega) V ok.2.1 (by omega) (fun b hb=>by
   have:=ok.1.lt C.W0 b hb;omega) ok.2.2.2 hr
  exact⟨_,h2,k2,f.trans f2,ks',fr',ACz,U2,Rn2⟩
def yq(j:Nat):Prop:=j=1\/j=5\/j=7\/j=32\/j=33\/j=34\/j=44\/j=45
theorem cQ(C:Acx h0 hB A nb kk)(s:Ast hB A T nb (j+40) h)(V:h.VR cv l)(hC:GL cv)(h8:∀ x∈l,x<256)(hl:l.length<=1000)(o1:oneCell cv=true)(R:h.Row r 0 [ub,sv])(hi:i<2)(hcv:ABa ⟨r,i,none⟩ h=.ok cv h)(s5:J 5 e=pt A.tb)(s7:J 7 e=pt nb)(s44:J 44 e=.slice (some ⟨r,0,none⟩) 2 2)(s46:J 46 e=AI AT (i:Int)):
  ∃ e' h',yaB (call AC (m+13)) e h=.norm e' h'/\Ast hB A T nb j h'/\∀ j,yq j\/j=46->J j e'=J j e:=by
 have x0:=C.ext s;obtain⟨f,ks,fr,ABs,U,Rn⟩:=s;have W:=f.wf;have hn:=C.nb0;have big:=C.W0.big;obtain⟨⟨M,c0,arm,lv,fv,sl,iv0,md,hc,ha⟩,hx⟩:=id U;have hln:=iv0.len;have ix:ACN 1 (.slice (some ⟨r,0,none⟩) 2 2) (AI AT (i:Int)) h=.ok (.pointer (some ⟨r,i,none⟩)) h:=by
  have:=Ch (h:=h) (n:=2) (c:=2) (es:=1) (b:=r) (off:=0) (i:=i) (k:=.i64) hi
  rwa [Nat.zero_add,Nat.mul_one]at this
 obtain⟨h1,v1,k1,y1,V1⟩:∃ h' v,call AC (m+13) 13 [pt nb] h=.ok v h'/\h.Ext h'/\h'.AL h.next v ks:=Vh (m:=m+8) W Rn sl;have W1:=y1.wf;have k2:call AC (m+13) 12 [pt nb] h1=.ok (AI AT ABs) h1:=VV (m:=m+12) (Rn.ext W y1);obtain⟨Rt,hT,_⟩:=U.tab;obtain⟨h2,lf,sq,op,a,b,c,w,L,y2,k3,ow,_⟩:=Nv (n:=m+8) W1 (Rt.ext W y1) hT (V.ext W y1) hC h8 (by omega);have k3:call AC (m+13) 23 [pt A.tb,cv] h1=.ok (.tuple ⟨[CO lf sq op a b c w,AI AT (GM T l)]⟩) h2:=k3;have W2:=y2.wf;obtain⟨g3,h3,al3,st3,y3,_,_⟩:=QD W2 J2 rfl (vs:=CJ lf sq op a b c w) rfl (by show(bif oneCell w then true else false)=true;rw[ow];rfl);have st3:ABg 7 (pt h2.next) (CO lf sq op a b c w) g3=.ok ABd h3:=st3;have W3:=y3.wf;have y03:=(y1.trans y2).trans y3;have Rn3:=Rn.ext W y03;have U3:=U.ext W y03;rcases XE (m:=m) (k:=j) W3 C.n24 Rn3 U3 (fun b hb=>by rw[hb];exact Rn3.lt W3) rfl (fun h=>by have:=C.hD _ h;omega) C.tb (by omega) (V.ext W y03) hC h8 hl with ⟨hE,h4,k4,y4⟩|⟨hE,w4,h4,ks',fr',ACz,k4,f4,Rn4,U4⟩
 ·have y04:=y03.trans y4
  have W4:=y4.wf;obtain⟨h5,v5,k5,y5,V5⟩:∃ h' v,call AC (m+13) 13 [pt nb] h4=.ok v h'/\h4.Ext h'/\h'.AL h4.next v ks:=Vh (m:=m+8) W4 (Rn.ext W y04) (sl.ext W y04);obtain⟨h6,k6,y6⟩:=hU (m:=m+10) y5.wf V5 (V1.ext W1 (((y2.trans y3).trans y4).trans y5)) rfl (fun x hx=>(sl.ko x hx).2.1) (by omega);have k6:call AC (m+13) 15 [v5,v1] h5=.ok (.bool true) h6:=k6;have y06:=(y04.trans y5).trans y6;have k7:call AC (m+13) 12 [pt nb] h6=.ok (AI AT ABs) h6:=VV (m:=m+12) (Rn.ext W y06);have c1:iNe (GM T l) (GM T l)=false:=B5 rfl;have c2:iNe (GM T l) 0=true:=EB hE;have c3:iNe 0 0=false:=B5 rfl;have c4:iNe ABs ABs=false:=B5 rfl;have ln:AB2 ABc h4=.ok (AI AT 0) h4:=rfl;refine(show ∃ e',yaB (call AC (m+13)) e h=.norm e' h6/\∀ j,yq j\/j=46->J j e'=J j e from ?_).elim fun e' ⟨p1,p2⟩=>⟨e',h6,p1,⟨f.trans (.of y06),ks,fr,ABs,(U.ext W y06).le (by omega),Rn.ext W y06⟩,p2⟩
  unfold yaB;simp only[sT,By,BY,reduceIte,gD,BA,s44,s46,ix,AN,AQ,hcv,cA0,s7,k1,k2,s5,k3,Ao,Ax,A2,al3,AW,st3,k4,AK,AJ,c1,c2,AX,ln,c3,k5,k6,BM,BK,uX,k7,c4];refine⟨_,rfl,fun j hj=>?_⟩;rcases hj with (rfl|rfl|rfl|rfl|rfl|rfl|rfl|rfl)|rfl<;>simp only[AG,By,BY,reduceIte]
 ·rw[hE]at k3
  have c1:iNe 0 0=false:=B5 rfl;refine(show ∃ e',yaB (call AC (m+13)) e h=.norm e' h4/\∀ j,yq j\/j=46->J j e'=J j e from ?_).elim fun e' ⟨p1,p2⟩=>⟨e',h4,p1,⟨(f.trans (.of y03)).trans f4,ks',fr',ACz,U4,Rn4⟩,p2⟩
  unfold yaB;simp only[sT,By,BY,reduceIte,gD,BA,s44,s46,ix,AN,AQ,hcv,cA0,s7,k1,k2,s5,k3,Ao,Ax,A2,al3,AW,st3,k4,AK,AJ,c1];refine⟨_,rfl,fun j hj=>?_⟩;rcases hj with (rfl|rfl|rfl|rfl|rfl|rfl|rfl|rfl)|rfl<;>simp only[AG,By,BY,reduceIte]
theorem iX(C:Acx h0 hS A nb kk)(s:Ast hS A T nb (j+80) hS)(R:hS.Row r 0 [ub,sv])(hr:kk<=r)(Vu:h0.VR ub lb)(Cu:GL ub)(u8:∀ x∈lb,x<256)(lu:lb.length<=300)(ou:oneCell ub=true)(M:Mk hS k sv L)(hk:kk<=k)(s8:∀ x∈L,x<256)(ls:L.length<=1000)
  (s5:J 5 e=pt A.tb)(s7:J 7 e=pt nb)(s44:J 44 e=.slice (some ⟨r,0,none⟩) 2 2)(s45:J 45 e=AI AT ((2:Nat):Int))(s46:J 46 e=AI AT ((0:Nat):Int)):
  ∃ e' h',A4 yaL (call AC (m+13)) e hS=.exit 2 e' h'/\Ast hS A T nb j h'/\∀ j,yq j->J j e'=J j e:=by
 refine Bb (I:=fun i e' h'=>i<=2/\Ast hS A T nb (j+80 - 40*i) h'/\(∀ j,yq j->J j e'=J j e)/\J 46 e'=AI AT (i:Int))
  (Q:=fun q=>∃ e' h',q=.exit 2 e' h'/\Ast hS A T nb j h'/\∀ j,yq j->J j e'=J j e) 2 (by omega) (fun i e' h' ⟨hi,s',tj,t46⟩=>?_) ⟨by omega,s,fun _ _=>rfl,s46⟩
 have t45:=(tj 45 (by unfold yq;omega)).trans s45;have WS:=C.x0.wf;by_cases hlt:i<2
 ·left
  have c1:iLt (i:Int) ((2:Nat):Int)=true:=EP hlt;obtain⟨e1,p1,uj⟩:∃ e1,yaL (call AC (m+13)) e' h'=yaK (call AC (m+13)) e1 h'/\∀ j,yq j\/j=46->J j e1=J j e':=by
   rw[cP];unfold iW;simp only[sT,By,BY,reduceIte,AK,AJ,t46,t45,c1];refine⟨_,rfl,fun j hj=>?_⟩;rcases hj with (rfl|rfl|rfl|rfl|rfl|rfl|rfl|rfl)|rfl<;>simp only[AG,By,BY,reduceIte]
  have w:=fun j (hj:yq j)=>(uj j (.inl hj)).trans (tj j hj)
  have R':=s'.f.row WS R (C.nD hr);have one:∃ e2 h2,yaB (call AC (m+13)) e1 h'=.norm e2 h2/\Ast hS A T nb (j+80 - 40*(i+1)) h2/\∀ j,yq j\/j=46->J j e2=J j e1:=by
   have s'':Ast hS A T nb (j+80 - 40*(i+1)+40) h':=by rw[show j+80 - 40*(i+1)+40=j+80 - 40*i by omega];exact s'
   have AEj:i=0\/i=1:=by omega
   rcases AEj with rfl|rfl
   ·exact cQ (m:=m) C s'' (Vu.ext C.W0 (C.ext s')) Cu u8 (by omega) ou R' hlt (R'.ABa (off:=0) (by show 0<2;omega)) ((w 5 (by unfold yq;omega)).trans s5) ((w 7 (by unfold yq;omega)).trans s7) ((w 44 (by unfold yq;omega)).trans s44) ((uj 46 (.inr rfl)).trans t46)
   ·have M':Mk h' k sv L:=M.keep fun b el L hb r=>s'.f.row WS r (C.nD (Nat.le_trans hk (TN M hb)))
    have osv:oneCell sv=true:=by
     obtain⟨b,el,rfl,_⟩:=M;rfl
    exact cQ (m:=m) C s'' (.inl M'.vals) M'.cap s8 ls osv R' hlt (R'.ABa (off:=1) (by show 1<2;omega)) ((w 5 (by unfold yq;omega)).trans s5) ((w 7 (by unfold yq;omega)).trans s7) ((w 44 (by unfold yq;omega)).trans s44) ((uj 46 (.inr rfl)).trans t46)
  obtain⟨e2,h2,r1,s2,vj⟩:=one;have v46:=(vj 46 (.inr rfl)).trans ((uj 46 (.inr rfl)).trans t46);have a3:=Cd (i:=i) (h:=h2) (by omega);obtain⟨e3,f1,f46,fj⟩:∃ e3,yaI (call AC (m+13)) e2 h2=.norm e3 h2/\J 46 e3=AI AT ((i+1:Nat):Int)/\∀ j,yq j->J j e3=J j e2:=by
   unfold yaI;simp only[sT,By,BY,reduceIte,BR,v46,a3];refine⟨_,rfl,by simp[AG],fun j hj=>?_⟩;rcases hj with rfl|rfl|rfl|rfl|rfl|rfl|rfl|rfl<;>simp only[AG,By,BY,reduceIte]
  refine⟨hlt,e3,h2,?_,hlt,s2,fun j hj=>(fj j hj).trans ((vj j (.inl hj)).trans (w j hj)),f46⟩;rw[p1,qQ];simp only[A9,An,r1,Bt,A3,f1]
 ·right
  obtain rfl:i=2:=by omega
  have c1:iLt ((2:Nat):Int) ((2:Nat):Int)=false:=Cv (If 2);obtain⟨e1,p1,uj⟩:∃ e1,yaL (call AC (m+13)) e' h'=.exit 2 e1 h'/\∀ j,yq j->J j e1=J j e':=by
   rw[cP];unfold iW;simp only[sT,By,BY,reduceIte,AK,AJ,t46,t45,c1];refine⟨_,rfl,fun j hj=>?_⟩;rcases hj with rfl|rfl|rfl|rfl|rfl|rfl|rfl|rfl<;>simp only[AG,By,BY,reduceIte]
  rw[p1];exact⟨rfl,e1,h',rfl,by rw[show j=j+80 - 40*2 by omega];exact s',fun j hj=>(uj j hj).trans (tj j hj)⟩
theorem qW(C:Acx h0 hB A nb kk)(s:Ast hB A T nb (j+120) h)(K:hB.KL kk vl xs)(hi:xs[i]? =some x)(ok:ADk h0 x)(AEN:x.l.length<=150)(Vu:h0.VR ub lb)(Cu:GL ub)(u8:∀ x∈lb,x<256)(lu:lb.length<=300)(ku:known ub=true/\cellsOf ub=[ub]/\oneCell ub=true)
  (s1:J 1 e=ub)(s5:J 5 e=pt A.tb)(s7:J 7 e=pt nb)(s32:J 32 e=vl)(s34:J 34 e=AI AT (i:Int)):
  ∃ e' h',ybB (call AC (m+13)) e h=.norm e' h'/\Ast hB A T nb j h'/\∀ j,yq j->j≠44->j≠45->J j e'=J j e:=by
 have W:=s.f.wf;have x0:=C.ext s;have big:=C.W0.big;have hn:=C.nb0;have Kh:=K.fx C.x0.wf s.f fun b hb hs=>(C.nD hb) hs
 obtain⟨b,ix,ld⟩:=Kh.at hi;obtain⟨g1,h1,al1,st1,y1,R1,q1⟩:=QD W J2 rfl (vs:=x.cells) rfl (x.one ok.2.2.1);have st1:ABg 7 (pt h.next) x.val g1=.ok ABd h1:=st1;have s1':=s.ext y1;have lda:loadN 7 ⟨h.next,0,none⟩ h1=.ok x.val h1:=(B1 (show h1.Row h.next 0 (CJ x.lf x.sq x.op x.a x.b x.c x.u)from R1)).2.2.2.2.2.2.2;obtain⟨w2,h2,k2,s2⟩:=qn (m:=m+1) (j:=j+80) C s1' ok AEN;have k2:call AC (m+13) 11 [pt nb,x.val] h1=.ok w2 h2:=k2;have W2:=s2.f.wf;obtain⟨_,_,_,_,U2,_⟩:=id s2;obtain⟨Rt,hT,_⟩:=U2.tab;obtain⟨h3,sv,k3,y3,M3⟩:=Rr (n:=m+11) W2 Rt hT (Vu.ext C.W0 (C.ext s2)) u8 (by omega);have k3:call AC (m+13) 22 [pt A.tb,ub] h2=.ok sv h3:=k3;have W3:=y3.wf;obtain⟨v1,v2,v3⟩:known sv=true/\cellsOf sv=[sv]/\oneCell sv=true:=Gm M3.vals;have sl:=fun (F:ABZ) (e:Env) (h1:J 1 e=ub) (h43:J 43 e=sv)=>(show Ab 2 (BO Ht.zero 2) [(0,1,J 1),(1,1,J 43)] F e h3=.ok (.slice (some ⟨h3.next,0,none⟩) 2 2) (h3.ABY 0 [ub,sv])by
  rw[Wa,Bq,Ad (hk:=by rw[h1];exact ku.1),h1,ku.2.1,Ad (hk:=by rw[h43];exact v1),h43,v2];simp only[over,List.length_singleton,tZ,List.length_nil,List.take,List.drop,List.append_eq,List.nil_append,List.cons_append,IT,Nat.reduceLeDiff,if_true,Bg,reduceIte];rw[CQ W3];rfl)
 have y4:=(Hp.Ext.refl W3).ABY 0 [ub,sv];have R4:=Hp.Row.new W3 0 [ub,sv];generalize h3.ABY 0 [ub,sv]=h4 at sl y4 R4;have y24:=y3.trans y4;have s4:=s2.ext y24;have n2:=s2.f.next;have n3:=y3.next;have n4:=y4.next;have hkl:=C.kl;have C4:Acx h0 h4 A nb kk:=⟨C.W0,C.ext s4,C.n24,C.tb,C.nb0,C.hD,by omega⟩;obtain⟨ks4,fr4,AFp,U4,Rn4⟩:=s4.st;have ss:Ast h4 A T nb (j+80) h4:=⟨.refl s4.f.wf,ks4,fr4,AFp,U4,Rn4⟩;obtain⟨e1,p1,t1,t5,t7,t32,t33,t34,t44,t45,t46⟩:∃ e1,ybB (call AC (m+13)) e h=yaT (call AC (m+13)) e1 h4/\J 1 e1=ub/\J 5 e1=pt A.tb/\J 7 e1=pt nb/\J 32 e1=vl/\J 33 e1=J 33 e/\J 34 e1=AI AT (i:Int)/\J 44 e1=.slice (some ⟨h3.next,0,none⟩) 2 2/\J 45 e1=AI AT ((2:Nat):Int)/\J 46 e1=AI AT ((0:Nat):Int):=by
  have ln:AB2 (.slice (some ⟨h3.next,0,none⟩) 2 2) h4=.ok (AI AT ((2:Nat):Int)) h4:=rfl;rw[qS];unfold qT;simp only[sT,By,BY,reduceIte,BA,s32,s34,ix,Ap,Aj,ld,al1,AW,st1,lda,cA0,s7,k2,s5,s1,k3,sl,AX,ln];exact⟨_,rfl,by simp[AG,s1,s5,s7,s32,s34]⟩
 obtain⟨e2,h5,r2,s5',wj⟩:=iX (m:=m) (j:=j) C4 ss R4 (by omega) Vu Cu u8 lu ku.2.2 (M3.ext W3 y4) (by omega) (M5 u8) (by rw[Gg];omega) t5 t7 t44 t45 t46;refine⟨e2,h5,?_,⟨s4.f.trans s5'.f,s5'.st⟩,fun j hj h44 h45=>?_⟩
 ·rw[p1,qR]
  simp only[An,r2,A8]
 ·rw[wj j hj]
  rcases hj with rfl|rfl|rfl|rfl|rfl|rfl|rfl|rfl
  ·exact t1.trans s1.symm
  ·exact t5.trans s5.symm
  ·exact t7.trans s7.symm
  ·exact t32.trans s32.symm
  ·exact t33
  ·exact t34.trans s34.symm
  ·exact absurd rfl h44
  ·exact absurd rfl h45
theorem iZ(C:Acx h0 hB A nb kk)(s:Ast hB A T nb 3000 h)(K:hB.KL kk vl xs)(hl:xs.length<=25)(hx:∀ x∈xs,ADk h0 x/\x.l.length<=150)(Vu:h0.VR ub lb)(Cu:GL ub)(u8:∀ x∈lb,x<256)(lu:lb.length<=300)(ku:known ub=true/\cellsOf ub=[ub]/\oneCell ub=true)
  (s1:J 1 e=ub)(s5:J 5 e=pt A.tb)(s7:J 7 e=pt nb)(s32:J 32 e=vl)(s33:J 33 e=AI AT (xs.length:Int))(s34:J 34 e=AI AT ((0:Nat):Int)):
  ∃ e' h',A4 ybL (call AC (m+13)) e h=.exit 0 e' h'/\h0.Ext h':=by
 refine Bb (I:=fun i e' h'=>Ast hB A T nb (3000 - 120*i) h'/\(∀ j,yq j->j≠34->j≠44->j≠45->J j e'=J j e)/\J 34 e'=AI AT (i:Int)/\i<=xs.length)
  (Q:=fun q=>∃ e' h',q=.exit 0 e' h'/\h0.Ext h') xs.length (by omega) (fun i e' h' ⟨s',tj,t34,hi⟩=>?_) ⟨s,fun _ _ _ _ _=>rfl,s34,Nat.zero_le _⟩
 have t33:=(tj 33 (by unfold yq;omega) (by omega) (by omega) (by omega)).trans s33;by_cases hlt:i<xs.length
 ·left
  have c1:=EP hlt;obtain⟨x,hxi⟩:∃ x,xs[i]? =some x:=⟨_,tW hlt⟩;obtain⟨ok,AEN⟩:=hx x (List.mem_of_getElem? hxi);obtain⟨e1,p1,uj⟩:∃ e1,ybL (call AC (m+13)) e' h'=ybK (call AC (m+13)) e1 h'/\∀ j,yq j->J j e1=J j e':=by
   rw[cR];unfold iY;simp only[sT,By,BY,reduceIte,AK,AJ,t34,t33,c1];refine⟨_,rfl,fun j hj=>?_⟩;rcases hj with rfl|rfl|rfl|rfl|rfl|rfl|rfl|rfl<;>simp only[AG,By,BY,reduceIte]
  have w:=fun j (hj:yq j) (a:j≠34) (b:j≠44) (c:j≠45)=>(uj j hj).trans (tj j hj a b c)
  obtain⟨e2,h2,r1,s2,vj⟩:=qW (m:=m) (j:=3000 - 120*(i+1)) C (by rw[show 3000 - 120*(i+1)+120=3000 - 120*i by omega];exact s') K hxi ok AEN Vu Cu u8 lu ku ((w 1 (by unfold yq;omega) (by omega) (by omega) (by omega)).trans s1) ((w 5 (by unfold yq;omega) (by omega) (by omega) (by omega)).trans s5) ((w 7 (by unfold yq;omega) (by omega) (by omega) (by omega)).trans s7) ((w 32 (by unfold yq;omega) (by omega) (by omega) (by omega)).trans s32) ((uj 34 (by unfold yq;omega)).trans t34);have v34:=(vj 34 (by unfold yq;omega) (by omega) (by omega)).trans ((uj 34 (by unfold yq;omega)).trans t34);have a3:=Cd (i:=i) (h:=h2) (by omega);obtain⟨e3,f1,f34,fj⟩:∃ e3,ybI (call AC (m+13)) e2 h2=.norm e3 h2/\J 34 e3=AI AT ((i+1:Nat):Int)/\∀ j,yq j->j≠34->J j e3=J j e2:=by
   unfold ybI;simp only[sT,By,BY,reduceIte,BR,v34,a3];refine⟨_,rfl,by simp[AG],fun j hj hn=>?_⟩;rcases hj with rfl|rfl|rfl|rfl|rfl|rfl|rfl|rfl<;>first|exact absurd rfl hn|simp only[AG,By,BY,reduceIte]
  refine⟨hlt,e3,h2,?_,s2,fun j hj a b c=>(fj j hj a).trans ((vj j hj b c).trans (w j hj a b c)),f34,hlt⟩;rw[p1,qU];simp only[A9,An,r1,Bt,A3,f1]
 ·right
  obtain rfl:i=xs.length:=by omega
  have c1:=Cv (If xs.length);obtain⟨e1,p1⟩:∃ e1,ybL (call AC (m+13)) e' h'=.exit 0 e1 h':=by
   rw[cR];unfold iY;simp only[sT,By,BY,reduceIte,AK,AJ,t34,t33,c1];exact⟨_,rfl⟩
  rw[p1];exact⟨rfl,e1,h',rfl,C.ext s'⟩
theorem jM(W:h.Wf)(O:AFl h v n 25)(Vb:h.VE ub (lb.map bv))(Cu:GL ub)(u8:∀ x∈lb,x<256):∃ h',call AC (m+14) 6 [v,ub] h=.ok (.bool true) h'/\h.Ext h':=by
 have lu:=Vb.bl;have ku:known ub=true/\cellsOf ub=[ub]/\oneCell ub=true:=qM Vb;have k9:call AC (m+13) 8 [] h=.ok (.agg ⟨ND⟩) h:=Wp (n:=m+12) bo;obtain⟨T,hTl,hT⟩:=iJ;rw[hTl]at k9;have hz:iO.zero.length=256:=by kernel_rfl
 have f9:=fun (F:ABZ) (e:Env)=>BL (F:=F) (e:=e) (n:=256) (t:=Pp) W
 have y2:=(Hp.Ext.refl W).push (.cells Pp 256 0);have R9:(h.push (.cells Pp 256 0)).Row h.next 0 iO.zero:=Hp.Row.alloc W ij hz;generalize h.push (.cells Pp 256 0)=h2 at f9 y2 R9;obtain⟨st,y3,R9'⟩:=pn W y2 (If _) R9 hz hT.1;generalize h2.wr h.next 0 (T.map wv)=h3 at st y3 R9';have W3:=y3.wf;have htb:=R9'.lt W3;obtain⟨h4,bs,bd,bm,bc,nb,k4,x4,U4,Rn4,hD4,hn4⟩:=Ta (m:=m+3) (k:=3000) W3 R9' hT;have k4:call AC (m+13) 9 [pt h.next] h3=.ok (.tuple ⟨[pt bd,pt nb,.bool true]⟩) h4:=k4;have x04:=y3.trans x4;have W4:=x04.wf;have lb4:=lu h4;by_cases AH2:300<lb.length
 ·have c0:iGt (lb.length:Int) 300=true:=Fc (by omega)
  have aw:=Ly (bs:=AC) (n:=m+12) (f:=16) P6 (h:=h4);refine⟨h4,?_,x04⟩;rw[iu rfl,i6];unfold d6h;simp only[iN,IT,sT,By,BY,reduceIte,cA0,k9,f9,AW,st,k4,Ao,Ax,A2,Bu,BM,BK,uX,AX,lb4,AK,AJ,c0,aw,lV0]
 have c0:iGt (lb.length:Int) 300=false:=E4 (by omega);obtain⟨h5,v5,xs,k5,x5,K5,hl5,hx5⟩:=oE (m:=m+12) (h0:=h) W4 x04 W O;have k5:call AC (m+13) 10 [v] h4=.ok v5 h5:=k5;have x05:=x04.trans x5;have W5:=x5.wf;have ln:=K5.len h5;have n3:=y3.next;have n5:=x5.next;have C0:Acx h h5 ⟨bs,bd,bm,bc,h.next,24⟩ nb h4.next:=⟨W,x05,rfl,by show h.next≠nb;omega,⟨by omega,Rn4.lt W4⟩,fun b hb=>by have:=hD4 b hb;omega,n5⟩;have s5:Ast h5 ⟨bs,bd,bm,bc,h.next,24⟩ T nb 3000 h5:=⟨.refl W5,_,_,_,U4.ext W4 x5,Rn4.ext W4 x5⟩;obtain⟨e1,p1,t1,t5,t7,t32,t33,t34⟩:∃ e1,d6h (call AC (m+13)) (As e0 0 [v,ub]) h=ybS (call AC (m+13)) e1 h5/\J 1 e1=ub/\J 5 e1=pt h.next/\J 7 e1=pt nb/\J 32 e1=v5/\J 33 e1=AI AT (xs.length:Int)/\J 34 e1=AI AT ((0:Nat):Int):=by
  unfold d6h;simp only[iN,IT,sT,By,BY,reduceIte,cA0,k9,f9,AW,st,k4,Ao,Ax,A2,Bu,BM,BK,uX,AX,lb4,AK,AJ,c0,k5,ln];exact⟨_,rfl,by simp[AG]⟩
 obtain⟨e2,h6,r1,x6⟩:=iZ (m:=m) C0 s5 K5 hl5 hx5 (Vb.imp id fun h=>⟨h.1,List.map_eq_nil_iff.1 h.2⟩) Cu u8 (by omega) ku t1 t5 t7 t32 t33 t34;have aw:=Ly (bs:=AC) (n:=m+12) (f:=16) P6 (h:=h6);refine⟨h6,?_,x6⟩;rw[iu rfl,i6,p1,qV];simp only[A9,An,r1,A8,A3];unfold ybE;simp only[sT,By,BY,reduceIte,cA0,aw,lV0]
end
end
end Go.Proofs.YtbjadbhkogcfeaaGreat
namespace Go.Proofs.YtbjadbhkogcfeaaGreat.nodeAny
noncomputable section
open Go Go.ChangeShapes Go.WideShapes Go.ChangeAt Go.RowKit
set_option linter.unusedVariables false
theorem own:ownKnob tc.godebug=none:=by kernel_rfl
theorem VU:laidOutB tc=true:=by kernel_rfl
theorem Yh:tc.cellsOf 5=1:=by kernel_rfl
theorem db:tc.cellsOf 36=7:=by kernel_rfl
theorem slc{H:Type}{enc:TypeId×IN->H}{P:Program}{W:World}{base t e:Nat}{v:IN}{x:DataW H}{p:List AAt}(ht:P.underlying t=some (.slice e))(h:wJ P W .any base t v)(tx:AAD enc P W 0 (fun _=>true) true t v x p):
  ∃ fuel,vu enc P W 0 (fun _=>true) true fuel t [v]=some (x,p):=by
 have h':Cell.okWide P W .any base t v:=by
  unfold wJ at h;rw[ht]at h;exact h
 obtain⟨fuel,hf⟩:=tx;refine⟨fuel,?_⟩;rcases Tj ht h' with rfl|⟨a,n,c,rfl,_⟩<;>exact hf
section
variable {H:Type}{enc:TypeId×IN->H}{w:World}
theorem qu(m:Nat)(l:List IN)(y:DataW H×List AAt)(hl:l.length=1)(h:vu enc tc w 0 (fun _=>true) true m 5 l=some y)(_:∀ b off,xF b off∈y.2->w.frozen? ⟨b,off,none⟩=false):QB l:=by
 obtain⟨a0,e0,_,hw⟩:=wA Tryz.underlying5 h;have:=bounds_u8 hw;subst e0;exact⟨a0.toNat,by
  show [ue .u8 a0]=[ue .u8 ((a0.toNat:Nat):Int)];rw[xK this.1],by omega⟩
theorem TM{n:Nat}{l:List IN}(h:l.length=n+1):∃ a l',l=a::l'/\l'.length=n:=by
 cases l with
 |nil=>cases h
 |cons a l'=>exact⟨a,l',rfl,Nat.succ.inj h⟩
theorem tF{l:List IN}(h:l.length=7):∃ c0 c1 c2 c3 c4 c5 c6,l=[c0,c1,c2,c3,c4,c5,c6]:=by
 obtain⟨c0,l0,rfl,h0⟩:=TM h;obtain⟨c1,l1,rfl,h1⟩:=TM h0;obtain⟨c2,l2,rfl,h2⟩:=TM h1;obtain⟨c3,l3,rfl,h3⟩:=TM h2;obtain⟨c4,l4,rfl,h4⟩:=TM h3;obtain⟨c5,l5,rfl,h5⟩:=TM h4;obtain⟨c6,l6,rfl,h6⟩:=TM h5;obtain rfl:=List.eq_nil_of_length_eq_zero h6;exact⟨c0,c1,c2,c3,c4,c5,c6,rfl⟩
set_option maxRecDepth 100000 in
theorem sy(m:Nat)(l:List IN)(y:DataW H×List AAt)(hl:l.length=7)(h:vu enc tc w 0 (fun _=>true) true m 36 l=some y)(hfz:∀ b off,xF b off∈y.2->w.frozen? ⟨b,off,none⟩=false):∃ x:AD,l=x.cells/\X3 w x:=by
 obtain⟨c0,c1,c2,c3,c4,c5,c6,rfl⟩:=tF hl;obtain⟨ys,k,_,rfl,_,hys,hfs⟩:=DataW.trod_struct Tryz.underlying36 h;have hys:ys.length=7:=hys;have g0:=hfs 0 _ rfl;have g1:=hfs 1 _ rfl;have g2:=hfs 2 _ rfl;have g3:=hfs 3 _ rfl;have g4:=hfs 4 _ rfl;have g5:=hfs 5 _ rfl;have g6:=hfs 6 _ rfl;have g0:vu enc tc w 0 (fun _=>true) true k 3 [c0]=some (ys[0]'(by omega)):=g0.trans (tW _);have g1:vu enc tc w 0 (fun _=>true) true k 3 [c1]=some (ys[1]'(by omega)):=g1.trans (tW _);have g2:vu enc tc w 0 (fun _=>true) true k 33 [c2]=some (ys[2]'(by omega)):=g2.trans (tW _);have g3:vu enc tc w 0 (fun _=>true) true k 3 [c3]=some (ys[3]'(by omega)):=g3.trans (tW _);have g4:vu enc tc w 0 (fun _=>true) true k 3 [c4]=some (ys[4]'(by omega)):=g4.trans (tW _);have g5:vu enc tc w 0 (fun _=>true) true k 3 [c5]=some (ys[5]'(by omega)):=g5.trans (tW _);have g6:vu enc tc w 0 (fun _=>true) true k 34 [c6]=some (ys[6]'(by omega)):=g6.trans (tW _);obtain⟨a0,e0,_⟩:=wA wX g0;obtain⟨a1,e1,_⟩:=wA wX g1;obtain⟨a2,e2,_,hw⟩:=wA Tryz.underlying33 g2;obtain⟨a3,e3,_⟩:=wA wX g3;obtain⟨a4,e4,_⟩:=wA wX g4;obtain⟨a5,e5,_⟩:=wA wX g5;have hB:=Pd yV Yh (by omega) (Q:=QB) qu g6 (fun b off hm=>hfz b off (List.mem_flatMap.2 ⟨_,List.getElem_mem (by omega),hm⟩));have b8:=bounds_u8 hw;cases e0;cases e1;cases e2;cases e3;cases e4;cases e5;refine⟨⟨a0,a1,a2.toNat,a3,a4,a5,c6⟩,?_,hB,by show a2.toNat<256;omega⟩;show [ue .i64 a0,ue .i64 a1,ue .u8 a2,ue .i64 a3,ue .i64 a4,ue .i64 a5,c6]=[ue .i64 a0,ue .i64 a1,ue .u8 ((a2.toNat:Nat):Int),ue .i64 a3,ue .i64 a4,ue .i64 a5,c6];rw[xK b8.1]
end
set_option maxRecDepth 100000 in
theorem qN{H:Type}{enc:TypeId×IN->H}(o b:IN)(w:World){base:Nat}{d0 d1:DataW H}{p0 p1:List AAt}(ho:wJ tc w .any base 22 o)(hb:wJ tc w .any base 34 b)
  (to_:AAD enc tc w 0 (fun _=>true) true 22 o d0 p0)(fo:∀ b off,xF b off∈p0->w.frozen? ⟨b,off,none⟩=false)
  (tb:AAD enc tc w 0 (fun _=>true) true 34 b d1 p1)(fb:∀ b off,xF b off∈p1->w.frozen? ⟨b,off,none⟩=false):
  Calls tc 6 #[o,b] w fun e w'=>e=.returned (.bool true)/\Below w.heap.size w w':=by
 obtain⟨AHp,hf0⟩:=slc yV hb tb;obtain⟨n0,Ls0,R0⟩:=Pd yV Yh (by omega) (Q:=QB) qu hf0 fb;obtain⟨u0,q0,A0,B0,C0,D0⟩:=R0.rel (by omega) (fun l h φ=>X6 h φ) 1;obtain⟨l0,hl0,E0⟩:=YS R0;have cap:GL u0:=by
  have:=R0.2.1;intro o n c e;rcases D0 with ⟨rfl,_⟩|⟨rfl,_⟩|rfl
  ·cases e
   exact If _
  ·cases e
  ·cases e
   exact this
 obtain⟨fuel,hf⟩:=slc AAF ho to_;obtain⟨n,Ls,R⟩:=Pd AAF db (by omega) (Q:=fun l=>∃ x:AD,l=x.cells/\X3 w x) sy hf fo;obtain⟨u,q,L0,qs,Zs,l1,l2,r1,r2,r3⟩:=cg R 0 2 25;have ABj:(L0::Ls0.flatten::Zs).length<=256:=by simp only[tZ];omega
 have W0:(inH (L0::Ls0.flatten::Zs)).Wf:=Ze ABj;have O:=r3 _ W0 (PD ABj (i:=0) rfl) (fun j L e=>PD ABj (i:=j+2) e);have Vb:=E0 1 u0 D0 _ (PD ABj (i:=1) rfl);obtain⟨h',hr,hx'⟩:=jM (m:=50) W0 O Vb cap hl0;obtain⟨g1,g2⟩:=r1 (MR (q::q0::qs)) rfl (fun j q' e=>by
  show((q::q0::qs)[j+2]?).getD none=q';have e:(q::q0::qs)[j+2]? =some q':=e;rw[e];rfl)
 refine hJ Yf hr hx' rfl (.cons g2 (.cons (C0 (MR (q::q0::qs)) rfl) .nil)) (bL (ps:=q::q0::qs) ABj (by simp only[tZ];omega) fun i q' L e1 e2=>?_)
 match i,e1,e2 with
 |0,e1,e2=>cases e1;cases e2;exact g1
 |1,e1,e2=>cases e1;cases e2;exact A0.AGW (B0 _)
 |i+2,e1,e2=>
  have e1:qs[i]? =some q':=e1;have e2:Zs[i]? =some L:=e2;obtain⟨s1,s2⟩:=r2 i q' L e1 e2;exact s1.AGW (s2 _)
set_option maxRecDepth 100000 in
theorem pA(os:Os)(started:os.Started)(H:Type)(enc:TypeId×IN->H):
  ReturnsInHanded {} zc os 6 .any (Rows.nodeAnySpec.pre6 enc tc zr Rows.nodeAnyRow.domain false) (Rows.nodeAnySpec.post enc tc zr false true false false):=by
 refine returnsInHanded_of_change (C:=zc) own started (by kernel_rfl) ABH
  (ABT (enc:=enc) (C:=zc) false ⟨#[],#[.slice none 0 0,.slice none 0 0],[]⟩ 8 (by kernel_rfl) (by kernel_rfl) (by kernel_rfl) (by kernel_rfl)) ?_
 intro W base args ds gs before AEk hW AH3 _;have hval:∀ (j:Nat) t v,zr.params[j]? =some t->args[j]? =some v->wJ tc W .any base t v:=AEk;have hW':=hW;obtain⟨p,q,hA0,hV,rfl,hfz,hnd⟩:=hW;have hA:DataW.TrodAll enc tc W 0 (fun _=>true) true zr.params.toList args.toList ds p:=hA0;rw[Tryz.params6]at hA hval;obtain⟨v0,vs0,d0,ds0,p0,q0,hargs,rfl,rfl,h0,r0⟩:=trodAll_cons hA;obtain⟨v1,vs1,d1,ds1,p1,q1,rfl,rfl,rfl,h1,r1⟩:=trodAll_cons r0;obtain⟨rfl,rfl,rfl⟩:=trodAll_nil r1;obtain rfl:args= #[v0,v1]:=by cases args;simp_all
 obtain⟨rfl,rfl⟩:=trodVars_none hV;clear hA0 AEk;simp only[uH]at hW' hfz;have hlt:∀ x∈p0++p1,x.block<W.heap.size:=fun x hx=>hW'.lt x hx
 have i0:∀ x∈p0,x∈p0++p1:=fun x hx=>List.mem_append_left _ hx
 have i1:∀ x∈p1,x∈p0++p1:=fun x hx=>List.mem_append_right _ hx
 refine(qN v0 v1 W (hval 0 22 v0 rfl rfl) (hval 1 34 v1 rfl rfl) h0 (fun b off hm=>hfz b off (i0 _ hm)) h1 (fun b off hm=>hfz b off (i1 _ hm))).mono fun e W' ⟨he,hb⟩=>?_
 subst he;refine⟨_,rfl,NY (pa:=p0++p1) (pv:=[]) hW' (fun _ _ _=>(trodAll_cons_mk (shut_bool AAQ _) trodAll_mk0)) (fun sp hsp=>?_) (fun _ _=>rfl) (by simp) hb (ok_one (by kernel_rfl) rfl (okWide_bool_mk AAQ _))⟩;have s0:=zA VU (by kernel_rfl) (of_decide_eq_true (by kernel_rfl)) h0 (fun x hx=>hb.same (hlt x (i0 x hx))) (fun x hx=>hsp x (i0 x hx));have s1:=zA VU (by kernel_rfl) (of_decide_eq_true (by kernel_rfl)) h1 (fun x hx=>hb.same (hlt x (i1 x hx))) (fun x hx=>hsp x (i1 x hx));have:=trodAll_cons_mk s0 (trodAll_cons_mk s1 (trodAll_mk0 (enc:=enc) (P:=tc) (w:=W') (base:=0) (spare:=sp) (held:=true)));rw[uH]at this;exact this
theorem over:Rows.nodeAnyRow.holds Tryz.pinned (OpenSpec.ofChange Rows.nodeAnySpec):=
 ABU 6 zr rfl rfl rfl rfl rfl rfl rfl ⟨rfl,rfl,rfl,rfl,rfl⟩ rfl rfl rfl rfl rfl (by kernel_rfl) ABH (by kernel_rfl)
  (of_decide_eq_true (by kernel_rfl)) (by unfold Func.isWrapper;first|(rw[if_pos (by decide +kernel)];kernel_rfl)|(rw[if_neg (by decide +kernel)];exact⟨rfl,rfl⟩))
  (fun os started H enc _=>pA os started H enc)
theorem proved:Rows.NodeAnySaid:=
 over
#print axioms proved
end
end Go.Proofs.YtbjadbhkogcfeaaGreat.nodeAny
