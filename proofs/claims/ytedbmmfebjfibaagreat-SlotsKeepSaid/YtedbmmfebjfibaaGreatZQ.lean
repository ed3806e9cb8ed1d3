/-
  Part ZQ of what Lawke stands on: printed by program, names and spaces cut.
-/
import Derived.Test.YtedbmmfebjfibaaGreatZP
open Go.Value renaming int→AI
open Go.IntKind renaming i64→AT
open Nat renaming reduceEqDiff→BY,reduceLT→By,reduceAdd→IS,le_refl→IT,zero_add→vk,succ→vo,ble→vx,zero_le→wP,le_trans→wd,blt→wz,mul_comm→xr,add_zero→yc,le_of_not_lt→ACi
open Go renaming Value→IN
open List renaming length_append→No,length_map→OF,getElem?_eq_getElem→sh,mem_cons_self→vp,mem_cons_of_mem→vr,mem_of_getElem?→vy,mem_filter→vz,mem_singleton→v7,mem_cons→wA,getElem?_eq_some_iff→wC,append_nil→wF,append_assoc→wG,mem_append_right→wI,mem_append→wK,mem_map→wM,length_take→wT,mem_append_left→wU,map_append→wa,length_drop→xC,getElem?_map→xH,mem_of_mem_take→xK,mem_range→xM,filter_cons_of_pos→xN,filter_cons_of_neg→xO,nodup_cons→xx,pairwise_cons→yG,nodup_append→yP,length_filter_le→yW,filter_append→yr,take_of_length_le→yz,nodup_range→zU,find?_eq_none→ze,filter_sublist→AAc,take_add_one→AAy,find?_some→AA2,take_zero→AA9,mem_or_eq_of_mem_set→ABA,filter_nil→ABU,length_set→ACk
open Bool renaming and_eq_true→wJ,not_false→yA
open Classical renaming propDecidable→xS,em→AD7
open Go.Value renaming int→xY,map→ACP
open List.Pairwise renaming sublist→AAN
open List.Perm renaming trans→ABu
set_option linter.unusedVariables false
set_option linter.unusedSimpArgs false
namespace Go.Proofs.YtedbmmfebjfibaaGreat
noncomputable section
open Go
set_option maxRecDepth 100000
section
variable {fa:Bool}{F:AEB}{e:Env}{h h':Hp}{S:Nat->Prop}{A:At}{T M:List Nat}{c0 bad m k p:Nat}{arm:Int}{ks:List Kt}{fr:List Nat}{v lv fv:IN}
theorem Xi(W:h.Wf)(s:Sl h A T M c0 arm ks fr lv fv bad false){j:Nat}{kx:Kt}(hj:ks[j]? =some kx)(hs1:kx.s=1){a b c:Int}(hf:GJ (BN a b c) 0 ks=(j:Int))(AFL:kx.a=a/\kx.b=b/\kx.c=c)(hst:Bm a b c ks=false)(hp3:3*kx.p+3<=A.n)(hkl:ks.length<=1000)(hbm:AE3 fa arm):
  (∃ h' c1 AEc lv' e2,PV (call AC (m+7)) (AQ e0 0 [pt A.bs,AI AT a,AI AT b,AI AT c]) h=cmS (call AC (m+7)) e2 h'/\J 0 e2=pt A.bs/\J 1 e2=AI AT a/\J 2 e2=AI AT b/\J 3 e2=AI AT c/\J 15 e2=AEP/\J 16 e2=AI AT ((0:Nat):Int)/\Fx A.D h h'/\
   Sl h' A T (EK M kx.p (AEJ T a b c 2 kx.l)) c1 AEc (ks.set j {kx with s:=2}) fr lv' fv bad false/\AE3 fa AEc)\/
  (∃ i h',i<2/\call AC (m+8) 12 [pt A.bs,AI AT a,AI AT b,AI AT c] h=.ok (AI AT 15) h'/\Fx A.D h h'/\AFO fa h' A T (BP M [] ((DY kx.p (AEJ T a b c 2 kx.l)).take i)).1 (BP M [] ((DY kx.p (AEJ T a b c 2 kx.l)).take i)).2):=by
 have big:=W.big;have hD:=s.AGs W;have hn:=s.dk.n1;have hjl:=(wC.1 hj).1;have hkm:=vy hj;obtain⟨o1,o2,o3,o4,o5,o6⟩:=s.ko kx hkm;obtain⟨rfl,rfl,rfl⟩:=AFL;have oc:=o1.vs.one;have c00:iNe 0 0=false:=CY rfl;have k0:=Ns (m:=m+6) s.row;obtain⟨h1,k1,x1⟩:=IM (m:=m+4) W s.row s.ls.ks (by omega) kx.a kx.b kx.c;rw[hf]at k1;have c1:iGe (j:Int) 0=true:=Hi (by omega);have s1:=s.ext W x1;obtain⟨_,_,_,l3,_⟩:=A7 s1.row;obtain⟨bb,_,ix,ld,lde⟩:=s1.ls.ks.at hj;have lst:=lde 3 (.int .u8 (kx.s:Int)) rfl;have c2:iEq (kx.s:Int) 2=false:=Bj (by omega);obtain⟨h2,k2,x2⟩:=Gg (m:=m+3) x1.wf s1.row s1.ls.ks (by omega) kx.a kx.b kx.c;rw[hst]at k2;have x12:=x1.trans x2;have s2:=s.ext W x12;have c3:iLt (j:Int) 0=false:=HL (by omega);obtain⟨_,_,_,l3',_⟩:=A7 s2.row;obtain⟨bb2,_,ix2,ld2,_⟩:=s2.ls.ks.at hj;have al:=fun (F:AEB) (e:Env)=>Bx (F:=F) (e:=e) x12.wf (n:=6) (t:=Du)
 have Ra:=Hp.Row.alloc x12.wf HE (show(AU K0).length=6 from rfl);have y3:h2.Ext (h2.push (.cells Du 6 0)):=(Hp.Ext.refl x12.wf).push _;have n3:(h2.push (.cells Du 6 0)).next=h2.next+1:=rfl;generalize h2.push (.cells Du 6 0)=h3 at al Ra y3 n3;obtain⟨st,_,y4,R11,n4⟩:=Nf x12.wf y3 (IT _) Ra rfl (k:=kx) oc.2.1;generalize h3.wr h2.next 0 (AU kx)=h4 at st y4 R11 n4;have AEO:256<=h2.next:=by have:=x12.next;omega
 obtain⟨h5,st5,R5,n5,f5,e5⟩:=D0 y4.wf R11 (off:=3) (show 3<6 by omega) AEO (v:=.int .u8 2) rfl rfl;have y5:=e5 h2 y4 (IT _);generalize hkx:({kx with s:=2}:Kt)=X;have R5:h5.Row h2.next 0 (AU X):=by rw[<- hkx];exact R5
 have x5:=x12.trans y5;have pre:∃ e1,PV (call AC (m+7)) (AQ e0 0 [pt A.bs,AI AT kx.a,AI AT kx.b,AI AT kx.c]) h=cmB (call AC (m+7)) e1 h5/\J 0 e1=pt A.bs/\J 1 e1=AI AT kx.a/\J 2 e1=AI AT kx.b/\J 3 e1=AI AT kx.c/\J 10 e1=AI AT (j:Int)/\J 11 e1=pt h2.next:=by
  unfold PV;simp only[iN,IS,sT,By,BY,reduceIte,gD,cA0,k0,AJ,AH,c00,k1,c1,Ao,Ad,AG,AM,vk,yc,AK,AO,l3,Ay,ix,lst,c2,k2,c3,l3',ix2,Aq,As,ld2,al,Ab,st,st5];exact⟨_,rfl,by simp[AD]⟩
 obtain⟨e1,p1,t0,t1,t2,t3,t10,t11⟩:=pre;have x5m:=x5.marked;have s5m:=s.ext W x5m;have R5m:h5.marked.Row h2.next 0 (AU X):=R5.same rfl;obtain⟨_,_,_,_,_,_,_,ld5⟩:=Bt R5m;obtain⟨_,l1m,_⟩:=A7 s5m.row;have hX:X.a=kx.a/\X.b=kx.b/\X.c=kx.c/\X.s=2/\X.u=kx.u/\X.l=kx.l/\X.p=kx.p:=by rw[<- hkx];exact⟨rfl,rfl,rfl,rfl,rfl,rfl,rfl⟩
 obtain⟨e6a,e6b,e6c,e6s,e6u,e6l,e6p⟩:=hX;rw[e6a,e6b,e6c,e6s,e6u]at ld5;have bsu:=(s5m.ko kx hkm).1;have hr2:AEN kx.a kx.b kx.c 2 kx.l.length=true:=by
  obtain⟨g1,g2,g3,g4,g5,g6,g7,g8⟩:=Dh o5;exact decide_eq_true ⟨g1,g2,g3,g4,g5,g6,.inr rfl,g8⟩
 have hH:=Dm (T:=T) hr2;have hHb:=Mw (T:=T) (a:=kx.a) (b:=kx.b) (c:=kx.c) (s:=2) (l:=kx.l);obtain⟨h6,x6,hd⟩:=WD (n:=m+4) x5m.quiet.wf ((s5m.tab).same (h':=h5.marked.quiet) rfl) s.tok (a:=kx.a) (b:=kx.b) (c:=kx.c) (s:=2) (bsu.vs.vals.same (h':=h5.marked.quiet) rfl) o2 (by omega) (by omega);rcases hd with ⟨_,vh,k6,mkh⟩|⟨hrf,_⟩
 case inr=>rw[hr2]at hrf;cases hrf
 have q6:∀ e:Env,J 65 e=pt A.tb->J 67 e=Bv kx.a kx.b kx.c 2 kx.u->Al .free (AS 44 [J 65,J 67]) (call AC (m+7)) e h5.marked=.ok (.tuple ⟨[vh,AI AT 0]⟩) (h5.marked.back h6):=fun e e1 e2=>by
  refine BO ?_;rw[Ba,AV,AV,A1,e1,e2];exact k6
 have y7:h5.Ext (h5.marked.back h6):=(Hp.Ext.refl x5.wf).marked.trans (.back x6);have mk7:Mk (h5.marked.back h6) h5.next vh (AEJ T kx.a kx.b kx.c 2 kx.l):=mkh.same rfl;generalize h5.marked.back h6=h7 at q6 y7 mk7;have x7:=x5.trans y7;have s7:=s.ext W x7;obtain⟨_,_,_,_,_,lp7,_⟩:=Bt (R5.ext x5.wf y7);rw[e6p]at lp7;have k7:=MQ (m:=m+5) s7.row (p:=kx.p) (by omega);obtain⟨h8,dv,k8,x8,D8⟩:=LF (m:=m+6) x7.wf s7.row (fun b hb=>by have:=hD b hb;have:=x7.next;omega) (sct:=kx.p * 3) (by omega) mk7 (by omega);rw[hH,show(List.range ((64+63) / 64)).map (fun j=>AEp.w (kx.p * 3+j) (Ct (AEJ T kx.a kx.b kx.c 2 kx.l) j))++[.f]=DY kx.p (Ct (AEJ T kx.a kx.b kx.c 2 kx.l) 0)from rfl,Qk hH]at D8;have x8':=x7.trans x8;have s8:=s.ext W x8';obtain⟨vs,w1,w2,w3⟩:=D8.ends fun b hb=>by have:=hD b hb;have:=x7.next;omega
 rcases PJ (m:=m+2) x8'.wf s8 w1 w2 w3 (Wd hp3 hH hHb) hbm (by show 2<=100;omega)with ⟨h9,c9,AGc,k9,f9,d9,b9⟩|⟨i,h9,hi,k9,f9,dd⟩
 case inr=>
  have c15:iNe 15 0=true:=FH (by omega);have k7':call AC (m+7) 46 [pt A.bs,AI AT (kx.p:Int)] h7=.ok (AI AT ((kx.p*3:Nat):Int)) h7:=k7;have k8':call AC (m+7) 45 [pt A.bs,AI AT ((kx.p*3:Nat):Int),vh] h7=.ok dv h8:=k8;have k9':call AC (m+7) 47 [pt A.bs,dv] h8=.ok (AI AT 15) h9:=k9;refine .inr ⟨i,h9,hi,?_,(Fx.of x8').trans f9,dd⟩;rw[KR rfl,KZ,p1,Zg];unfold fR;simp only[sT,By,BY,reduceIte,A3,Ao,t0,Ad,AG,AM,vk,yc,AK,AO,l1m,Aq,As,t11,ld5,q6,BK,BW,BZ,lp7,cA0,k7',k8',k9',AJ,AH,c15,lV0]
 have d9:Dk h9 A.bd A.bm A.bc A.n (EK M kx.p (AEJ T kx.a kx.b kx.c 2 kx.l)) c9 [] AGc false:=d9;have s9:Sl h9 A T (EK M kx.p (AEJ T kx.a kx.b kx.c 2 kx.l)) c9 AGc ks fr lv fv bad false:=(s8.sc.fx x8'.wf f9).sl d9;have AJE:¬ A.D h2.next:=fun h=>by have:=hD _ h;have:=x12.next;omega
 have R9:=f9.row x8'.wf ((R5.ext x5.wf y7).ext x7.wf x8) (UZ AJE);obtain⟨_,_,_,l39,_⟩:=A7 s9.row;have hu:∀ k∈ks,oneCell k.u=true:=fun k hk=>(s9.ko k hk).1.vs.one.2.1
 obtain⟨h10,w10,k10,x10,AHl⟩:=Tt (m:=m+6) f9.wf s9.ls hu (fun h=>by rw[h]at hjl;cases hjl) (by omega);have s10:=s9.ext f9.wf x10;obtain⟨h11,AKV,AGw,n11,f11,_⟩:=D0 x10.wf s10.row (off:=3) (show 3<7 by omega) s.ne.2.2.2.2 (v:=w10) AHl.lst.one.1 AHl.lst.one.2.1;have AGw:h11.Row A.bs 0 (slL A.bd A.tb w10 fv bad false):=AGw;have nbs:∀ b,¬ A.D b->b≠A.bs:=fun b hb h=>hb (.inl h)
 have AIY:∀ b,A.D b->b<h9.next:=fun b hb=>by have:=hD b hb;have:=x8'.next;have:=f9.next;omega
 have AJF:h11.KO h9.next w10 ks:=AHl.keep fun b el L hb r=>f11.row x10.wf r (fun h=>by
  have:=(AHl.blk x10.wf hb).1;have:=AIY A.bs (.inl rfl);omega)
 have s11:Sl h11 A T (EK M kx.p (AEJ T kx.a kx.b kx.c 2 kx.l)) c9 AGc ks fr w10 fv bad false:=s10.bsx x10.wf f11 AGw (by
   refine Hp.KW.ks ?_;rcases AJF with ⟨h1,h2⟩|⟨b,h1,h2,h3,_⟩
   ·exact .inl ⟨h1,h2⟩
   ·exact .inr ⟨b,h1,h2,fun h=>by have:=AIY b h;omega⟩) (fun x hx=>⟨(s10.ko x hx).1.keep fun b el L hb _ r=>f11.row x10.wf r (nbs b hb),(s10.ko x hx).2⟩) (s10.fs.keep fun b el L hb r=>f11.row x10.wf r (nbs b hb)) s10.le
 have AIZ:=f11.row x10.wf (R9.ext f9.wf x10) (nbs _ AJE);have W11:=f11.wf;have xm:=(Hp.Ext.refl W11).marked;have AKW:=s11.ext W11 xm;obtain⟨_,_,_,l3m,_⟩:=A7 AKW.row;obtain⟨_,_,_,_,_,_,AKX,_⟩:=Bt (AIZ.same (h':=h11.marked) rfl);rcases AJF with ⟨_,AGq⟩|⟨bl,hw,Rl,hbk,AF8⟩
 ·rw[AGq]at hjl;cases hjl
 have ixl:AE0 6 w10 (AI AT (j:Int)) h11.marked=.ok (.pointer (some ⟨bl,6*j,none⟩)) h11.marked:=by
  rw[hw];have:=Cy (h:=h11.marked) (n:=ks.length) (c:=ks.length) (es:=6) (b:=bl) (off:=0) (i:=j) (k:=.i64) hjl
  rwa [vk,xr]at this
 have Rq:h11.marked.quiet.Row bl 84 (flK ks):=Rl.same rfl;have hXu:oneCell X.u=true:=by rw[e6u];exact oc.2.1
 have hoo:6*j+(AU X).length<=(flK ks).length:=by rw[CQ];show 6*j+6<=_;omega
 have stq:=Rq.AER (n:=6) (off:=6 * j) (v:=ktV X) xm.wf.quiet AF8 rfl hoo (Gn hXu);have wrq:=Rq.AET xm.wf.quiet hoo;rw[Pa ks j X hjl]at wrq;have fxq:=Fx.wr (S:=fun b=>b=bl) xm.wf.quiet Rq hoo rfl;have stq:AER 6 (.pointer (some ⟨bl,6 * j,none⟩)) (ktV X) h11.marked.quiet=.ok AEE (h11.marked.quiet.wr bl (6 * j) (AU X)):=stq;generalize h11.marked.quiet.wr bl (6 * j) (AU X)=q at stq wrq fxq;have q12:∀ (F:AEB) (e:Env),J 97 e=.pointer (some ⟨bl,6 * j,none⟩)->J 96 e=ktV X->Al .free (Av 6 (J 97) (J 96)) F e h11.marked=.ok AEE (h11.marked.back q):=fun F e e1 e2=>BO (by rw[Ab,e1,e2];exact stq)
 have f12:Fx (fun b=>b=bl) h11 (h11.marked.back q):=((fxq.from (h:=h11.marked) rfl rfl).same (h2:=h11.marked.back q) rfl rfl).from (h:=h11) rfl rfl;have AJG:(h11.marked.back q).Row bl 84 (flK (ks.set j X)):=wrq.same rfl;generalize h11.marked.back q=h12 at q12 f12 AJG;have nbl:¬ A.D bl:=fun h=>by have:=AIY bl h;omega
 have hsl:(ks.set j X).length=ks.length:=ACk;have AHm:∀ b el L,b≠bl->h11.Row b el L->h12.Row b el L:=fun b el L hb r=>f12.row W11 r hb
 have AG6:∀ b el L,(el=0\/el=6\/el=4)->h11.Row b el L->b≠bl:=fun b el L he r=>Cp r Rl (by omega)
 have s12:Sl h12 A T (EK M kx.p (AEJ T kx.a kx.b kx.c 2 kx.l)) c9 AGc (ks.set j X) fr w10 fv bad false:=by
  refine⟨AHm _ _ _ (AG6 _ _ _ (.inl rfl) s11.row) s11.row,s11.dk.fr W11 f12 (AG6 _ _ _ (.inl rfl) s11.dk.disk) (AG6 _ _ _ (.inl rfl) s11.dk.med) (fun h=>(G6 Rl s11.dk.map) h.symm),AHm _ _ _ (AG6 _ _ _ (.inl rfl) s11.tab) s11.tab,s.tok,Hp.KW.ks (.inr ⟨bl,by rw[hsl];exact hw,AJG,nbl⟩),fun x hx=>?_,?_,s.ne,by rw[hsl];exact s11.le⟩
  ·have kp:=fun (x:Kt) (hx:x∈ks)=>(s11.ko x hx).1.keep (h':=h12) fun b el L hb he r=>AHm b el L (AG6 b el L (by omega) r) r
   rcases ABA hx with h1|h1
   ·exact⟨kp x h1,(s11.ko x h1).2⟩
   ·rw[h1]
    have:=kp kx hkm;refine⟨?_,?_,?_,.inr e6s,?_,?_⟩
    ·rw[e6u,e6l];exact this
    ·rw[e6l];exact o2
    ·rw[e6l];exact o3
    ·rw[e6a,e6b,e6c,e6s,e6l];exact hr2
    ·rw[e6p];exact o6
  ·rcases s11.fs with h1|⟨b,el,h1,h2,h3,h4⟩
   ·exact .inl h1
   ·exact .inr ⟨b,el,h1,AHm _ _ _ (AG6 b el _ (by omega) h2) h2,h3,h4⟩
 have mid:∃ e2,cmB (call AC (m+7)) e1 h5=cmS (call AC (m+7)) e2 h12/\J 0 e2=pt A.bs/\J 1 e2=AI AT kx.a/\J 2 e2=AI AT kx.b/\J 3 e2=AI AT kx.c/\J 15 e2=AEP/\J 16 e2=AI AT ((0:Nat):Int):=by
  have k7':call AC (m+7) 46 [pt A.bs,AI AT (kx.p:Int)] h7=.ok (AI AT ((kx.p*3:Nat):Int)) h7:=k7;have k8':call AC (m+7) 45 [pt A.bs,AI AT ((kx.p*3:Nat):Int),vh] h7=.ok dv h8:=k8;have k9':call AC (m+7) 47 [pt A.bs,dv] h8=.ok (AI AT 0) h9:=k9;have AKY:call AC (m+7) 49 [lv] h9=.ok w10 h10:=k10;rw[Zg];unfold fR;simp only[sT,By,BY,reduceIte,A3,Ao,t0,Ad,AG,AM,vk,yc,AK,AO,l1m,Aq,As,t11,ld5,q6,BK,BW,BZ,lp7,cA0,k7',k8',k9',AJ,AH,c00,l39,AKY,Ab,AKV,l3m,AKX,Ay,t10,ixl,q12];exact⟨_,rfl,by simp[AD,t0,t1,t2,t3]⟩
 obtain⟨e2,r1,u0,u1,u2,u3,u15,u16⟩:=mid;have AHn:Fx A.D h h12:=by
  have e1:Fx A.D h h8:=.of x8';have e2:Fx A.D h8 h9:=f9.mono fun b hb=>.inr hb
  have e3:Fx A.D h9 h10:=.of x10;have e4:Fx A.D h10 h11:=f11.mono fun b hb=>.inl hb
  have e14:=((e1.trans e2).trans e3).trans e4;refine⟨wd e14.next f12.next,fun i hi hs=>?_,f12.wf,fun L q1 q2 q3=>f12.low L (e14.low L q1 q2 q3) (wd q2 e14.next) fun b hb=>by have:=x8'.next;have:=f9.next;omega⟩;rw[f12.get i (by have:=e14.next;omega) (fun h=>by have:=x8'.next;have:=f9.next;omega),e14.get i hi hs]
 exact .inl ⟨h12,c9,AGc,w10,e2,p1.trans r1,u0,u1,u2,u3,u15,u16,AHn,hkx ▸ s12,b9⟩
def cmK(ks:List Kt)(j:Nat)(kx:Kt):List Kt:=ks.set j {kx with s:=2}
def cmO(ks:List Kt)(j:Nat)(kx:Kt):List Nat:=((cmK ks j kx).filter (elB kx.a kx.b kx.c)).map Kt.plc
theorem Zk(W:h.Wf)(s:Sl h A T M c0 arm ks fr lv fv bad false){a b c:Int}(hkl:fr.length+ks.length<=11)(hp3:∀ k∈ks,3*k.p+3<=A.n)(hnd:(ks.map Kt.plc).Nodup)(hb:AE3 fa arm)(hz:FG ks a b c=none):
  ∃ j kx,ks[j]? =some kx/\(kx.a=a/\kx.b=b/\kx.c=c)/\kx.s=1/\Bm a b c ks=false/\
  ((∃ h' c1 AEc lv' fv',call AC (m+8) 12 [pt A.bs,AI AT a,AI AT b,AI AT c] h=.ok (AI AT 0) h'/\Fx A.D h h'/\
    Sl h' A T (Fy (EK M kx.p (AEJ T a b c 2 kx.l)) (cmO ks j kx)) c1 AEc ((cmK ks j kx).filter fun k=> !elB a b c k) (frE fr ((cmK ks j kx).filter (elB a b c))) lv' fv' bad false/\AE3 fa AEc)\/
   (∃ i h',i<2/\call AC (m+8) 12 [pt A.bs,AI AT a,AI AT b,AI AT c] h=.ok (AI AT 15) h'/\Fx A.D h h'/\AFO fa h' A T (BP M [] ((DY kx.p (AEJ T a b c 2 kx.l)).take i)).1 (BP M [] ((DY kx.p (AEJ T a b c 2 kx.l)).take i)).2)\/
   (∃ i h',i<(cmO ks j kx).length+1/\call AC (m+8) 12 [pt A.bs,AI AT a,AI AT b,AI AT c] h=.ok (AI AT 15) h'/\Fx A.D h h'/\AFO fa h' A T (BP (EK M kx.p (AEJ T a b c 2 kx.l)) [] ((Dy (cmO ks j kx)).take i)).1 (BP (EK M kx.p (AEJ T a b c 2 kx.l)) [] ((Dy (cmO ks j kx)).take i)).2)):=by
 unfold FG at hz;rcases Ef (BN a b c) ks 0 with ⟨e1,e2⟩|⟨j,kx,e1,e2,e3⟩
 ·rw[e1]at hz
  simp only at hz;split at hz<;>cases hz
 rw[e1]at hz;simp only at hz;split at hz
 ·cases hz
 rename_i hs2;split at hz
 ·cases hz
 rename_i hst;have AGb:Bm a b c ks=false:=by
  cases hq:Bm a b c ks
  · rfl
  · exact absurd hq hst
 have hkm:=vy e2;have hs1:kx.s=1:=(s.ko kx hkm).2.2.2.1.resolve_right hs2;have AFL:=IL (AA2 e1);rw[vk]at e3;refine⟨j,kx,e2,AFL,hs1,AGb,?_⟩;rcases Xi (m:=m) W s e2 hs1 e3 AFL AGb (hp3 kx hkm) s.le.1 hb with ⟨h12,c9,AGc,w10,e2',r1,u0,u1,u2,u3,u15,u16,AHn,s12,b9⟩|⟨i,h',hi,k1,f1,dd⟩
 case inr=>exact .inr (.inl ⟨i,h',hi,k1,f1,dd⟩)
 have sm:(ks.set j {kx with s:=2}).map Kt.plc=ks.map Kt.plc:=by
  rw[List.map_set];exact Nk (by rw[xH,e2];rfl)
 have AJH:∀ x∈ks.set j {kx with s:=2},3*x.p+3<=A.n:=fun x hx=>by
  rcases ABA hx with h1|h1
  · exact hp3 x h1
  · rw[h1];exact hp3 kx hkm
 have hsl:(ks.set j {kx with s:=2}).length=ks.length:=ACk;have hO:cmO ks j kx=((cmK ks j kx).filter (elB a b c)).map Kt.plc:=by obtain⟨rfl,rfl,rfl⟩:=AFL;rfl
 rw[hO];have hK:cmK ks j kx=ks.set j {kx with s:=2}:=rfl;rw[hK];generalize ks.set j {kx with s:=2}=ksX at *;obtain⟨e3',h13,lv3,fv3,w,r2,f13,v0,v15,ow,s13⟩:=Zi (m:=m) (a:=a) (b:=b) (c:=c) AHn.wf s12 (by omega) AJH u0 u1 u2 u3 u15 u16;have hfl:(ksX.filter (elB a b c)).length<=ksX.length:=yW _ _;have hos:((ksX.filter (elB a b c)).map Kt.plc).Nodup:=AAN (AAc.map _) (sm ▸ hnd);have hol:((ksX.filter (elB a b c)).map Kt.plc).length<=11:=by rw[OF];omega
 have fin:∀ (z:Int) (h14:Hp),call AC (m+7) 53 [pt A.bs,w] h13=.ok (AI AT z) h14->call AC (m+8) 12 [pt A.bs,AI AT a,AI AT b,AI AT c] h=.ok (AI AT z) h14:=fun z h14 AHR=>by
  rw[KR rfl,KZ,r1,oz];simp only[BB,Ap,r2,Az,A8];unfold cmE;simp only[sT,By,BY,reduceIte,cA0,v0,v15,AHR,lV0]
 have AJI:Fx A.D h h13:=AHn.trans (f13.mono fun b hb=>.inl hb);rcases JG (m:=m+1) f13.wf s13 (ps:=(ksX.filter (elB a b c)).map Kt.plc) (pv:=w) ow.vals (fun p hp=>by
  obtain⟨x,hx,rfl⟩:=wM.1 hp;exact AJH x (vz.1 hx).1) hos (by omega) b9 with ⟨h14,c14,AFv,k14,f14,s14,b14⟩|⟨i,h14,hi,_,k14,f14,dd⟩
 ·exact .inl ⟨h14,c14,AFv,lv3,fv3,fin 0 h14 k14,AJI.trans (f14.mono fun b hb=>.inr hb),s14,b14⟩
 ·exact .inr (.inr ⟨i,h14,hi,fin 15 h14 k14,AJI.trans f14,dd⟩)
end
end
noncomputable section
open Go
set_option maxRecDepth 100000
section
variable {fa:Bool}{F:AEB}{e:Env}{h h':Hp}{A:At}{T M:List Nat}{c0 bad m k p n:Nat}{arm:Int}{ks:List Kt}{fr:List Nat}{lv fv:IN}
theorem Wp{P Q:List Kt}{x:Kt}(W:h.Wf)(s:Sl h A T M c0 arm (P++x::Q) fr lv fv bad false)(hkl:(P++x::Q).length<=100)(hfl:fr.length<=11)(hp3:3*x.p+3<=A.n)(hb:AE3 fa arm):
  (∃ h' c1 AEc lv' fv',call AC (m+8) 68 [pt A.bs,AI AT (P.length:Int)] h=.ok (AI AT 0) h'/\Fx A.D h h'/\Sl h' A T (Fy M [x.p]) c1 AEc (P++Q) (ED (fr++[x.p])) lv' fv' bad false/\AE3 fa AEc)\/
  (∃ i h',i<2/\call AC (m+8) 68 [pt A.bs,AI AT (P.length:Int)] h=.ok (AI AT 15) h'/\Fx A.D h h'/\AFO fa h' A T (BP M [] ((Dy [x.p]).take i)).1 (BP M [] ((Dy [x.p]).take i)).2):=by
 obtain⟨_,_,_,l3,_⟩:=A7 s.row;obtain⟨b0,_,ix,_,lde⟩:=s.ls.at (i:=P.length) (k:=x) F9;have lp:=lde 5 (AI AT (x.p:Int)) rfl;have bs:=fun (F:AEB) (e:Env) (he:J 14 e=AI AT (x.p:Int))=>Eg (F:=F) W he
 have y1:=(Hp.Ext.refl W).AEA 0 [xY .i64 (x.p:Int)];have Rw:=Hp.Row.new W 0 [xY .i64 (x.p:Int)];generalize h.AEA 0 [xY .i64 (x.p:Int)]=h1 at bs y1 Rw;have s1:=s.ext W y1;rcases JG (m:=m+1) y1.wf s1 (ps:=[x.p]) (pv:=.slice (some ⟨h.next,0,none⟩) 1 1) (.inr ⟨h.next,0,1,0,_,rfl,Rw,IT _,rfl⟩) (fun p hp=>by rw[v7.1 hp];exact hp3) (by simp) (by show 1<=50;omega) hb with ⟨h2,c1,AGx,k2,f2,s2,b2⟩|⟨i,h2,hi,_,k2,f2,dd⟩
 case inr=>
  have c15:iNe 15 0=true:=FH (by omega);have k2':call AC (m+7) 53 [pt A.bs,.slice (some ⟨h.next,0,none⟩) 1 1] h1=.ok (AI AT 15) h2:=k2;refine .inr ⟨i,h2,hi,?_,(Fx.of y1).trans f2,dd⟩;rw[ZS rfl];unfold d68;simp only[iN,IS,sT,By,BY,reduceIte,Ao,Ad,AG,AM,vk,AK,AO,l3,Ay,ix,lp,bs,cA0,k2',AJ,AH,c15,lV0]
 obtain⟨h3,lv',fv',k3,f3,s3,_⟩:=WA (m:=m) f2.wf s2 hkl hfl hp3;have c00:iNe 0 0=false:=CY rfl;have k2':call AC (m+7) 53 [pt A.bs,.slice (some ⟨h.next,0,none⟩) 1 1] h1=.ok (AI AT 0) h2:=k2;refine .inl ⟨h3,c1,AGx,lv',fv',?_,((Fx.of y1).trans (f2.mono fun b hb=>.inr hb)).trans (f3.mono fun b hb=>.inl hb),s3,b2⟩;rw[ZS rfl];unfold d68;simp only[iN,IS,sT,By,BY,reduceIte,Ao,Ad,AG,AM,vk,AK,AO,l3,Ay,ix,lp,bs,cA0,k2',AJ,AH,c00,k3,lV0]
theorem XQ(W:h.Wf)(s:Sl h A T M c0 arm ks fr lv fv bad false){a b c:Int}(hkl:fr.length+ks.length<=11)(hp3:∀ k∈ks,3*k.p+3<=A.n)(hb:AE3 fa arm)(hz:abE ks a b c=none):
  ∃ j kx,ks[j]? =some kx/\(kx.a=a/\kx.b=b/\kx.c=c)/\Bm a b c ks=false/\
  ((∃ h' c1 AEc lv' fv',call AC (m+9) 29 [pt A.bs,AI AT a,AI AT b,AI AT c] h=.ok (AI AT 0) h'/\Fx A.D h h'/\
    Sl h' A T (Fy M [kx.p]) c1 AEc (ks.take j++ks.drop (j+1)) (ED (fr++[kx.p])) lv' fv' bad false/\AE3 fa AEc)\/
   (∃ i h',i<2/\call AC (m+9) 29 [pt A.bs,AI AT a,AI AT b,AI AT c] h=.ok (AI AT 15) h'/\Fx A.D h h'/\AFO fa h' A T (BP M [] ((Dy [kx.p]).take i)).1 (BP M [] ((Dy [kx.p]).take i)).2)):=by
 have AKA:=s.le.1;have c00:iNe 0 0=false:=CY rfl;have k0:=Ns (m:=m+7) s.row;obtain⟨h1,k1,x1⟩:=IM (m:=m+5) W s.row s.ls.ks (by omega) a b c;have s1:=s.ext W x1;obtain⟨h2,k2,x2⟩:=Gg (m:=m+4) x1.wf s1.row s1.ls.ks (by omega) a b c;have x12:=x1.trans x2;unfold abE at hz;cases hst:Bm a b c ks with
 |true=>
  rw[hst]at hz;rw[if_pos rfl]at hz;cases hz
 |false=>
  rw[hst]at k2 hz;rw[if_neg (by decide)]at hz;rcases Ef (BN a b c) ks 0 with ⟨e1,e2⟩|⟨j,kx,e1,e2,e3⟩
  · rw[e1]at hz
    cases hz
  · rw[e3,vk]at k1
    have c2:iLt (j:Int) 0=false:=HL (by omega);have hkm:=vy e2;have AFL:=IL (AA2 e1);obtain⟨q1,q2⟩:=Py e2;have s2:=s.ext W x12;have s2':Sl h2 A T M c0 arm (ks.take j++kx::ks.drop (j+1)) fr lv fv bad false:=by rw[<- q1];exact s2
    have fin:∀ (z:Int) (h3:Hp),call AC (m+8) 68 [pt A.bs,AI AT (j:Int)] h2=.ok (AI AT z) h3->call AC (m+9) 29 [pt A.bs,AI AT a,AI AT b,AI AT c] h=.ok (AI AT z) h3:=fun z h3 k3'=>by
     rw[Tm rfl];unfold d29;simp only[iN,IS,sT,By,BY,reduceIte,gD,cA0,k0,AJ,AH,c00,k1,k2,c2,k3',lV0]
    refine⟨j,kx,e2,AFL,rfl,?_⟩;rcases Wp (m:=m) x12.wf s2' (by rw[<- q1];omega) (by omega) (hp3 kx hkm) hb with ⟨h3,c1,AEc,lv',fv',k3,f3,s3,b3⟩|⟨i,h3,hi,k3,f3,dd⟩
    ·rw[q2]at k3
     exact .inl ⟨h3,c1,AEc,lv',fv',fin 0 h3 k3,(Fx.of x12).trans f3,s3,b3⟩
    ·rw[q2]at k3
     exact .inr ⟨i,h3,hi,fin 15 h3 k3,(Fx.of x12).trans f3,dd⟩
theorem UC{a b c:Int}(W:h.Wf)(s:Sl h A T M c0 arm ks fr lv fv bad false)(hkl:fr.length+ks.length<=11)(hp3:∀ k∈ks,3*k.p+3<=A.n)(hb:AE3 fa arm)(s0:J 0 e=pt A.bs)(s1:J 1 e=AI AT a)(s2:J 2 e=AI AT b)(s3:J 3 e=AI AT c)(s10:J 10 e=AI AT ((ks.length:Int) - 1)):
  (∃ e' h' c1 AEc lv' fv',Aw dpL (call AC (m+8)) e h=.exit 0 e' h'/\Fx A.D h h'/\Sl h' A T (EW M (drO a b c ks)) c1 AEc (ks.filter fun k=> !drB a b c k) (frE fr (drO a b c ks)) lv' fv' bad false/\AE3 fa AEc)\/(∃ e' h' o1 x o2 i,Aw dpL (call AC (m+8)) e h=.ret e' h'/\J 8 e'=AI AT 15/\drO a b c ks=o1++x::o2/\i<2/\Fx A.D h h'/\AFO fa h' A T (BP (EW M o1) [] ((Dy [x.p]).take i)).1 (BP (EW M o1) [] ((Dy [x.p]).take i)).2):=by
 refine BU (I:=fun t e' h'=>∃ i c1 AEc lv' fv',i+t=ks.length/\Fx A.D h h'/\J 0 e'=pt A.bs/\J 1 e'=AI AT a/\J 2 e'=AI AT b/\J 3 e'=AI AT c/\J 10 e'=AI AT ((i:Int) - 1)/\
   Sl h' A T (EW M (drO a b c (ks.drop i))) c1 AEc (ks.take i++(ks.drop i).filter fun k=> !drB a b c k) (frE fr (drO a b c (ks.drop i))) lv' fv' bad false/\AE3 fa AEc)
  (Q:=fun y=>(∃ e' h' c1 AEc lv' fv',y=.exit 0 e' h'/\Fx A.D h h'/\Sl h' A T (EW M (drO a b c ks)) c1 AEc (ks.filter fun k=> !drB a b c k) (frE fr (drO a b c ks)) lv' fv' bad false/\AE3 fa AEc)\/(∃ e' h' o1 x o2 i,y=.ret e' h'/\J 8 e'=AI AT 15/\drO a b c ks=o1++x::o2/\i<2/\Fx A.D h h'/\AFO fa h' A T (BP (EW M o1) [] ((Dy [x.p]).take i)).1 (BP (EW M o1) [] ((Dy [x.p]).take i)).2)) ks.length (by omega) (fun t e' h' ⟨i,c1,AGx,lv',fv',hit,fx,t0,t1,t2,t3,t10,sl,am⟩=>?_) ⟨ks.length,c0,arm,lv,fv,rfl,.refl W,s0,s1,s2,s3,s10,by rw[List.take_length,List.drop_length,ABU,wF];exact s,hb⟩
 have W':=fx.wf;cases i with
 |zero=>
  right;rw[AA9,List.nil_append,List.drop_zero]at sl;have c2:iGe (((0:Nat):Int) - 1) 0=false:=FZ (by omega);obtain⟨e2,r1⟩:∃ e2,dpL (call AC (m+8)) e' h'=.exit 0 e2 h':=by
   unfold dpL;simp only[sT,By,BY,reduceIte,AJ,AH,t10,c2];exact⟨_,rfl⟩
  rw[r1];exact⟨rfl,.inl ⟨e2,h',c1,AGx,lv',fv',rfl,fx,sl,am⟩⟩
 |succ i=>
  have hlt:i<ks.length:=by omega
  obtain⟨x,hx⟩:∃ x,ks[i]? =some x:=⟨_,sh hlt⟩;have hxm:=vy hx;have htk:ks.take (i+1)=ks.take i++[x]:=by rw[AAy,hx];rfl
  have hdr:ks.drop i=x::ks.drop (i+1):=by
   rw[List.drop_eq_getElem_cons hlt];rw[sh hlt]at hx;injection hx with hx
   rw[hx]
  have hdl:=gQ a b c x (ks.take i);rw[<- htk]at hdl;have hPl:(ks.take i).length=i:=by rw[wT];omega
  have hdo:=aN a b c x (ks.drop (i+1));rw[<- hdr]at hdo;have hol:(drO a b c (ks.drop (i+1))).length<=ks.length - (i+1):=by
   unfold drO;rw[List.length_reverse,<- xC];exact yW _ _
  have hRl:((ks.drop (i+1)).filter fun k=> !drB a b c k).length<=ks.length - (i+1):=by
   rw[<- xC];exact yW _ _
  have hfi:(ks.drop i).filter (fun k=> !drB a b c k)=if drB a b c x=true then(ks.drop (i+1)).filter (fun k=> !drB a b c k)else x::(ks.drop (i+1)).filter (fun k=> !drB a b c k):=by
   rw[hdr];cases h:drB a b c x
   ·rw[if_neg (by decide),xN (by rw[h];rfl)]
   ·rw[if_pos rfl,xO (by rw[h];decide)]
  generalize hP:ks.take i=P at *;generalize hR:(ks.drop (i+1)).filter (fun k=> !drB a b c k)=R at *;generalize hO:drO a b c (ks.drop (i+1))=O at *;rw[htk,wG]at sl;have sl:Sl h' A T (EW M O) c1 AGx (P++x::R) (frE fr O) lv' fv' bad false:=sl;have hle:(P++x::R).length=i+1+R.length:=by rw[No,List.length_cons,hPl];omega
  obtain⟨_,_,_,l3,_⟩:=A7 sl.row;have t10:J 10 e'=AI AT (i:Int):=by rw[t10,show((i+1:Nat):Int) - 1=(i:Int)by omega]
  have c2:iGe (i:Int) 0=true:=Hi (by omega);obtain⟨b',_,ix,ld,_⟩:=sl.ls.at (i:=P.length) (k:=x) F9;rw[hPl]at ix ld;have al:=fun (F:AEB) (e:Env)=>Bx (F:=F) (e:=e) W' (n:=6) (t:=Du)
  have Ra:=Hp.Row.alloc W' HE (show(AU K0).length=6 from rfl);have y1:h'.Ext (h'.push (.cells Du 6 0)):=(Hp.Ext.refl W').push _;generalize h'.push (.cells Du 6 0)=h1 at al Ra y1;have hu:=(sl.ko x (wI _ vp)).1.vs.one.2.1;obtain⟨st,_,y2,R5,n2⟩:=Nf W' y1 (IT _) Ra rfl (k:=x) hu;generalize h1.wr h'.next 0 (AU x)=h2 at st y2 R5 n2;obtain⟨m0,m1,m2,_⟩:=Bt R5;have sl2:=sl.ext W' y2;have sb:=fun (g:Hp)=>ut (i:=i) (g:=g) (by omega)
  cases hel:drB a b c x with
  |false=>
   rw[if_neg (by rw[hel];decide)]at hdo hfi;have hrun:∃ e2,dpL (call AC (m+8)) e' h'=.norm e2 h2/\J 0 e2=pt A.bs/\J 1 e2=AI AT a/\J 2 e2=AI AT b/\J 3 e2=AI AT c/\J 10 e2=AI AT ((i:Int) - 1):=by
    unfold dpL;by_cases h1:x.a=a
    ·have d1:iEq x.a a=true:=Ci h1
     by_cases h2:x.b=b
     ·have d2:iEq x.b b=true:=Ci h2
      have d3:iLe x.c c=false:=RM (fun h3=>by
       unfold drB at hel;rw[decide_eq_true h1,decide_eq_true h2,decide_eq_true h3]at hel;cases hel)
      simp only[sT,By,BY,reduceIte,gD,Ao,t0,Ad,AG,AM,vk,AK,AO,l3,AJ,AH,t10,c2,Ay,ix,Aq,As,ld,al,Ab,st,m0,m1,m2,t1,t2,t3,d1,d2,d3,Bu,sb];exact⟨_,rfl,by simp[AD,t0,t1,t2,t3]⟩
     ·have d2:iEq x.b b=false:=Bj h2
      simp only[sT,By,BY,reduceIte,gD,Ao,t0,Ad,AG,AM,vk,AK,AO,l3,AJ,AH,t10,c2,Ay,ix,Aq,As,ld,al,Ab,st,m0,m1,m2,t1,t2,t3,d1,d2,Bu,sb];exact⟨_,rfl,by simp[AD,t0,t1,t2,t3]⟩
    ·have d1:iEq x.a a=false:=Bj h1
     simp only[sT,By,BY,reduceIte,gD,Ao,t0,Ad,AG,AM,vk,AK,AO,l3,AJ,AH,t10,c2,Ay,ix,Aq,As,ld,al,Ab,st,m0,m1,m2,t1,t2,t3,d1,Bu,sb];exact⟨_,rfl,by simp[AD,t0,t1,t2,t3]⟩
   obtain⟨e2,r1,r2,r3,r4,r5,r6⟩:=hrun;refine .inl ⟨by omega,e2,h2,r1,i,c1,AGx,lv',fv',by omega,fx.trans (.of y2),r2,r3,r4,r5,r6,?_,am⟩;rw[hdo,hfi,hP];exact sl2
  |true=>
   rw[if_pos hel]at hdo hfi;have hxx:x.a=a/\x.b=b/\x.c<=c:=by
    unfold drB at hel;rw[wJ,wJ]at hel;exact⟨of_decide_eq_true hel.1.1,of_decide_eq_true hel.1.2,of_decide_eq_true hel.2⟩
   have d1:iEq x.a a=true:=Ci hxx.1;have d2:iEq x.b b=true:=Ci hxx.2.1;have d3:iLe x.c c=true:=LP hxx.2.2;have c00:iNe 0 0=false:=CY rfl;have hfl:=V5 fr O;rcases Wp (m:=m) y2.wf sl2 (by omega) (by omega) (hp3 x hxm) am with ⟨h3,c3,AKZ,lv3,fv3,k3,f3,s3',a3⟩|⟨i0,h3,hi0,k3,f3,dd⟩
   case inr=>
    rw[hPl]at k3;have c15:iNe 15 0=true:=FH (by omega);have k3':call AC (m+8) 68 [pt A.bs,AI AT (i:Int)] h2=.ok (AI AT 15) h3:=k3;have hrun:∃ e2,dpL (call AC (m+8)) e' h'=.ret e2 h3/\J 8 e2=AI AT 15:=by
     unfold dpL;simp only[sT,By,BY,reduceIte,gD,Ao,t0,Ad,AG,AM,vk,AK,AO,l3,AJ,AH,t10,c2,Ay,ix,Aq,As,ld,al,Ab,st,m0,m1,m2,t1,t2,t3,d1,d2,d3,cA0,k3',c15];exact⟨_,rfl,by simp[AD]⟩
    obtain⟨e2,r1,r2⟩:=hrun;rw[r1];obtain⟨o2,ho2⟩:∃ o2,drO a b c ks=(O++[x])++o2:=by
     refine⟨drO a b c P,?_⟩;have hk2:ks=P++ks.drop i:=by rw[<- hP,List.take_append_drop]
     have e1:drO a b c ks=drO a b c (ks.drop i)++drO a b c P:=by
      unfold drO;rw[<- List.reverse_append,<- yr,<- hk2]
     rw[e1,hdo]
    exact .inr ⟨rfl,.inr ⟨e2,h3,O,x,o2,i0,rfl,r2,by rw[ho2,wG];rfl,hi0,(fx.trans (.of y2)).trans f3,dd⟩⟩
   rw[hPl]at k3;have k3':call AC (m+8) 68 [pt A.bs,AI AT (i:Int)] h2=.ok (AI AT 0) h3:=k3;have hrun:∃ e2,dpL (call AC (m+8)) e' h'=.norm e2 h3/\J 0 e2=pt A.bs/\J 1 e2=AI AT a/\J 2 e2=AI AT b/\J 3 e2=AI AT c/\J 10 e2=AI AT ((i:Int) - 1):=by
    unfold dpL;simp only[sT,By,BY,reduceIte,gD,Ao,t0,Ad,AG,AM,vk,AK,AO,l3,AJ,AH,t10,c2,Ay,ix,Aq,As,ld,al,Ab,st,m0,m1,m2,t1,t2,t3,d1,d2,d3,cA0,k3',c00,Bu,sb];exact⟨_,rfl,by simp[AD,t0,t1,t2,t3]⟩
   obtain⟨e2,r1,r2,r3,r4,r5,r6⟩:=hrun;refine .inl ⟨by omega,e2,h3,r1,i,c3,AKZ,lv3,fv3,by omega,(fx.trans (.of y2)).trans f3,r2,r3,r4,r5,r6,?_,a3⟩;rw[hdo,hfi,hP,UB,RG];exact s3'
theorem aP(W:h.Wf)(s:Sl h A T M c0 arm ks fr lv fv bad false)(a b c:Int)(hkl:fr.length+ks.length<=11)(hp3:∀ k∈ks,3*k.p+3<=A.n)(hb:AE3 fa arm):
  (∃ h' c1 AEc lv' fv',call AC (m+9) 30 [pt A.bs,AI AT a,AI AT b,AI AT c] h=.ok (AI AT 0) h'/\Fx A.D h h'/\Sl h' A T (EW M (drO a b c ks)) c1 AEc (ks.filter fun k=> !drB a b c k) (frE fr (drO a b c ks)) lv' fv' bad false/\AE3 fa AEc)\/
  (∃ h' o1 x o2 i,call AC (m+9) 30 [pt A.bs,AI AT a,AI AT b,AI AT c] h=.ok (AI AT 15) h'/\drO a b c ks=o1++x::o2/\i<2/\Fx A.D h h'/\AFO fa h' A T (BP (EW M o1) [] ((Dy [x.p]).take i)).1 (BP (EW M o1) [] ((Dy [x.p]).take i)).2):=by
 have c00:iNe 0 0=false:=CY rfl;have k0:=Ns (m:=m+7) s.row;obtain⟨_,_,_,l3,_⟩:=A7 s.row;have ln:=s.ls.len h;have sb:=ut (i:=ks.length) (g:=h) (by omega);have pre:∃ e1,Zz (call AC (m+8)) (AQ e0 0 [pt A.bs,AI AT a,AI AT b,AI AT c]) h=dpS (call AC (m+8)) e1 h/\J 0 e1=pt A.bs/\J 1 e1=AI AT a/\J 2 e1=AI AT b/\J 3 e1=AI AT c/\J 10 e1=AI AT ((ks.length:Int) - 1):=by
  unfold Zz;simp only[iN,IS,sT,By,BY,reduceIte,gD,cA0,k0,AJ,AH,c00,Ao,Ad,AG,AM,vk,AK,AO,l3,AX,ln,Bu,sb];exact⟨_,rfl,by simp[AD]⟩
 obtain⟨e1,p1,t0,t1,t2,t3,t10⟩:=pre;rcases UC (m:=m) W s hkl hp3 hb t0 t1 t2 t3 t10 with ⟨e2,h2,c1,AEc,lv',fv',r2,f2,s2,a2⟩|⟨e2,h2,o1,x,o2,i,r2,t8,ho,hi,f2,dd⟩
 ·refine .inl ⟨h2,c1,AEc,lv',fv',?_,f2,s2,a2⟩
  rw[Tn rfl,Tx,p1,aM];simp only[BB,Ap,r2,Az,A8];unfold dpE;simp only[sT,By,BY,reduceIte,lV0]
 ·refine .inr ⟨h2,o1,x,o2,i,?_,ho,hi,f2,dd⟩
  rw[Tn rfl,Tx,p1,aM];simp only[BB,Ap,r2,Bz,CU,lV0,t8]
end
end
noncomputable section
open Go
set_option maxRecDepth 100000
def ri(T M:List Nat)(ks:List Kt)(fr:List Nat)(kd a b c:Int)(l:List Nat)(q:List Nat×List (Nat×List Nat)):Prop:=
 (C8 kd/\DX ks fr.length a b c l=none/\∃ p fr2 i,fr=p::fr2/\i<(Jx p l (AEJ T a b c 1 l)).length/\q=BP M [] ((Jx p l (AEJ T a b c 1 l)).take i))\/
 ((kd=5\/kd=6)/\∃ (j:Nat) (kx:Kt) (i:Nat),ks[j]? =some kx/\(kx.a=a/\kx.b=b/\kx.c=c)/\Bm a b c ks=false/\i<2/\q=BP M [] ((DY kx.p (AEJ T a b c 2 kx.l)).take i))\/
 ((kd=5\/kd=6)/\∃ (j:Nat) (kx:Kt) (i:Nat),ks[j]? =some kx/\(kx.a=a/\kx.b=b/\kx.c=c)/\Bm a b c ks=false/\i<(cmO ks j kx).length+1/\q=BP (EK M kx.p (AEJ T a b c 2 kx.l)) [] ((Dy (cmO ks j kx)).take i))\/
 (kd=7/\∃ (j:Nat) (kx:Kt) (i:Nat),ks[j]? =some kx/\(kx.a=a/\kx.b=b/\kx.c=c)/\Bm a b c ks=false/\i<2/\q=BP M [] ((Dy [kx.p]).take i))\/
 (kd=8/\∃ (o1:List Kt) (x:Kt) (o2:List Kt) (i:Nat),drO a b c ks=o1++x::o2/\i<2/\q=BP (EW M o1) [] ((Dy [x.p]).take i))
section
variable {fa:Bool}{e:Env}{h h':Hp}{A:At}{T M:List Nat}{c0 bad m k p n:Nat}{arm:Int}{ks:List Kt}{fr:List Nat}{lv fv w u:IN}{kd a b c no z:Int}{l:List Nat}
theorem Yb(W:h.Wf)(s:Sl h A T M c0 arm ks fr lv fv bad false){a b c:Int}{l:List Nat}{u:IN}(V:h.VE u (l.map bv))(hb:∀ x∈l,x<256)(hl:l.length<=1000)(hkl:ks.length<=10)(ha:AE3 fa arm)(hz:DX ks fr.length a b c l=none):
  ∃ p fr2,fr=p::fr2/\
  ((∃ h' c1 AEc lv' fv' k',call AC (m+8) 11 [pt A.bs,AI AT a,AI AT b,AI AT c,u] h=.ok (AI AT 0) h'/\Fx A.D h h'/\Sl h' A T (DT T M p l (AEJ T a b c 1 l)) c1 AEc (Bq (ks++[k'])) fr2 lv' fv' bad false/\k'.core=⟨a,b,c,1,l,p⟩/\AE3 fa AEc)\/
   (∃ j h',j<(Jx p l (AEJ T a b c 1 l)).length/\call AC (m+8) 11 [pt A.bs,AI AT a,AI AT b,AI AT c,u] h=.ok (AI AT 15) h'/\Fx A.D h h'/\AFO fa h' A T (BP M [] ((Jx p l (AEJ T a b c 1 l)).take j)).1 (BP M [] ((Jx p l (AEJ T a b c 1 l)).take j)).2)):=by
 unfold DX at hz;split at hz
 ·cases hz
 rename_i hn;have hr:AEN a b c 1 l.length=true:=by
  cases hq:AEN a b c 1 l.length
  · exact absurd (.inl hq) hn
  · rfl
 have AFy:l.length<=100:=ACi fun h=>hn (.inr h)
 split at hz
 ·split at hz<;>cases hz
 rename_i hfd;split at hz
 ·cases hz
 rename_i hst;split at hz
 ·cases hz
 rename_i hf0;cases fr with
 |nil=>exact absurd rfl hf0
 |cons p fr2=>
  have AHc:ks.any (BN a b c)=false:=by
    rw[List.any_eq_false];intro x hx;exact ze.1 hfd x hx
  have AGb:Bm a b c ks=false:=by
    cases hq:Bm a b c ks
    ·rfl
    ·exact absurd hq hst
  exact⟨p,fr2,rfl,cz (m:=m) W s V hb AFy hr AHc AGb hkl ha⟩
theorem aL(W:h.Wf)(s:Sl h A T M c0 arm ks fr lv fv bad false)(V:h.VE u (l.map bv))(hb:∀ x∈l,x<256)(hl:l.length<=1000)(AKa:ks.length<=10)(hkl:fr.length+ks.length<=11)(hp3:∀ k∈ks,3*k.p+3<=A.n)(hnd:(ks.map Kt.plc).Nodup)(ha:AE3 fa arm)(kd a b c no:Int)(w:IN):
  (∃ z h' c1 AEc lv' fv',Y0 ks fr.length kd a b c l z/\call AC (m+10) 22 [pt A.bs,opV kd a b c no u w] h=.ok (AI AT z) h'/\Fx A.D h h'/\Sl h' A T M c1 AEc ks fr lv' fv' bad false/\AE3 fa AEc)\/
  (∃ ks' fr' M' h' c1 AEc lv' fv',Tb T M ks fr kd a b c l M' ks' fr'/\call AC (m+10) 22 [pt A.bs,opV kd a b c no u w] h=.ok (AI AT 0) h'/\Fx A.D h h'/\Sl h' A T M' c1 AEc ks' fr' lv' fv' bad false/\AE3 fa AEc)\/
  (∃ q h',ri T M ks fr kd a b c l q/\call AC (m+10) 22 [pt A.bs,opV kd a b c no u w] h=.ok (AI AT 15) h'/\Fx A.D h h'/\AFO fa h' A T q.1 q.2):=by
 have x1:=(Hp.Ext.refl W).AEA 0 (opL kd a b c no u w);have s1:=s.ext W x1;by_cases h14:C8 kd
 ·cases hz:DX ks fr.length a b c l with
  |some z=>
   obtain⟨h2,k2,y2⟩:=dB (m:=m+1) x1.wf s1 (V.ext W x1) hl hz;exact .inl ⟨z,h2,c0,arm,lv,fv,.inl ⟨h14,hz⟩,Mg W h14 k2,.of (x1.trans y2),s1.ext x1.wf y2,ha⟩
  |none=>
   obtain⟨p,fr2,rfl,r⟩:=Yb (m:=m+1) x1.wf s1 (V.ext W x1) hb hl AKa ha hz;rcases r with ⟨h2,c1,AEc,lv',fv',k',k2,f2,s2,hc,a2⟩|⟨j,h2,hj,k2,f2,dd⟩
   ·exact .inr (.inl ⟨_,_,_,h2,c1,AEc,lv',fv',.inl ⟨h14,hz,p,k',rfl,rfl,hc,rfl⟩,Mg W h14 k2,(Fx.of x1).trans f2,s2,a2⟩)
   ·exact .inr (.inr ⟨_,h2,.inl ⟨h14,hz,p,fr2,j,rfl,hj,rfl⟩,Mg W h14 k2,(Fx.of x1).trans f2,dd⟩)
 by_cases h56:kd=5\/kd=6
 ·cases hz:FG ks a b c with
  |some z=>
   obtain⟨h2,k2,y2⟩:=Zm (m:=m+1) x1.wf s1 hz;exact .inl ⟨z,h2,c0,arm,lv,fv,.inr (.inl ⟨h56,hz⟩),JS W h56 k2,.of (x1.trans y2),s1.ext x1.wf y2,ha⟩
  |none=>
   obtain⟨j,kx,q1,q2,q3,q4,r⟩:=Zk (m:=m+1) x1.wf s1 (a:=a) (b:=b) (c:=c) hkl hp3 hnd ha hz;rcases r with ⟨h2,c1,AEc,lv',fv',k2,f2,s2,a2⟩|⟨i,h2,hi,k2,f2,dd⟩|⟨i,h2,hi,k2,f2,dd⟩
   ·obtain⟨rfl,rfl,rfl⟩:=q2
    exact .inr (.inl ⟨_,_,_,h2,c1,AEc,lv',fv',.inr (.inl ⟨h56,j,kx,q1,⟨rfl,rfl,rfl⟩,q4,rfl,rfl,rfl⟩),JS W h56 k2,(Fx.of x1).trans f2,s2,a2⟩)
   ·exact .inr (.inr ⟨_,h2,.inr (.inl ⟨h56,j,kx,i,q1,q2,q4,hi,rfl⟩),JS W h56 k2,(Fx.of x1).trans f2,dd⟩)
   ·exact .inr (.inr ⟨_,h2,.inr (.inr (.inl ⟨h56,j,kx,i,q1,q2,q4,hi,rfl⟩)),JS W h56 k2,(Fx.of x1).trans f2,dd⟩)
 by_cases h7:kd=7
 ·subst h7
  cases hz:abE ks a b c with
  |some z=>
   obtain⟨h2,k2,y2⟩:=lD (m:=m) x1.wf s1 hz;exact .inl ⟨z,h2,c0,arm,lv,fv,.inr (.inr (.inl ⟨rfl,hz⟩)),Ka W k2,.of (x1.trans y2),s1.ext x1.wf y2,ha⟩
  |none=>
   obtain⟨j,kx,q1,q2,q3,r⟩:=XQ (m:=m) x1.wf s1 (a:=a) (b:=b) (c:=c) hkl hp3 ha hz;rcases r with ⟨h2,c1,AEc,lv',fv',k2,f2,s2,a2⟩|⟨i,h2,hi,k2,f2,dd⟩
   ·exact .inr (.inl ⟨_,_,_,h2,c1,AEc,lv',fv',.inr (.inr (.inl ⟨rfl,j,kx,q1,q2,q3,rfl,rfl,rfl⟩)),Ka W k2,(Fx.of x1).trans f2,s2,a2⟩)
   ·exact .inr (.inr ⟨_,h2,.inr (.inr (.inr (.inl ⟨rfl,j,kx,i,q1,q2,q3,hi,rfl⟩))),Ka W k2,(Fx.of x1).trans f2,dd⟩)
 by_cases h8:kd=8
 ·subst h8
  rcases aP (m:=m) x1.wf s1 a b c hkl hp3 ha with ⟨h2,c1,AEc,lv',fv',k2,f2,s2,a2⟩|⟨h2,o1,x,o2,i,k2,ho,hi,f2,dd⟩
  ·exact .inr (.inl ⟨_,_,_,h2,c1,AEc,lv',fv',.inr (.inr (.inr ⟨rfl,rfl,rfl,rfl⟩)),Qx W k2,(Fx.of x1).trans f2,s2,a2⟩)
  ·exact .inr (.inr ⟨_,h2,.inr (.inr (.inr (.inr ⟨rfl,o1,x,o2,i,ho,hi,rfl⟩))),Qx W k2,(Fx.of x1).trans f2,dd⟩)
 ·exact .inl ⟨0,_,c0,arm,lv,fv,.inr (.inr (.inr (.inr ⟨h14,fun h=>h56 (.inl h),fun h=>h56 (.inr h),h7,h8,rfl⟩))),Zx W h14 (fun h=>h56 (.inl h)) (fun h=>h56 (.inr h)) h7 h8,.of x1,s1,ha⟩
theorem rR(R:h.Row A.bs 0 (slL A.bd A.tb lv fv bad true)):call AC (m+1) 38 [pt A.bs] h=.ok (AI AT 17) h:=by
 obtain⟨l0,_,_,_,_,_,l6⟩:=A7 R;have n1:∀ e:Env,J 0 e=pt A.bs->oEq JH.k false (J 0) (kV (.pointer none)) (call AC m) e h=.ok (.bool false) h:=fun e he=>G1 XI he
 have n2:∀ e:Env,J 10 e=pt A.bd->oEq U9.k false (J 10) (kV (.pointer none)) (call AC m) e h=.ok (.bool false) h:=fun e he=>G1 dw he
 rw[ZN rfl];unfold d38;simp only[iN,IS,sT,By,BY,reduceIte,gD,n1,Ao,Ad,AG,AM,vk,AK,AO,l0,n2,l6,lV0]
theorem uF(R:h.Row A.bs 0 (slL A.bd A.tb lv fv bad true)):call AC (m+9) 30 [pt A.bs,AI AT a,AI AT b,AI AT c] h=.ok (AI AT 17) h:=by
 have k0:=rR (m:=m+7) R;have c1:iNe 17 0=true:=FH (by omega);rw[Tn rfl,Tx];unfold Zz;simp only[iN,IS,sT,By,BY,reduceIte,gD,cA0,k0,AJ,AH,c1,lV0]
end
end
noncomputable section
open Go
set_option maxRecDepth 100000
theorem uC{n:Nat}{args:List IN}{h:Hp}(hl:vx (BA args) 160=true):call AC (vo n) 7 args h=A5 [.t (J 10)] (d7 (call AC n) (AQ e0 0 args) h):=by
 have hb:AC.get 7=some b7:=by kernel_rfl
 rw[Ae hb];have hd:b7=⟨[.t (J 10)],d7⟩:=by kernel_rfl
 rw[hd,AW hl]
theorem na{n:Nat}{args:List IN}{h:Hp}(hl:vx (BA args) 160=true):call AC (vo n) 31 args h=A5 [] (d31 (call AC n) (AQ e0 0 args) h):=by
 have hb:AC.get 31=some b31:=by kernel_rfl
 rw[Ae hb];have hd:b31=⟨[],d31⟩:=by kernel_rfl
 rw[hd,AW hl]
theorem nf{n:Nat}{args:List IN}{h:Hp}(hl:vx (BA args) 160=true):call AC (vo n) 33 args h=A5 [.t (J 4),.t (J 5)] (d33 (call AC n) (AQ e0 0 args) h):=by
 have hb:AC.get 33=some b33:=by kernel_rfl
 rw[Ae hb];have hd:b33=⟨[.t (J 4),.t (J 5)],d33⟩:=by kernel_rfl
 rw[hd,AW hl]
theorem ng{n:Nat}{args:List IN}{h:Hp}(hl:vx (BA args) 160=true):call AC (vo n) 34 args h=A5 [.t (J 4)] (d34 (call AC n) (AQ e0 0 args) h):=by
 have hb:AC.get 34=some b34:=by kernel_rfl
 rw[Ae hb];have hd:b34=⟨[.t (J 4)],d34⟩:=by kernel_rfl
 rw[hd,AW hl]
end
noncomputable section
open Go
set_option maxRecDepth 100000
theorem Oe:∀ {cs:List (Nat×List Nat)} {c lo clk:Nat},lo<=c->c+cs.length<=clk->(∀ x∈cs,x.1<9223372036854775808)->LT clk (AEL c cs) lo=some (cs.map (·.1))
 |[],_,_,_,_,_,_=>rfl
 |x::cs,c,lo,clk,h1,h2,h3=>by
  have h2:c+(cs.length+1)<=clk:=h2;have ih:=Oe (cs:=cs) (c:=c+1) (lo:=c+1) (clk:=clk) (IT _) (by omega) fun y hy=>h3 y (vr _ hy)
  have hx:=h3 x vp;show(match wz x.1 9223372036854775808 && (vx lo c && wz c clk)with|true=>(match LT clk (AEL (c+1) cs) (vo c)with|some r=>some (x.1::r)|none=>none)|false=>none)=_;have e1:(wz x.1 9223372036854775808 && (vx lo c && wz c clk))=true:=by rw[BD.2 hx,Ac.2 h1,BD.2 (show c<clk by omega)];rfl
  rw[e1];simp only;rw[show vo c=c+1 from rfl,ih];rfl
theorem ax{m z:Nat}:∀ {l:List Nat},z∈UK m l↔z=m\/z∈l:=fun {l}=>by
 rw[(Ko m l).mem_iff,wA]
theorem RQ{m:Nat}:∀ {l:List Nat},l.Pairwise (· < ·)->m∉l->(UK m l).Pairwise (· < ·)
 |[],_,_=>List.pairwise_singleton _ _
 |x::l,h,hm=>by
  have h1:=yG.1 h;have hx:m≠x:=fun e=>hm (by rw[e];exact vp)
  unfold UK;split
  ·rename_i hb
   have hb:=Ac.1 hb;refine yG.2 ⟨fun y hy=>?_,h⟩;rcases wA.1 hy with rfl|hy
   ·omega
   ·have:=h1.1 y hy;omega
  ·rename_i hb
   have hb:¬ m<=x:=fun h=>by
    rw[Ac.2 h]at hb;cases hb
   refine yG.2 ⟨fun y hy=>?_,RQ h1.2 fun h=>hm (vr _ h)⟩;rcases ax.1 hy with rfl|hy
   ·omega
   ·exact h1.1 y hy
theorem O5:∀ {l:List Nat},l.Nodup->(DF l).Pairwise (· < ·)
 |[],_=>.nil
 |x::l,h=>by
  have h1:=xx.1 h;exact RQ (O5 h1.2) fun hx=>h1.1 ((D7 l).mem_iff.1 hx)
theorem VO:∀ {l:List Nat},l.Pairwise (· < ·)->PL l=true
 |[],_=>rfl
 |[x],_=>rfl
 |x::y::l,h=>by
  have h1:=yG.1 h;show(wz x y && PL (y::l))=true;rw[BD.2 (h1.1 y vp),VO h1.2];rfl
theorem Ps:∀ {cs:List (Nat×List Nat)},AFU cs->(cs.map (·.1)).Nodup
 |[],_=>List.nodup_nil
 |y::cs,h=>by
  obtain⟨h1,h2⟩:=h.tail;rw[List.map_cons,xx];refine⟨fun hm=>?_,Ps h1⟩;obtain⟨z,hz,e⟩:=wM.1 hm;exact h2 z hz e
theorem vH(l:List Nat):l.map zv=iv l:=by
 unfold iv ints;rw[List.map_map];rfl
section
variable {F:AEB}{e:Env}{h h' h0:Hp}{S:Nat->Prop}{bd bm bc n c0 m:Nat}{M M':List Nat}{cs:List (Nat×List Nat)}{arm:Int}{dn:Bool}{kv:IN}{bs:List Bool}
theorem Ux(W:h.Wf){r clk:Nat}(R:h.Row r 0 [.map (some bc)])(hr:256<=r)(hm:h.bl.get bc=.map (AEL c0 cs) (c0+cs.length))(hK:AFU cs)(hS:AEv n cs)(hn:n<=65536)(hl:cs.length<=60):
  ∃ h' v,call AC (m+1) 66 [.func (.func 94) ⟨[]⟩ ⟨[pt r]⟩] h=.ok v h'/\h.Ext h'/\h'.Own h.next 3 v (iv (DF (cs.map (·.1)))):=by
 have hb:AC.get 66=some bS:=by kernel_rfl
 have hk:=Oe (cs:=cs) (c:=c0) (lo:=0) (clk:=c0+cs.length) (wP _) (IT _) fun x hx=>by have:=(hS x hx).1;omega
 have hlen:vx (BA (AEL c0 cs)) 1000000=true:=Ac.2 (by rw[BL,JW];omega);have hs:MH 3 h (.map (some bc))=GD 3 h (DF (cs.map (·.1))):=by
  show(match gS (h.bl.get bc)with|.ok es clk=>(match vx (BA es) 1000000 with|true=>(match LT clk es 0 with|some ks=>GD 3 h (DF ks)|none=>.no)|false=>.no)|.no=>.no)=_;rw[hm];show(match vx (BA (AEL c0 cs)) 1000000 with|true=>(match LT (c0+cs.length) (AEL c0 cs) 0 with|some ks=>GD 3 h (DF ks)|none=>.no)|false=>.no)=_;rw[hlen,hk]
 obtain⟨c,hc,hl2⟩:=R.rowOf;have hA:call AC (m+1) 66 [.func (.func 94) ⟨[]⟩ ⟨[pt r]⟩] h=GD 3 h (DF (cs.map (·.1))):=by
  rw[Ae hb,<- hs];show J7 3 ⟨r,0,none⟩ h=_;unfold J7;have e1:(Nat.beq 0 0 && vx 256 r)=true:=by rw[Ac.2 hr];rfl
  simp only[e1,hc];have e2:c.get 0=.map (some bc):=(hl2 0 (by show 0<1;omega)).2;show(match Nat.beq 0 0 && wz 0 1 with|true=>MH 3 h (c.get 0)|false=>.no)=_;rw[e2];rfl
 have ha:=VO (O5 (Ps hK));rw[hA];cases hz:DF (cs.map (·.1))with
 |nil=>exact⟨h,AEP,rfl,.refl W,.inl ⟨rfl,rfl⟩⟩
 |cons x l=>
  rw[hz]at ha;refine⟨h.AEA 4 ((x::l).map zv),.slice (some ⟨h.next,0,none⟩) (x::l).length (x::l).length,?_,(Hp.Ext.refl W).AEA _ _,?_⟩
  ·show(match PL (x::l)with|true=>AEU (BA (x::l)) (fun n=>newRow h (vo 3) ((x::l).map zv) (Eo n n))|false=>.no)=_
   rw[ha];simp only[AZ];rw[Cw W,BL];show Eo _ _ _ _=_;rfl
  ·rw[vH]
   have:=Hp.Row.new W 4 (iv (x::l));exact .inr ⟨h.next,by rw[Dd],this,IT _,W.big⟩
theorem Tk(W:h.Wf)(d:Dk h bd bm bc n M c0 cs arm dn)(hK:AFU cs)(hS:AEv n cs)(hl:cs.length<=60):
  ∃ h' v,call AC (m+2) 28 [pt bd] h=.ok v h'/\h.Ext h'/\h'.Own h.next 3 v (iv (DF (cs.map (·.1)))):=by
 have k1:=IV (m:=m) d;obtain⟨_,l1,_,_⟩:=CR d.disk;have bx:=fun (F:AEB) (e:Env) (he:J 0 e=.map (some bc))=>show DA (J 0) F e h=.ok (pt h.next) (h.AEA 0 [.map (some bc)])by rw[Ev,he,Es W];rfl
 have x1:=(Hp.Ext.refl W).AEA 0 [ACP (some bc)];have R1:=Hp.Row.new W 0 [ACP (some bc)];have big:=W.big;have hm:=d.map;generalize h.AEA 0 [ACP (some bc)]=h1 at bx x1 R1;have k67:call AC (m+1) 67 [.map (some bc)] h=.ok (.func (.func 94) ⟨[]⟩ ⟨[pt h.next]⟩) h1:=by
  rw[oN rfl];unfold d67;simp only[iN,IS,sT,By,BY,reduceIte,bx,Df,AV,A1,lV0]
 obtain⟨h2,v,k66,x2,V⟩:=Ux (m:=m) (clk:=0) x1.wf R1 big (by rw[x1.get _ (d.lt W).2.2];exact hm) hK hS d.n1.2 hl;refine⟨h2,v,?_,x1.trans x2,V.le x1.next⟩;rw[nZ rfl];unfold d28;simp only[iN,IS,sT,By,BY,reduceIte,cA0,k1,Ao,Ad,AG,AM,vk,AK,AO,l1,k67,k66,lV0]
def kIs(k:Nat)(x:Nat×List Nat):Bool:=decide (k=x.1)
theorem qK{k:Nat}{x:Nat×List Nat}(h:kIs k x=true):k=x.1:=of_decide_eq_true h
theorem bA{k:Nat}{x:Nat×List Nat}(h:k=x.1):kIs k x=true:=decide_eq_true h
theorem Q7{k:Nat}{y:Nat×List Nat}:∀ {cs:List (Nat×List Nat)} {i:Nat},(∀ x∈cs,x.1<=65536)->k<=65536->cs.find? (kIs k)=some y->∃ b,Ip ⟨false,[.i .i64]⟩ (AI AT (k:Int)) (AEL i cs)=some (some ⟨AI AT (y.1:Int),DD y.2,b⟩)
 |[],_,_,_,h=>by cases h
 |x::l,i,hx,hk,h=>by
  have h1:=hx x vp;have e0:Ip ⟨false,[.i .i64]⟩ (AI AT (k:Int)) (AEL i (x::l))=(match HM ⟨false,[.i .i64]⟩ (AI AT (k:Int)) (AI AT (x.1:Int))with|some true=>some (some ⟨AI AT (x.1:Int),DD x.2,i⟩)|some false=>Ip ⟨false,[.i .i64]⟩ (AI AT (k:Int)) (AEL (i+1) l)|none=>none):=rfl;rw[e0,uK (by omega)];by_cases hkx:k=x.1
  ·rw[List.find?_cons_of_pos (bA hkx)]at h
   cases h;rw[decide_eq_true hkx];exact⟨i,rfl⟩
  ·rw[List.find?_cons_of_neg (by unfold kIs;rw[decide_eq_false hkx];decide)]at h
   rw[decide_eq_false hkx];exact Q7 (fun z hz=>hx z (vr _ hz)) hk h
theorem bR(d:Dk h bd bm bc n M c0 cs arm dn)(hS:AEv n cs){z:IN}{x y:O}{i:Nat}{q:Nat×List Nat}(hx:x e=.map (some bc))(hy:y e=AI AT (i:Int))(hi:i<n)(hq:cs.find? (kIs i)=some q):FL ⟨false,[.i .i64]⟩ z false x y F e h=.ok (DD q.2) h:=by
 have hn:=d.n1;show F7 ⟨false,[.i .i64]⟩ z (x e) (y e) false h=_;rw[hx,hy];have he:BV h bc=.ok (AEL c0 cs) (c0+cs.length):=by unfold BV;rw[d.map];rfl
 obtain⟨b,hb⟩:=Q7 (i:=c0) (fun x hx=>by have:=(hS x hx).1;omega) (by omega) hq;unfold F7;rw[gX (by omega)];simp only[he,hb];unfold DV;simp only[BH]
structure Kept (n:Nat)(M:List Nat)(cs:List (Nat×List Nat))(M':List Nat):Prop where
 len:M'.length=64*n
 sct:∀ q,(∀ x,x/64=q->M'.getD x 0=M.getD x 0)\/∃ y∈cs,y.1=q/\∀ x,x/64=q->M'.getD x 0=y.2.getD (x % 64) 0
theorem Kept.put(k:Kept n M cs M')(hS:AEv n cs){y:Nat×List Nat}(hy:y∈cs):Kept n M cs (Fh M' y.1 y.2):=by
 obtain⟨h1,h2,_⟩:=hS y hy;refine⟨Cn k.len h1 h2,fun q=>?_⟩;by_cases hq:y.1=q
 ·refine .inr ⟨y,hy,hq,fun x hx=>?_⟩
  rw[DM k.len h1 h2,if_pos (by omega)]
 ·rcases k.sct q with h|⟨z,hz,hzq,h⟩
  ·refine .inl fun x hx=>?_
   rw[DM k.len h1 h2,if_neg (by omega)];exact h x hx
  ·refine .inr ⟨z,hz,hzq,fun x hx=>?_⟩
   rw[DM k.len h1 h2,if_neg (by omega)];exact h x hx
theorem cj{l:List Nat}{k:Nat}(hl:l.length=64):over (M.map bv) (64*k) (l.map bv)=(Fh M k l).map bv:=by
 unfold over Fh;rw[OF,hl,<- List.map_take,<- List.map_drop,wa,wa]
structure KB (h:Hp)(kv:IN)(bs:List Bool):Prop where
 len:∀ g:Hp,AE5 kv g=.ok (AI AT (bs.length:Int)) g
 get:∀ (i:Nat) (b:Bool),bs[i]? =some b->∀ g:Hp,h.Ext g->∃ p,AE0 1 kv (AI AT (i:Int)) g=.ok (.pointer (some p)) g/\AEF p g=.ok (.bool b) g
theorem pE:crS=BI (AY 0 (Aw crB)) crE:=rfl
theorem pH:d31=fz:=rfl
theorem Qv(W0:h0.Wf)(x0:h0.Ext h)(hD0:h0.next<=bd/\h0.next<=bm/\h0.next<=bc)(d:Dk h bd bm bc n M c0 cs arm dn)(hK:AFU cs)(hS:AEv n cs)(hl:cs.length<=60)(Kb:KB h0 kv bs):
  ∃ h' M' c1,call AC (m+3) 31 [pt bd,kv] h=.ok AEE h'/\Fx (fun b=>b=bd\/b=bm\/b=bc) h h'/\Dk h' bd bm bc n M' c1 [] (-1) false/\Kept n M cs M':=by
 have W:=x0.wf;have k1:=IV (m:=m+1) d;obtain⟨h1,v,k2,x1,V⟩:=Tk (m:=m) W d hK hS hl;have d1:=d.ext W x1;have x01:=x0.trans x1;have hKl:(DF (cs.map (·.1))).length=cs.length:=by rw[(D7 _).length_eq,OF]
 have hmem:∀ i∈DF (cs.map (·.1)),∃ y,cs.find? (kIs i)=some y/\y.1=i/\y∈cs:=fun i hi=>by
  obtain⟨z,hz,e⟩:=wM.1 ((D7 _).mem_iff.1 hi);cases hf:cs.find? (kIs i)with
  |none=>exact absurd (bA e.symm) (ze.1 hf z hz)
  |some y=>exact⟨y,rfl,(qK (AA2 hf)).symm,List.mem_of_find?_eq_some hf⟩
 generalize DF (cs.map (·.1))=ks at V hKl hmem;have vl:=V.vals.len;rw[Dd]at vl;have hDx:∀ b,(b=bd\/b=bm\/b=bc)->h0.next<=b:=fun b hb=>by rcases hb with rfl|rfl|rfl<;>omega
 obtain⟨e1,p1,s0,s1,s9,s10,s11⟩:∃ e1,fz (call AC (m+2)) (AQ e0 0 [pt bd,kv]) h=crS (call AC (m+2)) e1 h1/\J 0 e1=pt bd/\J 1 e1=kv/\J 9 e1=v/\J 10 e1=AI AT (ks.length:Int)/\J 11 e1=AI AT ((0:Nat):Int):=by
  unfold fz;simp only[iN,IS,sT,By,BY,reduceIte,cA0,k1,k2,AX,vl];exact⟨_,rfl,by simp[AD]⟩
 have run:∃ e' h' M',Aw crB (call AC (m+2)) e1 h1=.exit 0 e' h'/\Fx (fun b=>b=bd\/b=bm\/b=bc) h h'/\Dk h' bd bm bc n M' c0 cs arm dn/\Kept n M cs M'/\J 0 e'=pt bd:=by
  refine BU (I:=fun i e' h'=>∃ M',Fx (fun b=>b=bd\/b=bm\/b=bc) h h'/\h0.Ext h'/\Dk h' bd bm bc n M' c0 cs arm dn/\Kept n M cs M'/\h'.Own h.next 3 v (iv ks)/\i<=ks.length/\J 0 e'=pt bd/\J 1 e'=kv/\J 9 e'=v/\J 10 e'=AI AT (ks.length:Int)/\J 11 e'=AI AT (i:Int))
   (Q:=fun x=>∃ e' h' M',x=.exit 0 e' h'/\Fx (fun b=>b=bd\/b=bm\/b=bc) h h'/\Dk h' bd bm bc n M' c0 cs arm dn/\Kept n M cs M'/\J 0 e'=pt bd) ks.length (by omega) (fun i e' h' ⟨M',fx,x',d',kp,V',hi,t0,t1,t9,t10,t11⟩=>?_)
   ⟨M,.of x1,x01,d1,⟨d.len,fun q=>.inl fun _ _=>rfl⟩,V,wP _,s0,s1,s9,s10,s11⟩
  have W':=x'.wf;by_cases hlt:i<ks.length
  ·left
   have c1:=EF hlt;obtain⟨k,hk⟩:∃ k,ks[i]? =some k:=⟨_,sh hlt⟩;have hkm:=vy hk;obtain⟨y,hf,hy1,hym⟩:=hmem k hkm;obtain⟨o1,o2,o3⟩:=hS y hym;obtain⟨a,g1,g2⟩:=V'.vals.at (i:=i) (by rw[Dd];exact hlt);rw[List.getD_eq_getElem?_getD,kR hk]at g2;have g2:HN (.pointer (some a)) h'=.ok (AI AT (k:Int)) h':=g2;have kl:=Kb.len h';have a3:=fun g:Hp=>CF (i:=i) (h:=g) (by omega)
   by_cases hik:i<bs.length
   ·have c2:iLt (i:Int) (bs.length:Int)=true:=EF hik
    obtain⟨b,hb⟩:∃ b,bs[i]? =some b:=⟨_,sh hik⟩;obtain⟨p,q1,q2⟩:=Kb.get i b hb h' x';cases b with
    |false=>
     obtain⟨e2,r1,r2,r3,r4,r5,r6⟩:∃ e2,crB (call AC (m+2)) e' h'=.norm e2 h'/\J 0 e2=pt bd/\J 1 e2=kv/\J 9 e2=v/\J 10 e2=AI AT (ks.length:Int)/\J 11 e2=AI AT ((i+1:Nat):Int):=by
      unfold crB;simp only[sT,By,BY,reduceIte,gD,AJ,AH,t11,t10,c1,Ay,t9,g1,AK,g2,AX,t1,kl,c2,q1,AO,q2,BG,a3];exact⟨_,rfl,by simp[AD,t0,t1,t9,t10]⟩
     exact⟨hlt,e2,h',r1,M',fx,x',d',kp,V',hlt,r2,r3,r4,r5,r6⟩
    |true=>
     have dm:=d'.same (h':=h'.marked) rfl;obtain⟨l0,l1,_,_⟩:=CR dm.disk;have lk:=fun (F:AEB) (e:Env) (z:IN) (x y':O) (e1:x e=.map (some bc)) (e2:y' e=AI AT (k:Int))=>bR (F:=F) (z:=z) dm hS e1 e2 (by omega) hf
     have ix:AE0 64 (.slice (some ⟨bm,0,none⟩) n n) (AI AT (k:Int)) h'.marked=.ok (.pointer (some ⟨bm,64*k,none⟩)) h'.marked:=by
      have:=Cy (h:=h'.marked) (n:=n) (c:=n) (es:=64) (b:=bm) (off:=0) (i:=k) (k:=.i64) (by omega)
      rwa [vk,xr]at this
     have Rq:h'.marked.quiet.Row bm 0 (M'.map bv):=d'.med.same rfl;have hoo:64*k+(y.2.map bv).length<=(M'.map bv).length:=by rw[OF,OF,o2,d'.len];omega
     have st:=Rq.AER (n:=64) (off:=64 * k) W'.marked.quiet d.big.2.1 (v:=DD y.2) (by show(y.2.map bv).length=64;rw[OF];exact o2) hoo (C6 _);have wr:=Rq.AET W'.marked.quiet hoo;rw[cj o2]at wr;have fw:=Fx.wr (S:=fun b=>b=bm) W'.marked.quiet Rq hoo rfl;have st:AER 64 (.pointer (some ⟨bm,64 * k,none⟩)) (DD y.2) h'.marked.quiet=.ok AEE (h'.marked.quiet.wr bm (64 * k) (y.2.map bv)):=st;generalize h'.marked.quiet.wr bm (64 * k) (y.2.map bv)=g at st wr fw;have q3:∀ (F:AEB) (e:Env),J 37 e=.pointer (some ⟨bm,64 * k,none⟩)->J 36 e=DD y.2->Al .free (Av 64 (J 37) (J 36)) F e h'.marked=.ok AEE (h'.marked.back g):=fun F e e1 e2=>BO (by rw[Ab,e1,e2];exact st)
     have f2:Fx (fun b=>b=bm) h' (h'.marked.back g):=((fw.from (h:=h'.marked) rfl rfl).same (h2:=h'.marked.back g) rfl rfl).from (h:=h') rfl rfl;have R2:(h'.marked.back g).Row bm 0 ((Fh M' k y.2).map bv):=wr.same rfl;generalize h'.marked.back g=h2 at q3 f2 R2;have lt:=d'.lt W';have d2:Dk h2 bd bm bc n (Fh M' k y.2) c0 cs arm dn:=⟨f2.row W' d'.disk d'.bdm,R2,Cn d'.len (by omega) o2,Wt d'.byt o3,by rw[f2.get _ lt.2.2 (fun h=>d'.bmc h.symm)];exact d'.map,d'.big,d'.n1⟩;have x2:h0.Ext h2:=Fx.xtF x' f2 fun b hb=>by rw[hb];omega
     have V2:h2.Own h.next 3 v (iv ks):=V'.fx W' f2 fun b hb h=>by have:=(d.lt W).2.1;omega
     obtain⟨e2,r1,r2,r3,r4,r5,r6⟩:∃ e2,crB (call AC (m+2)) e' h'=.norm e2 h2/\J 0 e2=pt bd/\J 1 e2=kv/\J 9 e2=v/\J 10 e2=AI AT (ks.length:Int)/\J 11 e2=AI AT ((i+1:Nat):Int):=by
      unfold crB;simp only[sT,By,BY,reduceIte,gD,AJ,AH,t11,t10,c1,Ay,t9,g1,AK,g2,AX,t1,kl,c2,q1,AO,q2,A3,Ao,t0,Ad,AG,AM,vk,l0,l1];rw[lk _ _ _ _ _ (by simp[AD]) (by simp[AD])];simp only[sT,By,BY,reduceIte,Ay,ix,q3,BG,a3,t11];exact⟨_,rfl,by simp[AD,t0,t1,t9,t10]⟩
     refine⟨hlt,e2,h2,r1,Fh M' k y.2,fx.trans (f2.mono fun b hb=>.inr (.inl hb)),x2,d2,by rw[<- hy1];exact kp.put hS hym,V2,hlt,r2,r3,r4,r5,r6⟩
   ·have c2:iLt (i:Int) (bs.length:Int)=false:=Cz (by omega)
    obtain⟨e2,r1,r2,r3,r4,r5,r6⟩:∃ e2,crB (call AC (m+2)) e' h'=.norm e2 h'/\J 0 e2=pt bd/\J 1 e2=kv/\J 9 e2=v/\J 10 e2=AI AT (ks.length:Int)/\J 11 e2=AI AT ((i+1:Nat):Int):=by
     unfold crB;simp only[sT,By,BY,reduceIte,gD,AJ,AH,t11,t10,c1,Ay,t9,g1,AK,g2,AX,t1,kl,c2,BG,a3];exact⟨_,rfl,by simp[AD,t0,t1,t9,t10]⟩
    exact⟨hlt,e2,h',r1,M',fx,x',d',kp,V',hlt,r2,r3,r4,r5,r6⟩
  ·right
   have c1:=Cz (show ks.length<=i by omega);obtain⟨e2,r1,r2⟩:∃ e2,crB (call AC (m+2)) e' h'=.exit 0 e2 h'/\J 0 e2=pt bd:=by
    unfold crB;simp only[sT,By,BY,reduceIte,AJ,AH,t11,t10,c1];exact⟨_,rfl,by simp[AD,t0]⟩
   rw[r1];exact⟨rfl,e2,h',M',rfl,fx,d',kp,r2⟩
 obtain⟨e2,h2,M2,r1,f2,d2,kp2,t0⟩:=run;have W2:=f2.wf;obtain⟨_,l1,_,_⟩:=CR d2.disk;have AHo:=d2.lt W2;have cl:∀ (F:AEB) (e:Env),J 42 e=.map (some bc)->Dn (J 42) F e h2=.ok AEE (h2.put bc (.map [] (c0+cs.length))):=fun F e he=>by
  have hen:BV h2 bc=.ok (AEL c0 cs) (c0+cs.length):=by unfold BV;rw[d2.map];rfl
  unfold Dn;rw[he];simp only[hen];rw[Do W2 d.big.2.2 AHo.2.2];rfl
 have f3:=Fx.put (S:=fun b=>b=bc) W2 AHo.2.2 rfl (.map [] (c0+cs.length));have P3:=W2.AEk AHo.2.2 (.map [] (c0+cs.length));generalize h2.put bc (.map [] (c0+cs.length))=h3 at cl f3 P3;have R3:=f3.row W2 d2.disk d2.bdc;obtain⟨h4,st4,R4,n4,f4,_⟩:=D0 (v:=.bool false) f3.wf R3 (off:=3) (show 3<4 by omega) d.big.1 rfl rfl;have R4:h4.Row bd 0 (dkL bm bc n arm false):=R4;obtain⟨h5,st5,R5,n5,f5,_⟩:=D0 (v:=AI AT (-1)) f4.wf R4 (off:=2) (show 2<4 by omega) d.big.1 rfl rfl;have R5:h5.Row bd 0 (dkL bm bc n (-1) false):=R5;have f35:Fx (fun b=>b=bd) h3 h5:=f4.trans f5;have hn3:∀ b,b<h2.next->b<h3.next:=fun b hb=>by have:=f3.next;omega
 refine⟨h5,M2,c0+cs.length,?_,(f2.trans (f3.mono fun b hb=>.inr (.inr hb))).trans (f35.mono fun b hb=>.inl hb),⟨R5,f35.row f3.wf (f3.row W2 d2.med d2.bmc) (fun h=>d2.bdm h.symm),d2.len,d2.byt,?_,d2.big,d2.n1⟩,kp2⟩
 ·rw[na rfl,pH,p1,pE]
  simp only[BB,Ap,r1,Az,A8];unfold crE;simp only[sT,By,BY,reduceIte,Ao,t0,Ad,AG,AM,vk,AK,AO,l1,cl,Ab,st4,st5,De,Dc]
 ·rw[f35.get _ (hn3 _ AHo.2.2) (fun h=>d2.bdc h.symm),P3,if_pos rfl];rfl
end
end
noncomputable section
open Go
set_option maxRecDepth 100000
instance (x y:Kt):Decidable (Mx x y):=by unfold Mx;infer_instance
def C5(x y:Kt):Bool:=decide (Mx x y)
def Cx(all ks:List Kt):List Kt:=ks.filter fun x=> !all.any (C5 x)
theorem Qn(all ks:List Kt):(Cx all ks).length<=ks.length:=yW _ _
section
variable {F:AEB}{e:Env}{h h':Hp}{S:Nat->Prop}{m k:Nat}{ks:List Kt}{v:IN}
theorem gV(W:h.Wf){r5:Nat}{x y:Kt}(R5:h.Row r5 0 (AU x)):∃ h',call AC (m+1) 89 [ktV y,pt r5] h=.ok (.bool (C5 x y)) h'/\h.Ext h':=by
 have bx:=fun (F:AEB) (e:Env) (he:J 0 e=ktV y)=>Hr (F:=F) W he
 have x1:=(Hp.Ext.refl W).AEA 0 (AU y);have R:=Hp.Row.new W 0 (AU y);generalize h.AEA 0 (AU y)=h1 at bx x1 R;obtain⟨l0,l1,l2,l3,_,l5,_⟩:=Bt R;obtain⟨k0,k1,k2,k3,_,k5,_⟩:=Bt (R5.ext W x1);have st1:∃ e1 B,gK (call AC m) (AQ e0 0 [ktV y,pt r5]) h=hiB (call AC m) e1 h1/\J 1 e1=pt r5/\J 2 e1=pt h.next/\J 4 e1=.bool B/\(B=true↔y.a=x.a/\y.b=x.b):=by
  unfold gK;rcases GU y.a x.a with ⟨c1,e1⟩|⟨c1,e1⟩
  ·rcases GU y.b x.b with ⟨c2,e2⟩|⟨c2,e2⟩
   ·simp only[iN,IS,sT,By,BY,reduceIte,gD,bx,AG,AM,vk,AK,AO,l0,l1,l2,l3,l5,k0,k1,k2,k3,k5,AJ,AH,c1,c2]
    exact⟨_,true,rfl,by simp[AD],by simp[AD],by simp[AD],⟨fun _=>⟨e1,e2⟩,fun _=>rfl⟩⟩
   ·simp only[iN,IS,sT,By,BY,reduceIte,gD,bx,AG,AM,vk,AK,AO,l0,l1,l2,l3,l5,k0,k1,k2,k3,k5,AJ,AH,c1,c2]
    exact⟨_,false,rfl,by simp[AD],by simp[AD],by simp[AD],⟨fun h=>(by cases h),fun h=>absurd h.2 e2⟩⟩
  ·simp only[iN,IS,sT,By,BY,reduceIte,gD,bx,AG,AM,vk,AK,AO,l0,l1,l2,l3,l5,k0,k1,k2,k3,k5,AJ,AH,c1]
   exact⟨_,false,rfl,by simp[AD],by simp[AD],by simp[AD],⟨fun h=>(by cases h),fun h=>absurd h.1 e1⟩⟩
 obtain⟨e1,B1,p1,t1,t2,t4,h1B⟩:=st1;have st2:∃ e2 B,hiB (call AC m) e1 h1=hiC (call AC m) e2 h1/\J 1 e2=pt r5/\J 2 e2=pt h.next/\J 4 e2=.bool B1/\J 5 e2=.bool B/\(B=true↔x.c<y.c\/y.c=x.c/\x.s=1):=by
  rw[pq];unfold pr;by_cases g1:x.c<y.c
  ·have c1:iGt y.c x.c=true:=GV g1
   simp only[sT,By,BY,reduceIte,gD,t1,t2,AG,AM,vk,AK,AO,l0,l1,l2,l3,l5,k0,k1,k2,k3,k5,AJ,AH,c1];exact⟨_,true,rfl,by simp[AD,t1],by simp[AD,t2],by simp[AD,t4],by simp[AD],⟨fun _=>.inl g1,fun _=>rfl⟩⟩
  ·have c1:iGt y.c x.c=false:=Fa g1
   rcases GU y.c x.c with ⟨c2,e2⟩|⟨c2,e2⟩
   ·rcases GU (x.s:Int) 1 with ⟨c3,e3⟩|⟨c3,e3⟩
    ·simp only[sT,By,BY,reduceIte,gD,t1,t2,AG,AM,vk,AK,AO,l0,l1,l2,l3,l5,k0,k1,k2,k3,k5,AJ,AH,c1,c2,c3]
     exact⟨_,true,rfl,by simp[AD,t1],by simp[AD,t2],by simp[AD,t4],by simp[AD],⟨fun _=>.inr ⟨e2,by omega⟩,fun _=>rfl⟩⟩
    ·simp only[sT,By,BY,reduceIte,gD,t1,t2,AG,AM,vk,AK,AO,l0,l1,l2,l3,l5,k0,k1,k2,k3,k5,AJ,AH,c1,c2,c3]
     exact⟨_,false,rfl,by simp[AD,t1],by simp[AD,t2],by simp[AD,t4],by simp[AD],⟨fun h=>(by cases h),fun h=>h.elim (fun h=>absurd h g1) (fun h=>absurd h.2 (by omega))⟩⟩
   ·simp only[sT,By,BY,reduceIte,gD,t1,t2,AG,AM,vk,AK,AO,l0,l1,l2,l3,l5,k0,k1,k2,k3,k5,AJ,AH,c1,c2]
    exact⟨_,false,rfl,by simp[AD,t1],by simp[AD,t2],by simp[AD,t4],by simp[AD],⟨fun h=>(by cases h),fun h=>h.elim (fun h=>absurd h g1) (fun h=>absurd h.1 e2)⟩⟩
 obtain⟨e2,B2,p2,u1,u2,u4,u5,h2B⟩:=st2;have st3:∃ e3,hiC (call AC m) e2 h1=.ret e3 h1/\J 3 e3=.bool (C5 x y):=by
  unfold hiC;cases B1 with
  |false=>
   have hf:C5 x y=false:=decide_eq_false fun h=>by have:=h1B.2 ⟨h.1,h.2.1⟩;cases this
   rw[hf];simp only[sT,By,BY,reduceIte,gD,u4];exact⟨_,rfl,by simp[AD]⟩
  |true=>
   by_cases e3:y.p=x.p
   ·have c3:iNe (y.p:Int) (x.p:Int)=false:=CY (by rw[e3])
    have hf:C5 x y=false:=decide_eq_false fun h=>h.2.2.1 e3
    rw[hf];simp only[sT,By,BY,reduceIte,gD,u4,u1,u2,AG,AM,vk,AK,AO,l0,l1,l2,l3,l5,k0,k1,k2,k3,k5,AJ,AH,c3];exact⟨_,rfl,by simp[AD]⟩
   ·have c3:iNe (y.p:Int) (x.p:Int)=true:=FH (by omega)
    rcases GU (y.s:Int) 2 with ⟨c4,e4⟩|⟨c4,e4⟩
    ·have hB:C5 x y=B2:=by
      cases B2 with
      |true=>exact decide_eq_true ⟨(h1B.1 rfl).1,(h1B.1 rfl).2,e3,by omega,h2B.1 rfl⟩
      |false=>exact decide_eq_false fun h=>by have:=h2B.2 h.2.2.2.2;cases this
     rw[hB];simp only[sT,By,BY,reduceIte,gD,u4,u1,u2,u5,AG,AM,vk,AK,AO,l0,l1,l2,l3,l5,k0,k1,k2,k3,k5,AJ,AH,c3,c4];exact⟨_,rfl,by simp[AD]⟩
    ·have hf:C5 x y=false:=decide_eq_false fun h=>by have:=h.2.2.2.1;omega
     rw[hf];simp only[sT,By,BY,reduceIte,gD,u4,u1,u2,AG,AM,vk,AK,AO,l0,l1,l2,l3,l5,k0,k1,k2,k3,k5,AJ,AH,c3,c4];exact⟨_,rfl,by simp[AD]⟩
 obtain⟨e3,p3,p4⟩:=st3;refine⟨h1,?_,x1⟩;rw[oa rfl,pQ,p1,p2,p3];simp only[lV0,p4]
theorem Qu(W:h.Wf)(K:h.KS S v ks)(hl:ks.length<=1000)(hu:∀ k∈ks,oneCell k.u=true)(ht:∀ (i j:Nat) (x y:Kt),ks[i]? =some x->ks[j]? =some y->j<i->¬ uv x y):
  ∃ h' w,call AC (m+4) 59 [v] h=.ok w h'/\h.Ext h'/\h'.KO h.next w (Cx ks ks):=by
 have ln:=K.len h;have pre:∃ e1,gC (call AC (m+3)) (AQ e0 0 [v]) h=coS (call AC (m+3)) e1 h/\J 0 e1=v/\J 3 e1=.slice none 0 0/\J 8 e1=v/\J 9 e1=AI AT (ks.length:Int)/\J 10 e1=AI AT ((0:Nat):Int):=by
  unfold gC;simp only[iN,IS,sT,By,BY,reduceIte,AX,ln];exact⟨_,rfl,by simp[AD]⟩
 obtain⟨e1,p1,s0,s3,s8,s9,s10⟩:=pre;have run:∃ e' h' w,Aw coB (call AC (m+3)) e1 h=.exit 0 e' h'/\h.Ext h'/\h'.KO h.next w (Cx ks ks)/\J 3 e'=w:=by
  refine BU (I:=fun i e' h'=>∃ w,h.Ext h'/\h'.KO h.next w (Cx ks (ks.take i))/\J 0 e'=v/\J 3 e'=w/\J 8 e'=v/\J 9 e'=AI AT (ks.length:Int)/\J 10 e'=AI AT (i:Int)/\i<=ks.length)
   (Q:=fun x=>∃ e' h' w,x=.exit 0 e' h'/\h.Ext h'/\h'.KO h.next w (Cx ks ks)/\J 3 e'=w) ks.length (by omega) (fun i e' h' ⟨w,x',o',t0,t3,t8,t9,t10,hi⟩=>?_) ⟨_,.refl W,.inl ⟨rfl,rfl⟩,s0,s3,s8,s9,s10,wP _⟩
  have W':=x'.wf;by_cases hlt:i<ks.length
  ·left
   have c1:=EF hlt;obtain⟨x,hx⟩:∃ x,ks[i]? =some x:=⟨_,sh hlt⟩;have hxm:=vy hx;obtain⟨b,_,ix,ld,_⟩:=(K.ext W x').at hx;have al:=fun (F:AEB) (e:Env)=>Bx (F:=F) (e:=e) W' (n:=6) (t:=Du)
   have Ra:=Hp.Row.alloc W' HE (show(AU K0).length=6 from rfl);have y1:h'.Ext (h'.push (.cells Du 6 0)):=(Hp.Ext.refl W').push _;have n1:(h'.push (.cells Du 6 0)).next=h'.next+1:=rfl;generalize h'.push (.cells Du 6 0)=h1 at al Ra y1 n1;obtain⟨st,_,y2,R5,n2⟩:=Nf W' y1 (IT _) Ra rfl (k:=x) (hu x hxm);generalize h1.wr h'.next 0 (AU x)=h2 at st y2 R5 n2;have x2:=x'.trans y2;obtain⟨h3,k3,x3⟩:=Pr (m:=m+1) (g:=89) (caps:=[pt h'.next]) (P:=C5 x) x2.wf (K.ext W x2) (by omega) fun g xg y hy=>gV (m:=m) xg.wf (R5.ext x2.wf xg)
   have er:ks.take (i+1)=ks.take i++[x]:=by rw[AAy,hx];rfl
   have ec:Cx ks (ks.take (i+1))=if ks.any (C5 x)=true then Cx ks (ks.take i)else Cx ks (ks.take i)++[x]:=by
    rw[er];unfold Cx;rw[yr];cases hq:ks.any (C5 x)
    ·rw[if_neg (by decide),xN (by rw[hq];rfl)];rfl
    ·rw[if_pos rfl,xO (by rw[hq];decide),ABU,wF]
   have x23:=x2.trans x3;cases hq:ks.any (C5 x)with
   |true=>
    rw[hq]at k3 ec;rw[if_pos rfl]at ec;have a3:=CF (i:=i) (h:=h3) (by omega);have hrun:∃ e2,coB (call AC (m+3)) e' h'=.norm e2 h3/\J 0 e2=v/\J 3 e2=w/\J 8 e2=v/\J 9 e2=AI AT (ks.length:Int)/\J 10 e2=AI AT ((i+1:Nat):Int):=by
     unfold coB;simp only[sT,By,BY,reduceIte,gD,AJ,AH,t10,t9,c1,Ay,t8,ix,Aq,As,ld,al,Ab,st,Df,AV,A1,Ba,t0,k3,Bi,Bh,Bool.not_true,BG,a3];exact⟨_,rfl,by simp[AD,t0,t3,t8,t9]⟩
    obtain⟨e2,r1,r2,r3,r4,r5,r6⟩:=hrun;exact⟨hlt,e2,h3,r1,w,x23,by rw[ec];exact o'.ext W' (y2.trans x3),r2,r3,r4,r5,r6,hlt⟩
   |false=>
   rw[hq]at k3 ec;rw[if_neg (by decide)]at ec;obtain⟨w',Kc,ct⟩:=qZ (K.ext W x23) hlt;obtain⟨h4,k4,x4⟩:=Pr (m:=m+1) (g:=90) (caps:=[pt h'.next]) (P:=fun _=>false) x23.wf Kc (by rw[wT];omega) fun g xg y hy=>by
    obtain⟨j,hj⟩:=List.mem_iff_getElem?.1 hy;have hji:j<i:=by
     have:=(wC.1 hj).1;rw[wT]at this;omega
    rw[List.getElem?_take,if_pos hji]at hj;exact pZ (m:=m) xg.wf ((R5.ext x2.wf x3).ext x23.wf xg) (ht i j x y hx hj hji)
   rw[lF fun _ _=>rfl]at k4;have x24:=x23.trans x4;have y24:=(y2.trans x3).trans x4;have R54:=(R5.ext x2.wf x3).ext x23.wf x4;obtain⟨_,_,_,_,_,_,ld5,_⟩:=Bt R54;have sl:=fun (F:AEB) (e:Env) (he:J 30 e=ktV x)=>NA (F:=F) x24.wf he
   obtain⟨h5,w5,k5,x5,o5,n5,_⟩:=US x24 (IT _) x24.next (o'.ext W' y24) (hu x hxm) (by have:=Qn ks (ks.take i);rw[wT]at this;omega);rw[<- ec]at o5;have a3:=CF (i:=i) (h:=h5) (by omega);have hrun:∃ e2,coB (call AC (m+3)) e' h'=.norm e2 h5/\J 0 e2=v/\J 3 e2=w5/\J 8 e2=v/\J 9 e2=AI AT (ks.length:Int)/\J 10 e2=AI AT ((i+1:Nat):Int):=by
    unfold coB;simp only[sT,By,BY,reduceIte,AJ,AH,t10,t9,c1,Ay,t8,ix,Aq,As,ld,al,Ab,st,Df,AV,A1,Ba,t0,k3,Bi,Bh,yA];rw[Ti (by omega)];simp only[sT,By,BY,reduceIte,gD,t0];rw[ct _ _ _ _ (by simp[AD]) (by simp[AD])];simp only[sT,By,BY,reduceIte,gD,AV,A1,Ba,k4,Bi,Bh,yA,Aq,As,ld5,sl,BF,t3,k5,BG,a3,t10];exact⟨_,rfl,by simp[AD,t0,t8,t9]⟩
   obtain⟨e2,r1,r2,r3,r4,r5,r6⟩:=hrun;exact⟨hlt,e2,h5,r1,w5,x5,o5,r2,r3,r4,r5,r6,hlt⟩
  ·right
   have c1:=Cz (show ks.length<=i by omega);have hrun:∃ e2,coB (call AC (m+3)) e' h'=.exit 0 e2 h'/\J 3 e2=w:=by
    unfold coB;simp only[sT,By,BY,reduceIte,AJ,AH,t10,t9,c1];exact⟨_,rfl,by simp[AD,t3]⟩
   obtain⟨e2,r1,r2⟩:=hrun;rw[r1];rw[yz (by omega)]at o';exact⟨rfl,e2,h',w,rfl,x',o',r2⟩
 obtain⟨e2,h2,w,r1,x2,o2,r2⟩:=run;refine⟨h2,w,?_,x2,o2⟩;rw[oG rfl,pM,p1,pD];simp only[BB,Ap,r1,Az,A8];unfold coE;simp only[sT,By,BY,reduceIte,r2,lV0]
end
end
noncomputable section
open Go
set_option maxRecDepth 100000
section
variable {fa:Bool}{F:AEB}{e:Env}{h g:Hp}{T M:List Nat}{bd bm bc tb n m c0 k:Nat}{arm:Int}{v:IN}{ks:List Kt}
theorem ST(W:h.Wf)(d:Dk h bd bm bc n M c0 [] arm false)(Rt:h.Row tb 0 (T.map wv))(hT:AE1 T)(hn:3<=n/\n<=90)(htb:tb≠bd/\tb≠bm/\tb≠bc)
  (hI:∀ ks:List Kt,ks.map Kt.core=kcs T M (n/3)->(ks.map Kt.key).Nodup)(hl:(kcs T M (n/3)).length<=12)(ha:AE3 fa arm):
  (∃ h' bs c1 AEc lv fv ks ks0,call AC (m+8) 16 [pt bd,pt tb,AI AT 100] h=.ok (.tuple ⟨[pt bs,AI AT 0]⟩) h'/\Fx (fun b=>b=bd\/b=bm\/b=bc) h h'/\
   Sl h' ⟨bs,bd,bm,bc,tb,n⟩ T (Fy M (AFW ks (mrk T M (n/3)) (n/3))) c1 AEc ks (AFS ks (n/3)) lv fv (AFR T M (n/3)).length false/\ks0.map Kt.core=kcs T M (n/3)/\ks=Cx (Bq ks0) (Bq ks0)/\h.next<=bs/\AE3 fa AEc)\/
  (∃ h' j ks ks0,call AC (m+8) 16 [pt bd,pt tb,AI AT 100] h=.ok (.tuple ⟨[.pointer none,AI AT 15]⟩) h'/\Fx (At.D ⟨h.next,bd,bm,bc,tb,n⟩) h h'/\j<(AFW ks (mrk T M (n/3)) (n/3)).length+1/\
   AFO fa h' ⟨h.next,bd,bm,bc,tb,n⟩ T (BP M [] ((Dy (AFW ks (mrk T M (n/3)) (n/3))).take j)).1 (BP M [] ((Dy (AFW ks (mrk T M (n/3)) (n/3))).take j)).2/\ks0.map Kt.core=kcs T M (n/3)/\ks=Cx (Bq ks0) (Bq ks0)):=by
 have big:=W.big;have s57:∀ (mm:Nat) (g:Hp),call AC (mm+1) 57 [AI AT 100] g=.ok (AI AT 3) g:=fun mm g=>by
  have:=W7 (n:=mm) (h:=g) (z:=100);rw[O0]at this;exact this
 have AJJ:=fun g=>s57 (m+6) g
 have k1:=jf (m:=m+5) d;have k2:=gP (m:=m+5) d;have c1:iEq (n:Int) 0=false:=Bj (by omega);have c2:iEq 3 0=false:=Bj (by omega);have c3:iGt 3 (n:Int)=false:=Fa (by omega);have ne:∀ (F:AEB) (e:Env),J 27 e=pt tb->oEq TP.k false (J 27) (kV (.pointer none)) F e h=.ok (.bool false) h:=fun F e he=>G1 kX he
 have bl:∀ (F:AEB) (e:Env),J 0 e=pt bd->J 1 e=pt tb->J 2 e=AI AT 100->B5 d8.zero [(0,1,J 0),(1,1,J 1),(2,1,J 2)] F e h=.ok (.agg ⟨slL bd tb AEP AEP 0 false⟩) h:=fun F e a b c=>fF a b c
 have bx:∀ (F:AEB) (e:Env),J 46 e=.agg ⟨slL bd tb AEP AEP 0 false⟩->DA (J 46) F e h=.ok (pt h.next) (h.AEA 0 (slL bd tb AEP AEP 0 false)):=fun F e he=>by rw[Ev,he,Es W];rfl
 have x1:=(Hp.Ext.refl W).AEA 0 (slL bd tb AEP AEP 0 false);have R1:=Hp.Row.new W 0 (slL bd tb AEP AEP 0 false);have n1:(h.AEA 0 (slL bd tb AEP AEP 0 false)).next=h.next+1:=rfl;generalize h.AEA 0 (slL bd tb AEP AEP 0 false)=h1 at bx x1 R1 n1;obtain⟨h2,al,st,y2,R9,n2,_⟩:=JP x1.wf kB (v:=pt h.next) rfl rfl;have x2:=x1.trans y2;have dv:=fun g=>vP (h:=g) (n:=n) (by omega)
 have pre:∃ e1,fu (call AC (m+7)) (AQ e0 0 [pt bd,pt tb,AI AT 100]) h=qv (call AC (m+7)) e1 h2/\J 2 e1=AI AT 100/\J 8 e1=AI AT (n:Int)/\J 9 e1=pt h1.next/\J 10 e1=AEP/\J 11 e1=AEP/\J 51 e1=AI AT ((n/3:Nat):Int)/\J 52 e1=AI AT ((0:Nat):Int):=by
  unfold fu;simp only[iN,IS,sT,By,BY,reduceIte,gD,cA0,k1,AJ,AH,c1,ne,AJJ,c2,c3,k2,bl,bx,al,Ab,st,Jr,dv];exact⟨_,rfl,by simp[AD]⟩
 obtain⟨e1,p1,s2,s8,s9,s10,s11,s51,s52⟩:=pre;have hbs:h.next<=h.next/\h.next<h1.next/\h1.next<h2.next:=⟨IT _,by omega,by omega⟩;have o0:O1 h h2 T M h.next h1.next h2.next bd tb 0 AEP AEP []:=⟨x2,R1.ext x1.wf y2,R9,.inl ⟨rfl,rfl⟩,rfl,fun k hk=>(by cases hk),.inl ⟨rfl,rfl⟩,IT _⟩;have AKb:∃ e' g v mv ks,Aw Ll (call AC (m+7)) e1 h2=.exit 1 e' g/\O1 h g T M h.next h1.next h2.next bd tb (n/3) v mv ks/\J 10 e'=v/\J 11 e'=mv/\J 2 e'=AI AT 100/\J 8 e'=AI AT (n:Int)/\J 9 e'=pt h1.next:=by
  refine BU (I:=fun i e' g=>∃ v mv ks,O1 h g T M h.next h1.next h2.next bd tb i v mv ks/\i<=n/3/\J 10 e'=v/\J 11 e'=mv/\J 52 e'=AI AT (i:Int)/\J 2 e'=AI AT 100/\J 8 e'=AI AT (n:Int)/\J 9 e'=pt h1.next/\J 51 e'=AI AT ((n/3:Nat):Int))
   (Q:=fun x=>∃ e' g v mv ks,x=.exit 1 e' g/\O1 h g T M h.next h1.next h2.next bd tb (n/3) v mv ks/\J 10 e'=v/\J 11 e'=mv/\J 2 e'=AI AT 100/\J 8 e'=AI AT (n:Int)/\J 9 e'=pt h1.next) (n/3) (by omega) (fun i e' g ⟨v,mv,ks,o,hi,t10,t11,t52,t2,t8,t9,t51⟩=>?_) ⟨_,_,_,o0,wP _,s10,s11,s52,s2,s8,s9,s51⟩
  by_cases hlt:i<n/3
  ·left
   obtain⟨e2,g2,v2,mv2,ks2,r1,o2,r2,r3,r4,r5⟩:=cd (m:=m+1) W d Rt hT o hbs hlt t9 t10 t11 t51 t52;exact⟨hlt,e2,g2,r1,v2,mv2,ks2,o2,hlt,r2,r3,r4,(r5 2 (by omega)).trans t2,(r5 8 (by omega)).trans t8,(r5 9 (by omega)).trans t9,(r5 51 (by omega)).trans t51⟩
  ·right
   have hie:i=n/3:=by omega
   have c1:iLt (i:Int) ((n/3:Nat):Int)=false:=Cz (by omega);have hrun:∃ e2,Ll (call AC (m+7)) e' g=.exit 1 e2 g/\∀ j,j=10\/j=11\/j=2\/j=8\/j=9->J j e2=J j e':=by
    unfold Ll;simp only[sT,By,BY,reduceIte,AJ,AH,t52,t51,c1];refine⟨_,rfl,fun j hj=>?_⟩;rcases hj with rfl|rfl|rfl|rfl|rfl<;>simp only[AD,By,BY,reduceIte]
   obtain⟨e2,r1,r2⟩:=hrun;rw[r1];exact⟨rfl,e2,g,v,mv,ks,rfl,hie ▸ o,(r2 10 (by omega)).trans t10,(r2 11 (by omega)).trans t11,(r2 2 (by omega)).trans t2,(r2 8 (by omega)).trans t8,(r2 9 (by omega)).trans t9⟩
 obtain⟨e2,g2,v,mv,ks,q1,o,t10,t11,t2,t8,t9⟩:=AKb;have hkl:ks.length<=12:=by rw[<- OF (f:=Kt.core),o.cs];exact hl
 obtain⟨g3,k3,o3⟩:=jj (m:=m) W o hkl hbs.2.1 hbs.2.2;have hC:=hI ks o.cs;have hcs:=o.cs;clear o;have hm3:∀ k,k∈Bq ks↔k∈ks:=fun k=>Ep
 have hl3:(Bq ks).length<=12:=by rw[Ie];exact hkl
 have hn3:((Bq ks).map Kt.key).Nodup:=((Di ks).map Kt.key).nodup_iff.2 hC;generalize AJK:Bq ks=ks3 at o3 hm3 hl3 hn3;have o4:=o3.ext (Hp.Ext.refl o3.x.wf).marked;have lb:=DB o4.rb;have old:∀ (kk:C) (F:AEB) (e:Env),JA (pt h1.next) kk F e g3.marked=kk F e g3.marked:=fun kk F e=>Dg (by
  show h1.next<g3.next;have:=o3.le;omega)
 obtain⟨g5,w,k5,x5,kw⟩:=Qu (m:=m+3) o4.x.wf.quiet (o4.ko.lst.same (h':=g3.marked.quiet) rfl) (by omega) (fun k hk=>(o4.ok k hk).1.vs.one.2.1) fun i j x y hx hy hij ht=>absurd ((List.getElem?_inj (i:=i) (j:=j) (by rw[OF];exact(wC.1 hx).1) hn3).1 (by rw[xH,xH,hx,hy];obtain⟨e1,e2,e3,_⟩:=ht;show some (x.a,x.b,x.c)=some (y.a,y.b,y.c);rw[e1,e2,e3])) (by omega)
 have hl4:(Cx ks3 ks3).length<=12:=wd (Qn _ _) hl3;have hm4:∀ k∈Cx ks3 ks3,k∈ks3:=fun k hk=>(vz.1 hk).1
 generalize AJL:Cx ks3 ks3=ks4 at kw hl4 hm4;have q5:∀ e:Env,J 10 e=v->Al .weak (AS 59 [J 10]) (call AC (m+7)) e g3.marked=.ok w (g3.marked.back g5):=fun e he=>by
  refine DP ?_ x5 (IT _);rw[Ba,AV,A1,he];exact k5
 have y5:g3.marked.Ext (g3.marked.back g5):=.back x5;have kw5:(g3.marked.back g5).KO g3.marked.quiet.next w ks4:=kw.same rfl;generalize g3.marked.back g5=g6 at q5 y5 kw5;have o6:=o4.ext y5;have AJM:cellsOf w=[w]/\oneCell w=true:=⟨kw5.lst.one.1,kw5.lst.one.2.1⟩;obtain⟨g7,k7,AIa,n7,_,fx7,ex7⟩:=UG o6.x.wf o6.row (off:=3) (show 3<7 by omega) big AJM.1 AJM.2;have x7:=ex7 h o6.x (IT _);have kp7:∀ b el L,b≠h.next->g6.Row b el L->g7.Row b el L:=fun b el L hb r=>fx7.row o6.x.wf r hb
 have AIa:g7.Row h.next 0 (slL bd tb w AEP (AFR T M (n/3)).length false):=AIa;have hk2:h2.next<=g3.marked.quiet.next:=o3.le;have AKc:∀ {u:IN} {xs:List IN},g6.Own h2.next 3 u xs->g7.Own h2.next 3 u xs:=fun o=>by
  rcases o with h1'|⟨b,h1',h2',h3',h4'⟩
  ·exact .inl h1'
  ·exact .inr ⟨b,h1',kp7 b _ _ (by omega) h2',h3',h4'⟩
 have ko7:g7.KO h2.next w ks4:=by
  rcases kw5 with h1'|⟨b,h1',h2',h3',h4'⟩
  ·exact .inl h1'
  ·exact .inr ⟨b,h1',kp7 b _ _ (by omega) h2',by omega,h4'⟩
 have p0:O2 h g7 (mrk T M (n/3)) h.next h1.next h2.next bd tb 0 (AFR T M (n/3)).length w mv AEP AEP ks4:=⟨x7,AIa,kp7 _ _ _ (by omega) o6.rb,ko7,fun k hk=>⟨(o6.ok k (hm4 k hk)).1.keep fun b el L hb he r=>kp7 b el L (by have hb:h1.next<b:=hb;omega) r,(o6.ok k (hm4 k hk)).2⟩,.inl ⟨rfl,rfl⟩,.inl ⟨rfl,rfl⟩,AKc o6.ms,fun b=>⟨fun h=>absurd h GN,fun h=>absurd h GN⟩,by rw[n7];exact o6.le⟩;have mid:∃ e3,Wi (call AC (m+7)) e2 g2=qx (call AC (m+7)) e3 g7/\J 9 e3=pt h1.next/\J 11 e3=mv/\J 17 e3=.func (.func 60) ⟨[]⟩ ⟨[pt h1.next]⟩/\J 18 e3=AEP/\J 102 e3=AI AT ((n/3:Nat):Int)/\J 103 e3=AI AT ((0:Nat):Int):=by
  unfold Wi;simp only[sT,By,BY,reduceIte,cA0,t10,k3,A3,EH,t9,old,Da,AK,AO,lb,q5,Ao,Ad,AG,AM,vk];rw[k7 _ _ _ _ (by simp[AD]) (by simp[AD])];simp only[sT,By,BY,reduceIte,cA0,Df,t9,t2,AJJ,t8,Jr,dv];exact⟨_,rfl,by simp[AD,t9,t11]⟩
 obtain⟨e3,p3,u9,u11,u17,u18,AKd,AKe⟩:=mid;have AKf:∃ e' g fv ou,Aw Lm (call AC (m+7)) e3 g7=.exit 4 e' g/\O2 h g (mrk T M (n/3)) h.next h1.next h2.next bd tb (n/3) (AFR T M (n/3)).length w mv fv ou ks4/\J 9 e'=pt h1.next/\J 18 e'=ou:=by
  refine BU (I:=fun i e' g=>∃ fv ou,O2 h g (mrk T M (n/3)) h.next h1.next h2.next bd tb i (AFR T M (n/3)).length w mv fv ou ks4/\i<=n/3/\J 9 e'=pt h1.next/\J 11 e'=mv/\J 17 e'=.func (.func 60) ⟨[]⟩ ⟨[pt h1.next]⟩/\J 18 e'=ou/\J 102 e'=AI AT ((n/3:Nat):Int)/\J 103 e'=AI AT (i:Int))
   (Q:=fun x=>∃ e' g fv ou,x=.exit 4 e' g/\O2 h g (mrk T M (n/3)) h.next h1.next h2.next bd tb (n/3) (AFR T M (n/3)).length w mv fv ou ks4/\J 9 e'=pt h1.next/\J 18 e'=ou) (n/3) (by omega) (fun i e' g ⟨fv,ou,o,hi,t9,t11,t17,t18,TJ,QQ⟩=>?_) ⟨_,_,p0,wP _,u9,u11,u17,u18,AKd,AKe⟩
  by_cases hlt:i<n/3
  ·left
   have hml:(mrk T M (n/3)).length<=n/3:=Dp _ _;obtain⟨e2,g2,fv2,ou2,r1,o2,r2,r3,r4⟩:=ce (m:=m+1) W o hbs hlt (by omega) (by omega) (by omega) t9 t11 t17 t18 TJ QQ;exact⟨hlt,e2,g2,r1,fv2,ou2,o2,hlt,(r4 9 (by omega)).trans t9,(r4 11 (by omega)).trans t11,(r4 17 (by omega)).trans t17,r2,(r4 102 (by omega)).trans TJ,r3⟩
  ·right
   have hie:i=n/3:=by omega
   have c1:iLt (i:Int) ((n/3:Nat):Int)=false:=Cz (by omega);have hrun:∃ e2,Lm (call AC (m+7)) e' g=.exit 4 e2 g/\J 9 e2=pt h1.next/\J 18 e2=ou:=by
    unfold Lm;simp only[sT,By,BY,reduceIte,AJ,AH,QQ,TJ,c1];exact⟨_,rfl,by simp[AD,t9,t18]⟩
   obtain⟨e2,r1,r2,r3⟩:=hrun;rw[r1];exact⟨rfl,e2,g,fv,ou,rfl,hie ▸ o,r2,r3⟩
 obtain⟨e4,g8,fv,ou,q8,o8,v9,v18⟩:=AKf;have W8:=o8.x.wf;have lt:=d.lt W;have nD:∀ b,h.next<b->¬ (⟨h.next,bd,bm,bc,tb,n⟩:At).D b:=fun b hb=>by
  rintro (h1|h1|h1|h1)
  ·have h1:b=h.next:=h1
   omega
  ·have h1:b=bd:=h1
   omega
  ·have h1:b=bm:=h1
   omega
  ·have h1:b=bc:=h1
   omega
 have hbl:(AFR T M (n/3)).length<=n/3:=Dp _ _;have hfl:(AFS ks4 (n/3)).length<=n/3:=Dp _ _;have hol:(AFW ks4 (mrk T M (n/3)) (n/3)).length<=n/3:=Dp _ _;have AKw:=Rt.lt W;have sl:Sl g8 ⟨h.next,bd,bm,bc,tb,n⟩ T M c0 arm ks4 (AFS ks4 (n/3)) w fv (AFR T M (n/3)).length false:=by
  refine⟨o8.row,d.ext W o8.x,Rt.ext W o8.x,hT,?_,fun k hk=>⟨(o8.ok k hk).1.mono fun b hb=>nD b (by have hb:h1.next<b:=hb;omega),(o8.ok k hk).2⟩,?_,⟨by show h.next≠bd;omega,by show h.next≠bm;omega,by show h.next≠bc;omega,?_,big⟩,⟨by omega,by omega,by omega,fun p hp=>?_⟩⟩
  ·refine Hp.KW.ks ?_
   rcases o8.ko with h1'|⟨b,h1',h2',h3',_⟩
   ·exact .inl h1'
   ·exact .inr ⟨b,h1',h2',nD b (by omega)⟩
  ·rcases o8.fs with h1'|⟨b,h1',h2',h3',_⟩
   ·exact .inl h1'
   ·exact .inr ⟨b,4,h1',h2',.inl rfl,nD b (by omega)⟩
  ·rintro (h1|h1|h1|h1)
   ·have h1:tb=h.next:=h1
    omega
   ·exact htb.1 h1
   ·exact htb.2.1 h1
   ·exact htb.2.2 h1
  ·have:=xM.1 (vz.1 hp).1
   show 3*p+3<=n;omega
 have lb8:=DB o8.rb;rcases JG (m:=m+1) W8 sl (ps:=AFW ks4 (mrk T M (n/3)) (n/3)) (pv:=ou) o8.os.vals (fun p hp=>by
  have:=xM.1 (vz.1 hp).1;show 3*p+3<=n;omega) (zU.filter _) (by omega) ha with ⟨g9,c9,AGc,k9,f9,s9',a9⟩|⟨j,g9,hj,_,k9,f9,d9⟩
 ·have c0':iNe 0 0=false:=CY rfl
  have lb9:=DB (f9.row W8 o8.rb (by
   rintro (q|q|q)
   ·have q:h1.next=bd:=q
    omega
   ·have q:h1.next=bm:=q
    omega
   ·have q:h1.next=bc:=q
    omega))
  have k9:call AC (m+7) 53 [pt h.next,ou] g8=.ok (AI AT 0) g9:=k9;refine .inl ⟨g9,h.next,c9,AGc,w,fv,ks4,ks,?_,(Fx.of o8.x).trans f9,s9',hcs,(by rw[<- AJL,AJK]),IT _,a9⟩;rw[ZM rfl,Zw,p1,Wj];simp only[BB,Ap,q1,Az,A8];rw[We,p3,Wk];simp only[BB,Ap,q8,Az,A8];unfold jK;simp only[sT,By,BY,reduceIte,AK,AO,v9,lb8,cA0,v18,k9,AJ,AH,c0',lb9,Bg,C7]
 ·have c0':iNe 15 0=true:=FH (by omega)
  have k9:call AC (m+7) 53 [pt h.next,ou] g8=.ok (AI AT 15) g9:=k9;refine .inr ⟨g9,j,ks4,ks,?_,(Fx.of o8.x).trans f9,hj,d9,hcs,(by rw[<- AJL,AJK])⟩;rw[ZM rfl,Zw,p1,Wj];simp only[BB,Ap,q1,Az,A8];rw[We,p3,Wk];simp only[BB,Ap,q8,Az,A8];unfold jK;simp only[sT,By,BY,reduceIte,AK,AO,v9,lb8,cA0,v18,k9,AJ,AH,c0',Bg,C7]
end
end
noncomputable section
open Go
set_option maxRecDepth 100000
section
variable {T M M':List Nat}{ks:List Kt}{fr ps:List Nat}{a b c:Int}{l:List Nat}{n p q k np i:Nat}{cs:List (Nat×List Nat)}
theorem AE6.like(m:AE6 np T M ks fr)(h1:M'.length=M.length)(hs:∀ k∈ks,∀ x,x/192=k.p->M'.getD x 0=M.getD x 0)(hf:∀ p∈fr,∀ x,x/64=3*p->M'.getD x 0=M.getD x 0):AE6 np T M' ks fr:=by
 refine⟨h1.trans m.len,fun k hk=>?_,fun k hk=>?_,fun p hp r hr=>?_,m.rs,m.pl⟩
 ·rw[Gf h1 fun x hx=>hs k hk x (by omega)];exact m.hd k hk
 ·rw[Ez h1 (by have:=(m.rs k hk).2;omega) fun x hx=>hs k hk x (by omega)];exact m.dt k hk
 ·rw[hf p hp _ (by omega)];exact m.bl p hp r hr
theorem Kept.none(k:Kept n M [] M')(h1:M.length=64*n):M'.length=M.length/\∀ x,M'.getD x 0=M.getD x 0:=by
 refine⟨k.len.trans h1.symm,fun x=>?_⟩;rcases k.sct (x/64)with h|⟨y,hy,_⟩
 ·exact h x rfl
 ·cases hy
theorem Kept.out(k:Kept n M cs M'){x:Nat}(h:∀ y∈cs,y.1≠x/64):M'.getD x 0=M.getD x 0:=by
 rcases k.sct (x/64)with h1|⟨y,hy,e,_⟩
 ·exact h1 x rfl
 ·exact absurd e (h y hy)
theorem Ox:∀ (ps:List Nat) (i:Nat) (M:List Nat) (cs:List (Nat×List Nat)),i<=ps.length->BP M cs ((Dy ps).take i)=(M,cs++(ps.take i).map fun p=>(p*3,A9))
 |ps,0,M,cs,_=>by rw[AA9,AA9,List.map_nil,wF];rfl
 |[],i+1,_,_,h=>by cases h
 |p::ps,i+1,M,cs,h=>by
  have h:i+1<=ps.length+1:=h;show BP M cs (AEp.w (p*3) A9::(Dy ps).take i)=_;rw[Ow];show BP M (cs++[(p*3,A9)]) ((Dy ps).take i)=_;rw[Ox ps i M _ (by omega),wG];rfl
theorem AEq.fil(iv:AEq np ks fr)(P:Kt->Bool):AEq np (ks.filter fun k=> !P k) (fr++(ks.filter P).map Kt.plc):=by
 refine⟨AAN (AAc.map _) iv.key,?_⟩;refine ABu ?_ iv.plc;rw[<- wG];refine(List.perm_append_comm).trans ?_;rw[<- wG,<- wa];exact((IK P ks).map Kt.plc).append_right fr
theorem Jh(m:AE6 np T M ks fr)(iv:AEq np ks fr)(hk:Kept (3*np) M cs M')(hc:∀ y∈cs,∃ p∈ps,y=(p*3,A9)):
  ∃ P:Kt->Bool,(∀ k∈ks,P k=true->k.p∈ps)/\AEq np (ks.filter fun k=> !P k) (fr++(ks.filter P).map Kt.plc)/\AE6 np T M' (ks.filter fun k=> !P k) (fr++(ks.filter P).map Kt.plc):=by
 have h1:M'.length=M.length:=hk.len.trans m.len.symm;have hD:=fun (p:Nat)=>AD7 (∀ x,x/64=3*p->M'.getD x 0=M.getD x 0)
 let St:Nat->Bool:=fun p=>match xS (∀ x,x/64=3*p->M'.getD x 0=M.getD x 0)with
  |.isTrue _=>false
  |.isFalse _=>true
 have hSf:∀ p,St p=false->∀ x,x/64=3*p->M'.getD x 0=M.getD x 0:=fun p h=>by
  show _;cases hq:xS (∀ x,x/64=3*p->M'.getD x 0=M.getD x 0)with
  |isTrue h2=>exact h2
  |isFalse h2=>
   have:St p=true:=by show(match xS (∀ x,x/64=3*p->M'.getD x 0=M.getD x 0)with|.isTrue _=>false|.isFalse _=>true)=true;rw[hq]
   rw[this]at h;cases h
 have hSt:∀ p,St p=true->p∈ps/\∀ x,x/64=3*p->M'.getD x 0=0:=fun p h=>by
  have hn:¬ ∀ x,x/64=3*p->M'.getD x 0=M.getD x 0:=fun h2=>by
   have:St p=false:=by
    show(match xS (∀ x,x/64=3*p->M'.getD x 0=M.getD x 0)with|.isTrue _=>false|.isFalse _=>true)=false;cases hq:xS (∀ x,x/64=3*p->M'.getD x 0=M.getD x 0)with
    |isTrue _=>rfl
    |isFalse h3=>exact absurd h2 h3
   rw[this]at h;cases h
  rcases hk.sct (3*p)with h3|⟨y,hy,e,hx⟩
  ·exact absurd h3 hn
  ·obtain⟨p',hp',rfl⟩:=hc y hy
   have hpp:p'=p:=by have e:p'*3=3*p:=e;omega
   subst hpp;refine⟨hp',fun x hx2=>?_⟩;rw[hx x hx2];unfold A9;exact Ng
 have AKg:∀ x,x % 192>=64->M'.getD x 0=M.getD x 0:=fun x hx=>hk.out fun y hy e=>by
  obtain⟨p',_,rfl⟩:=hc y hy;have e:p'*3=x/64:=e;omega
 have hs:∀ k∈ks.filter (fun k=> !St k.p),∀ x,x/192=k.p->M'.getD x 0=M.getD x 0:=fun k hk2 x hx=>by
  have hf:St k.p=false:=by
   have:=(vz.1 hk2).2;cases h:St k.p
   ·rfl
   ·rw[h]at this;cases this
  by_cases h2:x % 192>=64
  ·exact AKg x h2
  ·exact hSf k.p hf x (by omega)
 have AKh:∀ k∈ks,k.p<np:=fun k hk2=>by have:=iv.lt k hk2;omega
 refine⟨fun k=>St k.p,fun k _ h=>(hSt k.p h).1,iv.fil _,⟨h1.trans m.len,fun k hk2=>?_,fun k hk2=>?_,fun p hp r hr=>?_,fun k hk2=>m.rs k (vz.1 hk2).1,fun p hp=>?_⟩⟩
 ·rw[Gf h1 fun x hx=>hs k hk2 x (by omega)]
  exact m.hd k (vz.1 hk2).1
 ·rw[Ez h1 (by have:=(m.rs k (vz.1 hk2).1).2;omega) fun x hx=>hs k hk2 x (by omega)]
  exact m.dt k (vz.1 hk2).1
 ·rcases wK.1 hp with hp|hp
  ·cases h:St p
   ·rw[hSf p h _ (by omega)];exact m.bl p hp r hr
   ·exact(hSt p h).2 _ (by omega)
  ·obtain⟨y,hy,hyp⟩:=wM.1 hp
   have hyp:y.p=p:=hyp;exact(hSt y.p (vz.1 hy).2).2 _ (by omega)
 ·rcases wK.1 hp with hp|hp
  ·exact m.pl p hp
  ·obtain⟨y,hy,rfl⟩:=wM.1 hp
   exact AKh y (vz.1 hy).1
theorem Ww{kx:Kt}(h:AEN kx.a kx.b kx.c kx.s kx.l.length=true):AEN kx.a kx.b kx.c 2 kx.l.length=true:=by
 obtain⟨g1,g2,g3,g4,g5,g6,g7,g8⟩:=Dh h;exact decide_eq_true ⟨g1,g2,g3,g4,g5,g6,.inr rfl,g8⟩
theorem IF(iv:AEq np ks fr){j:Nat}{kx:Kt}(hj:ks[j]? =some kx):∀ z∈cmK ks j kx,z={kx with s:=2}\/(z∈ks/\z.p≠kx.p):=fun z hz=>by
 have i2:=iv.set (y:={kx with s:=2}) hj rfl rfl;rcases mem_set hj hz with h|h
 ·exact .inl h
 ·by_cases hzp:z.p=kx.p
  ·have hX:({kx with s:=2}:Kt)∈ks.set j {kx with s:=2}:=List.mem_set (wC.1 hj).1 _
   exact .inl (CZ i2.nd hz hX hzp)
  ·exact .inr ⟨h,hzp⟩
theorem Qp(m:AE6 np T M ks fr)(iv:AEq np ks fr){j:Nat}{kx:Kt}(hj:ks[j]? =some kx):AE6 np T (EK M kx.p (AEJ T kx.a kx.b kx.c 2 kx.l)) (cmK ks j kx) fr:=by
 have hkm:=vy hj;have hp3:=iv.lt kx hkm;have hr0:=m.rs kx hkm;have hr2:=Ww hr0.1;obtain⟨g1,g2⟩:=Me m.len (p:=kx.p) hp3 (Dm (T:=T) hr2);have AEg:=IF iv hj;have hs:∀ z∈ks,z.p≠kx.p->∀ x,x/192=z.p->(EK M kx.p (AEJ T kx.a kx.b kx.c 2 kx.l)).getD x 0=M.getD x 0:=fun z hz hzp x hx=>by rw[g2,if_neg (by omega)]
 refine⟨g1,fun k hk=>?_,fun k hk=>?_,fun q hq r hr=>?_,fun k hk=>?_,m.pl⟩
 ·rcases AEg k hk with rfl|⟨h1,h2⟩
  ·exact QM g1 (by show 3*kx.p<3*np;omega) (Dm hr2) fun r hr=>by rw[g2,if_pos (show(64*(3*kx.p)+r)/64=3*kx.p by omega),show(64*(3*kx.p)+r) % 64=r by omega]
  ·rw[Gf (g1.trans m.len.symm) fun x hx=>hs k h1 h2 x (by omega)]
   exact m.hd k h1
 ·rcases AEg k hk with rfl|⟨h1,h2⟩
  ·show dat _ kx.p kx.l.length=kx.l
   rw[Ez (g1.trans m.len.symm) (by omega) fun x hx=>by rw[g2,if_neg (by omega)]];exact m.dt kx hkm
  ·rw[Ez (g1.trans m.len.symm) (by have:=(m.rs k h1).2;omega) fun x hx=>hs k h1 h2 x (by omega)]
   exact m.dt k h1
 ·have hnd:(ks.map Kt.plc++fr).Nodup:=iv.plc.nodup_iff.2 zU
  have hqk:kx.p≠q:=(yP.1 hnd).2.2 kx.p (wM.2 ⟨kx,hkm,rfl⟩) q hq;rw[g2,if_neg (by omega)];exact m.bl q hq r hr
 ·rcases AEg k hk with rfl|⟨h1,h2⟩
  ·exact⟨hr2,hr0.2⟩
  ·exact m.rs k h1
theorem X7(m:AE6 np T M ks fr)(iv:AEq np ks fr){j:Nat}{kx:Kt}(hj:ks[j]? =some kx)(hi:i<2)(hk:Kept (3*np) (BP M [] ((DY kx.p (AEJ T kx.a kx.b kx.c 2 kx.l)).take i)).1 (BP M [] ((DY kx.p (AEJ T kx.a kx.b kx.c 2 kx.l)).take i)).2 M'):
  AE6 np T M' ks fr\/AE6 np T M' (cmK ks j kx) fr:=by
 have m0:Kept (3*np) M [] M'->AE6 np T M' ks fr:=fun hk=>by
  obtain⟨h1,h2⟩:=hk.none m.len;exact m.like h1 (fun _ _ x _=>h2 x) fun _ _ x _=>h2 x
 rcases (show i=0\/i=1 by omega)with rfl|rfl
 ·exact .inl (m0 hk)
 ·have hk:Kept (3*np) M [(kx.p*3,AEJ T kx.a kx.b kx.c 2 kx.l)] M':=hk
  have h1:M'.length=M.length:=hk.len.trans m.len.symm;have hkm:=vy hj;have hout:∀ x,x/64≠3*kx.p->M'.getD x 0=M.getD x 0:=fun x hx=>hk.out fun y hy=>by
   rw[v7.1 hy];show kx.p*3≠x/64;omega
  rcases hk.sct (3*kx.p)with h|⟨y,hy,_,h⟩
  ·left
   have h2:∀ x,M'.getD x 0=M.getD x 0:=fun x=>by
    by_cases hx:x/64=3*kx.p
    ·exact h x hx
    ·exact hout x hx
   exact m.like h1 (fun _ _ x _=>h2 x) fun _ _ x _=>h2 x
  ·right
   rw[v7.1 hy]at h;obtain⟨g1,g2⟩:=Me m.len (p:=kx.p) (iv.lt kx hkm) (Dm (T:=T) (Ww (m.rs kx hkm).1));have h2:∀ x,M'.getD x 0=(EK M kx.p (AEJ T kx.a kx.b kx.c 2 kx.l)).getD x 0:=fun x=>by
    rw[g2];by_cases hx:x/64=3*kx.p
    ·rw[if_pos hx];exact h x hx
    ·rw[if_neg hx];exact hout x hx
   exact(Qp m iv hj).like (hk.len.trans g1.symm) (fun _ _ x _=>h2 x) fun _ _ x _=>h2 x
end
end
noncomputable section
open Go
set_option maxRecDepth 100000
def kD(n:Nat)(Q:Nat->Prop):AEp->Prop
 |.w i l=>Q i/\i<n/\l.length=64/\∀ x∈l,x<256
 |.f=>True
def Aft(ks:List Kt)(fr:List Nat)(kd a b c:Int)(l:List Nat)(ks':List Kt):Prop:=
 ks'=ks\/
 (C8 kd/\DX ks fr.length a b c l=none/\∃ p fr2 k',fr=p::fr2/\k'.core=⟨a,b,c,1,l,p⟩/\ks'=Bq (ks++[k']))\/
 ((kd=5\/kd=6)/\∃ (j:Nat) (kx:Kt) (P:Kt->Bool),ks[j]? =some kx/\(kx.a=a/\kx.b=b/\kx.c=c)/\Bm a b c ks=false/\(∀ k∈cmK ks j kx,P k=true->elB a b c k=true)/\ks'=(cmK ks j kx).filter fun k=> !P k)\/
 (kd=7/\∃ (j:Nat) (kx:Kt) (P:Kt->Bool),ks[j]? =some kx/\(kx.a=a/\kx.b=b/\kx.c=c)/\Bm a b c ks=false/\(∀ k∈ks,P k=true->k.p=kx.p)/\ks'=ks.filter fun k=> !P k)\/
 (kd=8/\∃ P:Kt->Bool,(∀ k∈ks,P k=true->drB a b c k=true)/\ks'=ks.filter fun k=> !P k)
section
variable {T M M':List Nat}{ks ks':List Kt}{fr fr' ps:List Nat}{kd a b c:Int}{l H:List Nat}{n p q k np i:Nat}{cs:List (Nat×List Nat)}{Q:Nat->Prop}
theorem Ib:∀ (ds:List AEp) (M:List Nat) (cs:List (Nat×List Nat)),M.length=64*n->AEv n cs->(∀ y∈cs,Q y.1)->(∀ d∈ds,kD n Q d)->
  (BP M cs ds).1.length=64*n/\(∀ x,¬ Q (x/64)->(BP M cs ds).1.getD x 0=M.getD x 0)/\∀ y∈(BP M cs ds).2,Q y.1
 |[],M,cs,h1,_,h3,_=>⟨h1,fun _ _=>rfl,h3⟩
 |.w i l::ds,M,cs,h1,h2,h3,h4=>by
  obtain⟨q1,q2,q3,q4⟩:=h4 _ vp;refine Ib ds M (cs++[(i,l)]) h1 (fun y hy=>?_) (fun y hy=>?_) fun d hd=>h4 d (vr _ hd)
  ·rcases wK.1 hy with hy|hy
   ·exact h2 y hy
   ·rw[v7.1 hy];exact⟨q2,q3,q4⟩
  ·rcases wK.1 hy with hy|hy
   ·exact h3 y hy
   ·rw[v7.1 hy];exact q1
 |.f::ds,M,cs,h1,h2,h3,h4=>by
  obtain⟨a,b,c⟩:=Ib ds (E6 M cs) [] (FQ h1 h2) (fun y hy=>by cases hy) (fun y hy=>by cases hy) fun d hd=>h4 d (vr _ hd)
  exact⟨a,fun x hx=>(b x hx).trans (IQ h1 h2 fun y hy e=>hx (by rw[e];exact h3 y hy)),c⟩
theorem Sy(M:List Nat)(cs:List (Nat×List Nat))(d1 d2:List AEp):BP M cs (d1++d2)=BP (BP M cs d1).1 (BP M cs d1).2 d2:=by
 rw[FU,FU,FU,List.foldl_append]
def Hz(p:Nat)(l:List Nat):List AEp:=if l=[]then []else GH p l
theorem Yc(hp:p<np)(hl:l.length<=100)(hb:∀ x∈l,x<256):∀ d∈Hz p l,kD (3*np) (fun i=>i=3*p+1\/i=3*p+2) d:=fun d hd=>by
 unfold Hz at hd;split at hd
 ·cases hd
 ·unfold GH at hd
  rcases wK.1 hd with hd|hd
  ·obtain⟨j,hj,rfl⟩:=wM.1 hd
   have:=xM.1 hj;exact⟨by omega,by omega,CW _ _,JQ hb _⟩
  ·rw[v7.1 hd];trivial
theorem dC(M:List Nat):(BP M [] (Hz p l)).2=[]:=by
 unfold Hz;split
 ·rfl
 ·exact H4 _ _ _
theorem Ot:DT T M p l H=Fh (BP M [] (Hz p l)).1 (p*3) H:=by
 unfold DT;rw[Sy];have e1:(BP M [] (GH p l)).2=[]:=H4 _ _ _;have e2:(BP M [] (GH p l)).1=(BP M [] (Hz p l)).1:=by
  unfold Hz;split
  ·rename_i h
   rw[h];rfl
  ·rfl
 rw[e1,e2];rfl
theorem X8(m:AE6 np T M ks (p::fr'))(iv:AEq np ks (p::fr'))(hc:Com ks)(hb:∀ x∈l,x<256)(hz:DX ks (p::fr').length a b c l=none)(hi:i<(Jx p l (AEJ T a b c 1 l)).length)
  (hk:Kept (3*np) (BP M [] ((Jx p l (AEJ T a b c 1 l)).take i)).1 (BP M [] ((Jx p l (AEJ T a b c 1 l)).take i)).2 M'):
  AE6 np T M' ks (p::fr')\/∃ k':Kt,k'.core=⟨a,b,c,1,l,p⟩/\AEq np (Bq (ks++[k'])) fr'/\AE6 np T M' (Bq (ks++[k'])) fr':=by
 have hn:¬ (AEN a b c 1 l.length=false\/100<l.length):=fun h=>by
  unfold DX at hz;rw[if_pos h]at hz;cases hz
 have hr:AEN a b c 1 l.length=true:=by
  cases hq:AEN a b c 1 l.length
  ·exact absurd (.inl hq) hn
  ·rfl
 have AFy:l.length<=100:=ACi fun h=>hn (.inr h)
 have hp8:=m.pl p vp;have hnd:(ks.map Kt.plc++(p::fr')).Nodup:=iv.plc.nodup_iff.2 zU;have hkp:∀ k∈ks,k.p≠p:=fun k hk h=>(yP.1 hnd).2.2 k.p (wM.2 ⟨k,hk,rfl⟩) p vp h
 have near:∀ N:List Nat,N.length=64*(3*np)->(∀ x,¬ (x/64=3*p+1\/x/64=3*p+2)->N.getD x 0=M.getD x 0)->AE6 np T N ks (p::fr'):=fun N h1 h2=>
  m.like (h1.trans m.len.symm) (fun k hk x hx=>h2 x (by have:=hkp k hk;omega)) fun q hq x hx=>h2 x (by omega)
 have hNB:=Yc hp8 AFy hb;have eD:Jx p l (AEJ T a b c 1 l)=Hz p l++DY p (AEJ T a b c 1 l):=rfl;rw[eD]at hi hk;by_cases hle:i<=(Hz p l).length
 ·rw[List.take_append_of_le_length hle]at hk
  obtain⟨g1,g2,g3⟩:=Ib (Q:=fun i=>i=3*p+1\/i=3*p+2) ((Hz p l).take i) M [] m.len (fun y hy=>by cases hy) (fun y hy=>by cases hy) fun d hd=>hNB d (xK hd)
  exact .inl (near M' hk.len fun x hx=>(hk.out fun y hy e=>hx (by rw[<- e];exact g3 y hy)).trans (g2 x hx))
 ·have hi2:i<(Hz p l).length+2:=by rw[No]at hi;exact hi
  obtain rfl:i=(Hz p l).length+1:=by omega
  rw[List.take_append,yz (by omega),show(Hz p l).length+1 - (Hz p l).length=1 by omega,Sy,dC]at hk;obtain⟨g1,g2,g3⟩:=Ib (Q:=fun i=>i=3*p+1\/i=3*p+2) (Hz p l) M [] m.len (fun y hy=>by cases hy) (fun y hy=>by cases hy) hNB;have hk:Kept (3*np) (BP M [] (Hz p l)).1 [(p*3,AEJ T a b c 1 l)] M':=hk;have hout:∀ x,x/64≠3*p->M'.getD x 0=(BP M [] (Hz p l)).1.getD x 0:=fun x hx=>hk.out fun y hy=>by
   rw[v7.1 hy];show p*3≠x/64;omega
  rcases hk.sct (3*p)with h|⟨y,hy,_,h⟩
  ·refine .inl (near M' hk.len fun x hx=>?_)
   rw[<- g2 x hx];by_cases hx2:x/64=3*p
   ·exact h x hx2
   ·exact hout x hx2
  ·right
   rw[v7.1 hy]at h;have hH:=Dm (T:=T) hr;have hL:=Cn g1 (show p*3<3*np by omega) hH;have tn:∀ k':Kt,k'.core=⟨a,b,c,1,l,p⟩->Tb T M ks (p::fr') 1 a b c l (DT T M p l (AEJ T a b c 1 l)) (Bq (ks++[k'])) fr':=fun k' h=>.inl ⟨.inl rfl,hz,p,k',rfl,rfl,h,rfl⟩
   have t:=tn ⟨a,b,c,1,l,p,.pointer none⟩ rfl;refine⟨_,rfl,(Nq iv t).1,(TM iv m hc t).1.like ?_ (fun _ _ x _=>?_) fun _ _ x _=>?_⟩
   ·rw[Ot,hL];exact hk.len
   all_goals
    rw[Ot,DM g1 (by omega) hH];by_cases hx2:x/64=3*p
    ·rw[if_pos (by omega)];exact h x hx2
    ·rw[if_neg (by omega)];exact hout x hx2
theorem Lv(ks:List Kt)(P P2:Kt->Bool):((ks.filter fun k=> !P k).filter fun k=> !P2 k)=ks.filter fun k=> !(P k || P2 k):=by
 rw[List.filter_filter];refine List.filter_congr fun k _=>?_
 cases P k<;>cases P2 k<;>rfl
theorem MI{ps:List Nat}{M:List Nat}(hi:i<ps.length+1):(BP M [] ((Dy ps).take i)).1=M/\∀ y∈(BP M [] ((Dy ps).take i)).2,∃ p∈ps,y=(p*3,A9):=by
 rw[Ox ps i M [] (by omega)];refine⟨rfl,fun y hy=>?_⟩;obtain⟨p,hp,rfl⟩:=wM.1 hy;exact⟨p,xK hp,rfl⟩
theorem Xr{q:List Nat×List (Nat×List Nat)}(m:AE6 np T M ks fr)(iv:AEq np ks fr)(hc:Com ks)(hb:∀ x∈l,x<256)(f:ri T M ks fr kd a b c l q)(hk:Kept (3*np) q.1 q.2 M'):
  ∃ ks' fr',AEq np ks' fr'/\AE6 np T M' ks' fr'/\Aft ks fr kd a b c l ks':=by
 rcases f with ⟨h14,hz,p,fr2,i,rfl,hi,rfl⟩|⟨h56,j,kx,i,hj,AFL,hst,hi,rfl⟩|⟨h56,j,kx,i,hj,AFL,hst,hi,rfl⟩|⟨rfl,j,kx,i,hj,AFL,hst,hi,rfl⟩|⟨rfl,o1,x,o2,i,ho,hi,rfl⟩
 ·rcases X8 m iv hc hb hz hi hk with h|⟨k',e,i2,m2⟩
  ·exact⟨ks,_,iv,h,.inl rfl⟩
  ·exact⟨_,_,i2,m2,.inr (.inl ⟨h14,hz,p,fr2,k',rfl,e,rfl⟩)⟩
 ·have hk2:=hk
  obtain⟨rfl,rfl,rfl⟩:=AFL;rcases X7 m iv hj hi hk with h|h
  ·exact⟨ks,fr,iv,h,.inl rfl⟩
  ·have i2:AEq np (cmK ks j kx) fr:=iv.set hj rfl rfl
   exact⟨cmK ks j kx,fr,i2,h,.inr (.inr (.inl ⟨h56,j,kx,fun _=>false,hj,⟨rfl,rfl,rfl⟩,hst,(fun _ _ h=>by cases h),(List.filter_eq_self.2 fun _ _=>rfl).symm⟩))⟩
 ·obtain⟨rfl,rfl,rfl⟩:=AFL
  obtain⟨e1,e2⟩:=MI (ps:=cmO ks j kx) (M:=EK M kx.p (AEJ T kx.a kx.b kx.c 2 kx.l)) hi;rw[e1]at hk;have i2:AEq np (cmK ks j kx) fr:=iv.set hj rfl rfl;obtain⟨P,hP,i3,m3⟩:=Jh (Qp m iv hj) i2 hk e2;refine⟨_,_,i3,m3,.inr (.inr (.inl ⟨h56,j,kx,P,hj,⟨rfl,rfl,rfl⟩,hst,fun k hk2 hp=>?_,rfl⟩))⟩;obtain⟨y,hy,hyp⟩:=wM.1 (hP k hk2 hp);obtain⟨hy1,hy2⟩:=vz.1 hy;rw[<- CZ i2.nd hy1 hk2 hyp];exact hy2
 ·obtain⟨e1,e2⟩:=MI (ps:=[kx.p]) (M:=M) hi
  rw[e1]at hk;obtain⟨P,hP,i3,m3⟩:=Jh m iv hk e2;exact⟨_,_,i3,m3,.inr (.inr (.inr (.inl ⟨rfl,j,kx,P,hj,AFL,hst,fun k hk2 hp=>v7.1 (hP k hk2 hp),rfl⟩)))⟩
 ·obtain⟨e1,e2⟩:=MI (ps:=[x.p]) (M:=EW M o1) hi
  rw[e1,IG]at hk;rw[IG]at e2;have hO:∀ z∈o1++x::o2,z∈ks/\drB a b c z=true:=fun z hz=>by
   rw[<- ho]at hz;exact vz.1 (List.mem_reverse.1 hz)
  have hin:∀ z∈o1++x::o2,∀ k∈ks,k.p=z.p->drB a b c k=true:=fun z hz k hk2 hp=>by
   obtain⟨h1,h2⟩:=hO z hz;rw[CZ iv.nd hk2 h1 hp];exact h2
  let P1:Kt->Bool:=fun k=>decide (k.p∈o1.map Kt.plc)
  have hP1:∀ k∈ks,P1 k=true->drB a b c k=true:=fun k hk2 hp=>by
   obtain⟨z,hz,hzp⟩:=wM.1 (of_decide_eq_true hp);exact hin z (wU _ hz) k hk2 hzp.symm
  have i1:=iv.fil P1;have m1:AE6 np T (Fy M (o1.map Kt.plc)) (ks.filter fun k=> !P1 k) (fr++(ks.filter P1).map Kt.plc):=m.cut (fun k hk2=>?_) (fun p hp=>?_) fun p hp=>?_
  ·obtain⟨P2,hP2,i3,m3⟩:=Jh m1 i1 hk e2
   rw[Lv]at i3 m3;refine⟨_,_,i3,m3,.inr (.inr (.inr (.inr ⟨rfl,fun k=>P1 k || P2 k,fun k hk2 hp=>?_,rfl⟩)))⟩;have hp:(P1 k || P2 k)=true:=hp;cases h1:P1 k
   ·rw[h1,Bool.false_or]at hp
    have:=v7.1 (hP2 k (vz.2 ⟨hk2,by rw[h1];rfl⟩) hp);exact hin x (wI _ vp) k hk2 this
   ·exact hP1 k hk2 h1
  ·obtain⟨h1,h2⟩:=vz.1 hk2
   refine⟨h1,fun h=>?_⟩;have:P1 k=true:=decide_eq_true h;rw[this]at h2;cases h2
  ·rcases wK.1 hp with h|h
   ·exact .inl h
   ·obtain⟨y,hy,rfl⟩:=wM.1 h
    exact .inr (of_decide_eq_true (vz.1 hy).2)
  ·obtain⟨y,hy,rfl⟩:=wM.1 hp
   exact iv.lt y (hO y (wU _ hy)).1
end
end
end Go.Proofs.YtedbmmfebjfibaaGreat
