/-
  Part ZF of what Lawnw stands on: printed by program, names and spaces cut.
-/
import Derived.Test.YtldjiljipddebaaGreatZE
open Bool renaming true→IN,false→IT
open Option renaming some→BY,none→By
open Go.Value renaming int→AI
open Go.IntKind renaming i64→AT
open Nat renaming reduceEqDiff→sh,reduceLT→xT,reduceAdd→xV,le_refl→xW,zero_add→xZ,succ→xz,zero_le→yH,le_trans→yS,eq_zero_or_pos→yl,mul→yv,add_zero→zQ,mul_comm→zb,reduceLeDiff→zg,mul_one→zw,min_le_right→ABI,lt_irrefl→ABc,mul_zero→ACa,le_of_not_lt→ADj,one_pos→AES,le_min→AEY
open Go renaming Value→xU
open List renaming length_append→xY,length_map→xa,getElem?_eq_getElem→xc,getD_eq_getElem?_getD→xe,length_cons→xh,mem_cons_of_mem→xn,mem_cons_self→xp,replicate→xx,mem_of_getElem?→xy,mem_cons→yC,append_assoc→yD,append_nil→yF,mem_singleton→yG,getElem?_append_left→yL,getElem?_eq_some_iff→yN,mem_append→yO,length_take→yP,nil_append→yT,length_nil→yU,length_drop→yX,map_append→yZ,mem_append_right→yc,length_singleton→yd,mem_append_left→yh,drop_zero→yk,drop_of_length_le→ym,take_length→yz,eq_nil_of_length_eq_zero→zA,mem_filter→zC,getElem?_map→zE,mem_map→zI,mem_of_mem_take→zJ,cons_append→zK,filter_cons_of_pos→zM,filter_cons_of_neg→zN,range→zP,map_cons→za,length_filter_le→zc,mem_of_mem_drop→zd,drop_eq_getElem_cons→zf,take_append_drop→zi,nodup_cons→zm,append_eq→zp,getElem?_take→zy,length→AAC,find?_eq_none→AAH,reverse_perm→AAL,mem_iff_getElem?→AAP,drop_length_add_append→AAQ,take_add_one→AAT,nodup_append→AAU,reverse_append→AAc,map_eq_nil_iff→AAd,length_reverse→AAe,flatMap_append→AAg,drop→AAo,perm_middle→AAt,take→AA0,find?_some→AA1,filter_nil→AA2,reverse_reverse→AA3,mem_or_eq_of_mem_set→ABA,mem_of_find?_eq_some→ABB,map_set→ABX,drop_length→ABb,length_range→ABh,filter_append→ABv,nodup_range→ACB,reverse_cons→ACI,foldl_append→ACJ,mem_nil_iff→ACW,getElem?_replicate→ACi,take_left→ACy,perm_append_comm→ACz,filter_sublist→ADD,ext_getElem→ADY,length_set→ADm,take_zero→ADt,mem_set→AEC
open Bool renaming and_eq_true→yE,not_true→yY,not_false→yg,false_and→AAB,true_and→AAl,and_false→ABC
open Int renaming sub→yi,ofNat→zZ,toNat_of_nonneg→zh
open Go.Value renaming int→yy,slice→ACF
open List.Pairwise renaming sublist→AB8
open List.Perm renaming trans→AC4
set_option linter.unusedVariables false
set_option linter.unusedSimpArgs false
namespace Go.Proofs.YtldjiljipddebaaGreat
set_option maxRecDepth 100000
noncomputable section
open Go
theorem dp:prB=kY:=rfl
theorem JJ:d54=OU:=rfl
section
variable {F:AEh}{e:Env}{h h' h0:Hp}{S:Nat->Prop}{A:At}{T M:List Nat}{c0 bad m k p:Nat}{arm:Int}{ks:List Kt}{fr:List Nat}{v lv fv:xU}{ov:Bool}
def VcI(h:Hp)(k:Nat)(v:xU)(l:List Nat):Prop:=(v=AEk/\l=[])\/Mk h k v l
theorem VcI.vals{k:Nat}{v:xU}{l:List Nat}(o:VcI h k v l):h.AE7 v (l.map bv):=by
 rcases o with ⟨a,b⟩|o
 ·exact .inl ⟨a,by rw[b];rfl⟩
 ·exact o.vals
theorem VcI.ext{k:Nat}{v:xU}{l:List Nat}(o:VcI h k v l)(a:h.Wf)(x:h.Ext h'):VcI h' k v l:=by
 rcases o with o|o
 ·exact .inl o
 ·exact .inr (o.ext a x)
theorem VcI.same{k:Nat}{v:xU}{l:List Nat}(o:VcI h k v l)(a:h'.bl=h.bl):VcI h' k v l:=by
 rcases o with o|o
 ·exact .inl o
 ·exact .inr (o.same a)
theorem VcI.one{k:Nat}{v:xU}{l:List Nat}(o:VcI h k v l):cellsOf v=[v]/\oneCell v=IN/\known v=IN:=by
 rcases o with ⟨a,_⟩|⟨b,c,a,_⟩<;>rw[a]<;>exact⟨rfl,rfl,rfl⟩
def Hp.VE(h:Hp)(u:xU)(xs:List xU):Prop:=h.AE7 u xs\/((∃a,u=.chan (BY a))/\xs=[])
theorem Hp.VE.bl{u:xU}{l:List Nat}(a:h.VE u (l.map bv))(g:Hp):AFB u g=.ok (AI AT (l.length:Int)) g:=by
 rcases a with a|⟨⟨c,rfl⟩,b⟩
 ·exact a.bl g
 ·rw[AAd.1 b];rfl
theorem Hp.VE.ext{u:xU}{xs:List xU}(a:h.VE u xs)(b:h.Wf)(x:h.Ext h'):h'.VE u xs:=a.imp (λa=>a.ext b x) id
theorem Hp.VE.same{u:xU}{xs:List xU}(a:h.VE u xs)(b:h'.bl=h.bl):h'.VE u xs:=a.imp (λa=>a.same b) id
theorem Hp.VE.vals{u:xU}{xs:List xU}(a:h.VE u xs)(b:0<xs.length):h.AE7 u xs:=by
 rcases a with a|⟨_,c⟩
 ·exact a
 ·rw[c]at b;cases b
theorem On{n:Nat}(a:h.Wf){u:xU}{l:List Nat}(b:h.VE u (l.map bv))(y:l.length<=900000):∃h' v,call AC (n+1) 90 [u] h=.ok v h'/\h.Ext h'/\VcI h' h.next v l:=by
 rcases b with b|⟨⟨c,rfl⟩,f⟩
 case inr=>
  obtain rfl:=AAd.1 f;have d:=(Hp.Ext.refl a).AEg 0 [];have R:=Hp.Row.new a 0 [];have p:=λ(e:Env) (t:List xU)=>K7 (F:=call AC n) (e:=e) (t:=t) a
  generalize h.AEg 0 []=q at d R p;have i:∀e:Env,J 0 e=.chan (BY c)->oEq Ja.k IT (J 0) (W (.slice By 0 0)) (call AC n) e h=.ok (.bool IT) h:=λe g=>by
   rw[fN];show(match eqV (.slice 5) (J 0 e) (.slice By 0 0)with|some c=>okB (IT != c) h|none=>.no)=_;rw[g];exact FU
  have big:=a.big;have x:DU 1 1 5 (.slice (BY ⟨h.next,0,By⟩) 0 0) (.chan (BY c)) q=.ok (.slice (BY ⟨h.next,0,By⟩) 0 0) (q.wr h.next 0 []):=IA d.wf big R (λk=>rfl) rfl;have s:=R.AEt d.wf (off:=0) (vs:=[]) (xW _);refine⟨_,.slice (BY ⟨h.next,0,By⟩) 0 0,?_,R.AFC d (xW _) (off:=0) (vs:=[]) (xW _),.inr ⟨h.next,0,rfl,.inl rfl,s,xW _⟩⟩;rw[JF rfl];unfold d90;simp only[iN,xV,sT,xT,sh,reduceIte,i,p,Bb,x,lV0]
 have j:=b;rcases b with ⟨rfl,f⟩|⟨m,off,o,A,z,r,_⟩
 ·have i:∀e:Env,J 0 e=.slice By 0 0->oEq Ja.k IT (J 0) (W (.slice By 0 0)) (call AC n) e h=.ok (.bool IN) h:=λe g=>J5 (t:=0) fN g
  refine⟨h,AEk,?_,.refl a,.inl ⟨rfl,AAd.1 f⟩⟩;rw[JF rfl];unfold d90;simp only[iN,xV,sT,xT,sh,reduceIte,i,lV0]
 ·rw[xa]at r
  rw[r]at j ⊢;obtain⟨h',v,w,m,o⟩:=Mz (n:=n) a j y;exact⟨h',v,w,m,.inr o⟩
theorem Hp.KN.same{k:Nat}{v:xU}{ks:List Kt}(o:h.KN k v ks)(a:h'.bl=h.bl):h'.KN k v ks:=by
 rcases o with o|⟨c,b,d,e,f⟩
 ·exact .inl (o.same a)
 ·exact .inr ⟨c,b,d,e.same a,f⟩
theorem jJ(f:h0.Ext h)(hk:h0.next<=k)(r:k<=h.next)(o:h.KN k v ks){x:Kt}(l:oneCell x.u=IN)(s:ks.length<=100000):
  ∃h' v',DU 6 64 124 v (.slice (BY ⟨h.next,0,By⟩) 1 1) (h.AEg 0 (Aj x))=.ok v' h'/\h0.Ext h'/\h'.KO k v' (ks++[x])/\h.next<=h'.next:=by
 rcases o with o|⟨rfl,z,rfl,w,A,y⟩
 ·obtain⟨h',v',b,c,d,i,_⟩:=sY f hk r o l s
  exact⟨h',v',b,c,d,i⟩
 ·have a:=f.wf
  have p:=f.AEg 0 (Aj x);have q:=(Hp.Ext.refl a).AEg 0 (Aj x);have g:=Hp.Row.new a 0 (Aj x);have u:(h.AEg 0 (Aj x)).next=h.next+1:=rfl;have m:=w.ext a q;generalize h.AEg 0 (Aj x)=e at p q g u m;have t:∀K:List xU->R,BM e 6 (.slice (BY ⟨h.next,0,By⟩) 1 1) 1 K=K (Aj x):=λK=>g.AGd (es:=6) (off:=0) (n:=1) (by show 0+1 * 6<=6;omega)
  obtain⟨j,b,c,d,i,_⟩:=E4 (eb:=64) (en:=124) p m t rfl rfl (by omega) (HG l) (by omega);refine⟨j,_,b,c,.inr ⟨e.next,rfl,?_,by omega,by have:=a.big;omega⟩,by omega⟩;show j.Row e.next 125 (Aj x++[]);rw[yF];exact d
theorem Fx.fresh{S:Nat->Prop}{h e h2:Hp}{b:Nat}(a:Fx S h e)(x:Fx (λi=>i=b) e h2)(l:h.next<=b):Fx S h h2:=
 ⟨yS a.next x.next,λi c g=>by
  have:=a.next;rw[x.get i (by omega) (by omega),a.get i c g],x.wf,λd j f k=>x.low d (a.low d j f k) (yS f a.next) λi c=>by rw[c];omega⟩
theorem X0{z:Kt}:∀{B A:List Kt},z∈srt A B↔z∈A\/z∈B
 |[],A=>by simp[srt]
 |x::B,A=>by
  show z∈srt (HL A x) B↔_;rw[X0,SI,yC];constructor
  ·rintro ((h|h)|h)
   ·exact .inr (.inl h)
   ·exact .inl h
   ·exact .inr (.inr h)
  ·rintro (h|h|h)
   ·exact .inl (.inr h)
   ·exact .inl (.inl h)
   ·exact .inr h
theorem Xz:∀(B A:List Kt),(srt A B).length=A.length+B.length
 |[],A=>rfl
 |x::B,A=>by
  show(srt (HL A x) B).length=_;rw[Xz,NU,xh];omega
theorem La{z:Kt}{ks:List Kt}:z∈EH ks↔z∈ks:=by
 unfold EH;rw[X0,<- yO,zi]
theorem Pf(ks:List Kt):(EH ks).length=ks.length:=by
 unfold EH;rw[Xz,yP,yX];omega
theorem Sl.lst{f:List Kt}{bl:Nat}{q:List xU}(s:Sl h A T M c0 arm ks fr lv fv bad ov)(l:h.Wf)(x:Fx (λb=>b=bl) h h')(z:¬A.D bl)(j:h.Row bl 125 q)(y:h'.KS (λb=>¬A.D b) lv f)(o:∀k∈f,k∈ks)(w:f.length=ks.length):Sl h' A T M c0 arm f fr lv fv bad ov:=by
 have e:∀b a c,b≠bl->h.Row b a c->h'.Row b a c:=λb a c n d=>x.row l d n
 have nb:∀b a c,(a=0\/a=6\/a=4)->h.Row b a c->b≠bl:=λb a c u d=>FZ d j (by omega)
 refine⟨e _ _ _ (nb _ _ _ (.inl rfl) s.row) s.row,s.dk.fr l x (nb _ _ _ (.inl rfl) s.dk.disk) (nb _ _ _ (.inl rfl) s.dk.med) (λh=>(KH j s.dk.map) h.symm),e _ _ _ (nb _ _ _ (.inl rfl) s.tab) s.tab,s.tok,y,λg p=>⟨(s.ko g (o g p)).1.keep λb a c n u d=>e b a c (nb b a c (by omega) d) d,(s.ko g (o g p)).2⟩,?_,s.ne,by rw[w];exact s.le⟩;rcases s.fs with i|⟨b,a,i,m,r,t⟩
 ·exact .inl i
 ·exact .inr ⟨b,a,i,e _ _ _ (nb b a _ (by omega) m) m,r,t⟩
theorem dr(G:h.Wf)(s:Sl h A T M c0 arm ks (p::fr) lv fv bad IT){a b c:Int}{l:List Nat}{u:xU}(i6:h.VE u (l.map bv))(f:∀x∈l,x<256)(hl:l.length<=100)
  (hr:AEz a b c 1 l.length=IN)(hf:ks.any (BL a b c)=IT)(q3:CA a b c ks=IT)(t9:ks.length<=10)(ha:CL arm (k+10)):
  ∃h' c1 g0 E K k',call AC (m+8) 54 [pt A.bs,AI AT a,AI AT b,AI AT c,u] h=.ok (AI AT 0) h'/\Fx A.D h h'/\
   Sl h' A T (EM T M p l (AFA T a b c 1 l)) c1 g0 (EH (ks++[k'])) fr E K bad IT/\k'.core=⟨a,b,c,1,l,p⟩/\CL g0 k/\∀b,AE1 k'.u b->h.next<=b:=by
 have big:=G.big;have hD:=s.AHJ G;have j6:3*p+3<=A.n:=s.le.2.2.2 p xp;have hn:=s.dk.n1;have hH:=Gt (T:=T) hr;have j2:=NQ (T:=T) (a:=a) (b:=b) (c:=c) (s:=1) (l:=l);have i7:iNe 0 0=IT:=B0 rfl;have k0:=ON (m:=m+6) s.row;obtain⟨g,y,k1,V,b2⟩:=On (n:=m+6) G i6 (by omega);have oc:=b2.one;have bl:=λ(F:AEh) (e:Env) (j:J 1 e=AI AT a) (d:J 2 e=AI AT b) (e3:J 3 e=AI AT c) (e4:J 28 e=y)=>RF (F:=F) (h:=g) (g1:=J 1) (g2:=J 2) (g3:=J 3) (g5:=J 28) j d e3 e4 oc.1 oc.2.2
 have al:=λ(F:AEh) (e:Env)=>BO (F:=F) (e:=e) V.wf (n:=5) (t:=DV)
 have Ra:=Hp.Row.alloc V.wf Fg (show(A9 0 0 0 0 AEk).length=5 from rfl);have y2:g.Ext (g.push (.cells DV 5 0)):=(Hp.Ext.refl V.wf).push _;have n2:(g.push (.cells DV 5 0)).next=g.next+1:=rfl;generalize g.push (.cells DV 5 0)=B at al Ra y2 n2;obtain⟨st,_,y3,d3,n3⟩:=MA V.wf y2 (xW _) Ra rfl (a:=a) (b:=b) (c:=c) (s:=1) (u:=y) oc.2.1;generalize B.wr g.next 0 (A9 a b c 1 y)=h3 at st y3 d3 n3;have x3:=V.trans y3;obtain⟨_,_,_,_,_,m2⟩:=Bw d3;have r8:∀H,AFB y H=.ok (AI AT (l.length:Int)) H:=λH=>b2.vals.bl H
 have k4:=KG (n:=m+6) x3.wf (a:=a) (b:=b) (c:=c) (s:=1) (u:=y) r8;rw[hr]at k4;have y4:=(Hp.Ext.refl x3.wf).AEg 0 (A9 a b c 1 y);generalize h3.AEg 0 (A9 a b c 1 y)=h4 at k4 y4;have x4:=x3.trans y4;have f4:∀H:Hp,AFB u H=.ok (AI AT (l.length:Int)) H:=λH=>i6.bl H
 obtain⟨_,_,l2,_⟩:=BK (s.row.ext G x4);have c1:iGt (l.length:Int) 100=IT:=FW (by omega);have s4:=s.ext G x4;obtain⟨h5,k5,x5⟩:=GJ (m:=m+4) x4.wf s4.row s4.ls.ks (by omega) a b c;have p9:Fu (BL a b c) 0 ks= -1:=by
  rcases QN (BL a b c) ks 0 with ⟨_,B⟩|⟨g,_⟩
  ·exact B
  ·rw[hf]at g;cases g
 rw[p9]at k5;have c2:iGe (-1) 0=IT:=EX (by omega);have c8:=x4.trans x5;have s5:=s.ext G c8;obtain⟨q,k6,x6⟩:=G6 (m:=m+3) c8.wf s5.row s5.ls.ks (by omega) a b c;rw[q3]at k6;have W:=c8.trans x6;have s6:=s.ext G W;obtain⟨_,l1,_,_,l4,_⟩:=BK s6.row;have j3:(ints .i64 ((p::fr).map zZ)).length=fr.length+1:=by unfold ints;rw[xa,xa];rfl
 have k3:=s6.fs.vals.len;rw[j3]at k3;have c3:iEq ((fr.length+1:Nat):Int) 0=IT:=CF (by omega);obtain⟨af,g1,g2⟩:=s6.fs.vals.at (i:=0) (by rw[j3];omega);have g1:AFV 1 fv (AI AT 0) q=.ok (.pointer (BY af)) q:=g1;have g2:I7 (.pointer (BY af)) q=.ok (AI AT (p:Int)) q:=g2;have s2:∃j,OU (call AC (m+7)) (Au e0 0 [pt A.bs,AI AT a,AI AT b,AI AT c,u]) h=prB (call AC (m+7)) j q/\J 0 j=pt A.bs/\J 4 j=u/\J 12 j=pt g.next/\J 14 j=AI AT (p:Int):=by
  unfold OU;simp only[iN,xV,sT,xT,sh,reduceIte,gD,cA0,k0,AK,AJ,i7,k1,bl,al,AW,st,An,Ah,m2,k4,BJ,BI,yY,AX,f4,Ax,Am,AH,AO,xZ,AN,AQ,l2,c1,k5,c2,k6,l4,k3,c3];rw[BA];simp only[sT,xT,sh,reduceIte,g1,AN,g2];exact⟨_,rfl,by simp[AG]⟩
 obtain⟨j,p1,t0,t4,t12,t14⟩:=s2;have f9:=W.marked;have n0:q.marked.Row g.next 0 (A9 a b c 1 y):=(((d3.ext x3.wf y4).ext x4.wf x5).ext c8.wf x6).same rfl;obtain⟨_,_,_,_,_,g4⟩:=Bw n0;obtain⟨_,k2,_⟩:=BK (s.row.ext G f9);have s1:VcI q.marked h.next y l:=((b2.ext V.wf y3).ext x3.wf ((y4.trans x5).trans x6)).same rfl;obtain⟨h7,x7,hd⟩:=XC (n:=m+4) f9.quiet.wf ((s.tab.ext G f9).same (h':=q.marked.quiet) rfl) s.tok (a:=a) (b:=b) (c:=c) (s:=1) ((s1.vals).same (h':=q.marked.quiet) rfl) f (by omega) (by omega);rcases hd with ⟨_,vh,k7,s0⟩|⟨j7,_⟩
 case inr=>rw[hr]at j7;cases j7
 have q7:∀e:Env,J 83 e=pt A.tb->J 84 e=Bn a b c 1 y->Ac .free (AS 95 [J 83,J 84]) (call AC (m+7)) e q.marked=.ok (.tuple ⟨[vh,AI AT 0]⟩) (q.marked.back h7):=λe j d=>by
  refine BF ?_;rw[BX,AV,AV,A4,j,d];exact k7
 have y8:q.Ext (q.marked.back h7):=(Hp.Ext.refl W.wf).marked.trans (.back x7);have g8:Mk (q.marked.back h7) q.next vh (AFA T a b c 1 l):=s0.same rfl;generalize q.marked.back h7=w at q7 y8 g8;have S:=W.trans y8;have c9:∀H:Hp,q.Ext H->H.Row g.next 0 (A9 a b c 1 y):=λH x=>((((d3.ext x3.wf y4).ext x4.wf x5).ext c8.wf x6)).ext W.wf x
 have m3:∃d P X O,prB (call AC (m+7)) j q=prC (call AC (m+7)) d P/\J 0 d=pt A.bs/\J 12 d=pt g.next/\J 14 d=AI AT (p:Int)/\J 15 d=vh/\J 17 d=X/\w.Ext P/\CZ P A w.next X O/\((l≠[]/\O=Kf p l)\/(l=[]/\O=[])):=by
  rcases yl l.length with hz|hz
  ·have q0:l=[]:=zA hz
   have c4:iGt (l.length:Int) 0=IT:=FW (by omega);have f3:∃d,prB (call AC (m+7)) j q=prC (call AC (m+7)) d w/\J 0 d=pt A.bs/\J 12 d=pt g.next/\J 14 d=AI AT (p:Int)/\J 15 d=vh/\J 17 d=AEk:=by
    rw[dp];unfold kY;simp only[sT,xT,sh,reduceIte,Aw,Ax,t0,Am,AH,AO,xZ,AN,AQ,k2,An,Ah,t12,g4,q7,Aq,Az,A1,AX,t4,f4,AK,AJ,c4];exact⟨_,rfl,by simp[AG,t0,t12,t14]⟩
   obtain⟨d,r1,u0,c5,b4,c6,c7⟩:=f3;exact⟨d,w,AEk,[],r1,u0,c5,b4,c6,c7,.refl S.wf,⟨[],.inl ⟨rfl,rfl⟩,rfl,λi u8 x hw _=>by cases hw⟩,.inr ⟨q0,rfl⟩⟩
  ·have c4:iGt (l.length:Int) 0=IN:=GM (by omega)
   have n1:Mk g h.next y l:=by
    rcases b2 with ⟨_,B⟩|B
    ·rw[B]at hz;exact absurd hz (ABc 0)
    ·exact B
   have l8:=S.marked;have t2:=s.ext G l8;have k9:=Oi (m:=m+5) (t2.row.same (h':=w.marked.quiet) rfl) (p:=p) (by omega);have q9:∀e:Env,J 0 e=pt A.bs->J 14 e=AI AT (p:Int)->Ac .weak (AS 97 [J 0,J 14]) (call AC (m+7)) e w.marked=.ok (AI AT ((p*3:Nat):Int)) (w.marked.back w.marked.quiet):=λe j d=>by
    refine IF l8.wf ?_ (xW _);rw[BX,AV,AV,A4,j,d];exact k9
   have y9:w.Ext (w.marked.back w.marked.quiet):=Hp.Ext.AFp (Hp.Ext.refl S.wf).marked (Hp.Ext.refl S.wf).marked.quiet;have n9:(w.marked.back w.marked.quiet).next=w.next:=rfl;have m9:(w.marked.back w.marked.quiet).mark=w.next:=rfl;generalize w.marked.back w.marked.quiet=D at q9 y9 n9 m9;have x9:=S.trans y9;have ad:=Cc (h:=D) (i:=p * 3) (by omega);obtain⟨_,_,_,_,n4,_⟩:=Bw (c9 D (y8.trans y9));have n5:g.next<D.mark:=by
    rw[m9];have:=(c9 w y8).lt S.wf;exact this
   have n6:∀(off:Nat) (kk:C) (F:AEh) (e:Env),Ir (.pointer (BY ⟨g.next,off,By⟩)) kk F e D=kk F e D:=λoff kk F e=>Df n5
   have s9:=s.ext G x9;have r9:Mk D h.next y l:=(((n1.ext V.wf y3).ext x3.wf ((y4.trans x5).trans x6)).ext W.wf (y8.trans y9));obtain⟨d4,X,q4,t3,D1⟩:=Ld (m:=m+6) x9.wf.quiet (s9.row.same (h':=D.quiet) rfl) (λb f=>by have:=hD b f;have:=x9.next;show b<D.next;omega) (sct:=p*3+1) (by omega) (r9.same (h':=D.quiet) rfl) (by omega);have l5:∀e:Env,J 0 e=pt A.bs->J 95 e=AI AT ((p*3+1:Nat):Int)->J 97 e=y->Ac .free (AS 96 [J 0,J 95,J 97]) (call AC (m+7)) e D=.ok X (D.back d4):=λe j d e3=>by
    refine BF ?_;rw[BX,AV,AV,AV,A4,j,d,e3];exact q4
   have l9:D.Ext (D.back d4):=.back t3;have d1:CZ (D.back d4) A D.next X (Kf p l):=D1.same rfl;generalize D.back d4=P at l5 l9 d1;have f3:∃d,prB (call AC (m+7)) j q=prC (call AC (m+7)) d P/\J 0 d=pt A.bs/\J 12 d=pt g.next/\J 14 d=AI AT (p:Int)/\J 15 d=vh/\J 17 d=X:=by
    rw[dp];unfold kY;simp only[sT,xT,sh,reduceIte,Aw,Ax,t0,Am,AH,AO,xZ,AN,AQ,k2,An,Ah,t12,g4,q7,Aq,Az,A1,AX,t4,f4,AK,AJ,c4,q9,t14,BW,ad,ED,n6,DQ,n4,l5];exact⟨_,rfl,by simp[AG,t0,t12,t14]⟩
   obtain⟨d,r1,u0,c5,b4,c6,c7⟩:=f3;exact⟨d,P,X,Kf p l,r1,u0,c5,b4,c6,c7,y9.trans l9,by rw[<- n9];exact d1,.inl ⟨λh=>by rw[h]at hz;exact absurd hz (ABc 0),rfl⟩⟩
 obtain⟨d,P,X,O,r1,u0,c5,b4,c6,c7,a8,d1,f2⟩:=m3;have b5:=S.trans a8;have s11:=s.ext G b5;have hd3:O.length<=3:=by
  rcases f2 with ⟨_,rfl⟩|⟨_,rfl⟩
  ·unfold Kf
   rw[xY,xa,ABh];show _+1<=3;omega
  ·exact yH _
 have q5:=Oi (m:=m+5) s11.row (p:=p) (by omega);have m4:Mk P q.next vh (AFA T a b c 1 l):=(g8.ext S.wf a8);obtain⟨j0,p5,q6,b6,D2⟩:=Ld (m:=m+6) b5.wf s11.row (λb f=>by have:=hD b f;have:=b5.next;omega) (sct:=p*3) (by omega) m4 (by omega);rw[hH,show(zP ((64+63)/64)).map (λj8=>AFY.w (p*3+j8) (DB (AFA T a b c 1 l) j8))++[.f]=GZ p (DB (AFA T a b c 1 l) 0)from rfl,RH hH]at D2;have n7:=b5.trans b6;obtain⟨d5,p6,q8,a5,D3,u3,g9⟩:=CZ.app n7 (by have:=S.next;omega) (by have:=a8.next;have:=b6.next;omega) (d1.ext b5.wf b6) D2 (by show 0<2;omega) (by
  show _+2<=1000;omega)
 have s13:=s.ext G a5;obtain⟨vs,w1,w2,w3⟩:=D3.ends λb f=>by have:=hD b f;have:=S.next;omega
 have t8:(O++GZ p (AFA T a b c 1 l)).length<=6:=by
  rw[xY];show _+2<=6;omega
 have q1:Fb A.n [] (O++GZ p (AFA T a b c 1 l)):=by
  rcases f2 with ⟨h0,rfl⟩|⟨_,rfl⟩
  ·exact kF j6 ⟨by rcases l with _|⟨_,_⟩;exact absurd rfl h0;exact Nat.succ_pos _,hl⟩ f hH j2
  ·exact Xc j6 hH j2
 obtain⟨b1,b7,a7,r0,Q,i8,ea⟩:=To (m:=m+2) a5.wf s13.row s.nK s13.dk w1 w2 w3 q1 (ha.le (by omega)) (by omega);have p8:(G5 M [] (O++GZ p (AFA T a b c 1 l))).2=[]:=by
  have:O++GZ p (AFA T a b c 1 l)=(O++[.w (p*3) (AFA T a b c 1 l)])++[.f]:=by rw[yD];rfl
  rw[this];exact N5 _ _ _
 have hM:(G5 M [] (O++GZ p (AFA T a b c 1 l))).1=EM T M p l (AFA T a b c 1 l):=by
  rcases f2 with ⟨_,rfl⟩|⟨h0,rfl⟩
  ·rfl
  ·rw[h0];rfl
 rw[p8,hM]at i8;have s14:Sl b1 A T (EM T M p l (AFA T a b c 1 l)) b7 a7 ks (p::fr) lv fv bad IT:=(s13.sc.fx a5.wf Q).sl i8;have p3:CL a7 k:=by rw[ea];exact Hx _ k arm (ha.le (by omega))
 obtain⟨_,_,_,u2,r7,_⟩:=BK s14.row;obtain⟨wc,Vc,ct⟩:=gq (xs:=ints .i64 (fr.map zZ)) (z:=AI AT (p:Int)) s14.fs;have q2:Bc (ints .i64 (fr.map zZ))=IN:=Hn .i64 _;obtain⟨f1,K,r2,I,i0⟩:=px (n:=m+6) Q.wf Vc q2 (by have:=s.le.2.1;unfold ints;rw[xa,xa];rw[xh]at this;omega);have s15:=s14.ext Q.wf I;have l0:cellsOf K=[K]/\oneCell K=IN:=by
  rcases i0 with ⟨g,_⟩|⟨b,el,g,_⟩<;>rw[g]<;>exact⟨rfl,rfl⟩
 obtain⟨r,n8,e8,u4,R,_⟩:=Ei I.wf s15.row (off:=4) (show 4<7 by omega) s.ne.2.2.2.2 l0.1 l0.2;have g6:∀b,A.D b->b<b1.next:=λb f=>by have:=hD b f;have:=a5.next;have:=Q.next;omega
 have e8:r.Row A.bs 0 (slL A.bd A.tb lv K bad IT):=e8;have a0:∀b,¬A.D b->b≠A.bs:=λb f h=>f (.inl h)
 have b3:Sl r A T (EM T M p l (AFA T a b c 1 l)) b7 a7 ks fr lv K bad IT:=s15.bsx I.wf R e8 (s15.ls.keep λb el d2 f U=>R.row I.wf U (a0 b f)) (λk hk=>⟨(s15.ko k hk).1.keep λb el d2 f _ U=>R.row I.wf U (a0 b f),(s15.ko k hk).2⟩)
  (by
   rcases i0 with g|⟨b,el,g,B,h3,h4⟩
   ·exact .inl g
   ·have f:¬A.D b:=λh=>by have:=g6 b h;omega
    exact .inr ⟨b,el,g,R.row I.wf B (a0 b f),h3,f⟩) ⟨s.le.1,by have:=s.le.2.1;rw[xh]at this;omega,s.le.2.2.1,λs3 hq=>s.le.2.2.2 s3 (xn _ hq)⟩
 have b0:=R.wf;have d0:=(Hp.Ext.refl b0).marked;have i1:=b3.ext b0 d0;obtain⟨_,_,_,r5,_⟩:=BK i1.row;obtain⟨b8,f8,r3,l7,o0⟩:=WN (m:=m+6) d0.quiet.wf ((i1.same (h':=r.marked.quiet) rfl).ls) (λk hk=>(b3.ko k hk).1.vs.one.2.1) (by omega);have l6:∀e:Env,J 125 e=lv->Ac .weak (AS 100 [J 125]) (call AC (m+7)) e r.marked=.ok f8 (r.marked.back b8):=λe he=>by
  refine Cq ?_ l7 (xW _);rw[BX,AV,A4,he];exact r3
 have L:r.Ext (r.marked.back b8):=Hp.Ext.AFp d0 (d0.quiet.trans l7);have i2:(r.marked.back b8).KN r.next f8 ks:=o0.same rfl;have f5:(r.marked.back b8).mark=r.next:=rfl;generalize r.marked.back b8=o at l6 L i2 f5;have t6:g.next<q.next:=(c9 q (.refl W.wf)).lt W.wf;have u1:q.next<=d5.next:=by
  have a1:=y8.next;have a2:=a8.next;have a4:=b6.next;omega
 have i3:¬A.D g.next:=λh=>by have:=hD _ h;have:=V.next;omega
 have m5:=g9 _ _ _ (.inl rfl) (c9 j0 ((y8.trans a8).trans b6));have o1:=cZ i3;have m6:=Q.row a5.wf m5 o1;have g7:=R.row I.wf (m6.ext Q.wf I) (a0 _ i3);obtain⟨_,_,_,_,_,o2⟩:=Bw (g7.ext b0 L);have m7:∀(off:Nat) (kk:C) (F:AEh) (e:Env),Ir (.pointer (BY ⟨g.next,off,By⟩)) kk F e o=kk F e o:=λoff kk F e=>Df (by
  rw[f5];exact g7.lt b0)
 generalize d9:(⟨a,b,c,1,l,p,y⟩:Kt)=k';have o3:∀(F:AEh) (e:Env),J 127 e=Bn a b c 1 y->J 14 e=AI AT (p:Int)->BG EA.zero [(0,5,J 127),(5,1,J 14)] F e o=.ok (ktV k') o:=λF e j d=>by rw[<- d9];exact WA j d
 have j4:k'.u=y:=by rw[<- d9]
 have qs:∀(F:AEh) (e:Env),J 129 e=ktV k'->Ac .AEv (Ab 1 (BP EA.zero 1) [(0,6,J 129)]) F e o=.ok (.slice (BY ⟨o.next,0,By⟩) 1 1) (o.back (o.quiet.AEg 0 (Aj k'))):=λF e he=>Cq (cR L.wf.quiet he) ((Hp.Ext.refl L.wf.quiet).AEg _ _) (by rw[f5];exact L.next)
 have i4:=L.next;have xX:r.Ext (⟨o.next,o.next+1,0,o.mark,o.bl⟩:Hp):=⟨i4,L.get,by show _<=o.next+1;omega,⟨L.wf.big,L.wf.has,L.wf.fresh⟩⟩;obtain⟨d6,E,r4,t5,o4,u5⟩:=jJ (k:=r.next) xX (xW _) i4 (i2.same (h':=⟨o.next,o.next+1,0,o.mark,o.bl⟩) rfl) (x:=k') (by rw[j4];exact oc.2.1) (by omega);have f6:∀(F:AEh) (e:Env),J 126 e=f8->J 130 e=.slice (BY ⟨o.next,0,By⟩) 1 1->Ac .free (Bk 6 64 124 (J 126) (J 130)) F e (o.back (o.quiet.AEg 0 (Aj k')))=.ok E ((o.back (o.quiet.AEg 0 (Aj k'))).back d6):=λF e j d=>by
  refine BF ?_;rw[Bb,j,d];exact r4
 have N:r.Ext ((o.back (o.quiet.AEg 0 (Aj k'))).back d6):=Hp.Ext.AFp (Hp.Ext.AFp L (L.quiet.AEg _ _)) t5;have a9:((o.back (o.quiet.AEg 0 (Aj k'))).back d6).KO r.next E (ks++[k']):=o4.same rfl;generalize o.back (o.quiet.AEg 0 (Aj k'))=p7 at qs f6 N a9;generalize p7.back d6=j1 at f6 N a9;have b9:=b3.ext b0 N;have l3:cellsOf E=[E]/\oneCell E=IN:=⟨a9.lst.one.1,a9.lst.one.2.1⟩;obtain⟨a6,o5,e9,u6,_,Y,_⟩:=NK N.wf b9.row (off:=3) (show 3<7 by omega) s.ne.2.2.2.2 l3.1 l3.2;have e9:a6.Row A.bs 0 (slL A.bd A.tb E K bad IT):=e9;have f0:∀b,A.D b->b<r.next:=λb f=>by have:=g6 b f;have:=I.next;have:=R.next;omega
 have i5:a6.KO r.next E (ks++[k']):=a9.keep λb el d2 f U=>Y.row N.wf U (λh=>by
  have:=(a9.blk N.wf f).1;have:=f0 A.bs (.inl rfl);omega)
 have p4:a6.BS (λb=>¬A.D b) y (l.map bv):=by
  have o6:=(((b2.ext V.wf y3).ext x3.wf ((y4.trans x5).trans x6)).ext W.wf (y8.trans a8)).ext b5.wf b6;rcases o6 with ⟨j,d⟩|⟨bq,eq,j,d,e3,e4⟩
  ·exact .inl ⟨j,by rw[d];rfl⟩
  ·have d8:¬A.D bq:=λh=>by have:=hD _ h;omega
   have s7:=g9 _ _ _ d e3;have s8:=R.row I.wf ((Q.row a5.wf s7 (cZ d8)).ext Q.wf I) (a0 _ d8);exact .inr ⟨bq,0,l.length,eq,_,by rw[xa];exact j,by rw[xa];exact xW _,Y.row N.wf (s8.ext b0 N) (a0 _ d8),by omega,by rw[yk,yz],d8,d⟩
 have f7:Sl a6 A T (EM T M p l (AFA T a b c 1 l)) b7 a7 (ks++[k']) fr E K bad IT:=b9.bsx N.wf Y e9 (by
   refine Hp.KW.ks ?_;rcases i5 with ⟨g,B⟩|⟨b,g,B,h3,_⟩
   ·exact .inl ⟨g,B⟩
   ·exact .inr ⟨b,g,B,λh=>by have:=f0 b h;omega⟩) (λx hx=>by
   rcases yO.1 hx with hx|hx
   ·exact⟨(b9.ko x hx).1.keep λb el d2 f _ U=>Y.row N.wf U (a0 b f),(b9.ko x hx).2⟩
   ·rw[yG.1 hx,<- d9]
    exact⟨p4,f,hl,.inl rfl,hr,by show p<65536;omega⟩)
  (b9.fs.keep λb el d2 f U=>Y.row N.wf U (a0 b f)) ⟨by rw[xY];show ks.length+1<=1000;omega,b3.le.2.1,b3.le.2.2.1,b3.le.2.2.2⟩
 have m0:k'.core=⟨a,b,c,1,l,p⟩:=by rw[<- d9];rfl
 obtain⟨_,_,_,r6,_⟩:=BK f7.row;obtain⟨bl,j5,Rl,t7,m1⟩:∃bl,E=.slice (BY ⟨bl,0,By⟩) (ks++[k']).length (ks++[k']).length/\a6.Row bl 125 (flK (ks++[k']))/\r.next<=bl/\256<=bl:=by
  rcases i5 with ⟨_,B⟩|B
  ·have:=congrArg AAC B
   simp at this
  ·exact B
 have k8:¬A.D bl:=λh=>by have:=f0 bl h;omega
 obtain⟨d7,j9,i9,p2⟩:=eX (m:=m+1) (Z:=[]) (n:=(ks++[k']).length) (c:=(ks++[k']).length) Y.wf (by rw[yF];exact Rl) m1 rfl (xW _) (by rw[xY];show ks.length+1<=12;omega) λk hk=>(f7.ko k hk).1.vs.one.2.1
 rw[<- j5]at j9;have t1:Sl d7 A T (EM T M p l (AFA T a b c 1 l)) b7 a7 (EH (ks++[k'])) fr E K bad IT:=f7.lst Y.wf i9 k8 Rl (by
  rw[j5,<- Pf];exact(Qr p2 rfl (xW _)).mono λb f=>by rw[show b=bl from f];exact k8) (λk hk=>(La).1 hk) (Pf _)
 have fx:Fx A.D h d7:=by
  have j:Fx A.D h d5:=.of a5;have d:Fx A.D d5 b1:=Q.mono λb f=>.inr f
  have e3:Fx A.D b1 f1:=.of I;have e4:Fx A.D f1 r:=R.mono λb f=>.inl f
  have e5:Fx A.D r j1:=.of N;have e6:Fx A.D j1 a6:=Y.mono λb f=>.inl f
  have e7:=((((j.trans d).trans e3).trans e4).trans e5).trans e6;have a1:=a5.next;have a2:=Q.next;have a3:=I.next;have a4:=R.next;exact e7.fresh i9 (by omega)
 refine⟨d7,b7,a7,E,K,k',?_,fx,t1,m0,p3,λb f=>?_⟩;rotate_left
 ·rw[j4]at f
  obtain⟨u7,n,c,e⟩:=f;rcases b2 with ⟨j,_⟩|⟨bq,eq,j,_,_,e4⟩
  ·rw[j]at e;cases e
  ·rw[j]at e
   injection e with e
   injection e with e
   injection e with e
   omega
 rw[JE rfl,JJ,p1,r1];unfold prC;have o7:call AC (m+7) 97 [pt A.bs,AI AT (p:Int)] P=.ok (AI AT ((p*3:Nat):Int)) P:=q5;have o8:call AC (m+7) 96 [pt A.bs,AI AT ((p*3:Nat):Int),vh] P=.ok p5 j0:=q6;have m8:call AC (m+7) 98 [pt A.bs,p6] d5=.ok (AI AT 0) b1:=r0;have o9:call AC (m+7) 99 [wc] b1=.ok K f1:=r2;have p0:call AC (m+7) 70 [E,.func (.func 71) ⟨[]⟩ ⟨[]⟩] a6=.ok AEl d7:=j9;simp only[sT,xT,sh,reduceIte,cA0,u0,b4,o7,c6,o8,Bb,c7,q8,m8,AK,AJ,i7,Ax,Am,AH,AO,xZ,AN,AQ,r7];rw[ct _ _ _ (by simp[AG])];simp only[sT,xT,sh,reduceIte,cA0,u0,o9,Ax,Am,AH,AO,xZ,AW,n8,Aw,AN,AQ,r5,l6,c5,ED,m7,DQ,An,Ah,o2,b4,o3,qs,f6];rw[o5 _ _ _ _ (by simp[AG]) (by simp[AG])];simp only[sT,xT,sh,reduceIte,u0,Ax,Am,AH,AO,xZ,AN,AQ,r6,cA0,p0,lV0]
end
theorem qA:cmS=BB (AY 1 (A3 cmL)) cmE:=rfl
theorem py:cmB=pz:=rfl
theorem M9:d55=QA:=rfl
section
variable {F:AEh}{e:Env}{h h':Hp}{S:Nat->Prop}{A:At}{T M:List Nat}{c0 bad m k p:Nat}{arm:Int}{ks:List Kt}{fr:List Nat}{v lv fv:xU}
theorem aQ(W:h.Wf)(s:Sl h A T M c0 arm ks fr lv fv bad IT){j:Nat}{kx:Kt}(hj:ks[j]? =BY kx)(hs1:kx.s=1){a b c:Int}(hf:Fu (BL a b c) 0 ks=(j:Int))(AFl:kx.a=a/\kx.b=b/\kx.c=c)(hst:CA a b c ks=IT)(hp3:3*kx.p+3<=A.n)(hkl:ks.length<=1000)(ha:CL arm (k+5)):
  ∃h' c1 AFF lv' e2,QA (call AC (m+7)) (Au e0 0 [pt A.bs,AI AT a,AI AT b,AI AT c]) h=cmS (call AC (m+7)) e2 h'/\J 0 e2=pt A.bs/\J 1 e2=AI AT a/\J 2 e2=AI AT b/\J 3 e2=AI AT c/\J 15 e2=AEk/\J 16 e2=AI AT ((0:Nat):Int)/\Fx A.D h h'/\
   Sl h' A T (Hg M kx.p (AFA T a b c 2 kx.l)) c1 AFF (ks.set j {kx with s:=2}) fr lv' fv bad IT/\CL AFF k:=by
 have big:=W.big;have hD:=s.AHJ W;have hn:=s.dk.n1;have hjl:=(yN.1 hj).1;have hkm:=xy hj;obtain⟨o1,o2,o3,o4,o5,o6⟩:=s.ko kx hkm;obtain⟨rfl,rfl,rfl⟩:=AFl;have oc:=o1.vs.one;have c00:iNe 0 0=IT:=B0 rfl;have k0:=ON (m:=m+6) s.row;obtain⟨h1,k1,x1⟩:=GJ (m:=m+4) W s.row s.ls.ks (by omega) kx.a kx.b kx.c;rw[hf]at k1;have c1:iGe (j:Int) 0=IN:=GL (by omega);have s1:=s.ext W x1;obtain⟨_,_,_,l3,_⟩:=BK s1.row;obtain⟨bb,_,ix,ld,lde⟩:=s1.ls.ks.at hj;have lst:=lde 3 (.int .u8 (kx.s:Int)) rfl;have c2:iEq (kx.s:Int) 2=IT:=CF (by omega);obtain⟨h2,k2,x2⟩:=G6 (m:=m+3) x1.wf s1.row s1.ls.ks (by omega) kx.a kx.b kx.c;rw[hst]at k2;have x12:=x1.trans x2;have s2:=s.ext W x12;have c3:iLt (j:Int) 0=IT:=FI (by omega);obtain⟨_,_,_,l3',_⟩:=BK s2.row;obtain⟨bb2,_,ix2,ld2,_⟩:=s2.ls.ks.at hj;have al:=λ(F:AEh) (e:Env)=>BO (F:=F) (e:=e) x12.wf (n:=6) (t:=C1)
 have Ra:=Hp.Row.alloc x12.wf GB (show(Aj K0).length=6 from rfl);have y3:h2.Ext (h2.push (.cells C1 6 0)):=(Hp.Ext.refl x12.wf).push _;have n3:(h2.push (.cells C1 6 0)).next=h2.next+1:=rfl;generalize h2.push (.cells C1 6 0)=h3 at al Ra y3 n3;obtain⟨st,_,y4,R11,n4⟩:=N0 x12.wf y3 (xW _) Ra rfl (k:=kx) oc.2.1;generalize h3.wr h2.next 0 (Aj kx)=h4 at st y4 R11 n4;have AEs:256<=h2.next:=by have:=x12.next;omega
 obtain⟨h5,st5,R5,n5,f5,e5⟩:=Ei y4.wf R11 (off:=3) (show 3<6 by omega) AEs (v:=.int .u8 2) rfl rfl;have y5:=e5 h2 y4 (xW _);generalize hkx:({kx with s:=2}:Kt)=X;have R5:h5.Row h2.next 0 (Aj X):=by rw[<- hkx];exact R5
 have x5:=x12.trans y5;have pre:∃e1,QA (call AC (m+7)) (Au e0 0 [pt A.bs,AI AT kx.a,AI AT kx.b,AI AT kx.c]) h=cmB (call AC (m+7)) e1 h5/\J 0 e1=pt A.bs/\J 1 e1=AI AT kx.a/\J 2 e1=AI AT kx.b/\J 3 e1=AI AT kx.c/\J 10 e1=AI AT (j:Int)/\J 11 e1=pt h2.next:=by
  unfold QA;simp only[iN,xV,sT,xT,sh,reduceIte,gD,cA0,k0,AK,AJ,c00,k1,c1,Ax,Am,AH,AO,xZ,zQ,AN,AQ,l3,BA,ix,lst,c2,k2,c3,l3',ix2,An,Ah,ld2,al,AW,st,st5];exact⟨_,rfl,by simp[AG]⟩
 obtain⟨e1,p1,t0,t1,t2,t3,t10,t11⟩:=pre;have x5m:=x5.marked;have s5m:=s.ext W x5m;have R5m:h5.marked.Row h2.next 0 (Aj X):=R5.same rfl;obtain⟨_,_,_,_,_,_,_,ld5⟩:=Cd R5m;obtain⟨_,l1m,_⟩:=BK s5m.row;have hX:X.a=kx.a/\X.b=kx.b/\X.c=kx.c/\X.s=2/\X.u=kx.u/\X.l=kx.l/\X.p=kx.p:=by rw[<- hkx];exact⟨rfl,rfl,rfl,rfl,rfl,rfl,rfl⟩
 obtain⟨e6a,e6b,e6c,e6s,e6u,e6l,e6p⟩:=hX;rw[e6a,e6b,e6c,e6s,e6u]at ld5;have bsu:=(s5m.ko kx hkm).1;have hr2:AEz kx.a kx.b kx.c 2 kx.l.length=IN:=by
  obtain⟨g1,g2,g3,g4,g5,g6,g7,g8⟩:=Eb o5;exact decide_eq_true ⟨g1,g2,g3,g4,g5,g6,.inr rfl,g8⟩
 have hH:=Gt (T:=T) hr2;have hHb:=NQ (T:=T) (a:=kx.a) (b:=kx.b) (c:=kx.c) (s:=2) (l:=kx.l);obtain⟨h6,x6,hd⟩:=XC (n:=m+4) x5m.quiet.wf ((s5m.tab).same (h':=h5.marked.quiet) rfl) s.tok (a:=kx.a) (b:=kx.b) (c:=kx.c) (s:=2) (bsu.vs.vals.same (h':=h5.marked.quiet) rfl) o2 (by omega) (by omega);rcases hd with ⟨_,vh,k6,mkh⟩|⟨hrf,_⟩
 case inr=>rw[hr2]at hrf;cases hrf
 have q6:∀e:Env,J 65 e=pt A.tb->J 67 e=Bn kx.a kx.b kx.c 2 kx.u->Ac .free (AS 95 [J 65,J 67]) (call AC (m+7)) e h5.marked=.ok (.tuple ⟨[vh,AI AT 0]⟩) (h5.marked.back h6):=λe e1 e2=>by
  refine BF ?_;rw[BX,AV,AV,A4,e1,e2];exact k6
 have y7:h5.Ext (h5.marked.back h6):=(Hp.Ext.refl x5.wf).marked.trans (.back x6);have mk7:Mk (h5.marked.back h6) h5.next vh (AFA T kx.a kx.b kx.c 2 kx.l):=mkh.same rfl;generalize h5.marked.back h6=h7 at q6 y7 mk7;have x7:=x5.trans y7;have s7:=s.ext W x7;obtain⟨_,_,_,_,_,lp7,_⟩:=Cd (R5.ext x5.wf y7);rw[e6p]at lp7;have k7:=Oi (m:=m+5) s7.row (p:=kx.p) (by omega);obtain⟨h8,dv,k8,x8,D8⟩:=Ld (m:=m+6) x7.wf s7.row (λb hb=>by have:=hD b hb;have:=x7.next;omega) (sct:=kx.p * 3) (by omega) mk7 (by omega);rw[hH,show(zP ((64+63) / 64)).map (λj=>AFY.w (kx.p * 3+j) (DB (AFA T kx.a kx.b kx.c 2 kx.l) j))++[.f]=GZ kx.p (DB (AFA T kx.a kx.b kx.c 2 kx.l) 0)from rfl,RH hH]at D8;have x8':=x7.trans x8;have s8:=s.ext W x8';obtain⟨vs,w1,w2,w3⟩:=D8.ends λb hb=>by have:=hD b hb;have:=x7.next;omega
 obtain⟨h9,c9,AHN,k9,f9,d9,ea⟩:=To (m:=m+2) x8'.wf s8.row s.nK s8.dk w1 w2 w3 (Xc hp3 hH hHb) (ha.le (by show 2<=_;omega)) (by show 2<=100;omega);have d9:Dk h9 A.bd A.bm A.bc A.n (Hg M kx.p (AFA T kx.a kx.b kx.c 2 kx.l)) c9 [] AHN IT:=d9;have s9:Sl h9 A T (Hg M kx.p (AFA T kx.a kx.b kx.c 2 kx.l)) c9 AHN ks fr lv fv bad IT:=(s8.sc.fx x8'.wf f9).sl d9;have a9:CL AHN k:=by rw[ea];exact Hx _ k arm (ha.le (by show 2+k<=_;omega))
 have AJj:¬A.D h2.next:=λh=>by have:=hD _ h;have:=x12.next;omega
 have R9:=f9.row x8'.wf ((R5.ext x5.wf y7).ext x7.wf x8) (cZ AJj);obtain⟨_,_,_,l39,_⟩:=BK s9.row;have hu:∀k∈ks,oneCell k.u=IN:=λk hk=>(s9.ko k hk).1.vs.one.2.1
 obtain⟨h10,w10,k10,x10,AH9⟩:=UJ (m:=m+6) f9.wf s9.ls hu (λh=>by rw[h]at hjl;cases hjl) (by omega);have s10:=s9.ext f9.wf x10;obtain⟨h11,AGp,AHO,n11,f11,_⟩:=Ei x10.wf s10.row (off:=3) (show 3<7 by omega) s.ne.2.2.2.2 (v:=w10) AH9.lst.one.1 AH9.lst.one.2.1;have AHO:h11.Row A.bs 0 (slL A.bd A.tb w10 fv bad IT):=AHO;have nbs:∀b,¬A.D b->b≠A.bs:=λb hb h=>hb (.inl h)
 have AIu:∀b,A.D b->b<h9.next:=λb hb=>by have:=hD b hb;have:=x8'.next;have:=f9.next;omega
 have AJk:h11.KO h9.next w10 ks:=AH9.keep λb el L hb r=>f11.row x10.wf r (λh=>by
  have:=(AH9.blk x10.wf hb).1;have:=AIu A.bs (.inl rfl);omega)
 have s11:Sl h11 A T (Hg M kx.p (AFA T kx.a kx.b kx.c 2 kx.l)) c9 AHN ks fr w10 fv bad IT:=s10.bsx x10.wf f11 AHO (by
   refine Hp.KW.ks ?_;rcases AJk with ⟨h1,h2⟩|⟨b,h1,h2,h3,_⟩
   ·exact .inl ⟨h1,h2⟩
   ·exact .inr ⟨b,h1,h2,λh=>by have:=AIu b h;omega⟩) (λx hx=>⟨(s10.ko x hx).1.keep λb el L hb _ r=>f11.row x10.wf r (nbs b hb),(s10.ko x hx).2⟩) (s10.fs.keep λb el L hb r=>f11.row x10.wf r (nbs b hb)) s10.le
 have AIv:=f11.row x10.wf (R9.ext f9.wf x10) (nbs _ AJj);have W11:=f11.wf;have xm:=(Hp.Ext.refl W11).marked;have AKl:=s11.ext W11 xm;obtain⟨_,_,_,l3m,_⟩:=BK AKl.row;obtain⟨_,_,_,_,_,_,AKm,_⟩:=Cd (AIv.same (h':=h11.marked) rfl);rcases AJk with ⟨_,AIe⟩|⟨bl,hw,Rl,hbk,AGb⟩
 ·rw[AIe]at hjl;cases hjl
 have ixl:AFV 6 w10 (AI AT (j:Int)) h11.marked=.ok (.pointer (BY ⟨bl,6*j,By⟩)) h11.marked:=by
  rw[hw];have:=Cy (h:=h11.marked) (n:=ks.length) (c:=ks.length) (es:=6) (b:=bl) (off:=0) (i:=j) (k:=.i64) hjl
  rwa [xZ,zb]at this
 have Rq:h11.marked.quiet.Row bl 125 (flK ks):=Rl.same rfl;have hXu:oneCell X.u=IN:=by rw[e6u];exact oc.2.1
 have hoo:6*j+(Aj X).length<=(flK ks).length:=by rw[Cu];show 6*j+6<=_;omega
 have stq:=Rq.AEn (n:=6) (off:=6 * j) (v:=ktV X) xm.wf.quiet AGb rfl hoo (HG hXu);have wrq:=Rq.AEt xm.wf.quiet hoo;rw[QH ks j X hjl]at wrq;have fxq:=Fx.wr (S:=λb=>b=bl) xm.wf.quiet Rq hoo rfl;have stq:AEn 6 (.pointer (BY ⟨bl,6 * j,By⟩)) (ktV X) h11.marked.quiet=.ok AEl (h11.marked.quiet.wr bl (6 * j) (Aj X)):=stq;generalize h11.marked.quiet.wr bl (6 * j) (Aj X)=q at stq wrq fxq;have q12:∀(F:AEh) (e:Env),J 97 e=.pointer (BY ⟨bl,6 * j,By⟩)->J 96 e=ktV X->Ac .free (AZ 6 (J 97) (J 96)) F e h11.marked=.ok AEl (h11.marked.back q):=λF e e1 e2=>BF (by rw[AW,e1,e2];exact stq)
 have f12:Fx (λb=>b=bl) h11 (h11.marked.back q):=((fxq.from (h:=h11.marked) rfl rfl).same (h2:=h11.marked.back q) rfl rfl).from (h:=h11) rfl rfl;have AJl:(h11.marked.back q).Row bl 125 (flK (ks.set j X)):=wrq.same rfl;generalize h11.marked.back q=h12 at q12 f12 AJl;have nbl:¬A.D bl:=λh=>by have:=AIu bl h;omega
 have hsl:(ks.set j X).length=ks.length:=ADm;have AIA:∀b el L,b≠bl->h11.Row b el L->h12.Row b el L:=λb el L hb r=>f12.row W11 r hb
 have AHZ:∀b el L,(el=0\/el=6\/el=4)->h11.Row b el L->b≠bl:=λb el L he r=>FZ r Rl (by omega)
 have s12:Sl h12 A T (Hg M kx.p (AFA T kx.a kx.b kx.c 2 kx.l)) c9 AHN (ks.set j X) fr w10 fv bad IT:=by
  refine⟨AIA _ _ _ (AHZ _ _ _ (.inl rfl) s11.row) s11.row,s11.dk.fr W11 f12 (AHZ _ _ _ (.inl rfl) s11.dk.disk) (AHZ _ _ _ (.inl rfl) s11.dk.med) (λh=>(KH Rl s11.dk.map) h.symm),AIA _ _ _ (AHZ _ _ _ (.inl rfl) s11.tab) s11.tab,s.tok,Hp.KW.ks (.inr ⟨bl,by rw[hsl];exact hw,AJl,nbl⟩),λx hx=>?_,?_,s.ne,by rw[hsl];exact s11.le⟩
  ·have kp:=λ(x:Kt) (hx:x∈ks)=>(s11.ko x hx).1.keep (h':=h12) λb el L hb he r=>AIA b el L (AHZ b el L (by omega) r) r
   rcases ABA hx with h1|h1
   ·exact⟨kp x h1,(s11.ko x h1).2⟩
   ·rw[h1]
    have:=kp kx hkm;refine⟨?_,?_,?_,.inr e6s,?_,?_⟩
    ·rw[e6u,e6l];exact this
    ·rw[e6l];exact o2
    ·rw[e6l];exact o3
    ·rw[e6a,e6b,e6c,e6s,e6l];exact hr2
    ·rw[e6p];exact o6
  ·rcases s11.fs with h1|⟨b,el,h1,h2,h3,h4⟩
   ·exact .inl h1
   ·exact .inr ⟨b,el,h1,AIA _ _ _ (AHZ b el _ (by omega) h2) h2,h3,h4⟩
 have mid:∃e2,cmB (call AC (m+7)) e1 h5=cmS (call AC (m+7)) e2 h12/\J 0 e2=pt A.bs/\J 1 e2=AI AT kx.a/\J 2 e2=AI AT kx.b/\J 3 e2=AI AT kx.c/\J 15 e2=AEk/\J 16 e2=AI AT ((0:Nat):Int):=by
  have k7':call AC (m+7) 97 [pt A.bs,AI AT (kx.p:Int)] h7=.ok (AI AT ((kx.p*3:Nat):Int)) h7:=k7;have k8':call AC (m+7) 96 [pt A.bs,AI AT ((kx.p*3:Nat):Int),vh] h7=.ok dv h8:=k8;have k9':call AC (m+7) 98 [pt A.bs,dv] h8=.ok (AI AT 0) h9:=k9;have AKn:call AC (m+7) 100 [lv] h9=.ok w10 h10:=k10;rw[py];unfold pz;simp only[sT,xT,sh,reduceIte,Aw,Ax,t0,Am,AH,AO,xZ,zQ,AN,AQ,l1m,An,Ah,t11,ld5,q6,Aq,Az,A1,lp7,cA0,k7',k8',k9',AK,AJ,c00,l39,AKn,AW,AGp,l3m,AKm,BA,t10,ixl,q12];exact⟨_,rfl,by simp[AG,t0,t1,t2,t3]⟩
 obtain⟨e2,r1,u0,u1,u2,u3,u15,u16⟩:=mid;have AIB:Fx A.D h h12:=by
  have e1:Fx A.D h h8:=.of x8';have e2:Fx A.D h8 h9:=f9.mono λb hb=>.inr hb
  have e3:Fx A.D h9 h10:=.of x10;have e4:Fx A.D h10 h11:=f11.mono λb hb=>.inl hb
  have e14:=((e1.trans e2).trans e3).trans e4;refine⟨yS e14.next f12.next,λi hi hs=>?_,f12.wf,λL q1 q2 q3=>f12.low L (e14.low L q1 q2 q3) (yS q2 e14.next) λb hb=>by have:=x8'.next;have:=f9.next;omega⟩;rw[f12.get i (by have:=e14.next;omega) (λh=>by have:=x8'.next;have:=f9.next;omega),e14.get i hi hs]
 exact⟨h12,c9,AHN,w10,e2,p1.trans r1,u0,u1,u2,u3,u15,u16,AIB,hkx ▸ s12,by rw[ea];exact Hx _ _ arm (ha.le (by show 2+k<=_;omega))⟩
end
theorem fL:Ja.k=.slice 5:=by kernel_rfl
theorem pu{n:Nat}{h:Hp}(a:h.Wf){u:xU}{xs:List xU}(g:h.AE7 u xs)(C:Bc xs=IN)(H:xs.length<=1000000):
  ∃h' v,call AC (n+1) 90 [u] h=.ok v h'/\h.Ext h'/\h'.Cl (λb=>h.next<=b/\b<h'.next) 5 v xs:=by
 rcases g with ⟨rfl,rfl⟩|⟨b,off,y,z,p,o,j,A,B⟩
 ·have f:∀e:Env,J 0 e=.slice By 0 0->oEq Ja.k IT (J 0) (W (.slice By 0 0)) (call AC n) e h=.ok (.bool IN) h:=λe k=>J5 (t:=0) fL k
  refine⟨h,AEk,?_,.refl a,.inl ⟨rfl,rfl⟩⟩;rw[JF rfl];unfold d90;simp only[iN,xV,sT,xT,sh,reduceIte,f,lV0]
 ·have g:h.AE7 u xs:=.inr ⟨b,off,y,z,p,o,j,A,B⟩
  have c:=(Hp.Ext.refl a).AEg 0 [];have R:=Hp.Row.new a 0 [];have es:=λ(e:Env) (t:List xU)=>K7 (F:=call AC n) (e:=e) (t:=t) a
  have D:(h.AEg 0 []).next=h.next+1:=rfl;generalize h.AEg 0 []=i at c R es D;have f:∀e:Env,J 0 e=u->oEq Ja.k IT (J 0) (W (.slice By 0 0)) (call AC n) e h=.ok (.bool IT) h:=λe k=>J4 (t:=0) fL (k.trans o)
  have d:=g.ext a c;have big:=a.big;rcases yl xs.length with l|l
  ·obtain rfl:xs=[]:=zA l
   have x:DU 1 1 5 (.slice (BY ⟨h.next,0,By⟩) 0 0) u i=.ok (.slice (BY ⟨h.next,0,By⟩) 0 0) (i.wr h.next 0 []):=IA c.wf big R (λm=>d.src rfl m) d.lenV;have q:=R.AEt c.wf (off:=0) (vs:=[]) (xW _);refine⟨_,.slice (BY ⟨h.next,0,By⟩) 0 0,?_,R.AFC c (xW _) (off:=0) (vs:=[]) (xW _),.inr ⟨h.next,0,rfl,q,.inr ⟨rfl,rfl⟩,⟨xW _,?_⟩,big⟩⟩
   ·rw[JF rfl]
    unfold d90;simp only[iN,xV,sT,xT,sh,reduceIte,f,es,Bb,x,lV0]
   ·have:=R.AFP (off:=0) (vs:=[]) (xW _)
    omega
  ·obtain⟨j,r,s,w,E,G⟩:=E4 (eb:=1) (en:=5) c R (es:=1) (λm=>d.src rfl m) d.lenV (by omega) l C (by omega)
   refine⟨j,_,?_,s,.inr ⟨i.next,5+1,rfl,w,.inl rfl,⟨by omega,by omega⟩,by omega⟩⟩;rw[JF rfl];unfold d90;simp only[iN,xV,sT,xT,sh,reduceIte,f,es,Bb,r,lV0]
theorem bW:eqS=BB (AY 0 (A3 ebB)) eqE:=rfl
theorem US:d93=av:=rfl
section
variable {F:AEh}{e:Env}{h h':Hp}{S:Nat->Prop}{A:At}{bad m k p:Nat}{ks:List Kt}{fr:List Nat}{v lv fv:xU}{ov:Bool}
theorem Ov(q:h.Wf){u v:xU}{a b:List Nat}(z:h.AE7 u (a.map bv))(B:h.VE v (b.map bv))(S:a.length<=900000):∃h',call AC (m+1) 93 [u,v] h=.ok (.bool (decide (a=b))) h'/\h.Ext h':=by
 have A:=z.bl h;have C:=B.bl h;by_cases E:a.length=b.length
 ·have f:iNe (a.length:Int) (b.length:Int)=IT:=by rw[H3,E];simp
  have M:∃g,av (call AC m) (Au e0 0 [u,v]) h=eqS (call AC m) g h/\J 0 g=u/\J 1 g=v/\J 12 g=AI AT (a.length:Int)/\J 13 g=AI AT ((0:Nat):Int):=by
   unfold av;simp only[iN,xV,sT,xT,sh,reduceIte,AX,A,C,AK,AJ,f];exact⟨_,rfl,by simp[AG]⟩
  obtain⟨g,G,s0,s1,s12,s13⟩:=M;have P:(∃c h',A3 ebB (call AC m) g h=.exit 0 c h'/\h.Ext h'/\a=b)\/(∃c h',A3 ebB (call AC m) g h=.ret c h'/\h.Ext h'/\a≠b/\J 4 c=.bool IT):=by
   refine Bd (I:=λi c h'=>h.Ext h'/\J 0 c=u/\J 1 c=v/\J 12 c=AI AT (a.length:Int)/\J 13 c=AI AT (i:Int)/\i<=a.length/\(a=b↔a.drop i=b.drop i))
    (Q:=λH=>(∃c h',H=.exit 0 c h'/\h.Ext h'/\a=b)\/(∃c h',H=.ret c h'/\h.Ext h'/\a≠b/\J 4 c=.bool IT)) a.length (by omega) (λi c h' ⟨K,t0,t1,t12,t13,R,k⟩=>?_) ⟨.refl q,s0,s1,s12,s13,yH _,by simp⟩
   by_cases n:i<a.length
   ·have s:=K.marked
    obtain⟨p,g1,g2⟩:=Jg (z.ext q s) n;obtain⟨T,g3,g4⟩:=Jg ((B.ext q s).vals (by rw[xa];omega)) (i:=i) (by omega);rw[Gj n,Gj (l:=b) (by omega)]at k;generalize a.getD i 0=r at g2 k;generalize b.getD i 0=D at g4 k;have f:=EU n;by_cases F:r=D
    ·left
     subst F;have t:iNe (r:Int) (r:Int)=IT:=by rw[H3];simp
     have L:=Cc (i:=i) (h:=h'.marked) (by omega);have o:∃d,ebB (call AC m) c h'=.norm d h'.marked/\J 0 d=u/\J 1 d=v/\J 12 d=AI AT (a.length:Int)/\J 13 d=AI AT ((i+1:Nat):Int):=by
      unfold ebB;simp only[sT,xT,sh,reduceIte,AK,AJ,t13,t12,f,Aw,BA,t0,g1,AN,g2,t1,g3,g4,t,BW,L];exact⟨_,rfl,by simp[AG,t0,t1,t12]⟩
     obtain⟨d,e,j,x,N,O⟩:=o;refine⟨n,d,h'.marked,e,s,j,x,N,O,n,k.trans ?_⟩;simp
    ·right
     have t:iNe (r:Int) (D:Int)=IN:=by rw[H3];simp;omega
     have o:∃d,ebB (call AC m) c h'=.ret d h'.marked/\J 4 d=.bool IT:=by
      unfold ebB;simp only[sT,xT,sh,reduceIte,AK,AJ,t13,t12,f,Aw,BA,t0,g1,AN,g2,t1,g3,g4,t];exact⟨_,rfl,by simp[AG]⟩
     obtain⟨d,e,j⟩:=o;rw[e];refine⟨rfl,.inr ⟨d,h'.marked,rfl,s,λh=>F ?_,j⟩⟩;have:=k.1 h;injection this
   ·right
    have f:=Cz (show a.length<=i by omega);have o:∃d,ebB (call AC m) c h'=.exit 0 d h':=by
     unfold ebB;simp only[sT,xT,sh,reduceIte,AK,AJ,t13,t12,f];exact⟨_,rfl⟩
    obtain⟨d,e⟩:=o;rw[e];refine⟨rfl,.inl ⟨d,h',rfl,K,k.2 ?_⟩⟩;rw[ym (by omega),ym (by omega)]
  rcases P with ⟨d,w,e,y,j⟩|⟨d,w,e,y,j,x⟩
  ·refine⟨w,?_,y⟩
   rw[UG rfl,US,G,bW,decide_eq_true j];simp only[A7,Ap,e,A5,Ay];unfold eqE;simp only[sT,xT,sh,reduceIte,lV0]
  ·refine⟨w,?_,y⟩
   rw[UG rfl,US,G,bW,decide_eq_false j];simp only[A7,Ap,e,CE,Cr,lV0,x]
 ·have f:iNe (a.length:Int) (b.length:Int)=IN:=by rw[H3];simp;omega
  refine⟨h,?_,.refl q⟩;rw[UG rfl,US,decide_eq_false (λh=>E (by rw[h]))];unfold av;simp only[iN,xV,sT,xT,sh,reduceIte,AX,A,C,AK,AJ,f,lV0]
theorem bX(e:h.Wf){u v:xU}{a b:List Nat}(c:h.AE7 u (a.map bv))(d:h.AE7 v (b.map bv))(f:a.length<=900000):∃h',call AC (m+1) 93 [u,v] h=.ok (.bool (decide (a=b))) h'/\h.Ext h':=Ov e c (.inl d) f
theorem Dj{e:Env}{h h':Hp}{g:O}{n:Nat}{v:xU}(b:HN n (g e) h=.ok v h'):E0 [.cN g n] e h=.ok v h:=by
 have a:Fc e h (.cN g n)=.ok v h':=b;show(match Fc e h (.cN g n)with|.ok v _=>AEw v λv=>Jv h [v]|.no=>.no)=_;rw[a];simp only[Ba];rfl
theorem Dl{e:Env}{h:Hp}{g g1:O}{n:Nat}{v:xU}(b:HN n (g e) h=.ok v h):E0 [.cN g n,.t g1] e h=.ok (.tuple ⟨[v,g1 e]⟩) h:=by
 have a:Fc e h (.cN g n)=.ok v h:=b;show(match Fc e h (.cN g n)with|.ok v _=>AEw v λv=>AEw (g1 e) (λc=>Jv h [v,c])|.no=>.no)=_;rw[a];simp only[Ba];rfl
theorem Hp.Cl.bs0{h:Hp}{S:Nat->Prop}{v:xU}{xs:List xU}(o:h.Cl S 5 v xs):h.BS S v xs:=by
 rcases o with a|⟨b,c,a,d,e,f,g⟩
 ·exact .inl a
 ·exact .inr ⟨b,0,_,c,xs,a,xW _,d,by omega,by rw[yk,yz],f,e.elim (λh=>.inr h) (λh=>.inl h.1)⟩
theorem Xg(f:h.Wf){x:Kt}(O:h.AE7 x.u (x.l.map bv))(hl:x.l.length<=1000):∃h' v',call AC (m+2) 78 [ktV x] h=.ok (Bn x.a x.b x.c x.s v') h'/\h.Ext h'/\oneCell v'=IN/\h'.BS (λb=>h.next<=b) v' (x.l.map bv):=by
 have D:=λ(F:AEh) (e:Env) (U:J 0 e=ktV x)=>NY (F:=F) f U
 have g:=(Hp.Ext.refl f).AEg 0 (Aj x);have y:=Hp.Row.new f 0 (Aj x);have Y:(h.AEg 0 (Aj x)).next=h.next+1:=rfl;generalize h.AEg 0 (Aj x)=d at D g y Y;have C:=λ(F:AEh) (e:Env)=>BO (F:=F) (e:=e) g.wf (n:=5) (t:=DV)
 have A:=Hp.Row.alloc g.wf Fg (show(A9 0 0 0 0 AEk).length=5 from rfl);have o:d.Ext (d.push (.cells DV 5 0)):=(Hp.Ext.refl g.wf).push _;have Z:(d.push (.cells DV 5 0)).next=d.next+1:=rfl;generalize d.push (.cells DV 5 0)=Q at C A o Z;have l:=g.trans o;have z:=y.ext g.wf o;obtain⟨_,_,_,_,W,_⟩:=Cd z;obtain⟨R,v',w,i,q⟩:=pu (n:=m) l.wf (O.ext f l) (DD _) (by rw[xa];omega);have k:cellsOf v'=[v']/\oneCell v'=IN:=⟨q.vs.one.1,q.vs.one.2.1⟩;have L:=z.ext l.wf i;have N:=A.ext o.wf i;have big:=f.big;obtain⟨G,a1,p,n4,f4,P⟩:=Ei i.wf L (off:=4) (show 4<6 by omega) big k.1 k.2;have x3:=l.trans i;have x4:=P h x3 (xW _);have p:G.Row h.next 0 (Aj ⟨x.a,x.b,x.c,x.s,x.l,x.p,v'⟩):=p;obtain⟨_,_,_,_,_,_,_,X⟩:=Cd p;have B:=f4.row i.wf N (by omega);obtain⟨I,H,K,M,n5⟩:=MA f x4 (by omega) B rfl (a:=x.a) (b:=x.b) (c:=x.c) (s:=x.s) (u:=v') k.2;have E:=Fx.wr (S:=λb=>b=d.next) f4.wf B (vs:=A9 x.a x.b x.c x.s v') (off:=0) (xW _) rfl;generalize G.wr d.next 0 (A9 x.a x.b x.c x.s v')=j at I H K M E;have a2:j.BS (λb=>h.next<=b) v' (x.l.map bv):=(q.bs0.keep λb el a3 T _ a0=>E.row f4.wf (f4.row i.wf a0 (by omega)) (by omega)).mono λb T=>by omega
 refine⟨j,v',?_,K,k.2,a2⟩;have w:call AC (m+1) 90 [x.u] Q=.ok v' R:=w;have V:∃r,d78 (call AC (m+1)) (Au e0 0 [ktV x]) h=.ret r j/\J 2 r=pt d.next:=by
  unfold d78;simp only[iN,xV,sT,xT,sh,reduceIte,D,C,AH,AO,xZ,zQ,AN,AQ,W,cA0,w,AW,a1,An,Ah,X,I];exact⟨_,rfl,by simp[AG]⟩
 obtain⟨r,r1,r2⟩:=V;rw[pR rfl,r1,Av,Dj (h':=j) (v:=Bn x.a x.b x.c x.s v') (by rw[r2,Ah];exact H)]
theorem kX{g:O}{b:Nat}(a:g e=pt b):oEq IP.k IT g (W (.pointer By)) F e h=.ok (.bool IT) h:=GU X9 a
theorem i6(g:h.Wf)(R:h.Row A.bs 0 (slL A.bd A.tb lv fv bad ov))(K:h.KS S lv ks)(hk:∀k∈ks,h.AE7 k.u (k.l.map bv)/\k.l.length<=1000)(hl:ks.length<=1000)(a b c:Int):
  ∃h' v,call AC (m+5) 59 [pt A.bs,AI AT a,AI AT b,AI AT c] h=.ok (.tuple ⟨[v,.bool (ks.find? (BL a b c)).isSome]⟩) h'/\h.Ext h'/\(cellsOf v).length=5/\Bc (cellsOf v)=IN/\∀f,ks.find? (BL a b c)=BY f->∃u,v=Bn f.a f.b f.c f.s u/\h'.BS (λb=>h.next<=b) u (f.l.map bv):=by
 have E:=λ(F:AEh) (e:Env)=>BO (F:=F) (e:=e) g (n:=5) (t:=DV)
 have C:=Hp.Row.alloc g Fg (show(A9 0 0 0 0 AEk).length=5 from rfl);have l:h.Ext (h.push (.cells DV 5 0)):=(Hp.Ext.refl g).push _;have n1:(h.push (.cells DV 5 0)).next=h.next+1:=rfl;generalize h.push (.cells DV 5 0)=h1 at E C l n1;obtain⟨V,D,B⟩:=GJ (m:=m+1) l.wf (R.ext g l) (K.ext g l) (by omega) a b c;have j:=l.trans B;have P:∀(F:AEh) (e:Env) (i:Hp),J 0 e=pt A.bs->oEq IP.k IT (J 0) (W (.pointer By)) F e i=.ok (.bool IT) i:=λF e i X=>kX X
 have fin:∀(d:Env) (i:Hp) (v:xU) (t:Bool),d59 (call AC (m+4)) (Au e0 0 [pt A.bs,AI AT a,AI AT b,AI AT c]) h=.ret d i->J 8 d=pt h.next->J 9 d=.bool t->loadN 5 ⟨h.next,0,By⟩ i=.ok v i->call AC (m+5) 59 [pt A.bs,AI AT a,AI AT b,AI AT c] h=.ok (.tuple ⟨[v,.bool t]⟩) i:=λd i v t r w x Z=>by
  rw[pE rfl,r,Av,Dl (v:=v) (by rw[w,Ah];exact Z),x]
 rcases EE (BL a b c) ks 0 with ⟨H,d⟩|⟨a0,f,H,d,U⟩
 ·rw[d]at D
  have G:iLt (-1) 0=IN:=H0 (by omega);obtain⟨y,q,o,_,_⟩:=MA g j (xW _) (C.ext l.wf B) rfl (a:=0) (b:=0) (c:=0) (s:=0) (u:=AEk) rfl;generalize V.wr h.next 0 (A9 0 0 0 0 AEk)=p at y q o;have L:∃d,d59 (call AC (m+4)) (Au e0 0 [pt A.bs,AI AT a,AI AT b,AI AT c]) h=.ret d p/\J 8 d=pt h.next/\J 9 d=.bool IT:=by
   unfold d59;simp only[iN,xV,sT,xT,sh,reduceIte,E,P,cA0,D,AK,AJ,G,EC,AW,y];exact⟨_,rfl,by simp[AG]⟩
  obtain⟨d,r,w,x⟩:=L;rw[H];exact⟨p,_,fin d p _ IT r w x q,o,rfl,rfl,λf hk=>by cases hk⟩
 ·rw[U,xZ]at D
  have G:iLt (a0:Int) 0=IT:=FI (by omega);obtain⟨_,_,_,l3,_⟩:=BK (R.ext g j);obtain⟨bb,_,ix,a1,_⟩:=(K.ext g j).at d;obtain⟨T,Y⟩:=hk f (xy d);obtain⟨p,z,k3,M,O,a3⟩:=Xg (m:=m+2) j.wf (T.ext g j) Y;have o:=j.trans M;obtain⟨y,q,Q,_,_⟩:=MA g o (xW _) ((C.ext l.wf B).ext j.wf M) rfl (a:=f.a) (b:=f.b) (c:=f.c) (s:=f.s) (u:=z) O;have f4:=Fx.wr (S:=λb=>b=h.next) o.wf ((C.ext l.wf B).ext j.wf M) (vs:=A9 f.a f.b f.c f.s z) (off:=0) (xW _) rfl;generalize p.wr h.next 0 (A9 f.a f.b f.c f.s z)=I at y q Q f4;have L:∃d,d59 (call AC (m+4)) (Au e0 0 [pt A.bs,AI AT a,AI AT b,AI AT c]) h=.ret d I/\J 8 d=pt h.next/\J 9 d=.bool IN:=by
   unfold d59;simp only[iN,xV,sT,xT,sh,reduceIte,E,P,cA0,D,AK,AJ,G,Ax,Am,AH,AO,xZ,AN,AQ,l3,BA,ix,An,Ah,a1,k3,AW,y];exact⟨_,rfl,by simp[AG]⟩
  obtain⟨d,r,w,x⟩:=L;rw[H];refine⟨I,_,fin d I _ IN r w x q,Q,rfl,?_,λk hk=>⟨z,by rw[<- Option.some.inj hk],by rw[<- Option.some.inj hk];exact(a3.keep λb el a4 N _ a2=>f4.row o.wf a2 (by have:=B.next;omega)).mono λb N=>yS j.next N⟩⟩;show(bif oneCell z then IN else IT)=IN;rw[O];rfl
theorem lD(R:h.Row A.bs 0 (slL A.bd A.tb lv fv bad ov))(c:h.AE7 fv (ints .i64 (fr.map zZ))):call AC (m+1) 53 [pt A.bs] h=.ok (AI AT (fr.length:Int)) h:=by
 obtain⟨_,_,_,_,f,_⟩:=BK R;have g:∀(F:AEh) (e:Env) (a:Hp),J 0 e=pt A.bs->oEq IP.k IT (J 0) (W (.pointer By)) F e a=.ok (.bool IT) a:=λF e a d=>kX d
 have b:=c.len;rw[show(ints .i64 (fr.map zZ)).length=fr.length by unfold ints;rw[xa,xa]]at b;rw[pA rfl];unfold d53;simp only[iN,xV,sT,xT,sh,reduceIte,g,Ax,Am,AH,AO,xZ,AN,AQ,f,AX,b,lV0]
end
section
variable {F:AEh}{e:Env}{h h' h0:Hp}{S:Nat->Prop}{A:At}{T M:List Nat}{c0 bad m k p:Nat}{arm:Int}{ks:List Kt}{fr:List Nat}{v lv fv:xU}{ov:Bool}
def Zd(T M:List Nat)(k:Kt):Prop:=∃a,Hd T M k.p a/\(at6 a 1:Int)=k.a/\(at6 a 2:Int)=k.b/\(at6 a 3:Int)=k.c/\at6 a 0=k.s/\dat M k.p (at6 a 4)=k.l
theorem aj:d60=YW:=rfl
theorem eY(U:h.Wf)(s:Sl h A T M c0 arm ks fr lv fv bad ov){j:Nat}{d:Kt}(Y:ks[j]? =BY d){a b c:Int}(hf:Fu (BL a b c) 0 ks=(j:Int))(b3:d.a=a/\d.b=b/\d.c=c)(b6:3*d.p+3<=A.n):
  ∃h' r,call AC (m+6) 60 [pt A.bs,AI AT a,AI AT b,AI AT c] h=.ok (.bool r) h'/\h.Ext h'/\(r=IN↔Zd T M d):=by
 obtain⟨rfl,rfl,rfl⟩:=b3;have a9:=xy Y;obtain⟨o1,o2,o3,o4,o5,o6⟩:=s.ko d a9;have p1:∀(F:AEh) (e:Env) (B:Hp),J 0 e=pt A.bs->oEq IP.k IT (J 0) (W (.pointer By)) F e B=.ok (.bool IT) B:=λF e B he=>kX he
 obtain⟨h1,Z,x1⟩:=GJ (m:=m+2) U s.row s.ls.ks (by have:=s.le.1;omega) d.a d.b d.c;rw[hf]at Z;have c1:iLt (j:Int) 0=IT:=FI (by omega);have s1:=s.ext U x1;obtain⟨_,_,_,l3,_⟩:=BK s1.row;obtain⟨bb,_,ix,_,b7⟩:=s1.ls.ks.at Y;have lp:=b7 5 (AI AT (d.p:Int)) rfl;obtain⟨y,x2,LK⟩:=XQ (m:=m) x1.wf s1.row s1.tab s.tok s1.dk b6;have z:=x1.trans x2;have V:=λ(F:AEh) (e:Env)=>BO (F:=F) (e:=e) z.wf (n:=6) (t:=C1)
 have S:=Hp.Row.alloc z.wf GB (show(Aj K0).length=6 from rfl);have y3:y.Ext (y.push (.cells C1 6 0)):=(Hp.Ext.refl z.wf).push _;have n3:(y.push (.cells C1 6 0)).next=y.next+1:=rfl;generalize y.push (.cells C1 6 0)=h3 at V S y3 n3;have C:iEq 0 0=IN:=CP rfl;rcases LK with ⟨g,a0,I,Q,hu⟩|⟨I,bd,Q,c2⟩
 ·generalize hX:(⟨at6 g 1,at6 g 2,at6 g 3,at6 g 0,dat M d.p (at6 g 4),d.p,a0⟩:Kt)=X at Q
  have a8:X.u=a0:=by rw[<- hX]
  obtain⟨N,_,G,O,n4⟩:=N0 z.wf y3 (xW _) S rfl (k:=X) (by rw[a8];exact hu.vs.one.2.1);generalize h3.wr y.next 0 (Aj X)=i at N G O n4;have x4:=z.trans G;have x:=x4.marked;have s4:=s.ext U x;obtain⟨E,L,R,m3,m4,_⟩:=Cd (O.same (h':=i.marked) rfl);obtain⟨_,_,_,b1,_⟩:=BK s4.row;obtain⟨c3,_,b0,_,a7⟩:=s4.ls.ks.at Y;have b2:=a7 3 (.int .u8 (d.s:Int)) rfl;have b8:=a7 4 d.u rfl;have K:∀o,Hd T M d.p o->o=g:=λo h=>G3 h.1 I.1
  have b4:X.a=at6 g 1/\X.b=at6 g 2/\X.c=at6 g 3/\X.s=at6 g 0:=by rw[<- hX];exact⟨rfl,rfl,rfl,rfl⟩
  obtain⟨f1,f2,f3,f4⟩:=b4;rw[f1]at E;rw[f2]at L;rw[f3]at R;rw[f4]at m3;rw[a8]at m4;have b9:∃l,YW (call AC (m+5)) (Au e0 0 [pt A.bs,AI AT d.a,AI AT d.b,AI AT d.c]) h=sdT (call AC (m+5)) l i/\J 0 l=pt A.bs/\J 1 l=AI AT d.a/\J 2 l=AI AT d.b/\J 3 l=AI AT d.c/\J 9 l=AI AT (j:Int)/\J 10 l=pt y.next/\J 11 l=.bool IN/\J 13 l=AI AT 0:=by
   unfold YW;simp only[iN,xV,sT,xT,sh,reduceIte,p1,cA0,Z,AK,AJ,c1,Ax,Am,AH,AO,xZ,AN,AQ,l3,BA,ix,lp,Q,Aq,Az,A1,Bx,HI,V,AW,N];exact⟨_,rfl,by simp[AG]⟩
  obtain⟨l,q1,t0,t1,t2,t3,t9,t10,t11,t13⟩:=b9;have fin:∀(f:Env) (B:Hp) (t:Bool),sdT (call AC (m+5)) l i=.ret f B->J 8 f=.bool t->call AC (m+6) 60 [pt A.bs,AI AT d.a,AI AT d.b,AI AT d.c] h=.ok (.bool t) B:=λf B t p q=>by
   rw[aD rfl,aj,q1,p];simp only[lV0,q]
  by_cases g1:(at6 g 1:Int)=d.a
  ·have D:iEq (at6 g 1:Int) d.a=IN:=CP g1
   by_cases g2:(at6 g 2:Int)=d.b
   ·have H:iEq (at6 g 2:Int) d.b=IN:=CP g2
    by_cases g3:(at6 g 3:Int)=d.c
    ·have P:iEq (at6 g 3:Int) d.c=IN:=CP g3
     by_cases g4:at6 g 0=d.s
     ·have d4:iEq (at6 g 0:Int) (d.s:Int)=IN:=CP (by omega)
      have b5:(dat M d.p (at6 g 4)).length<=900000:=by
       unfold dat;rw[yP];have:=I.2.1;omega
      obtain⟨h5,k5,x5⟩:=bX (m:=m+4) x.quiet.wf ((hu.vs.vals.ext z.wf G).same (h':=i.marked.quiet) rfl) ((s4.ko d a9).1.vs.vals.same (h':=i.marked.quiet) rfl) b5;have q5:∀e:Env,J 82 e=a0->J 91 e=d.u->Ac .free (AS 93 [J 82,J 91]) (call AC (m+5)) e i.marked=.ok (.bool (decide (dat M d.p (at6 g 4)=d.l))) (i.marked.back h5):=λe l f=>by
       refine BF ?_;rw[BX,AV,AV,A4,l,f];exact k5
      have w:∃f,sdT (call AC (m+5)) l i=.ret f (i.marked.back h5)/\J 8 f=.bool (decide (dat M d.p (at6 g 4)=d.l)):=by
       unfold sdT;simp only[sT,xT,sh,reduceIte,gD,Aw,AK,AJ,t13,C,t11,t10,AH,AO,xZ,zQ,AN,AQ,E,L,R,m3,m4,t1,t2,t3,D,H,P,t0,Ax,Am,b1,t9,BA,b0,b2,d4,b8,q5];exact⟨_,rfl,by simp[AG]⟩
      obtain⟨f,p,q⟩:=w;refine⟨_,_,fin f _ _ p q,x.trans (.back x5),?_⟩;rw[decide_eq_true_eq];constructor
      ·exact λh=>⟨g,I,g1,g2,g3,g4,h⟩
      ·rintro⟨o,u,_,_,_,_,a6⟩
       rw[K o u]at a6;exact a6
     ·have d4:iEq (at6 g 0:Int) (d.s:Int)=IT:=CF (by omega)
      have w:∃f,sdT (call AC (m+5)) l i=.ret f i.marked/\J 8 f=.bool IT:=by
       unfold sdT;simp only[sT,xT,sh,reduceIte,gD,Aw,AK,AJ,t13,C,t11,t10,AH,AO,xZ,zQ,AN,AQ,E,L,R,m3,m4,t1,t2,t3,D,H,P,t0,Ax,Am,b1,t9,BA,b0,b2,d4];exact⟨_,rfl,by simp[AG]⟩
      obtain⟨f,p,q⟩:=w;refine⟨_,_,fin f _ _ p q,x,⟨λh=>(by cases h),?_⟩⟩;rintro⟨o,u,_,_,_,a5,_⟩;rw[K o u]at a5;exact absurd a5 g4
    ·have P:iEq (at6 g 3:Int) d.c=IT:=CF g3
     have w:∃f,sdT (call AC (m+5)) l i=.ret f i.marked/\J 8 f=.bool IT:=by
      unfold sdT;simp only[sT,xT,sh,reduceIte,gD,Aw,AK,AJ,t13,C,t11,t10,AH,AO,xZ,zQ,AN,AQ,E,L,R,t1,t2,t3,D,H,P];exact⟨_,rfl,by simp[AG]⟩
     obtain⟨f,p,q⟩:=w;refine⟨_,_,fin f _ _ p q,x,⟨λh=>(by cases h),?_⟩⟩;rintro⟨o,u,_,_,a4,_,_⟩;rw[K o u]at a4;exact absurd a4 g3
   ·have H:iEq (at6 g 2:Int) d.b=IT:=CF g2
    have w:∃f,sdT (call AC (m+5)) l i=.ret f i.marked/\J 8 f=.bool IT:=by
     unfold sdT;simp only[sT,xT,sh,reduceIte,gD,Aw,AK,AJ,t13,C,t11,t10,AH,AO,xZ,zQ,AN,AQ,E,L,t1,t2,D,H];exact⟨_,rfl,by simp[AG]⟩
    obtain⟨f,p,q⟩:=w;refine⟨_,_,fin f _ _ p q,x,⟨λh=>(by cases h),?_⟩⟩;rintro⟨o,u,_,a3,_⟩;rw[K o u]at a3;exact absurd a3 g2
  ·have D:iEq (at6 g 1:Int) d.a=IT:=CF g1
   have w:∃f,sdT (call AC (m+5)) l i=.ret f i.marked/\J 8 f=.bool IT:=by
    unfold sdT;simp only[sT,xT,sh,reduceIte,gD,Aw,AK,AJ,t13,C,t11,t10,AH,AO,xZ,zQ,AN,AQ,E,t1,D];exact⟨_,rfl,by simp[AG]⟩
   obtain⟨f,p,q⟩:=w;refine⟨_,_,fin f _ _ p q,x,⟨λh=>(by cases h),?_⟩⟩;rintro⟨o,u,a2,_⟩;rw[K o u]at a2;exact absurd a2 g1
 ·obtain⟨N,_,G,O,n4⟩:=N0 z.wf y3 (xW _) S rfl (k:=K0) rfl
  generalize h3.wr y.next 0 (Aj K0)=i at N G O n4;have x:=(z.trans G).marked;have w:∃f,YW (call AC (m+5)) (Au e0 0 [pt A.bs,AI AT d.a,AI AT d.b,AI AT d.c]) h=.ret f i.marked/\J 8 f=.bool IT:=by
   unfold YW sdT;simp only[iN,xV,sT,xT,sh,reduceIte,gD,p1,cA0,Z,AK,AJ,c1,Ax,Am,AH,AO,xZ,AN,AQ,l3,BA,ix,lp,Q,Aq,Az,A1,Bx,HI,V,AW,N,Aw,C];exact⟨_,rfl,by simp[AG]⟩
  obtain⟨f,p,q⟩:=w;refine⟨i.marked,IT,?_,x,⟨λh=>(by cases h),λ⟨o,u,_⟩=>absurd ⟨o,u⟩ I⟩⟩;rw[aD rfl,aj,p];simp only[lV0,q]
theorem ma:aaS=BB (AY 0 (A3 aaB)) aaE:=rfl
theorem qx:d40=iH:=rfl
theorem mA:BP Iu.zero 1=A9 0 0 0 0 AEk:=by kernel_rfl
theorem eQ(f:h.Wf){g:O}{a b c:Int}{s:Nat}{u:xU}(d:g e=Bn a b c s u):Ab 1 (BP Iu.zero 1) [(0,5,g)] F e h=.ok (.slice (BY ⟨h.next,0,By⟩) 1 1) (h.AEg 0 (A9 a b c s u)):=by
 rw[mA,B5,Ad (hk:=by rw[d];rfl),d,show cellsOf (Bn a b c s u)=A9 a b c s u from rfl,If (show(A9 a b c s u).length=5 from rfl),If (show 0+5<=(A9 0 0 0 0 AEk).length from xW _),Bo,Cm f];rfl
def Kz(k:Kt):List xU:=A9 k.a k.b k.c k.s k.u
def flS(a:List Kt):List xU:=a.flatMap Kz
theorem QI:∀b:List Kt,(flS b).length=b.length*5
 |[]=>rfl
 |k::a=>by
  show(Kz k++flS a).length=_;rw[xY,QI a,xh];show 5+a.length*5=_;omega
theorem ir(a b:List Kt):flS (a++b)=flS a++flS b:=AAg
def Hp.AL(h:Hp)(k:Nat)(v:xU)(ks:List Kt):Prop:=(v=AEk/\ks=[])\/∃a b,v=.slice (BY ⟨a,0,By⟩) ks.length ks.length/\h.Row a 94 (flS b)/\b.map Kt.core=ks.map Kt.core/\k<=a/\∀c∈b,h.BS (λa=>k<=a) c.u (c.l.map bv)
theorem Vv(E:h.Wf)(Rs:h.Row A.bs 0 (slL A.bd A.tb lv fv bad ov))(K:h.KS S lv ks)(hk:∀k∈ks,h.AE7 k.u (k.l.map bv)/\k.l.length<=1000/\oneCell k.u=IN)(hl:ks.length<=1000):
  ∃h' v,call AC (m+4) 40 [pt A.bs] h=.ok v h'/\h.Ext h'/\h'.AL h.next v ks:=by
 have p1:∀(F:AEh) (e:Env) (V:Hp),J 0 e=pt A.bs->oEq IP.k IT (J 0) (W (.pointer By)) F e V=.ok (.bool IT) V:=λF e V Z=>kX Z
 obtain⟨_,_,_,l3,_⟩:=BK Rs;have ln:=K.len h;have c4:∃q,iH (call AC (m+3)) (Au e0 0 [pt A.bs]) h=aaS (call AC (m+3)) q h/\J 3 q=AEk/\J 11 q=lv/\J 12 q=AI AT (ks.length:Int)/\J 13 q=AI AT ((0:Nat):Int):=by
  unfold iH;simp only[iN,xV,sT,xT,sh,reduceIte,p1,Ax,Am,AH,AO,xZ,AN,AQ,l3,AX,ln];exact⟨_,rfl,by simp[AG]⟩
 obtain⟨q,q1,s3,s11,s12,s13⟩:=c4;have c6:∃b h' v,A3 aaB (call AC (m+3)) q h=.exit 0 b h'/\h.Ext h'/\J 3 b=v/\h'.AL h.next v ks:=by
  refine Bd (I:=λi b h'=>∃v,h.Ext h'/\J 3 b=v/\J 11 b=lv/\J 12 b=AI AT (ks.length:Int)/\J 13 b=AI AT (i:Int)/\i<=ks.length/\h'.AL h.next v (ks.take i))
   (Q:=λa=>∃b h' v,a=.exit 0 b h'/\h.Ext h'/\J 3 b=v/\h'.AL h.next v ks) ks.length (by omega) (λi b h' ⟨v,L,t3,t11,t12,t13,hi,l⟩=>?_) ⟨_,.refl E,s3,s11,s12,s13,yH _,.inl ⟨rfl,rfl⟩⟩
  have w:=L.wf;by_cases a0:i<ks.length
  ·left
   have U:=EU a0;obtain⟨a,hx⟩:∃a,ks[i]? =BY a:=⟨_,xc a0⟩;obtain⟨b2,ul,ou⟩:=hk a (xy hx);obtain⟨bb,_,ix,ld,_⟩:=(K.ext E L).at hx;have al:=λ(F:AEh) (e:Env)=>BO (F:=F) (e:=e) w (n:=6) (t:=C1)
   have Ra:=Hp.Row.alloc w GB (show(Aj K0).length=6 from rfl);have y1:h'.Ext (h'.push (.cells C1 6 0)):=(Hp.Ext.refl w).push _;generalize h'.push (.cells C1 6 0)=r at al Ra y1;obtain⟨st,a9,M,R5,n2⟩:=N0 w y1 (xW _) Ra rfl (k:=a) ou;generalize r.wr h'.next 0 (Aj a)=X at st a9 M R5 n2;have p:=L.trans M;obtain⟨Y,j,k3,y3,c3,c7⟩:=Xg (m:=m+1) p.wf (b2.ext E p) ul;have s:=p.trans y3;have sl:=λ(F:AEh) (e:Env) (Z:J 19 e=Bn a.a a.b a.c a.s j)=>eQ (F:=F) s.wf Z
   have x:=s.AEg 0 (A9 a.a a.b a.c a.s j);have N:=(Hp.Ext.refl s.wf).AEg 0 (A9 a.a a.b a.c a.s j);have Rw:=Hp.Row.new s.wf 0 (A9 a.a a.b a.c a.s j);generalize Y.AEg 0 (A9 a.a a.b a.c a.s j)=G at sl x N Rw;have hs:∀K:List xU->R,BM G 5 (.slice (BY ⟨Y.next,0,By⟩) 1 1) 1 K=K (A9 a.a a.b a.c a.s j):=λK=>Rw.AGd (es:=5) (off:=0) (n:=1) (by show 0+1 * 5<=5;omega)
   have ha:Bc (A9 a.a a.b a.c a.s j)=IN:=by
    show(bif oneCell j then IN else IT)=IN;rw[c3];rfl
   have big:=E.big;have a7:ks.take (i+1)=ks.take i++[a]:=by rw[AAT,hx];rfl
   have B:(ks.take i).length=i:=by rw[yP];omega
   have vn:G.BS (λo=>h.next<=o) j (a.l.map bv):=(c7.ext s.wf N).mono λo hb=>by have:=p.next;omega
   have app:∃d b5 y,DU 5 56 93 v (.slice (BY ⟨Y.next,0,By⟩) 1 1) G=.ok (.slice (BY ⟨b5,0,By⟩) (i+1) (i+1)) d/\h.Ext d/\d.Row b5 94 (flS y)/\y.map Kt.core=(ks.take (i+1)).map Kt.core/\h.next<=b5/\∀g∈y,d.BS (λo=>h.next<=o) g.u (g.l.map bv):=by
    rcases l with ⟨l,h0⟩|⟨o,a8,l,c5,hL,hb,c0⟩
    ·have h0:i=0:=by rw[h0]at B;exact B.symm
     obtain⟨d,O,P,z,a4,_,T⟩:=Ij (eb:=56) (en:=93) x hs rfl rfl ha (by omega);exact⟨d,_,[{a with u:=j}],by rw[l,h0];exact O,P,z,by rw[a7,h0];rfl,x.next,λg hy=>by rw[yG.1 hy];exact vn.ext x.wf T⟩
    ·rw[B]at l
     have b7:a8.length=i:=by rw[<- xa (f:=Kt.core),hL,xa,B]
     have H:=((c5.ext w M).ext p.wf y3).ext s.wf N;obtain⟨d,O,P,z,_,_,T⟩:=J1 (eb:=56) (en:=93) (n:=i) x hs rfl rfl (by omega) ha H (by rw[QI,b7]) hb (by omega) (by omega);refine⟨d,_,a8++[{a with u:=j}],by rw[l];exact O,P,by rw[ir];exact z,by rw[a7,yZ,yZ,hL];rfl,x.next,λg hy=>?_⟩;have kp:∀g:Kt,G.BS (λo=>h.next<=o) g.u (g.l.map bv)->d.BS (λo=>h.next<=o) g.u (g.l.map bv):=λg c2=>by
      rcases c2 with r|⟨b6,off,b3,el,L6,q1,q2,q3,q4,q5,q6,q7⟩
      ·exact .inl r
      ·exact .inr ⟨b6,off,b3,el,L6,q1,q2,T b6 el L6 (FZ q3 H (by omega)) q3,q4,q5,q6,q7⟩
     rcases yO.1 hy with r|r
     ·exact kp g ((((c0 g r).ext w M).ext p.wf y3).ext s.wf N)
     ·rw[yG.1 r];exact kp _ vn
   obtain⟨d,b5,y,k5,x5,b1,b4,b8,b0⟩:=app;have z:=Cc (i:=i) (h:=d) (by omega);have a5:∃c,aaB (call AC (m+3)) b h'=.norm c d/\J 3 c=.slice (BY ⟨b5,0,By⟩) (i+1) (i+1)/\J 11 c=lv/\J 12 c=AI AT (ks.length:Int)/\J 13 c=AI AT ((i+1:Nat):Int):=by
    unfold aaB;simp only[sT,xT,sh,reduceIte,AK,AJ,t13,t12,U,BA,t11,ix,An,Ah,ld,al,AW,st,a9,cA0,k3,sl,Bb,t3,k5,BW,z];exact⟨_,rfl,by simp[AG,t11,t12]⟩
   obtain⟨c,C,D,r3,H,r5⟩:=a5;exact⟨a0,c,d,C,_,x5,D,r3,H,r5,by omega,.inr ⟨b5,y,by rw[a7,xY,B];rfl,b1,b4,b8,b0⟩⟩
  ·right
   have b9:i=ks.length:=by omega
   have U:=Cz (show ks.length<=i by omega);have a5:∃c,aaB (call AC (m+3)) b h'=.exit 0 c h'/\J 3 c=v:=by
    unfold aaB;simp only[sT,xT,sh,reduceIte,AK,AJ,t13,t12,U];exact⟨_,rfl,by simp[AG,t3]⟩
   obtain⟨c,C,D⟩:=a5;rw[C];rw[b9,yz]at l;exact⟨rfl,c,h',v,rfl,L,D,l⟩
 obtain⟨c,X,v,C,p,D,l⟩:=c6;have key:call AC (m+4) 40 [pt A.bs] h=.ok v X:=by
  rw[oe rfl,qx,q1,ma];simp only[A7,Ap,C,A5,Ay];unfold aaE;simp only[sT,xT,sh,reduceIte,D,lV0]
 exact⟨X,v,key,p,l⟩
end
def DW(ks:List Kt)(n:Nat)(a b c:Int)(l:List Nat):Option Int:=
 if AEz a b c 1 l.length=IT\/100<l.length then BY 2
 else match ks.find? (BL a b c)with
  |some d=>if d.l=l then BY 0 else BY 60
  |none=>if CA a b c ks=IN then BY 61 else if n=0 then BY 62 else By
section
variable {F:AEh}{e:Env}{h h':Hp}{A:At}{T M:List Nat}{c0 bad m k p:Nat}{arm:Int}{ks:List Kt}{fr:List Nat}{lv fv:xU}
theorem S2(q:h.Wf)(s:Sl h A T M c0 arm ks fr lv fv bad IT){a b c:Int}{l:List Nat}{u:xU}(S:h.VE u (l.map bv))(hl:l.length<=1000){z:Int}(d:DW ks fr.length a b c l=BY z):
  ∃h',call AC (m+8) 54 [pt A.bs,AI AT a,AI AT b,AI AT c,u] h=.ok (AI AT z) h'/\h.Ext h':=by
 have N:=s.le.1;have r:iNe 0 0=IT:=B0 rfl;have y:=ON (m:=m+6) s.row;obtain⟨K,o,B,Q,a5⟩:=On (n:=m+6) q S (by omega);have W:=a5.one;have bl:=λ(F:AEh) (e:Env) (I:J 1 e=AI AT a) (x:J 2 e=AI AT b) (U:J 3 e=AI AT c) (e4:J 28 e=o)=>RF (F:=F) (h:=K) (g1:=J 1) (g2:=J 2) (g3:=J 3) (g5:=J 28) I x U e4 W.1 W.2.2
 have j:=λ(F:AEh) (e:Env)=>BO (F:=F) (e:=e) Q.wf (n:=5) (t:=DV)
 have Ra:=Hp.Row.alloc Q.wf Fg (show(A9 0 0 0 0 AEk).length=5 from rfl);have y2:K.Ext (K.push (.cells DV 5 0)):=(Hp.Ext.refl Q.wf).push _;generalize K.push (.cells DV 5 0)=h2 at j Ra y2;obtain⟨k,_,y3,a1,n3⟩:=MA Q.wf y2 (xW _) Ra rfl (a:=a) (b:=b) (c:=c) (s:=1) (u:=o) W.2.1;generalize h2.wr K.next 0 (A9 a b c 1 o)=h3 at k y3 a1 n3;have X:=Q.trans y3;obtain⟨_,_,_,_,_,p⟩:=Bw a1;have b0:∀g,AFB o g=.ok (AI AT (l.length:Int)) g:=λg=>a5.vals.bl g
 have i:=KG (n:=m+6) X.wf (a:=a) (b:=b) (c:=c) (s:=1) (u:=o) b0;have y4:=(Hp.Ext.refl X.wf).AEg 0 (A9 a b c 1 o);generalize h3.AEg 0 (A9 a b c 1 o)=h4 at i y4;have E:=X.trans y4;have P:∀g:Hp,AFB u g=.ok (AI AT (l.length:Int)) g:=λg=>S.bl g
 obtain⟨_,_,O,_⟩:=BK (s.row.ext q E);have s4:=s.ext q E;unfold DW at d;by_cases R:AEz a b c 1 l.length=IT
 ·rw[If (.inl R)]at d
  cases d;rw[R]at i;refine⟨h4,?_,E⟩;rw[JE rfl,JJ];unfold OU;simp only[iN,xV,sT,xT,sh,reduceIte,gD,cA0,y,AK,AJ,r,B,bl,j,AW,k,An,Ah,p,i,BJ,BI,yg,lV0]
 ·have a7:AEz a b c 1 l.length=IN:=by
   cases hq:AEz a b c 1 l.length
   ·exact absurd hq R
   ·rfl
  rw[a7]at i;by_cases a0:100<l.length
  ·rw[If (.inr a0)]at d
   cases d;have w:iGt (l.length:Int) 100=IN:=GM (by omega);refine⟨h4,?_,E⟩;rw[JE rfl,JJ];unfold OU;simp only[iN,xV,sT,xT,sh,reduceIte,gD,cA0,y,AK,AJ,r,B,bl,j,AW,k,An,Ah,p,i,BJ,BI,yY,AX,P,Ax,Am,AH,AO,xZ,AN,AQ,O,w,lV0]
  ·rw[No (by
    rintro (h|h)
    ·exact R h
    ·exact a0 h)]at d
   have w:iGt (l.length:Int) 100=IT:=FW (by omega);obtain⟨h5,C,x5⟩:=GJ (m:=m+4) E.wf s4.row s4.ls.ks (by omega) a b c;have G:=E.trans x5;have s5:=s.ext q G;rcases EE (BL a b c) ks 0 with ⟨I,x⟩|⟨a8,D,I,x,U⟩
   ·rw[x]at C
    rw[I]at d;simp only at d;have H:iGe (-1) 0=IT:=EX (by omega);obtain⟨L,f,Z⟩:=G6 (m:=m+3) G.wf s5.row s5.ls.ks (by omega) a b c;have Y:=G.trans Z;have s6:=s.ext q Y;cases a3:CA a b c ks with
    |true=>
     rw[a3]at f d;cases d;refine⟨L,?_,Y⟩;rw[JE rfl,JJ];unfold OU;simp only[iN,xV,sT,xT,sh,reduceIte,gD,cA0,y,AK,AJ,r,B,bl,j,AW,k,An,Ah,p,i,BJ,BI,yY,AX,P,Ax,Am,AH,AO,xZ,AN,AQ,O,w,C,H,f,A7,Ap,CE,Cr,lV0]
    |false=>
     rw[a3]at f d;rw[No (by decide)]at d;by_cases V:fr.length=0
     ·rw[If V]at d
      cases d;obtain⟨_,_,_,_,l4,_⟩:=BK s6.row;have a4:=s6.fs.vals.len;have a6:(ints .i64 (fr.map zZ)).length=fr.length:=by unfold ints;rw[xa,xa]
      rw[a6,V]at a4;have c3:iEq ((0:Nat):Int) 0=IN:=CP rfl;refine⟨L,?_,Y⟩;rw[JE rfl,JJ];unfold OU;simp only[iN,xV,sT,xT,sh,reduceIte,gD,cA0,y,AK,AJ,r,B,bl,j,AW,k,An,Ah,p,i,BJ,BI,yY,AX,P,Ax,Am,AH,AO,xZ,AN,AQ,O,w,C,H,f,l4,a4,c3,A7,Ap,CE,Cr,lV0]
     ·rw[No V]at d;cases d
   ·rw[U,xZ]at C
    rw[I]at d;simp only at d;have H:iGe (a8:Int) 0=IN:=GL (by omega);obtain⟨_,_,_,l3,_⟩:=BK s5.row;obtain⟨bb,_,ix,_,a9⟩:=s5.ls.ks.at x;have lu:=a9 4 D.u rfl;have a2:=xy x;obtain⟨L,f,Z⟩:=Ov (m:=m+6) G.wf ((s5.ko D a2).1.vs.vals) (S.ext q G) (by have:=(s5.ko D a2).2.2.1;omega);have f:call AC (m+7) 93 [D.u,u] h5=.ok (.bool (decide (D.l=l))) L:=f;refine⟨L,?_,G.trans Z⟩;by_cases N:D.l=l
    ·rw[If N]at d
     cases d;rw[decide_eq_true N]at f;rw[JE rfl,JJ];unfold OU;simp only[iN,xV,sT,xT,sh,reduceIte,gD,cA0,y,AK,AJ,r,B,bl,j,AW,k,An,Ah,p,i,BJ,BI,yY,AX,P,Ax,Am,AH,AO,xZ,AN,AQ,O,w,C,H,l3,BA,ix,lu,zQ,f,lV0]
    ·rw[No N]at d
     cases d;rw[decide_eq_false N]at f;rw[JE rfl,JJ];unfold OU;simp only[iN,xV,sT,xT,sh,reduceIte,gD,cA0,y,AK,AJ,r,B,bl,j,AW,k,An,Ah,p,i,BJ,BI,yY,AX,P,Ax,Am,AH,AO,xZ,AN,AQ,O,w,C,H,l3,BA,ix,lu,zQ,f,lV0]
theorem dq(q:h.Wf)(s:Sl h A T M c0 arm ks fr lv fv bad IT){a b c:Int}{l:List Nat}{u:xU}(o:h.VE u (l.map bv))(C:∀x∈l,x<256)(G:l.length<=1000)(F:ks.length<=10)(B:CL arm (k+10)):
  (∃z h',DW ks fr.length a b c l=BY z/\call AC (m+8) 54 [pt A.bs,AI AT a,AI AT b,AI AT c,u] h=.ok (AI AT z) h'/\h.Ext h')\/
  (DW ks fr.length a b c l=By/\∃p f h' g e n i k',fr=p::f/\call AC (m+8) 54 [pt A.bs,AI AT a,AI AT b,AI AT c,u] h=.ok (AI AT 0) h'/\Fx A.D h h'/\
   Sl h' A T (EM T M p l (AFA T a b c 1 l)) g e (EH (ks++[k'])) f n i bad IT/\k'.core=⟨a,b,c,1,l,p⟩/\CL e k/\∀b,AE1 k'.u b->h.next<=b):=by
 cases d:DW ks fr.length a b c l with
 |some z=>
  obtain⟨h',K,S⟩:=S2 (m:=m) q s o G d;exact .inl ⟨z,h',rfl,K,S⟩
 |none=>
  right;unfold DW at d;split at d
  ·cases d
  rename_i r;have H:AEz a b c 1 l.length=IN:=by
   cases j:AEz a b c 1 l.length
   ·exact absurd (.inl j) r
   ·rfl
  have t:l.length<=100:=ADj λh=>r (.inr h)
  split at d
  ·split at d<;>cases d
  rename_i E;split at d
  ·cases d
  rename_i I;split at d
  ·cases d
  rename_i D;cases fr with
  |nil=>exact absurd rfl D
  |cons p f=>
   have y:ks.any (BL a b c)=IT:=by
    rw[List.any_eq_false];intro x J;exact AAH.1 E x J
   have w:CA a b c ks=IT:=by
    cases j:CA a b c ks
    ·rfl
    ·exact absurd j I
   obtain⟨h',g,e,n,i,k',L,N,O,P,Q,R⟩:=dr (m:=m) q s o C t H y w F B;exact⟨rfl,p,f,h',g,e,n,i,k',rfl,L,N,O,P,Q,R⟩
end
theorem gL:BQ 104 [] qI:=BR (by kernel_rfl) rfl
theorem ga:BQ 129 [] qd:=BR (by kernel_rfl) rfl
theorem gh:BQ 146 [] qp:=BR (by kernel_rfl) rfl
theorem gi:BQ 152 [.t (J 4)] qq:=BR (by kernel_rfl) rfl
def QR(x:Nat):List Nat->List Nat
 |[]=>[x]
 |y::a=>if x<y then y::QR x a else x::y::a
def OW(A:List Nat)(x:Nat):List Nat:=(QR x A.reverse).reverse
def ed:List Nat->List Nat->List Nat
 |A,[]=>A
 |A,b::a=>ed (OW A b) a
def Ec(l:List Nat):List Nat:=ed (l.take 1) (l.drop 1)
theorem LH(x y:Nat)(r:List Nat):QR x (y::r)=if x<y then y::QR x r else x::y::r:=rfl
theorem PH(x:Nat):∀l:List Nat,(QR x l).Perm (x::l)
 |[]=>.refl _
 |y::a=>by
  rw[LH];split
  ·exact((PH x a).cons y).trans (.swap x y a)
  ·exact .refl _
theorem PD(A:List Nat)(x:Nat):(OW A x).Perm (x::A):=by
 unfold OW;exact(AAL _).trans ((PH x _).trans ((AAL A).cons x))
theorem Pg:∀(B A:List Nat),(ed A B).Perm (A++B)
 |[],A=>by
  rw[yF];exact .refl _
 |x::B,A=>by
  show(ed (OW A x) B).Perm _;exact(Pg B _).trans (((PD A x).append_right B).trans AAt.symm)
theorem Ha(l:List Nat):(Ec l).Perm l:=by
 unfold Ec;have:=Pg (l.drop 1) (l.take 1)
 rwa [zi]at this
theorem PG{x:Nat}:∀{R Q:List Nat},(∀y∈R,x<y)->QR x (R++Q)=R++QR x Q
 |[],Q,_=>rfl
 |y::R,Q,a=>by
  rw[zK,LH,If (a y xp),PG λc b=>a c (xn _ b)];rfl
theorem XJ{x:Nat}{P Q:List Nat}(e:∀y∈Q,x<y)(d:P=[]\/∃a y,P=a++[y]/\¬x<y):OW (P++Q) x=P++x::Q:=by
 unfold OW;rw[AAc,PG λy b=>e y (List.mem_reverse.1 b)];have c:QR x P.reverse=x::P.reverse:=by
  rcases d with rfl|⟨a,y,rfl,b⟩
  ·rfl
  ·rw[AAc]
   show QR x (y::a.reverse)=_;rw[LH,No b];rfl
 rw[c,AAc,ACI,AA3,AA3,yD];rfl
def iv(l:List Nat):List xU:=ints .i64 (l.map zZ)
theorem El(l:List Nat):(iv l).length=l.length:=by unfold iv ints;rw[xa,xa]
theorem vD{l:List Nat}{j x:Nat}(h:l[j]? =BY x):(iv l)[j]? =BY (AI AT (x:Int)):=by
 unfold iv ints;rw[zE,zE,h];rfl
theorem kO{a:List xU}{j:Nat}{v:xU}(b:j<a.length):over a j [v]=a.set j v:=by
 unfold over;rw[List.set_eq_take_append_cons_drop,If b,yD];rfl
theorem sS{l:List Nat}{j x:Nat}:(iv l).set j (AI AT (x:Int))=iv (l.set j x):=by
 unfold iv ints;rw[ABX,ABX];rfl
section
variable {F:AEh}{e:Env}{h h':Hp}{S:Nat->Prop}{bl el n c m:Nat}{l:List Nat}{Z:List xU}
theorem MN(R:h.Row bl el (iv l++Z)){j x:Nat}(a:l[j]? =BY x):AEi ⟨bl,j,By⟩ h=.ok (AI AT (x:Int)) h:=by
 have b:=(yN.1 a).1;rw[R.AEi (off:=j) (by rw[xY,El];omega),xe,yL (by rw[El];exact b),vD a];rfl
theorem QV{j:Nat}(hj:j<n):AFV 1 (.slice (BY ⟨bl,0,By⟩) n c) (AI AT (j:Int)) h=.ok (.pointer (BY ⟨bl,j,By⟩)) h:=by
 have:=Cy (h:=h) (n:=n) (c:=c) (es:=1) (b:=bl) (off:=0) (i:=j) (k:=.i64) hj
 rwa [xZ,zw]at this
theorem cH(d:h.Wf)(R:h.Row bl el (iv l++Z))(o:256<=bl){j:Nat}(k:j<l.length)(x:Nat):
  ∃h',(∀(F:AEh) (e:Env) (g f:O),g e=.pointer (BY ⟨bl,j,By⟩)->f e=AI AT (x:Int)->Ac .free (AZ 1 g f) F e h=.ok AEl h')/\Fx (λb=>b=bl) h h'/\h'.Row bl el (iv (l.set j x)++Z)/\h'.next=h.next/\h'.mark=h.mark:=by
 have a:h.quiet.Row bl el (iv l++Z):=R.same rfl;have p:j+[yy .i64 (x:Int)].length<=(iv l).length:=by rw[El];exact k
 have c:j+[yy .i64 (x:Int)].length<=(iv l++Z).length:=by rw[xY];omega
 have i:=a.AEn (n:=1) (off:=j) (v:=AI AT (x:Int)) d.quiet o rfl (by rw[Cj];exact c) rfl;rw[Cj]at i;have wr:=a.AEt d.quiet c;rw[PU p,kO (by rw[El];exact k),sS]at wr;have fx:=Fx.wr (S:=λb=>b=bl) d.quiet a c rfl;have m:=a.AFP c;generalize h.quiet.wr bl j [yy .i64 (x:Int)]=s at i wr fx m;exact⟨h.back s,λF e g f q r=>BF (by rw[AW,q,r];exact i),(fx.from (h:=h) rfl rfl).same rfl rfl,wr.same rfl,m,rfl⟩
theorem jP{x y:Nat}:call AC (m+2) 152 [AI AT (x:Int),AI AT (y:Int)] h=.ok (.bool (decide (x<y))) h:=by
 have e:∀a:Int,call AC (m+1) 143 [AI AT a] h=.ok (.bool IT) h:=λa=>by
  have c:iNe a a=IT:=B0 rfl;rw[WL rfl];unfold iD;simp only[iN,xV,sT,xT,sh,reduceIte,AK,AJ,c,lV0]
 have d:iLt (x:Int) (y:Int)=decide (x<y):=by
  rw[Da];by_cases b:x<y
  ·rw[decide_eq_true b,decide_eq_true (by omega)]
  ·rw[decide_eq_false b,decide_eq_false (by omega)]
 rw[gi rfl];unfold qq;simp only[iN,xV,sT,xT,sh,reduceIte,gD,cA0,e,AK,AJ,d,lV0]
theorem Ut:nnB=ce:=rfl
theorem cf:noB=jb:=rfl
theorem iE:qp=aW:=rfl
theorem VU{i:Nat}{g:Hp}(hi:i<=1000000):Fp yi .i64 (AI AT ((i+1:Nat):Int)) (AI AT 1) g=.ok (AI AT (i:Int)) g:=by
 have:yi ((i+1:Nat):Int) 1=(i:Int):=by
  show((i+1:Nat):Int) - 1=_;omega
 rw[Cn,this,Bf (by omega)]
theorem et(u:h.Wf){P R:List Nat}{x y:Nat}(d:l=P++y::x::R)(t:h.Row bl el (iv l++Z))(p:256<=bl)(T:n=l.length)(S:l.length<=100000)
  (s0:J 0 e=.slice (BY ⟨bl,0,By⟩) n c)(s7:J 7 e=AI AT ((P.length+1:Nat):Int)):
  ∃a h',nwB F e h=.norm a h'/\Fx (λb=>b=bl) h h'/\h'.Row bl el (iv (P++x::y::R)++Z)/\∀j,j=0\/j=1\/j=2\/j=6\/j=7->J j a=J j e:=by
 have U:l.length=P.length+1+1+R.length:=by rw[d,xY,xh,xh];omega
 have f:h.marked.Row bl el (iv l++Z):=t.same rfl;have H:=MN f (j:=P.length+1) (x:=x) (by rw[d];exact J6);have I:=MN f (j:=P.length) (x:=y) (by rw[d];exact GS);have E:=λg:Hp=>QV (h:=g) (bl:=bl) (n:=n) (c:=c) (j:=P.length+1) (by omega)
 have G:=λg:Hp=>QV (h:=g) (bl:=bl) (n:=n) (c:=c) (j:=P.length) (by omega)
 have w:=λg:Hp=>VU (g:=g) (i:=P.length) (by omega)
 obtain⟨m,K,s,q,X,V⟩:=cH (j:=P.length+1) u.marked f p (by omega) y;have z:l.set (P.length+1) y=P++y::y::R:=by
  rw[d,show P++y::x::R=(P++[y])++x::R by simp,show P.length+1=(P++[y]).length by simp,KT];simp
 rw[z]at q;obtain⟨o,M,A,r,Y,W⟩:=cH (j:=P.length) s.wf q p (by rw[xY];simp) x;rw[KT]at r;have B:Fx (λb=>b=bl) h m:=s.from (h:=h) rfl rfl;have L:∀(F:AEh) (e:Env),J 47 e=.pointer (BY ⟨bl,P.length+1,By⟩)->J 42 e=AI AT (y:Int)->Ac .free (AZ 1 (J 47) (J 42)) F e h.marked=.ok AEl m:=λF e k b=>K F e _ _ k b
 have N:∀(F:AEh) (e:Env),J 48 e=.pointer (BY ⟨bl,P.length,By⟩)->J 46 e=AI AT (x:Int)->Ac .free (AZ 1 (J 48) (J 46)) F e m=.ok AEl o:=λF e k b=>M F e _ _ k b
 have D:∃a,nwB F e h=.norm a o/\∀j,j=0\/j=1\/j=2\/j=6\/j=7->J j a=J j e:=by
  unfold nwB;simp only[sT,xT,sh,reduceIte,Aw,B6,s7,w,BA,s0,G,AN,AQ,I,E,H,L,N];refine⟨_,rfl,λj C=>?_⟩;rcases C with rfl|rfl|rfl|rfl|rfl<;>simp only[AG,xT,sh,reduceIte]
 obtain⟨a,O,Q⟩:=D;exact⟨a,o,O,B.trans A,r,Q⟩
theorem Yj(X:h.Wf){A B:List Nat}{x:Nat}(W:h.Row bl el (iv (A++x::B)++Z))(V:256<=bl)(hn:n=(A++x::B).length)(hl:n<=1000)
  (s0:J 0 e=.slice (BY ⟨bl,0,By⟩) n c)(s1:J 1 e=AI AT 0)(s7:J 7 e=AI AT (A.length:Int)):
  ∃d h',A3 nnB (call AC (m+3)) e h=.exit 2 d h'/\Fx (λb=>b=bl) h h'/\h'.Row bl el (iv (OW A x++B)++Z)/\∀j,j=0\/j=1\/j=2\/j=6->J j d=J j e:=by
 have a0:(A++x::B).length=A.length+1+B.length:=by rw[xY,xh];omega
 refine Bd (I:=λi d g=>∃P Q,A=P++Q/\P.length+i=A.length/\Fx (λb=>b=bl) h g/\g.Row bl el (iv (P++x::(Q++B))++Z)/\(∀y∈Q,x<y)/\J 7 d=AI AT (P.length:Int)/\∀j,j=0\/j=1\/j=2\/j=6->J j d=J j e)
  (Q:=λa2=>∃d h',a2=.exit 2 d h'/\Fx (λb=>b=bl) h h'/\h'.Row bl el (iv (OW A x++B)++Z)/\∀j,j=0\/j=1\/j=2\/j=6->J j d=J j e) (A.length+1) (by omega) (λi d g ⟨P,Q,C,hP,fx,R,H,t7,u⟩=>?_) ⟨A,[],by rw[yF],rfl,.refl X,W,λy hy=>(by cases hy),s7,λ_ _=>rfl⟩
 have F:=fx.wf;have t0:=(u 0 (by omega)).trans s0;have t1:=(u 1 (by omega)).trans s1;rcases Xw P with rfl|⟨a,y,rfl⟩
 ·right
  have z:iGt ((([]:List Nat).length:Nat):Int) 0=IT:=FW (by decide);have s:∃l,nnB (call AC (m+3)) d g=.exit 2 l g.marked/\∀j,j=0\/j=1\/j=2\/j=6->J j l=J j d:=by
   rw[Ut];unfold ce;simp only[sT,xT,sh,reduceIte,gD,Aw,AK,AJ,t7,t1,z];refine⟨_,rfl,λj k=>?_⟩;rcases k with rfl|rfl|rfl|rfl<;>simp only[AG,xT,sh,reduceIte]
  obtain⟨l,q,p⟩:=s;rw[q];refine⟨rfl,l,_,rfl,fx.same rfl rfl,?_,λj k=>(p j k).trans (u j k)⟩;have:=XJ (x:=x) (P:=[]) (Q:=Q) H (.inl rfl);rw[C,this];have e5:([]++x::Q)++B=[]++x::(Q++B):=rfl;rw[e5];exact R.same rfl
 ·have S:(a++[y]).length=a.length+1:=by simp
  rw[S]at hP t7;have lA:A.length=a.length+1+Q.length:=by rw[C,xY,S]
  have eR:(a++[y])++x::(Q++B)=a++y::x::(Q++B):=by simp
  rw[eR]at R;have lL:(a++y::x::(Q++B)).length=n:=by
   rw[hn,a0,lA];simp only[xY,xh];omega
  have M:g.marked.Row bl el (iv (a++y::x::(Q++B))++Z):=R.same rfl;have T:=MN M (j:=a.length+1) (x:=x) J6;have U:=MN M (j:=a.length) (x:=y) GS;have N:=λg:Hp=>QV (h:=g) (bl:=bl) (n:=n) (c:=c) (j:=a.length+1) (by omega)
  have O:=λg:Hp=>QV (h:=g) (bl:=bl) (n:=n) (c:=c) (j:=a.length) (by omega)
  have z:iGt ((a.length+1:Nat):Int) 0=IN:=GM (by omega);have G:=λg:Hp=>VU (g:=g) (i:=a.length) (by omega)
  have k2:=jP (m:=m+1) (h:=g.marked.quiet) (x:=x) (y:=y);have t:∀e:Env,J 23 e=AI AT (x:Int)->J 28 e=AI AT (y:Int)->Ac .free (AS 152 [J 23,J 28]) (call AC (m+3)) e g.marked=.ok (.bool (decide (x<y))) (g.marked.back g.marked.quiet):=λe e1 l=>by
   refine BF ?_;rw[BX,AV,AV,A4,e1,l];exact k2
  have w:g.Ext (g.marked.back g.marked.quiet):=(Hp.Ext.refl F).marked.trans (.back (.refl F.marked.quiet));generalize g.marked.back g.marked.quiet=r at t w;have L:=R.ext F w;by_cases D:x<y
  ·left
   rw[decide_eq_true D]at t;have sw:∀l:Env,J 0 l=.slice (BY ⟨bl,0,By⟩) n c->J 7 l=AI AT ((a.length+1:Nat):Int)->∃f o,nwB (call AC (m+3)) l r=.norm f o/\Fx (λb=>b=bl) r o/\o.Row bl el (iv (a++x::y::(Q++B))++Z)/\∀j,j=0\/j=1\/j=2\/j=6\/j=7->J j f=J j l:=λl Y b=>et w.wf rfl L V lL.symm (by omega) Y b
   have s:∃f o,nnB (call AC (m+3)) d g=.norm f o/\Fx (λb=>b=bl) r o/\o.Row bl el (iv (a++x::y::(Q++B))++Z)/\J 7 f=AI AT (a.length:Int)/\∀j,j=0\/j=1\/j=2\/j=6->J j f=J j d:=by
    rw[Ut];unfold ce;simp only[sT,xT,sh,reduceIte,gD,Aw,AK,AJ,t7,t1,z,t0,BA,N,AN,AQ,T,B6,G,O,U,t,A7,Ap];obtain⟨f,o,q,f4,E,p⟩:=sw (Env.set 30 (.bool IN) (Env.set 29 (.bool IN) (Env.set 28 (AI AT (y:Int)) (Env.set 27 (.pointer (BY ⟨bl,a.length,By⟩)) (Env.set 26 (AI AT (a.length:Int)) (Env.set 25 (AI AT ((a.length+1:Nat):Int)) (Env.set 24 (.slice (BY ⟨bl,0,By⟩) n c) (Env.set 23 (AI AT (x:Int)) (Env.set 22 (.pointer (BY ⟨bl,a.length+1,By⟩)) (Env.set 21 (AI AT ((a.length+1:Nat):Int)) (Env.set 20 (.slice (BY ⟨bl,0,By⟩) n c) (Env.set 18 (.bool IN) d)))))))))))) (by simp[AG,t0]) (by simp[AG,t7]);have u7:J 7 f=AI AT ((a.length+1:Nat):Int):=(p 7 (by omega)).trans (by simp[AG,t7]);rw[q];simp only[Bt,Ay,sT,xT,sh,reduceIte,B6,u7,G];refine⟨_,_,rfl,f4,E,by simp[AG],λj k=>?_⟩;have:=p j (by omega);rcases k with rfl|rfl|rfl|rfl<;>simp only[AG,xT,sh,reduceIte]at this ⊢<;>exact this
   obtain⟨f,o,q,f4,E,r7,p⟩:=s;refine⟨by omega,f,o,q,a,y::Q,by rw[C];simp,by omega,(fx.trans (.of w)).trans f4,E,λa3 K=>?_,r7,λj k=>(p j k).trans (u j k)⟩;rcases yC.1 K with rfl|K
   ·exact D
   ·exact H a3 K
  ·right
   rw[decide_eq_false D]at t;have s:∃f,nnB (call AC (m+3)) d g=.exit 2 f r/\∀j,j=0\/j=1\/j=2\/j=6->J j f=J j d:=by
    rw[Ut];unfold ce;simp only[sT,xT,sh,reduceIte,gD,Aw,AK,AJ,t7,t1,z,t0,BA,N,AN,AQ,T,B6,G,O,U,t];refine⟨_,rfl,λj k=>?_⟩;rcases k with rfl|rfl|rfl|rfl<;>simp only[AG,xT,sh,reduceIte]
   obtain⟨f,q,p⟩:=s;rw[q];refine⟨rfl,f,r,rfl,fx.trans (.of w),?_,λj k=>(p j k).trans (u j k)⟩;rw[C,XJ H (.inr ⟨a,y,rfl,D⟩),yD,yD];exact L
theorem Y9(C:h.Wf){l:List Nat}(B:h.Row bl el (iv l++Z))(z:256<=bl)(V:n=l.length)(L:n<=1000):
  ∃h',call AC (m+4) 146 [.slice (BY ⟨bl,0,By⟩) n c,AI AT 0,AI AT (n:Int)] h=.ok AEl h'/\Fx (λb=>b=bl) h h'/\h'.Row bl el (iv (Ec l)++Z):=by
 have T:∀k:Env,J 0 k=.slice (BY ⟨bl,0,By⟩) n c->J 1 k=AI AT 0->J 2 k=AI AT (n:Int)->J 6 k=AI AT ((1:Nat):Int)->∃d h',A3 noB (call AC (m+3)) k h=.exit 0 d h'/\Fx (λb=>b=bl) h h'/\h'.Row bl el (iv (Ec l)++Z):=λk s0 s1 s2 s6=>by
  refine Bd (I:=λi d j=>∃a g,a.length+g.length=l.length/\(a.length=i+1\/(g=[]/\a.length<=i+1))/\ed a g=Ec l/\Fx (λb=>b=bl) h j/\j.Row bl el (iv (a++g)++Z)/\J 0 d=.slice (BY ⟨bl,0,By⟩) n c/\J 1 d=AI AT 0/\J 2 d=AI AT (n:Int)/\J 6 d=AI AT ((i+1:Nat):Int))
   (Q:=λq=>∃d h',q=.exit 0 d h'/\Fx (λb=>b=bl) h h'/\h'.Row bl el (iv (Ec l)++Z)) n (by omega) (λi d j ⟨a,g,x,K,y,fx,R,t0,t1,t2,t6⟩=>?_) ⟨l.take 1,l.drop 1,by rw[yP,yX];omega,?_,rfl,.refl C,by rw[zi];exact B,s0,s1,s2,s6⟩
  ·have D:=fx.wf
   cases g with
   |nil=>
    right;have w:a.length=n:=by simp only[yU]at x;omega
    have s:iLt ((i+1:Nat):Int) (n:Int)=IT:=Cz (by omega);have u:∃f,noB (call AC (m+3)) d j=.exit 0 f j:=by
     rw[cf];unfold jb;simp only[sT,xT,sh,reduceIte,AK,AJ,t6,t2,s];exact⟨_,rfl⟩
    obtain⟨f,p⟩:=u;rw[p];refine⟨rfl,f,j,rfl,fx,?_⟩;rw[<- y];rw[yF]at R;exact R
   |cons q g=>
    left;rw[xh]at x;have w:a.length=i+1:=by
     rcases K with t|⟨t,_⟩
     ·exact t
     ·cases t
    have s:iLt ((i+1:Nat):Int) (n:Int)=IN:=EU (by omega);obtain⟨G,o,M,H,A,r⟩:=Yj (m:=m) (e:=Env.set 7 (AI AT ((i+1:Nat):Int)) (Env.set 12 (.bool IN) d)) D R z (by rw[xY,xh];omega) L (by simp only[AG,xT,sh,reduceIte];exact t0) (by simp only[AG,xT,sh,reduceIte];exact t1) (by simp only[AG,xT,sh,reduceIte,w]);have g0:=r 0 (by omega);have g1:=r 1 (by omega);have g2:=r 2 (by omega);have g6:=r 6 (by omega);simp only[AG,xT,sh,reduceIte,t0]at g0;simp only[AG,xT,sh,reduceIte,t1]at g1;simp only[AG,xT,sh,reduceIte,t2]at g2;simp only[AG,xT,sh,reduceIte,t6]at g6;have F:GC .i64 (AI AT ((i+1:Nat):Int)) (AI AT 1) o=.ok (AI AT ((i+1+1:Nat):Int)) o:=Cc (by omega);have u:∃f,noB (call AC (m+3)) d j=.norm f o/\J 0 f=.slice (BY ⟨bl,0,By⟩) n c/\J 1 f=AI AT 0/\J 2 f=AI AT (n:Int)/\J 6 f=AI AT ((i+1+1:Nat):Int):=by
     rw[cf];unfold jb;simp only[sT,xT,sh,reduceIte,AK,AJ,t6,t2,s,M,g6,BW,F];exact⟨_,rfl,by simp only[AG,xT,sh,reduceIte];exact g0,by simp only[AG,xT,sh,reduceIte];exact g1,by simp only[AG,xT,sh,reduceIte];exact g2,by simp[AG]⟩
    obtain⟨f,p,N,O,P,S⟩:=u;have W:(OW a q).length=a.length+1:=(PD a q).length_eq;exact⟨by omega,f,o,p,OW a q,g,by omega,.inl (by omega),y,fx.trans H,A,N,O,P,S⟩
  ·cases l with
   |nil=>exact .inr ⟨rfl,yH _⟩
   |cons X l=>exact .inl rfl
 have E:GC .i64 (AI AT 0) (AI AT 1) h=.ok (AI AT ((1:Nat):Int)) h:=Cc (i:=0) (by omega);obtain⟨G,o,p,U⟩:=T (Env.set 6 (AI AT ((1:Nat):Int)) (Env.set 9 (AI AT ((1:Nat):Int)) (Au e0 0 [.slice (BY ⟨bl,0,By⟩) n c,AI AT 0,AI AT (n:Int)]))) (by simp only[iN,xV,AG,xT,sh,reduceIte]) (by simp only[iN,xV,AG,xT,sh,reduceIte]) (by simp only[iN,xV,AG,xT,sh,reduceIte]) (by simp[AG]);simp only[iN,xV]at p;refine⟨o,?_,U⟩;rw[gh rfl,iE];unfold aW;simp only[iN,xV,sT,xT,sh,reduceIte,BW,E,p,ET,EN]
theorem iC:qd=aV:=rfl
theorem ss:npB=su:=rfl
theorem eW(k:h.Wf){l:List Nat}(j:h.Row bl el (iv l++Z))(g:256<=bl)(s:n=l.length)(y:n<=12):
  ∃h',call AC (m+6) 104 [.slice (BY ⟨bl,0,By⟩) n c] h=.ok AEl h'/\Fx (λb=>b=bl) h h'/\h'.Row bl el (iv (Ec l)++Z):=by
 obtain⟨d,t,x,i⟩:=Y9 (m:=m) (c:=c) k j g s (by omega);obtain⟨f,u⟩:=Pw (m:=m+3) (h:=h) (n:=n) (by omega);have q:Ct .u64 (AI AT (n:Int)) h=.ok (.int .u64 (n:Int)) h:=by rw[Bu,DJ (by omega)]
 have o:Fp yi .i64 (AI AT (n:Int)) (AI AT 0) h=.ok (AI AT (n:Int)) h:=by
  have:yi (n:Int) 0=(n:Int):=Int.sub_zero _;rw[Cn,this,Bf (by omega)]
 have p:iLe (n:Int) 12=IN:=Gv (by omega);have w:call AC (m+5) 129 [.slice (BY ⟨bl,0,By⟩) n c,AI AT 0,AI AT (n:Int),AI AT (f:Int)] h=.ok AEl d:=by
  have r:∃e,npB (call AC (m+4)) (Env.set 9 (.bool IN) (Env.set 8 (.bool IN) (Au e0 0 [.slice (BY ⟨bl,0,By⟩) n c,AI AT 0,AI AT (n:Int),AI AT (f:Int)]))) h=.ret e d:=by
   rw[ss];unfold su;simp only[iN,xV,sT,xT,sh,reduceIte,B6,o,AK,AJ,p,cA0,t];exact⟨_,rfl⟩
  obtain⟨e,a⟩:=r;have a:=Nc a;simp only[iN,xV]at a;rw[ga rfl,iC];unfold aV;simp only[iN,xV,sT,xT,sh,reduceIte,a,Av,EN]
 refine⟨d,?_,x,i⟩;rw[gL rfl];unfold qI;simp only[iN,xV,sT,xT,sh,reduceIte,AX,EO,Bi,q,cA0,u,w,ET,EN]
end
theorem Zg{b n:Nat}:Ew ⟨b,0,By⟩ n=⟨b,n,By⟩:=by
 cases n with
 |zero=>rfl
 |succ a=>
  show(⟨b,0+(a+1),By⟩:Addr)=_;rw[xZ]
theorem UI(x:Kt):(Aj x).length=6:=rfl
theorem io{ks:List Kt}(c:∀k∈ks,oneCell k.u=IN):Bc (flK ks)=IN:=by
 induction ks with
 |nil=>rfl
 |cons k i h=>
  refine Qj λg e=>?_
  obtain⟨a,f,b⟩:=List.mem_flatMap.1 e;have d:=c a f;have b:g∈[yy .i64 a.a,AI AT a.b,AI AT a.c,.int .u8 (a.s:Int),a.u,AI AT (a.p:Int)]:=b;simp only[yC,ACW,or_false]at b;rcases b with rfl|rfl|rfl|rfl|rfl|rfl
  all_goals first|exact d|rfl
section
variable {F:AEh}{e:Env}{h h':Hp}{S:Nat->Prop}{m k n bl:Nat}{v:xU}
theorem Fq{x:O}{d N i:Nat}{K:Nat->R}(a:x e=AI AT (i:Int))(hi:i<=N):Cs e (BY x) d N K=K i:=by
 show(match Db (x e)with|.ok n=>(bif Nat.ble n N then K n else .no)|.no=>.no)=_;rw[a,Dm];simp only;rw[As.2 hi];rfl
theorem IJ{b lo hi c:Nat}(i:lo<c):Bz (BY ⟨b,0,By⟩) 6 lo hi c h=.ok (.slice (BY ⟨b,6*lo,By⟩) (hi - lo) (c - lo)) h:=by
 unfold Bz;simp only[Ao];have d:Nat.beq c lo=IT:=by
  cases g:Nat.beq c lo
  ·rfl
  ·have:=Nat.eq_of_beq_eq_true g;omega
 rw[d];simp only;cases lo with
 |zero=>rfl
 |succ a=>
  have e:yv (a+1) 6=xz (6*a+5):=by
   show(a+1)*6=_;omega
  rw[e];have f:Nat.add 0 (xz (6*a+5))=6*(a+1):=by
   show 0+(6*a+5+1)=_;omega
  simp only[f];rfl
theorem Wp{a:List xU}(R:h.Row bl 125 a):FG 124 (BY ⟨bl,0,By⟩) h=IN:=by
 obtain⟨c,b,_⟩:=R.rowOf;unfold FG;simp only[b];rfl
theorem hJ{lo hi c:Nat}{b:List xU}(R:h.Row bl 125 b)(a:lo<c):ES 124 6 (BY ⟨bl,0,By⟩) IT lo hi c h=.ok (.slice (BY ⟨bl,6*lo,By⟩) (hi - lo) (c - lo)) h:=by
 cases lo with
 |zero=>exact IJ a
 |succ d=>
  show(bif FG 124 (BY ⟨bl,0,By⟩) h then Bz (BY ⟨bl,0,By⟩) 6 (d+1) hi c h else .no)=_;rw[Wp R];exact IJ a
theorem YZ{P Q:List Kt}{x:Kt}(V:h.Wf)(R:h.Row bl 125 (flK (P++x::Q)))(z:256<=bl)(D:n=(P++x::Q).length)(hl:n<=100000)(hu:∀k∈P++x::Q,oneCell k.u=IN):
  ∃h',call AC (m+1) 127 [.slice (BY ⟨bl,0,By⟩) n n,AI AT (P.length:Int),AI AT ((P.length+1:Nat):Int)] h=.ok (.slice (BY ⟨bl,0,By⟩) (n - 1) n) h'/\Fx (λb=>b=bl) h h'/\h'.Row bl 125 (flK (P++Q)++Aj K0):=by
 have a0:n=P.length+1+Q.length:=by rw[D,xY,xh];omega
 have G:(flK (P++x::Q)).length=6*n:=by rw[Cu,D]
 have L:∀(F:AEh) (e:Env),J 0 e=.slice (BY ⟨bl,0,By⟩) n n->J 1 e=AI AT (P.length:Int)->J 2 e=AI AT ((P.length+1:Nat):Int)->J 12 e=AI AT (n:Int)->∃v,Dr 124 6 (J 0) (BY (J 1)) (BY (J 2)) (BY (J 12)) F e h=.ok v h:=λF e e0 f a t=>by
  show ∃v,(match J 0 e with|.slice j n c=>DY e n c (BY (J 1)) (BY (J 2)) (BY (J 12)) (λg d m=>ES 124 6 j IN g d m h)|_=>.no)=.ok v h;rw[e0];show ∃v,Cs e (BY (J 12)) n n (λm=>Cs e (BY (J 2)) n m λd=>Cs e (BY (J 1)) 0 d λg=>ES 124 6 (BY ⟨bl,0,By⟩) IN g d m h)=.ok v h;rw[Fq t (xW _),Fq a (by omega),Fq f (by omega)];exact⟨_,IJ (by omega)⟩
 have M:∀(F:AEh) (e:Env) (h:Hp),J 0 e=.slice (BY ⟨bl,0,By⟩) n n->J 1 e=AI AT (P.length:Int)->Dr 124 6 (J 0) By (BY (J 1)) By F e h=.ok (.slice (BY ⟨bl,0,By⟩) P.length n) h:=λF e h e0 f=>by
  show(match J 0 e with|.slice j n c=>DY e n c By (BY (J 1)) By (λg d m=>ES 124 6 j IT g d m h)|_=>.no)=_;rw[e0];show Cs e (BY (J 1)) n n (λd=>ES 124 6 (BY ⟨bl,0,By⟩) IT 0 d n h)=_;rw[Fq f (by omega)];exact IJ (lo:=0) (by omega)
 have y:=(Hp.Ext.refl V).marked;have U:h.marked.Row bl 125 (flK (P++x::Q)):=R.same rfl;have p:h.marked.quiet.Row bl 125 (flK (P++x::Q)):=R.same rfl;have I:((flK (P++x::Q)).drop (6*(P.length+1))).take (Q.length*6)=flK Q:=by
  have f:flK (P++x::Q)=flK (P++[x])++flK Q:=by rw[<- MM];simp
  have a:6*(P.length+1)=(flK (P++[x])).length:=by rw[Cu,xY];rfl
  rw[f,a,List.drop_left,List.take_of_length_le (by rw[Cu];omega)]
 obtain⟨src,N,a4,Z⟩:∃src,(∀(F:AEh) (e:Env),J 0 e=.slice (BY ⟨bl,0,By⟩) n n->J 2 e=AI AT ((P.length+1:Nat):Int)->Dr 124 6 (J 0) (BY (J 2)) By By F e h.marked=.ok src h.marked)/\(∀K:List xU->Go.Proofs.YtldjiljipddebaaGreat.R,BM h.marked.quiet 6 src Q.length K=K (flK Q))/\lenV src=.ok Q.length:=by
  have key:∀(F:AEh) (e:Env),J 0 e=.slice (BY ⟨bl,0,By⟩) n n->J 2 e=AI AT ((P.length+1:Nat):Int)->Dr 124 6 (J 0) (BY (J 2)) By By F e h.marked=Bz (BY ⟨bl,0,By⟩) 6 (P.length+1) n n h.marked:=λF e e0 a=>by
   show(match J 0 e with|.slice j n c=>DY e n c (BY (J 2)) By By (λg d m=>ES 124 6 j IT g d m h.marked)|_=>.no)=_;rw[e0];show Cs e (BY (J 2)) 0 n (λg=>ES 124 6 (BY ⟨bl,0,By⟩) IT g n n h.marked)=_;rw[Fq a (by omega)];show(bif FG 124 (BY ⟨bl,0,By⟩) h.marked then Bz (BY ⟨bl,0,By⟩) 6 (P.length+1) n n h.marked else .no)=_;rw[Wp U];rfl
  rcases yl Q.length with hq|hq
  ·obtain rfl:Q=[]:=zA hq
   have a1:n=P.length+1:=by rw[a0];rfl
   refine⟨.slice (BY ⟨bl,0,By⟩) 0 0,λF e e0 a=>?_,λK=>?_,rfl⟩
   ·rw[key F e e0 a,a1]
    unfold Bz;simp only[Ao,Nat.beq_refl];have:Nat.sub (P.length+1) (P.length+1)=0:=Nat.sub_self _;rw[this]
   ·have:=p.AGd (es:=6) (off:=0) (n:=0) (sl:=0) (c:=0) (k:=K) (by omega)
    exact this
  ·refine⟨.slice (BY ⟨bl,6*(P.length+1),By⟩) Q.length Q.length,λF e e0 a=>?_,λK=>?_,rfl⟩
   ·rw[key F e e0 a,IJ (by omega),show n - (P.length+1)=Q.length by omega]
   ·have:=p.AGd (es:=6) (off:=6*(P.length+1)) (n:=Q.length) (sl:=Q.length) (c:=Q.length) (k:=K) (by rw[G];omega)
    rw[this,I]
 have a2:Bc (flK Q)=IN:=io λk Y=>hu k (yc _ (xn _ Y))
 have u:6*P.length+(flK Q).length<=(flK (P++x::Q)).length:=by rw[G,Cu];omega
 have A:DU 6 64 124 (.slice (BY ⟨bl,0,By⟩) P.length n) src h.marked.quiet=.ok (.slice (BY ⟨bl,0,By⟩) (n - 1) n) (h.marked.quiet.wr bl (6*P.length) (flK Q)):=by
  unfold DU DL;simp only[Z,a4,Ao,Nat.add_eq];rw[As.2 (show P.length+Q.length<=n by omega)];simp only;have a:Ew ⟨bl,0,By⟩ (yv P.length 6)=⟨bl,6*P.length,By⟩:=by
   have:yv P.length 6=6*P.length:=zb _ _;rw[this,Zg]
  rw[a,p.store y.wf.quiet z u a2,show P.length+Q.length=n - 1 by omega]
 have wr:=p.AEt y.wf.quiet u;have fx:=Fx.wr (S:=λb=>b=bl) y.wf.quiet p u rfl;generalize h.marked.quiet.wr bl (6 * P.length) (flK Q)=r at A wr fx;obtain⟨l,X,a3⟩:∃l:List xU,l.length=6/\over (flK (P++x::Q)) (6 * P.length) (flK Q)=flK (P++Q)++l:=by
  refine⟨(flK (x::Q)).drop (6*Q.length),by rw[yX,Cu,xh];omega,?_⟩;unfold over;have f:flK (P++x::Q)=flK P++flK (x::Q):=MM _ _;have a:6*P.length=(flK P).length:=(Cu P).symm;have t:(flK Q).length=6*Q.length:=Cu Q;rw[t,f,a,ACy,AAQ,MM]
 rw[a3]at wr;have H:∀(F:AEh) (e:Env),J 22 e=.slice (BY ⟨bl,0,By⟩) P.length n->J 25 e=src->Ac .free (Bk 6 64 124 (J 22) (J 25)) F e h.marked=.ok (.slice (BY ⟨bl,0,By⟩) (n - 1) n) (h.marked.back r):=λF e f a=>by
  refine BF ?_;rw[Bb,f,a];exact A
 have q:Fx (λb=>b=bl) h (h.marked.back r):=((fx.from (h:=h.marked) rfl rfl).same (h2:=h.marked.back r) rfl rfl).from (h:=h) rfl rfl;have o:(h.marked.back r).Row bl 125 (flK (P++Q)++l):=wr.same rfl;generalize h.marked.back r=i at H q o;have E:(flK (P++Q)).length=6 * (n - 1):=by rw[Cu,xY];omega
 have O:∀(F:AEh) (e:Env),J 0 e=.slice (BY ⟨bl,0,By⟩) (n - 1) n->J 29 e=AI AT ((n - 1:Nat):Int)->J 7 e=AI AT (n:Int)->Dr 124 6 (J 0) (BY (J 29)) (BY (J 7)) By F e i=.ok (.slice (BY ⟨bl,6*(n - 1),By⟩) 1 1) i:=λF e e0 f a=>by
  show(match J 0 e with|.slice j n c=>DY e n c (BY (J 29)) (BY (J 7)) By (λg d m=>ES 124 6 j IT g d m i)|_=>.no)=_;rw[e0];show Cs e (BY (J 7)) (n - 1) n (λd=>Cs e (BY (J 29)) 0 d λg=>ES 124 6 (BY ⟨bl,0,By⟩) IT g d n i)=_;rw[Fq a (xW _),Fq f (by omega),hJ o (by omega),show n - (n - 1)=1 by omega]
 have s:6*(n - 1)+(Aj K0).length<=(flK (P++Q)++l).length:=by rw[xY,E,X];exact xW _
 have B:∀(F:AEh) (e:Env),J 31 e=.slice (BY ⟨bl,6*(n - 1),By⟩) 1 1->Nl EA.zero (J 31) F e i=.ok AEl (i.wr bl (6*(n - 1)) (Aj K0)):=λF e f=>by
  show(match J 31 e with|.slice By _ _=>EV i|.slice (BY j) n _=>(match n with| 0=>EV i|xz k=>DA j (BP EA.zero (xz k)) i EV)|_=>.no)=_;rw[f];show DA ⟨bl,6*(n - 1),By⟩ (BP EA.zero 1) i EV=_;rw[YH,o.store q.wf z s rfl];rfl
 have w:=o.AEt q.wf s;have C:=Fx.wr (S:=λb=>b=bl) q.wf o s rfl;have T:over (flK (P++Q)++l) (6*(n - 1)) (Aj K0)=flK (P++Q)++Aj K0:=by
  unfold over;rw[<- E,ACy,AAQ,UI,ym (by omega),yF]
 rw[T]at w;generalize i.wr bl (6 * (n - 1)) (Aj K0)=h2 at B w C;refine⟨h2,?_,q.trans C,w⟩;have W:iEq (P.length:Int) ((P.length+1:Nat):Int)=IT:=CF (by omega);rw[gZ rfl];unfold qc;simp only[iN,xV,sT,xT,sh,reduceIte,AX,EO];obtain⟨v,hv⟩:=L (call AC m) (Env.set 12 (AI AT (n:Int)) (Env.set 6 (.slice By 0 0) (Env.set 2 (AI AT ((P.length+1:Nat):Int)) (Env.set 1 (AI AT (P.length:Int)) (Env.set 0 (.slice (BY ⟨bl,0,By⟩) n n) e0))))) (by simp[AG]) (by simp[AG]) (by simp[AG]) (by simp[AG]);rw[hv];simp only[sT,xT,sh,reduceIte,AK,AJ,W,AX,EO,Aw,M,N,H,O,B,lV0]
end
theorem Fx.xt{S:Nat->Prop}{h h':Hp}(x:Fx S h h')(a:∀b,S b->h.next<=b):h.Ext h':=⟨x.next,λc e=>x.get c e λf=>by have:=a c f;omega,x.low _ (Nat.min_le_left _ _) (ABI _ _) λb d=>yS (ABI _ _) (a b d),x.wf⟩
theorem Fx.xtF{S:Nat->Prop}{h0 h h':Hp}(c:h0.Ext h)(x:Fx S h h')(a:∀b,S b->h0.next<=b):h0.Ext h':=Fx.xt (S:=S) ((Fx.of c).trans x) a
theorem cF(a b:List Nat):iv (a++b)=iv a++iv b:=by unfold iv ints;rw[yZ,yZ]
section
variable {F:AEh}{e:Env}{h h':Hp}{A:At}{T M:List Nat}{c0 bad m k p n bl:Nat}{arm:Int}{fr:List Nat}{v lv fv:xU}
theorem pr{n z:Nat}(za:h.Wf){u:xU}{xs:List Nat}(V:h.AE7 u (iv xs))(hl:xs.length<=1000):
  ∃h1 w h2 b,call AC (n+1) 99 [u] h=.ok w h1/\h.Ext h1/\DU 1 8 3 w (.slice (BY ⟨h1.next,0,By⟩) 1 1) (h1.AEg 0 [AI AT (z:Int)])=.ok (.slice (BY ⟨b,0,By⟩) (xs.length+1) (xs.length+1)) h2/\h.Ext h2/\h2.Row b 4 (iv (xs++[z]))/\h.next<=b:=by
 have ha:Bc (iv xs)=IN:=Hn .i64 _;have fin:∀(h1:Hp) (w:xU),h.Ext h1->(h1.Own h.next 3 w (iv xs)\/(xs=[]/\∃b,w=.slice (BY ⟨b,0,By⟩) 0 0/\h1.Row b 0 []))->∃h2 b,DU 1 8 3 w (.slice (BY ⟨h1.next,0,By⟩) 1 1) (h1.AEg 0 [AI AT (z:Int)])=.ok (.slice (BY ⟨b,0,By⟩) (xs.length+1) (xs.length+1)) h2/\h.Ext h2/\h2.Row b 4 (iv (xs++[z]))/\h.next<=b:=λh1 w x1 o=>by
  have y2:=(Hp.Ext.refl x1.wf).AEg 0 [yy .i64 (z:Int)];have Rw:=Hp.Row.new x1.wf 0 [yy .i64 (z:Int)];have hlt:h1.next<(h1.AEg 0 [yy .i64 (z:Int)]).next:=Nat.lt_succ_self _;generalize h1.AEg 0 [yy .i64 (z:Int)]=g at y2 Rw hlt;have x2:=x1.trans y2;have Vz:g.AE7 (.slice (BY ⟨h1.next,0,By⟩) 1 1) [AI AT (z:Int)]:=.inr ⟨h1.next,0,1,0,_,rfl,Rw,xW _,rfl⟩;rcases o with o|⟨rfl,b,rfl,r⟩
  ·obtain⟨h2,v',a1,a2,a3,a4,_⟩:=E7 (eb:=8) (en:=3) (k:=h.next) x2 (xW _) (by have:=x1.next;omega) (o.ext x1.wf y2) Vz (AES) rfl (by rw[El];show(xs.length+1+1)*9<=_;omega)
   rcases a3 with ⟨_,h2'⟩|⟨b,h1',h2',h3',h4'⟩
   ·have:=congrArg AAC h2'
    simp at this
   ·have e1:(iv xs++[yy .i64 (z:Int)]).length=xs.length+1:=by rw[xY,El];rfl
    rw[e1]at h1';subst h1';exact⟨h2,b,a1,a2,by rw[cF];exact h2',h3'⟩
  ·have hs:∀K:List xU->Go.Proofs.YtldjiljipddebaaGreat.R,BM g 1 (.slice (BY ⟨h1.next,0,By⟩) 1 1) 1 K=K [AI AT (z:Int)]:=λK=>Rw.AGd (es:=1) (off:=0) (n:=1) (xW _)
   obtain⟨h2,a1,a2,a3,a4,_⟩:=E4 (eb:=8) (en:=3) x2 (r.ext x1.wf y2) hs rfl rfl (by omega) rfl (by omega);exact⟨h2,g.next,a1,a2,a3,by have:=x2.next;omega⟩
 rcases V with ⟨rfl,hx⟩|⟨b,off,c,el,L,h1,h2,h3,h4⟩
 ·have hx0:xs=[]:=by
   have:=congrArg AAC hx;rw[El]at this;exact zA this
  have ne:∀e:Env,J 0 e=.slice By 0 0->oEq VY.k IT (J 0) (W (.slice By 0 0)) (call AC n) e h=.ok (.bool IN) h:=λe he=>J5 (t:=0) YA he
  have k1:call AC (n+1) 99 [.slice By 0 0] h=.ok AEk h:=by
   rw[Kx rfl];unfold d99;simp only[iN,xV,sT,xT,sh,reduceIte,ne,lV0]
  obtain⟨h2,b,q1,q2,q3,q4⟩:=fin h AEk (.refl za) (.inl (.inl ⟨rfl,hx⟩));exact⟨h,AEk,h2,b,k1,.refl za,q1,q2,q3,q4⟩
 ·have V:h.AE7 u (iv xs):=.inr ⟨b,off,c,el,L,h1,h2,h3,h4⟩
  have x1:=(Hp.Ext.refl za).AEg 0 [];have R:=Hp.Row.new za 0 [];have es:=λ(e:Env) (t:List xU)=>K7 (F:=call AC n) (e:=e) (t:=t) za
  have n1:(h.AEg 0 []).next=h.next+1:=rfl;generalize h.AEg 0 []=g at x1 R es n1;have ne:∀e:Env,J 0 e=u->oEq VY.k IT (J 0) (W (.slice By 0 0)) (call AC n) e h=.ok (.bool IT) h:=λe he=>J4 (t:=0) YA (he.trans h1)
  have V1:=V.ext za x1;have big:=za.big;rcases yl xs.length with hz|hz
  ·obtain rfl:xs=[]:=zA hz
   have ap:DU 1 8 3 (.slice (BY ⟨h.next,0,By⟩) 0 0) u g=.ok (.slice (BY ⟨h.next,0,By⟩) 0 0) (g.wr h.next 0 []):=IA x1.wf big R (λk=>V1.src rfl k) V1.lenV;have R2:=R.AEt x1.wf (off:=0) (vs:=[]) (xW _);have x2:=R.AFC x1 (xW _) (off:=0) (vs:=[]) (xW _);have k1:call AC (n+1) 99 [u] h=.ok (.slice (BY ⟨h.next,0,By⟩) 0 0) (g.wr h.next 0 []):=by
    rw[Kx rfl];unfold d99;simp only[iN,xV,sT,xT,sh,reduceIte,ne,es,Bb,ap,lV0]
   obtain⟨h2,b,q1,q2,q3,q4⟩:=fin _ (.slice (BY ⟨h.next,0,By⟩) 0 0) x2 (.inr ⟨rfl,h.next,rfl,R2⟩);exact⟨_,_,h2,b,k1,x2,q1,q2,q3,q4⟩
  ·have hlv:=V1.lenV
   rw[El]at hlv;obtain⟨h2,a1,a2,a3,a4,a5⟩:=E4 (eb:=8) (en:=3) (n:=xs.length) x1 R (es:=1) (λk=>by have:=V1.src rfl k;rwa [El]at this) hlv (by rw[El];omega) hz ha (by omega);have k1:call AC (n+1) 99 [u] h=.ok (.slice (BY ⟨g.next,0,By⟩) xs.length xs.length) h2:=by
    rw[Kx rfl];unfold d99;simp only[iN,xV,sT,xT,sh,reduceIte,ne,es,Bb,a1,lV0]
   obtain⟨h3,b,q1,q2,q3,q4⟩:=fin h2 (.slice (BY ⟨g.next,0,By⟩) xs.length xs.length) a2 (.inl (.inr ⟨g.next,by rw[El],a3,by omega,by omega⟩));exact⟨h2,_,h3,b,k1,a2,q1,q2,q3,q4⟩
theorem XA{P Q:List Kt}{x:Kt}(K:h.Wf)(s:Sl h A T M c0 arm (P++x::Q) fr lv fv bad IT)(a9:(P++x::Q).length<=100)(c6:fr.length<=11)(b1:3*x.p+3<=A.n):
  ∃h' l p,call AC (m+7) 101 [pt A.bs,AI AT (P.length:Int)] h=.ok (AI AT (x.p:Int)) h'/\Fx (λb=>b=A.bs) h h'/\Sl h' A T M c0 arm (P++Q) (Ec (fr++[x.p])) l p bad IT/\∀b,AE1 p b->h.next<=b:=by
 have hD:=s.AHJ K;have hu:∀k∈P++x::Q,oneCell k.u=IN:=λk B=>(s.ko k B).1.vs.one.2.1
 obtain⟨_,_,_,l3,_⟩:=BK s.row;obtain⟨b0,_,ix,_,b9⟩:=s.ls.at (i:=P.length) (k:=x) GS;have lp:=b9 5 (AI AT (x.p:Int)) rfl;obtain⟨g,c4,k1,x1,ko⟩:=WN (m:=m+5) K s.ls hu (by omega);obtain⟨bl,hw,Rb,V,a7⟩:∃bl,c4=.slice (BY ⟨bl,0,By⟩) (P++x::Q).length (P++x::Q).length/\g.Row bl 125 (flK (P++x::Q))/\h.next<=bl/\256<=bl:=by
  rcases ko with (⟨_,q⟩|q)|⟨q,_⟩
  ·have:=congrArg AAC q
   simp at this
  ·exact q
  ·have:=congrArg AAC q
   simp at this
 subst hw;obtain⟨q,k2,f2,R2⟩:=YZ (m:=m+5) x1.wf Rb a7 rfl (by omega) hu;have u:h.Ext q:=Fx.xtF x1 f2 λb d=>by rw[d];exact V
 have s2:=s.ext K u;have Y:∀b,h.next<=b->¬A.D b:=λb d hd=>by have:=hD b hd;omega
 have D:∀b,¬A.D b->b≠A.bs:=λb d h=>d (.inl h)
 have b8:(P++x::Q).length=(P++Q).length+1:=by simp only[xY,xh];omega
 generalize O:(ACF (BY ⟨bl,0,By⟩) ((P++x::Q).length - 1) (P++x::Q).length)=l at k2;obtain⟨U,c2,N,n3,r,_⟩:=Ei (v:=l) u.wf s2.row (off:=3) (show 3<7 by omega) s.ne.2.2.2.2 (by rw[<- O];rfl) (by rw[<- O];rfl);have N:U.Row A.bs 0 (slL A.bd A.tb l fv bad IT):=N;have s3:Sl U A T M c0 arm (P++Q) fr l fv bad IT:=s2.bsx u.wf r N (by
   rw[<- O];exact(Qr (n:=(P++x::Q).length - 1) (c:=(P++x::Q).length) (r.row u.wf R2 (D _ (Y _ V))) (by omega) (by omega)).mono λb d=>by rw[show b=bl from d];exact Y _ V)
  (λk B=>by
   have a4:k∈P++x::Q:=by
    rcases yO.1 B with g|g
    ·exact yh _ g
    ·exact yc _ (xn _ g)
   exact⟨(s2.ko k a4).1.keep λb a f d _ j=>r.row u.wf j (D b d),(s2.ko k a4).2⟩)
  (s2.fs.keep λb a f d j=>r.row u.wf j (D b d)) ⟨by have:=s.le.1;omega,s.le.2⟩
 obtain⟨_,_,_,_,l4,_⟩:=BK s3.row;obtain⟨h4,w4,h5,b5,k4,x4,a5,w,R5,c5⟩:=pr (n:=m+5) (z:=x.p) r.wf (xs:=fr) s3.fs.vals (by omega);have bs:=λ(F:AEh) (e:Env) (W:J 5 e=AI AT (x.p:Int))=>Id (F:=F) x4.wf W
 have s5:=s3.ext r.wf w;generalize y:(ACF (BY ⟨b5,0,By⟩) (fr.length+1) (fr.length+1))=p at a5;obtain⟨E,c3,R,n6,t,_⟩:=Ei (v:=p) w.wf s5.row (off:=4) (show 4<7 by omega) s.ne.2.2.2.2 (by rw[<- y];rfl) (by rw[<- y];rfl);have R:E.Row A.bs 0 (slL A.bd A.tb l p bad IT):=R;have a2:h.next<=b5:=by have:=u.next;have:=r.next;omega
 have a0:=Y _ a2;have I:=t.row w.wf R5 (D _ a0);have a8:256<=b5:=by have:=K.big;omega
 have c1:(iv (fr++[x.p])).length=fr.length+1:=by rw[El,xY];rfl
 have a3:∀H∈fr++[x.p],3*H+3<=A.n:=λH X=>by
  rcases yO.1 X with g|g
  ·exact s.le.2.2.2 H g
  ·rw[yG.1 g];exact b1
 have s6:Sl E A T M c0 arm (P++Q) (fr++[x.p]) l p bad IT:=s5.bsx w.wf t R (s5.ls.keep λb a f d j=>t.row w.wf j (D b d)) (λk B=>⟨(s5.ko k B).1.keep λb a f d _ j=>t.row w.wf j (D b d),(s5.ko k B).2⟩)
  (by
   rw[<- y];refine .inr ⟨b5,4,?_,I,.inl rfl,a0⟩;show _=ACF _ (iv (fr++[x.p])).length (iv (fr++[x.p])).length;rw[c1]) ⟨s5.le.1,by rw[xY];show fr.length+1<=1000;omega,s5.le.2.2.1,a3⟩
 obtain⟨_,_,_,_,b7,_⟩:=BK s6.row;obtain⟨G,k7,S,R7⟩:=eW (m:=m) (Z:=[]) (n:=fr.length+1) (c:=fr.length+1) t.wf (by rw[yF];exact I) a8 (by rw[xY];rfl) (by omega);rw[yF]at R7;rw[y]at k7;have pm:=Ha (fr++[x.p]);have L:∀b a f,b≠b5->E.Row b a f->G.Row b a f:=λb a f d j=>S.row t.wf j d
 have C:∀b a f,(a=0\/a=6\/a=125)->E.Row b a f->b≠b5:=λb a f W j=>FZ j I (by omega)
 have s7:Sl G A T M c0 arm (P++Q) (Ec (fr++[x.p])) l p bad IT:=by
  refine⟨L _ _ _ (C _ _ _ (.inl rfl) s6.row) s6.row,s6.dk.fr t.wf S (C _ _ _ (.inl rfl) s6.dk.disk) (C _ _ _ (.inl rfl) s6.dk.med) (λh=>(KH I s6.dk.map) h.symm),L _ _ _ (C _ _ _ (.inl rfl) s6.tab) s6.tab,s.tok,?_,λa6 hy=>⟨(s6.ko a6 hy).1.keep λb a f d W j=>L b a f (C b a f (by omega) j) j,(s6.ko a6 hy).2⟩,?_,s.ne,?_⟩
  ·rcases s6.ls with g|⟨b,c,a,f,q1,q2,q3,q4,q5,q6,q7⟩
   ·exact .inl g
   ·exact .inr ⟨b,c,a,f,q1,q2,L _ _ _ (C b a _ (by omega) q3) q3,q4,q5,q6,q7⟩
  ·rw[<- y]
   refine .inr ⟨b5,4,?_,R7,.inl rfl,a0⟩;show _=ACF _ (iv (Ec (fr++[x.p]))).length (iv (Ec (fr++[x.p]))).length;rw[El,pm.length_eq,xY];rfl
  ·exact⟨s6.le.1,by rw[pm.length_eq];exact s6.le.2.1,s6.le.2.2.1,λH X=>a3 H (pm.mem_iff.1 X)⟩
 have fx:Fx (λb=>b=A.bs) h G:=by
  have o:Fx (λb=>b=A.bs) h q:=.of u;have e2:=((o.trans r).trans (.of w)).trans t;exact e2.fresh S a2
 refine⟨G,l,p,?_,fx,s7,λb d=>by
  obtain⟨off,n,c,o⟩:=d;rw[<- y]at o;injection o with o _ _
  injection o with o
  injection o with o _ _
  omega⟩
 have a1:=Cc (i:=P.length) (h:=g) (by have:=b8;simp only[xY]at a9;omega);have b2:call AC (m+6) 100 [lv] h=.ok (.slice (BY ⟨bl,0,By⟩) (P++x::Q).length (P++x::Q).length) g:=k1;have b3:call AC (m+6) 127 [.slice (BY ⟨bl,0,By⟩) (P++x::Q).length (P++x::Q).length,AI AT (P.length:Int),AI AT ((P.length+1:Nat):Int)] g=.ok l q:=k2;have b4:call AC (m+6) 99 [fv] U=.ok w4 h4:=k4;have b6:call AC (m+6) 104 [p] E=.ok AEl G:=k7;rw[gJ rfl];unfold qG;simp only[iN,xV,sT,xT,sh,reduceIte,Ax,Am,AH,AO,xZ,AN,AQ,l3,BA,ix,lp,cA0,b2,BW,a1,b3,AW,c2,l4,b4,bs,Bb,a5,c3,b7,b6,lV0]
theorem dV{P Q:List Kt}{x:Kt}(a:h.Wf)(s:Sl h A T M c0 arm (P++x::Q) fr lv fv bad IT)(H:(P++x::Q).length<=100)(G:fr.length<=11)(q:3*x.p+3<=A.n)(D:CL arm (k+2)):
  ∃h' c j g d,call AC (m+8) 102 [pt A.bs,AI AT (P.length:Int)] h=.ok (AI AT 0) h'/\Fx A.D h h'/\Sl h' A T (IK M [x.p]) c j (P++Q) (Ec (fr++[x.p])) g d bad IT/\CL j k:=by
 obtain⟨_,_,_,R,_⟩:=BK s.row;obtain⟨V,_,K,_,S⟩:=s.ls.at (i:=P.length) (k:=x) GS;have U:=S 5 (AI AT (x.p:Int)) rfl;have n:=λ(F:AEh) (e:Env) (E:J 14 e=AI AT (x.p:Int))=>Id (F:=F) a E
 have b:=(Hp.Ext.refl a).AEg 0 [yy .i64 (x.p:Int)];have l:=Hp.Row.new a 0 [yy .i64 (x.p:Int)];generalize h.AEg 0 [yy .i64 (x.p:Int)]=z at n b l;have s1:=s.ext a b;obtain⟨B,c,r,L,o,s2,t⟩:=Pj (m:=m+1) (k:=k) b.wf s1 (ps:=[x.p]) (pv:=.slice (BY ⟨h.next,0,By⟩) 1 1) (.inr ⟨h.next,0,1,0,_,rfl,l,xW _,rfl⟩) (λp I=>by rw[yG.1 I];exact q) (by simp) (by show 1<=50;omega) (D.le (by show 1+1+k<=k+2;omega));obtain⟨C,g,d,O,y,s3,_⟩:=XA (m:=m) o.wf s2 H G q;have w:iNe 0 0=IT:=B0 rfl;have N:call AC (m+7) 77 [pt A.bs,.slice (BY ⟨h.next,0,By⟩) 1 1] z=.ok (AI AT 0) B:=L;refine⟨C,c,r,g,d,?_,((Fx.of b).trans (o.mono λu f=>.inr f)).trans (y.mono λu f=>.inl f),s3,t⟩;rw[gK rfl];unfold qH;simp only[iN,xV,sT,xT,sh,reduceIte,Ax,Am,AH,AO,xZ,AN,AQ,R,BA,K,U,n,cA0,N,AK,AJ,w,O,lV0]
end
def Dt(ks:List Kt)(a b c:Int):Option Int:=match ks.find? (BL a b c)with
 |some d=>if d.s=2 then BY 0 else if CA a b c ks=IN then BY 61 else By
 |none=>if CA a b c ks=IN then BY 61 else BY 60
def elB(a b c:Int)(k:Kt):Bool:=decide (k.a=a) && decide (k.b=b) && decide (k.c<c)
def frE(fr:List Nat)(out:List Kt):List Nat:=out.foldl (λa b=>Ec (a++[b.p])) fr
theorem Rv(fr:List Nat)(out:List Kt)(x:Kt):frE fr (out++[x])=Ec (frE fr out++[x.p]):=by unfold frE;rw[ACJ];rfl
theorem Jz:∀(out:List Kt) (fr:List Nat),(frE fr out).Perm (fr++out.map (·.p))
 |[],fr=>by rw[List.map_nil,yF];exact .refl _
 |x::out,fr=>by
  show(frE (Ec (fr++[x.p])) out).Perm _;have:=Jz out (Ec (fr++[x.p]));refine this.trans (((Ha _).append_right _).trans ?_);rw[yD];exact .refl _
theorem Ww(fr:List Nat)(out:List Kt):(frE fr out).length=fr.length+out.length:=by rw[(Jz out fr).length_eq,xY,xa]
theorem NG{a:Type}(P:a->Bool)(l:List a)(x:a):(l++[x]).filter P=if P x=IN then l.filter P++[x]else l.filter P:=by
 rw[ABv];cases b:P x
 ·rw[No (by decide),zN (by rw[b];decide),AA2,yF]
 ·rw[If rfl,zM b,AA2]
theorem Fx.drop{S:Nat->Prop}{h h':Hp}(x:Fx (λb=>S b\/h.next<=b) h h'):Fx S h h':=⟨x.next,λi f g=>x.get i f (λc=>c.elim g (λd=>by omega)),x.wf,λa j k l=>x.low a j k λb e=>e.elim (l b) (λd=>by omega)⟩
theorem Hp.WI.blk{h:Hp}{S:Nat->Prop}{v:xU}{xs:List xU}(o:h.WI S v xs){b:Nat}(f:AE1 v b):∃el d,h.Row b el d:=by
 obtain⟨_,_,_,a⟩:=f;rcases o with ⟨c,_⟩|⟨g,el,c,e,_⟩
 ·rw[c]at a;cases a
 ·rw[c]at a
  injection a with a _ _
  injection a with a
  injection a with a _ _
  exact⟨el,_,a ▸ e⟩
section
variable {F:AEh}{e:Env}{h h':Hp}{S:Nat->Prop}{A:At}{T M:List Nat}{c0 bad m k p n bl:Nat}{arm:Int}{ks:List Kt}{fr:List Nat}{v lv fv:xU}{ov:Bool}
theorem Hp.Own.fx{en:Nat}{xs:List xU}(o:h.Own k en v xs)(d:h.Wf)(x:Fx S h h')(g:∀b,k<=b->¬S b):h'.Own k en v xs:=by
 rcases o with a|⟨b,a,e,c,f⟩
 ·exact .inl a
 ·exact .inr ⟨b,a,x.row d e (g b c),c,f⟩
theorem Hp.Own.AKu{en:Nat}{xs:List xU}(o:h.Own k en v xs)(c:h.Wf){b:Nat}(f:AE1 v b):b<h.next:=by
 obtain⟨_,_,_,e⟩:=f;rcases o with ⟨a,_⟩|⟨g,a,d,_⟩
 ·rw[a]at e;cases e
 ·rw[a]at e
  injection e with e _ _
  injection e with e
  injection e with e _ _
  exact e ▸ d.lt c
theorem Sl.app{w:xU}{xs:List xU}(s:Sl h A T M c0 arm ks fr lv fv bad ov)(o:h.Own k 3 w xs)(d:∀b el a,¬AE1 w b->h.Row b el a->h'.Row b el a)(u:h'.bl.get A.bc=h.bl.get A.bc)(t:∀b,AE1 fv b->¬AE1 w b):Sl h' A T M c0 arm ks fr lv fv bad ov:=by
 have nb:∀b el a,(el=0\/el=6\/el=125)->h.Row b el a->¬AE1 w b:=λb el a r f i=>by
  obtain⟨_,_,_,e⟩:=i;rcases o with ⟨c,_⟩|⟨E,c,g,_⟩
  ·rw[c]at e;cases e
  ·rw[c]at e
   injection e with e _ _
   injection e with e
   injection e with e _ _
   exact FZ f g (by omega) e.symm
 refine⟨d _ _ _ (nb _ _ _ (.inl rfl) s.row) s.row,⟨d _ _ _ (nb _ _ _ (.inl rfl) s.dk.disk) s.dk.disk,d _ _ _ (nb _ _ _ (.inl rfl) s.dk.med) s.dk.med,s.dk.len,s.dk.byt,u.trans s.dk.map,s.dk.big,s.dk.n1⟩,d _ _ _ (nb _ _ _ (.inl rfl) s.tab) s.tab,s.tok,?_,λm j=>⟨(s.ko m j).1.keep λb el a i r f=>d b el a (nb b el a (by omega) f) f,(s.ko m j).2⟩,?_,s.ne,s.le⟩
 ·rcases s.ls with c|⟨b,n,el,a,x,y,l,z,B,C,D⟩
  ·exact .inl c
  ·exact .inr ⟨b,n,el,a,x,y,d _ _ _ (nb b el _ (by omega) l) l,z,B,C,D⟩
 ·rcases s.fs with c|⟨b,el,c,g,p,q⟩
  ·exact .inl c
  ·exact .inr ⟨b,el,c,d _ _ _ (t b ⟨_,_,_,c⟩) g,p,q⟩
theorem kP(e:h.Wf){z:Nat}{xs:List Nat}(hk:k<=h.next)(o:h.Own k 3 v (iv xs))(A:xs.length<=1000):
  ∃h2 v',DU 1 8 3 v (.slice (BY ⟨h.next,0,By⟩) 1 1) (h.AEg 0 [AI AT (z:Int)])=.ok v' h2/\Fx (λb=>k<=b) h h2/\h2.Own k 3 v' (iv (xs++[z]))/\∀b el c,¬AE1 v b->h.Row b el c->h2.Row b el c/\¬AE1 v' b:=by
 have d:=(Hp.Ext.refl e).AEg 0 [yy .i64 (z:Int)];have g:=Hp.Row.new e 0 [yy .i64 (z:Int)];have s:(h.AEg 0 [yy .i64 (z:Int)]).next=h.next+1:=rfl;generalize h.AEg 0 [yy .i64 (z:Int)]=a at d g s;have l:a.AE7 (.slice (BY ⟨h.next,0,By⟩) 1 1) [AI AT (z:Int)]:=.inr ⟨h.next,0,1,0,_,rfl,g,xW _,rfl⟩;have w:Hp.Ext {a with next:=k,low:=min a.low k} a:=⟨by show k<=a.next;omega,λ_ _=>rfl,by show min (min a.low k) k<=a.low;omega,d.wf⟩;obtain⟨h2,v',m,f,n,x,p⟩:=E7 (eb:=8) (en:=3) (k:=k) w (xW _) (by omega) (o.ext e d) l AES rfl (by rw[El];show(xs.length+1+1) * 9<=_;omega);have q:Fx (λb=>k<=b) a h2:=⟨by omega,λi y B=>f.get i (by show i<k;omega),f.wf,λc t C j=>yS (AEY.2 ⟨AEY.2 ⟨t,j k (xW _)⟩,j k (xW _)⟩) f.low⟩;refine⟨h2,v',m,(Fx.of d).trans q,by rw[cF];exact n,λb el c r u=>?_⟩;exact p b el c r (u.ext e d)
theorem aN{a b c:Int}(a6:h.Wf)(s:Sl h A T M c0 arm ks fr lv fv bad IT)(d4:fr.length+ks.length<=11)(b9:∀k∈ks,3*k.p+3<=A.n)(s0:J 0 e=pt A.bs)(s1:J 1 e=AI AT a)(s2:J 2 e=AI AT b)(s3:J 3 e=AI AT c)(s15:J 15 e=AEk)(c7:J 16 e=AI AT ((0:Nat):Int)):
  ∃g h' y q w,A3 cmL (call AC (m+7)) e h=.exit 1 g h'/\Fx (λb=>b=A.bs) h h'/\J 0 g=pt A.bs/\J 15 g=w/\h'.Own h.next 3 w (iv ((ks.filter (elB a b c)).map (·.p)))/\
   Sl h' A T M c0 arm (ks.filter λk=> !elB a b c k) (frE fr (ks.filter (elB a b c))) y q bad IT:=by
 have hD:=s.AHJ a6;have c9:=hD A.bs (.inl rfl);refine Bd (I:=λi g h'=>∃y q w,Fx (λb=>b=A.bs\/h.next<=b) h h'/\J 0 g=pt A.bs/\J 1 g=AI AT a/\J 2 g=AI AT b/\J 3 g=AI AT c/\J 15 g=w/\J 16 g=AI AT ((((ks.take i).filter λk=> !elB a b c k).length:Nat):Int)/\i<=ks.length/\h'.Own h.next 3 w (iv (((ks.take i).filter (elB a b c)).map (·.p)))/\
   Sl h' A T M c0 arm ((ks.take i).filter (λk=> !elB a b c k)++ks.drop i) (frE fr ((ks.take i).filter (elB a b c))) y q bad IT/\∀b,AE1 q b->¬AE1 w b)
  (Q:=λd=>∃g h' y q w,d=.exit 1 g h'/\Fx (λb=>b=A.bs) h h'/\J 0 g=pt A.bs/\J 15 g=w/\h'.Own h.next 3 w (iv ((ks.filter (elB a b c)).map (·.p)))/\
   Sl h' A T M c0 arm (ks.filter λk=> !elB a b c k) (frE fr (ks.filter (elB a b c))) y q bad IT) ks.length (by omega) (λi g h' ⟨y,q,w,fx,t0,t1,t2,t3,t15,t16,hi,ow,sl,hf⟩=>?_) ⟨lv,fv,AEk,.refl a6,s0,s1,s2,s3,s15,c7,yH _,.inl ⟨rfl,rfl⟩,s,λb _ h=>Jf h⟩
 have u:=fx.wf;obtain⟨_,_,_,U,_⟩:=BK sl.row;have E:=sl.ls.len h';have d0:=Ww fr ((ks.take i).filter (elB a b c));have b3:((ks.take i).filter (elB a b c)).length<=(ks.take i).length:=zc _ _;have b4:((ks.take i).filter (λk=> !elB a b c k)).length<=(ks.take i).length:=zc _ _;rw[yP,Nat.min_eq_left hi]at b3 b4;by_cases D:i<ks.length
 ·left
  obtain⟨d,N⟩:∃d,ks[i]? =BY d:=⟨_,xc D⟩;have c3:=xy N;have c2:ks.take (i+1)=ks.take i++[d]:=by rw[AAT,N];rfl
  have b2:ks.drop i=d::ks.drop (i+1):=by
   rw[zf D];rw[xc D]at N;injection N with N
   rw[N]
  have B:=NG (λk=> !elB a b c k) (ks.take i) d;have C:=NG (elB a b c) (ks.take i) d;rw[<- c2]at B C;generalize hP:(ks.take i).filter (λk=> !elB a b c k)=o at *;generalize hO:(ks.take i).filter (elB a b c)=O at *;rw[b2]at sl E;have c8:(o++d::ks.drop (i+1)).length=o.length+1+(ks.length - (i+1)):=by rw[xY,xh,yX];omega
  have G:iLt (o.length:Int) ((o++d::ks.drop (i+1)).length:Int)=IN:=EU (by omega);obtain⟨b',_,ix,ld,_⟩:=sl.ls.at (i:=o.length) (k:=d) GS;have P:=λ(F:AEh) (e:Env)=>BO (F:=F) (e:=e) u (n:=6) (t:=C1)
  have Ra:=Hp.Row.alloc u GB (show(Aj K0).length=6 from rfl);have y1:h'.Ext (h'.push (.cells C1 6 0)):=(Hp.Ext.refl u).push _;generalize h'.push (.cells C1 6 0)=r at P Ra y1;have hu:=(sl.ko d (yc _ xp)).1.vs.one.2.1;obtain⟨Y,_,p,R5,n2⟩:=N0 u y1 (xW _) Ra rfl (k:=d) hu;generalize r.wr h'.next 0 (Aj d)=x at Y p R5 n2;obtain⟨m0,m1,m2,_⟩:=Cd R5;have b0:=sl.ext u p;cases j:elB a b c d with
  |false=>
   have Z:=Cc (i:=o.length) (h:=x) (by omega);rw[If (by rw[j];rfl)]at B;rw[No (by rw[j];decide)]at C;have S:∃f,cmL (call AC (m+7)) g h'=.norm f x/\J 0 f=pt A.bs/\J 1 f=AI AT a/\J 2 f=AI AT b/\J 3 f=AI AT c/\J 15 f=w/\J 16 f=AI AT ((o.length+1:Nat):Int):=by
    unfold cmL;by_cases r:d.a=a
    ·have H:iEq d.a a=IN:=CP r
     by_cases x:d.b=b
     ·have R:iEq d.b b=IN:=CP x
      have d3:iLt d.c c=IT:=FI (λL=>by
       unfold elB at j;rw[decide_eq_true r,decide_eq_true x,decide_eq_true L]at j;cases j)
      simp only[sT,xT,sh,reduceIte,gD,Ax,t0,Am,AH,AO,xZ,AN,AQ,U,AX,E,AK,AJ,t16,G,BA,ix,An,Ah,ld,P,AW,Y,m0,m1,m2,t1,t2,t3,H,R,d3,BW,Z];exact⟨_,rfl,by simp[AG,t0,t1,t2,t3,t15]⟩
     ·have R:iEq d.b b=IT:=CF x
      simp only[sT,xT,sh,reduceIte,gD,Ax,t0,Am,AH,AO,xZ,AN,AQ,U,AX,E,AK,AJ,t16,G,BA,ix,An,Ah,ld,P,AW,Y,m0,m1,m2,t1,t2,t3,H,R,BW,Z];exact⟨_,rfl,by simp[AG,t0,t1,t2,t3,t15]⟩
    ·have H:iEq d.a a=IT:=CF r
     simp only[sT,xT,sh,reduceIte,gD,Ax,t0,Am,AH,AO,xZ,AN,AQ,U,AX,E,AK,AJ,t16,G,BA,ix,An,Ah,ld,P,AW,Y,m0,m1,m2,t1,t2,t3,H,BW,Z];exact⟨_,rfl,by simp[AG,t0,t1,t2,t3,t15]⟩
   obtain⟨f,V,W,X,r4,r5,r6,r7⟩:=S;refine⟨D,f,x,V,y,q,w,fx.trans (.of p),W,X,r4,r5,r6,?_,D,?_,?_,hf⟩
   ·rw[B,r7,xY];rfl
   ·rw[C];exact ow.ext u p
   ·rw[B,C,yD];exact b0
  |true=>
   rw[No (by rw[j];decide)]at B;rw[If j]at C;have a2:d.a=a/\d.b=b/\d.c<c:=by
    unfold elB at j;rw[yE,yE]at j;exact⟨of_decide_eq_true j.1.1,of_decide_eq_true j.1.2,of_decide_eq_true j.2⟩
   have H:iEq d.a a=IN:=CP a2.1;have R:iEq d.b b=IN:=CP a2.2.1;have d3:iLt d.c c=IN:=H0 a2.2.2;obtain⟨L,c5,a1,k3,K,a5,b6⟩:=XA (m:=m) p.wf b0 (by omega) (by omega) (b9 d c3);have a9:L.Own h.next 3 w (iv (O.map (·.p))):=(ow.ext u p).fx p.wf K λb l r=>by omega
   have n3:h.next<=L.next:=by have:=fx.next;have:=p.next;have:=K.next;omega
   obtain⟨h5,w',k5,f5,c6,a8⟩:=kP (z:=d.p) K.wf n3 a9 (by rw[xa];omega);have bs:=λ(F:AEh) (e:Env) (he:J 134 e=AI AT (d.p:Int))=>Id (F:=F) K.wf he
   have b8:h5.bl.get A.bc=L.bl.get A.bc:=f5.get _ ((a5.dk.lt K.wf).2.2) (λr=>by
    have:=hD A.bc (.inr (.inr (.inr rfl)));omega)
   have a7:∀b,AE1 a1 b->¬AE1 w b:=λb l r=>by
    have:=b6 b l;have:=ow.AKu u r;have:=p.next;omega
   have s5:=a5.app a9 (λb el a0 l a4=>(a8 b el a0 l a4).1) b8 a7;have b5:∀b,AE1 a1 b->¬AE1 w' b:=λb l=>by
    obtain⟨el,a0,a4⟩:=a5.fs.blk l;exact(a8 b el a0 (a7 b l) a4).2
   have Z:=λ(b1:Hp)=>Cc (i:=o.length) (h:=b1) (by omega)
   have c4:call AC (m+7) 101 [pt A.bs,AI AT (o.length:Int)] x=.ok (AI AT (d.p:Int)) L:=k3;have S:∃f,cmL (call AC (m+7)) g h'=.norm f h5/\J 0 f=pt A.bs/\J 1 f=AI AT a/\J 2 f=AI AT b/\J 3 f=AI AT c/\J 15 f=w'/\J 16 f=AI AT (o.length:Int):=by
    unfold cmL;simp only[sT,xT,sh,reduceIte,gD,Ax,t0,Am,AH,AO,xZ,AN,AQ,U,AX,E,AK,AJ,t16,G,BA,ix,An,Ah,ld,P,AW,Y,m0,m1,m2,t1,t2,t3,H,R,d3,cA0,c4,bs,Bb,t15,k5];exact⟨_,rfl,by simp[AG,t0,t1,t2,t3,t16]⟩
   obtain⟨f,V,W,X,r4,r5,r6,r7⟩:=S;refine⟨D,f,h5,V,c5,a1,w',?_,W,X,r4,r5,r6,?_,D,?_,?_,b5⟩
   ·exact((fx.trans (.of p)).trans (K.mono λb l=>.inl l)).trans (f5.mono λb l=>.inr l)
   ·rw[B];exact r7
   ·rw[C,yZ];exact c6
   ·rw[B,C,Rv];exact s5
 ·right
  have b7:i=ks.length:=by omega
  subst b7;rw[yz]at *;rw[ABb,yF]at sl E;have G:iLt (((ks.filter λk=> !elB a b c k).length:Nat):Int) (((ks.filter λk=> !elB a b c k).length:Nat):Int)=IT:=Cz (xW _);have S:∃f,cmL (call AC (m+7)) g h'=.exit 1 f h'/\J 0 f=pt A.bs/\J 15 f=w:=by
   unfold cmL;simp only[sT,xT,sh,reduceIte,Ax,t0,Am,AH,AO,xZ,AN,AQ,U,AX,E,AK,AJ,t16,G];exact⟨_,rfl,by simp[AG,t0,t15]⟩
  obtain⟨f,V,W,X⟩:=S;rw[V];exact⟨rfl,f,h',y,q,w,rfl,fx.drop,W,X,ow,sl⟩
end
theorem OA{a:Type}{l:List a}{j:Nat}{x:a}(h:l[j]? =BY x):l.set j x=l:=by
 obtain⟨b,rfl⟩:=yN.1 h;exact List.set_getElem_self b
theorem Qb{a:Type}{l:List a}{j:Nat}{x:a}(h:l[j]? =BY x):l=l.take j++x::l.drop (j+1)/\(l.take j).length=j:=by
 obtain⟨b,rfl⟩:=yN.1 h;refine⟨?_,by rw[yP];omega⟩;rw[<- zf b,zi]
theorem Gm{a b c:Int}{k:Kt}(h:BL a b c k=IN):k.a=a/\k.b=b/\k.c=c:=by
 unfold BL at h;rw[yE,yE]at h;exact⟨of_decide_eq_true h.1.1,of_decide_eq_true h.1.2,of_decide_eq_true h.2⟩
theorem wO{i:Nat}{g:Hp}(hi:i<=1000000):Fp yi .i64 (AI AT (i:Int)) (AI AT 1) g=.ok (AI AT ((i:Int) - 1)) g:=by
 cases i with
 |zero=>rw[Cn];rfl
 |succ a=>rw[VU (by omega),show((a+1:Nat):Int) - 1=(a:Int)by omega]
theorem rR:dpS=BB (AY 0 (A3 dpL)) dpE:=rfl
theorem rD:d63=iO:=rfl
section
variable {F:AEh}{e:Env}{h h':Hp}{A:At}{T M:List Nat}{c0 bad m k p n:Nat}{arm:Int}{ks:List Kt}{fr:List Nat}{lv fv:xU}
theorem RJ(u:h.Wf)(s:Sl h A T M c0 arm ks fr lv fv bad IT){a b c z:Int}(d:Dt ks a b c=BY z):
  ∃h',call AC (m+8) 55 [pt A.bs,AI AT a,AI AT b,AI AT c] h=.ok (AI AT z) h'/\h.Ext h':=by
 have J:=s.le.1;have l:iNe 0 0=IT:=B0 rfl;have n:=ON (m:=m+6) s.row;obtain⟨D,e,p⟩:=GJ (m:=m+4) u s.row s.ls.ks (by omega) a b c;have s1:=s.ext u p;obtain⟨_,_,_,B,_⟩:=BK s1.row;obtain⟨r,f,F⟩:=G6 (m:=m+3) p.wf s1.row s1.ls.ks (by omega) a b c;have t:=p.trans F;unfold Dt at d;rcases EE (BL a b c) ks 0 with ⟨q,j⟩|⟨y,o,q,j,C⟩
 ·rw[q]at d
  rw[j]at e;have g:iGe (-1) 0=IT:=EX (by omega);have i:iLt (-1) 0=IN:=H0 (by omega);simp only at d;cases k:CA a b c ks with
  |true=>
   rw[k]at d f;rw[If rfl]at d;cases d;refine⟨r,?_,t⟩;rw[Ms rfl,M9];unfold QA;simp only[iN,xV,sT,xT,sh,reduceIte,gD,cA0,n,AK,AJ,l,e,g,f,lV0]
  |false=>
   rw[k]at d f;rw[No (by decide)]at d;cases d;refine⟨r,?_,t⟩;rw[Ms rfl,M9];unfold QA;simp only[iN,xV,sT,xT,sh,reduceIte,gD,cA0,n,AK,AJ,l,e,g,f,i,lV0]
 ·rw[q]at d
  rw[C,xZ]at e;have I:=(yN.1 j).1;have K:=xy j;have g:iGe (y:Int) 0=IN:=GL (by omega);have H:iLt (y:Int) 0=IT:=FI (by omega);obtain⟨G,_,x,L,E⟩:=s1.ls.ks.at j;have lst:=E 3 (.int .u8 (o.s:Int)) rfl;simp only at d;by_cases w:o.s=2
  ·rw[If w]at d
   cases d;have i:iEq (o.s:Int) 2=IN:=CP (by omega);refine⟨D,?_,p⟩;rw[Ms rfl,M9];unfold QA;simp only[iN,xV,sT,xT,sh,reduceIte,gD,cA0,n,AK,AJ,l,e,g,Ax,Am,AH,AO,xZ,zQ,AN,AQ,B,BA,x,lst,i,lV0]
  ·rw[No w]at d
   have i:iEq (o.s:Int) 2=IT:=CF (by omega);cases k:CA a b c ks with
   |true=>
    rw[k]at d f;rw[If rfl]at d;cases d;refine⟨r,?_,t⟩;rw[Ms rfl,M9];unfold QA;simp only[iN,xV,sT,xT,sh,reduceIte,gD,cA0,n,AK,AJ,l,e,g,Ax,Am,AH,AO,xZ,zQ,AN,AQ,B,BA,x,lst,i,f,lV0]
   |false=>
    rw[k]at d;rw[No (by decide)]at d;cases d
theorem aO(C:h.Wf)(s:Sl h A T M c0 arm ks fr lv fv bad IT){a b c:Int}(b4:fr.length+ks.length<=11)(r:∀k∈ks,3*k.p+3<=A.n)(W:(ks.map (·.p)).Nodup)(V:CL arm (k+20)):
  (∃z h',Dt ks a b c=BY z/\call AC (m+8) 55 [pt A.bs,AI AT a,AI AT b,AI AT c] h=.ok (AI AT z) h'/\h.Ext h')\/
  (Dt ks a b c=By/\∃j d h' N u a3 Q,ks[j]? =BY d/\(d.a=a/\d.b=b/\d.c=c)/\d.s=1/\ks.find? (BL a b c)=BY d/\CA a b c ks=IT/\call AC (m+8) 55 [pt A.bs,AI AT a,AI AT b,AI AT c] h=.ok (AI AT 0) h'/\Fx A.D h h'/\
   Sl h' A T (IK (Hg M d.p (AFA T a b c 2 d.l)) (((ks.set j {d with s:=2}).filter (elB a b c)).map (·.p))) N u ((ks.set j {d with s:=2}).filter λk=> !elB a b c k) (frE fr ((ks.set j {d with s:=2}).filter (elB a b c))) a3 Q bad IT/\CL u k):=by
 cases e:Dt ks a b c with
 |some z=>
  obtain⟨h',k1,x1⟩:=RJ (m:=m) C s e;exact .inl ⟨z,h',rfl,k1,x1⟩
 |none=>
  right;unfold Dt at e;rcases EE (BL a b c) ks 0 with ⟨g,i⟩|⟨j,d,g,i,D⟩
  ·rw[g]at e
   simp only at e;split at e<;>cases e
  rw[g]at e;simp only at e;split at e
  ·cases e
  rename_i a0;split at e
  ·cases e
  rename_i a1;have x:CA a b c ks=IT:=by
   cases Z:CA a b c ks
   ·rfl
   ·exact absurd Z a1
  have q:=xy i;have G:d.s=1:=(s.ko d q).2.2.2.1.resolve_right a0;have w:=Gm (AA1 g);rw[xZ]at D;obtain⟨b2,c9,a8,b7,b0,r1,u0,u1,u2,u3,a5,a6,y,s12,L⟩:=aQ (m:=m) (k:=k+15) C s i G D w x (r d q) s.le.1 (V.le (by omega));have sm:(ks.set j {d with s:=2}).map (·.p)=ks.map (·.p):=by
   rw[ABX];exact OA (by rw[zE,i];rfl)
  have B:∀f∈ks.set j {d with s:=2},3*f.p+3<=A.n:=λf t=>by
   rcases ABA t with n|n
   ·exact r f n
   ·rw[n];exact r d q
  have b6:(ks.set j {d with s:=2}).length=ks.length:=ADm;generalize U:ks.set j {d with s:=2}=l at *;obtain⟨b1,S,a4,R,H,r2,E,v0,a7,ow,s13⟩:=aN (m:=m) (a:=a) (b:=b) (c:=c) y.wf s12 (by omega) B u0 u1 u2 u3 a5 a6;have b3:(l.filter (elB a b c)).length<=l.length:=zc _ _;have X:((l.filter (elB a b c)).map (·.p)).Nodup:=AB8 (ADD.map _) (sm ▸ W);have b5:((l.filter (elB a b c)).map (·.p)).length<=11:=by rw[xa];omega
  obtain⟨F,O,I,a2,P,s14,K⟩:=Pj (m:=m+1) (k:=k) E.wf s13 (ps:=(l.filter (elB a b c)).map λf:Kt=>f.p) (pv:=H) ow.vals (λp Y=>by
   obtain⟨f,t,rfl⟩:=zI.1 Y;exact B f ((zC.1 t).1)) X (by omega) (L.le (by omega))
  have J:call AC (m+7) 77 [pt A.bs,H] S=.ok (AI AT 0) F:=a2;refine⟨rfl,j,d,F,O,I,a4,R,i,w,G,g,x,?_,(y.trans (E.mono λb o=>.inl o)).trans (P.mono λb o=>.inr o),by rw[U];exact s14,K⟩;rw[Ms rfl,M9,r1,qA];simp only[A7,Ap,r2,A5,Ay];unfold cmE;simp only[sT,xT,sh,reduceIte,cA0,v0,a7,J,lV0]
def abE(ks:List Kt)(a b c:Int):Option Int:=if CA a b c ks=IN then BY 61 else match ks.find? (BL a b c)with
 |some _=>By
 |none=>BY 0
theorem Zf(j:h.Wf)(s:Sl h A T M c0 arm ks fr lv fv bad IT){a b c z:Int}(d:abE ks a b c=BY z):
  ∃h',call AC (m+9) 56 [pt A.bs,AI AT a,AI AT b,AI AT c] h=.ok (AI AT z) h'/\h.Ext h':=by
 have u:=s.le.1;have k:iNe 0 0=IT:=B0 rfl;have p:=ON (m:=m+7) s.row;obtain⟨x,g,i⟩:=GJ (m:=m+5) j s.row s.ls.ks (by omega) a b c;have s1:=s.ext j i;obtain⟨n,e,t⟩:=G6 (m:=m+4) i.wf s1.row s1.ls.ks (by omega) a b c;have q:=i.trans t;unfold abE at d;cases o:CA a b c ks with
 |true=>
  rw[o]at e d;rw[If rfl]at d;cases d;refine⟨n,?_,q⟩;rw[UC rfl];unfold d56;simp only[iN,xV,sT,xT,sh,reduceIte,gD,cA0,p,AK,AJ,k,g,e,lV0]
 |false=>
  rw[o]at e d;rw[No (by decide)]at d;rcases EE (BL a b c) ks 0 with ⟨f,l⟩|⟨y,B,f,l,w⟩
  ·rw[l]at g
   rw[f]at d;cases d;have r:iLt (-1) 0=IN:=H0 (by omega);refine⟨n,?_,q⟩;rw[UC rfl];unfold d56;simp only[iN,xV,sT,xT,sh,reduceIte,gD,cA0,p,AK,AJ,k,g,e,r,lV0]
  ·rw[f]at d
   cases d
theorem YK(i:h.Wf)(s:Sl h A T M c0 arm ks fr lv fv bad IT){a b c:Int}(V:fr.length+ks.length<=11)(L:∀k∈ks,3*k.p+3<=A.n)(J:CL arm (k+2)):
  (∃z h',abE ks a b c=BY z/\call AC (m+9) 56 [pt A.bs,AI AT a,AI AT b,AI AT c] h=.ok (AI AT z) h'/\h.Ext h')\/
  (abE ks a b c=By/\∃j d h' p g r q,ks[j]? =BY d/\(d.a=a/\d.b=b/\d.c=c)/\ks.find? (BL a b c)=BY d/\CA a b c ks=IT/\call AC (m+9) 56 [pt A.bs,AI AT a,AI AT b,AI AT c] h=.ok (AI AT 0) h'/\Fx A.D h h'/\
   Sl h' A T (IK M [d.p]) p g (ks.take j++ks.drop (j+1)) (Ec (fr++[d.p])) r q bad IT/\CL g k):=by
 cases e:abE ks a b c with
 |some z=>
  obtain⟨h',o,f⟩:=Zf (m:=m) i s e;exact .inl ⟨z,h',rfl,o,f⟩
 |none=>
  have S:=s.le.1;have F:iNe 0 0=IT:=B0 rfl;have N:=ON (m:=m+7) s.row;obtain⟨U,o,f⟩:=GJ (m:=m+5) i s.row s.ls.ks (by omega) a b c;have s1:=s.ext i f;obtain⟨u,y,R⟩:=G6 (m:=m+4) f.wf s1.row s1.ls.ks (by omega) a b c;have t:=f.trans R;unfold abE at e;cases x:CA a b c ks with
  |true=>
   rw[x]at e;rw[If rfl]at e;cases e
  |false=>
   rw[x]at y e;rw[No (by decide)]at e;rcases EE (BL a b c) ks 0 with ⟨l,n⟩|⟨j,d,l,n,H⟩
   ·rw[l]at e
    cases e
   ·rw[H,xZ]at o
    have G:iLt (j:Int) 0=IT:=FI (by omega);have K:=xy n;have D:=Gm (AA1 l);obtain⟨C,P⟩:=Qb n;have s2:=s.ext i t;have Q:Sl u A T M c0 arm (ks.take j++d::ks.drop (j+1)) fr lv fv bad IT:=by rw[<- C];exact s2
    obtain⟨w,p,g,r,q,B,I,s3,E⟩:=dV (m:=m) (k:=k) t.wf Q (by rw[<- C];omega) (by omega) (L d K) J;rw[P]at B;have O:call AC (m+8) 102 [pt A.bs,AI AT (j:Int)] u=.ok (AI AT 0) w:=B;refine .inr ⟨rfl,j,d,w,p,g,r,q,n,D,l,rfl,?_,(Fx.of t).trans I,s3,E⟩;rw[UC rfl];unfold d56;simp only[iN,xV,sT,xT,sh,reduceIte,gD,cA0,N,AK,AJ,F,o,y,G,O,lV0]
def drB(a b c:Int)(k:Kt):Bool:=decide (k.a=a) && decide (k.b=b) && decide (k.c<=c)
def Iz(M:List Nat)(out:List Kt):List Nat:=out.foldl (λM a=>IK M [a.p]) M
theorem UU(M:List Nat)(out:List Kt)(x:Kt):Iz M (out++[x])=IK (Iz M out) [x.p]:=by unfold Iz;rw[ACJ];rfl
def drO(a b c:Int)(ks:List Kt):List Kt:=(ks.filter (drB a b c)).reverse
theorem bL(a b c:Int)(x:Kt)(ks:List Kt):drO a b c (x::ks)=if drB a b c x=IN then drO a b c ks++[x]else drO a b c ks:=by
 unfold drO;cases h:drB a b c x
 ·rw[No (by decide),zN (by rw[h];decide)]
 ·rw[If rfl,zM h,ACI]
theorem ie(a b c:Int)(x:Kt)(ks:List Kt):(drO a b c (ks++[x])).length=(drO a b c ks).length+if drB a b c x=IN then 1 else 0:=by
 unfold drO;rw[AAe,AAe,NG];split
 ·rw[xY];rfl
 ·rfl
theorem Yb{a b c:Int}(b1:h.Wf)(s:Sl h A T M c0 arm ks fr lv fv bad IT)(c6:fr.length+ks.length<=11)(b4:∀k∈ks,3*k.p+3<=A.n)(ha:CL arm (k+2*(drO a b c ks).length))(s0:J 0 e=pt A.bs)(s1:J 1 e=AI AT a)(s2:J 2 e=AI AT b)(s3:J 3 e=AI AT c)(s10:J 10 e=AI AT ((ks.length:Int) - 1)):
  ∃j h' o r q p,A3 dpL (call AC (m+8)) e h=.exit 0 j h'/\Fx A.D h h'/\Sl h' A T (Iz M (drO a b c ks)) o r (ks.filter λk=> !drB a b c k) (frE fr (drO a b c ks)) q p bad IT/\CL r k:=by
 refine Bd (I:=λt j h'=>∃i o r q p,i+t=ks.length/\Fx A.D h h'/\J 0 j=pt A.bs/\J 1 j=AI AT a/\J 2 j=AI AT b/\J 3 j=AI AT c/\J 10 j=AI AT ((i:Int) - 1)/\
   Sl h' A T (Iz M (drO a b c (ks.drop i))) o r (ks.take i++(ks.drop i).filter λk=> !drB a b c k) (frE fr (drO a b c (ks.drop i))) q p bad IT/\CL r (k+2*(drO a b c (ks.take i)).length))
  (Q:=λd=>∃j h' o r q p,d=.exit 0 j h'/\Fx A.D h h'/\Sl h' A T (Iz M (drO a b c ks)) o r (ks.filter λk=> !drB a b c k) (frE fr (drO a b c ks)) q p bad IT/\CL r k) ks.length (by omega) (λt j h' ⟨i,o,a0,q,p,c5,fx,t0,t1,t2,t3,t10,sl,am⟩=>?_) ⟨ks.length,c0,arm,lv,fv,rfl,.refl b1,s0,s1,s2,s3,s10,by rw[yz,ABb,AA2,yF];exact s,by rw[yz];exact ha⟩
 have z:=fx.wf;cases i with
 |zero=>
  right;rw[ADt,yT,yk]at sl;have w:iGe (((0:Nat):Int) - 1) 0=IT:=EX (by omega);obtain⟨f,L⟩:∃f,dpL (call AC (m+8)) j h'=.exit 0 f h':=by
   unfold dpL;simp only[sT,xT,sh,reduceIte,AK,AJ,t10,w];exact⟨_,rfl⟩
  rw[L];exact⟨rfl,f,h',o,a0,q,p,rfl,fx,sl,am.le (Nat.le_add_right _ _)⟩
 |succ i=>
  left;have a4:i<ks.length:=by omega
  obtain⟨d,y⟩:∃d,ks[i]? =BY d:=⟨_,xc a4⟩;have b5:=xy y;have a8:ks.take (i+1)=ks.take i++[d]:=by rw[AAT,y];rfl
  have a7:ks.drop i=d::ks.drop (i+1):=by
   rw[zf a4];rw[xc a4]at y;injection y with y
   rw[y]
  have a2:=ie a b c d (ks.take i);rw[<- a8]at a2;have a1:(ks.take i).length=i:=by rw[yP];omega
  have G:=bL a b c d (ks.drop (i+1));rw[<- a7]at G;have c8:(drO a b c (ks.drop (i+1))).length<=ks.length - (i+1):=by
   unfold drO;rw[AAe,<- yX];exact zc _ _
  have b9:((ks.drop (i+1)).filter λk=> !drB a b c k).length<=ks.length - (i+1):=by
   rw[<- yX];exact zc _ _
  have V:(ks.drop i).filter (λk=> !drB a b c k)=if drB a b c d=IN then(ks.drop (i+1)).filter (λk=> !drB a b c k)else d::(ks.drop (i+1)).filter (λk=> !drB a b c k):=by
   rw[a7];cases h:drB a b c d
   ·rw[No (by decide),zM (by rw[h];rfl)]
   ·rw[If rfl,zN (by rw[h];decide)]
  generalize U:ks.take i=S at *;generalize hR:(ks.drop (i+1)).filter (λk=> !drB a b c k)=R at *;generalize hO:drO a b c (ks.drop (i+1))=O at *;rw[a8,yD]at sl;have sl:Sl h' A T (Iz M O) o a0 (S++d::R) (frE fr O) q p bad IT:=sl;have c7:(S++d::R).length=i+1+R.length:=by rw[xY,xh,a1];omega
  obtain⟨_,_,_,W,_⟩:=BK sl.row;have t10:J 10 j=AI AT (i:Int):=by rw[t10,show((i+1:Nat):Int) - 1=(i:Int)by omega]
  have w:iGe (i:Int) 0=IN:=GL (by omega);obtain⟨b',_,H,K,_⟩:=sl.ls.at (i:=S.length) (k:=d) GS;rw[a1]at H K;have B:=λ(F:AEh) (e:Env)=>BO (F:=F) (e:=e) z (n:=6) (t:=C1)
  have Ra:=Hp.Row.alloc z GB (show(Aj K0).length=6 from rfl);have y1:h'.Ext (h'.push (.cells C1 6 0)):=(Hp.Ext.refl z).push _;generalize h'.push (.cells C1 6 0)=D at B Ra y1;have hu:=(sl.ko d (yc _ xp)).1.vs.one.2.1;obtain⟨N,_,P,R5,n2⟩:=N0 z y1 (xW _) Ra rfl (k:=d) hu;generalize D.wr h'.next 0 (Aj d)=u at N P R5 n2;obtain⟨X,Y,Z,_⟩:=Cd R5;have a9:=sl.ext z P;have sb:=λ(g:Hp)=>wO (i:=i) (g:=g) (by omega)
  cases l:drB a b c d with
  |false=>
   rw[No (by rw[l];decide)]at G V;have a5:∃f,dpL (call AC (m+8)) j h'=.norm f u/\J 0 f=pt A.bs/\J 1 f=AI AT a/\J 2 f=AI AT b/\J 3 f=AI AT c/\J 10 f=AI AT ((i:Int) - 1):=by
    unfold dpL;by_cases D:d.a=a
    ·have x:iEq d.a a=IN:=CP D
     by_cases u:d.b=b
     ·have C:iEq d.b b=IN:=CP u
      have d3:iLe d.c c=IT:=Lm (λE=>by
       unfold drB at l;rw[decide_eq_true D,decide_eq_true u,decide_eq_true E]at l;cases l)
      simp only[sT,xT,sh,reduceIte,gD,Ax,t0,Am,AH,AO,xZ,AN,AQ,W,AK,AJ,t10,w,BA,H,An,Ah,K,B,AW,N,X,Y,Z,t1,t2,t3,x,C,d3,B6,sb];exact⟨_,rfl,by simp[AG,t0,t1,t2,t3]⟩
     ·have C:iEq d.b b=IT:=CF u
      simp only[sT,xT,sh,reduceIte,gD,Ax,t0,Am,AH,AO,xZ,AN,AQ,W,AK,AJ,t10,w,BA,H,An,Ah,K,B,AW,N,X,Y,Z,t1,t2,t3,x,C,B6,sb];exact⟨_,rfl,by simp[AG,t0,t1,t2,t3]⟩
    ·have x:iEq d.a a=IT:=CF D
     simp only[sT,xT,sh,reduceIte,gD,Ax,t0,Am,AH,AO,xZ,AN,AQ,W,AK,AJ,t10,w,BA,H,An,Ah,K,B,AW,N,X,Y,Z,t1,t2,t3,x,B6,sb];exact⟨_,rfl,by simp[AG,t0,t1,t2,t3]⟩
   obtain⟨f,L,r2,r3,r4,r5,r6⟩:=a5;refine⟨by omega,f,u,L,i,o,a0,q,p,by omega,fx.trans (.of P),r2,r3,r4,r5,r6,?_,am.le (by rw[a2,U];omega)⟩;rw[G,V,U];exact a9
  |true=>
   rw[If l]at G V;have a6:d.a=a/\d.b=b/\d.c<=c:=by
    unfold drB at l;rw[yE,yE]at l;exact⟨of_decide_eq_true l.1.1,of_decide_eq_true l.1.2,of_decide_eq_true l.2⟩
   have x:iEq d.a a=IN:=CP a6.1;have C:iEq d.b b=IN:=CP a6.2.1;have d3:iLe d.c c=IN:=Gv a6.2.2;have b2:iNe 0 0=IT:=B0 rfl;have c4:=Ww fr O;obtain⟨E,c3,b0,b7,b3,k3,f3,b8,a3⟩:=dV (m:=m) (k:=k+2*(drO a b c S).length) P.wf a9 (by omega) (by omega) (b4 d b5) (am.le (by rw[a2,If l];omega));rw[a1]at k3;have b6:call AC (m+8) 102 [pt A.bs,AI AT (i:Int)] u=.ok (AI AT 0) E:=k3;have a5:∃f,dpL (call AC (m+8)) j h'=.norm f E/\J 0 f=pt A.bs/\J 1 f=AI AT a/\J 2 f=AI AT b/\J 3 f=AI AT c/\J 10 f=AI AT ((i:Int) - 1):=by
    unfold dpL;simp only[sT,xT,sh,reduceIte,gD,Ax,t0,Am,AH,AO,xZ,AN,AQ,W,AK,AJ,t10,w,BA,H,An,Ah,K,B,AW,N,X,Y,Z,t1,t2,t3,x,C,d3,cA0,b6,b2,B6,sb];exact⟨_,rfl,by simp[AG,t0,t1,t2,t3]⟩
   obtain⟨f,L,r2,r3,r4,r5,r6⟩:=a5;refine⟨by omega,f,E,L,i,c3,b0,b7,b3,by omega,(fx.trans (.of P)).trans f3,r2,r3,r4,r5,r6,?_,by rw[U];exact a3⟩;rw[G,V,U,UU,Rv];exact b8
theorem RQ(n:h.Wf)(s:Sl h A T M c0 arm ks fr lv fv bad IT)(a b c:Int)(u:fr.length+ks.length<=11)(w:∀k∈ks,3*k.p+3<=A.n)(t:CL arm (k+2*(drO a b c ks).length)):
  ∃h' f e l j,call AC (m+9) 63 [pt A.bs,AI AT a,AI AT b,AI AT c] h=.ok (AI AT 0) h'/\Fx A.D h h'/\Sl h' A T (Iz M (drO a b c ks)) f e (ks.filter λk=> !drB a b c k) (frE fr (drO a b c ks)) l j bad IT/\CL e k:=by
 have p:iNe 0 0=IT:=B0 rfl;have x:=ON (m:=m+7) s.row;obtain⟨_,_,_,y,_⟩:=BK s.row;have z:=s.ls.len h;have E:=wO (i:=ks.length) (g:=h) (by omega);have C:∃d,iO (call AC (m+8)) (Au e0 0 [pt A.bs,AI AT a,AI AT b,AI AT c]) h=dpS (call AC (m+8)) d h/\J 0 d=pt A.bs/\J 1 d=AI AT a/\J 2 d=AI AT b/\J 3 d=AI AT c/\J 10 d=AI AT ((ks.length:Int) - 1):=by
  unfold iO;simp only[iN,xV,sT,xT,sh,reduceIte,gD,cA0,x,AK,AJ,p,Ax,Am,AH,AO,xZ,AN,AQ,y,AX,z,B6,E];exact⟨_,rfl,by simp[AG]⟩
 obtain⟨d,B,t0,t1,t2,t3,t10⟩:=C;obtain⟨F,r,f,e,l,j,D,q,s2,o⟩:=Yb (m:=m) (k:=k) n s u w t t0 t1 t2 t3 t10;refine⟨r,f,e,l,j,?_,q,s2,o⟩;rw[pH rfl,rD,B,rR];simp only[A7,Ap,D,A5,Ay];unfold dpE;simp only[sT,xT,sh,reduceIte,lV0]
end
theorem Wu:∀(ks:List Kt) (i:Nat) (k:Kt),ks[i]? =BY k->((flS ks).drop (5*i)).take 5=Kz k
 |[],i,k,a=>by cases a
 |x::ks,0,k,a=>by
  have a:BY x=BY k:=a;cases a;show((Kz x++flS ks).drop 0).take 5=_;rw[yk];exact List.take_left' rfl
 |x::ks,i+1,k,a=>by
  rw[List.getElem?_cons_succ]at a;show((Kz x++flS ks).drop (5*(i+1))).take 5=_;have:5*(i+1)=(Kz x).length+5*i:=by show _=5+_;omega
  rw[this,AAQ];exact Wu ks i k a
section
variable {F:AEh}{e:Env}{h h':Hp}{S:Nat->Prop}{A:At}{T M:List Nat}{c0 bad m k n:Nat}{arm:Int}{ks:List Kt}{fr:List Nat}{v lv fv:xU}{ov:Bool}
theorem Kb{h:Hp}{u:xU}{xs:List xU}(a:h.AE7 u xs):known u=IN/\cellsOf u=[u]/\oneCell u=IN:=by
 rcases a with ⟨rfl,rfl⟩|⟨c,f,d,e,b,rfl,_⟩<;>exact⟨rfl,rfl,rfl⟩
theorem KI{h:Hp}{b el m:Nat}{a c:List xU}(r:h.Row b el a)(q:h.Row b m c):a=c:=by
 obtain⟨s,n,o⟩:=r;obtain⟨t,g,p⟩:=q;rw[n]at g;injection g with k l u
 subst k;refine ADY l λi e f=>?_
 have j:=(o i e).2;have d:=(p i f).2;rw[j,xe,xe,xc e,xc f]at d;exact d
theorem Hp.AL.len(o:h.AL k v ks)(g:Hp):AFB v g=.ok (AI AT (ks.length:Int)) g:=by
 rcases o with ⟨rfl,rfl⟩|⟨b,a,rfl,_⟩<;>rfl
theorem Hp.AL.keep(o:h.AL k v ks)(hk:∀b el a,k<=b->h.Row b el a->h'.Row b el a):h'.AL k v ks:=by
 rcases o with c|⟨b,a,c,e,f,d,g⟩
 ·exact .inl c
 ·exact .inr ⟨b,a,c,hk _ _ _ d e,f,d,λm j=>(g m j).keep λb el a i _ l=>hk b el a i l⟩
theorem Hp.AL.fx(o:h.AL k v ks)(a:h.Wf)(x:Fx S h h')(d:∀b,S b->b<k):h'.AL k v ks:=o.keep λb g f i e=>x.row a e λc=>by have:=d b c;omega
theorem Hp.AL.ext(o:h.AL k v ks)(a:h.Wf)(x:h.Ext h'):h'.AL k v ks:=o.keep λd e c _ b=>b.ext a x
theorem Hp.AL.at(o:h.AL k v ks){i:Nat}{x:Kt}(hi:ks[i]? =BY x):∃b u,AFV 5 v (AI AT (i:Int)) h=.ok (.pointer (BY ⟨b,5*i,By⟩)) h/\loadN 5 ⟨b,5*i,By⟩ h=.ok (Bn x.a x.b x.c x.s u) h/\h.AE7 u (x.l.map bv):=by
 have hil:=(yN.1 hi).1;rcases o with ⟨rfl,rfl⟩|⟨b,L,rfl,h2,h3,h4,h5⟩
 ·cases hi
 ·have hLl:L.length=ks.length:=by rw[<- xa (f:=Kt.core),h3,xa]
  obtain⟨y,hy⟩:∃y,L[i]? =BY y:=⟨_,xc (by omega)⟩;have hc:=Wu L i y hy;have hyx:y.core=x.core:=by
   have h6:=congrArg (λl=>l[i]?) h3;simp only[zE,hy,hi,Option.map_some]at h6;injection h6
  have e1:y.a=x.a:=congrArg Kc.a hyx;have e2:y.b=x.b:=congrArg Kc.b hyx;have e3:y.c=x.c:=congrArg Kc.c hyx;have e4:y.s=x.s:=congrArg Kc.s hyx;have e5:y.l=x.l:=congrArg Kc.l hyx;refine⟨b,y.u,?_,?_,?_⟩
  ·have:=Cy (h:=h) (n:=ks.length) (c:=ks.length) (es:=5) (b:=b) (off:=0) (i:=i) (k:=.i64) hil
   rwa [xZ,zb]at this
  ·rw[h2.loadN (by rw[QI,hLl];omega),hc,<- e1,<- e2,<- e3,<- e4];rfl
  ·rw[<- e5];exact(h5 y (xy hy)).vs.vals
theorem OD(d:h.Wf){g:O}{a b c:Int}{s:Nat}{u:xU}(f:g e=Bn a b c s u):CV g F e h=.ok (pt h.next) (h.AEg 0 (A9 a b c s u)):=by rw[DN,f,DM d];rfl
theorem eT:smS=BB (AY 0 (A3 smL)) smE:=rfl
theorem UO:d19=aX:=rfl
theorem fu{bd bm bc:Nat}{cs:List (Nat×List Nat)}(c:h.Wf)(d:Dk h bd bm bc n M c0 cs arm IT){z:Int}(p:0<=z):
  ∃h',call AC (m+2) 7 [pt bd,AI AT z] h=.ok AEl h'/\Fx (λb=>b=bd) h h'/\Dk h' bd bm bc n M c0 cs z IT:=by
 have k:=MQ (m:=m) d;obtain⟨_,_,_,l⟩:=DR d.disk;have i:=λ(F:AEh) (e:Env) (j:J 1 e=AI AT z)=>cW (F:=F) (h:=h) (y:=W (AI AT 0)) j rfl
 rw[show max z 0=z by omega]at i;obtain⟨g,o,a,q,f,_⟩:=Ei (v:=AI AT z) c d.disk (off:=2) (show 2<4 by omega) d.big.1 rfl rfl;have a:g.Row bd 0 (dkL bm bc n z IT):=a;refine⟨g,?_,f,a,f.row c d.med (λh=>d.bdm h.symm),d.len,d.byt,by rw[f.get _ (d.lt c).2.2 (λh=>d.bdc h.symm)];exact d.map,d.big,d.n1⟩;rw[un rfl];unfold d7;simp only[iN,xV,sT,xT,sh,reduceIte,gD,cA0,k,BJ,BI,yg,Ax,Am,AH,AO,xZ,AN,AQ,l,i,AW,o,ET,EN]
theorem mi(a:h.Wf)(s:Sl h A T M c0 arm ks fr lv fv bad ov){z:Int}(f:0<=z):
  ∃h',call AC (m+2) 7 [pt A.bd,AI AT z] h=.ok AEl h'/\Fx A.K h h'/\Sl h' A T M c0 z ks fr lv fv bad ov:=by
 obtain⟨b,g,d,c⟩:=fu (m:=m) a s.dk f;have fK:Fx A.K h b:=d.mono λi e=>.inl e
 exact⟨b,g,fK,(s.sc.fx a fK).sl c⟩
theorem Xi{k:TK}{t:Nat}{a:Addr}{g:O}(hk:k=.ptr t)(b:g e=.pointer (BY a)):oEq k IN g (W (.pointer By)) F e h=.ok (.bool IN) h:=by
 subst hk;show(match eqV (.ptr t) (g e) (.pointer By)with|some c=>okB (IN != c) h|none=>.no)=_;rw[b];exact FU
theorem Qn(R:h.Row A.bs 0 (slL A.bd A.tb lv fv bad ov)):call AC (m+1) 35 [pt A.bs] h=.ok (.bool ov) h:=by
 obtain⟨_,_,_,_,_,_,c⟩:=BK R;have d:∀(F:AEh) (e:Env) (a:Hp),J 0 e=pt A.bs->oEq IP.k IN (J 0) (W (.pointer By)) F e a=.ok (.bool IN) a:=λF e a b=>Xi X9 b
 rw[oY rfl];unfold d35;simp only[iN,xV,sT,xT,sh,reduceIte,gD,d,Ax,Am,AH,AO,xZ,AN,AQ,c,lV0]
end
def opL(kd a b c n:Int)(u w:xU):List xU:=[AI AT kd,AI AT a,AI AT b,AI AT c,AI AT n,u,w]
def opV(kd a b c n:Int)(u w:xU):xU:=.agg ⟨opL kd a b c n u w⟩
def DS(kd:Int):Prop:=kd=1\/kd=2\/kd=3\/kd=4
def Iw(ks:List Kt)(n:Nat)(kd a b c:Int)(l:List Nat)(z:Int):Prop:=
 (DS kd/\DW ks n a b c l=BY z)\/((kd=5\/kd=6)/\Dt ks a b c=BY z)\/(kd=7/\abE ks a b c=BY z)\/(kd=8/\drO a b c ks=[]/\z=0)\/(¬DS kd/\kd≠5/\kd≠6/\kd≠7/\kd≠8/\z=0)
def Ps(T M:List Nat)(ks:List Kt)(fr:List Nat)(kd a b c:Int)(l f:List Nat)(h:List Kt)(g:List Nat):Prop:=
 (DS kd/\DW ks fr.length a b c l=By/\∃j k,fr=j::g/\h=EH (ks++[k])/\k.core=⟨a,b,c,1,l,j⟩/\f=EM T M j l (AFA T a b c 1 l))\/
 ((kd=5\/kd=6)/\∃e d,ks[e]? =BY d/\(d.a=a/\d.b=b/\d.c=c)/\CA a b c ks=IT/\h=((ks.set e {d with s:=2}).filter λi=> !elB a b c i)/\g=frE fr ((ks.set e {d with s:=2}).filter (elB a b c))/\f=IK (Hg M d.p (AFA T a b c 2 d.l)) (((ks.set e {d with s:=2}).filter (elB a b c)).map (·.p)))\/
 (kd=7/\∃e d,ks[e]? =BY d/\(d.a=a/\d.b=b/\d.c=c)/\CA a b c ks=IT/\h=ks.take e++ks.drop (e+1)/\g=Ec (fr++[d.p])/\f=IK M [d.p])\/
 (kd=8/\h=(ks.filter λi=> !drB a b c i)/\g=frE fr (drO a b c ks)/\f=Iz M (drO a b c ks))
section

end
theorem PI:∀(A:List Kt) (x:Kt),(HL A x).Perm (x::A):=λA x=>by
 unfold HL;refine(AAL _).trans ?_;have:∀a:List Kt,(Iq x a).Perm (x::a):=λa=>by
  induction a with
  |nil=>exact .refl _
  |cons b d c=>
   rw[LG];split
   ·exact(c.cons b).trans (.swap x b d)
   ·exact .refl _
 exact(this _).trans ((AAL A).cons x)
theorem TY:∀(B A:List Kt),(srt A B).Perm (A++B)
 |[],A=>by
  rw[yF];exact .refl _
 |x::B,A=>by
  show(srt (HL A x) B).Perm _;exact(TY B _).trans (((PI A x).append_right B).trans AAt.symm)
theorem F4(l:List Kt):(EH l).Perm l:=by
 unfold EH;have:=TY (l.drop 1) (l.take 1)
 rwa [zi]at this
def Kt.key(k:Kt):Int×Int×Int:=(k.a,k.b,k.c)
def Kt.plc(k:Kt):Nat:=k.p
structure AFb (np:Nat)(ks:List Kt)(fr:List Nat):Prop where
 key:(ks.map Kt.key).Nodup
 plc:(ks.map Kt.plc++fr).Perm (zP np)
abbrev wd(ks:List Kt)(fr:List Nat):Prop:=AFb 8 ks fr
section
variable {T M M':List Nat}{ks ks':List Kt}{fr fr':List Nat}{kd a b c:Int}{l:List Nat}{np:Nat}
theorem AFb.len(i:AFb np ks fr):ks.length+fr.length=np:=by
 have:=i.plc.length_eq;rw[xY,xa,ABh]at this;exact this
theorem AFb.lt(i:AFb np ks fr):∀k∈ks,3*k.p+3<=3*np:=λk b=>by
 have a:k.p∈ks.map Kt.plc++fr:=yh _ (zI.2 ⟨k,b,rfl⟩);have c:=List.mem_range.1 (i.plc.mem_iff.1 a);omega
theorem AFb.nd(i:AFb np ks fr):(ks.map Kt.plc).Nodup:=(AAU.1 (i.plc.nodup_iff.2 ACB)).1
theorem G0{g i:Type}{f:g->i}:∀{l:List g},(l.map f).Nodup->∀{x y:g},x∈l->y∈l->f x=f y->x=y
 |[],_,x,y,e,_,_=>by cases e
 |w::l,c,x,y,e,h,d=>by
  rw[za,zm]at c;rcases yC.1 e with b|b
  ·rcases yC.1 h with a|a
   ·rw[b,a]
   ·exact absurd (zI.2 ⟨y,a,by rw[<- d,b]⟩) c.1
  ·rcases yC.1 h with a|a
   ·exact absurd (zI.2 ⟨x,b,by rw[d,a]⟩) c.1
   ·exact G0 c.2 b a d
theorem Gp{x:Kt}(h:BL a b c x=IN):x.key=(a,b,c):=by
 obtain⟨rfl,rfl,rfl⟩:=Gm h;rfl
theorem Gn{x:Kt}(h:x.key=(a,b,c)):BL a b c x=IN:=by
 unfold Kt.key at h;injection h with e d
 injection d with d f
 unfold BL;rw[decide_eq_true e,decide_eq_true d,decide_eq_true f];rfl
theorem Ju(f:(ks.map Kt.key).Nodup){x:Kt}(e:x∈ks)(hk:x.key=(a,b,c)):ks.find? (BL a b c)=BY x:=by
 cases d:ks.find? (BL a b c)with
 |none=>exact absurd (Gn hk) (AAH.1 d x e)
 |some g=>rw[G0 f (ABB d) e ((Gp (AA1 d)).trans hk.symm)]
theorem K9(P:Kt->Bool):∀l:List Kt,(l.filter P++l.filter λk=> !P k).Perm l
 |[]=>.refl _
 |x::l=>by
  cases a:P x
  ·rw[zN (by rw[a];decide),zM (by rw[a];rfl)]
   exact AAt.trans ((K9 P l).cons x)
  ·rw[zM a,zN (by rw[a];decide)]
   exact(K9 P l).cons x
theorem AFb.cut(i:AFb np ks fr)(P:Kt->Bool){out:List Kt}(c:out.Perm (ks.filter P)):AFb np (ks.filter λk=> !P k) (frE fr out):=by
 refine⟨AB8 (ADD.map _) i.key,?_⟩;have a:(frE fr out).Perm (fr++(ks.filter P).map Kt.plc):=(Jz out fr).trans ((c.map Kt.plc).append_left fr);have b:((ks.filter λk=> !P k).map Kt.plc++(fr++(ks.filter P).map Kt.plc)).Perm (ks.map Kt.plc++fr):=by
  rw[<- yD];refine(ACz).trans ?_;rw[<- yD,<- yZ];exact((K9 P ks).map Kt.plc).append_right fr
 exact(a.append_left _).trans (b.trans i.plc)
theorem AFb.set(i:AFb np ks fr){j:Nat}{x y:Kt}(a:ks[j]? =BY x)(d:y.key=x.key)(h2:y.p=x.p):AFb np (ks.set j y) fr:=by
 have b:(ks.set j y).map Kt.key=ks.map Kt.key:=by rw[ABX,d];exact OA (by rw[zE,a];rfl)
 have c:(ks.set j y).map Kt.plc=ks.map Kt.plc:=by
  rw[ABX,show y.plc=x.plc from h2];exact OA (by rw[zE,a];rfl)
 exact⟨b ▸ i.key,c ▸ i.plc⟩
theorem bY{P Q:List Kt}(p:Kt->Bool):(P++Q).find? p=(P.find? p).or (Q.find? p):=List.find?_append
theorem F8(i:AFb np ks fr)(t:Ps T M ks fr kd a b c l M' ks' fr'):AFb np ks' fr'/\Iw ks' fr'.length kd a b c l 0:=by
 rcases t with ⟨x,k,U,f,rfl,rfl,w,_⟩|⟨x,o,d,q,n,_,rfl,rfl,_⟩|⟨rfl,o,d,q,n,e,rfl,rfl,_⟩|⟨rfl,rfl,rfl,_⟩
 ·unfold DW at k
  split at k
  ·cases k
  rename_i O;split at k
  ·split at k<;>cases k
  rename_i N;have A:f.key=(a,b,c):=by
   show(f.core.a,f.core.b,f.core.c)=_;rw[w]
  have J:f.p=U:=congrArg Kc.p w;have I:f.l=l:=congrArg Kc.l w;have m:=F4 (ks++[f]);have p:((ks++[f]).map Kt.key).Nodup:=by
   rw[yZ,AAU];refine⟨i.key,zm.2 ⟨List.not_mem_nil,List.nodup_nil⟩,λu j y R D=>?_⟩;rw[yG.1 R]at D;obtain⟨V,Q,rfl⟩:=zI.1 j;exact absurd (Gn (D.trans A)) (AAH.1 N V Q)
  have F:((EH (ks++[f])).map Kt.key).Nodup:=(m.map Kt.key).nodup_iff.2 p;refine⟨⟨F,?_⟩,.inl ⟨x,?_⟩⟩
  ·refine((m.map Kt.plc).append_right fr').trans (AC4 ?_ i.plc)
   rw[yZ,yD];show(ks.map Kt.plc++([f.p]++fr')).Perm _;rw[J];exact .refl _
  ·unfold DW
   rw[No O,Ju F (m.mem_iff.2 (yc _ (yG.2 rfl))) A];simp only;rw[If I]
 ·have z:({d with s:=2}:Kt).key=(a,b,c):=by obtain⟨rfl,rfl,rfl⟩:=n;rfl
  have E:=i.set (y:={d with s:=2}) q rfl rfl;have C:({d with s:=2}:Kt)∈ks.set o {d with s:=2}:=AEC (yN.1 q).1 _;generalize ks.set o {d with s:=2}=S at E C;have r:=E.cut (elB a b c) (out:=S.filter (elB a b c)) (.refl _);refine⟨r,.inr (.inl ⟨x,?_⟩)⟩;have K:elB a b c {d with s:=2}=IT:=by
   obtain⟨rfl,rfl,rfl⟩:=n;unfold elB;rw[decide_eq_false (Int.lt_irrefl _),ABC]
  unfold Dt;rw[Ju r.key (zC.2 ⟨C,by rw[K];rfl⟩) z];exact If rfl
 ·obtain⟨H,W⟩:=Qb q
  have z:d.key=(a,b,c):=by obtain⟨rfl,rfl,rfl⟩:=n;rfl
  generalize ks.take o=g at *;generalize ks.drop (o+1)=h at *;subst H;have m:(g++d::h).Perm (d::(g++h)):=AAt;have p:((d::(g++h)).map Kt.key).Nodup:=(m.map Kt.key).nodup_iff.1 i.key;rw[za,zm]at p;refine⟨⟨p.2,?_⟩,.inr (.inr (.inl ⟨rfl,?_⟩))⟩
  ·refine((Ha (fr++[d.p])).append_left _).trans (AC4 ?_ i.plc)
   rw[<- yD];refine ACz.trans ?_;show(d.plc::((g++h).map Kt.plc++fr)).Perm _;exact((m.map Kt.plc).symm).append_right fr
  ·have P:(g++h).find? (BL a b c)=By:=AAH.2 λu j L=>p.1 (zI.2 ⟨u,j,(Gp L).trans z.symm⟩)
   have G:CA a b c (g++h)=IT:=by
    unfold CA at e ⊢;rw[bY]at e ⊢;cases B:g.find? (LQ a b)with
    |some y=>
     rw[B]at e;exact e
    |none=>
     rw[B]at e;rw[Option.none_or]at e ⊢;cases j:LQ a b d
     ·rw[List.find?_cons_of_neg (by rw[j];decide)]at e
      exact e
     ·rw[List.find?_cons_of_pos j]at e
      simp only at e;have:=of_decide_eq_false e;exact absurd (Int.le_of_eq n.2.2.symm) this
   unfold abE;rw[G,P,No (by decide)]
 ·have r:=i.cut (drB a b c) (out:=drO a b c ks) (AAL _)
  refine⟨r,.inr (.inr (.inr (.inl ⟨rfl,?_,rfl⟩)))⟩;unfold drO;rw[List.filter_filter,List.filter_eq_nil_iff.2 (λu _=>by cases drB a b c u<;>decide)];rfl
end
theorem Jq{l l':List Nat}(c:l.length=l'.length)(h:∀i,i<l.length->l.getD i 0=l'.getD i 0):l=l':=by
 refine ADY c λi a b=>?_
 have:=h i a;rw[xe,xe,xc a,xc b]at this;exact this
theorem LE{l:List Nat}{n i:Nat}(h:i<n):(l.take n).getD i 0=l.getD i 0:=by
 rw[xe,xe,zy,If h]
theorem LD{l:List Nat}{n i:Nat}:(l.drop n).getD i 0=l.getD (n+i) 0:=by
 rw[xe,xe,List.getElem?_drop]
theorem Xj:∀(k:Nat) (l:List Nat) (p:Nat) (ns:List Nat) (q:Nat),rdN k l p=BY (ns,q)->ns.length=k
 |0,l,p,ns,q,a=>by cases a;rfl
 |k+1,l,p,ns,q,a=>by
  rw[TB]at a;cases c:Fe 0 0 (l.drop p)with
  |none=>rw[c]at a;cases a
  |some f=>
   obtain⟨v,e⟩:=f;rw[c]at a;simp only at a;by_cases d:v<=1099511627776
   ·rw[If d]at a
    cases b:rdN k l (p+e)with
    |none=>rw[b]at a;cases a
    |some g=>
     obtain⟨vs,h⟩:=g;rw[b]at a;cases a;rw[xh,Xj k l (p+e) vs _ b]
   ·rw[No d]at a;cases a
theorem db{T:List Nat}{a b c:Int}{s:Nat}{l:List Nat}(h:AEz a b c s l.length=IN):L1 T (AFA T a b c s l) (CT a.toNat b.toNat c.toNat s l.length (CJ T l)):=by
 obtain⟨p,q,r,t,u,w,m,x⟩:=Eb h;have y:=Ip T l;refine(Sw NQ).2 ?_;have n:∀v∈CT a.toNat b.toNat c.toNat s l.length (CJ T l),v<=1099511627776:=λv e=>by
  unfold CT at e;simp only[yC,ACW,or_false]at e;omega
 have e0:at6 (CT a.toNat b.toNat c.toNat s l.length (CJ T l)) 0=s:=rfl;have f:at6 (CT a.toNat b.toNat c.toNat s l.length (CJ T l)) 1=a.toNat:=rfl;have g:at6 (CT a.toNat b.toNat c.toNat s l.length (CJ T l)) 2=b.toNat:=rfl;have i:at6 (CT a.toNat b.toNat c.toNat s l.length (CJ T l)) 3=c.toNat:=rfl;have j:at6 (CT a.toNat b.toNat c.toNat s l.length (CJ T l)) 4=l.length:=rfl;have k:at6 (CT a.toNat b.toNat c.toNat s l.length (CJ T l)) 5=CJ T l:=rfl;have d:=MU (CT a.toNat b.toNat c.toNat s l.length (CJ T l)) [] (xx (60 - (CB (CT a.toNat b.toNat c.toNat s l.length (CJ T l))).length) 0++Hb (CJ T (L7 (CT a.toNat b.toNat c.toNat s l.length (CJ T l))))) n;refine⟨(CB (CT a.toNat b.toNat c.toNat s l.length (CJ T l))).length,?_,⟨by rw[e0];omega,by rw[j];omega,by rw[k];omega,?_⟩,rfl⟩
 ·have o:AFA T a b c s l=CB (CT a.toNat b.toNat c.toNat s l.length (CJ T l))++(xx (60 - (CB (CT a.toNat b.toNat c.toNat s l.length (CJ T l))).length) 0++Hb (CJ T (L7 (CT a.toNat b.toNat c.toNat s l.length (CJ T l))))):=by
   unfold AFA DH;rw[<- yD];rfl
  rw[o];simp only[yT,yU,xZ]at d;exact d
 ·rw[e0,f,g,i]
  exact decide_eq_true ⟨by omega,by omega,by omega,by omega,by omega,by omega,m,by omega⟩
theorem Sx{T:List Nat}{ns:List Nat}{l:List Nat}(n:l.length=64)(b:∀x∈l,x=0):¬L1 T l ns:=λc=>by
 have i:∀x∈l,x<256:=λx m=>by rw[b x m];decide
 obtain⟨p,d,e,f⟩:=(Sw i).1 c;have h:=Xj _ _ _ _ _ d;obtain⟨_,_,_,g⟩:=e;have j:=(Eb g).2.2.2.2.2.2.1;cases ns with
 |nil=>cases h
 |cons a ns=>
  have o:a=1\/a=2:=j;have k:BD a=[a]:=by
   unfold BD;rw[dif_pos (by omega)]
  have:a∈l:=by
   rw[<- f];unfold DH L7 Qo;refine yh _ (yh _ ?_);rw[FQ,k];exact yh _ xp
  have:=b a this;omega
theorem JG{l:List Nat}{j r:Nat}(a:r<64):(DB l j).getD r 0=l.getD (64*j+r) 0:=by
 unfold DB;have b:((l.drop (64*j)).take 64).length=min 64 (l.length - 64*j):=by rw[yP,yX]
 rcases Nat.lt_or_ge r ((l.drop (64*j)).take 64).length with h|h
 ·rw[xe,yL h,<- xe,LE a,LD]
 ·rw[xe,List.getElem?_append_right h,ACi]
  have:l.getD (64*j+r) 0=0:=by
   rw[xe,List.getElem?_eq_none (by omega)];rfl
  rw[this];split<;>rfl
theorem bD{T M l H:List Nat}{n p:Nat}(e:M.length=64*n)(j:3*p+3<=n)(i:1<=l.length/\l.length<=100)(d:H.length=64):
  (EM T M p l H).length=64*n/\∀x,(EM T M p l H).getD x 0=if x/64=3*p then H.getD (x % 64) 0 else if x/64=3*p+1 then l.getD (x % 64) 0 else if x/64=3*p+2/\64<l.length then l.getD (64+x % 64) 0 else M.getD x 0:=by
 have hk:(l.length+63)/64=1\/(l.length+63)/64=2:=by omega
 rcases hk with hk|hk
 ·have f:EM T M p l H=It (It M (p*3+1+0) (DB l 0)) (p*3) H:=by
   unfold EM Kf GZ;rw[hk];rfl
  have c:=Dg e (show p*3+1+0<n by omega) (C4 l 0);rw[f];refine⟨Dg c (by omega) d,λx=>?_⟩;rw[Eo c (by omega) d,Eo e (show p*3+1+0<n by omega) (C4 l 0),JG (by omega),ACa,xZ,zb p 3,zQ];by_cases b:x/64=3*p
  ·rw[If b,If b]
  ·rw[No b,No b]
   by_cases a:x/64=3*p+1
   ·rw[If a,If a]
   ·rw[No a,No a,No (by omega)]
 ·have f:EM T M p l H=It (It (It M (p*3+1+0) (DB l 0)) (p*3+1+1) (DB l 1)) (p*3) H:=by
   unfold EM Kf GZ;rw[hk];rfl
  have c:=Dg e (show p*3+1+0<n by omega) (C4 l 0);have g:=Dg c (show p*3+1+1<n by omega) (C4 l 1);rw[f];refine⟨Dg g (by omega) d,λx=>?_⟩;rw[Eo g (by omega) d,Eo c (show p*3+1+1<n by omega) (C4 l 1),Eo e (show p*3+1+0<n by omega) (C4 l 0),JG (by omega),JG (by omega),ACa,xZ,zb p 3,zQ,zw];by_cases b:x/64=3*p
  ·rw[If b,If b]
  ·rw[No b,No b]
   by_cases a:x/64=3*p+1
   ·rw[No (by omega),If a,If a]
   ·rw[No a]
    by_cases h:x/64=3*p+2
    ·rw[If (show x/64=3*p+1+1 by omega),No a,If (show x/64=3*p+2/\64<l.length from⟨h,by omega⟩)]
    ·rw[No (show ¬x/64=3*p+1+1 by omega),No a,No (show ¬(x/64=3*p+2/\64<l.length)by omega)]
theorem aP{M H:List Nat}{n p:Nat}(b:M.length=64*n)(d:3*p+3<=n)(a:H.length=64):(Hg M p H).length=64*n/\∀x,(Hg M p H).getD x 0=if x/64=3*p then H.getD (x % 64) 0 else M.getD x 0:=by
 have c:Hg M p H=It M (p*3) H:=rfl;rw[c];refine⟨Dg b (by omega) a,λx=>?_⟩;rw[Eo b (by omega) a,zb p 3]
theorem TH{n x:Nat}:(xx n 0).getD x 0=0:=by
 rw[xe,ACi];split<;>rfl
def cX:List Nat:=xx (64*24) 0
section
variable {T b:List Nat}(hl:1<=b.length/\b.length<=100)
include hl
end
theorem KM{M:List Nat}{i r:Nat}(a:r<64):(sec M i).getD r 0=M.getD (64*i+r) 0:=by
 unfold sec;rw[LE a,LD]
theorem NA{M:List Nat}{p k r:Nat}(a:r<k):(dat M p k).getD r 0=M.getD (64*(3*p+1)+r) 0:=by
 unfold dat;rw[LE a,LD]
theorem br{T M:List Nat}{p:Nat}{a b c:Int}{s:Nat}{l:List Nat}(e:AEz a b c s l.length=IN)(h:l.length<=100)(f:sec M (3*p)=AFA T a b c s l)(h2:dat M p l.length=l):
  Hd T M p (CT a.toNat b.toNat c.toNat s l.length (CJ T l))/\lkN T M p=BY (CT a.toNat b.toNat c.toNat s l.length (CJ T l))/\sW M p (CT a.toNat b.toNat c.toNat s l.length (CJ T l))=⟨a,b,c,s,l,p⟩/\I4 T M p=IT:=by
 obtain⟨g1,g2,g3,g4,g5,g6,_⟩:=Eb e;have d:Hd T M p (CT a.toNat b.toNat c.toNat s l.length (CJ T l)):=by
  refine⟨by rw[f];exact db e,h,?_⟩;show CJ T (dat M p l.length)=CJ T l;rw[h2]
 refine⟨d,SS d,?_,?_⟩
 ·show(⟨(a.toNat:Int),(b.toNat:Int),(c.toNat:Int),s,dat M p l.length,p⟩:Kc)=_
  rw[h2,zh g1,zh g3,zh (by omega)]
 ·cases g:I4 T M p
  ·rfl
  ·exact absurd ⟨_,d⟩ (Na.1 g).1
theorem bP{T M:List Nat}{n p:Nat}(j:M.length=64*n)(m:3*p<n)(h:∀r,r<64->M.getD (64*(3*p)+r) 0=0):lkN T M p=By/\I4 T M p=IT:=by
 have g:=KP j m;have d:∀b∈sec M (3*p),b=0:=λb c=>by
  obtain⟨i,f⟩:=AAP.1 c;have o:=(yN.1 f).1;have:=KM (M:=M) (i:=3*p) (r:=i) (by omega);rw[h i (by omega),xe,f]at this;exact this
 have l:¬ ∃e,Hd T M p e:=λ⟨e,a,_⟩=>Sx g d a
 refine⟨cT l,?_⟩;cases k:I4 T M p
 ·rfl
 ·rcases (Na.1 k).2 with ⟨b,c,a⟩|⟨e,a,_⟩
  ·exact absurd (d b c) a
  ·exact absurd a (Sx g d)
structure Trn (b:List Nat)(hd:Bool)(k:Nat)(ts:List Nat):Prop where
 lt:∀t∈ts,t<256
 win:k+ts.length<=if hd=IN then 60 else b.length
 four:ts.length<=4
def chg(b:List Nat):Bool:=b.any λa=>decide (a≠0)
section
variable {b ts:List Nat}{hd:Bool}{k:Nat}
variable (hl:1<=b.length/\b.length<=100)(hb:∀x∈b,x<256)(t:Trn b hd k ts)
include hl t
end
theorem mD:Bs .mt 0 lY.zero=BY Q0:=by kernel_rfl
theorem Th:∀{a:List xU},(∀v∈a,isW v=IN)->∃T:List Nat,a=T.map wv/\∀x∈T,x<4294967296
 |[],_=>⟨[],rfl,λx hx=>by cases hx⟩
 |v::a,b=>by
  obtain⟨e,rfl,d⟩:=QU (b v xp);obtain⟨T,rfl,c⟩:=Th λx hx=>b x (xn _ hx)
  refine⟨e::T,rfl,λx hx=>?_⟩;rcases yC.1 hx with rfl|hx
  ·exact d
  ·exact c x hx
theorem uC{T:List Nat}(b:T.length=256)(h2:∀x∈T,x<4294967296):AFQ T:=⟨b,λc=>by
 rw[xe];cases a:T[c]? with
 |none=>decide
 |some x=>exact h2 x (xy a)⟩
theorem Og:∀T:List Nat,Bc (T.map wv)=IN
 |[]=>rfl
 |x::T=>Og T
theorem tT{h g:Hp}(d:h.Wf)(x:h.Ext g){r:Nat}(i:h.next<=r){a:List xU}(R:g.Row r 0 a)(k:a.length=256){T:List Nat}(e:T.length=256):
  AEn 256 (pt r) (.agg ⟨T.map wv⟩) g=.ok AEl (g.wr r 0 (T.map wv))/\h.Ext (g.wr r 0 (T.map wv))/\(g.wr r 0 (T.map wv)).Row r 0 (T.map wv):=by
 have c:256<=r:=by have:=d.big;omega
 have f:(T.map wv).length=256:=by rw[xa];exact e
 have b:0+(T.map wv).length<=a.length:=by omega
 have j:=R.AEn (n:=256) (off:=0) x.wf c (v:=.agg ⟨T.map wv⟩) f b (Og T);have wr:=R.AEt x.wf b;rw[EW (show a.length=(T.map wv).length by omega)]at wr;exact⟨j,R.AFC x i b,wr⟩
theorem ue(k:Nat):CL (-1) k:=⟨by omega,by omega,.inl (by omega)⟩
def AKx(v:xU):Prop:=oneCell v=IN/\∀a b,v≠.int a b
structure ALM (h:Hp)(v:xU)(n cap:Nat):Prop where
 len:∀g:Hp,AFB v g=.ok (AI AT (n:Int)) g
 get:∀i,i<n->i<cap->∃(r:Nat) (kd a b c no:Int) (u w:xU) (l:List Nat),(∀g:Hp,h.Ext g->AFV 7 v (AI AT (i:Int)) g=.ok (.pointer (BY ⟨r,i*7,By⟩)) g/\loadN 7 ⟨r,i*7,By⟩ g=.ok (opV kd a b c no u w) g/\AEi ⟨r,i*7+5,By⟩ g=.ok u g)/\h.VE u (l.map bv)/\(∀x∈l,x<256)/\oneCell u=IN/\AKx w
section
variable {h:Hp}{A:At}{T M:List Nat}{c0 bad k:Nat}{arm:Int}{ks:List Kt}{fr:List Nat}{lv fv u:xU}{ov:Bool}{l:List Nat}
theorem Sl.all(s:Sl h A T M c0 arm ks fr lv fv bad ov):∀k∈ks,h.AE7 k.u (k.l.map bv)/\k.l.length<=1000/\oneCell k.u=IN:=λb a=>⟨(s.ko b a).1.vs.vals,by have:=(s.ko b a).2.2.1;omega,(s.ko b a).1.vs.one.2.1⟩
theorem lR:∃T:List Nat,OG=T.map wv/\AFQ T:=by
 obtain⟨_,_,a,c⟩:=VV;obtain⟨T,b,d⟩:=Th c;have e:T.length=256:=by rw[b,xa]at a;exact a
 exact⟨T,b,uC e d⟩
end
theorem uh:BQ 4 [.t (J 2)] d4:=BR (by kernel_rfl) rfl
theorem um:BQ 6 [.t (J 2),.t (J 3),.t (J 4)] d6:=BR (by kernel_rfl) rfl
theorem uq:BQ 8 [.t (J 2)] d8:=BR (by kernel_rfl) rfl
theorem aG:BQ 9 [.cN (J 4) 7,.t (J 5)] d9:=BR (by kernel_rfl) rfl
theorem oK:BQ 12 [.t (J 2)] d12:=BR (by kernel_rfl) rfl
theorem oL:BQ 15 [.t (J 6),.t (J 7)] d15:=BR (by kernel_rfl) rfl
theorem oM:BQ 17 [.t (J 2)] d17:=BR (by kernel_rfl) rfl
theorem Z9:BQ 21 [.t (J 4),.t (J 5)] d21:=BR (by kernel_rfl) rfl
theorem oR:BQ 27 [.t (J 2)] d27:=BR (by kernel_rfl) rfl
theorem aA:BQ 28 [.cN (J 6) 7,.t (J 7)] d28:=BR (by kernel_rfl) rfl
theorem oS:BQ 29 [.cN (J 4) 7] d29:=BR (by kernel_rfl) rfl
theorem oU:BQ 30 [.cN (J 4) 7] d30:=BR (by kernel_rfl) rfl
theorem oV:BQ 31 [.cN (J 4) 7] d31:=BR (by kernel_rfl) rfl
theorem UA:BQ 32 [.cN (J 4) 7] d32:=BR (by kernel_rfl) rfl
theorem oW:BQ 33 [.cN (J 4) 7] d33:=BR (by kernel_rfl) rfl
theorem oX:BQ 34 [.cN (J 4) 7] d34:=BR (by kernel_rfl) rfl
theorem oZ:BQ 36 [.t (J 6)] d36:=BR (by kernel_rfl) rfl
theorem oa:BQ 37 [.t (J 8)] d37:=BR (by kernel_rfl) rfl
theorem oq:BQ 45 [.t (J 4)] d45:=BR (by kernel_rfl) rfl
theorem ox:BQ 47 [.t (J 4)] d47:=BR (by kernel_rfl) rfl
theorem UB:BQ 48 [.cN (J 4) 7,.t (J 5)] d48:=BR (by kernel_rfl) rfl
theorem oz:BQ 49 [.t (J 4),.t (J 5)] d49:=BR (by kernel_rfl) rfl
theorem aC:BQ 51 [.t (J 6),.t (J 7),.t (J 8)] d51:=BR (by kernel_rfl) rfl
theorem o0:BQ 52 [.t (J 2)] d52:=BR (by kernel_rfl) rfl
theorem pC:BQ 57 [.t (J 4)] d57:=BR (by kernel_rfl) rfl
theorem pD:BQ 58 [.t (J 3)] d58:=BR (by kernel_rfl) rfl
theorem pF:BQ 61 [.cN (J 2) 4] d61:=BR (by kernel_rfl) rfl
theorem pG:BQ 62 [.t (J 3)] d62:=BR (by kernel_rfl) rfl
theorem pI:BQ 64 [.t (J 6)] d64:=BR (by kernel_rfl) rfl
theorem pU:BQ 81 [.t (J 2)] d81:=BR (by kernel_rfl) rfl
theorem UE:BQ 83 [.t (J 5)] d83:=BR (by kernel_rfl) rfl
theorem UF:BQ 85 [.t (J 3),.t (J 4)] d85:=BR (by kernel_rfl) rfl
theorem P5:BQ 86 [.t (J 6),.t (J 7),.t (J 8)] d86:=BR (by kernel_rfl) rfl
theorem pV:BQ 87 [.t (J 4)] d87:=BR (by kernel_rfl) rfl
theorem pW:BQ 88 [.t (J 2)] d88:=BR (by kernel_rfl) rfl
theorem gU:BQ 122 [.t (J 4)] qW:=BR (by kernel_rfl) rfl
theorem gV:BQ 123 [.t (J 4)] qX:=BR (by kernel_rfl) rfl
def CM(AEr seq:Int)(op:Nat)(a b c:Int)(u:xU):List xU:=[AI AT AEr,AI AT seq,.int .u8 (op:Int),AI AT a,AI AT b,AI AT c,u]
def CQ(AEr seq:Int)(op:Nat)(a b c:Int)(u:xU):xU:=.agg ⟨CM AEr seq op a b c u⟩
def wiQ(n lo hi:Int):Bool:=decide (lo<=n/\n<=hi)
def hdQ(AEr seq:Int)(op:Nat):Bool:=wiQ AEr 1 1099511627776 && wiQ seq 1 1099511627776 && decide (1<=op/\op<=6)
def nmQ(a b c least:Int):Bool:=wiQ a 0 1099511627776 && wiQ b 0 254 && wiQ c least 1099511627776
def Dp(op:Nat):Int:=if op=4\/op=5 then 0 else 1
def Ca(AEr seq:Int)(op:Nat)(a b c:Int)(n:Nat):Bool:=hdQ AEr seq op && nmQ a b c (Dp op) && (if op=1 then decide (n<=65536)else decide (n=0))
section
variable {F:AEh}{e:Env}{h h':Hp}{m n op r:Nat}{AEr seq a b c least lo hi:Int}{u:xU}
theorem E9(d:h.Wf){g:O}(f:g e=CQ AEr seq op a b c u):CV g F e h=.ok (pt h.next) (h.AEg 0 (CM AEr seq op a b c u)):=by rw[DN,f,DM d];rfl
theorem Br(R:h.Row r 0 (CM AEr seq op a b c u)):AEi ⟨r,0,By⟩ h=.ok (AI AT AEr) h/\AEi ⟨r,1,By⟩ h=.ok (AI AT seq) h/\AEi ⟨r,2,By⟩ h=.ok (.int .u8 (op:Int)) h/\AEi ⟨r,3,By⟩ h=.ok (AI AT a) h/\AEi ⟨r,4,By⟩ h=.ok (AI AT b) h/\AEi ⟨r,5,By⟩ h=.ok (AI AT c) h/\AEi ⟨r,6,By⟩ h=.ok u h/\loadN 7 ⟨r,0,By⟩ h=.ok (CQ AEr seq op a b c u) h:=
 ⟨R.AEi (off:=0) (by show 0<7;omega),R.AEi (off:=1) (by show 1<7;omega),R.AEi (off:=2) (by show 2<7;omega),R.AEi (off:=3) (by show 3<7;omega),R.AEi (off:=4) (by show 4<7;omega),R.AEi (off:=5) (by show 5<7;omega),R.AEi (off:=6) (by show 6<7;omega),R.loadN (off:=0) (n:=7) (by show 0+7<=7;omega)⟩
theorem OO{n:Int}:call AC (m+1) 64 [AI AT n,AI AT lo,AI AT hi] h=.ok (.bool (wiQ n lo hi)) h:=by
 rw[pI rfl];unfold d64 wiQ;by_cases b:lo<=n
 ·have a:iGe n lo=IN:=GL b
  by_cases c:n<=hi
  ·have d:iLe n hi=IN:=Gv c
   rw[decide_eq_true ⟨b,c⟩];simp only[iN,xV,sT,xT,sh,reduceIte,gD,AK,AJ,a,d,lV0]
  ·have d:iLe n hi=IT:=Lm c
   rw[decide_eq_false λe=>c e.2];simp only[iN,xV,sT,xT,sh,reduceIte,gD,AK,AJ,a,d,lV0]
 ·have a:iGe n lo=IT:=EX b
  rw[decide_eq_false λe=>b e.1];simp only[iN,xV,sT,xT,sh,reduceIte,gD,AK,AJ,a,lV0]
theorem mO:call AC (m+2) 36 [AI AT AEr,AI AT seq,.int .u8 (op:Int)] h=.ok (.bool (hdQ AEr seq op)) h:=by
 have a:=OO (m:=m) (h:=h) (n:=AEr) (lo:=1) (hi:=1099511627776);have b:=OO (m:=m) (h:=h) (n:=seq) (lo:=1) (hi:=1099511627776);rw[oZ rfl];unfold d36 hdQ;cases f:wiQ AEr 1 1099511627776
 ·rw[f]at a
  simp only[iN,xV,sT,xT,sh,reduceIte,gD,cA0,a,AAB,lV0]
 ·rw[f]at a
  cases g:wiQ seq 1 1099511627776
  ·rw[g]at b
   simp only[iN,xV,sT,xT,sh,reduceIte,gD,cA0,a,b,AAB,ABC,lV0]
  ·rw[g]at b
   by_cases i:1<=op
   ·have c:iGe (op:Int) 1=IN:=GL (by omega)
    by_cases j:op<=6
    ·have d:iLe (op:Int) 6=IN:=Gv (by omega)
     rw[decide_eq_true ⟨i,j⟩];simp only[iN,xV,sT,xT,sh,reduceIte,gD,cA0,a,b,AK,AJ,c,d,Bool.and_true,lV0]
    ·have d:iLe (op:Int) 6=IT:=Lm (by omega)
     rw[decide_eq_false λe=>j e.2];simp only[iN,xV,sT,xT,sh,reduceIte,gD,cA0,a,b,AK,AJ,c,d,ABC,lV0]
   ·have c:iGe (op:Int) 1=IT:=EX (by omega)
    rw[decide_eq_false λe=>i e.1];simp only[iN,xV,sT,xT,sh,reduceIte,gD,cA0,a,b,AK,AJ,c,ABC,lV0]
theorem mQ:call AC (m+2) 37 [AI AT a,AI AT b,AI AT c,AI AT least] h=.ok (.bool (nmQ a b c least)) h:=by
 have d:=OO (m:=m) (h:=h) (n:=a) (lo:=0) (hi:=1099511627776);have e:=OO (m:=m) (h:=h) (n:=b) (lo:=0) (hi:=254);have i:=OO (m:=m) (h:=h) (n:=c) (lo:=least) (hi:=1099511627776);rw[oa rfl];unfold d37 nmQ;cases f:wiQ a 0 1099511627776
 ·rw[f]at d
  simp only[iN,xV,sT,xT,sh,reduceIte,gD,cA0,d,AAB,lV0]
 ·rw[f]at d
  cases g:wiQ b 0 254
  ·rw[g]at e
   simp only[iN,xV,sT,xT,sh,reduceIte,gD,cA0,d,e,AAB,ABC,lV0]
  ·rw[g]at e
   simp only[iN,xV,sT,xT,sh,reduceIte,gD,cA0,d,e,i,AAl,lV0]
theorem LX(G:h.Wf)(M:op<256){l:Nat}(I:∀g:Hp,AFB u g=.ok (AI AT (l:Int)) g):
  ∃h',call AC (m+3) 12 [CQ AEr seq op a b c u] h=.ok (.bool (Ca AEr seq op a b c l)) h'/\h.Ext h':=by
 have n:=λ(F:AEh) (e:Env) (K:J 0 e=CQ AEr seq op a b c u)=>E9 (F:=F) G K
 have H:=(Hp.Ext.refl G).AEg 0 (CM AEr seq op a b c u);have R:=Hp.Row.new G 0 (CM AEr seq op a b c u);generalize h.AEg 0 (CM AEr seq op a b c u)=w at n H R;obtain⟨q,r,s,x,y,z,D,_⟩:=Br R;have E:=I w;have k:=mO (m:=m) (h:=w) (AEr:=AEr) (seq:=seq) (op:=op);have B:=λ(least:Int)=>mQ (m:=m) (h:=w) (a:=a) (b:=b) (c:=c) (least:=least)
 refine⟨w,?_,H⟩;rw[oK rfl];unfold d12;have fin:∀(i:Bool),hdQ AEr seq op=i->Ca AEr seq op a b c l=(i && nmQ a b c (Dp op) && (if op=1 then decide (l<=65536)else decide (l=0))):=λi L=>by unfold Ca;rw[L]
 cases C:hdQ AEr seq op
 ·rw[fin _ C,AAB,AAB]
  rw[C]at k;by_cases o:op=4
  ·have f:iNe (op:Int) 4=IT:=B0 (by omega)
   simp only[iN,xV,sT,xT,sh,reduceIte,gD,n,AH,AO,xZ,AN,AQ,q,r,s,AK,AJ,f,cA0,k,BJ,BI,yg,lV0]
  ·have f:iNe (op:Int) 4=IN:=EG (by omega)
   by_cases p:op=5
   ·have j:iNe (op:Int) 5=IT:=B0 (by omega)
    simp only[iN,xV,sT,xT,sh,reduceIte,gD,n,AH,AO,xZ,AN,AQ,q,r,s,AK,AJ,f,j,cA0,k,BJ,BI,yg,lV0]
   ·have j:iNe (op:Int) 5=IN:=EG (by omega)
    simp only[iN,xV,sT,xT,sh,reduceIte,gD,n,AH,AO,xZ,AN,AQ,q,r,s,AK,AJ,f,j,cA0,k,BJ,BI,yg,lV0]
 ·rw[fin _ C,AAl]
  rw[C]at k;have rest:∀(i:Bool),nmQ a b c (Dp op)=i->(op=1\/op≠1):=λ_ _=>by omega
  cases A:nmQ a b c (Dp op)
  ·rw[AAB]
   by_cases o:op=4
   ·have f:iNe (op:Int) 4=IT:=B0 (by omega)
    have d:=B 0;rw[show(0:Int)=Dp op from(If (.inl o)).symm,A,show Dp op=0 from If (.inl o)]at d;simp only[iN,xV,sT,xT,sh,reduceIte,gD,n,AH,AO,xZ,AN,AQ,q,r,s,x,y,z,AK,AJ,f,cA0,k,d,BJ,BI,yg,yY,lV0]
   ·have f:iNe (op:Int) 4=IN:=EG (by omega)
    by_cases p:op=5
    ·have j:iNe (op:Int) 5=IT:=B0 (by omega)
     have d:=B 0;rw[show(0:Int)=Dp op from(If (.inr p)).symm,A,show Dp op=0 from If (.inr p)]at d;simp only[iN,xV,sT,xT,sh,reduceIte,gD,n,AH,AO,xZ,AN,AQ,q,r,s,x,y,z,AK,AJ,f,j,cA0,k,d,BJ,BI,yg,yY,lV0]
    ·have j:iNe (op:Int) 5=IN:=EG (by omega)
     have d:=B 1;rw[show(1:Int)=Dp op from(No (λg=>g.elim o p)).symm,A,show Dp op=1 from No (λg=>g.elim o p)]at d;simp only[iN,xV,sT,xT,sh,reduceIte,gD,n,AH,AO,xZ,AN,AQ,q,r,s,x,y,z,AK,AJ,f,j,cA0,k,d,BJ,BI,yg,yY,lV0]
  ·rw[AAl]
   by_cases o:op=4
   ·have f:iNe (op:Int) 4=IT:=B0 (by omega)
    have t:iEq (op:Int) 1=IT:=CF (by omega);have d:=B 0;rw[show(0:Int)=Dp op from(If (.inl o)).symm,A,show Dp op=0 from If (.inl o)]at d;rw[No (show ¬op=1 by omega)];have c4:iEq (l:Int) 0=decide (l=0):=by rw[Dv];by_cases i:l=0<;>simp[i]
    simp only[iN,xV,sT,xT,sh,reduceIte,gD,n,AH,AO,xZ,AN,AQ,q,r,s,x,y,z,D,AK,AJ,f,t,c4,cA0,k,d,BJ,BI,yg,yY,AX,E,lV0]
   ·have f:iNe (op:Int) 4=IN:=EG (by omega)
    by_cases p:op=5
    ·have j:iNe (op:Int) 5=IT:=B0 (by omega)
     have t:iEq (op:Int) 1=IT:=CF (by omega);have d:=B 0;rw[show(0:Int)=Dp op from(If (.inr p)).symm,A,show Dp op=0 from If (.inr p)]at d;rw[No (show ¬op=1 by omega)];have c4:iEq (l:Int) 0=decide (l=0):=by rw[Dv];by_cases i:l=0<;>simp[i]
     simp only[iN,xV,sT,xT,sh,reduceIte,gD,n,AH,AO,xZ,AN,AQ,q,r,s,x,y,z,D,AK,AJ,f,j,t,c4,cA0,k,d,BJ,BI,yg,yY,AX,E,lV0]
    ·have j:iNe (op:Int) 5=IN:=EG (by omega)
     have d:=B 1;rw[show(1:Int)=Dp op from(No (λg=>g.elim o p)).symm,A,show Dp op=1 from No (λg=>g.elim o p)]at d;by_cases w:op=1
     ·have t:iEq (op:Int) 1=IN:=CP (by omega)
      rw[If w];have c4:iLe (l:Int) 65536=decide (l<=65536):=by rw[QM];by_cases i:l<=65536<;>simp[i]<;>omega
      simp only[iN,xV,sT,xT,sh,reduceIte,gD,n,AH,AO,xZ,AN,AQ,q,r,s,x,y,z,D,AK,AJ,f,j,t,c4,cA0,k,d,BJ,BI,yg,yY,AX,E,lV0]
     ·have t:iEq (op:Int) 1=IT:=CF (by omega)
      rw[No w];have c4:iEq (l:Int) 0=decide (l=0):=by rw[Dv];by_cases i:l=0<;>simp[i]
      simp only[iN,xV,sT,xT,sh,reduceIte,gD,n,AH,AO,xZ,AN,AQ,q,r,s,x,y,z,D,AK,AJ,f,j,t,c4,cA0,k,d,BJ,BI,yg,yY,AX,E,lV0]
end
theorem se:nfS=BB (AY 0 (A3 nfB)) nfE:=rfl
theorem rC:d57=iM:=rfl
def Bv(k:Kt):List xU:=[AI AT k.a,AI AT k.b,AI AT k.c,.int .u8 (k.s:Int)]
def DF(k:Kt):xU:=.agg ⟨Bv k⟩
def flI(ks:List Kt):List xU:=ks.flatMap Bv
theorem ML:∀ks:List Kt,(flI ks).length=ks.length*4
 |[]=>rfl
 |k::a=>by
  show(Bv k++flI a).length=_;rw[xY,ML a,xh];show 4+a.length*4=_;omega
theorem Wr(a b:List Kt):flI (a++b)=flI a++flI b:=AAg
def Hp.IL(h:Hp)(k:Nat)(v:xU)(ks:List Kt):Prop:=(v=AEk/\ks=[])\/∃a,v=.slice (BY ⟨a,0,By⟩) ks.length ks.length/\h.Row a 91 (flI ks)/\k<=a
theorem YJ:Bs .mt 0 (Bv K0)=BY ZW:=by kernel_rfl
theorem mB:BP KZ.zero 1=Bv K0:=by kernel_rfl
theorem uW:KZ.zero=Bv K0:=by kernel_rfl
section
variable {F:AEh}{e:Env}{h h' h0 g:Hp}{A:At}{T M:List Nat}{c0 bad m k n nb r:Nat}{arm AEr:Int}{ks:List Kt}{fr:List Nat}{v lv fv u w:xU}{ov:Bool}{x:Kt}{P:Kt->Bool}
theorem xG(e:h.Wf)(x:h.Ext g){r:Nat}(f:h.next<=r){a:List xU}(R:g.Row r 0 a)(c:a.length=4)(k:Kt):
  AEn 4 (pt r) (DF k) g=.ok AEl (g.wr r 0 (Bv k))/\h.Ext (g.wr r 0 (Bv k))/\(g.wr r 0 (Bv k)).Row r 0 (Bv k):=by
 have d:256<=r:=by have:=e.big;omega
 have b:0+(Bv k).length<=a.length:=by rw[c];exact xW _
 have i:=R.AEn (n:=4) (off:=0) x.wf d (v:=DF k) rfl b rfl;have wr:=R.AEt x.wf b;rw[EW (show a.length=(Bv k).length from c)]at wr;exact⟨i,R.AFC x f b,wr⟩
theorem Z0{g1 g2 g3 g4:O}(a:g1 e=AI AT x.a)(h2:g2 e=AI AT x.b)(b:g3 e=AI AT x.c)(c:g4 e=.int .u8 (x.s:Int)):
  BG KZ.zero [(0,1,g1),(1,1,g2),(2,1,g3),(3,1,g4)] F e h=.ok (DF x) h:=by
 rw[CX,uW,Ad (hk:=by rw[a];rfl),a,Ad (hk:=by rw[h2];rfl),h2,Ad (hk:=by rw[b];rfl),b,Ad (hk:=by rw[c];rfl),c];simp only[Cj,yd,xh,yU,Bv,over,AA0,AAo,zp,yT,zK,xV,zg,if_true,Bo,reduceIte];rfl
theorem JM(b:h.Wf){g:O}(a:g e=DF x):Ab 1 (BP KZ.zero 1) [(0,4,g)] F e h=.ok (.slice (BY ⟨h.next,0,By⟩) 1 1) (h.AEg 0 (Bv x)):=by
 rw[mB,B5,Ad (hk:=by rw[a];rfl),a,show cellsOf (DF x)=Bv x from rfl,If (show(Bv x).length=4 from rfl),If (show 0+4<=(Bv K0).length from xW _),Bo,Cm b];rfl
theorem XI(f:h.Wf):∃h',call AC (m+1) 61 [Bn x.a x.b x.c x.s u] h=.ok (DF x) h'/\h.Ext h':=by
 have p:=λ(F:AEh) (e:Env) (B:J 0 e=Bn x.a x.b x.c x.s u)=>OD (F:=F) f B
 have b:=(Hp.Ext.refl f).AEg 0 (A9 x.a x.b x.c x.s u);have j:=Hp.Row.new f 0 (A9 x.a x.b x.c x.s u);generalize h.AEg 0 (A9 x.a x.b x.c x.s u)=a at p b j;have o:=λ(F:AEh) (e:Env)=>BO (F:=F) (e:=e) b.wf (n:=4) (t:=ZW)
 have l:=Hp.Row.alloc b.wf YJ (show(Bv K0).length=4 from rfl);have i:a.Ext (a.push (.cells ZW 4 0)):=(Hp.Ext.refl b.wf).push _;generalize a.push (.cells ZW 4 0)=d at o l i;obtain⟨D,E,G,H,_,_⟩:=Bw (j.ext b.wf i);have w:=λ(F:AEh) (e:Env) (y:J 4 e=AI AT x.a) (c:J 6 e=AI AT x.b) (z:J 8 e=AI AT x.c) (A:J 10 e=.int .u8 (x.s:Int))=>Z0 (F:=F) (h:=d) y c z A
 obtain⟨r,s,k⟩:=xG b.wf i (xW _) l rfl x;have q:loadN 4 ⟨a.next,0,By⟩ (d.wr a.next 0 (Bv x))=.ok (DF x) (d.wr a.next 0 (Bv x)):=k.loadN (off:=0) (n:=4) (by show 0+4<=4;omega);generalize d.wr a.next 0 (Bv x)=g at r s k q;refine⟨g,?_,b.trans s⟩;have C:∃c,d61 (call AC m) (Au e0 0 [Bn x.a x.b x.c x.s u]) h=.ret c g/\J 2 c=pt a.next:=by
  unfold d61;simp only[iN,xV,sT,xT,sh,reduceIte,p,o,AH,AO,xZ,AN,AQ,D,E,G,H,w,AW,r];exact⟨_,rfl,by simp[AG]⟩
 obtain⟨c,I,K⟩:=C;rw[pF rfl,I,Av,Dj (h':=g) (v:=DF x) (by rw[K,Ah];exact q)]
theorem ri{seq:Int}{op:Nat}{a b c:Int}{l:xU}(d:h.Wf)(R:h.Row r 0 (CM AEr seq op a b c l)):∃h',call AC (m+1) 58 [Bn x.a x.b x.c x.s u,pt r] h=.ok (.bool (decide (x.a=a) && decide (x.b=b))) h'/\h.Ext h':=by
 have f:=λ(F:AEh) (e:Env) (w:J 0 e=Bn x.a x.b x.c x.s u)=>OD (F:=F) d w
 have j:=(Hp.Ext.refl d).AEg 0 (A9 x.a x.b x.c x.s u);have k:=Hp.Row.new d 0 (A9 x.a x.b x.c x.s u);generalize h.AEg 0 (A9 x.a x.b x.c x.s u)=t at f j k;obtain⟨n,o,_⟩:=Bw k;obtain⟨_,_,_,p,q,_⟩:=Br (R.ext d j);refine⟨t,?_,j⟩;rw[pD rfl];unfold d58;rcases SC x.a a with ⟨g,i⟩|⟨g,i⟩
 ·rw[decide_eq_true i,AAl]
  have s:iEq x.b b=decide (x.b=b):=by rw[Dv];by_cases y:x.b=b<;>simp[y]
  simp only[iN,xV,sT,xT,sh,reduceIte,gD,f,AH,AO,xZ,AN,AQ,n,o,p,q,AK,AJ,g,s,lV0]
 ·rw[decide_eq_false i,AAB]
  simp only[iN,xV,sT,xT,sh,reduceIte,gD,f,AH,AO,xZ,AN,AQ,n,o,p,q,AK,AJ,g,lV0]
def OT(x:Kt)(a b c:Int):Bool:=if x.a=a then(if x.b=b then decide (c<x.c)else decide (b<x.b))else decide (a<x.a)
theorem rl{seq:Int}{op:Nat}{a b c:Int}{l:xU}(f:h.Wf)(R:h.Row r 0 (CM AEr seq op a b c l)):∃h',call AC (m+1) 62 [Bn x.a x.b x.c x.s u,pt r] h=.ok (.bool (OT x a b c)) h'/\h.Ext h':=by
 have g:=λ(F:AEh) (e:Env) (C:J 0 e=Bn x.a x.b x.c x.s u)=>OD (F:=F) f C
 have y:=(Hp.Ext.refl f).AEg 0 (A9 x.a x.b x.c x.s u);have z:=Hp.Row.new f 0 (A9 x.a x.b x.c x.s u);generalize h.AEg 0 (A9 x.a x.b x.c x.s u)=d at g y z;obtain⟨o,p,q,_⟩:=Bw z;obtain⟨_,_,_,s,t,w,_⟩:=Br (R.ext f y);have n:∀A B:Int,iGt A B=decide (B<A):=HJ;refine⟨d,?_,y⟩;rw[pG rfl];unfold d62 OT;by_cases d:x.a=a
 ·have i:iNe x.a a=IT:=B0 d
  rw[If d];by_cases j:x.b=b
  ·have k:iNe x.b b=IT:=B0 j
   rw[If j];simp only[iN,xV,sT,xT,sh,reduceIte,gD,g,AH,AO,xZ,AN,AQ,o,p,q,s,t,w,AK,AJ,i,k,n,lV0]
  ·have k:iNe x.b b=IN:=EG j
   rw[No j];simp only[iN,xV,sT,xT,sh,reduceIte,gD,g,AH,AO,xZ,AN,AQ,o,p,q,s,t,w,AK,AJ,i,k,n,lV0]
 ·have i:iNe x.a a=IN:=EG d
  rw[No d];simp only[iN,xV,sT,xT,sh,reduceIte,gD,g,AH,AO,xZ,AN,AQ,o,p,q,s,t,w,AK,AJ,i,n,lV0]
def AE3(bd a bs:Nat)(AEr:Int):List xU:=[pt bd,pt a,pt bs,AI AT AEr]
theorem CG{bd a bs:Nat}(R:h.Row nb 0 (AE3 bd a bs AEr)):AEi ⟨nb,0,By⟩ h=.ok (pt bd) h/\AEi ⟨nb,1,By⟩ h=.ok (pt a) h/\AEi ⟨nb,2,By⟩ h=.ok (pt bs) h/\AEi ⟨nb,3,By⟩ h=.ok (AI AT AEr) h:=
 ⟨R.AEi (off:=0) (by show 0<4;omega),R.AEi (off:=1) (by show 1<4;omega),R.AEi (off:=2) (by show 2<4;omega),R.AEi (off:=3) (by show 3<4;omega)⟩
theorem SG(b1:h.Wf)(Rn:h.Row nb 0 (AE3 A.bd A.tb A.bs AEr))(s:Sl h A T M c0 arm ks fr lv fv bad ov)(hl:ks.length<=49){w:xU}(hP:∀(g:Hp) (k:Kt) (u:xU),h.Ext g->∃g',JC (call AC (m+4)) w [Bn k.a k.b k.c k.s u] g=.ok (.bool (P k)) g'/\g.Ext g'):
  ∃h' k v,call AC (m+5) 57 [pt nb,w] h=.ok v h'/\h.Ext h'/\h.next<=k/\h'.IL k v (ks.filter P):=by
 obtain⟨_,_,n2,_⟩:=CG Rn;obtain⟨f,v1,k1,L,a7⟩:=Vv (m:=m) b1 s.row s.ls (Sl.all s) (by omega);have ln:=a7.len f;obtain⟨q,p1,t1,t5,t12,t13,t14⟩:∃q,iM (call AC (m+4)) (Au e0 0 [pt nb,w]) h=nfS (call AC (m+4)) q f/\J 1 q=w/\J 5 q=AEk/\J 12 q=v1/\J 13 q=AI AT (ks.length:Int)/\J 14 q=AI AT ((0:Nat):Int):=by
  unfold iM;simp only[iN,xV,sT,xT,sh,reduceIte,Ax,Am,AH,AO,xZ,AN,AQ,n2,cA0,k1,AX,ln];exact⟨_,rfl,by simp[AG]⟩
 have b7:∃d o v,A3 nfB (call AC (m+4)) q f=.exit 0 d o/\f.Ext o/\J 5 d=v/\o.IL f.next v (ks.filter P):=by
  refine Bd (I:=λi l h'=>∃v,f.Ext h'/\J 1 l=w/\J 5 l=v/\J 12 l=v1/\J 13 l=AI AT (ks.length:Int)/\J 14 l=AI AT (i:Int)/\i<=ks.length/\h'.IL f.next v ((ks.take i).filter P))
   (Q:=λx=>∃d o v,x=.exit 0 d o/\f.Ext o/\J 5 d=v/\o.IL f.next v (ks.filter P)) ks.length (by omega) (λi l h' ⟨v,x',Z,u5,a0,S,a6,hi,z⟩=>?_) ⟨AEk,.refl L.wf,t1,t5,t12,t13,t14,yH _,.inl ⟨rfl,rfl⟩⟩
  have G:=x'.wf;by_cases H:i<ks.length
  ·left
   have W:=EU H;obtain⟨k,hk⟩:∃k,ks[i]? =BY k:=⟨_,xc H⟩;obtain⟨b,u,ix,ld,b0⟩:=(a7.ext L.wf x').at hk;obtain⟨_,_,uo⟩:=Kb b0;have a8:ks.take (i+1)=ks.take i++[k]:=by rw[AAT,hk];rfl
   have al:=λ(F:AEh) (e:Env)=>BO (F:=F) (e:=e) G (n:=5) (t:=DV)
   have Ra:=Hp.Row.alloc G Fg (show(A9 0 0 0 0 AEk).length=5 from rfl);have y1:h'.Ext (h'.push (.cells DV 5 0)):=(Hp.Ext.refl G).push _;generalize h'.push (.cells DV 5 0)=h3 at al Ra y1;obtain⟨st,a5,E,R5,n5⟩:=MA G y1 (xW _) Ra rfl (a:=k.a) (b:=k.b) (c:=k.c) (s:=k.s) uo;generalize h3.wr h'.next 0 (A9 k.a k.b k.c k.s u)=h4 at st a5 E R5 n5;have x4:=x'.trans E;obtain⟨y,Y,N⟩:=hP h4 k u (L.trans x4);have a9:=x4.trans N;cases X:P k
   ·rw[X]at Y
    have r:=Cc (i:=i) (h:=y) (by omega);obtain⟨d,C,r2,r3,r4,D,r6⟩:∃d,nfB (call AC (m+4)) l h'=.norm d y/\J 1 d=w/\J 5 d=v/\J 12 d=v1/\J 13 d=AI AT (ks.length:Int)/\J 14 d=AI AT ((i+1:Nat):Int):=by
     unfold nfB;simp only[sT,xT,sh,reduceIte,gD,AK,AJ,a6,S,W,BA,a0,ix,An,Ah,ld,al,AW,st,a5,CU,AV,A4,Z,Y,BW,r];exact⟨_,rfl,by simp[AG,Z,u5,a0,S]⟩
    refine⟨H,d,y,C,v,a9,r2,r3,r4,D,r6,H,?_⟩;rw[a8,ABv,zN (by rw[X];decide),AA2,yF];rcases z with h0|⟨b,p,B,q3⟩
    ·exact .inl h0
    ·exact .inr ⟨b,p,(B.ext G E).ext E.wf N,q3⟩
   ·rw[X]at Y
    have b6:AFB v y=.ok (AI AT (((ks.take i).filter P).length:Int)) y:=by
     rcases z with ⟨p,B⟩|⟨b,p,_⟩
     ·rw[p,B];rfl
     ·rw[p];rfl
    have b9:((ks.take i).filter P).length<=49:=by
     have f:=zc P (ks.take i);rw[yP]at f;omega
    have b2:iLt (((ks.take i).filter P).length:Int) 50=IN:=H0 (by omega);have b5:loadN 5 ⟨h'.next,0,By⟩ y=.ok (Bn k.a k.b k.c k.s u) y:=(R5.ext E.wf N).loadN (off:=0) (n:=5) (by show 0+5<=5;omega);obtain⟨O,ki,V⟩:=XI (m:=m+3) (x:=k) (u:=u) N.wf;have sl:=λ(F:AEh) (e:Env) (he:J 28 e=DF k)=>JM (F:=F) V.wf he
    have b8:=a9.trans V;have y7:=(Hp.Ext.refl V.wf).AEg 0 (Bv k);have Rw:=Hp.Row.new V.wf 0 (Bv k);have b3:O.next<=(O.AEg 0 (Bv k)).next:=y7.next;generalize O.AEg 0 (Bv k)=h7 at sl y7 Rw b3;have a4:=b8.trans y7;have hs:∀K:List xU->R,BM h7 4 (.slice (BY ⟨O.next,0,By⟩) 1 1) 1 K=K (Bv k):=λK=>Rw.AGd (es:=4) (off:=0) (n:=1) (by show 0+1 * 4<=4;omega)
    have big:=L.wf.big;obtain⟨j,U,k8,x8,b4⟩:∃j U,DU 4 32 90 v (.slice (BY ⟨O.next,0,By⟩) 1 1) h7=.ok U j/\f.Ext j/\j.IL f.next U ((ks.take i).filter P++[k]):=by
     rcases z with ⟨p,B⟩|⟨b,p,B,q3⟩
     ·obtain⟨j,a1,a2,r,_⟩:=Ij (eb:=32) (en:=90) a4 hs rfl rfl rfl (by omega)
      exact⟨j,_,by rw[p];exact a1,a2,by rw[B];exact .inr ⟨_,rfl,r,a4.next⟩⟩
     ·have q5:=((B.ext G E).ext E.wf N).ext N.wf (V.trans y7)
      obtain⟨j,a1,a2,r,_⟩:=J1 (eb:=32) (en:=90) a4 hs rfl rfl (by omega) rfl q5 (ML _) q3 (by omega) (by omega);refine⟨j,_,by rw[p];exact a1,a2,.inr ⟨_,by rw[xY];rfl,?_,a4.next⟩⟩;rw[Wr];exact r
    have r:=Cc (i:=i) (h:=j) (by omega);obtain⟨d,C,r2,r3,r4,D,r6⟩:∃d,nfB (call AC (m+4)) l h'=.norm d j/\J 1 d=w/\J 5 d=U/\J 12 d=v1/\J 13 d=AI AT (ks.length:Int)/\J 14 d=AI AT ((i+1:Nat):Int):=by
     unfold nfB;simp only[sT,xT,sh,reduceIte,gD,AK,AJ,a6,S,W,BA,a0,ix,An,Ah,ld,al,AW,st,a5,CU,AV,A4,Z,Y,AX,u5,b6,b2,b5,BX,ki,sl,Bb,k8,BW,r];exact⟨_,rfl,by simp[AG,Z,a0,S]⟩
    refine⟨H,d,j,C,U,x8,r2,r3,r4,D,r6,H,?_⟩;rw[a8,ABv,zM X,AA2];exact b4
  ·right
   obtain rfl:i=ks.length:=by omega
   have W:=Cz (xW ks.length);obtain⟨d,C,D⟩:∃d,nfB (call AC (m+4)) l h'=.exit 0 d h'/\J 5 d=v:=by
    unfold nfB;simp only[sT,xT,sh,reduceIte,AK,AJ,a6,S,W];exact⟨_,rfl,by simp[AG,u5]⟩
   rw[C];rw[yz]at z;exact⟨rfl,d,h',v,rfl,x',D,z⟩
 obtain⟨d,o,v,C,x2,D,z⟩:=b7;refine⟨o,_,v,?_,L.trans x2,L.next,z⟩;rw[pC rfl,rC,p1,se];simp only[A7,Ap,C,A5,Ay];unfold nfE;simp only[sT,xT,sh,reduceIte,D,lV0]
end
section
variable {h g:Hp}{T M:List Nat}{bd tb k:Nat}{v:xU}{ks:List Kt}
structure O3 (h g:Hp)(T M:List Nat)(bs r9 k1 bd tb i:Nat)(v mv:xU)(ks:List Kt):Prop where
 x:h.Ext g
 row:g.Row bs 0 (slL bd tb AEk AEk (AJZ T M i).length IT)
 rb:g.Row r9 0 [pt bs]
 ko:g.KO k1 v ks
 ok:∀k∈ks,AHW g (λb=>r9<b) k
 ms:g.Own k1 3 mv (ints .i64 ((mrk T M i).map zZ))
 le:k1<=g.next
end
structure AGP (np:Nat)(T M:List Nat)(ks:List Kt)(fr:List Nat):Prop where
 len:M.length=64*(3*np)
 hd:∀k∈ks,sec M (3*k.p)=AFA T k.a k.b k.c k.s k.l
 dt:∀k∈ks,dat M k.p k.l.length=k.l
 bl:∀p∈fr,∀r,r<64->M.getD (64*(3*p)+r) 0=0
 rs:∀k∈ks,AEz k.a k.b k.c k.s k.l.length=IN/\k.l.length<=100
 pl:∀p∈fr,p<np
abbrev Med(T M:List Nat)(ks:List Kt)(fr:List Nat):Prop:=AGP 8 T M ks fr
def Com(ks:List Kt):Prop:=∀b∈ks,∀a∈ks,a.a=b.a->a.b=b.b->a.s=2->a.c<=b.c
section
variable {T M M':List Nat}{ks ks':List Kt}{fr fr' ps:List Nat}{kd a b c:Int}{l H:List Nat}{n p q k np:Nat}
theorem N6(b:M'.length=M.length)(h:∀x,x/64=q->M'.getD x 0=M.getD x 0):sec M' q=sec M q:=by
 have a:∀M:List Nat,(sec M q).length=min 64 (M.length - 64*q):=λM=>by unfold sec;rw[yP,yX]
 refine Jq (by rw[a,a,b]) λd c=>?_
 rw[a]at c;rw[KM (by omega),KM (by omega),h _ (by omega)]
theorem Jo(b:M'.length=M.length)(hk:k<=128)(h:∀x,x/64=3*p+1\/x/64=3*p+2->M'.getD x 0=M.getD x 0):dat M' p k=dat M p k:=by
 have a:∀M:List Nat,(dat M p k).length=min k (M.length - 64*(3*p+1)):=λM=>by unfold dat;rw[yP,yX]
 refine Jq (by rw[a,a,b]) λd c=>?_
 rw[a]at c;rw[NA (by omega),NA (by omega),h _ (by omega)]
theorem VN(a:M.length=64*n)(d:q<n)(b:H.length=64)(h:∀r,r<64->M.getD (64*q+r) 0=H.getD r 0):sec M q=H:=by
 have c:=KP a d;refine Jq (by rw[c,b]) λe f=>?_
 rw[KM (by omega),h e (by omega)]
theorem rM(d:M.length=64*n)(f:3*p+3<=n)(e:l.length<=128)(h:∀r,r<l.length->M.getD (64*(3*p+1)+r) 0=l.getD r 0):dat M p l.length=l:=by
 have b:(dat M p l.length).length=l.length:=by unfold dat;rw[yP,yX];omega
 refine Jq b λc a=>?_
 rw[b]at a;rw[NA a,h c a]
theorem bC(d:M.length=64*n)(f:3*p+3<=n)(i:l.length<=100)(b:H.length=64):
  (EM T M p l H).length=64*n/\sec (EM T M p l H) (3*p)=H/\dat (EM T M p l H) p l.length=l/\∀x,x/192≠p->(EM T M p l H).getD x 0=M.getD x 0:=by
 rcases yl l.length with h0|h0
 ·obtain rfl:=zA h0
  have h:EM T M p [] H=It M (p*3) H:=rfl;have c:=Dg d (show p*3<n by omega) b;rw[h];refine⟨c,VN c (by omega) b λa g=>?_,ADt,λx e=>?_⟩
  ·rw[Eo d (by omega) b,If (by omega),show(64*(3*p)+a) % 64=a by omega]
  ·rw[Eo d (by omega) b,No (by omega)]
 ·obtain⟨c,e⟩:=bD (T:=T) d f ⟨h0,i⟩ b
  refine⟨c,VN c (by omega) b λa g=>?_,rM c f (by omega) λa g=>?_,λx k=>?_⟩
  ·rw[e,If (by omega),show(64*(3*p)+a) % 64=a by omega]
  ·rw[e,No (by omega)]
   by_cases j:a<64
   ·rw[If (by omega),show(64*(3*p+1)+a) % 64=a by omega]
   ·rw[No (by omega),If ⟨by omega,by omega⟩,show 64+(64*(3*p+1)+a) % 64=a by omega]
  ·rw[e,No (by omega),No (by omega),No (by omega)]
theorem eh:∀(ps:List Nat) {M:List Nat},M.length=64*n->(∀p∈ps,3*p+3<=n)->(IK M ps).length=64*n/\∀x,(IK M ps).getD x 0=if x % 192<64/\x/192∈ps then 0 else M.getD x 0
 |[],M,b,_=>⟨b,λx=>by rw[No (λh=>by cases h.2)];rfl⟩
 |p::ps,M,b,e=>by
  have l:=e p xp;have g:IK M (p::ps)=IK (It M (p*3) Bj) ps:=rfl;have f:Bj.length=64:=List.length_replicate;have i:=Dg b (show p*3<n by omega) f;obtain⟨g1,g2⟩:=eh ps i λq j=>e q (xn _ j)
  rw[g];refine⟨g1,λx=>?_⟩;rw[g2,Eo b (by omega) f];by_cases a:x % 192<64/\x/192∈ps
  ·rw[If a,If ⟨a.1,xn _ a.2⟩]
  ·rw[No a]
   by_cases d:x/64=p*3
   ·rw[If d,If ⟨by omega,by rw[show x/192=p by omega];exact xp⟩]
    unfold Bj;exact TH
   ·rw[No d,No]
    rintro⟨k,c⟩;rcases yC.1 c with c|c
    ·omega
    ·exact a ⟨k,c⟩
theorem Ou:∀(out:List Kt) (M:List Nat),Iz M out=IK M (out.map Kt.plc)
 |[],_=>rfl
 |x::out,M=>Ou out (IK M [x.p])
theorem AGP.cut(m:AGP np T M ks fr)(c:∀k∈ks',k∈ks/\k.p∉ps)(i:∀p∈fr',p∈fr\/p∈ps)(d:∀p∈ps,3*p+3<=3*np):AGP np T (IK M ps) ks' fr':=by
 obtain⟨g1,g2⟩:=eh ps m.len d;have j:∀k∈ks',∀b,b/192=k.p->(IK M ps).getD b 0=M.getD b 0:=λk a b g=>by
  rw[g2,No];rintro⟨_,l⟩;rw[g]at l;exact(c k a).2 l
 refine⟨g1,λk a=>?_,λk a=>?_,λp d e o=>?_,λk a=>m.rs k (c k a).1,λp n=>?_⟩
 ·rw[N6 (g1.trans m.len.symm) λb g=>j k a b (by omega)]
  exact m.hd k (c k a).1
 ·rw[Jo (g1.trans m.len.symm) (by have:=(m.rs k (c k a).1).2;omega) λb g=>j k a b (by omega)]
  exact m.dt k (c k a).1
 ·rw[g2]
  by_cases f:(64*(3*p)+e) % 192<64/\(64*(3*p)+e)/192∈ps
  ·rw[If f]
  ·rw[No f]
   rcases i p d with h|h
   ·exact m.bl p h e o
   ·exact absurd ⟨by omega,by rw[show(64*(3*p)+e)/192=p by omega];exact h⟩ f
 ·rcases i p n with h|h
  ·exact m.pl p h
  ·have:=d p h;omega
theorem AGP.go(m:AGP np T M ks fr)(i:AFb np ks fr)(P:Kt->Bool){out:List Kt}(f:out.Perm (ks.filter P)):AGP np T (IK M (out.map Kt.plc)) (ks.filter λk=> !P k) (frE fr out):=by
 refine m.cut (λk j=>?_) (λp a=>?_) λp a=>?_
 ·obtain⟨c,d⟩:=zC.1 j
  refine⟨c,λa=>?_⟩;obtain⟨g,b,l⟩:=zI.1 a;obtain⟨h,e⟩:=zC.1 (f.mem_iff.1 b);rw[G0 i.nd h c l]at e;rw[e]at d;cases d
 ·have:=(Jz out fr).mem_iff.1 a
  exact yO.1 this
 ·obtain⟨g,b,rfl⟩:=zI.1 a
  exact i.lt g (zC.1 (f.mem_iff.1 b)).1
theorem OC(l:Com ks)(f:CA a b c ks=IT):∀y∈ks,y.a=a->y.b=b->y.s=2->y.c<c:=λy j g h i=>by
 unfold CA at f;cases e:ks.find? (LQ a b)with
 |none=>
  refine absurd ?_ (AAH.1 e y j);unfold LQ;rw[decide_eq_true g,decide_eq_true h,decide_eq_true i];rfl
 |some k=>
  rw[e]at f;have d:=AA1 e;unfold LQ at d;rw[yE,yE]at d;have n:=of_decide_eq_true d.1.1;have o:=of_decide_eq_true d.1.2;have q:=of_decide_eq_true d.2;have m:=ABB e;have:=l k m y j (g.trans n.symm) (h.trans o.symm) i;have p:¬c<=k.c:=of_decide_eq_false f;omega
theorem mem_set{x y z:Kt}{j:Nat}(b:ks[j]? =BY x)(a:z∈ks.set j y):z=y\/z∈ks:=(ABA a).symm
theorem lF{x y z:Kt}{j:Nat}(c:ks[j]? =BY x)(e:z∈ks)(d:z≠x):z∈ks.set j y:=by
 obtain⟨f,a⟩:=AAP.1 e;refine AAP.2 ⟨f,?_⟩;rw[List.getElem?_set,No]
 ·exact a
 ·intro b
  rw[<- b,c]at a;exact d (Option.some.inj a).symm
theorem Em{x y:Kt}(h:x.core=y.core):x.a=y.a/\x.b=y.b/\x.c=y.c/\x.s=y.s/\x.l=y.l/\x.p=y.p:=⟨congrArg Kc.a h,congrArg Kc.b h,congrArg Kc.c h,congrArg Kc.s h,congrArg Kc.l h,congrArg Kc.p h⟩
theorem IO(i:AFb np ks fr)(m:AGP np T M ks fr)(J:Com ks)(t:Ps T M ks fr kd a b c l M' ks' fr'):AGP np T M' ks' fr'/\Com ks'/\(∀k,¬(k.a=a/\k.b=b)->(k∈ks'↔k∈ks)):=by
 rcases t with ⟨f,r,p,B,rfl,rfl,K,rfl⟩|⟨f,u,d,z,W,U,rfl,rfl,rfl⟩|⟨rfl,u,d,z,W,U,rfl,rfl,rfl⟩|⟨rfl,rfl,rfl,rfl⟩
 ·unfold DW at r
  split at r
  ·cases r
  rename_i hn;split at r
  ·split at r<;>cases r
  split at r
  ·cases r
  rename_i U;have b0:CA a b c ks=IT:=by
   cases j:CA a b c ks
   ·rfl
   ·exact absurd j U
  have D:AEz a b c 1 l.length=IN:=by
   cases j:AEz a b c 1 l.length
   ·exact absurd (.inl j) hn
   ·rfl
  have a5:l.length<=100:=ADj λh=>hn (.inr h)
  have R:B.a=a:=congrArg Kc.a K;have S:B.b=b:=congrArg Kc.b K;have X:B.c=c:=congrArg Kc.c K;have e4:B.s=1:=congrArg Kc.s K;have Y:B.l=l:=congrArg Kc.l K;have e6:B.p=p:=congrArg Kc.p K;have b9:=m.pl p xp;obtain⟨g1,g2,g3,g4⟩:=bC (T:=T) (p:=p) (H:=AFA T a b c 1 l) m.len (by omega) a5 (Gt D);have A:(ks.map Kt.plc++(p::fr')).Nodup:=i.plc.nodup_iff.2 ACB;have L:∀k,k∈EH (ks++[B])↔k∈ks\/k=B:=λk=>by rw[La,yO,yG]
  have b3:∀k∈ks,k.p≠p:=λk f h=>(AAU.1 A).2.2 k.p (zI.2 ⟨k,f,rfl⟩) p xp h
  have b1:∀q∈fr',q≠p:=λq j h=>(zm.1 (AAU.1 A).2.1).1 (h ▸ j)
  have P:∀k∈ks,∀e,e/192=k.p->(EM T M p l (AFA T a b c 1 l)).getD e 0=M.getD e 0:=λk f e o=>g4 e (by rw[o];exact b3 k f)
  refine⟨⟨g1,λk f=>?_,λk f=>?_,λq j F D=>?_,λk f=>?_,λq j=>m.pl q (xn _ j)⟩,λe o y E g n I=>?_,λk w=>?_⟩
  ·rcases (L k).1 f with f|rfl
   ·rw[N6 (g1.trans m.len.symm) λe o=>P k f e (by omega)]
    exact m.hd k f
   ·rw[e6,g2,R,S,X,e4,Y]
  ·rcases (L k).1 f with f|rfl
   ·rw[Jo (g1.trans m.len.symm) (by have:=(m.rs k f).2;omega) λe o=>P k f e (by omega)]
    exact m.dt k f
   ·rw[e6,Y,g3]
  ·rw[g4 _ (by have:=b1 q j;omega)]
   exact m.bl q (xn _ j) F D
  ·rcases (L k).1 f with f|rfl
   ·exact m.rs k f
   ·rw[R,S,X,e4,Y];exact⟨D,a5⟩
  ·rcases (L y).1 E with V|V
   ·rcases (L e).1 o with a2|a2
    ·exact J e a2 y V g n I
    ·rw[a2]at g n ⊢
     have:=OC J b0 y V (g.trans R) (n.trans S) I;rw[X];omega
   ·rw[V]at I
    omega
  ·rw[L]
   refine⟨λh=>h.resolve_right λg=>w (by rw[g];exact⟨R,S⟩),.inl⟩
 ·have b2:=(yN.1 z).1
  have C:=xy z;obtain⟨rfl,rfl,rfl⟩:=W;have Z:=i.lt d C;have a8:=m.rs d C;have a0:AEz d.a d.b d.c 2 d.l.length=IN:=by
   obtain⟨g1,g2,g3,g4,g5,g6,g7,g8⟩:=Eb a8.1;exact decide_eq_true ⟨g1,g2,g3,g4,g5,g6,.inr rfl,g8⟩
  obtain⟨g1,g2⟩:=aP m.len (p:=d.p) Z (Gt (T:=T) a0);have i2:=i.set (y:={d with s:=2}) z rfl rfl;have G:∀x∈ks.set u {d with s:=2},x={d with s:=2}\/(x∈ks/\x.p≠d.p):=λx r=>by
   rcases mem_set z r with h|h
   ·exact .inl h
   ·by_cases a4:x.p=d.p
    ·have hX:({d with s:=2}:Kt)∈ks.set u {d with s:=2}:=AEC b2 _
     exact .inl (G0 i2.nd r hX a4)
    ·exact .inr ⟨h,a4⟩
  have P:∀x∈ks,x.p≠d.p->∀e,e/192=x.p->(Hg M d.p (AFA T d.a d.b d.c 2 d.l)).getD e 0=M.getD e 0:=λx r a4 e o=>by rw[g2,No (by omega)]
  have m2:AGP np T (Hg M d.p (AFA T d.a d.b d.c 2 d.l)) (ks.set u {d with s:=2}) fr:=by
   refine⟨g1,λk f=>?_,λk f=>?_,λq j F D=>?_,λk f=>?_,m.pl⟩
   ·rcases G k f with rfl|⟨g,n⟩
    ·exact VN g1 (by show 3*d.p<3*np;omega) (Gt a0) λF D=>by rw[g2,If (show(64*(3*d.p)+F)/64=3*d.p by omega),show(64*(3*d.p)+F) % 64=F by omega]
    ·rw[N6 (g1.trans m.len.symm) λe o=>P k g n e (by omega)]
     exact m.hd k g
   ·rcases G k f with rfl|⟨g,n⟩
    ·show dat _ d.p d.l.length=d.l
     rw[Jo (g1.trans m.len.symm) (by omega) λe o=>by rw[g2,No (by omega)]];exact m.dt d C
    ·rw[Jo (g1.trans m.len.symm) (by have:=(m.rs k g).2;omega) λe o=>P k g n e (by omega)]
     exact m.dt k g
   ·have A:(ks.map Kt.plc++fr).Nodup:=i.plc.nodup_iff.2 ACB
    have c0:d.p≠q:=(AAU.1 A).2.2 d.p (zI.2 ⟨d,C,rfl⟩) q j;rw[g2,No (by omega)];exact m.bl q j F D
   ·rcases G k f with rfl|⟨g,n⟩
    ·exact⟨a0,a8.2⟩
    ·exact m.rs k g
  have m3:=m2.go i2 (elB d.a d.b d.c) (out:=(ks.set u {d with s:=2}).filter (elB d.a d.b d.c)) (.refl _);refine⟨m3,λe o y E g n I=>?_,λk w=>?_⟩
  ·obtain⟨b4,a1⟩:=zC.1 o
   obtain⟨b6,a3⟩:=zC.1 E;rcases G y b6 with rfl|⟨a9,c2⟩
   ·refine Int.not_lt.1 λO=>?_
    have O:e.c<d.c:=O;have g:d.a=e.a:=g;have n:d.b=e.b:=n;unfold elB at a1;rw[decide_eq_true g.symm,decide_eq_true n.symm,decide_eq_true O]at a1;cases a1
   ·rcases G e b4 with rfl|⟨b5,c1⟩
    ·have g:y.a=d.a:=g
     have n:y.b=d.b:=n;have O:=OC J U y a9 g n I;unfold elB at a3;rw[decide_eq_true g,decide_eq_true n,decide_eq_true O]at a3;cases a3
    ·exact J e b5 y a9 g n I
  ·rw[zC]
   constructor
   ·rintro⟨g,_⟩
    rcases G k g with rfl|⟨n,_⟩
    ·exact absurd ⟨rfl,rfl⟩ w
    ·exact n
   ·intro g
    refine⟨lF z g λh=>w (by rw[h];exact⟨rfl,rfl⟩),?_⟩;cases j:elB d.a d.b d.c k
    ·rfl
    ·unfold elB at j
     rw[yE,yE]at j;exact absurd ⟨of_decide_eq_true j.1.1,of_decide_eq_true j.1.2⟩ w
 ·obtain⟨a6,b8⟩:=Qb z
  obtain⟨rfl,rfl,rfl⟩:=W;have C:=xy z;have Z:=i.lt d C;have A:=i.nd;have Q:∀k∈ks.take u++ks.drop (u+1),k∈ks/\k.p≠d.p:=λk f=>by
   have a7:k∈ks:=by
    rcases yO.1 f with h|h
    ·exact zJ h
    ·exact zd h
   refine⟨a7,λN=>?_⟩;have b7:=G0 A a7 C N;rw[a6]at A;have pm:(ks.take u++d::ks.drop (u+1)).Perm (d::(ks.take u++ks.drop (u+1))):=AAt;have kn:=(pm.map Kt.plc).nodup_iff.1 A;rw[za,zm]at kn;exact kn.1 (zI.2 ⟨k,f,N⟩)
  refine⟨m.cut (λk f=>⟨(Q k f).1,λh=>(Q k f).2 (yG.1 h)⟩) (λp N=>yO.1 ((Ha _).mem_iff.1 N)) (λp N=>by rw[yG.1 N];exact Z),λe o y E=>J e (Q e o).1 y (Q y E).1,λk w=>⟨λh=>(Q k h).1,λh=>?_⟩⟩;rw[a6]at h;rcases yO.1 h with h|h
  ·exact yh _ h
  ·rcases yC.1 h with h|h
   ·exact absurd ⟨by rw[h],by rw[h]⟩ w
   ·exact yc _ h
 ·refine⟨by rw[Ou];exact m.go i (drB a b c) (AAL _),λe o y E=>J e (zC.1 o).1 y (zC.1 E).1,λk w=>?_⟩
  rw[zC];refine⟨λh=>h.1,λh=>⟨h,?_⟩⟩;cases j:drB a b c k
  ·rfl
  ·unfold drB at j
   rw[yE,yE]at j;exact absurd ⟨of_decide_eq_true j.1.1,of_decide_eq_true j.1.2⟩ w
end
def vE(c:Kc):Int×Int×Int:=(c.a,c.b,c.c)
theorem jR(ks:List Kt):ks.map Kt.key=(ks.map Kt.core).map vE:=by rw[List.map_map];rfl
section
variable {T M:List Nat}{p np:Nat}{ks:List Kt}{fr:List Nat}
theorem AGP.AI0(c:AGP np T M ks fr){x:Kt}(b:x∈ks):Zd T M x:=by
 obtain⟨d,_,e,_⟩:=br (p:=x.p) (c.rs x b).1 (c.rs x b).2 (c.hd x b) (c.dt x b);have a:sW M x.p _=x.core:=e;exact⟨_,d,congrArg Kc.a a,congrArg Kc.b a,congrArg Kc.c a,congrArg Kc.s a,congrArg Kc.l a⟩
end
def Stp(T:List Nat)(ks:List Kt)(fr:List Nat)(kd a b c:Int)(l:List Nat)(z:Int)(e:List Kt)(d:List Nat):Prop:=
 (Iw ks fr.length kd a b c l z/\e=ks/\d=fr)\/(z=0/\∃f g,Ps T f ks fr kd a b c l g e d)
def UpP(R:Int->Prop)(X:Nat->Prop)(h:Hp)(A:At)(T:List Nat)(ks:List Kt)(fr:List Nat):Prop:=
 (∃a d b f e,Sl h A T a d b ks fr f e 0 IT/\AFb 8 ks fr/\AGP 8 T a ks fr/\Com ks/\R b)/\∀g∈ks,∀c,AE1 g.u c->¬X c
abbrev UpX(X:Nat->Prop)(h:Hp)(A:At)(T:List Nat)(ks:List Kt)(fr:List Nat)(k:Nat):Prop:=UpP (λa=>CL a k) X h A T ks fr
section
variable {e:Env}{h h':Hp}{R:Int->Prop}{S X:Nat->Prop}{A:At}{T M:List Nat}{c0 m k n r:Nat}{arm a b c z kd:Int}{ks ks':List Kt}{fr fr' l:List Nat}{lv fv u:xU}{x:Kt}
theorem Qu(s:Stp T ks fr kd a b c l z ks' fr'):z≠120:=by
 rcases s with ⟨d,_⟩|⟨rfl,_⟩
 ·rcases d with ⟨_,e⟩|⟨_,e⟩|⟨_,e⟩|⟨_,_,e⟩|⟨_,_,_,_,_,e⟩
  ·unfold DW at e
   split at e
   ·cases e;omega
   ·split at e
    ·split at e<;>cases e<;>omega
    ·split at e
     ·cases e;omega
     ·split at e<;>cases e<;>omega
  ·unfold Dt at e
   split at e
   ·split at e
    ·cases e;omega
    ·split at e<;>cases e<;>omega
   ·split at e<;>cases e<;>omega
  ·unfold abE at e
   split at e
   ·cases e;omega
   ·split at e<;>cases e<;>omega
  ·omega
  ·omega
 ·omega
theorem UpP.le(a:UpX X h A T ks fr k)(hk:n<=k):UpX X h A T ks fr n:=by
 obtain⟨⟨M,c0,arm,lv,fv,f,iv,e,c,b⟩,d⟩:=a;exact⟨⟨M,c0,arm,lv,fv,f,iv,e,c,b.le hk⟩,d⟩
theorem UpP.ext(a:UpP R X h A T ks fr)(b:h.Wf)(y:h.Ext h'):UpP R X h' A T ks fr:=by
 obtain⟨⟨M,c0,arm,lv,fv,e,d⟩,c⟩:=a;exact⟨⟨M,c0,arm,lv,fv,e.ext b y,d⟩,c⟩
theorem UpP.same(a:UpP R X h A T ks fr)(b:h'.bl=h.bl):UpP R X h' A T ks fr:=by
 obtain⟨⟨M,c0,arm,lv,fv,e,d⟩,c⟩:=a;exact⟨⟨M,c0,arm,lv,fv,e.same b,d⟩,c⟩
theorem UpP.more(j:UpP R X h A T ks fr)(k:h.Wf)(u:h.next<=r):UpP R (λb=>X b\/b=r) h A T ks fr:=by
 obtain⟨⟨M,c0,arm,lv,fv,i,o⟩,m⟩:=j;refine⟨⟨M,c0,arm,lv,fv,i,o⟩,λx g b f e=>?_⟩;rcases e with e|e
 ·exact m x g b f e
 ·obtain⟨w,n,c,a⟩:=f
  rcases (i.ko x g).1 with ⟨d,_⟩|⟨q,y,s,t,p,d,_,l,_⟩
  ·rw[d]at a;cases a
  ·rw[d]at a
   injection a with a
   injection a with a
   injection a with a
   have:=l.lt k;omega
theorem UpP.less(a:UpP R X h A T ks fr)(c:∀b,S b->X b):UpP R S h A T ks fr:=⟨a.1,λx f b d e=>a.2 x f b d (c b e)⟩
def Odd(a:List xU):Prop:=(a.length<6\/∀c:Int,a[3]?≠BY (.int .u8 c))/\∃z∈a,∀b,z≠AI AT b
theorem UpP.wr{x y:List xU}(i:h.Wf)(G:UpP R X h A T ks fr)(I:X r)(B:h.Row r 0 x)(F:h'.Row r 0 y)(f:Fx (λb=>b=r) h h')(s:¬A.D r)(L:A.tb≠r)(o:Odd x):UpP R X h' A T ks fr:=by
 obtain⟨⟨M,c0,arm,lv,fv,d,O⟩,C⟩:=G;refine⟨⟨M,c0,arm,lv,fv,⟨f.row i d.row λh=>s (by rw[<- h];exact .inl rfl),d.dk.fr i f (λh=>s (by rw[<- h];exact .inr (.inl rfl))) (λh=>s (by rw[<- h];exact .inr (.inr (.inl rfl)))) (λh=>s (by rw[<- h];exact .inr (.inr (.inr rfl)))),f.row i d.tab L,d.tok,?_,λk w=>⟨?_,(d.ko k w).2⟩,?_,d.ne,d.le⟩,O⟩,C⟩
 ·rcases d.ls with a|⟨b,c,n,K,a,g,j,m,p,t,q⟩
  ·exact .inl a
  ·by_cases e:b=r
   ·subst e
    have H:=KI j B;subst H;cases ks with
    |nil=>exact .inr ⟨b,c,0,y,a,g,F,yH _,rfl,.inr rfl,q⟩
    |cons z P=>
     rcases o.1 with o1|o1
     ·rw[xh]at m
      omega
     ·have u:=congrArg (λl=>l[3]?) p
      simp only[zy]at u;rw[If (by rw[xh];omega)]at u;exact absurd (u.trans (show(flK (z::P))[3]? =BY (.int .u8 (z.s:Int))from rfl)) (o1 _)
   ·exact .inr ⟨b,c,n,K,a,g,f.row i j e,m,p,t,q⟩
 ·rcases (d.ko k w).1 with a|⟨b,E,c,n,K,a,g,j,m,p,t,q⟩
  ·exact .inl a
  ·exact .inr ⟨b,E,c,n,K,a,g,f.row i j λe=>C k w b ⟨E,_,c,a⟩ (e ▸ I),m,p,t,q⟩
 ·rcases d.fs with a|⟨b,n,a,g,j,m⟩
  ·exact .inl a
  ·refine .inr ⟨b,n,a,f.row i g λe=>?_,j,m⟩
   subst e;obtain⟨z,D,J⟩:=o.2;rw[<- KI g B]at D;obtain⟨Q,_,N⟩:=zI.1 D;exact J _ N.symm
theorem UpP.lt(a:UpP R X h A T ks fr)(c:h.Wf):∀b,A.D b->b<h.next:=by
 obtain⟨⟨M,c0,arm,lv,fv,d,f⟩,e⟩:=a;exact d.AHJ c
theorem UpP.tab(b:UpP R X h A T ks fr):h.Row A.tb 0 (T.map wv)/\AFQ T/\¬A.D A.tb:=by
 obtain⟨⟨M,c0,arm,lv,fv,a,d⟩,c⟩:=b;exact⟨a.tab,a.tok,a.ne.2.2.2.1⟩
theorem tq(j:h.Wf)(V:A.n=24)(F:UpX X h A T ks fr (k+40))(L:∀b,X b->b<h.next)(G:h.VE u (l.map bv))(e:∀x∈l,x<256)(Q:l.length<=1000):
  ∃z h' ks' fr',call AC (m+8) 54 [pt A.bs,AI AT a,AI AT b,AI AT c,u] h=.ok (AI AT z) h'/\Fx A.D h h'/\UpX X h' A T ks' fr' k/\Stp T ks fr 1 a b c l z ks' fr':=by
 obtain⟨⟨M,c0,arm,lv,fv,C,iv,y,r,q⟩,s⟩:=F;have W:=iv.len;rcases dq (m:=m) (k:=k) j C (a:=a) (b:=b) (c:=c) G e Q (by omega) (q.le (by omega))with ⟨z,d,f,g,D⟩|⟨f,B,n,d,I,E,S,K,w,O,g,J,s2,P,H,R⟩
 ·exact⟨z,d,ks,fr,g,.of D,⟨⟨M,c0,arm,lv,fv,C.ext j D,iv,y,r,q.le (by omega)⟩,s⟩,.inl ⟨.inl ⟨.inl rfl,f⟩,rfl,rfl⟩⟩
 ·have i:Ps T M ks fr 1 a b c l (EM T M B l (AFA T a b c 1 l)) (EH (ks++[w])) n:=.inl ⟨.inl rfl,f,B,w,O,rfl,P,rfl⟩
  obtain⟨U,N,_⟩:=IO iv y r i;refine⟨0,d,_,n,g,J,⟨⟨_,I,E,S,K,s2,(F8 iv i).1,U,N,H⟩,λx t b e p=>?_⟩,.inr ⟨rfl,M,_,i⟩⟩;rw[La,yO,yG]at t;rcases t with o|rfl
  ·exact s x o b e p
  ·have o:=R b e
   have d:=L b p;omega
theorem tk(l:h.Wf)(F:A.n=24)(w:UpX X h A T ks fr (k+40))(a b c:Int):
  ∃z h' ks' fr',call AC (m+8) 55 [pt A.bs,AI AT a,AI AT b,AI AT c] h=.ok (AI AT z) h'/\Fx A.D h h'/\UpX X h' A T ks' fr' k/\Stp T ks fr 5 a b c [] z ks' fr':=by
 obtain⟨⟨M,c0,arm,lv,fv,r,iv,q,o,n⟩,g⟩:=w;have O:=iv.len;rcases aO (m:=m) (k:=k) l r (a:=a) (b:=b) (c:=c) (by omega) (λz d=>by rw[F];exact iv.lt z d) iv.nd (n.le (by omega))with ⟨z,e,d,i,s⟩|⟨d,J,p,e,B,t,K,D,f,u,P,N,H,i,C,s2,y⟩
 ·exact⟨z,e,ks,fr,i,.of s,⟨⟨M,c0,arm,lv,fv,r.ext l s,iv,q,o,n.le (by omega)⟩,g⟩,.inl ⟨.inr (.inl ⟨.inl rfl,d⟩),rfl,rfl⟩⟩
 ·have j:Ps T M ks fr 5 a b c [] _ _ _:=.inr (.inl ⟨.inl rfl,J,p,f,u,H,rfl,rfl,rfl⟩)
  obtain⟨L,G,_⟩:=IO iv q o j;refine⟨0,e,_,_,i,C,⟨⟨_,B,t,K,D,s2,(F8 iv j).1,L,G,y⟩,λx I=>?_⟩,.inr ⟨rfl,M,_,j⟩⟩;rcases mem_set f (zC.1 I).1 with rfl|E
  ·exact g p (xy f)
  ·exact g x E
theorem th(j:h.Wf)(D:A.n=24)(u:UpX X h A T ks fr (k+40))(a b c:Int):
  ∃z h' ks' fr',call AC (m+9) 56 [pt A.bs,AI AT a,AI AT b,AI AT c] h=.ok (AI AT z) h'/\Fx A.D h h'/\UpX X h' A T ks' fr' k/\Stp T ks fr 7 a b c [] z ks' fr':=by
 obtain⟨⟨M,c0,arm,lv,fv,q,iv,p,n,l⟩,o⟩:=u;have O:=iv.len;rcases YK (m:=m) (k:=k) j q (a:=a) (b:=b) (c:=c) (by omega) (λz d=>by rw[D];exact iv.lt z d) (l.le (by omega))with ⟨z,f,d,g,r⟩|⟨d,I,J,f,y,s,K,C,F,t,N,G,g,B,s2,w⟩
 ·exact⟨z,f,ks,fr,g,.of r,⟨⟨M,c0,arm,lv,fv,q.ext j r,iv,p,n,l.le (by omega)⟩,o⟩,.inl ⟨.inr (.inr (.inl ⟨rfl,d⟩)),rfl,rfl⟩⟩
 ·have i:Ps T M ks fr 7 a b c [] _ _ _:=.inr (.inr (.inl ⟨rfl,I,J,F,t,G,rfl,rfl,rfl⟩))
  obtain⟨L,E,_⟩:=IO iv p n i;refine⟨0,f,_,_,g,B,⟨⟨_,y,s,K,C,s2,(F8 iv i).1,L,E,w⟩,λx H=>o x ?_⟩,.inr ⟨rfl,M,_,i⟩⟩;rcases yO.1 H with e|e
  ·exact zJ e
  ·exact zd e
theorem tm(g:h.Wf)(p:A.n=24)(f:UpX X h A T ks fr (k+40))(a b c:Int):
  ∃z h' ks' fr',call AC (m+9) 63 [pt A.bs,AI AT a,AI AT b,AI AT c] h=.ok (AI AT z) h'/\Fx A.D h h'/\UpX X h' A T ks' fr' k/\Stp T ks fr 8 a b c [] z ks' fr':=by
 obtain⟨⟨M,c0,arm,lv,fv,E,iv,C,r,q⟩,t⟩:=f;have G:=iv.len;have F:(drO a b c ks).length<=8:=by
  unfold drO;rw[AAe];have:=zc (drB a b c) ks;omega
 obtain⟨o,j,e,B,n,y,l,s2,i⟩:=RQ (m:=m) (k:=k) g E a b c (by omega) (λz w=>by rw[p];exact iv.lt z w) (q.le (by omega));have d:Ps T M ks fr 8 a b c [] _ _ _:=.inr (.inr (.inr ⟨rfl,rfl,rfl,rfl⟩));obtain⟨D,s,_⟩:=IO iv C r d;exact⟨0,o,_,_,y,l,⟨⟨_,j,e,B,n,s2,(F8 iv d).1,D,s,i⟩,λx u=>t x (zC.1 u).1⟩,.inr ⟨rfl,M,_,d⟩⟩
end
def B9(AEr seq:Int)(op:Nat)(err:Int)(iv bw:xU)(room:Int):List xU:=[AI AT AEr,AI AT seq,.int .u8 (op:Int),AI AT err,iv,bw,AI AT room]
def Be(AEr seq:Int)(op:Nat)(err:Int)(iv bw:xU)(room:Int):xU:=.agg ⟨B9 AEr seq op err iv bw room⟩
abbrev F5:List xU:=B9 0 0 0 0 AEk AEk 0
theorem Dd:Bs .mt 0 F5=BY CY:=by kernel_rfl
theorem OP:F9.zero=F5:=by kernel_rfl
theorem FN{AEr seq err room:Int}{op:Nat}{iv bw:xU}:Odd (B9 AEr seq op err iv bw room):=⟨.inr (λc a=>by cases a),.int .u8 (op:Int),xn _ (xn _ xp),(λb a=>by cases a)⟩
section
variable {F:AEh}{e:Env}{h h' g:Hp}{A:At}{n r op:Nat}{lf sq b z err room:Int}{v iv bw:xU}{x:Kt}
theorem IX{g1:O}(a:g1 e=AI AT z):BG F9.zero [(3,1,g1)] F e h=.ok (Be 0 0 0 z AEk AEk 0) h:=by
 rw[CX,OP,Ad (hk:=by rw[a];rfl),a];simp only[Cj,yd,xh,yU,B9,over,AA0,AAo,zp,yT,zK,xV,zg,if_true,Bo,reduceIte];rfl
theorem gF:BG F9.zero [] F e h=.ok (Be 0 0 0 0 AEk AEk 0) h:=by
 rw[CX,OP,Bo];rfl
theorem WC{g1:O}(a:g1 e=iv)(b:cellsOf iv=[iv])(hk:known iv=IN):BG F9.zero [(4,1,g1)] F e h=.ok (Be 0 0 0 0 iv AEk 0) h:=by
 rw[CX,OP,Ad (hk:=by rw[a];exact hk),a,b];simp only[Cj,yd,xh,yU,B9,over,AA0,AAo,zp,yT,zK,xV,zg,if_true,Bo,reduceIte];rfl
theorem Z1{g1 g2:O}(a:g1 e=iv)(h2:g2 e=bw)(b:cellsOf iv=[iv])(hk:known iv=IN)(c:cellsOf bw=[bw])(d:known bw=IN):BG F9.zero [(4,1,g1),(5,1,g2)] F e h=.ok (Be 0 0 0 0 iv bw 0) h:=by
 rw[CX,OP,Ad (hk:=by rw[a];exact hk),a,Ad (hk:=by rw[h2];exact d),h2,b,c];simp only[Cj,yd,xh,yU,B9,over,AA0,AAo,zp,yT,zK,xV,zg,if_true,Bo,reduceIte];rfl
theorem dS(hi:oneCell iv=IN)(a:oneCell bw=IN):Bc (B9 lf sq op err iv bw room)=IN:=by
 show(bif oneCell iv then(bif oneCell bw then IN else IT)else IT)=IN;rw[hi,a];rfl
theorem D7{a:List xU}(c:h.Wf)(R:h.Row r 0 a)(e:a.length=7)(f:256<=r)(hi:oneCell iv=IN)(g:oneCell bw=IN):
  ∃h',AEn 7 (pt r) (Be lf sq op err iv bw room) h=.ok AEl h'/\Fx (λb=>b=r) h h'/\h'.Row r 0 (B9 lf sq op err iv bw room):=by
 have d:0+(B9 lf sq op err iv bw room).length<=a.length:=by rw[e];exact xW _
 have i:=R.AEn (n:=7) (off:=0) c f (v:=Be lf sq op err iv bw room) rfl d (dS hi g);have wr:=R.AEt c d;rw[EW (show a.length=(B9 lf sq op err iv bw room).length from e)]at wr;exact⟨_,i,Fx.wr c R d rfl,wr⟩
theorem F6{a:List xU}(f:h.Wf)(R:h.Row r 0 a)(l:a.length=7)(c:256<=r)(hi:oneCell iv=IN)(m:oneCell bw=IN):
  ∃h',(∀(F:AEh) (e:Env) (g1 g2:O),g1 e=pt r->g2 e=Be lf sq op err iv bw room->Ac .free (AZ 7 g1 g2) F e h=.ok AEl h')/\Fx (λb=>b=r) h h'/\h'.Row r 0 (B9 lf sq op err iv bw room):=by
 obtain⟨k,n,j,d⟩:=D7 (h:=h.quiet) (lf:=lf) (sq:=sq) (op:=op) (err:=err) (room:=room) f.quiet (R.same (h':=h.quiet) rfl) l c hi m;refine⟨h.back k,λF e g1 g2 g i=>?_,j.back,d.same rfl⟩;refine BF ?_;rw[AW,g,i];exact n
theorem Cw(R:h.Row r 0 (B9 lf sq op err iv bw room)):HN 7 (pt r) h=.ok (Be lf sq op err iv bw room) h:=by
 rw[Ah];exact R.loadN (off:=0) (n:=7) (by show 0+7<=7;omega)
theorem Fx.new{c:Hp}(x:h.Ext c)(f:Fx A.D c g)(d:Fx (λb=>b=r) g h')(e:h.next<=r):Fx A.D h h':=
 Fx.drop (((Fx.of x).trans (f.mono λb a=>.inl a)).trans (d.mono λb a=>.inr (by rw[a];exact e)))
end
theorem dz:rdS=BB (AY 0 rdB) rdE:=rfl
theorem tU:rdM=tW:=rfl
theorem UP:d32=YU:=rfl
section
variable {F:AEh}{e:Env}{h h' g:Hp}{S:Nat->Prop}{A:At}{T M:List Nat}{c0 bad m k n nb r op:Nat}{arm AEr lf sq a b c z err room:Int}{ks:List Kt}{fr l:List Nat}{v lv fv u w iv bw:xU}{ov:Bool}{x:Kt}
theorem Uf(o:h.IL k v ks):cellsOf v=[v]/\known v=IN/\oneCell v=IN:=by
 rcases o with ⟨rfl,_⟩|⟨b,rfl,_⟩<;>exact⟨rfl,rfl,rfl⟩
theorem Hp.IL.fx(o:h.IL k v ks)(c:h.Wf)(f:Fx S h h')(g:∀b,S b->b<k):h'.IL k v ks:=by
 rcases o with a|⟨b,a,d,e⟩
 ·exact .inl a
 ·exact .inr ⟨b,a,f.row c d λi=>by have:=g b i;omega,e⟩
theorem VI{a:List xU}{v:xU}(d:h.Wf)(R:h.Row r 0 a)(i:a.length=5)(j:256<=r)(g:(cellsOf v).length=5)(m:Bc (cellsOf v)=IN):
  ∃h',(∀(F:AEh) (e:Env) (g1 g2:O),g1 e=pt r->g2 e=v->Ac .free (AZ 5 g1 g2) F e h=.ok AEl h')/\Fx (λb=>b=r) h h'/\h'.Row r 0 (cellsOf v)/\h'.mark=h.mark:=by
 have c:h.quiet.Row r 0 a:=R.same rfl;have f:0+(cellsOf v).length<=a.length:=by rw[i,g];exact xW _
 have o:=c.AEn (n:=5) (off:=0) d.quiet j (v:=v) g f m;have wr:=c.AEt d.quiet f;rw[EW (show a.length=(cellsOf v).length by rw[i,g])]at wr;refine⟨_,λF e g1 g2 k l=>BF (by rw[AW,k,l];exact o),Fx.back (Fx.wr d.quiet c f rfl),wr.same rfl,rfl⟩
theorem Ho{n:Nat}{b:List xU}{z:VT}(a:h.Wf)(f:Bs .mt 0 b=BY z)(c:b.length=n)(d:h.mark<=h.next):
  ∃h',(∀(F:AEh) (e:Env),Ac .AEv (BN n z) F e h=.ok (pt h.next) h')/\h.Ext h'/\h'.Row h.next 0 b/\h'.mark=h.mark:=by
 refine⟨h.back (h.quiet.push (.cells z n 0)),λF e=>Cq (BO (F:=F) (e:=e) a.quiet) ((Hp.Ext.refl a.quiet).push _) d,Hp.Ext.back ((Hp.Ext.refl a.quiet).push _),?_,rfl⟩;exact(Hp.Row.alloc a.quiet f c).same rfl
theorem vK(d:h.Wf)(K:h.Row nb 0 (AE3 A.bd A.tb A.bs AEr))(s:Sl h A T M c0 arm ks fr lv fv bad ov)(V:ks.length<=49):
  ∃h' k iv,call AC (m+10) 33 [pt nb,CQ lf sq op a b c u] h=.ok (Be 0 0 0 0 iv AEk 0) h'/\h.Ext h'/\h.next<=k/\h'.IL k iv (ks.filter λx=>OT x a b c):=by
 have D:=λ(F:AEh) (e:Env) (S:J 1 e=CQ lf sq op a b c u)=>E9 (F:=F) d S
 have i:=(Hp.Ext.refl d).AEg 0 (CM lf sq op a b c u);have z:=Hp.Row.new d 0 (CM lf sq op a b c u);have n1:(h.AEg 0 (CM lf sq op a b c u)).next=h.next+1:=rfl;generalize h.AEg 0 (CM lf sq op a b c u)=f at D i z n1;have C:=λ(F:AEh) (e:Env)=>BO (F:=F) (e:=e) i.wf (n:=7) (t:=CY)
 have B:=Hp.Row.alloc i.wf Dd (show F5.length=7 from rfl);have o:f.Ext (f.push (.cells CY 7 0)):=(Hp.Ext.refl i.wf).push _;have n2:(f.push (.cells CY 7 0)).next=f.next+1:=rfl;generalize f.push (.cells CY 7 0)=Q at C B o n2;have j:=i.trans o;have H:=z.ext i.wf o;obtain⟨R,E,iv,N,l,U,y⟩:=SG (m:=m+4) (P:=λx=>OT x a b c) j.wf (K.ext d j) (s.ext d j) V (w:=.func (.func 62) ⟨[]⟩ ⟨[pt h.next]⟩) λg k u G=>rl (m:=m+7) G.wf (H.ext j.wf G)
 obtain⟨X,Y,Z⟩:=Uf y;have big:=d.big;obtain⟨q,a0,f4,I⟩:=D7 (lf:=0) (sq:=0) (op:=0) (err:=0) (iv:=iv) (bw:=AEk) (room:=0) l.wf (B.ext o.wf l) rfl (by omega) Z rfl;have L:=λ(F:AEh) (e:Env) (O:J 7 e=iv)=>WC (F:=F) (h:=R) O X Y
 have a1:Q.next<=E:=U;refine⟨q,E,iv,?_,Fx.xtF (j.trans l) f4 (λb r=>by rw[r];omega),by omega,y.fx l.wf f4 λb r=>by rw[r];omega⟩;have W:∃p,d33 (call AC (m+9)) (Au e0 0 [pt nb,CQ lf sq op a b c u]) h=.ret p q/\J 4 p=pt f.next:=by
  unfold d33;simp only[iN,xV,sT,xT,sh,reduceIte,D,C,Dx,AV,A4,BX,N,L,AW,a0];exact⟨_,rfl,by simp[AG]⟩
 obtain⟨p,r1,r2⟩:=W;rw[oW rfl,r1,Av,Dj (h':=q) (v:=Be 0 0 0 0 iv AEk 0) (by rw[r2];exact Cw I)]
theorem vM(H:h.Wf)(Rn:h.Row nb 0 (AE3 A.bd A.tb A.bs AEr))(s:Sl h A T M c0 arm ks fr lv fv bad ov)(hl:ks.length<=49)(ht:∀x∈ks,Zd T M x)(hp:∀x∈ks,3*x.p+3<=A.n):
  ∃h' k z iv bw,call AC (m+10) 32 [pt nb,CQ lf sq op a b c u] h=.ok (Be 0 0 0 z iv bw 0) h'/\h.Ext h'/\h.next<=k/\oneCell iv=IN/\oneCell bw=IN/\
   ((c=0/\z=0/\bw=AEk/\h'.IL k iv (ks.filter λx=>decide (x.a=a) && decide (x.b=b)))\/(c≠0/\ks.find? (BL a b c)=By/\z=60/\iv=AEk/\bw=AEk)\/
    (c≠0/\∃d,ks.find? (BL a b c)=BY d/\z=0/\(∃b,iv=.slice (BY ⟨b,0,By⟩) 1 1/\h'.Row b 0 (Bv d)/\k<=b)/\h'.BS (λb=>k<=b) bw (d.l.map bv))):=by
 have bx:=λ(F:AEh) (e:Env) (he:J 1 e=CQ lf sq op a b c u)=>E9 (F:=F) H he
 have X:=(Hp.Ext.refl H).AEg 0 (CM lf sq op a b c u);have R1:=Hp.Row.new H 0 (CM lf sq op a b c u);have n1:(h.AEg 0 (CM lf sq op a b c u)).next=h.next+1:=rfl;generalize h.AEg 0 (CM lf sq op a b c u)=o at bx X R1 n1;have al:=λ(F:AEh) (e:Env)=>BO (F:=F) (e:=e) X.wf (n:=7) (t:=CY)
 have Ra:=Hp.Row.alloc X.wf Dd (show F5.length=7 from rfl);have y2:o.Ext (o.push (.cells CY 7 0)):=(Hp.Ext.refl X.wf).push _;have n2:(o.push (.cells CY 7 0)).next=o.next+1:=rfl;generalize o.push (.cells CY 7 0)=p at al Ra y2 n2;have E:=X.trans y2;have R2:=R1.ext X.wf y2;have s2:=s.ext H E;have big:=H.big;obtain⟨_,_,_,q3,q4,q5,_,_⟩:=Br R2;by_cases hc:c=0
 ·have c1:iEq c 0=IN:=CP hc
  obtain⟨G,k3,iv,c3,U,hk,I3⟩:=SG (m:=m+4) (P:=λx=>decide (x.a=a) && decide (x.b=b)) E.wf (Rn.ext H E) s2 hl (w:=.func (.func 58) ⟨[]⟩ ⟨[pt h.next]⟩) λg k u xg=>ri (m:=m+7) xg.wf (R2.ext E.wf xg)
  obtain⟨i1,i2,i3⟩:=Uf I3;obtain⟨h4,d3,f4,R4⟩:=D7 (lf:=0) (sq:=0) (op:=0) (err:=0) (iv:=iv) (bw:=AEk) (room:=0) U.wf (Ra.ext y2.wf U) rfl (by omega) i3 rfl;have bd:=λ(F:AEh) (e:Env) (i:J 12 e=iv)=>WC (F:=F) (h:=G) i i1 i2
  refine⟨h4,k3,0,iv,AEk,?_,Fx.xtF (E.trans U) f4 (λb y=>by rw[y];omega),by omega,i3,rfl,.inl ⟨hc,rfl,rfl,I3.fx U.wf f4 λb y=>by rw[y];omega⟩⟩;have a0:∃f,YU (call AC (m+9)) (Au e0 0 [pt nb,CQ lf sq op a b c u]) h=.ret f h4/\J 4 f=pt o.next:=by
   unfold YU;simp only[iN,xV,sT,xT,sh,reduceIte,bx,al,AH,AO,xZ,AN,AQ,q5,AK,AJ,c1,Dx,AV,A4,BX,c3,bd,AW,d3];exact⟨_,rfl,by simp[AG]⟩
  obtain⟨f,r1,r2⟩:=a0;rw[UA rfl,UP,r1,Av,Dj (h':=h4) (v:=Be 0 0 0 0 iv AEk 0) (by rw[r2];exact Cw R4)]
 ·have c1:iEq c 0=IT:=CF hc
  have sm:=s2.same (h':=p.marked.quiet) rfl;have xm:=E.marked;obtain⟨_,_,nd,_⟩:=CG ((Rn.ext H E).same (h':=p.marked) rfl);obtain⟨_,_,_,p3,p4,p5,_,_⟩:=Br (R2.same (h':=p.marked) rfl);obtain⟨g3,v3,c3,U,c7,c6,b9⟩:=i6 (m:=m+4) xm.quiet.wf sm.row sm.ls.ks (λk hk=>⟨(sm.ko k hk).1.vs.vals,by have:=(sm.ko k hk).2.2.1;omega⟩) (by omega) a b c;have qg:∀e:Env,J 18 e=pt A.bs->J 20 e=AI AT a->J 22 e=AI AT b->J 24 e=AI AT c->Ac .weak (AS 59 [J 18,J 20,J 22,J 24]) (call AC (m+9)) e p.marked=.ok (.tuple ⟨[v3,.bool (ks.find? (BL a b c)).isSome]⟩) (p.marked.back g3):=λe i f B Q=>by
   refine Cq ?_ U (xW _);rw[BX,AV,AV,AV,AV,A4,i,f,B,Q];exact c3
  have y3:p.Ext (p.marked.back g3):=(Hp.Ext.refl E.wf).marked.trans (.back U);have m3:(p.marked.back g3).mark=p.next:=rfl;have F3:=λd (hk:ks.find? (BL a b c)=BY d)=>b9 d hk
  have V3:∀(u:xU) (l:List xU),g3.BS (λb=>p.next<=b) u l->(p.marked.back g3).BS (λb=>p.next<=b) u l:=λu l b8=>b8.same rfl
  generalize p.marked.back g3=G at qg y3 m3 V3;have n3:=y3.next;obtain⟨h4,al5,y4,b6,m4⟩:=Ho y3.wf Fg (show(A9 0 0 0 0 AEk).length=5 from rfl) (by rw[m3];exact n3);obtain⟨D,d4,f5,R5,m5⟩:=VI (v:=v3) y4.wf b6 rfl (by omega) c7 c6;have y5:G.Ext D:=Fx.xtF y4 f5 λb y=>by rw[y];exact xW _
  have a3:=y3.trans y5;have Y:=E.trans a3;have N:=Y.wf;have a4:=Ra.ext y2.wf a3;have Rk:=R2.ext E.wf a3;obtain⟨i,p1,t0,t3,t4⟩:∃i,YU (call AC (m+9)) (Au e0 0 [pt nb,CQ lf sq op a b c u]) h=rdM (call AC (m+9)) i p/\J 0 i=pt nb/\J 3 i=pt h.next/\J 4 i=pt o.next:=by
   unfold YU;simp only[iN,xV,sT,xT,sh,reduceIte,bx,al,AH,AO,xZ,AN,AQ,q5,AK,AJ,c1];exact⟨_,rfl,by simp[AG]⟩
  have a9:=λ(F:AEh) (e:Env) (i:J 5 e=pt G.next) (f:J 26 e=v3)=>d4 F e (J 5) (J 26) i f
  obtain⟨f,p2,u0,u3,u4,u5,I⟩:∃f,rdM (call AC (m+9)) i p=rdS (call AC (m+9)) f D/\J 0 f=pt nb/\J 3 f=pt h.next/\J 4 f=pt o.next/\J 5 f=pt G.next/\J 6 f=.bool (ks.find? (BL a b c)).isSome:=by
   rw[tU];unfold tW;simp only[sT,xT,sh,reduceIte,Aw,Ax,t0,Am,AH,AO,xZ,AN,AQ,nd,t3,p3,p4,p5,qg,Aq,Az,A1,al5,a9];exact⟨_,rfl,by simp[AG,t0,t3,t4]⟩
  cases R:ks.find? (BL a b c)with
  |none=>
   rw[R]at I;have I:J 6 f=.bool IT:=I;obtain⟨q,d5,f6,R6⟩:=D7 (lf:=0) (sq:=0) (op:=0) (err:=60) (iv:=AEk) (bw:=AEk) (room:=0) N a4 rfl (by omega) rfl rfl;have bd:=λ(F:AEh) (e:Env)=>IX (F:=F) (e:=e) (h:=D) (g1:=W (AI AT 60)) rfl
   refine⟨q,h.next,60,AEk,AEk,?_,Fx.xtF Y f6 (λb y=>by rw[y];omega),xW _,rfl,rfl,.inr (.inl ⟨hc,rfl,rfl,rfl,rfl⟩)⟩;have a0:∃B,rdS (call AC (m+9)) f D=.ret B q/\J 4 B=pt o.next:=by
     rw[dz];unfold rdB;simp only[sT,xT,sh,reduceIte,BJ,BI,I,yg,bd,AW,u4,d5];exact⟨_,rfl,by simp[AG,u4]⟩
   obtain⟨B,r1,r2⟩:=a0;rw[UA rfl,UP,p1,p2,r1,Av,Dj (h':=q) (v:=Be 0 0 0 60 AEk AEk 0) (by rw[r2];exact Cw R6)]
  |some d=>
   rw[R]at I;have I:J 6 f=.bool IN:=I;obtain⟨S,hv,Vk⟩:=F3 d R;have a5:=V3 _ _ Vk;have a6:=ABB R;have a8:=Gm (AA1 R);obtain⟨a1,hj,c2⟩:∃a1:Nat,ks[a1]? =BY d/\Fu (BL a b c) 0 ks=(a1:Int):=by
     rcases EE (BL a b c) ks 0 with ⟨o,_⟩|⟨a1,k',o,p,G⟩
     ·rw[R]at o;cases o
     ·rw[R]at o
      cases o;exact⟨a1,p,by rw[G,xZ]⟩
   have s5:=(s.ext H Y).same (h':=D.marked.quiet) rfl;have d6:=Y.marked;obtain⟨g6,rr,k6,x6,hr⟩:=eY (m:=m+3) d6.quiet.wf s5 hj c2 a8 (hp d a6);have c5:rr=IN:=hr.2 (ht d a6);subst c5;have qs:∀e:Env,J 36 e=pt A.bs->J 38 e=AI AT a->J 40 e=AI AT b->J 42 e=AI AT c->Ac .free (AS 60 [J 36,J 38,J 40,J 42]) (call AC (m+9)) e D.marked=.ok (.bool IN) (D.marked.back g6):=λe i f B Q=>by
     refine BF ?_;rw[BX,AV,AV,AV,AV,A4,i,f,B,Q];exact k6
   have K:D.Ext (D.marked.back g6):=(Hp.Ext.refl N).marked.trans (.back x6);generalize D.marked.back g6=q at qs K;obtain⟨_,_,d0,_⟩:=CG ((Rn.ext H Y).same (h':=D.marked) rfl);obtain⟨_,_,_,z3,z4,z5,_,_⟩:=Br (Rk.same (h':=D.marked) rfl);obtain⟨B,d1,w4,w5⟩:∃B,rdS (call AC (m+9)) f D=rdE (call AC (m+9)) B q/\J 4 B=pt o.next/\J 5 B=pt G.next:=by
     rw[dz];unfold rdB;simp only[sT,xT,sh,reduceIte,BJ,BI,I,yY,Aw,Ax,u0,Am,AH,AO,xZ,AN,AQ,d0,u3,z3,z4,z5,qs];exact⟨_,rfl,by simp[AG,u4,u5]⟩
   rw[hv]at R5;have a2:=Y.trans K;have Z:=a2.wf;have b4:=(R5.ext N K).same (h':=q.marked) rfl;have d7:=a2.marked;obtain⟨_,_,_,_,lu,c8⟩:=Bw b4;have c4:G.next<q.marked.mark:=(R5.ext N K).lt Z;obtain⟨g7,ki,x7⟩:=XI (m:=m+8) (x:=d) (u:=S) d7.quiet.wf;have qi:∀e:Env,J 46 e=Bn d.a d.b d.c d.s S->Ac .weak (AS 61 [J 46]) (call AC (m+9)) e q.marked=.ok (DF d) (q.marked.back g7):=λe i=>by
     refine Cq ?_ x7 (xW _);rw[BX,AV,A4,i];exact ki
   have L:q.Ext (q.marked.back g7):=(Hp.Ext.refl Z).marked.trans (.back x7);have m7:(q.marked.back g7).mark=q.next:=rfl;generalize q.marked.back g7=j at qi L m7;have O:=L.wf;have n7:=L.next;have a7:∀(F:AEh) (e:Env),J 47 e=DF d->Ac .AEv (Ab 1 (BP KZ.zero 1) [(0,4,J 47)]) F e j=.ok (.slice (BY ⟨j.next,0,By⟩) 1 1) (j.back (j.quiet.AEg 0 (Bv d))):=λF e i=>by
     have:=JM (F:=F) (e:=e) O.quiet (g:=J 47) i;exact Cq this ((Hp.Ext.refl O.quiet).AEg _ _) (by rw[m7];exact n7)
   have V:j.Ext (j.back (j.quiet.AEg 0 (Bv d))):=.back ((Hp.Ext.refl O.quiet).AEg _ _);have R8:(j.back (j.quiet.AEg 0 (Bv d))).Row j.next 0 (Bv d):=(Hp.Row.new O.quiet 0 (Bv d)).same rfl;have m8:(j.back (j.quiet.AEg 0 (Bv d))).mark=q.next:=m7;generalize j.back (j.quiet.AEg 0 (Bv d))=h8 at a7 V R8 m8;have n8:=V.next;have b5:=(((R5.ext N K).ext Z L).ext O V);obtain⟨_,_,_,_,c9,_⟩:=Bw b5;have b0:∀{k:C} {F:AEh} {e:Env},Ir (.pointer (BY ⟨G.next,4,By⟩)) k F e h8=k F e h8:=Df (by rw[m8];exact c4);obtain⟨b1,b2,b3⟩:=Kb a5.vs.vals;have b7:=(((a4.ext N K).ext Z L).ext O V);have W8:=V.wf;obtain⟨h9,q9,f9,R9⟩:=F6 (lf:=0) (sq:=0) (op:=0) (err:=0) (iv:=.slice (BY ⟨j.next,0,By⟩) 1 1) (bw:=S) (room:=0) W8 b7 rfl (by omega) rfl b3;have d2:=λ(F:AEh) (e:Env) (i:J 4 e=pt o.next) (f:J 51 e=Be 0 0 0 0 (.slice (BY ⟨j.next,0,By⟩) 1 1) S 0)=>q9 F e (J 4) (J 51) i f
   have bd:=λ(F:AEh) (e:Env) (i:J 48 e=.slice (BY ⟨j.next,0,By⟩) 1 1) (f:J 50 e=S)=>Z1 (F:=F) (h:=h8) i f rfl rfl b2 b1
   have x8:=(a2.trans L).trans V;refine⟨h9,h.next,0,_,S,?_,Fx.xtF x8 f9 (λb y=>by rw[y];omega),xW _,rfl,b3,.inr (.inr ⟨hc,d,rfl,rfl,⟨j.next,rfl,f9.row W8 R8 λy=>by
     have y:j.next=o.next:=y;have:=a3.next;have:=K.next;omega,((a2.trans L).next)⟩,?_⟩)⟩
   rotate_left
   · refine(((((a5.ext y3.wf y5).ext N K).ext Z L).ext O V).AFq λb el d8 y _ r=>⟨f9.row W8 r (by omega),?_⟩)
     have:=E.next;have y:p.next<=b:=y;show h.next<=b;omega
   have a0:∃Q,rdE (call AC (m+9)) B q=.ret Q h9/\J 4 Q=pt o.next:=by
     unfold rdE;simp only[sT,xT,sh,reduceIte,Aw,An,Ah,w5,c8,qi,a7,AH,AO,xZ,ED,b0,DQ,AN,AQ,c9,bd,w4,d2];exact⟨_,rfl,by simp[AG,w4]⟩
   obtain⟨Q,r1,r2⟩:=a0;rw[UA rfl,UP,p1,p2,d1,r1,Av,Dj (h':=h9) (v:=Be 0 0 0 0 (.slice (BY ⟨j.next,0,By⟩) 1 1) S 0) (by rw[r2];exact Cw R9)]
end
end
end Go.Proofs.YtldjiljipddebaaGreat
