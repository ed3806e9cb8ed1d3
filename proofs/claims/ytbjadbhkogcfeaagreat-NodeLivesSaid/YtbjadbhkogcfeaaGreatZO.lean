/-
  Part ZO of what Lawnl stands on: printed by program, names and spaces cut.
-/
import Derived.Test.YtbjadbhkogcfeaaGreatZN
open Go.Value renaming int→AI
open Go.IntKind renaming i64→AT
open Nat renaming reduceEqDiff→BY,reduceLT→By,reduceAdd→IS,le_refl→IT,zero_add→OF,succ→xM,ble→xU,zero_le→yC,le_trans→yO,eq_zero_or_pos→yV,add_zero→yy,lt_irrefl→AA1
open Go renaming Value→IN
open List renaming length_append→No,length_map→sh,length_cons→xP,mem_cons_of_mem→xS,mem_cons_self→xT,append_nil→xZ,mem_of_getElem?→xd,mem_cons→xe,append_assoc→xp,mem_singleton→xr,getElem?_eq_some_iff→xy,length_take→yE,mem_append→yH,map_append→yR,length_drop→yd,drop_zero→yf,getElem?_map→yk,range→ym,eq_nil_of_length_eq_zero→yv,drop_of_length_le→yw,take_length→yz,take_append_drop→zQ,reverse_append→zo,reverse_reverse→AAS,reverse_perm→AAq,map_eq_nil_iff→ABE,map_set→ABp
open Int renaming sub→yQ,ofNat→yi
open Bool renaming not_true→yT
open Go.Value renaming int→yX
set_option linter.unusedVariables false
set_option linter.unusedSimpArgs false
namespace Go.Proofs.YtbjadbhkogcfeaaGreat
noncomputable section
open Go
set_option maxRecDepth 100000
theorem bW:prB=jj:=rfl
theorem Ig:d58=NL:=rfl
section
variable {F:AEB}{e:Env}{h h' h0:Hp}{S:Nat->Prop}{A:At}{T M:List Nat}{c0 bad m k p:Nat}{arm:Int}{ks:List Kt}{fr:List Nat}{v lv fv:IN}{ov:Bool}
def VcI(h:Hp)(k:Nat)(v:IN)(l:List Nat):Prop:=(v=AEG/\l=[])\/Mk h k v l
theorem VcI.vals{k:Nat}{v:IN}{l:List Nat}(o:VcI h k v l):h.AEY v (l.map bv):=by
 rcases o with ⟨h1,h2⟩|o
 ·exact .inl ⟨h1,by rw[h2];rfl⟩
 ·exact o.vals
theorem VcI.ext{k:Nat}{v:IN}{l:List Nat}(o:VcI h k v l)(W:h.Wf)(x:h.Ext h'):VcI h' k v l:=by
 rcases o with o|o
 ·exact .inl o
 ·exact .inr (o.ext W x)
theorem VcI.same{k:Nat}{v:IN}{l:List Nat}(o:VcI h k v l)(hb:h'.bl=h.bl):VcI h' k v l:=by
 rcases o with o|o
 ·exact .inl o
 ·exact .inr (o.same hb)
theorem VcI.one{k:Nat}{v:IN}{l:List Nat}(o:VcI h k v l):cellsOf v=[v]/\oneCell v=true/\known v=true:=by
 rcases o with ⟨h1,_⟩|⟨b,el,h1,_⟩<;>rw[h1]<;>exact⟨rfl,rfl,rfl⟩
def Hp.VE(h:Hp)(u:IN)(xs:List IN):Prop:=h.AEY u xs\/((∃ r,u=.chan (some r))/\xs=[])
theorem Hp.VE.bl{u:IN}{l:List Nat}(V:h.VE u (l.map bv))(g:Hp):AEv u g=.ok (AI AT (l.length:Int)) g:=by
 rcases V with V|⟨⟨r,rfl⟩,h2⟩
 ·exact V.bl g
 ·rw[ABE.1 h2];rfl
theorem Hp.VE.ext{u:IN}{xs:List IN}(V:h.VE u xs)(W:h.Wf)(x:h.Ext h'):h'.VE u xs:=V.imp (fun V=>V.ext W x) id
theorem Hp.VE.same{u:IN}{xs:List IN}(V:h.VE u xs)(hb:h'.bl=h.bl):h'.VE u xs:=V.imp (fun V=>V.same hb) id
theorem Hp.VE.vals{u:IN}{xs:List IN}(V:h.VE u xs)(hl:0<xs.length):h.AEY u xs:=by
 rcases V with V|⟨_,h2⟩
 ·exact V
 ·rw[h2]at hl;cases hl
theorem Nb{n:Nat}(W:h.Wf){u:IN}{l:List Nat}(V:h.VE u (l.map bv))(hl:l.length<=900000):∃ h' v,call AC (n+1) 93 [u] h=.ok v h'/\h.Ext h'/\VcI h' h.next v l:=by
 rcases V with V|⟨⟨r,rfl⟩,h2⟩
 case inr=>
  obtain rfl:=ABE.1 h2;have x1:=(Hp.Ext.refl W).AEA 0 [];have R:=Hp.Row.new W 0 [];have es:=fun (e:Env) (t:List IN)=>KH (F:=call AC n) (e:=e) (t:=t) W
  generalize h.AEA 0 []=g at x1 R es;have ne:∀ e:Env,J 0 e=.chan (some r)->oEq LR.k false (J 0) (kV (.slice none 0 0)) (call AC n) e h=.ok (.bool false) h:=fun e he=>by
   rw[cW];show(match eqV (.slice 5) (J 0 e) (.slice none 0 0)with|some r=>okB (false != r) h|none=>.no)=_;rw[he];exact FC
  have big:=W.big;have ap:DO 1 1 5 (.slice (some ⟨h.next,0,none⟩) 0 0) (.chan (some r)) g=.ok (.slice (some ⟨h.next,0,none⟩) 0 0) (g.wr h.next 0 []):=Hh x1.wf big R (fun k=>rfl) rfl;have R2:=R.AEP x1.wf (off:=0) (vs:=[]) (IT _);refine⟨_,.slice (some ⟨h.next,0,none⟩) 0 0,?_,R.AEi x1 (IT _) (off:=0) (vs:=[]) (IT _),.inr ⟨h.next,0,rfl,.inl rfl,R2,IT _⟩⟩;rw[Ib rfl];unfold d93;simp only[iN,IS,sT,By,BY,reduceIte,ne,es,BL,ap,lV0]
 have V0:=V;rcases V with ⟨rfl,h2⟩|⟨b,off,c,el,L,h1,_⟩
 ·have ne:∀ e:Env,J 0 e=.slice none 0 0->oEq LR.k false (J 0) (kV (.slice none 0 0)) (call AC n) e h=.ok (.bool true) h:=fun e he=>Ja (t:=0) cW he
  refine⟨h,AEG,?_,.refl W,.inl ⟨rfl,ABE.1 h2⟩⟩;rw[Ib rfl];unfold d93;simp only[iN,IS,sT,By,BY,reduceIte,ne,lV0]
 ·rw[sh]at h1
  rw[h1]at V0 ⊢;obtain⟨h',v,a,b,c⟩:=Pv (n:=n) W V0 hl;exact⟨h',v,a,b,.inr c⟩
theorem Hp.KN.same{k:Nat}{v:IN}{ks:List Kt}(o:h.KN k v ks)(hb:h'.bl=h.bl):h'.KN k v ks:=by
 rcases o with o|⟨h1,b,h2,h3,h4⟩
 ·exact .inl (o.same hb)
 ·exact .inr ⟨h1,b,h2,h3.same hb,h4⟩
theorem iD(x0:h0.Ext h)(hk:h0.next<=k)(hk2:k<=h.next)(o:h.KN k v ks){x:Kt}(hu:oneCell x.u=true)(hl:ks.length<=100000):
  ∃ h' v',DO 6 64 123 v (.slice (some ⟨h.next,0,none⟩) 1 1) (h.AEA 0 (AY x))=.ok v' h'/\h0.Ext h'/\h'.KO k v' (ks++[x])/\h.next<=h'.next:=by
 rcases o with o|⟨rfl,b,rfl,r,hb,AEM⟩
 ·obtain⟨h',v',a1,a2,a3,a4,_⟩:=S9 x0 hk hk2 o hu hl
  exact⟨h',v',a1,a2,a3,a4⟩
 ·have W:=x0.wf
  have x1:=x0.AEA 0 (AY x);have y1:=(Hp.Ext.refl W).AEA 0 (AY x);have Rw:=Hp.Row.new W 0 (AY x);have n1:(h.AEA 0 (AY x)).next=h.next+1:=rfl;have r1:=r.ext W y1;generalize h.AEA 0 (AY x)=h1 at x1 y1 Rw n1 r1;have hs:∀ K:List IN->R,BO h1 6 (.slice (some ⟨h.next,0,none⟩) 1 1) 1 K=K (AY x):=fun K=>Rw.AGE (es:=6) (off:=0) (n:=1) (by show 0+1 * 6<=6;omega)
  obtain⟨h5,a1,a2,a3,a4,_⟩:=El (eb:=64) (en:=123) x1 r1 hs rfl rfl (by omega) (Gi hu) (by omega);refine⟨h5,_,a1,a2,.inr ⟨h1.next,rfl,?_,by omega,by have:=W.big;omega⟩,by omega⟩;show h5.Row h1.next 124 (AY x++[]);rw[xZ];exact a3
theorem Fx.fresh{S:Nat->Prop}{h h1 h2:Hp}{b:Nat}(a:Fx S h h1)(x:Fx (fun i=>i=b) h1 h2)(hb:h.next<=b):Fx S h h2:=
 ⟨yO a.next x.next,fun i hi hs=>by
  have:=a.next;rw[x.get i (by omega) (by omega),a.get i hi hs],x.wf,fun L q1 q2 q3=>x.low L (a.low L q1 q2 q3) (yO q2 a.next) fun i hi=>by rw[hi];omega⟩
theorem WH{z:Kt}:∀ {B A:List Kt},z∈srt A B↔z∈A\/z∈B
 |[],A=>by simp[srt]
 |x::B,A=>by
  show z∈srt (Im A x) B↔_;rw[WH,QZ,xe];constructor
  ·rintro ((h|h)|h)
   ·exact .inr (.inl h)
   ·exact .inl h
   ·exact .inr (.inr h)
  ·rintro (h|h|h)
   ·exact .inl (.inr h)
   ·exact .inl (.inl h)
   ·exact .inr h
theorem WG:∀ (B A:List Kt),(srt A B).length=A.length+B.length
 |[],A=>rfl
 |x::B,A=>by
  show(srt (Im A x) B).length=_;rw[WG,MW,xP];omega
theorem Ga{z:Kt}{ks:List Kt}:z∈EG ks↔z∈ks:=by
 unfold EG;rw[WH,<- yH,zQ]
theorem IH(ks:List Kt):(EG ks).length=ks.length:=by
 unfold EG;rw[WG,yE,yd];omega
theorem Sl.lst{ks':List Kt}{bl:Nat}{L0:List IN}(s:Sl h A T M c0 arm ks fr lv fv bad ov)(W:h.Wf)(x:Fx (fun b=>b=bl) h h')(nbl:¬ A.D bl)(Rl:h.Row bl 124 L0)(ls:h'.KS (fun b=>¬ A.D b) lv ks')(hm:∀ k∈ks',k∈ks)(hn:ks'.length=ks.length):Sl h' A T M c0 arm ks' fr lv fv bad ov:=by
 have kp:∀ b el L,b≠bl->h.Row b el L->h'.Row b el L:=fun b el L hb r=>x.row W r hb
 have nb:∀ b el L,(el=0\/el=6\/el=4)->h.Row b el L->b≠bl:=fun b el L he r=>D5 r Rl (by omega)
 refine⟨kp _ _ _ (nb _ _ _ (.inl rfl) s.row) s.row,s.dk.fr W x (nb _ _ _ (.inl rfl) s.dk.disk) (nb _ _ _ (.inl rfl) s.dk.med) (fun h=>(Jm Rl s.dk.map) h.symm),kp _ _ _ (nb _ _ _ (.inl rfl) s.tab) s.tab,s.tok,ls,fun y hy=>⟨(s.ko y (hm y hy)).1.keep fun b el L hb he r=>kp b el L (nb b el L (by omega) r) r,(s.ko y (hm y hy)).2⟩,?_,s.ne,by rw[hn];exact s.le⟩;rcases s.fs with h1|⟨b,el,h1,h2,h3,h4⟩
 ·exact .inl h1
 ·exact .inr ⟨b,el,h1,kp _ _ _ (nb b el _ (by omega) h2) h2,h3,h4⟩
theorem bZ(W:h.Wf)(s:Sl h A T M c0 arm ks (p::fr) lv fv bad false){a b c:Int}{l:List Nat}{u:IN}(V:h.VE u (l.map bv))(hb:∀ x∈l,x<256)(hl:l.length<=100)
  (hr:AET a b c 1 l.length=true)(hf:ks.any (Bs a b c)=false)(hst:CU a b c ks=false)(hkl:ks.length<=10)(ha:CA arm (k+10)):
  ∃ h' c1 AEg lv' fv' k',call AC (m+8) 58 [pt A.bs,AI AT a,AI AT b,AI AT c,u] h=.ok (AI AT 0) h'/\Fx A.D h h'/\
   Sl h' A T (Dw T M p l (AEc T a b c 1 l)) c1 AEg (EG (ks++[k'])) fr lv' fv' bad false/\k'.core=⟨a,b,c,1,l,p⟩/\CA AEg k/\∀ b,AEe k'.u b->h.next<=b:=by
 have big:=W.big;have hD:=s.AGp W;have hp3:3*p+3<=A.n:=s.le.2.2.2 p xT;have hn:=s.dk.n1;have hH:=GS (T:=T) hr;have hHb:=MS (T:=T) (a:=a) (b:=b) (c:=c) (s:=1) (l:=l);have c00:iNe 0 0=false:=CE rfl;have k0:=NJ (m:=m+6) s.row;obtain⟨h1,vc,k1,x1,mk1⟩:=Nb (n:=m+6) W V (by omega);have oc:=mk1.one;have bl:=fun (F:AEB) (e:Env) (e1:J 1 e=AI AT a) (e2:J 2 e=AI AT b) (e3:J 3 e=AI AT c) (e4:J 28 e=vc)=>Ps (F:=F) (h:=h1) (g1:=J 1) (g2:=J 2) (g3:=J 3) (g5:=J 28) e1 e2 e3 e4 oc.1 oc.2.2
 have al:=fun (F:AEB) (e:Env)=>BQ (F:=F) (e:=e) x1.wf (n:=5) (t:=DH)
 have Ra:=Hp.Row.alloc x1.wf FN (show(A2 0 0 0 0 AEG).length=5 from rfl);have y2:h1.Ext (h1.push (.cells DH 5 0)):=(Hp.Ext.refl x1.wf).push _;have n2:(h1.push (.cells DH 5 0)).next=h1.next+1:=rfl;generalize h1.push (.cells DH 5 0)=h2 at al Ra y2 n2;obtain⟨st,_,y3,R12,n3⟩:=LP x1.wf y2 (IT _) Ra rfl (a:=a) (b:=b) (c:=c) (s:=1) (u:=vc) oc.2.1;generalize h2.wr h1.next 0 (A2 a b c 1 vc)=h3 at st y3 R12 n3;have x3:=x1.trans y3;obtain⟨_,_,_,_,_,AGX⟩:=Bq R12;have lnc:∀ g,AEv vc g=.ok (AI AT (l.length:Int)) g:=fun g=>mk1.vals.bl g
 have k4:=Jl (n:=m+6) x3.wf (a:=a) (b:=b) (c:=c) (s:=1) (u:=vc) lnc;rw[hr]at k4;have y4:=(Hp.Ext.refl x3.wf).AEA 0 (A2 a b c 1 vc);generalize h3.AEA 0 (A2 a b c 1 vc)=h4 at k4 y4;have x4:=x3.trans y4;have lnu:∀ g:Hp,AEv u g=.ok (AI AT (l.length:Int)) g:=fun g=>V.bl g
 obtain⟨_,_,l2,_⟩:=BF (s.row.ext W x4);have c1:iGt (l.length:Int) 100=false:=F5 (by omega);have s4:=s.ext W x4;obtain⟨h5,k5,x5⟩:=F0 (m:=m+4) x4.wf s4.row s4.ls.ks (by omega) a b c;have hidx:Fa (Bs a b c) 0 ks= -1:=by
  rcases Oo (Bs a b c) ks 0 with ⟨_,h2⟩|⟨h1,_⟩
  ·exact h2
  ·rw[hf]at h1;cases h1
 rw[hidx]at k5;have c2:iGe (-1) 0=false:=Ea (by omega);have x45:=x4.trans x5;have s5:=s.ext W x45;obtain⟨h6,k6,x6⟩:=Gb (m:=m+3) x45.wf s5.row s5.ls.ks (by omega) a b c;rw[hst]at k6;have x46:=x45.trans x6;have s6:=s.ext W x46;obtain⟨_,l1,_,_,l4,_⟩:=BF s6.row;have hil:(ints .i64 ((p::fr).map yi)).length=fr.length+1:=by unfold ints;rw[sh,sh];rfl
 have lnf:=s6.fs.vals.len;rw[hil]at lnf;have c3:iEq ((fr.length+1:Nat):Int) 0=false:=B8 (by omega);obtain⟨af,g1,g2⟩:=s6.fs.vals.at (i:=0) (by rw[hil];omega);have g1:AE6 1 fv (AI AT 0) h6=.ok (.pointer (some af)) h6:=g1;have g2:He (.pointer (some af)) h6=.ok (AI AT (p:Int)) h6:=g2;have pre:∃ e1,NL (call AC (m+7)) (AS e0 0 [pt A.bs,AI AT a,AI AT b,AI AT c,u]) h=prB (call AC (m+7)) e1 h6/\J 0 e1=pt A.bs/\J 4 e1=u/\J 12 e1=pt h1.next/\J 14 e1=AI AT (p:Int):=by
  unfold NL;simp only[iN,IS,sT,By,BY,reduceIte,gD,cA0,k0,AK,AJ,c00,k1,bl,al,AX,st,Ar,Aj,AGX,k4,BZ,BX,yT,Ae,lnu,Av,Af,AH,AN,OF,AM,AP,l2,c1,k5,c2,k6,l4,lnf,c3];rw[A8];simp only[sT,By,BY,reduceIte,g1,AM,g2];exact⟨_,rfl,by simp[AG]⟩
 obtain⟨e1,p1,t0,t4,t12,t14⟩:=pre;have x6m:=x46.marked;have AJt:h6.marked.Row h1.next 0 (A2 a b c 1 vc):=(((R12.ext x3.wf y4).ext x4.wf x5).ext x45.wf x6).same rfl;obtain⟨_,_,_,_,_,AHM⟩:=Bq AJt;obtain⟨_,l1m,_⟩:=BF (s.row.ext W x6m);have mkm:VcI h6.marked h.next vc l:=((mk1.ext x1.wf y3).ext x3.wf ((y4.trans x5).trans x6)).same rfl;obtain⟨h7,x7,hd⟩:=VJ (n:=m+4) x6m.quiet.wf ((s.tab.ext W x6m).same (h':=h6.marked.quiet) rfl) s.tok (a:=a) (b:=b) (c:=c) (s:=1) ((mkm.vals).same (h':=h6.marked.quiet) rfl) hb (by omega) (by omega);rcases hd with ⟨_,vh,k7,mkh⟩|⟨hrf,_⟩
 case inr=>rw[hr]at hrf;cases hrf
 have q7:∀ e:Env,J 83 e=pt A.tb->J 84 e=Bn a b c 1 vc->Ad .free (AU 98 [J 83,J 84]) (call AC (m+7)) e h6.marked=.ok (.tuple ⟨[vh,AI AT 0]⟩) (h6.marked.back h7):=fun e e1 e2=>by
  refine BI ?_;rw[BN,AV,AV,A0,e1,e2];exact k7
 have y8:h6.Ext (h6.marked.back h7):=(Hp.Ext.refl x46.wf).marked.trans (.back x7);have AIy:Mk (h6.marked.back h7) h6.next vh (AEc T a b c 1 l):=mkh.same rfl;generalize h6.marked.back h7=h8 at q7 y8 AIy;have x8:=x46.trans y8;have AHe:∀ g:Hp,h6.Ext g->g.Row h1.next 0 (A2 a b c 1 vc):=fun g x=>((((R12.ext x3.wf y4).ext x4.wf x5).ext x45.wf x6)).ext x46.wf x
 have AII:∃ e2 h11 dv1 ds1,prB (call AC (m+7)) e1 h6=prC (call AC (m+7)) e2 h11/\J 0 e2=pt A.bs/\J 12 e2=pt h1.next/\J 14 e2=AI AT (p:Int)/\J 15 e2=vh/\J 17 e2=dv1/\h8.Ext h11/\CP h11 A h8.next dv1 ds1/\((l≠[]/\ds1=Jy p l)\/(l=[]/\ds1=[])):=by
  rcases yV l.length with hz|hz
  ·have hl0:l=[]:=yv hz
   have c4:iGt (l.length:Int) 0=false:=F5 (by omega);have hrun:∃ e2,prB (call AC (m+7)) e1 h6=prC (call AC (m+7)) e2 h8/\J 0 e2=pt A.bs/\J 12 e2=pt h1.next/\J 14 e2=AI AT (p:Int)/\J 15 e2=vh/\J 17 e2=AEG:=by
    rw[bW];unfold jj;simp only[sT,By,BY,reduceIte,Ay,Av,t0,Af,AH,AN,OF,AM,AP,l1m,Ar,Aj,t12,AHM,q7,A7,BA,BC,Ae,t4,lnu,AK,AJ,c4];exact⟨_,rfl,by simp[AG,t0,t12,t14]⟩
   obtain⟨e2,r1,u0,u12,u14,u15,u17⟩:=hrun;exact⟨e2,h8,AEG,[],r1,u0,u12,u14,u15,u17,.refl x8.wf,⟨[],.inl ⟨rfl,rfl⟩,rfl,fun i w x hw _=>by cases hw⟩,.inr ⟨hl0,rfl⟩⟩
  ·have c4:iGt (l.length:Int) 0=true:=HB (by omega)
   have AJu:Mk h1 h.next vc l:=by
    rcases mk1 with ⟨_,h2⟩|h2
    ·rw[h2]at hz;exact absurd hz (AA1 0)
    ·exact h2
   have x8m:=x8.marked;have s8m:=s.ext W x8m;have k9:=NX (m:=m+5) (s8m.row.same (h':=h8.marked.quiet) rfl) (p:=p) (by omega);have q9:∀ e:Env,J 0 e=pt A.bs->J 14 e=AI AT (p:Int)->Ad .weak (AU 100 [J 0,J 14]) (call AC (m+7)) e h8.marked=.ok (AI AT ((p*3:Nat):Int)) (h8.marked.back h8.marked.quiet):=fun e e1 e2=>by
    refine Hm x8m.wf ?_ (IT _);rw[BN,AV,AV,A0,e1,e2];exact k9
   have y9:h8.Ext (h8.marked.back h8.marked.quiet):=Hp.Ext.AFI (Hp.Ext.refl x8.wf).marked (Hp.Ext.refl x8.wf).marked.quiet;have n9:(h8.marked.back h8.marked.quiet).next=h8.next:=rfl;have m9:(h8.marked.back h8.marked.quiet).mark=h8.next:=rfl;generalize h8.marked.back h8.marked.quiet=h9 at q9 y9 n9 m9;have x9:=x8.trans y9;have ad:=CN (h:=h9) (i:=p * 3) (by omega);obtain⟨_,_,_,_,AJv,_⟩:=Bq (AHe h9 (y8.trans y9));have AJw:h1.next<h9.mark:=by
    rw[m9];have:=(AHe h8 y8).lt x8.wf;exact this
   have AJx:∀ (off:Nat) (kk:C) (F:AEB) (e:Env),Ir (.pointer (some ⟨h1.next,off,none⟩)) kk F e h9=kk F e h9:=fun off kk F e=>Dh AJw
   have s9:=s.ext W x9;have mk9:Mk h9 h.next vc l:=(((AJu.ext x1.wf y3).ext x3.wf ((y4.trans x5).trans x6)).ext x46.wf (y8.trans y9));obtain⟨h10,dv1,k10,x10,D1⟩:=Kn (m:=m+6) x9.wf.quiet (s9.row.same (h':=h9.quiet) rfl) (fun b hb=>by have:=hD b hb;have:=x9.next;show b<h9.next;omega) (sct:=p*3+1) (by omega) (mk9.same (h':=h9.quiet) rfl) (by omega);have q10:∀ e:Env,J 0 e=pt A.bs->J 95 e=AI AT ((p*3+1:Nat):Int)->J 97 e=vc->Ad .free (AU 99 [J 0,J 95,J 97]) (call AC (m+7)) e h9=.ok dv1 (h9.back h10):=fun e e1 e2 e3=>by
    refine BI ?_;rw[BN,AV,AV,AV,A0,e1,e2,e3];exact k10
   have y11:h9.Ext (h9.back h10):=.back x10;have D11:CP (h9.back h10) A h9.next dv1 (Jy p l):=D1.same rfl;generalize h9.back h10=h11 at q10 y11 D11;have hrun:∃ e2,prB (call AC (m+7)) e1 h6=prC (call AC (m+7)) e2 h11/\J 0 e2=pt A.bs/\J 12 e2=pt h1.next/\J 14 e2=AI AT (p:Int)/\J 15 e2=vh/\J 17 e2=dv1:=by
    rw[bW];unfold jj;simp only[sT,By,BY,reduceIte,Ay,Av,t0,Af,AH,AN,OF,AM,AP,l1m,Ar,Aj,t12,AHM,q7,A7,BA,BC,Ae,t4,lnu,AK,AJ,c4,q9,t14,BP,ad,D4,AJx,DP,AJv,q10];exact⟨_,rfl,by simp[AG,t0,t12,t14]⟩
   obtain⟨e2,r1,u0,u12,u14,u15,u17⟩:=hrun;exact⟨e2,h11,dv1,Jy p l,r1,u0,u12,u14,u15,u17,y9.trans y11,by rw[<- n9];exact D11,.inl ⟨fun h=>by rw[h]at hz;exact absurd hz (AA1 0),rfl⟩⟩
 obtain⟨e2,h11,dv1,ds1,r1,u0,u12,u14,u15,u17,AGz,D11,hds⟩:=AII;have x11:=x8.trans AGz;have s11:=s.ext W x11;have hd3:ds1.length<=3:=by
  rcases hds with ⟨_,rfl⟩|⟨_,rfl⟩
  ·unfold Jy
   rw[No,sh,List.length_range];show _+1<=3;omega
  ·exact yC _
 have k11:=NX (m:=m+5) s11.row (p:=p) (by omega);have AIJ:Mk h11 h6.next vh (AEc T a b c 1 l):=(AIy.ext x8.wf AGz);obtain⟨h12,dv2,k12,x12,D2⟩:=Kn (m:=m+6) x11.wf s11.row (fun b hb=>by have:=hD b hb;have:=x11.next;omega) (sct:=p*3) (by omega) AIJ (by omega);rw[hH,show(ym ((64+63)/64)).map (fun j=>AE1.w (p*3+j) (Cy (AEc T a b c 1 l) j))++[.f]=GF p (Cy (AEc T a b c 1 l) 0)from rfl,Pu hH]at D2;have AJy:=x11.trans x12;obtain⟨h13,dv3,k13,x13,D3,n13,AIz⟩:=CP.app AJy (by have:=x8.next;omega) (by have:=AGz.next;have:=x12.next;omega) (D11.ext x11.wf x12) D2 (by show 0<2;omega) (by
  show _+2<=1000;omega)
 have s13:=s.ext W x13;obtain⟨vs,w1,w2,w3⟩:=D3.ends fun b hb=>by have:=hD b hb;have:=x8.next;omega
 have hdl:(ds1++GF p (AEc T a b c 1 l)).length<=6:=by
  rw[No];show _+2<=6;omega
 have hok:FJ A.n [] (ds1++GF p (AEc T a b c 1 l)):=by
  rcases hds with ⟨h0,rfl⟩|⟨_,rfl⟩
  ·exact jV hp3 ⟨by rcases l with _|⟨_,_⟩;exact absurd rfl h0;exact Nat.succ_pos _,hl⟩ hb hH hHb
  ·exact Vs hp3 hH hHb
 obtain⟨h14,c14,AFk,k14,f14,d14,ea⟩:=SU (m:=m+2) x13.wf s13.row s.nK s13.dk w1 w2 w3 hok (ha.le (by omega)) (by omega);have hcs:(GZ M [] (ds1++GF p (AEc T a b c 1 l))).2=[]:=by
  have:ds1++GF p (AEc T a b c 1 l)=(ds1++[.w (p*3) (AEc T a b c 1 l)])++[.f]:=by rw[xp];rfl
  rw[this];exact M6 _ _ _
 have hM:(GZ M [] (ds1++GF p (AEc T a b c 1 l))).1=Dw T M p l (AEc T a b c 1 l):=by
  rcases hds with ⟨_,rfl⟩|⟨h0,rfl⟩
  ·rfl
  ·rw[h0];rfl
 rw[hcs,hM]at d14;have s14:Sl h14 A T (Dw T M p l (AEc T a b c 1 l)) c14 AFk ks (p::fr) lv fv bad false:=(s13.sc.fx x13.wf f14).sl d14;have a14:CA AFk k:=by rw[ea];exact HQ _ k arm (ha.le (by omega))
 obtain⟨_,_,_,l3',l4',_⟩:=BF s14.row;obtain⟨wc,Vc,ct⟩:=fF (xs:=ints .i64 (fr.map yi)) (z:=AI AT (p:Int)) s14.fs;have hone:Bb (ints .i64 (fr.map yi))=true:=HH .i64 _;obtain⟨h15,fv',k15,x15,AI0⟩:=ph (n:=m+6) f14.wf Vc hone (by have:=s.le.2.1;unfold ints;rw[sh,sh];rw[xP]at this;omega);have s15:=s14.ext f14.wf x15;have onf:cellsOf fv'=[fv']/\oneCell fv'=true:=by
  rcases AI0 with ⟨h1,_⟩|⟨b,el,h1,_⟩<;>rw[h1]<;>exact⟨rfl,rfl⟩
 obtain⟨h16,AJz,AGq,n16,f16,_⟩:=F1 x15.wf s15.row (off:=4) (show 4<7 by omega) s.ne.2.2.2.2 onf.1 onf.2;have AHN:∀ b,A.D b->b<h14.next:=fun b hb=>by have:=hD b hb;have:=x13.next;have:=f14.next;omega
 have AGq:h16.Row A.bs 0 (slL A.bd A.tb lv fv' bad false):=AGq;have nbs:∀ b,¬ A.D b->b≠A.bs:=fun b hb h=>hb (.inl h)
 have s16:Sl h16 A T (Dw T M p l (AEc T a b c 1 l)) c14 AFk ks fr lv fv' bad false:=s15.bsx x15.wf f16 AGq (s15.ls.keep fun b el L hb r=>f16.row x15.wf r (nbs b hb)) (fun k hk=>⟨(s15.ko k hk).1.keep fun b el L hb _ r=>f16.row x15.wf r (nbs b hb),(s15.ko k hk).2⟩)
  (by
   rcases AI0 with h1|⟨b,el,h1,h2,h3,h4⟩
   ·exact .inl h1
   ·have hb:¬ A.D b:=fun h=>by have:=AHN b h;omega
    exact .inr ⟨b,el,h1,f16.row x15.wf h2 (nbs b hb),h3,hb⟩) ⟨s.le.1,by have:=s.le.2.1;rw[xP]at this;omega,s.le.2.2.1,fun q hq=>s.le.2.2.2 q (xS _ hq)⟩
 have W16:=f16.wf;have AHf:=(Hp.Ext.refl W16).marked;have AI1:=s16.ext W16 AHf;obtain⟨_,_,_,l3m,_⟩:=BF AI1.row;obtain⟨h17,w17,k17,x17,AJ0⟩:=UV (m:=m+6) AHf.quiet.wf ((AI1.same (h':=h16.marked.quiet) rfl).ls) (fun k hk=>(s16.ko k hk).1.vs.one.2.1) (by omega);have q17:∀ e:Env,J 125 e=lv->Ad .weak (AU 103 [J 125]) (call AC (m+7)) e h16.marked=.ok w17 (h16.marked.back h17):=fun e he=>by
  refine Ci ?_ x17 (IT _);rw[BN,AV,A0,he];exact k17
 have y18:h16.Ext (h16.marked.back h17):=Hp.Ext.AFI AHf (AHf.quiet.trans x17);have AI2:(h16.marked.back h17).KN h16.next w17 ks:=AJ0.same rfl;have m18:(h16.marked.back h17).mark=h16.next:=rfl;generalize h16.marked.back h17=h18 at q17 y18 AI2 m18;have AI3:h1.next<h6.next:=(AHe h6 (.refl x46.wf)).lt x46.wf;have hl6:h6.next<=h13.next:=by
  have a1:=y8.next;have a2:=AGz.next;have a4:=x12.next;omega
 have AI4:¬ A.D h1.next:=fun h=>by have:=hD _ h;have:=x1.next;omega
 have AJ1:=AIz _ _ _ (.inl rfl) (AHe h12 ((y8.trans AGz).trans x12));have AJ2:=aI AI4;have AIK:=f14.row x13.wf AJ1 AJ2;have AHO:=f16.row x15.wf (AIK.ext f14.wf x15) (nbs _ AI4);obtain⟨_,_,_,_,_,AJ3⟩:=Bq (AHO.ext W16 y18);have AIL:∀ (off:Nat) (kk:C) (F:AEB) (e:Env),Ir (.pointer (some ⟨h1.next,off,none⟩)) kk F e h18=kk F e h18:=fun off kk F e=>Dh (by
  rw[m18];exact AHO.lt W16)
 generalize hk':(⟨a,b,c,1,l,p,vc⟩:Kt)=k';have AJ4:∀ (F:AEB) (e:Env),J 127 e=Bn a b c 1 vc->J 14 e=AI AT (p:Int)->BU Dj.zero [(0,5,J 127),(5,1,J 14)] F e h18=.ok (ktV k') h18:=fun F e e1 e2=>by rw[<- hk'];exact UK e1 e2
 have hku:k'.u=vc:=by rw[<- hk']
 have qs:∀ (F:AEB) (e:Env),J 129 e=ktV k'->Ad .AER (As 1 (Ba Dj.zero 1) [(0,6,J 129)]) F e h18=.ok (.slice (some ⟨h18.next,0,none⟩) 1 1) (h18.back (h18.quiet.AEA 0 (AY k'))):=fun F e he=>Ci (Ma y18.wf.quiet he) ((Hp.Ext.refl y18.wf.quiet).AEA _ _) (by rw[m18];exact y18.next)
 have AI5:=y18.next;have xX:h16.Ext (⟨h18.next,h18.next+1,0,h18.mark,h18.bl⟩:Hp):=⟨AI5,y18.get,by show _<=h18.next+1;omega,⟨y18.wf.big,y18.wf.has,y18.wf.fresh⟩⟩;obtain⟨h20,lv',k20,x20,AJ5,n20⟩:=iD (k:=h16.next) xX (IT _) AI5 (AI2.same (h':=⟨h18.next,h18.next+1,0,h18.mark,h18.bl⟩) rfl) (x:=k') (by rw[hku];exact oc.2.1) (by omega);have q20:∀ (F:AEB) (e:Env),J 126 e=w17->J 130 e=.slice (some ⟨h18.next,0,none⟩) 1 1->Ad .free (Bo 6 64 123 (J 126) (J 130)) F e (h18.back (h18.quiet.AEA 0 (AY k')))=.ok lv' ((h18.back (h18.quiet.AEA 0 (AY k'))).back h20):=fun F e e1 e2=>by
  refine BI ?_;rw[BL,e1,e2];exact k20
 have y21:h16.Ext ((h18.back (h18.quiet.AEA 0 (AY k'))).back h20):=Hp.Ext.AFI (Hp.Ext.AFI y18 (y18.quiet.AEA _ _)) x20;have AG0:((h18.back (h18.quiet.AEA 0 (AY k'))).back h20).KO h16.next lv' (ks++[k']):=AJ5.same rfl;generalize h18.back (h18.quiet.AEA 0 (AY k'))=h19 at qs q20 y21 AG0;generalize h19.back h20=h21 at q20 y21 AG0;have s21:=s16.ext W16 y21;have onl:cellsOf lv'=[lv']/\oneCell lv'=true:=⟨AG0.lst.one.1,AG0.lst.one.2.1⟩;obtain⟨h22,AJ6,AGr,n22,_,f22,_⟩:=MO y21.wf s21.row (off:=3) (show 3<7 by omega) s.ne.2.2.2.2 onl.1 onl.2;have AGr:h22.Row A.bs 0 (slL A.bd A.tb lv' fv' bad false):=AGr;have AGs:∀ b,A.D b->b<h16.next:=fun b hb=>by have:=AHN b hb;have:=x15.next;have:=f16.next;omega
 have AI6:h22.KO h16.next lv' (ks++[k']):=AG0.keep fun b el L hb r=>f22.row y21.wf r (fun h=>by
  have:=(AG0.blk y21.wf hb).1;have:=AGs A.bs (.inl rfl);omega)
 have bsv:h22.BS (fun b=>¬ A.D b) vc (l.map bv):=by
  have AJ7:=(((mk1.ext x1.wf y3).ext x3.wf ((y4.trans x5).trans x6)).ext x46.wf (y8.trans AGz)).ext x11.wf x12;rcases AJ7 with ⟨e1,e2⟩|⟨bq,eq,e1,e2,e3,e4⟩
  ·exact .inl ⟨e1,by rw[e2];rfl⟩
  ·have hb':¬ A.D bq:=fun h=>by have:=hD _ h;omega
   have r13:=AIz _ _ _ e2 e3;have r16:=f16.row x15.wf ((f14.row x13.wf r13 (aI hb')).ext f14.wf x15) (nbs _ hb');exact .inr ⟨bq,0,l.length,eq,_,by rw[sh];exact e1,by rw[sh];exact IT _,f22.row y21.wf (r16.ext W16 y21) (nbs _ hb'),by omega,by rw[yf,yz],hb',e2⟩
 have s22:Sl h22 A T (Dw T M p l (AEc T a b c 1 l)) c14 AFk (ks++[k']) fr lv' fv' bad false:=s21.bsx y21.wf f22 AGr (by
   refine Hp.KW.ks ?_;rcases AI6 with ⟨h1,h2⟩|⟨b,h1,h2,h3,_⟩
   ·exact .inl ⟨h1,h2⟩
   ·exact .inr ⟨b,h1,h2,fun h=>by have:=AGs b h;omega⟩) (fun x hx=>by
   rcases yH.1 hx with hx|hx
   ·exact⟨(s21.ko x hx).1.keep fun b el L hb _ r=>f22.row y21.wf r (nbs b hb),(s21.ko x hx).2⟩
   ·rw[xr.1 hx,<- hk']
    exact⟨bsv,hb,hl,.inl rfl,hr,by show p<65536;omega⟩)
  (s21.fs.keep fun b el L hb r=>f22.row y21.wf r (nbs b hb)) ⟨by rw[No];show ks.length+1<=1000;omega,s16.le.2.1,s16.le.2.2.1,s16.le.2.2.2⟩
 have AFq:k'.core=⟨a,b,c,1,l,p⟩:=by rw[<- hk'];rfl
 obtain⟨_,_,_,l3z,_⟩:=BF s22.row;obtain⟨bl,hlw,Rl,hbk,AF3⟩:∃ bl,lv'=.slice (some ⟨bl,0,none⟩) (ks++[k']).length (ks++[k']).length/\h22.Row bl 124 (flK (ks++[k']))/\h16.next<=bl/\256<=bl:=by
  rcases AI6 with ⟨_,h2⟩|h2
  ·have:=congrArg List.length h2
   simp at this
  ·exact h2
 have nbl:¬ A.D bl:=fun h=>by have:=AGs bl h;omega
 obtain⟨h23,k23,f23,R23⟩:=Rx (m:=m+1) (Z:=[]) (n:=(ks++[k']).length) (c:=(ks++[k']).length) f22.wf (by rw[xZ];exact Rl) AF3 rfl (IT _) (by rw[No];show ks.length+1<=12;omega) fun k hk=>(s22.ko k hk).1.vs.one.2.1
 rw[<- hlw]at k23;have s23:Sl h23 A T (Dw T M p l (AEc T a b c 1 l)) c14 AFk (EG (ks++[k'])) fr lv' fv' bad false:=s22.lst f22.wf f23 nbl Rl (by
  rw[hlw,<- IH];exact(PQ R23 rfl (IT _)).mono fun b hb=>by rw[show b=bl from hb];exact nbl) (fun k hk=>(Ga).1 hk) (IH _)
 have fx:Fx A.D h h23:=by
  have e1:Fx A.D h h13:=.of x13;have e2:Fx A.D h13 h14:=f14.mono fun b hb=>.inr hb
  have e3:Fx A.D h14 h15:=.of x15;have e4:Fx A.D h15 h16:=f16.mono fun b hb=>.inl hb
  have e5:Fx A.D h16 h21:=.of y21;have e6:Fx A.D h21 h22:=f22.mono fun b hb=>.inl hb
  have e7:=((((e1.trans e2).trans e3).trans e4).trans e5).trans e6;have a1:=x13.next;have a2:=f14.next;have a3:=x15.next;have a4:=f16.next;exact e7.fresh f23 (by omega)
 refine⟨h23,c14,AFk,lv',fv',k',?_,fx,s23,AFq,a14,fun b hb=>?_⟩;rotate_left
 ·rw[hku]at hb
  obtain⟨o,n,c,e⟩:=hb;rcases mk1 with ⟨e1,_⟩|⟨bq,eq,e1,_,_,e4⟩
  ·rw[e1]at e;cases e
  ·rw[e1]at e
   injection e with e
   injection e with e
   injection e with e
   omega
 rw[Ia rfl,Ig,p1,r1];unfold prC;have AJ8:call AC (m+7) 100 [pt A.bs,AI AT (p:Int)] h11=.ok (AI AT ((p*3:Nat):Int)) h11:=k11;have AJ9:call AC (m+7) 99 [pt A.bs,AI AT ((p*3:Nat):Int),vh] h11=.ok dv2 h12:=k12;have AIM:call AC (m+7) 101 [pt A.bs,dv3] h13=.ok (AI AT 0) h14:=k14;have AKA:call AC (m+7) 102 [wc] h14=.ok fv' h15:=k15;have AKB:call AC (m+7) 74 [lv',.func (.func 75) ⟨[]⟩ ⟨[]⟩] h22=.ok AEE h23:=k23;simp only[sT,By,BY,reduceIte,cA0,u0,u14,AJ8,u15,AJ9,BL,u17,k13,AIM,AK,AJ,c00,Av,Af,AH,AN,OF,AM,AP,l4'];rw[ct _ _ _ (by simp[AG])];simp only[sT,By,BY,reduceIte,cA0,u0,AKA,Av,Af,AH,AN,OF,AX,AJz,Ay,AM,AP,l3m,q17,u12,D4,AIL,DP,Ar,Aj,AJ3,u14,AJ4,qs,q20];rw[AJ6 _ _ _ _ (by simp[AG]) (by simp[AG])];simp only[sT,By,BY,reduceIte,u0,Av,Af,AH,AN,OF,AM,AP,l3z,cA0,AKB,lV0]
end
end
noncomputable section
open Go
set_option maxRecDepth 100000
theorem pk:cmS=BH (Ac 1 (A6 cmL)) cmE:=rfl
theorem pi:cmB=pj:=rfl
theorem MC:d59=Oc:=rfl
section
variable {F:AEB}{e:Env}{h h':Hp}{S:Nat->Prop}{A:At}{T M:List Nat}{c0 bad m k p:Nat}{arm:Int}{ks:List Kt}{fr:List Nat}{v lv fv:IN}
theorem ZD(W:h.Wf)(s:Sl h A T M c0 arm ks fr lv fv bad false){j:Nat}{kx:Kt}(hj:ks[j]? =some kx)(hs1:kx.s=1){a b c:Int}(hf:Fa (Bs a b c) 0 ks=(j:Int))(AFP:kx.a=a/\kx.b=b/\kx.c=c)(hst:CU a b c ks=false)(hp3:3*kx.p+3<=A.n)(hkl:ks.length<=1000)(ha:CA arm (k+5)):
  ∃ h' c1 AEg lv' e2,Oc (call AC (m+7)) (AS e0 0 [pt A.bs,AI AT a,AI AT b,AI AT c]) h=cmS (call AC (m+7)) e2 h'/\J 0 e2=pt A.bs/\J 1 e2=AI AT a/\J 2 e2=AI AT b/\J 3 e2=AI AT c/\J 15 e2=AEG/\J 16 e2=AI AT ((0:Nat):Int)/\Fx A.D h h'/\
   Sl h' A T (G7 M kx.p (AEc T a b c 2 kx.l)) c1 AEg (ks.set j {kx with s:=2}) fr lv' fv bad false/\CA AEg k:=by
 have big:=W.big;have hD:=s.AGp W;have hn:=s.dk.n1;have hjl:=(xy.1 hj).1;have hkm:=xd hj;obtain⟨o1,o2,o3,o4,o5,o6⟩:=s.ko kx hkm;obtain⟨rfl,rfl,rfl⟩:=AFP;have oc:=o1.vs.one;have c00:iNe 0 0=false:=CE rfl;have k0:=NJ (m:=m+6) s.row;obtain⟨h1,k1,x1⟩:=F0 (m:=m+4) W s.row s.ls.ks (by omega) kx.a kx.b kx.c;rw[hf]at k1;have c1:iGe (j:Int) 0=true:=F4 (by omega);have s1:=s.ext W x1;obtain⟨_,_,_,l3,_⟩:=BF s1.row;obtain⟨bb,_,ix,ld,lde⟩:=s1.ls.ks.at hj;have lst:=lde 3 (.int .u8 (kx.s:Int)) rfl;have c2:iEq (kx.s:Int) 2=false:=B8 (by omega);obtain⟨h2,k2,x2⟩:=Gb (m:=m+3) x1.wf s1.row s1.ls.ks (by omega) kx.a kx.b kx.c;rw[hst]at k2;have x12:=x1.trans x2;have s2:=s.ext W x12;have c3:iLt (j:Int) 0=false:=E5 (by omega);obtain⟨_,_,_,l3',_⟩:=BF s2.row;obtain⟨bb2,_,ix2,ld2,_⟩:=s2.ls.ks.at hj;have al:=fun (F:AEB) (e:Env)=>BQ (F:=F) (e:=e) x12.wf (n:=6) (t:=CO)
 have Ra:=Hp.Row.alloc x12.wf FA (show(AY K0).length=6 from rfl);have y3:h2.Ext (h2.push (.cells CO 6 0)):=(Hp.Ext.refl x12.wf).push _;have n3:(h2.push (.cells CO 6 0)).next=h2.next+1:=rfl;generalize h2.push (.cells CO 6 0)=h3 at al Ra y3 n3;obtain⟨st,_,y4,R11,n4⟩:=Kh x12.wf y3 (IT _) Ra rfl (k:=kx) oc.2.1;generalize h3.wr h2.next 0 (AY kx)=h4 at st y4 R11 n4;have AEM:256<=h2.next:=by have:=x12.next;omega
 obtain⟨h5,st5,R5,n5,f5,e5⟩:=F1 y4.wf R11 (off:=3) (show 3<6 by omega) AEM (v:=.int .u8 2) rfl rfl;have y5:=e5 h2 y4 (IT _);generalize hkx:({kx with s:=2}:Kt)=X;have R5:h5.Row h2.next 0 (AY X):=by rw[<- hkx];exact R5
 have x5:=x12.trans y5;have pre:∃ e1,Oc (call AC (m+7)) (AS e0 0 [pt A.bs,AI AT kx.a,AI AT kx.b,AI AT kx.c]) h=cmB (call AC (m+7)) e1 h5/\J 0 e1=pt A.bs/\J 1 e1=AI AT kx.a/\J 2 e1=AI AT kx.b/\J 3 e1=AI AT kx.c/\J 10 e1=AI AT (j:Int)/\J 11 e1=pt h2.next:=by
  unfold Oc;simp only[iN,IS,sT,By,BY,reduceIte,gD,cA0,k0,AK,AJ,c00,k1,c1,Av,Af,AH,AN,OF,yy,AM,AP,l3,A8,ix,lst,c2,k2,c3,l3',ix2,Ar,Aj,ld2,al,AX,st,st5];exact⟨_,rfl,by simp[AG]⟩
 obtain⟨e1,p1,t0,t1,t2,t3,t10,t11⟩:=pre;have x5m:=x5.marked;have s5m:=s.ext W x5m;have R5m:h5.marked.Row h2.next 0 (AY X):=R5.same rfl;obtain⟨_,_,_,_,_,_,_,ld5⟩:=Bw R5m;obtain⟨_,l1m,_⟩:=BF s5m.row;have hX:X.a=kx.a/\X.b=kx.b/\X.c=kx.c/\X.s=2/\X.u=kx.u/\X.l=kx.l/\X.p=kx.p:=by rw[<- hkx];exact⟨rfl,rfl,rfl,rfl,rfl,rfl,rfl⟩
 obtain⟨e6a,e6b,e6c,e6s,e6u,e6l,e6p⟩:=hX;rw[e6a,e6b,e6c,e6s,e6u]at ld5;have bsu:=(s5m.ko kx hkm).1;have hr2:AET kx.a kx.b kx.c 2 kx.l.length=true:=by
  obtain⟨g1,g2,g3,g4,g5,g6,g7,g8⟩:=EE o5;exact decide_eq_true ⟨g1,g2,g3,g4,g5,g6,.inr rfl,g8⟩
 have hH:=GS (T:=T) hr2;have hHb:=MS (T:=T) (a:=kx.a) (b:=kx.b) (c:=kx.c) (s:=2) (l:=kx.l);obtain⟨h6,x6,hd⟩:=VJ (n:=m+4) x5m.quiet.wf ((s5m.tab).same (h':=h5.marked.quiet) rfl) s.tok (a:=kx.a) (b:=kx.b) (c:=kx.c) (s:=2) (bsu.vs.vals.same (h':=h5.marked.quiet) rfl) o2 (by omega) (by omega);rcases hd with ⟨_,vh,k6,mkh⟩|⟨hrf,_⟩
 case inr=>rw[hr2]at hrf;cases hrf
 have q6:∀ e:Env,J 65 e=pt A.tb->J 67 e=Bn kx.a kx.b kx.c 2 kx.u->Ad .free (AU 98 [J 65,J 67]) (call AC (m+7)) e h5.marked=.ok (.tuple ⟨[vh,AI AT 0]⟩) (h5.marked.back h6):=fun e e1 e2=>by
  refine BI ?_;rw[BN,AV,AV,A0,e1,e2];exact k6
 have y7:h5.Ext (h5.marked.back h6):=(Hp.Ext.refl x5.wf).marked.trans (.back x6);have mk7:Mk (h5.marked.back h6) h5.next vh (AEc T kx.a kx.b kx.c 2 kx.l):=mkh.same rfl;generalize h5.marked.back h6=h7 at q6 y7 mk7;have x7:=x5.trans y7;have s7:=s.ext W x7;obtain⟨_,_,_,_,_,lp7,_⟩:=Bw (R5.ext x5.wf y7);rw[e6p]at lp7;have k7:=NX (m:=m+5) s7.row (p:=kx.p) (by omega);obtain⟨h8,dv,k8,x8,D8⟩:=Kn (m:=m+6) x7.wf s7.row (fun b hb=>by have:=hD b hb;have:=x7.next;omega) (sct:=kx.p * 3) (by omega) mk7 (by omega);rw[hH,show(ym ((64+63) / 64)).map (fun j=>AE1.w (kx.p * 3+j) (Cy (AEc T kx.a kx.b kx.c 2 kx.l) j))++[.f]=GF kx.p (Cy (AEc T kx.a kx.b kx.c 2 kx.l) 0)from rfl,Pu hH]at D8;have x8':=x7.trans x8;have s8:=s.ext W x8';obtain⟨vs,w1,w2,w3⟩:=D8.ends fun b hb=>by have:=hD b hb;have:=x7.next;omega
 obtain⟨h9,c9,AGQ,k9,f9,d9,ea⟩:=SU (m:=m+2) x8'.wf s8.row s.nK s8.dk w1 w2 w3 (Vs hp3 hH hHb) (ha.le (by show 2<=_;omega)) (by show 2<=100;omega);have d9:Dk h9 A.bd A.bm A.bc A.n (G7 M kx.p (AEc T kx.a kx.b kx.c 2 kx.l)) c9 [] AGQ false:=d9;have s9:Sl h9 A T (G7 M kx.p (AEc T kx.a kx.b kx.c 2 kx.l)) c9 AGQ ks fr lv fv bad false:=(s8.sc.fx x8'.wf f9).sl d9;have a9:CA AGQ k:=by rw[ea];exact HQ _ k arm (ha.le (by show 2+k<=_;omega))
 have AI7:¬ A.D h2.next:=fun h=>by have:=hD _ h;have:=x12.next;omega
 have R9:=f9.row x8'.wf ((R5.ext x5.wf y7).ext x7.wf x8) (aI AI7);obtain⟨_,_,_,l39,_⟩:=BF s9.row;have hu:∀ k∈ks,oneCell k.u=true:=fun k hk=>(s9.ko k hk).1.vs.one.2.1
 obtain⟨h10,w10,k10,x10,AHg⟩:=Sm (m:=m+6) f9.wf s9.ls hu (fun h=>by rw[h]at hjl;cases hjl) (by omega);have s10:=s9.ext f9.wf x10;obtain⟨h11,AKC,AGt,n11,f11,_⟩:=F1 x10.wf s10.row (off:=3) (show 3<7 by omega) s.ne.2.2.2.2 (v:=w10) AHg.lst.one.1 AHg.lst.one.2.1;have AGt:h11.Row A.bs 0 (slL A.bd A.tb w10 fv bad false):=AGt;have nbs:∀ b,¬ A.D b->b≠A.bs:=fun b hb h=>hb (.inl h)
 have AIN:∀ b,A.D b->b<h9.next:=fun b hb=>by have:=hD b hb;have:=x8'.next;have:=f9.next;omega
 have AI8:h11.KO h9.next w10 ks:=AHg.keep fun b el L hb r=>f11.row x10.wf r (fun h=>by
  have:=(AHg.blk x10.wf hb).1;have:=AIN A.bs (.inl rfl);omega)
 have s11:Sl h11 A T (G7 M kx.p (AEc T kx.a kx.b kx.c 2 kx.l)) c9 AGQ ks fr w10 fv bad false:=s10.bsx x10.wf f11 AGt (by
   refine Hp.KW.ks ?_;rcases AI8 with ⟨h1,h2⟩|⟨b,h1,h2,h3,_⟩
   ·exact .inl ⟨h1,h2⟩
   ·exact .inr ⟨b,h1,h2,fun h=>by have:=AIN b h;omega⟩) (fun x hx=>⟨(s10.ko x hx).1.keep fun b el L hb _ r=>f11.row x10.wf r (nbs b hb),(s10.ko x hx).2⟩) (s10.fs.keep fun b el L hb r=>f11.row x10.wf r (nbs b hb)) s10.le
 have AIO:=f11.row x10.wf (R9.ext f9.wf x10) (nbs _ AI7);have W11:=f11.wf;have xm:=(Hp.Ext.refl W11).marked;have AKD:=s11.ext W11 xm;obtain⟨_,_,_,l3m,_⟩:=BF AKD.row;obtain⟨_,_,_,_,_,_,AKE,_⟩:=Bw (AIO.same (h':=h11.marked) rfl);rcases AI8 with ⟨_,AH9⟩|⟨bl,hw,Rl,hbk,AF3⟩
 ·rw[AH9]at hjl;cases hjl
 have ixl:AE6 6 w10 (AI AT (j:Int)) h11.marked=.ok (.pointer (some ⟨bl,6*j,none⟩)) h11.marked:=by
  rw[hw];have:=DT (h:=h11.marked) (n:=ks.length) (c:=ks.length) (es:=6) (b:=bl) (off:=0) (i:=j) (k:=.i64) hjl
  rwa [OF,Nat.mul_comm]at this
 have Rq:h11.marked.quiet.Row bl 124 (flK ks):=Rl.same rfl;have hXu:oneCell X.u=true:=by rw[e6u];exact oc.2.1
 have hoo:6*j+(AY X).length<=(flK ks).length:=by rw[CW];show 6*j+6<=_;omega
 have stq:=Rq.AEK (n:=6) (off:=6 * j) (v:=ktV X) xm.wf.quiet AF3 rfl hoo (Gi hXu);have wrq:=Rq.AEP xm.wf.quiet hoo;rw[Oi ks j X hjl]at wrq;have fxq:=Fx.wr (S:=fun b=>b=bl) xm.wf.quiet Rq hoo rfl;have stq:AEK 6 (.pointer (some ⟨bl,6 * j,none⟩)) (ktV X) h11.marked.quiet=.ok AEE (h11.marked.quiet.wr bl (6 * j) (AY X)):=stq;generalize h11.marked.quiet.wr bl (6 * j) (AY X)=q at stq wrq fxq;have q12:∀ (F:AEB) (e:Env),J 97 e=.pointer (some ⟨bl,6 * j,none⟩)->J 96 e=ktV X->Ad .free (Ai 6 (J 97) (J 96)) F e h11.marked=.ok AEE (h11.marked.back q):=fun F e e1 e2=>BI (by rw[AX,e1,e2];exact stq)
 have f12:Fx (fun b=>b=bl) h11 (h11.marked.back q):=((fxq.from (h:=h11.marked) rfl rfl).same (h2:=h11.marked.back q) rfl rfl).from (h:=h11) rfl rfl;have AI9:(h11.marked.back q).Row bl 124 (flK (ks.set j X)):=wrq.same rfl;generalize h11.marked.back q=h12 at q12 f12 AI9;have nbl:¬ A.D bl:=fun h=>by have:=AIN bl h;omega
 have hsl:(ks.set j X).length=ks.length:=List.length_set;have AHh:∀ b el L,b≠bl->h11.Row b el L->h12.Row b el L:=fun b el L hb r=>f12.row W11 r hb
 have AG1:∀ b el L,(el=0\/el=6\/el=4)->h11.Row b el L->b≠bl:=fun b el L he r=>D5 r Rl (by omega)
 have s12:Sl h12 A T (G7 M kx.p (AEc T kx.a kx.b kx.c 2 kx.l)) c9 AGQ (ks.set j X) fr w10 fv bad false:=by
  refine⟨AHh _ _ _ (AG1 _ _ _ (.inl rfl) s11.row) s11.row,s11.dk.fr W11 f12 (AG1 _ _ _ (.inl rfl) s11.dk.disk) (AG1 _ _ _ (.inl rfl) s11.dk.med) (fun h=>(Jm Rl s11.dk.map) h.symm),AHh _ _ _ (AG1 _ _ _ (.inl rfl) s11.tab) s11.tab,s.tok,Hp.KW.ks (.inr ⟨bl,by rw[hsl];exact hw,AI9,nbl⟩),fun x hx=>?_,?_,s.ne,by rw[hsl];exact s11.le⟩
  ·have kp:=fun (x:Kt) (hx:x∈ks)=>(s11.ko x hx).1.keep (h':=h12) fun b el L hb he r=>AHh b el L (AG1 b el L (by omega) r) r
   rcases List.mem_or_eq_of_mem_set hx with h1|h1
   ·exact⟨kp x h1,(s11.ko x h1).2⟩
   ·rw[h1]
    have:=kp kx hkm;refine⟨?_,?_,?_,.inr e6s,?_,?_⟩
    ·rw[e6u,e6l];exact this
    ·rw[e6l];exact o2
    ·rw[e6l];exact o3
    ·rw[e6a,e6b,e6c,e6s,e6l];exact hr2
    ·rw[e6p];exact o6
  ·rcases s11.fs with h1|⟨b,el,h1,h2,h3,h4⟩
   ·exact .inl h1
   ·exact .inr ⟨b,el,h1,AHh _ _ _ (AG1 b el _ (by omega) h2) h2,h3,h4⟩
 have mid:∃ e2,cmB (call AC (m+7)) e1 h5=cmS (call AC (m+7)) e2 h12/\J 0 e2=pt A.bs/\J 1 e2=AI AT kx.a/\J 2 e2=AI AT kx.b/\J 3 e2=AI AT kx.c/\J 15 e2=AEG/\J 16 e2=AI AT ((0:Nat):Int):=by
  have k7':call AC (m+7) 100 [pt A.bs,AI AT (kx.p:Int)] h7=.ok (AI AT ((kx.p*3:Nat):Int)) h7:=k7;have k8':call AC (m+7) 99 [pt A.bs,AI AT ((kx.p*3:Nat):Int),vh] h7=.ok dv h8:=k8;have k9':call AC (m+7) 101 [pt A.bs,dv] h8=.ok (AI AT 0) h9:=k9;have AKF:call AC (m+7) 103 [lv] h9=.ok w10 h10:=k10;rw[pi];unfold pj;simp only[sT,By,BY,reduceIte,Ay,Av,t0,Af,AH,AN,OF,yy,AM,AP,l1m,Ar,Aj,t11,ld5,q6,A7,BA,BC,lp7,cA0,k7',k8',k9',AK,AJ,c00,l39,AKF,AX,AKC,l3m,AKE,A8,t10,ixl,q12];exact⟨_,rfl,by simp[AG,t0,t1,t2,t3]⟩
 obtain⟨e2,r1,u0,u1,u2,u3,u15,u16⟩:=mid;have AHi:Fx A.D h h12:=by
  have e1:Fx A.D h h8:=.of x8';have e2:Fx A.D h8 h9:=f9.mono fun b hb=>.inr hb
  have e3:Fx A.D h9 h10:=.of x10;have e4:Fx A.D h10 h11:=f11.mono fun b hb=>.inl hb
  have e14:=((e1.trans e2).trans e3).trans e4;refine⟨yO e14.next f12.next,fun i hi hs=>?_,f12.wf,fun L q1 q2 q3=>f12.low L (e14.low L q1 q2 q3) (yO q2 e14.next) fun b hb=>by have:=x8'.next;have:=f9.next;omega⟩;rw[f12.get i (by have:=e14.next;omega) (fun h=>by have:=x8'.next;have:=f9.next;omega),e14.get i hi hs]
 exact⟨h12,c9,AGQ,w10,e2,p1.trans r1,u0,u1,u2,u3,u15,u16,AHi,hkx ▸ s12,by rw[ea];exact HQ _ _ arm (ha.le (by show 2+k<=_;omega))⟩
end
end
noncomputable section
open Go
set_option maxRecDepth 100000
theorem cU:LR.k=.slice 5:=by kernel_rfl
theorem pf{n:Nat}{h:Hp}(W:h.Wf){u:IN}{xs:List IN}(V:h.AEY u xs)(ha:Bb xs=true)(hl:xs.length<=1000000):
  ∃ h' v,call AC (n+1) 93 [u] h=.ok v h'/\h.Ext h'/\h'.Cl (fun b=>h.next<=b/\b<h'.next) 5 v xs:=by
 rcases V with ⟨rfl,rfl⟩|⟨b,off,c,el,L,h1,h2,h3,h4⟩
 ·have ne:∀ e:Env,J 0 e=.slice none 0 0->oEq LR.k false (J 0) (kV (.slice none 0 0)) (call AC n) e h=.ok (.bool true) h:=fun e he=>Ja (t:=0) cU he
  refine⟨h,AEG,?_,.refl W,.inl ⟨rfl,rfl⟩⟩;rw[Ib rfl];unfold d93;simp only[iN,IS,sT,By,BY,reduceIte,ne,lV0]
 ·have V:h.AEY u xs:=.inr ⟨b,off,c,el,L,h1,h2,h3,h4⟩
  have x1:=(Hp.Ext.refl W).AEA 0 [];have R:=Hp.Row.new W 0 [];have es:=fun (e:Env) (t:List IN)=>KH (F:=call AC n) (e:=e) (t:=t) W
  have n1:(h.AEA 0 []).next=h.next+1:=rfl;generalize h.AEA 0 []=g at x1 R es n1;have ne:∀ e:Env,J 0 e=u->oEq LR.k false (J 0) (kV (.slice none 0 0)) (call AC n) e h=.ok (.bool false) h:=fun e he=>JZ (t:=0) cU (he.trans h1)
  have V1:=V.ext W x1;have big:=W.big;rcases yV xs.length with hz|hz
  ·obtain rfl:xs=[]:=yv hz
   have ap:DO 1 1 5 (.slice (some ⟨h.next,0,none⟩) 0 0) u g=.ok (.slice (some ⟨h.next,0,none⟩) 0 0) (g.wr h.next 0 []):=Hh x1.wf big R (fun k=>V1.src rfl k) V1.lenV;have R2:=R.AEP x1.wf (off:=0) (vs:=[]) (IT _);refine⟨_,.slice (some ⟨h.next,0,none⟩) 0 0,?_,R.AEi x1 (IT _) (off:=0) (vs:=[]) (IT _),.inr ⟨h.next,0,rfl,R2,.inr ⟨rfl,rfl⟩,⟨IT _,?_⟩,big⟩⟩
   ·rw[Ib rfl]
    unfold d93;simp only[iN,IS,sT,By,BY,reduceIte,ne,es,BL,ap,lV0]
   ·have:=R.AEr (off:=0) (vs:=[]) (IT _)
    omega
  ·obtain⟨h2,a1,a2,a3,a4,a5⟩:=El (eb:=1) (en:=5) x1 R (es:=1) (fun k=>V1.src rfl k) V1.lenV (by omega) hz ha (by omega)
   refine⟨h2,_,?_,a2,.inr ⟨g.next,5+1,rfl,a3,.inl rfl,⟨by omega,by omega⟩,by omega⟩⟩;rw[Ib rfl];unfold d93;simp only[iN,IS,sT,By,BY,reduceIte,ne,es,BL,a1,lV0]
theorem Zj:eqS=BH (Ac 0 (A6 ebB)) eqE:=rfl
theorem Sr:d96=ZP:=rfl
section
variable {F:AEB}{e:Env}{h h':Hp}{S:Nat->Prop}{A:At}{bad m k p:Nat}{ks:List Kt}{fr:List Nat}{v lv fv:IN}{ov:Bool}
theorem Ng(W:h.Wf){u v:IN}{a b:List Nat}(U:h.AEY u (a.map bv))(V:h.VE v (b.map bv))(hl:a.length<=900000):∃ h',call AC (m+1) 96 [u,v] h=.ok (.bool (decide (a=b))) h'/\h.Ext h':=by
 have Ul:=U.bl h;have Vl:=V.bl h;by_cases hab:a.length=b.length
 ·have c1:iNe (a.length:Int) (b.length:Int)=false:=by rw[HU,hab];simp
  have pre:∃ e1,ZP (call AC m) (AS e0 0 [u,v]) h=eqS (call AC m) e1 h/\J 0 e1=u/\J 1 e1=v/\J 12 e1=AI AT (a.length:Int)/\J 13 e1=AI AT ((0:Nat):Int):=by
   unfold ZP;simp only[iN,IS,sT,By,BY,reduceIte,Ae,Ul,Vl,AK,AJ,c1];exact⟨_,rfl,by simp[AG]⟩
  obtain⟨e1,p1,s0,s1,s12,s13⟩:=pre;have run:(∃ e' h',A6 ebB (call AC m) e1 h=.exit 0 e' h'/\h.Ext h'/\a=b)\/(∃ e' h',A6 ebB (call AC m) e1 h=.ret e' h'/\h.Ext h'/\a≠b/\J 4 e'=.bool false):=by
   refine Be (I:=fun i e' h'=>h.Ext h'/\J 0 e'=u/\J 1 e'=v/\J 12 e'=AI AT (a.length:Int)/\J 13 e'=AI AT (i:Int)/\i<=a.length/\(a=b↔a.drop i=b.drop i))
    (Q:=fun x=>(∃ e' h',x=.exit 0 e' h'/\h.Ext h'/\a=b)\/(∃ e' h',x=.ret e' h'/\h.Ext h'/\a≠b/\J 4 e'=.bool false)) a.length (by omega) (fun i e' h' ⟨x',t0,t1,t12,t13,hi,hr⟩=>?_) ⟨.refl W,s0,s1,s12,s13,yC _,by simp⟩
   by_cases hlt:i<a.length
   ·have xm:=x'.marked
    obtain⟨p,g1,g2⟩:=I5 (U.ext W xm) hlt;obtain⟨q,g3,g4⟩:=I5 ((V.ext W xm).vals (by rw[sh];omega)) (i:=i) (by omega);rw[GN hlt,GN (l:=b) (by omega)]at hr;generalize a.getD i 0=c at g2 hr;generalize b.getD i 0=d at g4 hr;have c1:=Ep hlt;by_cases hcd:c=d
    ·left
     subst hcd;have c2:iNe (c:Int) (c:Int)=false:=by rw[HU];simp
     have a3:=CN (i:=i) (h:=h'.marked) (by omega);have hrun:∃ e2,ebB (call AC m) e' h'=.norm e2 h'.marked/\J 0 e2=u/\J 1 e2=v/\J 12 e2=AI AT (a.length:Int)/\J 13 e2=AI AT ((i+1:Nat):Int):=by
      unfold ebB;simp only[sT,By,BY,reduceIte,AK,AJ,t13,t12,c1,Ay,A8,t0,g1,AM,g2,t1,g3,g4,c2,BP,a3];exact⟨_,rfl,by simp[AG,t0,t1,t12]⟩
     obtain⟨e2,r1,r2,r3,r4,r5⟩:=hrun;refine⟨hlt,e2,h'.marked,r1,xm,r2,r3,r4,r5,hlt,hr.trans ?_⟩;simp
    ·right
     have c2:iNe (c:Int) (d:Int)=true:=by rw[HU];simp;omega
     have hrun:∃ e2,ebB (call AC m) e' h'=.ret e2 h'.marked/\J 4 e2=.bool false:=by
      unfold ebB;simp only[sT,By,BY,reduceIte,AK,AJ,t13,t12,c1,Ay,A8,t0,g1,AM,g2,t1,g3,g4,c2];exact⟨_,rfl,by simp[AG]⟩
     obtain⟨e2,r1,r2⟩:=hrun;rw[r1];refine⟨rfl,.inr ⟨e2,h'.marked,rfl,xm,fun h=>hcd ?_,r2⟩⟩;have:=hr.1 h;injection this
   ·right
    have c1:=DE (show a.length<=i by omega);have hrun:∃ e2,ebB (call AC m) e' h'=.exit 0 e2 h':=by
     unfold ebB;simp only[sT,By,BY,reduceIte,AK,AJ,t13,t12,c1];exact⟨_,rfl⟩
    obtain⟨e2,r1⟩:=hrun;rw[r1];refine⟨rfl,.inl ⟨e2,h',rfl,x',hr.2 ?_⟩⟩;rw[yw (by omega),yw (by omega)]
  rcases run with ⟨e2,h2,r1,x2,r2⟩|⟨e2,h2,r1,x2,r2,r3⟩
  ·refine⟨h2,?_,x2⟩
   rw[Si rfl,Sr,p1,Zj,decide_eq_true r2];simp only[BJ,Az,r1,A9,BD];unfold eqE;simp only[sT,By,BY,reduceIte,lV0]
  ·refine⟨h2,?_,x2⟩
   rw[Si rfl,Sr,p1,Zj,decide_eq_false r2];simp only[BJ,Az,r1,CJ,C7,lV0,r3]
 ·have c1:iNe (a.length:Int) (b.length:Int)=true:=by rw[HU];simp;omega
  refine⟨h,?_,.refl W⟩;rw[Si rfl,Sr,decide_eq_false (fun h=>hab (by rw[h]))];unfold ZP;simp only[iN,IS,sT,By,BY,reduceIte,Ae,Ul,Vl,AK,AJ,c1,lV0]
theorem Zk(W:h.Wf){u v:IN}{a b:List Nat}(U:h.AEY u (a.map bv))(V:h.AEY v (b.map bv))(hl:a.length<=900000):∃ h',call AC (m+1) 96 [u,v] h=.ok (.bool (decide (a=b))) h'/\h.Ext h':=Ng W U (.inl V) hl
theorem DX{e:Env}{h h':Hp}{g:O}{n:Nat}{v:IN}(hv:KY n (g e) h=.ok v h'):Ei [.cN g n] e h=.ok v h:=by
 have h1:FL e h (.cN g n)=.ok v h':=hv;show(match FL e h (.cN g n)with|.ok v _=>AEN v fun v=>JM h [v]|.no=>.no)=_;rw[h1];simp only[BK];rfl
theorem FP{e:Env}{h:Hp}{g g1:O}{n:Nat}{v:IN}(hv:KY n (g e) h=.ok v h):Ei [.cN g n,.t g1] e h=.ok (.tuple ⟨[v,g1 e]⟩) h:=by
 have h1:FL e h (.cN g n)=.ok v h:=hv;show(match FL e h (.cN g n)with|.ok v _=>AEN v fun v=>AEN (g1 e) (fun x=>JM h [v,x])|.no=>.no)=_;rw[h1];simp only[BK];rfl
theorem Hp.Cl.bs0{h:Hp}{S:Nat->Prop}{v:IN}{xs:List IN}(o:h.Cl S 5 v xs):h.BS S v xs:=by
 rcases o with h1|⟨b,el,h1,h2,h3,h4,h5⟩
 ·exact .inl h1
 ·exact .inr ⟨b,0,_,el,xs,h1,IT _,h2,by omega,by rw[yf,yz],h4,h3.elim (fun h=>.inr h) (fun h=>.inl h.1)⟩
theorem Vx(W:h.Wf){x:Kt}(U:h.AEY x.u (x.l.map bv))(hl:x.l.length<=1000):∃ h' v',call AC (m+2) 68 [ktV x] h=.ok (Bn x.a x.b x.c x.s v') h'/\h.Ext h'/\oneCell v'=true/\h'.BS (fun b=>h.next<=b) v' (x.l.map bv):=by
 have bx:=fun (F:AEB) (e:Env) (he:J 0 e=ktV x)=>Hc (F:=F) W he
 have x1:=(Hp.Ext.refl W).AEA 0 (AY x);have R1:=Hp.Row.new W 0 (AY x);have n1:(h.AEA 0 (AY x)).next=h.next+1:=rfl;generalize h.AEA 0 (AY x)=h1 at bx x1 R1 n1;have al:=fun (F:AEB) (e:Env)=>BQ (F:=F) (e:=e) x1.wf (n:=5) (t:=DH)
 have Ra:=Hp.Row.alloc x1.wf FN (show(A2 0 0 0 0 AEG).length=5 from rfl);have y2:h1.Ext (h1.push (.cells DH 5 0)):=(Hp.Ext.refl x1.wf).push _;have n2:(h1.push (.cells DH 5 0)).next=h1.next+1:=rfl;generalize h1.push (.cells DH 5 0)=h2 at al Ra y2 n2;have x2:=x1.trans y2;have R2:=R1.ext x1.wf y2;obtain⟨_,_,_,_,l4,_⟩:=Bw R2;obtain⟨h3,v',k3,y3,c3⟩:=pf (n:=m) x2.wf (U.ext W x2) (DW _) (by rw[sh];omega);have onv:cellsOf v'=[v']/\oneCell v'=true:=⟨c3.vs.one.1,c3.vs.one.2.1⟩;have R3:=R2.ext x2.wf y3;have Ra3:=Ra.ext y2.wf y3;have big:=W.big;obtain⟨h4,st4,R4,n4,f4,e4⟩:=F1 y3.wf R3 (off:=4) (show 4<6 by omega) big onv.1 onv.2;have x3:=x2.trans y3;have x4:=e4 h x3 (IT _);have R4:h4.Row h.next 0 (AY ⟨x.a,x.b,x.c,x.s,x.l,x.p,v'⟩):=R4;obtain⟨_,_,_,_,_,_,_,ld⟩:=Bw R4;have Ra4:=f4.row y3.wf Ra3 (by omega);obtain⟨st5,ld5,x5,R5,n5⟩:=LP W x4 (by omega) Ra4 rfl (a:=x.a) (b:=x.b) (c:=x.c) (s:=x.s) (u:=v') onv.2;have f5:=Fx.wr (S:=fun b=>b=h1.next) f4.wf Ra4 (vs:=A2 x.a x.b x.c x.s v') (off:=0) (IT _) rfl;generalize h4.wr h1.next 0 (A2 x.a x.b x.c x.s v')=h5 at st5 ld5 x5 R5 f5;have vs5:h5.BS (fun b=>h.next<=b) v' (x.l.map bv):=(c3.bs0.keep fun b el L hb _ r=>f5.row f4.wf (f4.row y3.wf r (by omega)) (by omega)).mono fun b hb=>by omega
 refine⟨h5,v',?_,x5,onv.2,vs5⟩;have k3:call AC (m+1) 93 [x.u] h2=.ok v' h3:=k3;have hrun:∃ e2,d68 (call AC (m+1)) (AS e0 0 [ktV x]) h=.ret e2 h5/\J 2 e2=pt h1.next:=by
  unfold d68;simp only[iN,IS,sT,By,BY,reduceIte,bx,al,AH,AN,OF,yy,AM,AP,l4,cA0,k3,AX,st4,Ar,Aj,ld,st5];exact⟨_,rfl,by simp[AG]⟩
 obtain⟨e2,r1,r2⟩:=hrun;rw[pH rfl,r1,BE,DX (h':=h5) (v:=Bn x.a x.b x.c x.s v') (by rw[r2,Aj];exact ld5)]
theorem ji{g:O}{b:Nat}(hg:g e=pt b):oEq Hs.k false g (kV (.pointer none)) F e h=.ok (.bool false) h:=FK WM hg
theorem gv(W:h.Wf)(R:h.Row A.bs 0 (slL A.bd A.tb lv fv bad ov))(K:h.KS S lv ks)(hk:∀ k∈ks,h.AEY k.u (k.l.map bv)/\k.l.length<=1000)(hl:ks.length<=1000)(a b c:Int):
  ∃ h' v,call AC (m+5) 63 [pt A.bs,AI AT a,AI AT b,AI AT c] h=.ok (.tuple ⟨[v,.bool (ks.find? (Bs a b c)).isSome]⟩) h'/\h.Ext h'/\(cellsOf v).length=5/\Bb (cellsOf v)=true/\∀ kx,ks.find? (Bs a b c)=some kx->∃ u,v=Bn kx.a kx.b kx.c kx.s u/\h'.AEY u (kx.l.map bv):=by
 have al:=fun (F:AEB) (e:Env)=>BQ (F:=F) (e:=e) W (n:=5) (t:=DH)
 have Ra:=Hp.Row.alloc W FN (show(A2 0 0 0 0 AEG).length=5 from rfl);have x1:h.Ext (h.push (.cells DH 5 0)):=(Hp.Ext.refl W).push _;have n1:(h.push (.cells DH 5 0)).next=h.next+1:=rfl;generalize h.push (.cells DH 5 0)=h1 at al Ra x1 n1;obtain⟨h2,k2,y2⟩:=F0 (m:=m+1) x1.wf (R.ext W x1) (K.ext W x1) (by omega) a b c;have x2:=x1.trans y2;have p1:∀ (F:AEB) (e:Env) (g:Hp),J 0 e=pt A.bs->oEq Hs.k false (J 0) (kV (.pointer none)) F e g=.ok (.bool false) g:=fun F e g he=>ji he
 have fin:∀ (e2:Env) (g:Hp) (v:IN) (t:Bool),d63 (call AC (m+4)) (AS e0 0 [pt A.bs,AI AT a,AI AT b,AI AT c]) h=.ret e2 g->J 8 e2=pt h.next->J 9 e2=.bool t->loadN 5 ⟨h.next,0,none⟩ g=.ok v g->call AC (m+5) 63 [pt A.bs,AI AT a,AI AT b,AI AT c] h=.ok (.tuple ⟨[v,.bool t]⟩) g:=fun e2 g v t r1 r2 r3 hv=>by
  rw[pD rfl,r1,BE,FP (v:=v) (by rw[r2,Aj];exact hv),r3]
 rcases Dn (Bs a b c) ks 0 with ⟨e1,e2⟩|⟨j,kx,e1,e2,e3⟩
 ·rw[e2]at k2
  have c1:iLt (-1) 0=true:=GT (by omega);obtain⟨st,ld,x3,_,_⟩:=LP W x2 (IT _) (Ra.ext x1.wf y2) rfl (a:=0) (b:=0) (c:=0) (s:=0) (u:=AEG) rfl;generalize h2.wr h.next 0 (A2 0 0 0 0 AEG)=h3 at st ld x3;have hrun:∃ e2,d63 (call AC (m+4)) (AS e0 0 [pt A.bs,AI AT a,AI AT b,AI AT c]) h=.ret e2 h3/\J 8 e2=pt h.next/\J 9 e2=.bool false:=by
   unfold d63;simp only[iN,IS,sT,By,BY,reduceIte,al,p1,cA0,k2,AK,AJ,c1,Dm,AX,st];exact⟨_,rfl,by simp[AG]⟩
  obtain⟨e2,r1,r2,r3⟩:=hrun;rw[e1];exact⟨h3,_,fin e2 h3 _ false r1 r2 r3 ld,x3,rfl,rfl,fun kx hk=>by cases hk⟩
 ·rw[e3,OF]at k2
  have c1:iLt (j:Int) 0=false:=E5 (by omega);obtain⟨_,_,_,l3,_⟩:=BF (R.ext W x2);obtain⟨bb,_,ix,ld6,_⟩:=(K.ext W x2).at e2;obtain⟨U,hul⟩:=hk kx (xd e2);obtain⟨h3,v',k3,y3,ov',vv'⟩:=Vx (m:=m+2) x2.wf (U.ext W x2) hul;have x3:=x2.trans y3;obtain⟨st,ld,x4,_,_⟩:=LP W x3 (IT _) ((Ra.ext x1.wf y2).ext x2.wf y3) rfl (a:=kx.a) (b:=kx.b) (c:=kx.c) (s:=kx.s) (u:=v') ov';have f4:=Fx.wr (S:=fun b=>b=h.next) x3.wf ((Ra.ext x1.wf y2).ext x2.wf y3) (vs:=A2 kx.a kx.b kx.c kx.s v') (off:=0) (IT _) rfl;generalize h3.wr h.next 0 (A2 kx.a kx.b kx.c kx.s v')=h4 at st ld x4 f4;have hrun:∃ e2,d63 (call AC (m+4)) (AS e0 0 [pt A.bs,AI AT a,AI AT b,AI AT c]) h=.ret e2 h4/\J 8 e2=pt h.next/\J 9 e2=.bool true:=by
   unfold d63;simp only[iN,IS,sT,By,BY,reduceIte,al,p1,cA0,k2,AK,AJ,c1,Av,Af,AH,AN,OF,AM,AP,l3,A8,ix,Ar,Aj,ld6,k3,AX,st];exact⟨_,rfl,by simp[AG]⟩
  obtain⟨e2,r1,r2,r3⟩:=hrun;rw[e1];refine⟨h4,_,fin e2 h4 _ true r1 r2 r3 ld,x4,rfl,?_,fun k hk=>⟨v',by rw[<- Option.some.inj hk],by rw[<- Option.some.inj hk];exact(vv'.keep fun b el L hb _ r=>f4.row x3.wf r (by have:=y2.next;omega)).vs.vals⟩⟩;show(bif oneCell v' then true else false)=true;rw[ov'];rfl
theorem jp(R:h.Row A.bs 0 (slL A.bd A.tb lv fv bad ov))(V:h.AEY fv (ints .i64 (fr.map yi))):call AC (m+1) 57 [pt A.bs] h=.ok (AI AT (fr.length:Int)) h:=by
 obtain⟨_,_,_,_,l4,_⟩:=BF R;have p1:∀ (F:AEB) (e:Env) (g:Hp),J 0 e=pt A.bs->oEq Hs.k false (J 0) (kV (.pointer none)) F e g=.ok (.bool false) g:=fun F e g he=>ji he
 have ln:=V.len;rw[show(ints .i64 (fr.map yi)).length=fr.length by unfold ints;rw[sh,sh]]at ln;rw[pA rfl];unfold d57;simp only[iN,IS,sT,By,BY,reduceIte,p1,Av,Af,AH,AN,OF,AM,AP,l4,Ae,ln,lV0]
end
end
noncomputable section
open Go
set_option maxRecDepth 100000
section
variable {F:AEB}{e:Env}{h h' h0:Hp}{S:Nat->Prop}{A:At}{T M:List Nat}{c0 bad m k p:Nat}{arm:Int}{ks:List Kt}{fr:List Nat}{v lv fv:IN}{ov:Bool}
def Ye(T M:List Nat)(k:Kt):Prop:=∃ ns,G4 T M k.p ns/\(at6 ns 1:Int)=k.a/\(at6 ns 2:Int)=k.b/\(at6 ns 3:Int)=k.c/\at6 ns 0=k.s/\dat M k.p (at6 ns 4)=k.l
theorem ZL:d64=XY:=rfl
theorem cF(W:h.Wf)(s:Sl h A T M c0 arm ks fr lv fv bad ov){j:Nat}{kx:Kt}(hj:ks[j]? =some kx){a b c:Int}(hf:Fa (Bs a b c) 0 ks=(j:Int))(AFP:kx.a=a/\kx.b=b/\kx.c=c)(hp3:3*kx.p+3<=A.n):
  ∃ h' r,call AC (m+6) 64 [pt A.bs,AI AT a,AI AT b,AI AT c] h=.ok (.bool r) h'/\h.Ext h'/\(r=true↔Ye T M kx):=by
 obtain⟨rfl,rfl,rfl⟩:=AFP;have hkm:=xd hj;obtain⟨o1,o2,o3,o4,o5,o6⟩:=s.ko kx hkm;have p1:∀ (F:AEB) (e:Env) (g:Hp),J 0 e=pt A.bs->oEq Hs.k false (J 0) (kV (.pointer none)) F e g=.ok (.bool false) g:=fun F e g he=>ji he
 obtain⟨h1,k1,x1⟩:=F0 (m:=m+2) W s.row s.ls.ks (by have:=s.le.1;omega) kx.a kx.b kx.c;rw[hf]at k1;have c1:iLt (j:Int) 0=false:=E5 (by omega);have s1:=s.ext W x1;obtain⟨_,_,_,l3,_⟩:=BF s1.row;obtain⟨bb,_,ix,_,lde⟩:=s1.ls.ks.at hj;have lp:=lde 5 (AI AT (kx.p:Int)) rfl;obtain⟨h2,x2,LK⟩:=Vb (m:=m) x1.wf s1.row s1.tab s.tok s1.dk hp3;have x12:=x1.trans x2;have al:=fun (F:AEB) (e:Env)=>BQ (F:=F) (e:=e) x12.wf (n:=6) (t:=CO)
 have Ra:=Hp.Row.alloc x12.wf FA (show(AY K0).length=6 from rfl);have y3:h2.Ext (h2.push (.cells CO 6 0)):=(Hp.Ext.refl x12.wf).push _;have n3:(h2.push (.cells CO 6 0)).next=h2.next+1:=rfl;generalize h2.push (.cells CO 6 0)=h3 at al Ra y3 n3;have c00:iEq 0 0=true:=CV rfl;rcases LK with ⟨ns,u,hH,hk,hu⟩|⟨hH,bd,hk,AGH⟩
 ·generalize hX:(⟨at6 ns 1,at6 ns 2,at6 ns 3,at6 ns 0,dat M kx.p (at6 ns 4),kx.p,u⟩:Kt)=X at hk
  have hXu:X.u=u:=by rw[<- hX]
  obtain⟨st,_,y4,R10,n4⟩:=Kh x12.wf y3 (IT _) Ra rfl (k:=X) (by rw[hXu];exact hu.vs.one.2.1);generalize h3.wr h2.next 0 (AY X)=h4 at st y4 R10 n4;have x4:=x12.trans y4;have x4m:=x4.marked;have s4:=s.ext W x4m;obtain⟨m0,m1,m2,m3,m4,_⟩:=Bw (R10.same (h':=h4.marked) rfl);obtain⟨_,_,_,l34,_⟩:=BF s4.row;obtain⟨bb4,_,ix4,_,AJA⟩:=s4.ls.ks.at hj;have ls4:=AJA 3 (.int .u8 (kx.s:Int)) rfl;have lu4:=AJA 4 kx.u rfl;have hns:∀ ns',G4 T M kx.p ns'->ns'=ns:=fun ns' h=>GX h.1 hH.1
  have hXf:X.a=at6 ns 1/\X.b=at6 ns 2/\X.c=at6 ns 3/\X.s=at6 ns 0:=by rw[<- hX];exact⟨rfl,rfl,rfl,rfl⟩
  obtain⟨f1,f2,f3,f4⟩:=hXf;rw[f1]at m0;rw[f2]at m1;rw[f3]at m2;rw[f4]at m3;rw[hXu]at m4;have pre:∃ e1,XY (call AC (m+5)) (AS e0 0 [pt A.bs,AI AT kx.a,AI AT kx.b,AI AT kx.c]) h=sdT (call AC (m+5)) e1 h4/\J 0 e1=pt A.bs/\J 1 e1=AI AT kx.a/\J 2 e1=AI AT kx.b/\J 3 e1=AI AT kx.c/\J 9 e1=AI AT (j:Int)/\J 10 e1=pt h2.next/\J 11 e1=.bool true/\J 13 e1=AI AT 0:=by
   unfold XY;simp only[iN,IS,sT,By,BY,reduceIte,p1,cA0,k1,AK,AJ,c1,Av,Af,AH,AN,OF,AM,AP,l3,A8,ix,lp,hk,A7,BA,BC,Cu,Eg,al,AX,st];exact⟨_,rfl,by simp[AG]⟩
  obtain⟨e1,q1,t0,t1,t2,t3,t9,t10,t11,t13⟩:=pre;have fin:∀ (e2:Env) (g:Hp) (t:Bool),sdT (call AC (m+5)) e1 h4=.ret e2 g->J 8 e2=.bool t->call AC (m+6) 64 [pt A.bs,AI AT kx.a,AI AT kx.b,AI AT kx.c] h=.ok (.bool t) g:=fun e2 g t r1 r2=>by
   rw[Y1 rfl,ZL,q1,r1];simp only[lV0,r2]
  by_cases g1:(at6 ns 1:Int)=kx.a
  ·have d1:iEq (at6 ns 1:Int) kx.a=true:=CV g1
   by_cases g2:(at6 ns 2:Int)=kx.b
   ·have d2:iEq (at6 ns 2:Int) kx.b=true:=CV g2
    by_cases g3:(at6 ns 3:Int)=kx.c
    ·have d3:iEq (at6 ns 3:Int) kx.c=true:=CV g3
     by_cases g4:at6 ns 0=kx.s
     ·have d4:iEq (at6 ns 0:Int) (kx.s:Int)=true:=CV (by omega)
      have hlen:(dat M kx.p (at6 ns 4)).length<=900000:=by
       unfold dat;rw[yE];have:=hH.2.1;omega
      obtain⟨h5,k5,x5⟩:=Zk (m:=m+4) x4m.quiet.wf ((hu.vs.vals.ext x12.wf y4).same (h':=h4.marked.quiet) rfl) ((s4.ko kx hkm).1.vs.vals.same (h':=h4.marked.quiet) rfl) hlen;have q5:∀ e:Env,J 82 e=u->J 91 e=kx.u->Ad .free (AU 96 [J 82,J 91]) (call AC (m+5)) e h4.marked=.ok (.bool (decide (dat M kx.p (at6 ns 4)=kx.l))) (h4.marked.back h5):=fun e e1 e2=>by
       refine BI ?_;rw[BN,AV,AV,A0,e1,e2];exact k5
      have hrun:∃ e2,sdT (call AC (m+5)) e1 h4=.ret e2 (h4.marked.back h5)/\J 8 e2=.bool (decide (dat M kx.p (at6 ns 4)=kx.l)):=by
       unfold sdT;simp only[sT,By,BY,reduceIte,gD,Ay,AK,AJ,t13,c00,t11,t10,AH,AN,OF,yy,AM,AP,m0,m1,m2,m3,m4,t1,t2,t3,d1,d2,d3,t0,Av,Af,l34,t9,A8,ix4,ls4,d4,lu4,q5];exact⟨_,rfl,by simp[AG]⟩
      obtain⟨e2,r1,r2⟩:=hrun;refine⟨_,_,fin e2 _ _ r1 r2,x4m.trans (.back x5),?_⟩;rw[decide_eq_true_eq];constructor
      ·exact fun h=>⟨ns,hH,g1,g2,g3,g4,h⟩
      ·rintro⟨ns',a1,_,_,_,_,a6⟩
       rw[hns ns' a1]at a6;exact a6
     ·have d4:iEq (at6 ns 0:Int) (kx.s:Int)=false:=B8 (by omega)
      have hrun:∃ e2,sdT (call AC (m+5)) e1 h4=.ret e2 h4.marked/\J 8 e2=.bool false:=by
       unfold sdT;simp only[sT,By,BY,reduceIte,gD,Ay,AK,AJ,t13,c00,t11,t10,AH,AN,OF,yy,AM,AP,m0,m1,m2,m3,m4,t1,t2,t3,d1,d2,d3,t0,Av,Af,l34,t9,A8,ix4,ls4,d4];exact⟨_,rfl,by simp[AG]⟩
      obtain⟨e2,r1,r2⟩:=hrun;refine⟨_,_,fin e2 _ _ r1 r2,x4m,⟨fun h=>(by cases h),?_⟩⟩;rintro⟨ns',a1,_,_,_,a5,_⟩;rw[hns ns' a1]at a5;exact absurd a5 g4
    ·have d3:iEq (at6 ns 3:Int) kx.c=false:=B8 g3
     have hrun:∃ e2,sdT (call AC (m+5)) e1 h4=.ret e2 h4.marked/\J 8 e2=.bool false:=by
      unfold sdT;simp only[sT,By,BY,reduceIte,gD,Ay,AK,AJ,t13,c00,t11,t10,AH,AN,OF,yy,AM,AP,m0,m1,m2,t1,t2,t3,d1,d2,d3];exact⟨_,rfl,by simp[AG]⟩
     obtain⟨e2,r1,r2⟩:=hrun;refine⟨_,_,fin e2 _ _ r1 r2,x4m,⟨fun h=>(by cases h),?_⟩⟩;rintro⟨ns',a1,_,_,a4,_,_⟩;rw[hns ns' a1]at a4;exact absurd a4 g3
   ·have d2:iEq (at6 ns 2:Int) kx.b=false:=B8 g2
    have hrun:∃ e2,sdT (call AC (m+5)) e1 h4=.ret e2 h4.marked/\J 8 e2=.bool false:=by
     unfold sdT;simp only[sT,By,BY,reduceIte,gD,Ay,AK,AJ,t13,c00,t11,t10,AH,AN,OF,yy,AM,AP,m0,m1,t1,t2,d1,d2];exact⟨_,rfl,by simp[AG]⟩
    obtain⟨e2,r1,r2⟩:=hrun;refine⟨_,_,fin e2 _ _ r1 r2,x4m,⟨fun h=>(by cases h),?_⟩⟩;rintro⟨ns',a1,_,a3,_⟩;rw[hns ns' a1]at a3;exact absurd a3 g2
  ·have d1:iEq (at6 ns 1:Int) kx.a=false:=B8 g1
   have hrun:∃ e2,sdT (call AC (m+5)) e1 h4=.ret e2 h4.marked/\J 8 e2=.bool false:=by
    unfold sdT;simp only[sT,By,BY,reduceIte,gD,Ay,AK,AJ,t13,c00,t11,t10,AH,AN,OF,yy,AM,AP,m0,t1,d1];exact⟨_,rfl,by simp[AG]⟩
   obtain⟨e2,r1,r2⟩:=hrun;refine⟨_,_,fin e2 _ _ r1 r2,x4m,⟨fun h=>(by cases h),?_⟩⟩;rintro⟨ns',a1,a2,_⟩;rw[hns ns' a1]at a2;exact absurd a2 g1
 ·obtain⟨st,_,y4,R10,n4⟩:=Kh x12.wf y3 (IT _) Ra rfl (k:=K0) rfl
  generalize h3.wr h2.next 0 (AY K0)=h4 at st y4 R10 n4;have x4m:=(x12.trans y4).marked;have hrun:∃ e2,XY (call AC (m+5)) (AS e0 0 [pt A.bs,AI AT kx.a,AI AT kx.b,AI AT kx.c]) h=.ret e2 h4.marked/\J 8 e2=.bool false:=by
   unfold XY sdT;simp only[iN,IS,sT,By,BY,reduceIte,gD,p1,cA0,k1,AK,AJ,c1,Av,Af,AH,AN,OF,AM,AP,l3,A8,ix,lp,hk,A7,BA,BC,Cu,Eg,al,AX,st,Ay,c00];exact⟨_,rfl,by simp[AG]⟩
  obtain⟨e2,r1,r2⟩:=hrun;refine⟨h4.marked,false,?_,x4m,⟨fun h=>(by cases h),fun⟨ns',a1,_⟩=>absurd ⟨ns',a1⟩ hH⟩⟩;rw[Y1 rfl,ZL,r1];simp only[lV0,r2]
theorem mG:aaS=BH (Ac 0 (A6 aaB)) aaE:=rfl
theorem qC:d40=gQ:=rfl
theorem kL:Ba IO.zero 1=A2 0 0 0 0 AEG:=by kernel_rfl
theorem cC(W:h.Wf){g:O}{a b c:Int}{s:Nat}{u:IN}(hg:g e=Bn a b c s u):As 1 (Ba IO.zero 1) [(0,5,g)] F e h=.ok (.slice (some ⟨h.next,0,none⟩) 1 1) (h.AEA 0 (A2 a b c s u)):=by
 rw[kL,CM,A1 (hk:=by rw[hg];rfl),hg,show cellsOf (Bn a b c s u)=A2 a b c s u from rfl,if_pos (show(A2 a b c s u).length=5 from rfl),if_pos (show 0+5<=(A2 0 0 0 0 AEG).length from IT _),Bx,C3 W];rfl
def KD(k:Kt):List IN:=A2 k.a k.b k.c k.s k.u
def flS(L:List Kt):List IN:=L.flatMap KD
theorem Oj:∀ L:List Kt,(flS L).length=L.length*5
 |[]=>rfl
 |k::l=>by
  show(KD k++flS l).length=_;rw[No,Oj l,xP];show 5+l.length*5=_;omega
theorem gm(a b:List Kt):flS (a++b)=flS a++flS b:=List.flatMap_append
def Hp.AL(h:Hp)(k:Nat)(v:IN)(ks:List Kt):Prop:=(v=AEG/\ks=[])\/∃ b L,v=.slice (some ⟨b,0,none⟩) ks.length ks.length/\h.Row b 56 (flS L)/\L.map Kt.core=ks.map Kt.core/\k<=b/\∀ x∈L,h.BS (fun b=>k<=b) x.u (x.l.map bv)
theorem UF(W:h.Wf)(Rs:h.Row A.bs 0 (slL A.bd A.tb lv fv bad ov))(K:h.KS S lv ks)(hk:∀ k∈ks,h.AEY k.u (k.l.map bv)/\k.l.length<=1000/\oneCell k.u=true)(hl:ks.length<=1000):
  ∃ h' v,call AC (m+4) 40 [pt A.bs] h=.ok v h'/\h.Ext h'/\h'.AL h.next v ks:=by
 have p1:∀ (F:AEB) (e:Env) (g:Hp),J 0 e=pt A.bs->oEq Hs.k false (J 0) (kV (.pointer none)) F e g=.ok (.bool false) g:=fun F e g he=>ji he
 obtain⟨_,_,_,l3,_⟩:=BF Rs;have ln:=K.len h;have pre:∃ e1,gQ (call AC (m+3)) (AS e0 0 [pt A.bs]) h=aaS (call AC (m+3)) e1 h/\J 3 e1=AEG/\J 11 e1=lv/\J 12 e1=AI AT (ks.length:Int)/\J 13 e1=AI AT ((0:Nat):Int):=by
  unfold gQ;simp only[iN,IS,sT,By,BY,reduceIte,p1,Av,Af,AH,AN,OF,AM,AP,l3,Ae,ln];exact⟨_,rfl,by simp[AG]⟩
 obtain⟨e1,q1,s3,s11,s12,s13⟩:=pre;have run:∃ e' h' v,A6 aaB (call AC (m+3)) e1 h=.exit 0 e' h'/\h.Ext h'/\J 3 e'=v/\h'.AL h.next v ks:=by
  refine Be (I:=fun i e' h'=>∃ v,h.Ext h'/\J 3 e'=v/\J 11 e'=lv/\J 12 e'=AI AT (ks.length:Int)/\J 13 e'=AI AT (i:Int)/\i<=ks.length/\h'.AL h.next v (ks.take i))
   (Q:=fun x=>∃ e' h' v,x=.exit 0 e' h'/\h.Ext h'/\J 3 e'=v/\h'.AL h.next v ks) ks.length (by omega) (fun i e' h' ⟨v,x',t3,t11,t12,t13,hi,hv⟩=>?_) ⟨_,.refl W,s3,s11,s12,s13,yC _,.inl ⟨rfl,rfl⟩⟩
  have W':=x'.wf;by_cases hlt:i<ks.length
  ·left
   have c1:=Ep hlt;obtain⟨x,hx⟩:∃ x,ks[i]? =some x:=⟨_,List.getElem?_eq_getElem hlt⟩;obtain⟨U,ul,ou⟩:=hk x (xd hx);obtain⟨bb,_,ix,ld,_⟩:=(K.ext W x').at hx;have al:=fun (F:AEB) (e:Env)=>BQ (F:=F) (e:=e) W' (n:=6) (t:=CO)
   have Ra:=Hp.Row.alloc W' FA (show(AY K0).length=6 from rfl);have y1:h'.Ext (h'.push (.cells CO 6 0)):=(Hp.Ext.refl W').push _;generalize h'.push (.cells CO 6 0)=h1 at al Ra y1;obtain⟨st,ld2,y2,R5,n2⟩:=Kh W' y1 (IT _) Ra rfl (k:=x) ou;generalize h1.wr h'.next 0 (AY x)=h2 at st ld2 y2 R5 n2;have x2:=x'.trans y2;obtain⟨h3,v',k3,y3,ov',vv'⟩:=Vx (m:=m+1) x2.wf (U.ext W x2) ul;have x3:=x2.trans y3;have sl:=fun (F:AEB) (e:Env) (he:J 19 e=Bn x.a x.b x.c x.s v')=>cC (F:=F) x3.wf he
   have x4:=x3.AEA 0 (A2 x.a x.b x.c x.s v');have y4:=(Hp.Ext.refl x3.wf).AEA 0 (A2 x.a x.b x.c x.s v');have Rw:=Hp.Row.new x3.wf 0 (A2 x.a x.b x.c x.s v');generalize h3.AEA 0 (A2 x.a x.b x.c x.s v')=h4 at sl x4 y4 Rw;have hs:∀ K:List IN->R,BO h4 5 (.slice (some ⟨h3.next,0,none⟩) 1 1) 1 K=K (A2 x.a x.b x.c x.s v'):=fun K=>Rw.AGE (es:=5) (off:=0) (n:=1) (by show 0+1 * 5<=5;omega)
   have ha:Bb (A2 x.a x.b x.c x.s v')=true:=by
    show(bif oneCell v' then true else false)=true;rw[ov'];rfl
   have big:=W.big;have htk:ks.take (i+1)=ks.take i++[x]:=by rw[List.take_add_one,hx];rfl
   have hil:(ks.take i).length=i:=by rw[yE];omega
   have vn:h4.BS (fun b=>h.next<=b) v' (x.l.map bv):=(vv'.ext x3.wf y4).mono fun b hb=>by have:=x2.next;omega
   have app:∃ h5 b5 L5,DO 5 56 55 v (.slice (some ⟨h3.next,0,none⟩) 1 1) h4=.ok (.slice (some ⟨b5,0,none⟩) (i+1) (i+1)) h5/\h.Ext h5/\h5.Row b5 56 (flS L5)/\L5.map Kt.core=(ks.take (i+1)).map Kt.core/\h.next<=b5/\∀ y∈L5,h5.BS (fun b=>h.next<=b) y.u (y.l.map bv):=by
    rcases hv with ⟨hv,h0⟩|⟨b,L,hv,r,hL,hb,hvs⟩
    ·have h0:i=0:=by rw[h0]at hil;exact hil.symm
     obtain⟨h5,a1,a2,a3,a4,_,a6⟩:=JY (eb:=56) (en:=55) x4 hs rfl rfl ha (by omega);exact⟨h5,_,[{x with u:=v'}],by rw[hv,h0];exact a1,a2,a3,by rw[htk,h0];rfl,x4.next,fun y hy=>by rw[xr.1 hy];exact vn.ext x4.wf a6⟩
    ·rw[hil]at hv
     have hLl:L.length=i:=by rw[<- sh (f:=Kt.core),hL,sh,hil]
     have r4:=((r.ext W' y2).ext x2.wf y3).ext x3.wf y4;obtain⟨h5,a1,a2,a3,_,_,a6⟩:=JT (eb:=56) (en:=55) (n:=i) x4 hs rfl rfl (by omega) ha r4 (by rw[Oj,hLl]) hb (by omega) (by omega);refine⟨h5,_,L++[{x with u:=v'}],by rw[hv];exact a1,a2,by rw[gm];exact a3,by rw[htk,yR,yR,hL];rfl,x4.next,fun y hy=>?_⟩;have kp:∀ y:Kt,h4.BS (fun b=>h.next<=b) y.u (y.l.map bv)->h5.BS (fun b=>h.next<=b) y.u (y.l.map bv):=fun y o=>by
      rcases o with h1|⟨b6,off,c,el,L6,q1,q2,q3,q4,q5,q6,q7⟩
      ·exact .inl h1
      ·exact .inr ⟨b6,off,c,el,L6,q1,q2,a6 b6 el L6 (D5 q3 r4 (by omega)) q3,q4,q5,q6,q7⟩
     rcases yH.1 hy with h1|h1
     ·exact kp y ((((hvs y h1).ext W' y2).ext x2.wf y3).ext x3.wf y4)
     ·rw[xr.1 h1];exact kp _ vn
   obtain⟨h5,b5,L5,k5,x5,R5',hL5,hb5,AKG⟩:=app;have a3:=CN (i:=i) (h:=h5) (by omega);have hrun:∃ e2,aaB (call AC (m+3)) e' h'=.norm e2 h5/\J 3 e2=.slice (some ⟨b5,0,none⟩) (i+1) (i+1)/\J 11 e2=lv/\J 12 e2=AI AT (ks.length:Int)/\J 13 e2=AI AT ((i+1:Nat):Int):=by
    unfold aaB;simp only[sT,By,BY,reduceIte,AK,AJ,t13,t12,c1,A8,t11,ix,Ar,Aj,ld,al,AX,st,ld2,cA0,k3,sl,BL,t3,k5,BP,a3];exact⟨_,rfl,by simp[AG,t11,t12]⟩
   obtain⟨e2,r1,r2,r3,r4,r5⟩:=hrun;exact⟨hlt,e2,h5,r1,_,x5,r2,r3,r4,r5,by omega,.inr ⟨b5,L5,by rw[htk,No,hil];rfl,R5',hL5,hb5,AKG⟩⟩
  ·right
   have hie:i=ks.length:=by omega
   have c1:=DE (show ks.length<=i by omega);have hrun:∃ e2,aaB (call AC (m+3)) e' h'=.exit 0 e2 h'/\J 3 e2=v:=by
    unfold aaB;simp only[sT,By,BY,reduceIte,AK,AJ,t13,t12,c1];exact⟨_,rfl,by simp[AG,t3]⟩
   obtain⟨e2,r1,r2⟩:=hrun;rw[r1];rw[hie,yz]at hv;exact⟨rfl,e2,h',v,rfl,x',r2,hv⟩
 obtain⟨e2,h2,v,r1,x2,r2,hv⟩:=run;have key:call AC (m+4) 40 [pt A.bs] h=.ok v h2:=by
  rw[oh rfl,qC,q1,mG];simp only[BJ,Az,r1,A9,BD];unfold aaE;simp only[sT,By,BY,reduceIte,r2,lV0]
 exact⟨h2,v,key,x2,hv⟩
end
end
noncomputable section
open Go
set_option maxRecDepth 100000
def HE(ks:List Kt)(n:Nat)(a b c:Int)(l:List Nat):Option Int:=
 if AET a b c 1 l.length=false\/100<l.length then some 2
 else match ks.find? (Bs a b c)with
  |some k=>if k.l=l then some 0 else some 60
  |none=>if CU a b c ks=true then some 61 else if n=0 then some 62 else none
section
variable {F:AEB}{e:Env}{h h':Hp}{A:At}{T M:List Nat}{c0 bad m k p:Nat}{arm:Int}{ks:List Kt}{fr:List Nat}{lv fv:IN}
theorem bY(W:h.Wf)(s:Sl h A T M c0 arm ks fr lv fv bad false){a b c:Int}{l:List Nat}{u:IN}(V:h.VE u (l.map bv))(hl:l.length<=1000){z:Int}(hz:HE ks fr.length a b c l=some z):
  ∃ h',call AC (m+8) 58 [pt A.bs,AI AT a,AI AT b,AI AT c,u] h=.ok (AI AT z) h'/\h.Ext h':=by
 have hkl:=s.le.1;have c00:iNe 0 0=false:=CE rfl;have k0:=NJ (m:=m+6) s.row;obtain⟨h1,vc,k1,x1,mk1⟩:=Nb (n:=m+6) W V (by omega);have oc:=mk1.one;have bl:=fun (F:AEB) (e:Env) (e1:J 1 e=AI AT a) (e2:J 2 e=AI AT b) (e3:J 3 e=AI AT c) (e4:J 28 e=vc)=>Ps (F:=F) (h:=h1) (g1:=J 1) (g2:=J 2) (g3:=J 3) (g5:=J 28) e1 e2 e3 e4 oc.1 oc.2.2
 have al:=fun (F:AEB) (e:Env)=>BQ (F:=F) (e:=e) x1.wf (n:=5) (t:=DH)
 have Ra:=Hp.Row.alloc x1.wf FN (show(A2 0 0 0 0 AEG).length=5 from rfl);have y2:h1.Ext (h1.push (.cells DH 5 0)):=(Hp.Ext.refl x1.wf).push _;generalize h1.push (.cells DH 5 0)=h2 at al Ra y2;obtain⟨st,_,y3,R12,n3⟩:=LP x1.wf y2 (IT _) Ra rfl (a:=a) (b:=b) (c:=c) (s:=1) (u:=vc) oc.2.1;generalize h2.wr h1.next 0 (A2 a b c 1 vc)=h3 at st y3 R12 n3;have x3:=x1.trans y3;obtain⟨_,_,_,_,_,AGX⟩:=Bq R12;have lnc:∀ g,AEv vc g=.ok (AI AT (l.length:Int)) g:=fun g=>mk1.vals.bl g
 have k4:=Jl (n:=m+6) x3.wf (a:=a) (b:=b) (c:=c) (s:=1) (u:=vc) lnc;have y4:=(Hp.Ext.refl x3.wf).AEA 0 (A2 a b c 1 vc);generalize h3.AEA 0 (A2 a b c 1 vc)=h4 at k4 y4;have x4:=x3.trans y4;have lnu:∀ g:Hp,AEv u g=.ok (AI AT (l.length:Int)) g:=fun g=>V.bl g
 obtain⟨_,_,l2,_⟩:=BF (s.row.ext W x4);have s4:=s.ext W x4;unfold HE at hz;by_cases hr:AET a b c 1 l.length=false
 ·rw[if_pos (.inl hr)]at hz
  cases hz;rw[hr]at k4;refine⟨h4,?_,x4⟩;rw[Ia rfl,Ig];unfold NL;simp only[iN,IS,sT,By,BY,reduceIte,gD,cA0,k0,AK,AJ,c00,k1,bl,al,AX,st,Ar,Aj,AGX,k4,BZ,BX,Bool.not_false,lV0]
 ·have hr':AET a b c 1 l.length=true:=by
   cases hq:AET a b c 1 l.length
   ·exact absurd hq hr
   ·rfl
  rw[hr']at k4;by_cases AGW:100<l.length
  ·rw[if_pos (.inr AGW)]at hz
   cases hz;have c1:iGt (l.length:Int) 100=true:=HB (by omega);refine⟨h4,?_,x4⟩;rw[Ia rfl,Ig];unfold NL;simp only[iN,IS,sT,By,BY,reduceIte,gD,cA0,k0,AK,AJ,c00,k1,bl,al,AX,st,Ar,Aj,AGX,k4,BZ,BX,yT,Ae,lnu,Av,Af,AH,AN,OF,AM,AP,l2,c1,lV0]
  ·rw[if_neg (by
    rintro (h|h)
    ·exact hr h
    ·exact AGW h)]at hz
   have c1:iGt (l.length:Int) 100=false:=F5 (by omega);obtain⟨h5,k5,x5⟩:=F0 (m:=m+4) x4.wf s4.row s4.ls.ks (by omega) a b c;have x45:=x4.trans x5;have s5:=s.ext W x45;rcases Dn (Bs a b c) ks 0 with ⟨e1,e2⟩|⟨j,kx,e1,e2,e3⟩
   ·rw[e2]at k5
    rw[e1]at hz;simp only at hz;have c2:iGe (-1) 0=false:=Ea (by omega);obtain⟨h6,k6,x6⟩:=Gb (m:=m+3) x45.wf s5.row s5.ls.ks (by omega) a b c;have x46:=x45.trans x6;have s6:=s.ext W x46;cases hst:CU a b c ks with
    |true=>
     rw[hst]at k6 hz;cases hz;refine⟨h6,?_,x46⟩;rw[Ia rfl,Ig];unfold NL;simp only[iN,IS,sT,By,BY,reduceIte,gD,cA0,k0,AK,AJ,c00,k1,bl,al,AX,st,Ar,Aj,AGX,k4,BZ,BX,yT,Ae,lnu,Av,Af,AH,AN,OF,AM,AP,l2,c1,k5,c2,k6,BJ,Az,CJ,C7,lV0]
    |false=>
     rw[hst]at k6 hz;rw[if_neg (by decide)]at hz;by_cases hf:fr.length=0
     ·rw[if_pos hf]at hz
      cases hz;obtain⟨_,_,_,_,l4,_⟩:=BF s6.row;have lnf:=s6.fs.vals.len;have hil:(ints .i64 (fr.map yi)).length=fr.length:=by unfold ints;rw[sh,sh]
      rw[hil,hf]at lnf;have c3:iEq ((0:Nat):Int) 0=true:=CV rfl;refine⟨h6,?_,x46⟩;rw[Ia rfl,Ig];unfold NL;simp only[iN,IS,sT,By,BY,reduceIte,gD,cA0,k0,AK,AJ,c00,k1,bl,al,AX,st,Ar,Aj,AGX,k4,BZ,BX,yT,Ae,lnu,Av,Af,AH,AN,OF,AM,AP,l2,c1,k5,c2,k6,l4,lnf,c3,BJ,Az,CJ,C7,lV0]
     ·rw[if_neg hf]at hz;cases hz
   ·rw[e3,OF]at k5
    rw[e1]at hz;simp only at hz;have c2:iGe (j:Int) 0=true:=F4 (by omega);obtain⟨_,_,_,l3,_⟩:=BF s5.row;obtain⟨bb,_,ix,_,lde⟩:=s5.ls.ks.at e2;have lu:=lde 4 kx.u rfl;have hkm:=xd e2;obtain⟨h6,k6,x6⟩:=Ng (m:=m+6) x45.wf ((s5.ko kx hkm).1.vs.vals) (V.ext W x45) (by have:=(s5.ko kx hkm).2.2.1;omega);have k6:call AC (m+7) 96 [kx.u,u] h5=.ok (.bool (decide (kx.l=l))) h6:=k6;refine⟨h6,?_,x45.trans x6⟩;by_cases hkl:kx.l=l
    ·rw[if_pos hkl]at hz
     cases hz;rw[decide_eq_true hkl]at k6;rw[Ia rfl,Ig];unfold NL;simp only[iN,IS,sT,By,BY,reduceIte,gD,cA0,k0,AK,AJ,c00,k1,bl,al,AX,st,Ar,Aj,AGX,k4,BZ,BX,yT,Ae,lnu,Av,Af,AH,AN,OF,AM,AP,l2,c1,k5,c2,l3,A8,ix,lu,yy,k6,lV0]
    ·rw[if_neg hkl]at hz
     cases hz;rw[decide_eq_false hkl]at k6;rw[Ia rfl,Ig];unfold NL;simp only[iN,IS,sT,By,BY,reduceIte,gD,cA0,k0,AK,AJ,c00,k1,bl,al,AX,st,Ar,Aj,AGX,k4,BZ,BX,yT,Ae,lnu,Av,Af,AH,AN,OF,AM,AP,l2,c1,k5,c2,l3,A8,ix,lu,yy,k6,lV0]
theorem bX(W:h.Wf)(s:Sl h A T M c0 arm ks fr lv fv bad false){a b c:Int}{l:List Nat}{u:IN}(V:h.VE u (l.map bv))(hb:∀ x∈l,x<256)(hl:l.length<=1000)(hkl:ks.length<=10)(ha:CA arm (k+10)):
  (∃ z h',HE ks fr.length a b c l=some z/\call AC (m+8) 58 [pt A.bs,AI AT a,AI AT b,AI AT c,u] h=.ok (AI AT z) h'/\h.Ext h')\/
  (HE ks fr.length a b c l=none/\∃ p fr2 h' c1 AEg lv' fv' k',fr=p::fr2/\call AC (m+8) 58 [pt A.bs,AI AT a,AI AT b,AI AT c,u] h=.ok (AI AT 0) h'/\Fx A.D h h'/\
   Sl h' A T (Dw T M p l (AEc T a b c 1 l)) c1 AEg (EG (ks++[k'])) fr2 lv' fv' bad false/\k'.core=⟨a,b,c,1,l,p⟩/\CA AEg k/\∀ b,AEe k'.u b->h.next<=b):=by
 cases hz:HE ks fr.length a b c l with
 |some z=>
  obtain⟨h',k1,x1⟩:=bY (m:=m) W s V hl hz;exact .inl ⟨z,h',rfl,k1,x1⟩
 |none=>
  right;unfold HE at hz;split at hz
  ·cases hz
  rename_i hn;have hr:AET a b c 1 l.length=true:=by
   cases hq:AET a b c 1 l.length
   ·exact absurd (.inl hq) hn
   ·rfl
  have AGW:l.length<=100:=Nat.le_of_not_lt fun h=>hn (.inr h)
  split at hz
  ·split at hz<;>cases hz
  rename_i hfd;split at hz
  ·cases hz
  rename_i hst;split at hz
  ·cases hz
  rename_i hf0;cases fr with
  |nil=>exact absurd rfl hf0
  |cons p fr2=>
   have AHZ:ks.any (Bs a b c)=false:=by
    rw[List.any_eq_false];intro x hx;exact List.find?_eq_none.1 hfd x hx
   have AGY:CU a b c ks=false:=by
    cases hq:CU a b c ks
    ·rfl
    ·exact absurd hq hst
   obtain⟨h',c1,AEg,lv',fv',k',q1,q2,q3,q4,q5,q6⟩:=bZ (m:=m) W s V hb AGW hr AHZ AGY hkl ha;exact⟨rfl,p,fr2,h',c1,AEg,lv',fv',k',rfl,q1,q2,q3,q4,q5,q6⟩
end
end
noncomputable section
open Go
set_option maxRecDepth 100000
theorem eK{n:Nat}{args:List IN}{h:Hp}(hl:xU (BB args) 160=true):call AC (xM n) 107 args h=A3 [] (fQ (call AC n) (AS e0 0 args) h):=by
 have hb:AC.get 107=some Wj:=by kernel_rfl
 rw[Ab hb];have hd:Wj=⟨[],fQ⟩:=by kernel_rfl
 rw[hd,AW hl]
theorem ed{n:Nat}{args:List IN}{h:Hp}(hl:xU (BB args) 160=true):call AC (xM n) 132 args h=A3 [] (gB (call AC n) (AS e0 0 args) h):=by
 have hb:AC.get 132=some XE:=by kernel_rfl
 rw[Ab hb];have hd:XE=⟨[],gB⟩:=by kernel_rfl
 rw[hd,AW hl]
theorem eu{n:Nat}{args:List IN}{h:Hp}(hl:xU (BB args) 160=true):call AC (xM n) 149 args h=A3 [] (gL (call AC n) (AS e0 0 args) h):=by
 have hb:AC.get 149=some XN:=by kernel_rfl
 rw[Ab hb];have hd:XN=⟨[],gL⟩:=by kernel_rfl
 rw[hd,AW hl]
theorem ez{n:Nat}{args:List IN}{h:Hp}(hl:xU (BB args) 160=true):call AC (xM n) 155 args h=A3 [.t (J 4)] (gN (call AC n) (AS e0 0 args) h):=by
 have hb:AC.get 155=some XO:=by kernel_rfl
 rw[Ab hb];have hd:XO=⟨[.t (J 4)],gN⟩:=by kernel_rfl
 rw[hd,AW hl]
end
noncomputable section
open Go
set_option maxRecDepth 100000
def Ov(x:Nat):List Nat->List Nat
 |[]=>[x]
 |y::r=>if x<y then y::Ov x r else x::y::r
def NO(A:List Nat)(x:Nat):List Nat:=(Ov x A.reverse).reverse
def cI:List Nat->List Nat->List Nat
 |A,[]=>A
 |A,x::B=>cI (NO A x) B
def Ed(l:List Nat):List Nat:=cI (l.take 1) (l.drop 1)
theorem KT(x y:Nat)(r:List Nat):Ov x (y::r)=if x<y then y::Ov x r else x::y::r:=rfl
theorem N0(x:Nat):∀ l:List Nat,(Ov x l).Perm (x::l)
 |[]=>.refl _
 |y::r=>by
  rw[KT];split
  ·exact((N0 x r).cons y).trans (.swap x y r)
  ·exact .refl _
theorem Nw(A:List Nat)(x:Nat):(NO A x).Perm (x::A):=by
 unfold NO;exact(AAq _).trans ((N0 x _).trans ((AAq A).cons x))
theorem OL:∀ (B A:List Nat),(cI A B).Perm (A++B)
 |[],A=>by
  rw[xZ];exact .refl _
 |x::B,A=>by
  show(cI (NO A x) B).Perm _;exact(OL B _).trans (((Nw A x).append_right B).trans List.perm_middle.symm)
theorem Gy(l:List Nat):(Ed l).Perm l:=by
 unfold Ed;have:=OL (l.drop 1) (l.take 1)
 rwa [zQ]at this
theorem Nz{x:Nat}:∀ {R Q:List Nat},(∀ y∈R,x<y)->Ov x (R++Q)=R++Ov x Q
 |[],Q,_=>rfl
 |y::R,Q,h=>by
  rw[List.cons_append,KT,if_pos (h y xT),Nz fun z hz=>h z (xS _ hz)];rfl
theorem VR{x:Nat}{P Q:List Nat}(hQ:∀ y∈Q,x<y)(hP:P=[]\/∃ P' y,P=P'++[y]/\¬ x<y):NO (P++Q) x=P++x::Q:=by
 unfold NO;rw[zo,Nz fun y hy=>hQ y (List.mem_reverse.1 hy)];have e:Ov x P.reverse=x::P.reverse:=by
  rcases hP with rfl|⟨P',y,rfl,hy⟩
  ·rfl
  ·rw[zo]
   show Ov x (y::P'.reverse)=_;rw[KT,if_neg hy];rfl
 rw[e,zo,List.reverse_cons,AAS,AAS,xp];rfl
def iv(l:List Nat):List IN:=ints .i64 (l.map yi)
theorem EP(l:List Nat):(iv l).length=l.length:=by unfold iv ints;rw[sh,sh]
theorem uz{l:List Nat}{j x:Nat}(h:l[j]? =some x):(iv l)[j]? =some (AI AT (x:Int)):=by
 unfold iv ints;rw[yk,yk,h];rfl
theorem jb{L:List IN}{j:Nat}{v:IN}(hj:j<L.length):over L j [v]=L.set j v:=by
 unfold over;rw[List.set_eq_take_append_cons_drop,if_pos hj,xp];rfl
theorem rE{l:List Nat}{j x:Nat}:(iv l).set j (AI AT (x:Int))=iv (l.set j x):=by
 unfold iv ints;rw[ABp,ABp];rfl
section
variable {F:AEB}{e:Env}{h h':Hp}{S:Nat->Prop}{bl el n c m:Nat}{l:List Nat}{Z:List IN}
theorem LZ(R:h.Row bl el (iv l++Z)){j x:Nat}(hj:l[j]? =some x):AEF ⟨bl,j,none⟩ h=.ok (AI AT (x:Int)) h:=by
 have hl:=(xy.1 hj).1;rw[R.AEF (off:=j) (by rw[No,EP];omega),List.getD_eq_getElem?_getD,List.getElem?_append_left (by rw[EP];exact hl),uz hj];rfl
theorem Oz{j:Nat}(hj:j<n):AE6 1 (.slice (some ⟨bl,0,none⟩) n c) (AI AT (j:Int)) h=.ok (.pointer (some ⟨bl,j,none⟩)) h:=by
 have:=DT (h:=h) (n:=n) (c:=c) (es:=1) (b:=bl) (off:=0) (i:=j) (k:=.i64) hj
 rwa [OF,Nat.mul_one]at this
theorem Z1(W:h.Wf)(R:h.Row bl el (iv l++Z))(AEM:256<=bl){j:Nat}(hj:j<l.length)(x:Nat):
  ∃ h',(∀ (F:AEB) (e:Env) (g g':O),g e=.pointer (some ⟨bl,j,none⟩)->g' e=AI AT (x:Int)->Ad .free (Ai 1 g g') F e h=.ok AEE h')/\Fx (fun b=>b=bl) h h'/\h'.Row bl el (iv (l.set j x)++Z)/\h'.next=h.next/\h'.mark=h.mark:=by
 have Rq:h.quiet.Row bl el (iv l++Z):=R.same rfl;have AIH:j+[yX .i64 (x:Int)].length<=(iv l).length:=by rw[EP];exact hj
 have hoo:j+[yX .i64 (x:Int)].length<=(iv l++Z).length:=by rw[No];omega
 have st:=Rq.AEK (n:=1) (off:=j) (v:=AI AT (x:Int)) W.quiet AEM rfl (by rw[Co];exact hoo) rfl;rw[Co]at st;have wr:=Rq.AEP W.quiet hoo;rw[OC AIH,jb (by rw[EP];exact hj),rE]at wr;have fx:=Fx.wr (S:=fun b=>b=bl) W.quiet Rq hoo rfl;have wn:=Rq.AEr hoo;generalize h.quiet.wr bl j [yX .i64 (x:Int)]=q at st wr fx wn;exact⟨h.back q,fun F e g g' e1 e2=>BI (by rw[AX,e1,e2];exact st),(fx.from (h:=h) rfl rfl).same rfl rfl,wr.same rfl,wn,rfl⟩
theorem iI{x y:Nat}:call AC (m+2) 155 [AI AT (x:Int),AI AT (y:Int)] h=.ok (.bool (decide (x<y))) h:=by
 have n1:∀ z:Int,call AC (m+1) 146 [AI AT z] h=.ok (.bool false) h:=fun z=>by
  have c1:iNe z z=false:=CE rfl;rw[UT rfl];unfold ZJ;simp only[iN,IS,sT,By,BY,reduceIte,AK,AJ,c1,lV0]
 have c2:iLt (x:Int) (y:Int)=decide (x<y):=by
  rw[DB];by_cases hxy:x<y
  ·rw[decide_eq_true hxy,decide_eq_true (by omega)]
  ·rw[decide_eq_false hxy,decide_eq_false (by omega)]
 rw[ez rfl];unfold gN;simp only[iN,IS,sT,By,BY,reduceIte,gD,cA0,n1,AK,AJ,c2,lV0]
theorem TJ:nnB=aL:=rfl
theorem aM:noB=iY:=rfl
theorem gM:gL=ZK:=rfl
theorem Tj{i:Nat}{g:Hp}(hi:i<=1000000):GG yQ .i64 (AI AT ((i+1:Nat):Int)) (AI AT 1) g=.ok (AI AT (i:Int)) g:=by
 have:yQ ((i+1:Nat):Int) 1=(i:Int):=by
  show((i+1:Nat):Int) - 1=_;omega
 rw[Ck,this,Bj (by omega)]
theorem cL(W:h.Wf){P R:List Nat}{x y:Nat}(hl0:l=P++y::x::R)(Rw:h.Row bl el (iv l++Z))(AEM:256<=bl)(hn:n=l.length)(hl:l.length<=100000)
  (s0:J 0 e=.slice (some ⟨bl,0,none⟩) n c)(s7:J 7 e=AI AT ((P.length+1:Nat):Int)):
  ∃ e' h',nwB F e h=.norm e' h'/\Fx (fun b=>b=bl) h h'/\h'.Row bl el (iv (P++x::y::R)++Z)/\∀ j,j=0\/j=1\/j=2\/j=6\/j=7->J j e'=J j e:=by
 have lk:l.length=P.length+1+1+R.length:=by rw[hl0,No,xP,xP];omega
 have Rm:h.marked.Row bl el (iv l++Z):=Rw.same rfl;have ld:=LZ Rm (j:=P.length+1) (x:=x) (by rw[hl0];exact Jb);have ldy:=LZ Rm (j:=P.length) (x:=y) (by rw[hl0];exact F8);have ix:=fun g:Hp=>Oz (h:=g) (bl:=bl) (n:=n) (c:=c) (j:=P.length+1) (by omega)
 have iy:=fun g:Hp=>Oz (h:=g) (bl:=bl) (n:=n) (c:=c) (j:=P.length) (by omega)
 have a1:=fun g:Hp=>Tj (g:=g) (i:=P.length) (by omega)
 obtain⟨h1,q1,f1,R1,n1,mk1⟩:=Z1 (j:=P.length+1) W.marked Rm AEM (by omega) y;have e1:l.set (P.length+1) y=P++y::y::R:=by
  rw[hl0,show P++y::x::R=(P++[y])++x::R by simp,show P.length+1=(P++[y]).length by simp,Jq];simp
 rw[e1]at R1;obtain⟨h2,q2,f2,R2,n2,mk2⟩:=Z1 (j:=P.length) f1.wf R1 AEM (by rw[No];simp) x;rw[Jq]at R2;have fm:Fx (fun b=>b=bl) h h1:=f1.from (h:=h) rfl rfl;have q1':∀ (F:AEB) (e:Env),J 47 e=.pointer (some ⟨bl,P.length+1,none⟩)->J 42 e=AI AT (y:Int)->Ad .free (Ai 1 (J 47) (J 42)) F e h.marked=.ok AEE h1:=fun F e a b=>q1 F e _ _ a b
 have q2':∀ (F:AEB) (e:Env),J 48 e=.pointer (some ⟨bl,P.length,none⟩)->J 46 e=AI AT (x:Int)->Ad .free (Ai 1 (J 48) (J 46)) F e h1=.ok AEE h2:=fun F e a b=>q2 F e _ _ a b
 have hrun:∃ e',nwB F e h=.norm e' h2/\∀ j,j=0\/j=1\/j=2\/j=6\/j=7->J j e'=J j e:=by
  unfold nwB;simp only[sT,By,BY,reduceIte,Ay,B5,s7,a1,A8,s0,iy,AM,AP,ldy,ix,ld,q1',q2'];refine⟨_,rfl,fun j hj=>?_⟩;rcases hj with rfl|rfl|rfl|rfl|rfl<;>simp only[AG,By,BY,reduceIte]
 obtain⟨e',r1,r2⟩:=hrun;exact⟨e',h2,r1,fm.trans f2,R2,r2⟩
theorem Xh(W:h.Wf){A B:List Nat}{x:Nat}(Rw:h.Row bl el (iv (A++x::B)++Z))(AEM:256<=bl)(hn:n=(A++x::B).length)(hl:n<=1000)
  (s0:J 0 e=.slice (some ⟨bl,0,none⟩) n c)(s1:J 1 e=AI AT 0)(s7:J 7 e=AI AT (A.length:Int)):
  ∃ e' h',A6 nnB (call AC (m+3)) e h=.exit 2 e' h'/\Fx (fun b=>b=bl) h h'/\h'.Row bl el (iv (NO A x++B)++Z)/\∀ j,j=0\/j=1\/j=2\/j=6->J j e'=J j e:=by
 have hln:(A++x::B).length=A.length+1+B.length:=by rw[No,xP];omega
 refine Be (I:=fun i e' g=>∃ P Q,A=P++Q/\P.length+i=A.length/\Fx (fun b=>b=bl) h g/\g.Row bl el (iv (P++x::(Q++B))++Z)/\(∀ y∈Q,x<y)/\J 7 e'=AI AT (P.length:Int)/\∀ j,j=0\/j=1\/j=2\/j=6->J j e'=J j e)
  (Q:=fun r=>∃ e' h',r=.exit 2 e' h'/\Fx (fun b=>b=bl) h h'/\h'.Row bl el (iv (NO A x++B)++Z)/\∀ j,j=0\/j=1\/j=2\/j=6->J j e'=J j e) (A.length+1) (by omega) (fun i e' g ⟨P,Q,hA,hP,fx,R,hQ,t7,ts⟩=>?_) ⟨A,[],by rw[xZ],rfl,.refl W,Rw,fun y hy=>(by cases hy),s7,fun _ _=>rfl⟩
 have W':=fx.wf;have t0:=(ts 0 (by omega)).trans s0;have t1:=(ts 1 (by omega)).trans s1;rcases WF P with rfl|⟨P',y,rfl⟩
 ·right
  have c1:iGt ((([]:List Nat).length:Nat):Int) 0=false:=F5 (by decide);have hrun:∃ e2,nnB (call AC (m+3)) e' g=.exit 2 e2 g.marked/\∀ j,j=0\/j=1\/j=2\/j=6->J j e2=J j e':=by
   rw[TJ];unfold aL;simp only[sT,By,BY,reduceIte,gD,Ay,AK,AJ,t7,t1,c1];refine⟨_,rfl,fun j hj=>?_⟩;rcases hj with rfl|rfl|rfl|rfl<;>simp only[AG,By,BY,reduceIte]
  obtain⟨e2,r1,r2⟩:=hrun;rw[r1];refine⟨rfl,e2,_,rfl,fx.same rfl rfl,?_,fun j hj=>(r2 j hj).trans (ts j hj)⟩;have:=VR (x:=x) (P:=[]) (Q:=Q) hQ (.inl rfl);rw[hA,this];have e5:([]++x::Q)++B=[]++x::(Q++B):=rfl;rw[e5];exact R.same rfl
 ·have lP:(P'++[y]).length=P'.length+1:=by simp
  rw[lP]at hP t7;have lA:A.length=P'.length+1+Q.length:=by rw[hA,No,lP]
  have eR:(P'++[y])++x::(Q++B)=P'++y::x::(Q++B):=by simp
  rw[eR]at R;have lL:(P'++y::x::(Q++B)).length=n:=by
   rw[hn,hln,lA];simp only[No,xP];omega
  have Rm:g.marked.Row bl el (iv (P'++y::x::(Q++B))++Z):=R.same rfl;have ld:=LZ Rm (j:=P'.length+1) (x:=x) Jb;have ldy:=LZ Rm (j:=P'.length) (x:=y) F8;have ix:=fun g:Hp=>Oz (h:=g) (bl:=bl) (n:=n) (c:=c) (j:=P'.length+1) (by omega)
  have iy:=fun g:Hp=>Oz (h:=g) (bl:=bl) (n:=n) (c:=c) (j:=P'.length) (by omega)
  have c1:iGt ((P'.length+1:Nat):Int) 0=true:=HB (by omega);have a1:=fun g:Hp=>Tj (g:=g) (i:=P'.length) (by omega)
  have k2:=iI (m:=m+1) (h:=g.marked.quiet) (x:=x) (y:=y);have q2:∀ e:Env,J 23 e=AI AT (x:Int)->J 28 e=AI AT (y:Int)->Ad .free (AU 155 [J 23,J 28]) (call AC (m+3)) e g.marked=.ok (.bool (decide (x<y))) (g.marked.back g.marked.quiet):=fun e e1 e2=>by
   refine BI ?_;rw[BN,AV,AV,A0,e1,e2];exact k2
  have y2:g.Ext (g.marked.back g.marked.quiet):=(Hp.Ext.refl W').marked.trans (.back (.refl W'.marked.quiet));generalize g.marked.back g.marked.quiet=h3 at q2 y2;have R3:=R.ext W' y2;by_cases hc:x<y
  ·left
   rw[decide_eq_true hc]at q2;have sw:∀ e2:Env,J 0 e2=.slice (some ⟨bl,0,none⟩) n c->J 7 e2=AI AT ((P'.length+1:Nat):Int)->∃ e3 h4,nwB (call AC (m+3)) e2 h3=.norm e3 h4/\Fx (fun b=>b=bl) h3 h4/\h4.Row bl el (iv (P'++x::y::(Q++B))++Z)/\∀ j,j=0\/j=1\/j=2\/j=6\/j=7->J j e3=J j e2:=fun e2 a b=>cL y2.wf rfl R3 AEM lL.symm (by omega) a b
   have hrun:∃ e3 h4,nnB (call AC (m+3)) e' g=.norm e3 h4/\Fx (fun b=>b=bl) h3 h4/\h4.Row bl el (iv (P'++x::y::(Q++B))++Z)/\J 7 e3=AI AT (P'.length:Int)/\∀ j,j=0\/j=1\/j=2\/j=6->J j e3=J j e':=by
    rw[TJ];unfold aL;simp only[sT,By,BY,reduceIte,gD,Ay,AK,AJ,t7,t1,c1,t0,A8,ix,AM,AP,ld,B5,a1,iy,ldy,q2,BJ,Az];obtain⟨e3,h4,r1,f4,R4,r2⟩:=sw (Env.set 30 (.bool true) (Env.set 29 (.bool true) (Env.set 28 (AI AT (y:Int)) (Env.set 27 (.pointer (some ⟨bl,P'.length,none⟩)) (Env.set 26 (AI AT (P'.length:Int)) (Env.set 25 (AI AT ((P'.length+1:Nat):Int)) (Env.set 24 (.slice (some ⟨bl,0,none⟩) n c) (Env.set 23 (AI AT (x:Int)) (Env.set 22 (.pointer (some ⟨bl,P'.length+1,none⟩)) (Env.set 21 (AI AT ((P'.length+1:Nat):Int)) (Env.set 20 (.slice (some ⟨bl,0,none⟩) n c) (Env.set 18 (.bool true) e')))))))))))) (by simp[AG,t0]) (by simp[AG,t7]);have u7:J 7 e3=AI AT ((P'.length+1:Nat):Int):=(r2 7 (by omega)).trans (by simp[AG,t7]);rw[r1];simp only[C4,BD,sT,By,BY,reduceIte,B5,u7,a1];refine⟨_,_,rfl,f4,R4,by simp[AG],fun j hj=>?_⟩;have:=r2 j (by omega);rcases hj with rfl|rfl|rfl|rfl<;>simp only[AG,By,BY,reduceIte]at this ⊢<;>exact this
   obtain⟨e3,h4,r1,f4,R4,r7,r2⟩:=hrun;refine⟨by omega,e3,h4,r1,P',y::Q,by rw[hA];simp,by omega,(fx.trans (.of y2)).trans f4,R4,fun z hz=>?_,r7,fun j hj=>(r2 j hj).trans (ts j hj)⟩;rcases xe.1 hz with rfl|hz
   ·exact hc
   ·exact hQ z hz
  ·right
   rw[decide_eq_false hc]at q2;have hrun:∃ e3,nnB (call AC (m+3)) e' g=.exit 2 e3 h3/\∀ j,j=0\/j=1\/j=2\/j=6->J j e3=J j e':=by
    rw[TJ];unfold aL;simp only[sT,By,BY,reduceIte,gD,Ay,AK,AJ,t7,t1,c1,t0,A8,ix,AM,AP,ld,B5,a1,iy,ldy,q2];refine⟨_,rfl,fun j hj=>?_⟩;rcases hj with rfl|rfl|rfl|rfl<;>simp only[AG,By,BY,reduceIte]
   obtain⟨e3,r1,r2⟩:=hrun;rw[r1];refine⟨rfl,e3,h3,rfl,fx.trans (.of y2),?_,fun j hj=>(r2 j hj).trans (ts j hj)⟩;rw[hA,VR hQ (.inr ⟨P',y,rfl,hc⟩),xp,xp];exact R3
theorem YF(W:h.Wf){l:List Nat}(Rw:h.Row bl el (iv l++Z))(AEM:256<=bl)(hn:n=l.length)(hl:n<=1000):
  ∃ h',call AC (m+4) 149 [.slice (some ⟨bl,0,none⟩) n c,AI AT 0,AI AT (n:Int)] h=.ok AEE h'/\Fx (fun b=>b=bl) h h'/\h'.Row bl el (iv (Ed l)++Z):=by
 have run:∀ e1:Env,J 0 e1=.slice (some ⟨bl,0,none⟩) n c->J 1 e1=AI AT 0->J 2 e1=AI AT (n:Int)->J 6 e1=AI AT ((1:Nat):Int)->∃ e' h',A6 noB (call AC (m+3)) e1 h=.exit 0 e' h'/\Fx (fun b=>b=bl) h h'/\h'.Row bl el (iv (Ed l)++Z):=fun e1 s0 s1 s2 s6=>by
  refine Be (I:=fun i e' g=>∃ A B,A.length+B.length=l.length/\(A.length=i+1\/(B=[]/\A.length<=i+1))/\cI A B=Ed l/\Fx (fun b=>b=bl) h g/\g.Row bl el (iv (A++B)++Z)/\J 0 e'=.slice (some ⟨bl,0,none⟩) n c/\J 1 e'=AI AT 0/\J 2 e'=AI AT (n:Int)/\J 6 e'=AI AT ((i+1:Nat):Int))
   (Q:=fun x=>∃ e' h',x=.exit 0 e' h'/\Fx (fun b=>b=bl) h h'/\h'.Row bl el (iv (Ed l)++Z)) n (by omega) (fun i e' g ⟨A,B,hAB,hAi,hsr,fx,R,t0,t1,t2,t6⟩=>?_) ⟨l.take 1,l.drop 1,by rw[yE,yd];omega,?_,rfl,.refl W,by rw[zQ];exact Rw,s0,s1,s2,s6⟩
  ·have W':=fx.wf
   cases B with
   |nil=>
    right;have hA:A.length=n:=by simp only[List.length_nil]at hAB;omega
    have c1:iLt ((i+1:Nat):Int) (n:Int)=false:=DE (by omega);have hrun:∃ e3,noB (call AC (m+3)) e' g=.exit 0 e3 g:=by
     rw[aM];unfold iY;simp only[sT,By,BY,reduceIte,AK,AJ,t6,t2,c1];exact⟨_,rfl⟩
    obtain⟨e3,r1⟩:=hrun;rw[r1];refine⟨rfl,e3,g,rfl,fx,?_⟩;rw[<- hsr];rw[xZ]at R;exact R
   |cons x B=>
    left;rw[xP]at hAB;have hA:A.length=i+1:=by
     rcases hAi with h1|⟨h1,_⟩
     ·exact h1
     ·cases h1
    have c1:iLt ((i+1:Nat):Int) (n:Int)=true:=Ep (by omega);obtain⟨e2,h2,i1,f2,R2,i2⟩:=Xh (m:=m) (e:=Env.set 7 (AI AT ((i+1:Nat):Int)) (Env.set 12 (.bool true) e')) W' R AEM (by rw[No,xP];omega) hl (by simp only[AG,By,BY,reduceIte];exact t0) (by simp only[AG,By,BY,reduceIte];exact t1) (by simp only[AG,By,BY,reduceIte,hA]);have g0:=i2 0 (by omega);have g1:=i2 1 (by omega);have g2:=i2 2 (by omega);have g6:=i2 6 (by omega);simp only[AG,By,BY,reduceIte,t0]at g0;simp only[AG,By,BY,reduceIte,t1]at g1;simp only[AG,By,BY,reduceIte,t2]at g2;simp only[AG,By,BY,reduceIte,t6]at g6;have a3:FE .i64 (AI AT ((i+1:Nat):Int)) (AI AT 1) h2=.ok (AI AT ((i+1+1:Nat):Int)) h2:=CN (by omega);have hrun:∃ e3,noB (call AC (m+3)) e' g=.norm e3 h2/\J 0 e3=.slice (some ⟨bl,0,none⟩) n c/\J 1 e3=AI AT 0/\J 2 e3=AI AT (n:Int)/\J 6 e3=AI AT ((i+1+1:Nat):Int):=by
     rw[aM];unfold iY;simp only[sT,By,BY,reduceIte,AK,AJ,t6,t2,c1,i1,g6,BP,a3];exact⟨_,rfl,by simp only[AG,By,BY,reduceIte];exact g0,by simp only[AG,By,BY,reduceIte];exact g1,by simp only[AG,By,BY,reduceIte];exact g2,by simp[AG]⟩
    obtain⟨e3,r1,r2,r3,r4,r5⟩:=hrun;have il:(NO A x).length=A.length+1:=(Nw A x).length_eq;exact⟨by omega,e3,h2,r1,NO A x,B,by omega,.inl (by omega),hsr,fx.trans f2,R2,r2,r3,r4,r5⟩
  ·cases l with
   |nil=>exact .inr ⟨rfl,yC _⟩
   |cons k l=>exact .inl rfl
 have a1:FE .i64 (AI AT 0) (AI AT 1) h=.ok (AI AT ((1:Nat):Int)) h:=CN (i:=0) (by omega);obtain⟨e2,h2,r1,x2⟩:=run (Env.set 6 (AI AT ((1:Nat):Int)) (Env.set 9 (AI AT ((1:Nat):Int)) (AS e0 0 [.slice (some ⟨bl,0,none⟩) n c,AI AT 0,AI AT (n:Int)]))) (by simp only[iN,IS,AG,By,BY,reduceIte]) (by simp only[iN,IS,AG,By,BY,reduceIte]) (by simp only[iN,IS,AG,By,BY,reduceIte]) (by simp[AG]);simp only[iN,IS]at r1;refine⟨h2,?_,x2⟩;rw[eu rfl,gM];unfold ZK;simp only[iN,IS,sT,By,BY,reduceIte,BP,a1,r1,En,EN]
theorem gC:gB=ZI:=rfl
theorem rZ:npB=ra:=rfl
theorem cE(W:h.Wf){l:List Nat}(Rw:h.Row bl el (iv l++Z))(AEM:256<=bl)(hn:n=l.length)(hl:n<=12):
  ∃ h',call AC (m+6) 107 [.slice (some ⟨bl,0,none⟩) n c] h=.ok AEE h'/\Fx (fun b=>b=bl) h h'/\h'.Row bl el (iv (Ed l)++Z):=by
 obtain⟨h2,k2,x2,R2⟩:=YF (m:=m) (c:=c) W Rw AEM hn (by omega);obtain⟨k,kb⟩:=OW (m:=m+3) (h:=h) (n:=n) (by omega);have cv:Dr .u64 (AI AT (n:Int)) h=.ok (.int .u64 (n:Int)) h:=by rw[C5,EY (by omega)]
 have a1:GG yQ .i64 (AI AT (n:Int)) (AI AT 0) h=.ok (AI AT (n:Int)) h:=by
  have:yQ (n:Int) 0=(n:Int):=Int.sub_zero _;rw[Ck,this,Bj (by omega)]
 have c1:iLe (n:Int) 12=true:=HT (by omega);have pd:call AC (m+5) 132 [.slice (some ⟨bl,0,none⟩) n c,AI AT 0,AI AT (n:Int),AI AT (k:Int)] h=.ok AEE h2:=by
  have hb:∃ e2,npB (call AC (m+4)) (Env.set 9 (.bool true) (Env.set 8 (.bool true) (AS e0 0 [.slice (some ⟨bl,0,none⟩) n c,AI AT 0,AI AT (n:Int),AI AT (k:Int)]))) h=.ret e2 h2:=by
   rw[rZ];unfold ra;simp only[iN,IS,sT,By,BY,reduceIte,B5,a1,AK,AJ,c1,cA0,k2];exact⟨_,rfl⟩
  obtain⟨e2,r1⟩:=hb;have r1:=Md r1;simp only[iN,IS]at r1;rw[ed rfl,gC];unfold ZI;simp only[iN,IS,sT,By,BY,reduceIte,r1,BE,EN]
 refine⟨h2,?_,x2,R2⟩;rw[eK rfl];unfold fQ;simp only[iN,IS,sT,By,BY,reduceIte,Ae,Df,Ca,cv,cA0,kb,pd,En,EN]
end
end
end Go.Proofs.YtbjadbhkogcfeaaGreat
