/-
  Part ZO of what Lawlt stands on: printed by program, names and spaces cut.
-/
import Derived.Test.YtbjadbhkogcfeaaGreatZN
open Go.Value renaming int→AI
open Go.IntKind renaming i64→AT
open Nat renaming reduceEqDiff→BY,reduceLT→By,reduceAdd→IS,le_refl→IT,zero_add→If,succ→yg,ble→yl,zero_le→zL,le_trans→zO,eq_zero_or_pos→za,add_zero→AAE,lt_irrefl→ACl
open Go renaming Value→IN
open List renaming length_append→No,length_map→OF,length_cons→yh,mem_cons_of_mem→yj,mem_cons_self→yk,mem_cons→yv,append_nil→yw,mem_of_getElem?→yz,mem_singleton→zB,append_assoc→zC,getElem?_eq_some_iff→zG,length_take→zJ,mem_append→zK,map_append→zb,eq_nil_of_length_eq_zero→zc,length_drop→zl,drop_zero→zr,range→zu,drop_of_length_le→zx,getElem?_map→zy,take_length→AAF,take_append_drop→AAY,reverse_append→AAx,reverse_reverse→ABM,map_eq_nil_iff→ABU,reverse_perm→ABp,map_set→ACt
open Int renaming sub→zX,ofNat→zY
open Go.Value renaming int→zd
open Bool renaming not_true→ze
set_option linter.unusedVariables false
set_option linter.unusedSimpArgs false
namespace Go.Proofs.YtbjadbhkogcfeaaGreat
noncomputable section
open Go
set_option maxRecDepth 100000
theorem cH:prB=kB:=rfl
theorem Iv:d58=NX:=rfl
section
variable {F:AFi}{e:Env}{h h' h0:Hp}{S:Nat->Prop}{A:At}{T M:List Nat}{c0 bad m k p:Nat}{arm:Int}{ks:List Kt}{fr:List Nat}{v lv fv:IN}{ov:Bool}
def VcI(h:Hp)(k:Nat)(v:IN)(l:List Nat):Prop:=(v=AFn/\l=[])\/Mk h k v l
theorem VcI.vals{k:Nat}{v:IN}{l:List Nat}(o:VcI h k v l):h.AF5 v (l.map bv):=by
 rcases o with ⟨h1,h2⟩|o
 ·exact .inl ⟨h1,by rw[h2];rfl⟩
 ·exact o.vals
theorem VcI.ext{k:Nat}{v:IN}{l:List Nat}(o:VcI h k v l)(W:h.Wf)(x:h.Ext h'):VcI h' k v l:=by
 rcases o with o|o
 ·exact .inl o
 ·exact .inr (o.ext W x)
theorem VcI.same{k:Nat}{v:IN}{l:List Nat}(o:VcI h k v l)(hb:h'.bl=h.bl):VcI h' k v l:=by
 rcases o with o|o
 ·exact .inl o
 ·exact .inr (o.same hb)
theorem VcI.one{k:Nat}{v:IN}{l:List Nat}(o:VcI h k v l):cellsOf v=[v]/\oneCell v=true/\known v=true:=by
 rcases o with ⟨h1,_⟩|⟨b,el,h1,_⟩<;>rw[h1]<;>exact⟨rfl,rfl,rfl⟩
def Hp.VE(h:Hp)(u:IN)(xs:List IN):Prop:=h.AF5 u xs\/((∃ r,u=.chan (some r))/\xs=[])
theorem Hp.VE.bl{u:IN}{l:List Nat}(V:h.VE u (l.map bv))(g:Hp):AGQ u g=.ok (AI AT (l.length:Int)) g:=by
 rcases V with V|⟨⟨r,rfl⟩,h2⟩
 ·exact V.bl g
 ·rw[ABU.1 h2];rfl
theorem Hp.VE.ext{u:IN}{xs:List IN}(V:h.VE u xs)(W:h.Wf)(x:h.Ext h'):h'.VE u xs:=V.imp (fun V=>V.ext W x) id
theorem Hp.VE.same{u:IN}{xs:List IN}(V:h.VE u xs)(hb:h'.bl=h.bl):h'.VE u xs:=V.imp (fun V=>V.same hb) id
theorem Hp.VE.vals{u:IN}{xs:List IN}(V:h.VE u xs)(hl:0<xs.length):h.AF5 u xs:=by
 rcases V with V|⟨_,h2⟩
 ·exact V
 ·rw[h2]at hl;cases hl
theorem Nr{n:Nat}(W:h.Wf){u:IN}{l:List Nat}(V:h.VE u (l.map bv))(hl:l.length<=900000):∃ h' v,call AC (n+1) 93 [u] h=.ok v h'/\h.Ext h'/\VcI h' h.next v l:=by
 rcases V with V|⟨⟨r,rfl⟩,h2⟩
 case inr=>
  obtain rfl:=ABU.1 h2;have x1:=(Hp.Ext.refl W).AFh 0 [];have R:=Hp.Row.new W 0 [];have es:=fun (e:Env) (t:List IN)=>Kg (F:=call AC n) (e:=e) (t:=t) W
  generalize h.AFh 0 []=g at x1 R es;have ne:∀ e:Env,J 0 e=.chan (some r)->oEq Lj.k false (J 0) (kV (.slice none 0 0)) (call AC n) e h=.ok (.bool false) h:=fun e he=>by
   rw[dD];show(match eqV (.slice 5) (J 0 e) (.slice none 0 0)with|some r=>okB (false != r) h|none=>.no)=_;rw[he];exact Fg
  have big:=W.big;have ap:DU 1 1 5 (.slice (some ⟨h.next,0,none⟩) 0 0) (.chan (some r)) g=.ok (.slice (some ⟨h.next,0,none⟩) 0 0) (g.wr h.next 0 []):=Hr x1.wf big R (fun k=>rfl) rfl;have R2:=R.AFu x1.wf (off:=0) (vs:=[]) (IT _);refine⟨_,.slice (some ⟨h.next,0,none⟩) 0 0,?_,R.AGE x1 (IT _) (off:=0) (vs:=[]) (IT _),.inr ⟨h.next,0,rfl,.inl rfl,R2,IT _⟩⟩;rw[Iq rfl];unfold d93;simp only[iN,IS,sT,By,BY,reduceIte,ne,es,BN,ap,lV0]
 have V0:=V;rcases V with ⟨rfl,h2⟩|⟨b,off,c,el,L,h1,_⟩
 ·have ne:∀ e:Env,J 0 e=.slice none 0 0->oEq Lj.k false (J 0) (kV (.slice none 0 0)) (call AC n) e h=.ok (.bool true) h:=fun e he=>Jo (t:=0) dD he
  refine⟨h,AFn,?_,.refl W,.inl ⟨rfl,ABU.1 h2⟩⟩;rw[Iq rfl];unfold d93;simp only[iN,IS,sT,By,BY,reduceIte,ne,lV0]
 ·rw[OF]at h1
  rw[h1]at V0 ⊢;obtain⟨h',v,a,b,c⟩:=P8 (n:=n) W V0 hl;exact⟨h',v,a,b,.inr c⟩
theorem Hp.KN.same{k:Nat}{v:IN}{ks:List Kt}(o:h.KN k v ks)(hb:h'.bl=h.bl):h'.KN k v ks:=by
 rcases o with o|⟨h1,b,h2,h3,h4⟩
 ·exact .inl (o.same hb)
 ·exact .inr ⟨h1,b,h2,h3.same hb,h4⟩
theorem ik(x0:h0.Ext h)(hk:h0.next<=k)(hk2:k<=h.next)(o:h.KN k v ks){x:Kt}(hu:oneCell x.u=true)(hl:ks.length<=100000):
  ∃ h' v',DU 6 64 123 v (.slice (some ⟨h.next,0,none⟩) 1 1) (h.AFh 0 (AZ x))=.ok v' h'/\h0.Ext h'/\h'.KO k v' (ks++[x])/\h.next<=h'.next:=by
 rcases o with o|⟨rfl,b,rfl,r,hb,AFs⟩
 ·obtain⟨h',v',a1,a2,a3,a4,_⟩:=TJ x0 hk hk2 o hu hl
  exact⟨h',v',a1,a2,a3,a4⟩
 ·have W:=x0.wf
  have x1:=x0.AFh 0 (AZ x);have y1:=(Hp.Ext.refl W).AFh 0 (AZ x);have Rw:=Hp.Row.new W 0 (AZ x);have n1:(h.AFh 0 (AZ x)).next=h.next+1:=rfl;have r1:=r.ext W y1;generalize h.AFh 0 (AZ x)=h1 at x1 y1 Rw n1 r1;have hs:∀ K:List IN->R,BP h1 6 (.slice (some ⟨h.next,0,none⟩) 1 1) 1 K=K (AZ x):=fun K=>Rw.AHh (es:=6) (off:=0) (n:=1) (by show 0+1 * 6<=6;omega)
  obtain⟨h5,a1,a2,a3,a4,_⟩:=Ep (eb:=64) (en:=123) x1 r1 hs rfl rfl (by omega) (Gq hu) (by omega);refine⟨h5,_,a1,a2,.inr ⟨h1.next,rfl,?_,by omega,by have:=W.big;omega⟩,by omega⟩;show h5.Row h1.next 124 (AZ x++[]);rw[yw];exact a3
theorem Fx.fresh{S:Nat->Prop}{h h1 h2:Hp}{b:Nat}(a:Fx S h h1)(x:Fx (fun i=>i=b) h1 h2)(hb:h.next<=b):Fx S h h2:=
 ⟨zO a.next x.next,fun i hi hs=>by
  have:=a.next;rw[x.get i (by omega) (by omega),a.get i hi hs],x.wf,fun L q1 q2 q3=>x.low L (a.low L q1 q2 q3) (zO q2 a.next) fun i hi=>by rw[hi];omega⟩
theorem WM{z:Kt}:∀ {B A:List Kt},z∈srt A B↔z∈A\/z∈B
 |[],A=>by simp[srt]
 |x::B,A=>by
  show z∈srt (I4 A x) B↔_;rw[WM,Qj,yv];constructor
  ·rintro ((h|h)|h)
   ·exact .inr (.inl h)
   ·exact .inl h
   ·exact .inr (.inr h)
  ·rintro (h|h|h)
   ·exact .inl (.inr h)
   ·exact .inl (.inl h)
   ·exact .inr h
theorem WL:∀ (B A:List Kt),(srt A B).length=A.length+B.length
 |[],A=>rfl
 |x::B,A=>by
  show(srt (I4 A x) B).length=_;rw[WL,Ml,yh];omega
theorem Gh{z:Kt}{ks:List Kt}:z∈EN ks↔z∈ks:=by
 unfold EN;rw[WM,<- zK,AAY]
theorem IV(ks:List Kt):(EN ks).length=ks.length:=by
 unfold EN;rw[WL,zJ,zl];omega
theorem Sl.lst{ks':List Kt}{bl:Nat}{L0:List IN}(s:Sl h A T M c0 arm ks fr lv fv bad ov)(W:h.Wf)(x:Fx (fun b=>b=bl) h h')(nbl:¬ A.D bl)(Rl:h.Row bl 124 L0)(ls:h'.KS (fun b=>¬ A.D b) lv ks')(hm:∀ k∈ks',k∈ks)(hn:ks'.length=ks.length):Sl h' A T M c0 arm ks' fr lv fv bad ov:=by
 have kp:∀ b el L,b≠bl->h.Row b el L->h'.Row b el L:=fun b el L hb r=>x.row W r hb
 have nb:∀ b el L,(el=0\/el=6\/el=4)->h.Row b el L->b≠bl:=fun b el L he r=>EE r Rl (by omega)
 refine⟨kp _ _ _ (nb _ _ _ (.inl rfl) s.row) s.row,s.dk.fr W x (nb _ _ _ (.inl rfl) s.dk.disk) (nb _ _ _ (.inl rfl) s.dk.med) (fun h=>(J0 Rl s.dk.map) h.symm),kp _ _ _ (nb _ _ _ (.inl rfl) s.tab) s.tab,s.tok,ls,fun y hy=>⟨(s.ko y (hm y hy)).1.keep fun b el L hb he r=>kp b el L (nb b el L (by omega) r) r,(s.ko y (hm y hy)).2⟩,?_,s.ne,by rw[hn];exact s.le⟩;rcases s.fs with h1|⟨b,el,h1,h2,h3,h4⟩
 ·exact .inl h1
 ·exact .inr ⟨b,el,h1,kp _ _ _ (nb b el _ (by omega) h2) h2,h3,h4⟩
theorem cK(W:h.Wf)(s:Sl h A T M c0 arm ks (p::fr) lv fv bad false){a b c:Int}{l:List Nat}{u:IN}(V:h.VE u (l.map bv))(hb:∀ x∈l,x<256)(hl:l.length<=100)
  (hr:AFx a b c 1 l.length=true)(hf:ks.any (Bo a b c)=false)(hst:CA a b c ks=false)(hkl:ks.length<=10)(ha:CB arm (k+10)):
  ∃ h' c1 AGB lv' fv' k',call AC (m+8) 58 [pt A.bs,AI AT a,AI AT b,AI AT c,u] h=.ok (AI AT 0) h'/\Fx A.D h h'/\
   Sl h' A T (D5 T M p l (AF8 T a b c 1 l)) c1 AGB (EN (ks++[k'])) fr lv' fv' bad false/\k'.core=⟨a,b,c,1,l,p⟩/\CB AGB k/\∀ b,AGA k'.u b->h.next<=b:=by
 have big:=W.big;have hD:=s.AHz W;have hp3:3*p+3<=A.n:=s.le.2.2.2 p yk;have hn:=s.dk.n1;have hH:=GY (T:=T) hr;have hHb:=Mg (T:=T) (a:=a) (b:=b) (c:=c) (s:=1) (l:=l);have c00:iNe 0 0=false:=CH rfl;have k0:=NU (m:=m+6) s.row;obtain⟨h1,vc,k1,x1,mk1⟩:=Nr (n:=m+6) W V (by omega);have oc:=mk1.one;have bl:=fun (F:AFi) (e:Env) (e1:J 1 e=AI AT a) (e2:J 2 e=AI AT b) (e3:J 3 e=AI AT c) (e4:J 28 e=vc)=>P5 (F:=F) (h:=h1) (g1:=J 1) (g2:=J 2) (g3:=J 3) (g5:=J 28) e1 e2 e3 e4 oc.1 oc.2.2
 have al:=fun (F:AFi) (e:Env)=>BW (F:=F) (e:=e) x1.wf (n:=5) (t:=DP)
 have Ra:=Hp.Row.alloc x1.wf FQ (show(A8 0 0 0 0 AFn).length=5 from rfl);have y2:h1.Ext (h1.push (.cells DP 5 0)):=(Hp.Ext.refl x1.wf).push _;have n2:(h1.push (.cells DP 5 0)).next=h1.next+1:=rfl;generalize h1.push (.cells DP 5 0)=h2 at al Ra y2 n2;obtain⟨st,_,y3,R12,n3⟩:=Lh x1.wf y2 (IT _) Ra rfl (a:=a) (b:=b) (c:=c) (s:=1) (u:=vc) oc.2.1;generalize h2.wr h1.next 0 (A8 a b c 1 vc)=h3 at st y3 R12 n3;have x3:=x1.trans y3;obtain⟨_,_,_,_,_,AH0⟩:=Bz R12;have lnc:∀ g,AGQ vc g=.ok (AI AT (l.length:Int)) g:=fun g=>mk1.vals.bl g
 have k4:=Jz (n:=m+6) x3.wf (a:=a) (b:=b) (c:=c) (s:=1) (u:=vc) lnc;rw[hr]at k4;have y4:=(Hp.Ext.refl x3.wf).AFh 0 (A8 a b c 1 vc);generalize h3.AFh 0 (A8 a b c 1 vc)=h4 at k4 y4;have x4:=x3.trans y4;have lnu:∀ g:Hp,AGQ u g=.ok (AI AT (l.length:Int)) g:=fun g=>V.bl g
 obtain⟨_,_,l2,_⟩:=BG (s.row.ext W x4);have c1:iGt (l.length:Int) 100=false:=Fa (by omega);have s4:=s.ext W x4;obtain⟨h5,k5,x5⟩:=F5 (m:=m+4) x4.wf s4.row s4.ls.ks (by omega) a b c;have hidx:Fc (Bo a b c) 0 ks= -1:=by
  rcases O6 (Bo a b c) ks 0 with ⟨_,h2⟩|⟨h1,_⟩
  ·exact h2
  ·rw[hf]at h1;cases h1
 rw[hidx]at k5;have c2:iGe (-1) 0=false:=E8 (by omega);have x45:=x4.trans x5;have s5:=s.ext W x45;obtain⟨h6,k6,x6⟩:=Gi (m:=m+3) x45.wf s5.row s5.ls.ks (by omega) a b c;rw[hst]at k6;have x46:=x45.trans x6;have s6:=s.ext W x46;obtain⟨_,l1,_,_,l4,_⟩:=BG s6.row;have hil:(ints .i64 ((p::fr).map zY)).length=fr.length+1:=by unfold ints;rw[OF,OF];rfl
 have lnf:=s6.fs.vals.len;rw[hil]at lnf;have c3:iEq ((fr.length+1:Nat):Int) 0=false:=B6 (by omega);obtain⟨af,g1,g2⟩:=s6.fs.vals.at (i:=0) (by rw[hil];omega);have g1:AGa 1 fv (AI AT 0) h6=.ok (.pointer (some af)) h6:=g1;have g2:Hn (.pointer (some af)) h6=.ok (AI AT (p:Int)) h6:=g2;have pre:∃ e1,NX (call AC (m+7)) (AS e0 0 [pt A.bs,AI AT a,AI AT b,AI AT c,u]) h=prB (call AC (m+7)) e1 h6/\J 0 e1=pt A.bs/\J 4 e1=u/\J 12 e1=pt h1.next/\J 14 e1=AI AT (p:Int):=by
  unfold NX;simp only[iN,IS,sT,By,BY,reduceIte,gD,cA0,k0,AK,AJ,c00,k1,bl,al,AX,st,Au,Am,AH0,k4,Be,Bd,ze,Ah,lnu,Ax,Al,AH,AN,If,AM,AP,l2,c1,k5,c2,k6,l4,lnf,c3];rw[BB];simp only[sT,By,BY,reduceIte,g1,AM,g2];exact⟨_,rfl,by simp[AG]⟩
 obtain⟨e1,p1,t0,t4,t12,t14⟩:=pre;have x6m:=x46.marked;have ALO:h6.marked.Row h1.next 0 (A8 a b c 1 vc):=(((R12.ext x3.wf y4).ext x4.wf x5).ext x45.wf x6).same rfl;obtain⟨_,_,_,_,_,AIn⟩:=Bz ALO;obtain⟨_,l1m,_⟩:=BG (s.row.ext W x6m);have mkm:VcI h6.marked h.next vc l:=((mk1.ext x1.wf y3).ext x3.wf ((y4.trans x5).trans x6)).same rfl;obtain⟨h7,x7,hd⟩:=VL (n:=m+4) x6m.quiet.wf ((s.tab.ext W x6m).same (h':=h6.marked.quiet) rfl) s.tok (a:=a) (b:=b) (c:=c) (s:=1) ((mkm.vals).same (h':=h6.marked.quiet) rfl) hb (by omega) (by omega);rcases hd with ⟨_,vh,k7,mkh⟩|⟨hrf,_⟩
 case inr=>rw[hr]at hrf;cases hrf
 have q7:∀ e:Env,J 83 e=pt A.tb->J 84 e=Bu a b c 1 vc->Ad .free (AU 98 [J 83,J 84]) (call AC (m+7)) e h6.marked=.ok (.tuple ⟨[vh,AI AT 0]⟩) (h6.marked.back h7):=fun e e1 e2=>by
  refine BO ?_;rw[BR,AV,AV,A3,e1,e2];exact k7
 have y8:h6.Ext (h6.marked.back h7):=(Hp.Ext.refl x46.wf).marked.trans (.back x7);have AKU:Mk (h6.marked.back h7) h6.next vh (AF8 T a b c 1 l):=mkh.same rfl;generalize h6.marked.back h7=h8 at q7 y8 AKU;have x8:=x46.trans y8;have AI7:∀ g:Hp,h6.Ext g->g.Row h1.next 0 (A8 a b c 1 vc):=fun g x=>((((R12.ext x3.wf y4).ext x4.wf x5).ext x45.wf x6)).ext x46.wf x
 have AJl:∃ e2 h11 dv1 ds1,prB (call AC (m+7)) e1 h6=prC (call AC (m+7)) e2 h11/\J 0 e2=pt A.bs/\J 12 e2=pt h1.next/\J 14 e2=AI AT (p:Int)/\J 15 e2=vh/\J 17 e2=dv1/\h8.Ext h11/\CV h11 A h8.next dv1 ds1/\((l≠[]/\ds1=KG p l)\/(l=[]/\ds1=[])):=by
  rcases za l.length with hz|hz
  ·have hl0:l=[]:=zc hz
   have c4:iGt (l.length:Int) 0=false:=Fa (by omega);have hrun:∃ e2,prB (call AC (m+7)) e1 h6=prC (call AC (m+7)) e2 h8/\J 0 e2=pt A.bs/\J 12 e2=pt h1.next/\J 14 e2=AI AT (p:Int)/\J 15 e2=vh/\J 17 e2=AFn:=by
    rw[cH];unfold kB;simp only[sT,By,BY,reduceIte,A1,Ax,t0,Al,AH,AN,If,AM,AP,l1m,Au,Am,t12,AIn,q7,A7,BC,BE,Ah,t4,lnu,AK,AJ,c4];exact⟨_,rfl,by simp[AG,t0,t12,t14]⟩
   obtain⟨e2,r1,u0,u12,u14,u15,u17⟩:=hrun;exact⟨e2,h8,AFn,[],r1,u0,u12,u14,u15,u17,.refl x8.wf,⟨[],.inl ⟨rfl,rfl⟩,rfl,fun i w x hw _=>by cases hw⟩,.inr ⟨hl0,rfl⟩⟩
  ·have c4:iGt (l.length:Int) 0=true:=GZ (by omega)
   have ALP:Mk h1 h.next vc l:=by
    rcases mk1 with ⟨_,h2⟩|h2
    ·rw[h2]at hz;exact absurd hz (ACl 0)
    ·exact h2
   have x8m:=x8.marked;have s8m:=s.ext W x8m;have k9:=Nk (m:=m+5) (s8m.row.same (h':=h8.marked.quiet) rfl) (p:=p) (by omega);have q9:∀ e:Env,J 0 e=pt A.bs->J 14 e=AI AT (p:Int)->Ad .weak (AU 100 [J 0,J 14]) (call AC (m+7)) e h8.marked=.ok (AI AT ((p*3:Nat):Int)) (h8.marked.back h8.marked.quiet):=fun e e1 e2=>by
    refine Hv x8m.wf ?_ (IT _);rw[BR,AV,AV,A3,e1,e2];exact k9
   have y9:h8.Ext (h8.marked.back h8.marked.quiet):=Hp.Ext.AGo (Hp.Ext.refl x8.wf).marked (Hp.Ext.refl x8.wf).marked.quiet;have n9:(h8.marked.back h8.marked.quiet).next=h8.next:=rfl;have m9:(h8.marked.back h8.marked.quiet).mark=h8.next:=rfl;generalize h8.marked.back h8.marked.quiet=h9 at q9 y9 n9 m9;have x9:=x8.trans y9;have ad:=Cc (h:=h9) (i:=p * 3) (by omega);obtain⟨_,_,_,_,ALQ,_⟩:=Bz (AI7 h9 (y8.trans y9));have ALR:h1.next<h9.mark:=by
    rw[m9];have:=(AI7 h8 y8).lt x8.wf;exact this
   have ALS:∀ (off:Nat) (kk:C) (F:AFi) (e:Env),JA (.pointer (some ⟨h1.next,off,none⟩)) kk F e h9=kk F e h9:=fun off kk F e=>Dl ALR
   have s9:=s.ext W x9;have mk9:Mk h9 h.next vc l:=(((ALP.ext x1.wf y3).ext x3.wf ((y4.trans x5).trans x6)).ext x46.wf (y8.trans y9));obtain⟨h10,dv1,k10,x10,D1⟩:=LD (m:=m+6) x9.wf.quiet (s9.row.same (h':=h9.quiet) rfl) (fun b hb=>by have:=hD b hb;have:=x9.next;show b<h9.next;omega) (sct:=p*3+1) (by omega) (mk9.same (h':=h9.quiet) rfl) (by omega);have q10:∀ e:Env,J 0 e=pt A.bs->J 95 e=AI AT ((p*3+1:Nat):Int)->J 97 e=vc->Ad .free (AU 99 [J 0,J 95,J 97]) (call AC (m+7)) e h9=.ok dv1 (h9.back h10):=fun e e1 e2 e3=>by
    refine BO ?_;rw[BR,AV,AV,AV,A3,e1,e2,e3];exact k10
   have y11:h9.Ext (h9.back h10):=.back x10;have D11:CV (h9.back h10) A h9.next dv1 (KG p l):=D1.same rfl;generalize h9.back h10=h11 at q10 y11 D11;have hrun:∃ e2,prB (call AC (m+7)) e1 h6=prC (call AC (m+7)) e2 h11/\J 0 e2=pt A.bs/\J 12 e2=pt h1.next/\J 14 e2=AI AT (p:Int)/\J 15 e2=vh/\J 17 e2=dv1:=by
    rw[cH];unfold kB;simp only[sT,By,BY,reduceIte,A1,Ax,t0,Al,AH,AN,If,AM,AP,l1m,Au,Am,t12,AIn,q7,A7,BC,BE,Ah,t4,lnu,AK,AJ,c4,q9,t14,BM,ad,ED,ALS,DV,ALQ,q10];exact⟨_,rfl,by simp[AG,t0,t12,t14]⟩
   obtain⟨e2,r1,u0,u12,u14,u15,u17⟩:=hrun;exact⟨e2,h11,dv1,KG p l,r1,u0,u12,u14,u15,u17,y9.trans y11,by rw[<- n9];exact D11,.inl ⟨fun h=>by rw[h]at hz;exact absurd hz (ACl 0),rfl⟩⟩
 obtain⟨e2,h11,dv1,ds1,r1,u0,u12,u14,u15,u17,AIR,D11,hds⟩:=AJl;have x11:=x8.trans AIR;have s11:=s.ext W x11;have hd3:ds1.length<=3:=by
  rcases hds with ⟨_,rfl⟩|⟨_,rfl⟩
  ·unfold KG
   rw[No,OF,List.length_range];show _+1<=3;omega
  ·exact zL _
 have k11:=Nk (m:=m+5) s11.row (p:=p) (by omega);have AJm:Mk h11 h6.next vh (AF8 T a b c 1 l):=(AKU.ext x8.wf AIR);obtain⟨h12,dv2,k12,x12,D2⟩:=LD (m:=m+6) x11.wf s11.row (fun b hb=>by have:=hD b hb;have:=x11.next;omega) (sct:=p*3) (by omega) AJm (by omega);rw[hH,show(zu ((64+63)/64)).map (fun j=>AGY.w (p*3+j) (C4 (AF8 T a b c 1 l) j))++[.f]=GK p (C4 (AF8 T a b c 1 l) 0)from rfl,P7 hH]at D2;have ALT:=x11.trans x12;obtain⟨h13,dv3,k13,x13,D3,n13,AKV⟩:=CV.app ALT (by have:=x8.next;omega) (by have:=AIR.next;have:=x12.next;omega) (D11.ext x11.wf x12) D2 (by show 0<2;omega) (by
  show _+2<=1000;omega)
 have s13:=s.ext W x13;obtain⟨vs,w1,w2,w3⟩:=D3.ends fun b hb=>by have:=hD b hb;have:=x8.next;omega
 have hdl:(ds1++GK p (AF8 T a b c 1 l)).length<=6:=by
  rw[No];show _+2<=6;omega
 have hok:FN A.n [] (ds1++GK p (AF8 T a b c 1 l)):=by
  rcases hds with ⟨h0,rfl⟩|⟨_,rfl⟩
  ·exact js hp3 ⟨by rcases l with _|⟨_,_⟩;exact absurd rfl h0;exact Nat.succ_pos _,hl⟩ hb hH hHb
  ·exact Vv hp3 hH hHb
 obtain⟨h14,c14,AHF,k14,f14,d14,ea⟩:=Sb (m:=m+2) x13.wf s13.row s.nK s13.dk w1 w2 w3 hok (ha.le (by omega)) (by omega);have hcs:(Gg M [] (ds1++GK p (AF8 T a b c 1 l))).2=[]:=by
  have:ds1++GK p (AF8 T a b c 1 l)=(ds1++[.w (p*3) (AF8 T a b c 1 l)])++[.f]:=by rw[zC];rfl
  rw[this];exact NH _ _ _
 have hM:(Gg M [] (ds1++GK p (AF8 T a b c 1 l))).1=D5 T M p l (AF8 T a b c 1 l):=by
  rcases hds with ⟨_,rfl⟩|⟨h0,rfl⟩
  ·rfl
  ·rw[h0];rfl
 rw[hcs,hM]at d14;have s14:Sl h14 A T (D5 T M p l (AF8 T a b c 1 l)) c14 AHF ks (p::fr) lv fv bad false:=(s13.sc.fx x13.wf f14).sl d14;have a14:CB AHF k:=by rw[ea];exact Ha _ k arm (ha.le (by omega))
 obtain⟨_,_,_,l3',l4',_⟩:=BG s14.row;obtain⟨wc,Vc,ct⟩:=fq (xs:=ints .i64 (fr.map zY)) (z:=AI AT (p:Int)) s14.fs;have hone:Bc (ints .i64 (fr.map zY))=true:=HS .i64 _;obtain⟨h15,fv',k15,x15,AKW⟩:=qM (n:=m+6) f14.wf Vc hone (by have:=s.le.2.1;unfold ints;rw[OF,OF];rw[yh]at this;omega);have s15:=s14.ext f14.wf x15;have onf:cellsOf fv'=[fv']/\oneCell fv'=true:=by
  rcases AKW with ⟨h1,_⟩|⟨b,el,h1,_⟩<;>rw[h1]<;>exact⟨rfl,rfl⟩
 obtain⟨h16,ALU,AIH,n16,f16,_⟩:=Dt x15.wf s15.row (off:=4) (show 4<7 by omega) s.ne.2.2.2.2 onf.1 onf.2;have AIo:∀ b,A.D b->b<h14.next:=fun b hb=>by have:=hD b hb;have:=x13.next;have:=f14.next;omega
 have AIH:h16.Row A.bs 0 (slL A.bd A.tb lv fv' bad false):=AIH;have nbs:∀ b,¬ A.D b->b≠A.bs:=fun b hb h=>hb (.inl h)
 have s16:Sl h16 A T (D5 T M p l (AF8 T a b c 1 l)) c14 AHF ks fr lv fv' bad false:=s15.bsx x15.wf f16 AIH (s15.ls.keep fun b el L hb r=>f16.row x15.wf r (nbs b hb)) (fun k hk=>⟨(s15.ko k hk).1.keep fun b el L hb _ r=>f16.row x15.wf r (nbs b hb),(s15.ko k hk).2⟩)
  (by
   rcases AKW with h1|⟨b,el,h1,h2,h3,h4⟩
   ·exact .inl h1
   ·have hb:¬ A.D b:=fun h=>by have:=AIo b h;omega
    exact .inr ⟨b,el,h1,f16.row x15.wf h2 (nbs b hb),h3,hb⟩) ⟨s.le.1,by have:=s.le.2.1;rw[yh]at this;omega,s.le.2.2.1,fun q hq=>s.le.2.2.2 q (yj _ hq)⟩
 have W16:=f16.wf;have AI8:=(Hp.Ext.refl W16).marked;have AKX:=s16.ext W16 AI8;obtain⟨_,_,_,l3m,_⟩:=BG AKX.row;obtain⟨h17,w17,k17,x17,ALV⟩:=Ua (m:=m+6) AI8.quiet.wf ((AKX.same (h':=h16.marked.quiet) rfl).ls) (fun k hk=>(s16.ko k hk).1.vs.one.2.1) (by omega);have q17:∀ e:Env,J 125 e=lv->Ad .weak (AU 103 [J 125]) (call AC (m+7)) e h16.marked=.ok w17 (h16.marked.back h17):=fun e he=>by
  refine Cp ?_ x17 (IT _);rw[BR,AV,A3,he];exact k17
 have y18:h16.Ext (h16.marked.back h17):=Hp.Ext.AGo AI8 (AI8.quiet.trans x17);have AKY:(h16.marked.back h17).KN h16.next w17 ks:=ALV.same rfl;have m18:(h16.marked.back h17).mark=h16.next:=rfl;generalize h16.marked.back h17=h18 at q17 y18 AKY m18;have AKZ:h1.next<h6.next:=(AI7 h6 (.refl x46.wf)).lt x46.wf;have hl6:h6.next<=h13.next:=by
  have a1:=y8.next;have a2:=AIR.next;have a4:=x12.next;omega
 have AKa:¬ A.D h1.next:=fun h=>by have:=hD _ h;have:=x1.next;omega
 have ALW:=AKV _ _ _ (.inl rfl) (AI7 h12 ((y8.trans AIR).trans x12));have ALX:=ax AKa;have AJn:=f14.row x13.wf ALW ALX;have AIp:=f16.row x15.wf (AJn.ext f14.wf x15) (nbs _ AKa);obtain⟨_,_,_,_,_,ALY⟩:=Bz (AIp.ext W16 y18);have AJo:∀ (off:Nat) (kk:C) (F:AFi) (e:Env),JA (.pointer (some ⟨h1.next,off,none⟩)) kk F e h18=kk F e h18:=fun off kk F e=>Dl (by
  rw[m18];exact AIp.lt W16)
 generalize hk':(⟨a,b,c,1,l,p,vc⟩:Kt)=k';have ALZ:∀ (F:AFi) (e:Env),J 127 e=Bu a b c 1 vc->J 14 e=AI AT (p:Int)->BK Dn.zero [(0,5,J 127),(5,1,J 14)] F e h18=.ok (ktV k') h18:=fun F e e1 e2=>by rw[<- hk'];exact UP e1 e2
 have hku:k'.u=vc:=by rw[<- hk']
 have qs:∀ (F:AFi) (e:Env),J 129 e=ktV k'->Ad .AFz (As 1 (Bb Dn.zero 1) [(0,6,J 129)]) F e h18=.ok (.slice (some ⟨h18.next,0,none⟩) 1 1) (h18.back (h18.quiet.AFh 0 (AZ k'))):=fun F e he=>Cp (Mp y18.wf.quiet he) ((Hp.Ext.refl y18.wf.quiet).AFh _ _) (by rw[m18];exact y18.next)
 have AKb:=y18.next;have xX:h16.Ext (⟨h18.next,h18.next+1,0,h18.mark,h18.bl⟩:Hp):=⟨AKb,y18.get,by show _<=h18.next+1;omega,⟨y18.wf.big,y18.wf.has,y18.wf.fresh⟩⟩;obtain⟨h20,lv',k20,x20,ALa,n20⟩:=ik (k:=h16.next) xX (IT _) AKb (AKY.same (h':=⟨h18.next,h18.next+1,0,h18.mark,h18.bl⟩) rfl) (x:=k') (by rw[hku];exact oc.2.1) (by omega);have q20:∀ (F:AFi) (e:Env),J 126 e=w17->J 130 e=.slice (some ⟨h18.next,0,none⟩) 1 1->Ad .free (Bp 6 64 123 (J 126) (J 130)) F e (h18.back (h18.quiet.AFh 0 (AZ k')))=.ok lv' ((h18.back (h18.quiet.AFh 0 (AZ k'))).back h20):=fun F e e1 e2=>by
  refine BO ?_;rw[BN,e1,e2];exact k20
 have y21:h16.Ext ((h18.back (h18.quiet.AFh 0 (AZ k'))).back h20):=Hp.Ext.AGo (Hp.Ext.AGo y18 (y18.quiet.AFh _ _)) x20;have AIS:((h18.back (h18.quiet.AFh 0 (AZ k'))).back h20).KO h16.next lv' (ks++[k']):=ALa.same rfl;generalize h18.back (h18.quiet.AFh 0 (AZ k'))=h19 at qs q20 y21 AIS;generalize h19.back h20=h21 at q20 y21 AIS;have s21:=s16.ext W16 y21;have onl:cellsOf lv'=[lv']/\oneCell lv'=true:=⟨AIS.lst.one.1,AIS.lst.one.2.1⟩;obtain⟨h22,ALb,AII,n22,_,f22,_⟩:=Mc y21.wf s21.row (off:=3) (show 3<7 by omega) s.ne.2.2.2.2 onl.1 onl.2;have AII:h22.Row A.bs 0 (slL A.bd A.tb lv' fv' bad false):=AII;have AIJ:∀ b,A.D b->b<h16.next:=fun b hb=>by have:=AIo b hb;have:=x15.next;have:=f16.next;omega
 have AKc:h22.KO h16.next lv' (ks++[k']):=AIS.keep fun b el L hb r=>f22.row y21.wf r (fun h=>by
  have:=(AIS.blk y21.wf hb).1;have:=AIJ A.bs (.inl rfl);omega)
 have bsv:h22.BS (fun b=>¬ A.D b) vc (l.map bv):=by
  have ALc:=(((mk1.ext x1.wf y3).ext x3.wf ((y4.trans x5).trans x6)).ext x46.wf (y8.trans AIR)).ext x11.wf x12;rcases ALc with ⟨e1,e2⟩|⟨bq,eq,e1,e2,e3,e4⟩
  ·exact .inl ⟨e1,by rw[e2];rfl⟩
  ·have hb':¬ A.D bq:=fun h=>by have:=hD _ h;omega
   have r13:=AKV _ _ _ e2 e3;have r16:=f16.row x15.wf ((f14.row x13.wf r13 (ax hb')).ext f14.wf x15) (nbs _ hb');exact .inr ⟨bq,0,l.length,eq,_,by rw[OF];exact e1,by rw[OF];exact IT _,f22.row y21.wf (r16.ext W16 y21) (nbs _ hb'),by omega,by rw[zr,AAF],hb',e2⟩
 have s22:Sl h22 A T (D5 T M p l (AF8 T a b c 1 l)) c14 AHF (ks++[k']) fr lv' fv' bad false:=s21.bsx y21.wf f22 AII (by
   refine Hp.KW.ks ?_;rcases AKc with ⟨h1,h2⟩|⟨b,h1,h2,h3,_⟩
   ·exact .inl ⟨h1,h2⟩
   ·exact .inr ⟨b,h1,h2,fun h=>by have:=AIJ b h;omega⟩) (fun x hx=>by
   rcases zK.1 hx with hx|hx
   ·exact⟨(s21.ko x hx).1.keep fun b el L hb _ r=>f22.row y21.wf r (nbs b hb),(s21.ko x hx).2⟩
   ·rw[zB.1 hx,<- hk']
    exact⟨bsv,hb,hl,.inl rfl,hr,by show p<65536;omega⟩)
  (s21.fs.keep fun b el L hb r=>f22.row y21.wf r (nbs b hb)) ⟨by rw[No];show ks.length+1<=1000;omega,s16.le.2.1,s16.le.2.2.1,s16.le.2.2.2⟩
 have AHL:k'.core=⟨a,b,c,1,l,p⟩:=by rw[<- hk'];rfl
 obtain⟨_,_,_,l3z,_⟩:=BG s22.row;obtain⟨bl,hlw,Rl,hbk,AHX⟩:∃ bl,lv'=.slice (some ⟨bl,0,none⟩) (ks++[k']).length (ks++[k']).length/\h22.Row bl 124 (flK (ks++[k']))/\h16.next<=bl/\256<=bl:=by
  rcases AKc with ⟨_,h2⟩|h2
  ·have:=congrArg List.length h2
   simp at this
  ·exact h2
 have nbl:¬ A.D bl:=fun h=>by have:=AIJ bl h;omega
 obtain⟨h23,k23,f23,R23⟩:=SJ (m:=m+1) (Z:=[]) (n:=(ks++[k']).length) (c:=(ks++[k']).length) f22.wf (by rw[yw];exact Rl) AHX rfl (IT _) (by rw[No];show ks.length+1<=12;omega) fun k hk=>(s22.ko k hk).1.vs.one.2.1
 rw[<- hlw]at k23;have s23:Sl h23 A T (D5 T M p l (AF8 T a b c 1 l)) c14 AHF (EN (ks++[k'])) fr lv' fv' bad false:=s22.lst f22.wf f23 nbl Rl (by
  rw[hlw,<- IV];exact(PX R23 rfl (IT _)).mono fun b hb=>by rw[show b=bl from hb];exact nbl) (fun k hk=>(Gh).1 hk) (IV _)
 have fx:Fx A.D h h23:=by
  have e1:Fx A.D h h13:=.of x13;have e2:Fx A.D h13 h14:=f14.mono fun b hb=>.inr hb
  have e3:Fx A.D h14 h15:=.of x15;have e4:Fx A.D h15 h16:=f16.mono fun b hb=>.inl hb
  have e5:Fx A.D h16 h21:=.of y21;have e6:Fx A.D h21 h22:=f22.mono fun b hb=>.inl hb
  have e7:=((((e1.trans e2).trans e3).trans e4).trans e5).trans e6;have a1:=x13.next;have a2:=f14.next;have a3:=x15.next;have a4:=f16.next;exact e7.fresh f23 (by omega)
 refine⟨h23,c14,AHF,lv',fv',k',?_,fx,s23,AHL,a14,fun b hb=>?_⟩;rotate_left
 ·rw[hku]at hb
  obtain⟨o,n,c,e⟩:=hb;rcases mk1 with ⟨e1,_⟩|⟨bq,eq,e1,_,_,e4⟩
  ·rw[e1]at e;cases e
  ·rw[e1]at e
   injection e with e
   injection e with e
   injection e with e
   omega
 rw[Ip rfl,Iv,p1,r1];unfold prC;have ALd:call AC (m+7) 100 [pt A.bs,AI AT (p:Int)] h11=.ok (AI AT ((p*3:Nat):Int)) h11:=k11;have ALe:call AC (m+7) 99 [pt A.bs,AI AT ((p*3:Nat):Int),vh] h11=.ok dv2 h12:=k12;have AJp:call AC (m+7) 101 [pt A.bs,dv3] h13=.ok (AI AT 0) h14:=k14;have ALf:call AC (m+7) 102 [wc] h14=.ok fv' h15:=k15;have ALg:call AC (m+7) 74 [lv',.func (.func 75) ⟨[]⟩ ⟨[]⟩] h22=.ok AFl h23:=k23;simp only[sT,By,BY,reduceIte,cA0,u0,u14,ALd,u15,ALe,BN,u17,k13,AJp,AK,AJ,c00,Ax,Al,AH,AN,If,AM,AP,l4'];rw[ct _ _ _ (by simp[AG])];simp only[sT,By,BY,reduceIte,cA0,u0,ALf,Ax,Al,AH,AN,If,AX,ALU,A1,AM,AP,l3m,q17,u12,ED,AJo,DV,Au,Am,ALY,u14,ALZ,qs,q20];rw[ALb _ _ _ _ (by simp[AG]) (by simp[AG])];simp only[sT,By,BY,reduceIte,u0,Ax,Al,AH,AN,If,AM,AP,l3z,cA0,ALg,lV0]
end
end
noncomputable section
open Go
set_option maxRecDepth 100000
theorem qP:cmS=BL (Ae 1 (A9 cmL)) cmE:=rfl
theorem qN:cmB=qO:=rfl
theorem MS:d59=Oo:=rfl
section
variable {F:AFi}{e:Env}{h h':Hp}{S:Nat->Prop}{A:At}{T M:List Nat}{c0 bad m k p:Nat}{arm:Int}{ks:List Kt}{fr:List Nat}{v lv fv:IN}
theorem Ze(W:h.Wf)(s:Sl h A T M c0 arm ks fr lv fv bad false){j:Nat}{kx:Kt}(hj:ks[j]? =some kx)(hs1:kx.s=1){a b c:Int}(hf:Fc (Bo a b c) 0 ks=(j:Int))(AGw:kx.a=a/\kx.b=b/\kx.c=c)(hst:CA a b c ks=false)(hp3:3*kx.p+3<=A.n)(hkl:ks.length<=1000)(ha:CB arm (k+5)):
  ∃ h' c1 AGB lv' e2,Oo (call AC (m+7)) (AS e0 0 [pt A.bs,AI AT a,AI AT b,AI AT c]) h=cmS (call AC (m+7)) e2 h'/\J 0 e2=pt A.bs/\J 1 e2=AI AT a/\J 2 e2=AI AT b/\J 3 e2=AI AT c/\J 15 e2=AFn/\J 16 e2=AI AT ((0:Nat):Int)/\Fx A.D h h'/\
   Sl h' A T (HI M kx.p (AF8 T a b c 2 kx.l)) c1 AGB (ks.set j {kx with s:=2}) fr lv' fv bad false/\CB AGB k:=by
 have big:=W.big;have hD:=s.AHz W;have hn:=s.dk.n1;have hjl:=(zG.1 hj).1;have hkm:=yz hj;obtain⟨o1,o2,o3,o4,o5,o6⟩:=s.ko kx hkm;obtain⟨rfl,rfl,rfl⟩:=AGw;have oc:=o1.vs.one;have c00:iNe 0 0=false:=CH rfl;have k0:=NU (m:=m+6) s.row;obtain⟨h1,k1,x1⟩:=F5 (m:=m+4) W s.row s.ls.ks (by omega) kx.a kx.b kx.c;rw[hf]at k1;have c1:iGe (j:Int) 0=true:=F7 (by omega);have s1:=s.ext W x1;obtain⟨_,_,_,l3,_⟩:=BG s1.row;obtain⟨bb,_,ix,ld,lde⟩:=s1.ls.ks.at hj;have lst:=lde 3 (.int .u8 (kx.s:Int)) rfl;have c2:iEq (kx.s:Int) 2=false:=B6 (by omega);obtain⟨h2,k2,x2⟩:=Gi (m:=m+3) x1.wf s1.row s1.ls.ks (by omega) kx.a kx.b kx.c;rw[hst]at k2;have x12:=x1.trans x2;have s2:=s.ext W x12;have c3:iLt (j:Int) 0=false:=Fb (by omega);obtain⟨_,_,_,l3',_⟩:=BG s2.row;obtain⟨bb2,_,ix2,ld2,_⟩:=s2.ls.ks.at hj;have al:=fun (F:AFi) (e:Env)=>BW (F:=F) (e:=e) x12.wf (n:=6) (t:=CU)
 have Ra:=Hp.Row.alloc x12.wf FF (show(AZ K0).length=6 from rfl);have y3:h2.Ext (h2.push (.cells CU 6 0)):=(Hp.Ext.refl x12.wf).push _;have n3:(h2.push (.cells CU 6 0)).next=h2.next+1:=rfl;generalize h2.push (.cells CU 6 0)=h3 at al Ra y3 n3;obtain⟨st,_,y4,R11,n4⟩:=K7 x12.wf y3 (IT _) Ra rfl (k:=kx) oc.2.1;generalize h3.wr h2.next 0 (AZ kx)=h4 at st y4 R11 n4;have AFs:256<=h2.next:=by have:=x12.next;omega
 obtain⟨h5,st5,R5,n5,f5,e5⟩:=Dt y4.wf R11 (off:=3) (show 3<6 by omega) AFs (v:=.int .u8 2) rfl rfl;have y5:=e5 h2 y4 (IT _);generalize hkx:({kx with s:=2}:Kt)=X;have R5:h5.Row h2.next 0 (AZ X):=by rw[<- hkx];exact R5
 have x5:=x12.trans y5;have pre:∃ e1,Oo (call AC (m+7)) (AS e0 0 [pt A.bs,AI AT kx.a,AI AT kx.b,AI AT kx.c]) h=cmB (call AC (m+7)) e1 h5/\J 0 e1=pt A.bs/\J 1 e1=AI AT kx.a/\J 2 e1=AI AT kx.b/\J 3 e1=AI AT kx.c/\J 10 e1=AI AT (j:Int)/\J 11 e1=pt h2.next:=by
  unfold Oo;simp only[iN,IS,sT,By,BY,reduceIte,gD,cA0,k0,AK,AJ,c00,k1,c1,Ax,Al,AH,AN,If,AAE,AM,AP,l3,BB,ix,lst,c2,k2,c3,l3',ix2,Au,Am,ld2,al,AX,st,st5];exact⟨_,rfl,by simp[AG]⟩
 obtain⟨e1,p1,t0,t1,t2,t3,t10,t11⟩:=pre;have x5m:=x5.marked;have s5m:=s.ext W x5m;have R5m:h5.marked.Row h2.next 0 (AZ X):=R5.same rfl;obtain⟨_,_,_,_,_,_,_,ld5⟩:=Bw R5m;obtain⟨_,l1m,_⟩:=BG s5m.row;have hX:X.a=kx.a/\X.b=kx.b/\X.c=kx.c/\X.s=2/\X.u=kx.u/\X.l=kx.l/\X.p=kx.p:=by rw[<- hkx];exact⟨rfl,rfl,rfl,rfl,rfl,rfl,rfl⟩
 obtain⟨e6a,e6b,e6c,e6s,e6u,e6l,e6p⟩:=hX;rw[e6a,e6b,e6c,e6s,e6u]at ld5;have bsu:=(s5m.ko kx hkm).1;have hr2:AFx kx.a kx.b kx.c 2 kx.l.length=true:=by
  obtain⟨g1,g2,g3,g4,g5,g6,g7,g8⟩:=EL o5;exact decide_eq_true ⟨g1,g2,g3,g4,g5,g6,.inr rfl,g8⟩
 have hH:=GY (T:=T) hr2;have hHb:=Mg (T:=T) (a:=kx.a) (b:=kx.b) (c:=kx.c) (s:=2) (l:=kx.l);obtain⟨h6,x6,hd⟩:=VL (n:=m+4) x5m.quiet.wf ((s5m.tab).same (h':=h5.marked.quiet) rfl) s.tok (a:=kx.a) (b:=kx.b) (c:=kx.c) (s:=2) (bsu.vs.vals.same (h':=h5.marked.quiet) rfl) o2 (by omega) (by omega);rcases hd with ⟨_,vh,k6,mkh⟩|⟨hrf,_⟩
 case inr=>rw[hr2]at hrf;cases hrf
 have q6:∀ e:Env,J 65 e=pt A.tb->J 67 e=Bu kx.a kx.b kx.c 2 kx.u->Ad .free (AU 98 [J 65,J 67]) (call AC (m+7)) e h5.marked=.ok (.tuple ⟨[vh,AI AT 0]⟩) (h5.marked.back h6):=fun e e1 e2=>by
  refine BO ?_;rw[BR,AV,AV,A3,e1,e2];exact k6
 have y7:h5.Ext (h5.marked.back h6):=(Hp.Ext.refl x5.wf).marked.trans (.back x6);have mk7:Mk (h5.marked.back h6) h5.next vh (AF8 T kx.a kx.b kx.c 2 kx.l):=mkh.same rfl;generalize h5.marked.back h6=h7 at q6 y7 mk7;have x7:=x5.trans y7;have s7:=s.ext W x7;obtain⟨_,_,_,_,_,lp7,_⟩:=Bw (R5.ext x5.wf y7);rw[e6p]at lp7;have k7:=Nk (m:=m+5) s7.row (p:=kx.p) (by omega);obtain⟨h8,dv,k8,x8,D8⟩:=LD (m:=m+6) x7.wf s7.row (fun b hb=>by have:=hD b hb;have:=x7.next;omega) (sct:=kx.p * 3) (by omega) mk7 (by omega);rw[hH,show(zu ((64+63) / 64)).map (fun j=>AGY.w (kx.p * 3+j) (C4 (AF8 T kx.a kx.b kx.c 2 kx.l) j))++[.f]=GK kx.p (C4 (AF8 T kx.a kx.b kx.c 2 kx.l) 0)from rfl,P7 hH]at D8;have x8':=x7.trans x8;have s8:=s.ext W x8';obtain⟨vs,w1,w2,w3⟩:=D8.ends fun b hb=>by have:=hD b hb;have:=x7.next;omega
 obtain⟨h9,c9,AHt,k9,f9,d9,ea⟩:=Sb (m:=m+2) x8'.wf s8.row s.nK s8.dk w1 w2 w3 (Vv hp3 hH hHb) (ha.le (by show 2<=_;omega)) (by show 2<=100;omega);have d9:Dk h9 A.bd A.bm A.bc A.n (HI M kx.p (AF8 T kx.a kx.b kx.c 2 kx.l)) c9 [] AHt false:=d9;have s9:Sl h9 A T (HI M kx.p (AF8 T kx.a kx.b kx.c 2 kx.l)) c9 AHt ks fr lv fv bad false:=(s8.sc.fx x8'.wf f9).sl d9;have a9:CB AHt k:=by rw[ea];exact Ha _ k arm (ha.le (by show 2+k<=_;omega))
 have AKd:¬ A.D h2.next:=fun h=>by have:=hD _ h;have:=x12.next;omega
 have R9:=f9.row x8'.wf ((R5.ext x5.wf y7).ext x7.wf x8) (ax AKd);obtain⟨_,_,_,l39,_⟩:=BG s9.row;have hu:∀ k∈ks,oneCell k.u=true:=fun k hk=>(s9.ko k hk).1.vs.one.2.1
 obtain⟨h10,w10,k10,x10,AI9⟩:=Sr (m:=m+6) f9.wf s9.ls hu (fun h=>by rw[h]at hjl;cases hjl) (by omega);have s10:=s9.ext f9.wf x10;obtain⟨h11,ALh,AIK,n11,f11,_⟩:=Dt x10.wf s10.row (off:=3) (show 3<7 by omega) s.ne.2.2.2.2 (v:=w10) AI9.lst.one.1 AI9.lst.one.2.1;have AIK:h11.Row A.bs 0 (slL A.bd A.tb w10 fv bad false):=AIK;have nbs:∀ b,¬ A.D b->b≠A.bs:=fun b hb h=>hb (.inl h)
 have AJq:∀ b,A.D b->b<h9.next:=fun b hb=>by have:=hD b hb;have:=x8'.next;have:=f9.next;omega
 have AKe:h11.KO h9.next w10 ks:=AI9.keep fun b el L hb r=>f11.row x10.wf r (fun h=>by
  have:=(AI9.blk x10.wf hb).1;have:=AJq A.bs (.inl rfl);omega)
 have s11:Sl h11 A T (HI M kx.p (AF8 T kx.a kx.b kx.c 2 kx.l)) c9 AHt ks fr w10 fv bad false:=s10.bsx x10.wf f11 AIK (by
   refine Hp.KW.ks ?_;rcases AKe with ⟨h1,h2⟩|⟨b,h1,h2,h3,_⟩
   ·exact .inl ⟨h1,h2⟩
   ·exact .inr ⟨b,h1,h2,fun h=>by have:=AJq b h;omega⟩) (fun x hx=>⟨(s10.ko x hx).1.keep fun b el L hb _ r=>f11.row x10.wf r (nbs b hb),(s10.ko x hx).2⟩) (s10.fs.keep fun b el L hb r=>f11.row x10.wf r (nbs b hb)) s10.le
 have AJr:=f11.row x10.wf (R9.ext f9.wf x10) (nbs _ AKd);have W11:=f11.wf;have xm:=(Hp.Ext.refl W11).marked;have ALi:=s11.ext W11 xm;obtain⟨_,_,_,l3m,_⟩:=BG ALi.row;obtain⟨_,_,_,_,_,_,ALj,_⟩:=Bw (AJr.same (h':=h11.marked) rfl);rcases AKe with ⟨_,AIF⟩|⟨bl,hw,Rl,hbk,AHX⟩
 ·rw[AIF]at hjl;cases hjl
 have ixl:AGa 6 w10 (AI AT (j:Int)) h11.marked=.ok (.pointer (some ⟨bl,6*j,none⟩)) h11.marked:=by
  rw[hw];have:=DB (h:=h11.marked) (n:=ks.length) (c:=ks.length) (es:=6) (b:=bl) (off:=0) (i:=j) (k:=.i64) hjl
  rwa [If,Nat.mul_comm]at this
 have Rq:h11.marked.quiet.Row bl 124 (flK ks):=Rl.same rfl;have hXu:oneCell X.u=true:=by rw[e6u];exact oc.2.1
 have hoo:6*j+(AZ X).length<=(flK ks).length:=by rw[Cd];show 6*j+6<=_;omega
 have stq:=Rq.AFr (n:=6) (off:=6 * j) (v:=ktV X) xm.wf.quiet AHX rfl hoo (Gq hXu);have wrq:=Rq.AFu xm.wf.quiet hoo;rw[Ox ks j X hjl]at wrq;have fxq:=Fx.wr (S:=fun b=>b=bl) xm.wf.quiet Rq hoo rfl;have stq:AFr 6 (.pointer (some ⟨bl,6 * j,none⟩)) (ktV X) h11.marked.quiet=.ok AFl (h11.marked.quiet.wr bl (6 * j) (AZ X)):=stq;generalize h11.marked.quiet.wr bl (6 * j) (AZ X)=q at stq wrq fxq;have q12:∀ (F:AFi) (e:Env),J 97 e=.pointer (some ⟨bl,6 * j,none⟩)->J 96 e=ktV X->Ad .free (Ac 6 (J 97) (J 96)) F e h11.marked=.ok AFl (h11.marked.back q):=fun F e e1 e2=>BO (by rw[AX,e1,e2];exact stq)
 have f12:Fx (fun b=>b=bl) h11 (h11.marked.back q):=((fxq.from (h:=h11.marked) rfl rfl).same (h2:=h11.marked.back q) rfl rfl).from (h:=h11) rfl rfl;have AKf:(h11.marked.back q).Row bl 124 (flK (ks.set j X)):=wrq.same rfl;generalize h11.marked.back q=h12 at q12 f12 AKf;have nbl:¬ A.D bl:=fun h=>by have:=AJq bl h;omega
 have hsl:(ks.set j X).length=ks.length:=List.length_set;have AJA:∀ b el L,b≠bl->h11.Row b el L->h12.Row b el L:=fun b el L hb r=>f12.row W11 r hb
 have AIT:∀ b el L,(el=0\/el=6\/el=4)->h11.Row b el L->b≠bl:=fun b el L he r=>EE r Rl (by omega)
 have s12:Sl h12 A T (HI M kx.p (AF8 T kx.a kx.b kx.c 2 kx.l)) c9 AHt (ks.set j X) fr w10 fv bad false:=by
  refine⟨AJA _ _ _ (AIT _ _ _ (.inl rfl) s11.row) s11.row,s11.dk.fr W11 f12 (AIT _ _ _ (.inl rfl) s11.dk.disk) (AIT _ _ _ (.inl rfl) s11.dk.med) (fun h=>(J0 Rl s11.dk.map) h.symm),AJA _ _ _ (AIT _ _ _ (.inl rfl) s11.tab) s11.tab,s.tok,Hp.KW.ks (.inr ⟨bl,by rw[hsl];exact hw,AKf,nbl⟩),fun x hx=>?_,?_,s.ne,by rw[hsl];exact s11.le⟩
  ·have kp:=fun (x:Kt) (hx:x∈ks)=>(s11.ko x hx).1.keep (h':=h12) fun b el L hb he r=>AJA b el L (AIT b el L (by omega) r) r
   rcases List.mem_or_eq_of_mem_set hx with h1|h1
   ·exact⟨kp x h1,(s11.ko x h1).2⟩
   ·rw[h1]
    have:=kp kx hkm;refine⟨?_,?_,?_,.inr e6s,?_,?_⟩
    ·rw[e6u,e6l];exact this
    ·rw[e6l];exact o2
    ·rw[e6l];exact o3
    ·rw[e6a,e6b,e6c,e6s,e6l];exact hr2
    ·rw[e6p];exact o6
  ·rcases s11.fs with h1|⟨b,el,h1,h2,h3,h4⟩
   ·exact .inl h1
   ·exact .inr ⟨b,el,h1,AJA _ _ _ (AIT b el _ (by omega) h2) h2,h3,h4⟩
 have mid:∃ e2,cmB (call AC (m+7)) e1 h5=cmS (call AC (m+7)) e2 h12/\J 0 e2=pt A.bs/\J 1 e2=AI AT kx.a/\J 2 e2=AI AT kx.b/\J 3 e2=AI AT kx.c/\J 15 e2=AFn/\J 16 e2=AI AT ((0:Nat):Int):=by
  have k7':call AC (m+7) 100 [pt A.bs,AI AT (kx.p:Int)] h7=.ok (AI AT ((kx.p*3:Nat):Int)) h7:=k7;have k8':call AC (m+7) 99 [pt A.bs,AI AT ((kx.p*3:Nat):Int),vh] h7=.ok dv h8:=k8;have k9':call AC (m+7) 101 [pt A.bs,dv] h8=.ok (AI AT 0) h9:=k9;have ALk:call AC (m+7) 103 [lv] h9=.ok w10 h10:=k10;rw[qN];unfold qO;simp only[sT,By,BY,reduceIte,A1,Ax,t0,Al,AH,AN,If,AAE,AM,AP,l1m,Au,Am,t11,ld5,q6,A7,BC,BE,lp7,cA0,k7',k8',k9',AK,AJ,c00,l39,ALk,AX,ALh,l3m,ALj,BB,t10,ixl,q12];exact⟨_,rfl,by simp[AG,t0,t1,t2,t3]⟩
 obtain⟨e2,r1,u0,u1,u2,u3,u15,u16⟩:=mid;have AJB:Fx A.D h h12:=by
  have e1:Fx A.D h h8:=.of x8';have e2:Fx A.D h8 h9:=f9.mono fun b hb=>.inr hb
  have e3:Fx A.D h9 h10:=.of x10;have e4:Fx A.D h10 h11:=f11.mono fun b hb=>.inl hb
  have e14:=((e1.trans e2).trans e3).trans e4;refine⟨zO e14.next f12.next,fun i hi hs=>?_,f12.wf,fun L q1 q2 q3=>f12.low L (e14.low L q1 q2 q3) (zO q2 e14.next) fun b hb=>by have:=x8'.next;have:=f9.next;omega⟩;rw[f12.get i (by have:=e14.next;omega) (fun h=>by have:=x8'.next;have:=f9.next;omega),e14.get i hi hs]
 exact⟨h12,c9,AHt,w10,e2,p1.trans r1,u0,u1,u2,u3,u15,u16,AJB,hkx ▸ s12,by rw[ea];exact Ha _ _ arm (ha.le (by show 2+k<=_;omega))⟩
end
end
noncomputable section
open Go
set_option maxRecDepth 100000
theorem dB:Lj.k=.slice 5:=by kernel_rfl
theorem qL{n:Nat}{h:Hp}(W:h.Wf){u:IN}{xs:List IN}(V:h.AF5 u xs)(ha:Bc xs=true)(hl:xs.length<=1000000):
  ∃ h' v,call AC (n+1) 93 [u] h=.ok v h'/\h.Ext h'/\h'.Cl (fun b=>h.next<=b/\b<h'.next) 5 v xs:=by
 rcases V with ⟨rfl,rfl⟩|⟨b,off,c,el,L,h1,h2,h3,h4⟩
 ·have ne:∀ e:Env,J 0 e=.slice none 0 0->oEq Lj.k false (J 0) (kV (.slice none 0 0)) (call AC n) e h=.ok (.bool true) h:=fun e he=>Jo (t:=0) dB he
  refine⟨h,AFn,?_,.refl W,.inl ⟨rfl,rfl⟩⟩;rw[Iq rfl];unfold d93;simp only[iN,IS,sT,By,BY,reduceIte,ne,lV0]
 ·have V:h.AF5 u xs:=.inr ⟨b,off,c,el,L,h1,h2,h3,h4⟩
  have x1:=(Hp.Ext.refl W).AFh 0 [];have R:=Hp.Row.new W 0 [];have es:=fun (e:Env) (t:List IN)=>Kg (F:=call AC n) (e:=e) (t:=t) W
  have n1:(h.AFh 0 []).next=h.next+1:=rfl;generalize h.AFh 0 []=g at x1 R es n1;have ne:∀ e:Env,J 0 e=u->oEq Lj.k false (J 0) (kV (.slice none 0 0)) (call AC n) e h=.ok (.bool false) h:=fun e he=>Jn (t:=0) dB (he.trans h1)
  have V1:=V.ext W x1;have big:=W.big;rcases za xs.length with hz|hz
  ·obtain rfl:xs=[]:=zc hz
   have ap:DU 1 1 5 (.slice (some ⟨h.next,0,none⟩) 0 0) u g=.ok (.slice (some ⟨h.next,0,none⟩) 0 0) (g.wr h.next 0 []):=Hr x1.wf big R (fun k=>V1.src rfl k) V1.lenV;have R2:=R.AFu x1.wf (off:=0) (vs:=[]) (IT _);refine⟨_,.slice (some ⟨h.next,0,none⟩) 0 0,?_,R.AGE x1 (IT _) (off:=0) (vs:=[]) (IT _),.inr ⟨h.next,0,rfl,R2,.inr ⟨rfl,rfl⟩,⟨IT _,?_⟩,big⟩⟩
   ·rw[Iq rfl]
    unfold d93;simp only[iN,IS,sT,By,BY,reduceIte,ne,es,BN,ap,lV0]
   ·have:=R.AGN (off:=0) (vs:=[]) (IT _)
    omega
  ·obtain⟨h2,a1,a2,a3,a4,a5⟩:=Ep (eb:=1) (en:=5) x1 R (es:=1) (fun k=>V1.src rfl k) V1.lenV (by omega) hz ha (by omega)
   refine⟨h2,_,?_,a2,.inr ⟨g.next,5+1,rfl,a3,.inl rfl,⟨by omega,by omega⟩,by omega⟩⟩;rw[Iq rfl];unfold d93;simp only[iN,IS,sT,By,BY,reduceIte,ne,es,BN,a1,lV0]
theorem aB:eqS=BL (Ae 0 (A9 ebB)) eqE:=rfl
theorem Sw:d96=Zq:=rfl
section
variable {F:AFi}{e:Env}{h h':Hp}{S:Nat->Prop}{A:At}{bad m k p:Nat}{ks:List Kt}{fr:List Nat}{v lv fv:IN}{ov:Bool}
theorem Nv(W:h.Wf){u v:IN}{a b:List Nat}(U:h.AF5 u (a.map bv))(V:h.VE v (b.map bv))(hl:a.length<=900000):∃ h',call AC (m+1) 96 [u,v] h=.ok (.bool (decide (a=b))) h'/\h.Ext h':=by
 have Ul:=U.bl h;have Vl:=V.bl h;by_cases hab:a.length=b.length
 ·have c1:iNe (a.length:Int) (b.length:Int)=false:=by rw[He,hab];simp
  have pre:∃ e1,Zq (call AC m) (AS e0 0 [u,v]) h=eqS (call AC m) e1 h/\J 0 e1=u/\J 1 e1=v/\J 12 e1=AI AT (a.length:Int)/\J 13 e1=AI AT ((0:Nat):Int):=by
   unfold Zq;simp only[iN,IS,sT,By,BY,reduceIte,Ah,Ul,Vl,AK,AJ,c1];exact⟨_,rfl,by simp[AG]⟩
  obtain⟨e1,p1,s0,s1,s12,s13⟩:=pre;have run:(∃ e' h',A9 ebB (call AC m) e1 h=.exit 0 e' h'/\h.Ext h'/\a=b)\/(∃ e' h',A9 ebB (call AC m) e1 h=.ret e' h'/\h.Ext h'/\a≠b/\J 4 e'=.bool false):=by
   refine Bh (I:=fun i e' h'=>h.Ext h'/\J 0 e'=u/\J 1 e'=v/\J 12 e'=AI AT (a.length:Int)/\J 13 e'=AI AT (i:Int)/\i<=a.length/\(a=b↔a.drop i=b.drop i))
    (Q:=fun x=>(∃ e' h',x=.exit 0 e' h'/\h.Ext h'/\a=b)\/(∃ e' h',x=.ret e' h'/\h.Ext h'/\a≠b/\J 4 e'=.bool false)) a.length (by omega) (fun i e' h' ⟨x',t0,t1,t12,t13,hi,hr⟩=>?_) ⟨.refl W,s0,s1,s12,s13,zL _,by simp⟩
   by_cases hlt:i<a.length
   ·have xm:=x'.marked
    obtain⟨p,g1,g2⟩:=JJ (U.ext W xm) hlt;obtain⟨q,g3,g4⟩:=JJ ((V.ext W xm).vals (by rw[OF];omega)) (i:=i) (by omega);rw[GS hlt,GS (l:=b) (by omega)]at hr;generalize a.getD i 0=c at g2 hr;generalize b.getD i 0=d at g4 hr;have c1:=E9 hlt;by_cases hcd:c=d
    ·left
     subst hcd;have c2:iNe (c:Int) (c:Int)=false:=by rw[He];simp
     have a3:=Cc (i:=i) (h:=h'.marked) (by omega);have hrun:∃ e2,ebB (call AC m) e' h'=.norm e2 h'.marked/\J 0 e2=u/\J 1 e2=v/\J 12 e2=AI AT (a.length:Int)/\J 13 e2=AI AT ((i+1:Nat):Int):=by
      unfold ebB;simp only[sT,By,BY,reduceIte,AK,AJ,t13,t12,c1,A1,BB,t0,g1,AM,g2,t1,g3,g4,c2,BM,a3];exact⟨_,rfl,by simp[AG,t0,t1,t12]⟩
     obtain⟨e2,r1,r2,r3,r4,r5⟩:=hrun;refine⟨hlt,e2,h'.marked,r1,xm,r2,r3,r4,r5,hlt,hr.trans ?_⟩;simp
    ·right
     have c2:iNe (c:Int) (d:Int)=true:=by rw[He];simp;omega
     have hrun:∃ e2,ebB (call AC m) e' h'=.ret e2 h'.marked/\J 4 e2=.bool false:=by
      unfold ebB;simp only[sT,By,BY,reduceIte,AK,AJ,t13,t12,c1,A1,BB,t0,g1,AM,g2,t1,g3,g4,c2];exact⟨_,rfl,by simp[AG]⟩
     obtain⟨e2,r1,r2⟩:=hrun;rw[r1];refine⟨rfl,.inr ⟨e2,h'.marked,rfl,xm,fun h=>hcd ?_,r2⟩⟩;have:=hr.1 h;injection this
   ·right
    have c1:=DJ (show a.length<=i by omega);have hrun:∃ e2,ebB (call AC m) e' h'=.exit 0 e2 h':=by
     unfold ebB;simp only[sT,By,BY,reduceIte,AK,AJ,t13,t12,c1];exact⟨_,rfl⟩
    obtain⟨e2,r1⟩:=hrun;rw[r1];refine⟨rfl,.inl ⟨e2,h',rfl,x',hr.2 ?_⟩⟩;rw[zx (by omega),zx (by omega)]
  rcases run with ⟨e2,h2,r1,x2,r2⟩|⟨e2,h2,r1,x2,r2,r3⟩
  ·refine⟨h2,?_,x2⟩
   rw[Sp rfl,Sw,p1,aB,decide_eq_true r2];simp only[BJ,Az,r1,BD,BA];unfold eqE;simp only[sT,By,BY,reduceIte,lV0]
  ·refine⟨h2,?_,x2⟩
   rw[Sp rfl,Sw,p1,aB,decide_eq_false r2];simp only[BJ,Az,r1,CQ,DC,lV0,r3]
 ·have c1:iNe (a.length:Int) (b.length:Int)=true:=by rw[He];simp;omega
  refine⟨h,?_,.refl W⟩;rw[Sp rfl,Sw,decide_eq_false (fun h=>hab (by rw[h]))];unfold Zq;simp only[iN,IS,sT,By,BY,reduceIte,Ah,Ul,Vl,AK,AJ,c1,lV0]
theorem aC(W:h.Wf){u v:IN}{a b:List Nat}(U:h.AF5 u (a.map bv))(V:h.AF5 v (b.map bv))(hl:a.length<=900000):∃ h',call AC (m+1) 96 [u,v] h=.ok (.bool (decide (a=b))) h'/\h.Ext h':=Nv W U (.inl V) hl
theorem Da{e:Env}{h h':Hp}{g:O}{n:Nat}{v:IN}(hv:Ky n (g e) h=.ok v h'):En [.cN g n] e h=.ok v h:=by
 have h1:FO e h (.cN g n)=.ok v h':=hv;show(match FO e h (.cN g n)with|.ok v _=>AFv v fun v=>JX h [v]|.no=>.no)=_;rw[h1];simp only[BV];rfl
theorem IF{e:Env}{h:Hp}{g g1:O}{n:Nat}{v:IN}(hv:Ky n (g e) h=.ok v h):En [.cN g n,.t g1] e h=.ok (.tuple ⟨[v,g1 e]⟩) h:=by
 have h1:FO e h (.cN g n)=.ok v h:=hv;show(match FO e h (.cN g n)with|.ok v _=>AFv v fun v=>AFv (g1 e) (fun x=>JX h [v,x])|.no=>.no)=_;rw[h1];simp only[BV];rfl
theorem Hp.Cl.bs0{h:Hp}{S:Nat->Prop}{v:IN}{xs:List IN}(o:h.Cl S 5 v xs):h.BS S v xs:=by
 rcases o with h1|⟨b,el,h1,h2,h3,h4,h5⟩
 ·exact .inl h1
 ·exact .inr ⟨b,0,_,el,xs,h1,IT _,h2,by omega,by rw[zr,AAF],h4,h3.elim (fun h=>.inr h) (fun h=>.inl h.1)⟩
theorem V5(W:h.Wf){x:Kt}(U:h.AF5 x.u (x.l.map bv))(hl:x.l.length<=1000):∃ h' v',call AC (m+2) 68 [ktV x] h=.ok (Bu x.a x.b x.c x.s v') h'/\h.Ext h'/\oneCell v'=true/\h'.BS (fun b=>h.next<=b) v' (x.l.map bv):=by
 have bx:=fun (F:AFi) (e:Env) (he:J 0 e=ktV x)=>Hl (F:=F) W he
 have x1:=(Hp.Ext.refl W).AFh 0 (AZ x);have R1:=Hp.Row.new W 0 (AZ x);have n1:(h.AFh 0 (AZ x)).next=h.next+1:=rfl;generalize h.AFh 0 (AZ x)=h1 at bx x1 R1 n1;have al:=fun (F:AFi) (e:Env)=>BW (F:=F) (e:=e) x1.wf (n:=5) (t:=DP)
 have Ra:=Hp.Row.alloc x1.wf FQ (show(A8 0 0 0 0 AFn).length=5 from rfl);have y2:h1.Ext (h1.push (.cells DP 5 0)):=(Hp.Ext.refl x1.wf).push _;have n2:(h1.push (.cells DP 5 0)).next=h1.next+1:=rfl;generalize h1.push (.cells DP 5 0)=h2 at al Ra y2 n2;have x2:=x1.trans y2;have R2:=R1.ext x1.wf y2;obtain⟨_,_,_,_,l4,_⟩:=Bw R2;obtain⟨h3,v',k3,y3,c3⟩:=qL (n:=m) x2.wf (U.ext W x2) (DZ _) (by rw[OF];omega);have onv:cellsOf v'=[v']/\oneCell v'=true:=⟨c3.vs.one.1,c3.vs.one.2.1⟩;have R3:=R2.ext x2.wf y3;have Ra3:=Ra.ext y2.wf y3;have big:=W.big;obtain⟨h4,st4,R4,n4,f4,e4⟩:=Dt y3.wf R3 (off:=4) (show 4<6 by omega) big onv.1 onv.2;have x3:=x2.trans y3;have x4:=e4 h x3 (IT _);have R4:h4.Row h.next 0 (AZ ⟨x.a,x.b,x.c,x.s,x.l,x.p,v'⟩):=R4;obtain⟨_,_,_,_,_,_,_,ld⟩:=Bw R4;have Ra4:=f4.row y3.wf Ra3 (by omega);obtain⟨st5,ld5,x5,R5,n5⟩:=Lh W x4 (by omega) Ra4 rfl (a:=x.a) (b:=x.b) (c:=x.c) (s:=x.s) (u:=v') onv.2;have f5:=Fx.wr (S:=fun b=>b=h1.next) f4.wf Ra4 (vs:=A8 x.a x.b x.c x.s v') (off:=0) (IT _) rfl;generalize h4.wr h1.next 0 (A8 x.a x.b x.c x.s v')=h5 at st5 ld5 x5 R5 f5;have vs5:h5.BS (fun b=>h.next<=b) v' (x.l.map bv):=(c3.bs0.keep fun b el L hb _ r=>f5.row f4.wf (f4.row y3.wf r (by omega)) (by omega)).mono fun b hb=>by omega
 refine⟨h5,v',?_,x5,onv.2,vs5⟩;have k3:call AC (m+1) 93 [x.u] h2=.ok v' h3:=k3;have hrun:∃ e2,d68 (call AC (m+1)) (AS e0 0 [ktV x]) h=.ret e2 h5/\J 2 e2=pt h1.next:=by
  unfold d68;simp only[iN,IS,sT,By,BY,reduceIte,bx,al,AH,AN,If,AAE,AM,AP,l4,cA0,k3,AX,st4,Au,Am,ld,st5];exact⟨_,rfl,by simp[AG]⟩
 obtain⟨e2,r1,r2⟩:=hrun;rw[pn rfl,r1,BI,Da (h':=h5) (v:=Bu x.a x.b x.c x.s v') (by rw[r2,Am];exact ld5)]
theorem kA{g:O}{b:Nat}(hg:g e=pt b):oEq Hz.k false g (kV (.pointer none)) F e h=.ok (.bool false) h:=Gz WS hg
theorem iW(W:h.Wf)(R:h.Row A.bs 0 (slL A.bd A.tb lv fv bad ov))(K:h.KS S lv ks)(hk:∀ k∈ks,h.AF5 k.u (k.l.map bv)/\k.l.length<=1000)(hl:ks.length<=1000)(a b c:Int):
  ∃ h' v,call AC (m+5) 63 [pt A.bs,AI AT a,AI AT b,AI AT c] h=.ok (.tuple ⟨[v,.bool (ks.find? (Bo a b c)).isSome]⟩) h'/\h.Ext h'/\(cellsOf v).length=5/\Bc (cellsOf v)=true/\∀ kx,ks.find? (Bo a b c)=some kx->∃ u,v=Bu kx.a kx.b kx.c kx.s u/\h'.BS (fun b=>h.next<=b) u (kx.l.map bv):=by
 have al:=fun (F:AFi) (e:Env)=>BW (F:=F) (e:=e) W (n:=5) (t:=DP)
 have Ra:=Hp.Row.alloc W FQ (show(A8 0 0 0 0 AFn).length=5 from rfl);have x1:h.Ext (h.push (.cells DP 5 0)):=(Hp.Ext.refl W).push _;have n1:(h.push (.cells DP 5 0)).next=h.next+1:=rfl;generalize h.push (.cells DP 5 0)=h1 at al Ra x1 n1;obtain⟨h2,k2,y2⟩:=F5 (m:=m+1) x1.wf (R.ext W x1) (K.ext W x1) (by omega) a b c;have x2:=x1.trans y2;have p1:∀ (F:AFi) (e:Env) (g:Hp),J 0 e=pt A.bs->oEq Hz.k false (J 0) (kV (.pointer none)) F e g=.ok (.bool false) g:=fun F e g he=>kA he
 have fin:∀ (e2:Env) (g:Hp) (v:IN) (t:Bool),d63 (call AC (m+4)) (AS e0 0 [pt A.bs,AI AT a,AI AT b,AI AT c]) h=.ret e2 g->J 8 e2=pt h.next->J 9 e2=.bool t->loadN 5 ⟨h.next,0,none⟩ g=.ok v g->call AC (m+5) 63 [pt A.bs,AI AT a,AI AT b,AI AT c] h=.ok (.tuple ⟨[v,.bool t]⟩) g:=fun e2 g v t r1 r2 r3 hv=>by
  rw[pf rfl,r1,BI,IF (v:=v) (by rw[r2,Am];exact hv),r3]
 rcases Du (Bo a b c) ks 0 with ⟨e1,e2⟩|⟨j,kx,e1,e2,e3⟩
 ·rw[e2]at k2
  have c1:iLt (-1) 0=true:=Hd (by omega);obtain⟨st,ld,x3,_,_⟩:=Lh W x2 (IT _) (Ra.ext x1.wf y2) rfl (a:=0) (b:=0) (c:=0) (s:=0) (u:=AFn) rfl;generalize h2.wr h.next 0 (A8 0 0 0 0 AFn)=h3 at st ld x3;have hrun:∃ e2,d63 (call AC (m+4)) (AS e0 0 [pt A.bs,AI AT a,AI AT b,AI AT c]) h=.ret e2 h3/\J 8 e2=pt h.next/\J 9 e2=.bool false:=by
   unfold d63;simp only[iN,IS,sT,By,BY,reduceIte,al,p1,cA0,k2,AK,AJ,c1,Ds,AX,st];exact⟨_,rfl,by simp[AG]⟩
  obtain⟨e2,r1,r2,r3⟩:=hrun;rw[e1];exact⟨h3,_,fin e2 h3 _ false r1 r2 r3 ld,x3,rfl,rfl,fun kx hk=>by cases hk⟩
 ·rw[e3,If]at k2
  have c1:iLt (j:Int) 0=false:=Fb (by omega);obtain⟨_,_,_,l3,_⟩:=BG (R.ext W x2);obtain⟨bb,_,ix,ld6,_⟩:=(K.ext W x2).at e2;obtain⟨U,hul⟩:=hk kx (yz e2);obtain⟨h3,v',k3,y3,ov',vv'⟩:=V5 (m:=m+2) x2.wf (U.ext W x2) hul;have x3:=x2.trans y3;obtain⟨st,ld,x4,_,_⟩:=Lh W x3 (IT _) ((Ra.ext x1.wf y2).ext x2.wf y3) rfl (a:=kx.a) (b:=kx.b) (c:=kx.c) (s:=kx.s) (u:=v') ov';have f4:=Fx.wr (S:=fun b=>b=h.next) x3.wf ((Ra.ext x1.wf y2).ext x2.wf y3) (vs:=A8 kx.a kx.b kx.c kx.s v') (off:=0) (IT _) rfl;generalize h3.wr h.next 0 (A8 kx.a kx.b kx.c kx.s v')=h4 at st ld x4 f4;have hrun:∃ e2,d63 (call AC (m+4)) (AS e0 0 [pt A.bs,AI AT a,AI AT b,AI AT c]) h=.ret e2 h4/\J 8 e2=pt h.next/\J 9 e2=.bool true:=by
   unfold d63;simp only[iN,IS,sT,By,BY,reduceIte,al,p1,cA0,k2,AK,AJ,c1,Ax,Al,AH,AN,If,AM,AP,l3,BB,ix,Au,Am,ld6,k3,AX,st];exact⟨_,rfl,by simp[AG]⟩
  obtain⟨e2,r1,r2,r3⟩:=hrun;rw[e1];refine⟨h4,_,fin e2 h4 _ true r1 r2 r3 ld,x4,rfl,?_,fun k hk=>⟨v',by rw[<- Option.some.inj hk],by rw[<- Option.some.inj hk];exact(vv'.keep fun b el L hb _ r=>f4.row x3.wf r (by have:=y2.next;omega)).mono fun b hb=>zO x2.next hb⟩⟩;show(bif oneCell v' then true else false)=true;rw[ov'];rfl
theorem kH(R:h.Row A.bs 0 (slL A.bd A.tb lv fv bad ov))(V:h.AF5 fv (ints .i64 (fr.map zY))):call AC (m+1) 57 [pt A.bs] h=.ok (AI AT (fr.length:Int)) h:=by
 obtain⟨_,_,_,_,l4,_⟩:=BG R;have p1:∀ (F:AFi) (e:Env) (g:Hp),J 0 e=pt A.bs->oEq Hz.k false (J 0) (kV (.pointer none)) F e g=.ok (.bool false) g:=fun F e g he=>kA he
 have ln:=V.len;rw[show(ints .i64 (fr.map zY)).length=fr.length by unfold ints;rw[OF,OF]]at ln;rw[pX rfl];unfold d57;simp only[iN,IS,sT,By,BY,reduceIte,p1,Ax,Al,AH,AN,If,AM,AP,l4,Ah,ln,lV0]
end
end
noncomputable section
open Go
set_option maxRecDepth 100000
section
variable {F:AFi}{e:Env}{h h' h0:Hp}{S:Nat->Prop}{A:At}{T M:List Nat}{c0 bad m k p:Nat}{arm:Int}{ks:List Kt}{fr:List Nat}{v lv fv:IN}{ov:Bool}
def Y0(T M:List Nat)(k:Kt):Prop:=∃ ns,HF T M k.p ns/\(at6 ns 1:Int)=k.a/\(at6 ns 2:Int)=k.b/\(at6 ns 3:Int)=k.c/\at6 ns 0=k.s/\dat M k.p (at6 ns 4)=k.l
theorem Zm:d64=Xg:=rfl
theorem ch(W:h.Wf)(s:Sl h A T M c0 arm ks fr lv fv bad ov){j:Nat}{kx:Kt}(hj:ks[j]? =some kx){a b c:Int}(hf:Fc (Bo a b c) 0 ks=(j:Int))(AGw:kx.a=a/\kx.b=b/\kx.c=c)(hp3:3*kx.p+3<=A.n):
  ∃ h' r,call AC (m+6) 64 [pt A.bs,AI AT a,AI AT b,AI AT c] h=.ok (.bool r) h'/\h.Ext h'/\(r=true↔Y0 T M kx):=by
 obtain⟨rfl,rfl,rfl⟩:=AGw;have hkm:=yz hj;obtain⟨o1,o2,o3,o4,o5,o6⟩:=s.ko kx hkm;have p1:∀ (F:AFi) (e:Env) (g:Hp),J 0 e=pt A.bs->oEq Hz.k false (J 0) (kV (.pointer none)) F e g=.ok (.bool false) g:=fun F e g he=>kA he
 obtain⟨h1,k1,x1⟩:=F5 (m:=m+2) W s.row s.ls.ks (by have:=s.le.1;omega) kx.a kx.b kx.c;rw[hf]at k1;have c1:iLt (j:Int) 0=false:=Fb (by omega);have s1:=s.ext W x1;obtain⟨_,_,_,l3,_⟩:=BG s1.row;obtain⟨bb,_,ix,_,lde⟩:=s1.ls.ks.at hj;have lp:=lde 5 (AI AT (kx.p:Int)) rfl;obtain⟨h2,x2,LK⟩:=Vf (m:=m) x1.wf s1.row s1.tab s.tok s1.dk hp3;have x12:=x1.trans x2;have al:=fun (F:AFi) (e:Env)=>BW (F:=F) (e:=e) x12.wf (n:=6) (t:=CU)
 have Ra:=Hp.Row.alloc x12.wf FF (show(AZ K0).length=6 from rfl);have y3:h2.Ext (h2.push (.cells CU 6 0)):=(Hp.Ext.refl x12.wf).push _;have n3:(h2.push (.cells CU 6 0)).next=h2.next+1:=rfl;generalize h2.push (.cells CU 6 0)=h3 at al Ra y3 n3;have c00:iEq 0 0=true:=Cb rfl;rcases LK with ⟨ns,u,hH,hk,hu⟩|⟨hH,bd,hk,AHj⟩
 ·generalize hX:(⟨at6 ns 1,at6 ns 2,at6 ns 3,at6 ns 0,dat M kx.p (at6 ns 4),kx.p,u⟩:Kt)=X at hk
  have hXu:X.u=u:=by rw[<- hX]
  obtain⟨st,_,y4,R10,n4⟩:=K7 x12.wf y3 (IT _) Ra rfl (k:=X) (by rw[hXu];exact hu.vs.one.2.1);generalize h3.wr h2.next 0 (AZ X)=h4 at st y4 R10 n4;have x4:=x12.trans y4;have x4m:=x4.marked;have s4:=s.ext W x4m;obtain⟨m0,m1,m2,m3,m4,_⟩:=Bw (R10.same (h':=h4.marked) rfl);obtain⟨_,_,_,l34,_⟩:=BG s4.row;obtain⟨bb4,_,ix4,_,AKg⟩:=s4.ls.ks.at hj;have ls4:=AKg 3 (.int .u8 (kx.s:Int)) rfl;have lu4:=AKg 4 kx.u rfl;have hns:∀ ns',HF T M kx.p ns'->ns'=ns:=fun ns' h=>Ge h.1 hH.1
  have hXf:X.a=at6 ns 1/\X.b=at6 ns 2/\X.c=at6 ns 3/\X.s=at6 ns 0:=by rw[<- hX];exact⟨rfl,rfl,rfl,rfl⟩
  obtain⟨f1,f2,f3,f4⟩:=hXf;rw[f1]at m0;rw[f2]at m1;rw[f3]at m2;rw[f4]at m3;rw[hXu]at m4;have pre:∃ e1,Xg (call AC (m+5)) (AS e0 0 [pt A.bs,AI AT kx.a,AI AT kx.b,AI AT kx.c]) h=sdT (call AC (m+5)) e1 h4/\J 0 e1=pt A.bs/\J 1 e1=AI AT kx.a/\J 2 e1=AI AT kx.b/\J 3 e1=AI AT kx.c/\J 9 e1=AI AT (j:Int)/\J 10 e1=pt h2.next/\J 11 e1=.bool true/\J 13 e1=AI AT 0:=by
   unfold Xg;simp only[iN,IS,sT,By,BY,reduceIte,p1,cA0,k1,AK,AJ,c1,Ax,Al,AH,AN,If,AM,AP,l3,BB,ix,lp,hk,A7,BC,BE,Cx,El,al,AX,st];exact⟨_,rfl,by simp[AG]⟩
  obtain⟨e1,q1,t0,t1,t2,t3,t9,t10,t11,t13⟩:=pre;have fin:∀ (e2:Env) (g:Hp) (t:Bool),sdT (call AC (m+5)) e1 h4=.ret e2 g->J 8 e2=.bool t->call AC (m+6) 64 [pt A.bs,AI AT kx.a,AI AT kx.b,AI AT kx.c] h=.ok (.bool t) g:=fun e2 g t r1 r2=>by
   rw[ZR rfl,Zm,q1,r1];simp only[lV0,r2]
  by_cases g1:(at6 ns 1:Int)=kx.a
  ·have d1:iEq (at6 ns 1:Int) kx.a=true:=Cb g1
   by_cases g2:(at6 ns 2:Int)=kx.b
   ·have d2:iEq (at6 ns 2:Int) kx.b=true:=Cb g2
    by_cases g3:(at6 ns 3:Int)=kx.c
    ·have d3:iEq (at6 ns 3:Int) kx.c=true:=Cb g3
     by_cases g4:at6 ns 0=kx.s
     ·have d4:iEq (at6 ns 0:Int) (kx.s:Int)=true:=Cb (by omega)
      have hlen:(dat M kx.p (at6 ns 4)).length<=900000:=by
       unfold dat;rw[zJ];have:=hH.2.1;omega
      obtain⟨h5,k5,x5⟩:=aC (m:=m+4) x4m.quiet.wf ((hu.vs.vals.ext x12.wf y4).same (h':=h4.marked.quiet) rfl) ((s4.ko kx hkm).1.vs.vals.same (h':=h4.marked.quiet) rfl) hlen;have q5:∀ e:Env,J 82 e=u->J 91 e=kx.u->Ad .free (AU 96 [J 82,J 91]) (call AC (m+5)) e h4.marked=.ok (.bool (decide (dat M kx.p (at6 ns 4)=kx.l))) (h4.marked.back h5):=fun e e1 e2=>by
       refine BO ?_;rw[BR,AV,AV,A3,e1,e2];exact k5
      have hrun:∃ e2,sdT (call AC (m+5)) e1 h4=.ret e2 (h4.marked.back h5)/\J 8 e2=.bool (decide (dat M kx.p (at6 ns 4)=kx.l)):=by
       unfold sdT;simp only[sT,By,BY,reduceIte,gD,A1,AK,AJ,t13,c00,t11,t10,AH,AN,If,AAE,AM,AP,m0,m1,m2,m3,m4,t1,t2,t3,d1,d2,d3,t0,Ax,Al,l34,t9,BB,ix4,ls4,d4,lu4,q5];exact⟨_,rfl,by simp[AG]⟩
      obtain⟨e2,r1,r2⟩:=hrun;refine⟨_,_,fin e2 _ _ r1 r2,x4m.trans (.back x5),?_⟩;rw[decide_eq_true_eq];constructor
      ·exact fun h=>⟨ns,hH,g1,g2,g3,g4,h⟩
      ·rintro⟨ns',a1,_,_,_,_,a6⟩
       rw[hns ns' a1]at a6;exact a6
     ·have d4:iEq (at6 ns 0:Int) (kx.s:Int)=false:=B6 (by omega)
      have hrun:∃ e2,sdT (call AC (m+5)) e1 h4=.ret e2 h4.marked/\J 8 e2=.bool false:=by
       unfold sdT;simp only[sT,By,BY,reduceIte,gD,A1,AK,AJ,t13,c00,t11,t10,AH,AN,If,AAE,AM,AP,m0,m1,m2,m3,m4,t1,t2,t3,d1,d2,d3,t0,Ax,Al,l34,t9,BB,ix4,ls4,d4];exact⟨_,rfl,by simp[AG]⟩
      obtain⟨e2,r1,r2⟩:=hrun;refine⟨_,_,fin e2 _ _ r1 r2,x4m,⟨fun h=>(by cases h),?_⟩⟩;rintro⟨ns',a1,_,_,_,a5,_⟩;rw[hns ns' a1]at a5;exact absurd a5 g4
    ·have d3:iEq (at6 ns 3:Int) kx.c=false:=B6 g3
     have hrun:∃ e2,sdT (call AC (m+5)) e1 h4=.ret e2 h4.marked/\J 8 e2=.bool false:=by
      unfold sdT;simp only[sT,By,BY,reduceIte,gD,A1,AK,AJ,t13,c00,t11,t10,AH,AN,If,AAE,AM,AP,m0,m1,m2,t1,t2,t3,d1,d2,d3];exact⟨_,rfl,by simp[AG]⟩
     obtain⟨e2,r1,r2⟩:=hrun;refine⟨_,_,fin e2 _ _ r1 r2,x4m,⟨fun h=>(by cases h),?_⟩⟩;rintro⟨ns',a1,_,_,a4,_,_⟩;rw[hns ns' a1]at a4;exact absurd a4 g3
   ·have d2:iEq (at6 ns 2:Int) kx.b=false:=B6 g2
    have hrun:∃ e2,sdT (call AC (m+5)) e1 h4=.ret e2 h4.marked/\J 8 e2=.bool false:=by
     unfold sdT;simp only[sT,By,BY,reduceIte,gD,A1,AK,AJ,t13,c00,t11,t10,AH,AN,If,AAE,AM,AP,m0,m1,t1,t2,d1,d2];exact⟨_,rfl,by simp[AG]⟩
    obtain⟨e2,r1,r2⟩:=hrun;refine⟨_,_,fin e2 _ _ r1 r2,x4m,⟨fun h=>(by cases h),?_⟩⟩;rintro⟨ns',a1,_,a3,_⟩;rw[hns ns' a1]at a3;exact absurd a3 g2
  ·have d1:iEq (at6 ns 1:Int) kx.a=false:=B6 g1
   have hrun:∃ e2,sdT (call AC (m+5)) e1 h4=.ret e2 h4.marked/\J 8 e2=.bool false:=by
    unfold sdT;simp only[sT,By,BY,reduceIte,gD,A1,AK,AJ,t13,c00,t11,t10,AH,AN,If,AAE,AM,AP,m0,t1,d1];exact⟨_,rfl,by simp[AG]⟩
   obtain⟨e2,r1,r2⟩:=hrun;refine⟨_,_,fin e2 _ _ r1 r2,x4m,⟨fun h=>(by cases h),?_⟩⟩;rintro⟨ns',a1,a2,_⟩;rw[hns ns' a1]at a2;exact absurd a2 g1
 ·obtain⟨st,_,y4,R10,n4⟩:=K7 x12.wf y3 (IT _) Ra rfl (k:=K0) rfl
  generalize h3.wr h2.next 0 (AZ K0)=h4 at st y4 R10 n4;have x4m:=(x12.trans y4).marked;have hrun:∃ e2,Xg (call AC (m+5)) (AS e0 0 [pt A.bs,AI AT kx.a,AI AT kx.b,AI AT kx.c]) h=.ret e2 h4.marked/\J 8 e2=.bool false:=by
   unfold Xg sdT;simp only[iN,IS,sT,By,BY,reduceIte,gD,p1,cA0,k1,AK,AJ,c1,Ax,Al,AH,AN,If,AM,AP,l3,BB,ix,lp,hk,A7,BC,BE,Cx,El,al,AX,st,A1,c00];exact⟨_,rfl,by simp[AG]⟩
  obtain⟨e2,r1,r2⟩:=hrun;refine⟨h4.marked,false,?_,x4m,⟨fun h=>(by cases h),fun⟨ns',a1,_⟩=>absurd ⟨ns',a1⟩ hH⟩⟩;rw[ZR rfl,Zm,r1];simp only[lV0,r2]
theorem mf:aaS=BL (Ae 0 (A9 aaB)) aaE:=rfl
theorem qd:d40=gy:=rfl
theorem lD:Bb Ia.zero 1=A8 0 0 0 0 AFn:=by kernel_rfl
theorem ce(W:h.Wf){g:O}{a b c:Int}{s:Nat}{u:IN}(hg:g e=Bu a b c s u):As 1 (Bb Ia.zero 1) [(0,5,g)] F e h=.ok (.slice (some ⟨h.next,0,none⟩) 1 1) (h.AFh 0 (A8 a b c s u)):=by
 rw[lD,CR,Af (hk:=by rw[hg];rfl),hg,show cellsOf (Bu a b c s u)=A8 a b c s u from rfl,if_pos (show(A8 a b c s u).length=5 from rfl),if_pos (show 0+5<=(A8 0 0 0 0 AFn).length from IT _),Bs,C9 W];rfl
def Ka(k:Kt):List IN:=A8 k.a k.b k.c k.s k.u
def flS(L:List Kt):List IN:=L.flatMap Ka
theorem Oy:∀ L:List Kt,(flS L).length=L.length*5
 |[]=>rfl
 |k::l=>by
  show(Ka k++flS l).length=_;rw[No,Oy l,yh];show 5+l.length*5=_;omega
theorem iS(a b:List Kt):flS (a++b)=flS a++flS b:=List.flatMap_append
def Hp.AL(h:Hp)(k:Nat)(v:IN)(ks:List Kt):Prop:=(v=AFn/\ks=[])\/∃ b L,v=.slice (some ⟨b,0,none⟩) ks.length ks.length/\h.Row b 56 (flS L)/\L.map Kt.core=ks.map Kt.core/\k<=b/\∀ x∈L,h.BS (fun b=>k<=b) x.u (x.l.map bv)
theorem dX(W:h.Wf)(Rs:h.Row A.bs 0 (slL A.bd A.tb lv fv bad ov))(K:h.KS S lv ks)(hk:∀ k∈ks,h.AF5 k.u (k.l.map bv)/\k.l.length<=1000/\oneCell k.u=true)(hl:ks.length<=1000):
  ∃ h' v,call AC (m+4) 40 [pt A.bs] h=.ok v h'/\h.Ext h'/\h'.AL h.next v ks:=by
 have p1:∀ (F:AFi) (e:Env) (g:Hp),J 0 e=pt A.bs->oEq Hz.k false (J 0) (kV (.pointer none)) F e g=.ok (.bool false) g:=fun F e g he=>kA he
 obtain⟨_,_,_,l3,_⟩:=BG Rs;have ln:=K.len h;have pre:∃ e1,gy (call AC (m+3)) (AS e0 0 [pt A.bs]) h=aaS (call AC (m+3)) e1 h/\J 3 e1=AFn/\J 11 e1=lv/\J 12 e1=AI AT (ks.length:Int)/\J 13 e1=AI AT ((0:Nat):Int):=by
  unfold gy;simp only[iN,IS,sT,By,BY,reduceIte,p1,Ax,Al,AH,AN,If,AM,AP,l3,Ah,ln];exact⟨_,rfl,by simp[AG]⟩
 obtain⟨e1,q1,s3,s11,s12,s13⟩:=pre;have run:∃ e' h' v,A9 aaB (call AC (m+3)) e1 h=.exit 0 e' h'/\h.Ext h'/\J 3 e'=v/\h'.AL h.next v ks:=by
  refine Bh (I:=fun i e' h'=>∃ v,h.Ext h'/\J 3 e'=v/\J 11 e'=lv/\J 12 e'=AI AT (ks.length:Int)/\J 13 e'=AI AT (i:Int)/\i<=ks.length/\h'.AL h.next v (ks.take i))
   (Q:=fun x=>∃ e' h' v,x=.exit 0 e' h'/\h.Ext h'/\J 3 e'=v/\h'.AL h.next v ks) ks.length (by omega) (fun i e' h' ⟨v,x',t3,t11,t12,t13,hi,hv⟩=>?_) ⟨_,.refl W,s3,s11,s12,s13,zL _,.inl ⟨rfl,rfl⟩⟩
  have W':=x'.wf;by_cases hlt:i<ks.length
  ·left
   have c1:=E9 hlt;obtain⟨x,hx⟩:∃ x,ks[i]? =some x:=⟨_,List.getElem?_eq_getElem hlt⟩;obtain⟨U,ul,ou⟩:=hk x (yz hx);obtain⟨bb,_,ix,ld,_⟩:=(K.ext W x').at hx;have al:=fun (F:AFi) (e:Env)=>BW (F:=F) (e:=e) W' (n:=6) (t:=CU)
   have Ra:=Hp.Row.alloc W' FF (show(AZ K0).length=6 from rfl);have y1:h'.Ext (h'.push (.cells CU 6 0)):=(Hp.Ext.refl W').push _;generalize h'.push (.cells CU 6 0)=h1 at al Ra y1;obtain⟨st,ld2,y2,R5,n2⟩:=K7 W' y1 (IT _) Ra rfl (k:=x) ou;generalize h1.wr h'.next 0 (AZ x)=h2 at st ld2 y2 R5 n2;have x2:=x'.trans y2;obtain⟨h3,v',k3,y3,ov',vv'⟩:=V5 (m:=m+1) x2.wf (U.ext W x2) ul;have x3:=x2.trans y3;have sl:=fun (F:AFi) (e:Env) (he:J 19 e=Bu x.a x.b x.c x.s v')=>ce (F:=F) x3.wf he
   have x4:=x3.AFh 0 (A8 x.a x.b x.c x.s v');have y4:=(Hp.Ext.refl x3.wf).AFh 0 (A8 x.a x.b x.c x.s v');have Rw:=Hp.Row.new x3.wf 0 (A8 x.a x.b x.c x.s v');generalize h3.AFh 0 (A8 x.a x.b x.c x.s v')=h4 at sl x4 y4 Rw;have hs:∀ K:List IN->R,BP h4 5 (.slice (some ⟨h3.next,0,none⟩) 1 1) 1 K=K (A8 x.a x.b x.c x.s v'):=fun K=>Rw.AHh (es:=5) (off:=0) (n:=1) (by show 0+1 * 5<=5;omega)
   have ha:Bc (A8 x.a x.b x.c x.s v')=true:=by
    show(bif oneCell v' then true else false)=true;rw[ov'];rfl
   have big:=W.big;have htk:ks.take (i+1)=ks.take i++[x]:=by rw[List.take_add_one,hx];rfl
   have hil:(ks.take i).length=i:=by rw[zJ];omega
   have vn:h4.BS (fun b=>h.next<=b) v' (x.l.map bv):=(vv'.ext x3.wf y4).mono fun b hb=>by have:=x2.next;omega
   have app:∃ h5 b5 L5,DU 5 56 55 v (.slice (some ⟨h3.next,0,none⟩) 1 1) h4=.ok (.slice (some ⟨b5,0,none⟩) (i+1) (i+1)) h5/\h.Ext h5/\h5.Row b5 56 (flS L5)/\L5.map Kt.core=(ks.take (i+1)).map Kt.core/\h.next<=b5/\∀ y∈L5,h5.BS (fun b=>h.next<=b) y.u (y.l.map bv):=by
    rcases hv with ⟨hv,h0⟩|⟨b,L,hv,r,hL,hb,hvs⟩
    ·have h0:i=0:=by rw[h0]at hil;exact hil.symm
     obtain⟨h5,a1,a2,a3,a4,_,a6⟩:=Jm (eb:=56) (en:=55) x4 hs rfl rfl ha (by omega);exact⟨h5,_,[{x with u:=v'}],by rw[hv,h0];exact a1,a2,a3,by rw[htk,h0];rfl,x4.next,fun y hy=>by rw[zB.1 hy];exact vn.ext x4.wf a6⟩
    ·rw[hil]at hv
     have hLl:L.length=i:=by rw[<- OF (f:=Kt.core),hL,OF,hil]
     have r4:=((r.ext W' y2).ext x2.wf y3).ext x3.wf y4;obtain⟨h5,a1,a2,a3,_,_,a6⟩:=Je (eb:=56) (en:=55) (n:=i) x4 hs rfl rfl (by omega) ha r4 (by rw[Oy,hLl]) hb (by omega) (by omega);refine⟨h5,_,L++[{x with u:=v'}],by rw[hv];exact a1,a2,by rw[iS];exact a3,by rw[htk,zb,zb,hL];rfl,x4.next,fun y hy=>?_⟩;have kp:∀ y:Kt,h4.BS (fun b=>h.next<=b) y.u (y.l.map bv)->h5.BS (fun b=>h.next<=b) y.u (y.l.map bv):=fun y o=>by
      rcases o with h1|⟨b6,off,c,el,L6,q1,q2,q3,q4,q5,q6,q7⟩
      ·exact .inl h1
      ·exact .inr ⟨b6,off,c,el,L6,q1,q2,a6 b6 el L6 (EE q3 r4 (by omega)) q3,q4,q5,q6,q7⟩
     rcases zK.1 hy with h1|h1
     ·exact kp y ((((hvs y h1).ext W' y2).ext x2.wf y3).ext x3.wf y4)
     ·rw[zB.1 h1];exact kp _ vn
   obtain⟨h5,b5,L5,k5,x5,R5',hL5,hb5,ALl⟩:=app;have a3:=Cc (i:=i) (h:=h5) (by omega);have hrun:∃ e2,aaB (call AC (m+3)) e' h'=.norm e2 h5/\J 3 e2=.slice (some ⟨b5,0,none⟩) (i+1) (i+1)/\J 11 e2=lv/\J 12 e2=AI AT (ks.length:Int)/\J 13 e2=AI AT ((i+1:Nat):Int):=by
    unfold aaB;simp only[sT,By,BY,reduceIte,AK,AJ,t13,t12,c1,BB,t11,ix,Au,Am,ld,al,AX,st,ld2,cA0,k3,sl,BN,t3,k5,BM,a3];exact⟨_,rfl,by simp[AG,t11,t12]⟩
   obtain⟨e2,r1,r2,r3,r4,r5⟩:=hrun;exact⟨hlt,e2,h5,r1,_,x5,r2,r3,r4,r5,by omega,.inr ⟨b5,L5,by rw[htk,No,hil];rfl,R5',hL5,hb5,ALl⟩⟩
  ·right
   have hie:i=ks.length:=by omega
   have c1:=DJ (show ks.length<=i by omega);have hrun:∃ e2,aaB (call AC (m+3)) e' h'=.exit 0 e2 h'/\J 3 e2=v:=by
    unfold aaB;simp only[sT,By,BY,reduceIte,AK,AJ,t13,t12,c1];exact⟨_,rfl,by simp[AG,t3]⟩
   obtain⟨e2,r1,r2⟩:=hrun;rw[r1];rw[hie,AAF]at hv;exact⟨rfl,e2,h',v,rfl,x',r2,hv⟩
 obtain⟨e2,h2,v,r1,x2,r2,hv⟩:=run;have key:call AC (m+4) 40 [pt A.bs] h=.ok v h2:=by
  rw[pP rfl,qd,q1,mf];simp only[BJ,Az,r1,BD,BA];unfold aaE;simp only[sT,By,BY,reduceIte,r2,lV0]
 exact⟨h2,v,key,x2,hv⟩
end
end
noncomputable section
open Go
set_option maxRecDepth 100000
def Fk(ks:List Kt)(n:Nat)(a b c:Int)(l:List Nat):Option Int:=
 if AFx a b c 1 l.length=false\/100<l.length then some 2
 else match ks.find? (Bo a b c)with
  |some k=>if k.l=l then some 0 else some 60
  |none=>if CA a b c ks=true then some 61 else if n=0 then some 62 else none
section
variable {F:AFi}{e:Env}{h h':Hp}{A:At}{T M:List Nat}{c0 bad m k p:Nat}{arm:Int}{ks:List Kt}{fr:List Nat}{lv fv:IN}
theorem cJ(W:h.Wf)(s:Sl h A T M c0 arm ks fr lv fv bad false){a b c:Int}{l:List Nat}{u:IN}(V:h.VE u (l.map bv))(hl:l.length<=1000){z:Int}(hz:Fk ks fr.length a b c l=some z):
  ∃ h',call AC (m+8) 58 [pt A.bs,AI AT a,AI AT b,AI AT c,u] h=.ok (AI AT z) h'/\h.Ext h':=by
 have hkl:=s.le.1;have c00:iNe 0 0=false:=CH rfl;have k0:=NU (m:=m+6) s.row;obtain⟨h1,vc,k1,x1,mk1⟩:=Nr (n:=m+6) W V (by omega);have oc:=mk1.one;have bl:=fun (F:AFi) (e:Env) (e1:J 1 e=AI AT a) (e2:J 2 e=AI AT b) (e3:J 3 e=AI AT c) (e4:J 28 e=vc)=>P5 (F:=F) (h:=h1) (g1:=J 1) (g2:=J 2) (g3:=J 3) (g5:=J 28) e1 e2 e3 e4 oc.1 oc.2.2
 have al:=fun (F:AFi) (e:Env)=>BW (F:=F) (e:=e) x1.wf (n:=5) (t:=DP)
 have Ra:=Hp.Row.alloc x1.wf FQ (show(A8 0 0 0 0 AFn).length=5 from rfl);have y2:h1.Ext (h1.push (.cells DP 5 0)):=(Hp.Ext.refl x1.wf).push _;generalize h1.push (.cells DP 5 0)=h2 at al Ra y2;obtain⟨st,_,y3,R12,n3⟩:=Lh x1.wf y2 (IT _) Ra rfl (a:=a) (b:=b) (c:=c) (s:=1) (u:=vc) oc.2.1;generalize h2.wr h1.next 0 (A8 a b c 1 vc)=h3 at st y3 R12 n3;have x3:=x1.trans y3;obtain⟨_,_,_,_,_,AH0⟩:=Bz R12;have lnc:∀ g,AGQ vc g=.ok (AI AT (l.length:Int)) g:=fun g=>mk1.vals.bl g
 have k4:=Jz (n:=m+6) x3.wf (a:=a) (b:=b) (c:=c) (s:=1) (u:=vc) lnc;have y4:=(Hp.Ext.refl x3.wf).AFh 0 (A8 a b c 1 vc);generalize h3.AFh 0 (A8 a b c 1 vc)=h4 at k4 y4;have x4:=x3.trans y4;have lnu:∀ g:Hp,AGQ u g=.ok (AI AT (l.length:Int)) g:=fun g=>V.bl g
 obtain⟨_,_,l2,_⟩:=BG (s.row.ext W x4);have s4:=s.ext W x4;unfold Fk at hz;by_cases hr:AFx a b c 1 l.length=false
 ·rw[if_pos (.inl hr)]at hz
  cases hz;rw[hr]at k4;refine⟨h4,?_,x4⟩;rw[Ip rfl,Iv];unfold NX;simp only[iN,IS,sT,By,BY,reduceIte,gD,cA0,k0,AK,AJ,c00,k1,bl,al,AX,st,Au,Am,AH0,k4,Be,Bd,Bool.not_false,lV0]
 ·have hr':AFx a b c 1 l.length=true:=by
   cases hq:AFx a b c 1 l.length
   ·exact absurd hq hr
   ·rfl
  rw[hr']at k4;by_cases AHs:100<l.length
  ·rw[if_pos (.inr AHs)]at hz
   cases hz;have c1:iGt (l.length:Int) 100=true:=GZ (by omega);refine⟨h4,?_,x4⟩;rw[Ip rfl,Iv];unfold NX;simp only[iN,IS,sT,By,BY,reduceIte,gD,cA0,k0,AK,AJ,c00,k1,bl,al,AX,st,Au,Am,AH0,k4,Be,Bd,ze,Ah,lnu,Ax,Al,AH,AN,If,AM,AP,l2,c1,lV0]
  ·rw[if_neg (by
    rintro (h|h)
    ·exact hr h
    ·exact AHs h)]at hz
   have c1:iGt (l.length:Int) 100=false:=Fa (by omega);obtain⟨h5,k5,x5⟩:=F5 (m:=m+4) x4.wf s4.row s4.ls.ks (by omega) a b c;have x45:=x4.trans x5;have s5:=s.ext W x45;rcases Du (Bo a b c) ks 0 with ⟨e1,e2⟩|⟨j,kx,e1,e2,e3⟩
   ·rw[e2]at k5
    rw[e1]at hz;simp only at hz;have c2:iGe (-1) 0=false:=E8 (by omega);obtain⟨h6,k6,x6⟩:=Gi (m:=m+3) x45.wf s5.row s5.ls.ks (by omega) a b c;have x46:=x45.trans x6;have s6:=s.ext W x46;cases hst:CA a b c ks with
    |true=>
     rw[hst]at k6 hz;cases hz;refine⟨h6,?_,x46⟩;rw[Ip rfl,Iv];unfold NX;simp only[iN,IS,sT,By,BY,reduceIte,gD,cA0,k0,AK,AJ,c00,k1,bl,al,AX,st,Au,Am,AH0,k4,Be,Bd,ze,Ah,lnu,Ax,Al,AH,AN,If,AM,AP,l2,c1,k5,c2,k6,BJ,Az,CQ,DC,lV0]
    |false=>
     rw[hst]at k6 hz;rw[if_neg (by decide)]at hz;by_cases hf:fr.length=0
     ·rw[if_pos hf]at hz
      cases hz;obtain⟨_,_,_,_,l4,_⟩:=BG s6.row;have lnf:=s6.fs.vals.len;have hil:(ints .i64 (fr.map zY)).length=fr.length:=by unfold ints;rw[OF,OF]
      rw[hil,hf]at lnf;have c3:iEq ((0:Nat):Int) 0=true:=Cb rfl;refine⟨h6,?_,x46⟩;rw[Ip rfl,Iv];unfold NX;simp only[iN,IS,sT,By,BY,reduceIte,gD,cA0,k0,AK,AJ,c00,k1,bl,al,AX,st,Au,Am,AH0,k4,Be,Bd,ze,Ah,lnu,Ax,Al,AH,AN,If,AM,AP,l2,c1,k5,c2,k6,l4,lnf,c3,BJ,Az,CQ,DC,lV0]
     ·rw[if_neg hf]at hz;cases hz
   ·rw[e3,If]at k5
    rw[e1]at hz;simp only at hz;have c2:iGe (j:Int) 0=true:=F7 (by omega);obtain⟨_,_,_,l3,_⟩:=BG s5.row;obtain⟨bb,_,ix,_,lde⟩:=s5.ls.ks.at e2;have lu:=lde 4 kx.u rfl;have hkm:=yz e2;obtain⟨h6,k6,x6⟩:=Nv (m:=m+6) x45.wf ((s5.ko kx hkm).1.vs.vals) (V.ext W x45) (by have:=(s5.ko kx hkm).2.2.1;omega);have k6:call AC (m+7) 96 [kx.u,u] h5=.ok (.bool (decide (kx.l=l))) h6:=k6;refine⟨h6,?_,x45.trans x6⟩;by_cases hkl:kx.l=l
    ·rw[if_pos hkl]at hz
     cases hz;rw[decide_eq_true hkl]at k6;rw[Ip rfl,Iv];unfold NX;simp only[iN,IS,sT,By,BY,reduceIte,gD,cA0,k0,AK,AJ,c00,k1,bl,al,AX,st,Au,Am,AH0,k4,Be,Bd,ze,Ah,lnu,Ax,Al,AH,AN,If,AM,AP,l2,c1,k5,c2,l3,BB,ix,lu,AAE,k6,lV0]
    ·rw[if_neg hkl]at hz
     cases hz;rw[decide_eq_false hkl]at k6;rw[Ip rfl,Iv];unfold NX;simp only[iN,IS,sT,By,BY,reduceIte,gD,cA0,k0,AK,AJ,c00,k1,bl,al,AX,st,Au,Am,AH0,k4,Be,Bd,ze,Ah,lnu,Ax,Al,AH,AN,If,AM,AP,l2,c1,k5,c2,l3,BB,ix,lu,AAE,k6,lV0]
theorem cI(W:h.Wf)(s:Sl h A T M c0 arm ks fr lv fv bad false){a b c:Int}{l:List Nat}{u:IN}(V:h.VE u (l.map bv))(hb:∀ x∈l,x<256)(hl:l.length<=1000)(hkl:ks.length<=10)(ha:CB arm (k+10)):
  (∃ z h',Fk ks fr.length a b c l=some z/\call AC (m+8) 58 [pt A.bs,AI AT a,AI AT b,AI AT c,u] h=.ok (AI AT z) h'/\h.Ext h')\/
  (Fk ks fr.length a b c l=none/\∃ p fr2 h' c1 AGB lv' fv' k',fr=p::fr2/\call AC (m+8) 58 [pt A.bs,AI AT a,AI AT b,AI AT c,u] h=.ok (AI AT 0) h'/\Fx A.D h h'/\
   Sl h' A T (D5 T M p l (AF8 T a b c 1 l)) c1 AGB (EN (ks++[k'])) fr2 lv' fv' bad false/\k'.core=⟨a,b,c,1,l,p⟩/\CB AGB k/\∀ b,AGA k'.u b->h.next<=b):=by
 cases hz:Fk ks fr.length a b c l with
 |some z=>
  obtain⟨h',k1,x1⟩:=cJ (m:=m) W s V hl hz;exact .inl ⟨z,h',rfl,k1,x1⟩
 |none=>
  right;unfold Fk at hz;split at hz
  ·cases hz
  rename_i hn;have hr:AFx a b c 1 l.length=true:=by
   cases hq:AFx a b c 1 l.length
   ·exact absurd (.inl hq) hn
   ·rfl
  have AHs:l.length<=100:=Nat.le_of_not_lt fun h=>hn (.inr h)
  split at hz
  ·split at hz<;>cases hz
  rename_i hfd;split at hz
  ·cases hz
  rename_i hst;split at hz
  ·cases hz
  rename_i hf0;cases fr with
  |nil=>exact absurd rfl hf0
  |cons p fr2=>
   have AI1:ks.any (Bo a b c)=false:=by
    rw[List.any_eq_false];intro x hx;exact List.find?_eq_none.1 hfd x hx
   have AH1:CA a b c ks=false:=by
    cases hq:CA a b c ks
    ·rfl
    ·exact absurd hq hst
   obtain⟨h',c1,AGB,lv',fv',k',q1,q2,q3,q4,q5,q6⟩:=cK (m:=m) W s V hb AHs hr AI1 AH1 hkl ha;exact⟨rfl,p,fr2,h',c1,AGB,lv',fv',k',rfl,q1,q2,q3,q4,q5,q6⟩
end
end
noncomputable section
open Go
set_option maxRecDepth 100000
theorem pR{n:Nat}{args:List IN}{h:Hp}(hl:yl (BF args) 240=true):call AC (yg n) 46 args h=A4 [.t (J 2)] (d46 (call AC n) (AS e0 0 args) h):=by
 have hb:AC.get 46=some b46:=by kernel_rfl
 rw[Ab hb];have hd:b46=⟨[.t (J 2)],d46⟩:=by kernel_rfl
 rw[hd,AW hl]
theorem po{n:Nat}{args:List IN}{h:Hp}(hl:yl (BF args) 240=true):call AC (yg n) 70 args h=A4 [.t (J 2)] (d70 (call AC n) (AS e0 0 args) h):=by
 have hb:AC.get 70=some b70:=by kernel_rfl
 rw[Ab hb];have hd:b70=⟨[.t (J 2)],d70⟩:=by kernel_rfl
 rw[hd,AW hl]
theorem fA{n:Nat}{args:List IN}{h:Hp}(hl:yl (BF args) 240=true):call AC (yg n) 107 args h=A4 [] (gF (call AC n) (AS e0 0 args) h):=by
 have hb:AC.get 107=some Wp:=by kernel_rfl
 rw[Ab hb];have hd:Wp=⟨[],gF⟩:=by kernel_rfl
 rw[hd,AW hl]
theorem fT{n:Nat}{args:List IN}{h:Hp}(hl:yl (BF args) 240=true):call AC (yg n) 132 args h=A4 [] (gd (call AC n) (AS e0 0 args) h):=by
 have hb:AC.get 132=some XK:=by kernel_rfl
 rw[Ab hb];have hd:XK=⟨[],gd⟩:=by kernel_rfl
 rw[hd,AW hl]
theorem fa{n:Nat}{args:List IN}{h:Hp}(hl:yl (BF args) 240=true):call AC (yg n) 149 args h=A4 [] (gp (call AC n) (AS e0 0 args) h):=by
 have hb:AC.get 149=some XT:=by kernel_rfl
 rw[Ab hb];have hd:XT=⟨[],gp⟩:=by kernel_rfl
 rw[hd,AW hl]
theorem fc{n:Nat}{args:List IN}{h:Hp}(hl:yl (BF args) 240=true):call AC (yg n) 155 args h=A4 [.t (J 4)] (gu (call AC n) (AS e0 0 args) h):=by
 have hb:AC.get 155=some XU:=by kernel_rfl
 rw[Ab hb];have hd:XU=⟨[.t (J 4)],gu⟩:=by kernel_rfl
 rw[hd,AW hl]
end
noncomputable section
open Go
set_option maxRecDepth 100000
def PA(x:Nat):List Nat->List Nat
 |[]=>[x]
 |y::r=>if x<y then y::PA x r else x::y::r
def NZ(A:List Nat)(x:Nat):List Nat:=(PA x A.reverse).reverse
def cj:List Nat->List Nat->List Nat
 |A,[]=>A
 |A,x::B=>cj (NZ A x) B
def Eh(l:List Nat):List Nat:=cj (l.take 1) (l.drop 1)
theorem Kq(x y:Nat)(r:List Nat):PA x (y::r)=if x<y then y::PA x r else x::y::r:=rfl
theorem OD(x:Nat):∀ l:List Nat,(PA x l).Perm (x::l)
 |[]=>.refl _
 |y::r=>by
  rw[Kq];split
  ·exact((OD x r).cons y).trans (.swap x y r)
  ·exact .refl _
theorem N9(A:List Nat)(x:Nat):(NZ A x).Perm (x::A):=by
 unfold NZ;exact(ABp _).trans ((OD x _).trans ((ABp A).cons x))
theorem OY:∀ (B A:List Nat),(cj A B).Perm (A++B)
 |[],A=>by
  rw[yw];exact .refl _
 |x::B,A=>by
  show(cj (NZ A x) B).Perm _;exact(OY B _).trans (((N9 A x).append_right B).trans List.perm_middle.symm)
theorem G7(l:List Nat):(Eh l).Perm l:=by
 unfold Eh;have:=OY (l.drop 1) (l.take 1)
 rwa [AAY]at this
theorem OC{x:Nat}:∀ {R Q:List Nat},(∀ y∈R,x<y)->PA x (R++Q)=R++PA x Q
 |[],Q,_=>rfl
 |y::R,Q,h=>by
  rw[List.cons_append,Kq,if_pos (h y yk),OC fun z hz=>h z (yj _ hz)];rfl
theorem VV{x:Nat}{P Q:List Nat}(hQ:∀ y∈Q,x<y)(hP:P=[]\/∃ P' y,P=P'++[y]/\¬ x<y):NZ (P++Q) x=P++x::Q:=by
 unfold NZ;rw[AAx,OC fun y hy=>hQ y (List.mem_reverse.1 hy)];have e:PA x P.reverse=x::P.reverse:=by
  rcases hP with rfl|⟨P',y,rfl,hy⟩
  ·rfl
  ·rw[AAx]
   show PA x (y::P'.reverse)=_;rw[Kq,if_neg hy];rfl
 rw[e,AAx,List.reverse_cons,ABM,ABM,zC];rfl
def iv(l:List Nat):List IN:=ints .i64 (l.map zY)
theorem EV(l:List Nat):(iv l).length=l.length:=by unfold iv ints;rw[OF,OF]
theorem wE{l:List Nat}{j x:Nat}(h:l[j]? =some x):(iv l)[j]? =some (AI AT (x:Int)):=by
 unfold iv ints;rw[zy,zy,h];rfl
theorem jy{L:List IN}{j:Nat}{v:IN}(hj:j<L.length):over L j [v]=L.set j v:=by
 unfold over;rw[List.set_eq_take_append_cons_drop,if_pos hj,zC];rfl
theorem rj{l:List Nat}{j x:Nat}:(iv l).set j (AI AT (x:Int))=iv (l.set j x):=by
 unfold iv ints;rw[ACt,ACt];rfl
section
variable {F:AFi}{e:Env}{h h':Hp}{S:Nat->Prop}{bl el n c m:Nat}{l:List Nat}{Z:List IN}
theorem Lr(R:h.Row bl el (iv l++Z)){j x:Nat}(hj:l[j]? =some x):AFk ⟨bl,j,none⟩ h=.ok (AI AT (x:Int)) h:=by
 have hl:=(zG.1 hj).1;rw[R.AFk (off:=j) (by rw[No,EV];omega),List.getD_eq_getElem?_getD,List.getElem?_append_left (by rw[EV];exact hl),wE hj];rfl
theorem PE{j:Nat}(hj:j<n):AGa 1 (.slice (some ⟨bl,0,none⟩) n c) (AI AT (j:Int)) h=.ok (.pointer (some ⟨bl,j,none⟩)) h:=by
 have:=DB (h:=h) (n:=n) (c:=c) (es:=1) (b:=bl) (off:=0) (i:=j) (k:=.i64) hj
 rwa [If,Nat.mul_one]at this
theorem aS(W:h.Wf)(R:h.Row bl el (iv l++Z))(AFs:256<=bl){j:Nat}(hj:j<l.length)(x:Nat):
  ∃ h',(∀ (F:AFi) (e:Env) (g g':O),g e=.pointer (some ⟨bl,j,none⟩)->g' e=AI AT (x:Int)->Ad .free (Ac 1 g g') F e h=.ok AFl h')/\Fx (fun b=>b=bl) h h'/\h'.Row bl el (iv (l.set j x)++Z)/\h'.next=h.next/\h'.mark=h.mark:=by
 have Rq:h.quiet.Row bl el (iv l++Z):=R.same rfl;have AJk:j+[zd .i64 (x:Int)].length<=(iv l).length:=by rw[EV];exact hj
 have hoo:j+[zd .i64 (x:Int)].length<=(iv l++Z).length:=by rw[No];omega
 have st:=Rq.AFr (n:=1) (off:=j) (v:=AI AT (x:Int)) W.quiet AFs rfl (by rw[Ch];exact hoo) rfl;rw[Ch]at st;have wr:=Rq.AFu W.quiet hoo;rw[OS AJk,jy (by rw[EV];exact hj),rj]at wr;have fx:=Fx.wr (S:=fun b=>b=bl) W.quiet Rq hoo rfl;have wn:=Rq.AGN hoo;generalize h.quiet.wr bl j [zd .i64 (x:Int)]=q at st wr fx wn;exact⟨h.back q,fun F e g g' e1 e2=>BO (by rw[AX,e1,e2];exact st),(fx.from (h:=h) rfl rfl).same rfl rfl,wr.same rfl,wn,rfl⟩
theorem i7{x y:Nat}:call AC (m+2) 155 [AI AT (x:Int),AI AT (y:Int)] h=.ok (.bool (decide (x<y))) h:=by
 have n1:∀ z:Int,call AC (m+1) 146 [AI AT z] h=.ok (.bool false) h:=fun z=>by
  have c1:iNe z z=false:=CH rfl;rw[UY rfl];unfold Zk;simp only[iN,IS,sT,By,BY,reduceIte,AK,AJ,c1,lV0]
 have c2:iLt (x:Int) (y:Int)=decide (x<y):=by
  rw[DF];by_cases hxy:x<y
  ·rw[decide_eq_true hxy,decide_eq_true (by omega)]
  ·rw[decide_eq_false hxy,decide_eq_false (by omega)]
 rw[fc rfl];unfold gu;simp only[iN,IS,sT,By,BY,reduceIte,gD,cA0,n1,AK,AJ,c2,lV0]
theorem TO:nnB=bA:=rfl
theorem bB:noB=jJ:=rfl
theorem gq:gp=Zl:=rfl
theorem Tm{i:Nat}{g:Hp}(hi:i<=1000000):Fv zX .i64 (AI AT ((i+1:Nat):Int)) (AI AT 1) g=.ok (AI AT (i:Int)) g:=by
 have:zX ((i+1:Nat):Int) 1=(i:Int):=by
  show((i+1:Nat):Int) - 1=_;omega
 rw[Cg,this,Bf (by omega)]
theorem cr(W:h.Wf){P R:List Nat}{x y:Nat}(hl0:l=P++y::x::R)(Rw:h.Row bl el (iv l++Z))(AFs:256<=bl)(hn:n=l.length)(hl:l.length<=100000)
  (s0:J 0 e=.slice (some ⟨bl,0,none⟩) n c)(s7:J 7 e=AI AT ((P.length+1:Nat):Int)):
  ∃ e' h',nwB F e h=.norm e' h'/\Fx (fun b=>b=bl) h h'/\h'.Row bl el (iv (P++x::y::R)++Z)/\∀ j,j=0\/j=1\/j=2\/j=6\/j=7->J j e'=J j e:=by
 have lk:l.length=P.length+1+1+R.length:=by rw[hl0,No,yh,yh];omega
 have Rm:h.marked.Row bl el (iv l++Z):=Rw.same rfl;have ld:=Lr Rm (j:=P.length+1) (x:=x) (by rw[hl0];exact Jq);have ldy:=Lr Rm (j:=P.length) (x:=y) (by rw[hl0];exact GC);have ix:=fun g:Hp=>PE (h:=g) (bl:=bl) (n:=n) (c:=c) (j:=P.length+1) (by omega)
 have iy:=fun g:Hp=>PE (h:=g) (bl:=bl) (n:=n) (c:=c) (j:=P.length) (by omega)
 have a1:=fun g:Hp=>Tm (g:=g) (i:=P.length) (by omega)
 obtain⟨h1,q1,f1,R1,n1,mk1⟩:=aS (j:=P.length+1) W.marked Rm AFs (by omega) y;have e1:l.set (P.length+1) y=P++y::y::R:=by
  rw[hl0,show P++y::x::R=(P++[y])++x::R by simp,show P.length+1=(P++[y]).length by simp,J4];simp
 rw[e1]at R1;obtain⟨h2,q2,f2,R2,n2,mk2⟩:=aS (j:=P.length) f1.wf R1 AFs (by rw[No];simp) x;rw[J4]at R2;have fm:Fx (fun b=>b=bl) h h1:=f1.from (h:=h) rfl rfl;have q1':∀ (F:AFi) (e:Env),J 47 e=.pointer (some ⟨bl,P.length+1,none⟩)->J 42 e=AI AT (y:Int)->Ad .free (Ac 1 (J 47) (J 42)) F e h.marked=.ok AFl h1:=fun F e a b=>q1 F e _ _ a b
 have q2':∀ (F:AFi) (e:Env),J 48 e=.pointer (some ⟨bl,P.length,none⟩)->J 46 e=AI AT (x:Int)->Ad .free (Ac 1 (J 48) (J 46)) F e h1=.ok AFl h2:=fun F e a b=>q2 F e _ _ a b
 have hrun:∃ e',nwB F e h=.norm e' h2/\∀ j,j=0\/j=1\/j=2\/j=6\/j=7->J j e'=J j e:=by
  unfold nwB;simp only[sT,By,BY,reduceIte,A1,B3,s7,a1,BB,s0,iy,AM,AP,ldy,ix,ld,q1',q2'];refine⟨_,rfl,fun j hj=>?_⟩;rcases hj with rfl|rfl|rfl|rfl|rfl<;>simp only[AG,By,BY,reduceIte]
 obtain⟨e',r1,r2⟩:=hrun;exact⟨e',h2,r1,fm.trans f2,R2,r2⟩
theorem Xt(W:h.Wf){A B:List Nat}{x:Nat}(Rw:h.Row bl el (iv (A++x::B)++Z))(AFs:256<=bl)(hn:n=(A++x::B).length)(hl:n<=1000)
  (s0:J 0 e=.slice (some ⟨bl,0,none⟩) n c)(s1:J 1 e=AI AT 0)(s7:J 7 e=AI AT (A.length:Int)):
  ∃ e' h',A9 nnB (call AC (m+3)) e h=.exit 2 e' h'/\Fx (fun b=>b=bl) h h'/\h'.Row bl el (iv (NZ A x++B)++Z)/\∀ j,j=0\/j=1\/j=2\/j=6->J j e'=J j e:=by
 have hln:(A++x::B).length=A.length+1+B.length:=by rw[No,yh];omega
 refine Bh (I:=fun i e' g=>∃ P Q,A=P++Q/\P.length+i=A.length/\Fx (fun b=>b=bl) h g/\g.Row bl el (iv (P++x::(Q++B))++Z)/\(∀ y∈Q,x<y)/\J 7 e'=AI AT (P.length:Int)/\∀ j,j=0\/j=1\/j=2\/j=6->J j e'=J j e)
  (Q:=fun r=>∃ e' h',r=.exit 2 e' h'/\Fx (fun b=>b=bl) h h'/\h'.Row bl el (iv (NZ A x++B)++Z)/\∀ j,j=0\/j=1\/j=2\/j=6->J j e'=J j e) (A.length+1) (by omega) (fun i e' g ⟨P,Q,hA,hP,fx,R,hQ,t7,ts⟩=>?_) ⟨A,[],by rw[yw],rfl,.refl W,Rw,fun y hy=>(by cases hy),s7,fun _ _=>rfl⟩
 have W':=fx.wf;have t0:=(ts 0 (by omega)).trans s0;have t1:=(ts 1 (by omega)).trans s1;rcases WK P with rfl|⟨P',y,rfl⟩
 ·right
  have c1:iGt ((([]:List Nat).length:Nat):Int) 0=false:=Fa (by decide);have hrun:∃ e2,nnB (call AC (m+3)) e' g=.exit 2 e2 g.marked/\∀ j,j=0\/j=1\/j=2\/j=6->J j e2=J j e':=by
   rw[TO];unfold bA;simp only[sT,By,BY,reduceIte,gD,A1,AK,AJ,t7,t1,c1];refine⟨_,rfl,fun j hj=>?_⟩;rcases hj with rfl|rfl|rfl|rfl<;>simp only[AG,By,BY,reduceIte]
  obtain⟨e2,r1,r2⟩:=hrun;rw[r1];refine⟨rfl,e2,_,rfl,fx.same rfl rfl,?_,fun j hj=>(r2 j hj).trans (ts j hj)⟩;have:=VV (x:=x) (P:=[]) (Q:=Q) hQ (.inl rfl);rw[hA,this];have e5:([]++x::Q)++B=[]++x::(Q++B):=rfl;rw[e5];exact R.same rfl
 ·have lP:(P'++[y]).length=P'.length+1:=by simp
  rw[lP]at hP t7;have lA:A.length=P'.length+1+Q.length:=by rw[hA,No,lP]
  have eR:(P'++[y])++x::(Q++B)=P'++y::x::(Q++B):=by simp
  rw[eR]at R;have lL:(P'++y::x::(Q++B)).length=n:=by
   rw[hn,hln,lA];simp only[No,yh];omega
  have Rm:g.marked.Row bl el (iv (P'++y::x::(Q++B))++Z):=R.same rfl;have ld:=Lr Rm (j:=P'.length+1) (x:=x) Jq;have ldy:=Lr Rm (j:=P'.length) (x:=y) GC;have ix:=fun g:Hp=>PE (h:=g) (bl:=bl) (n:=n) (c:=c) (j:=P'.length+1) (by omega)
  have iy:=fun g:Hp=>PE (h:=g) (bl:=bl) (n:=n) (c:=c) (j:=P'.length) (by omega)
  have c1:iGt ((P'.length+1:Nat):Int) 0=true:=GZ (by omega);have a1:=fun g:Hp=>Tm (g:=g) (i:=P'.length) (by omega)
  have k2:=i7 (m:=m+1) (h:=g.marked.quiet) (x:=x) (y:=y);have q2:∀ e:Env,J 23 e=AI AT (x:Int)->J 28 e=AI AT (y:Int)->Ad .free (AU 155 [J 23,J 28]) (call AC (m+3)) e g.marked=.ok (.bool (decide (x<y))) (g.marked.back g.marked.quiet):=fun e e1 e2=>by
   refine BO ?_;rw[BR,AV,AV,A3,e1,e2];exact k2
  have y2:g.Ext (g.marked.back g.marked.quiet):=(Hp.Ext.refl W').marked.trans (.back (.refl W'.marked.quiet));generalize g.marked.back g.marked.quiet=h3 at q2 y2;have R3:=R.ext W' y2;by_cases hc:x<y
  ·left
   rw[decide_eq_true hc]at q2;have sw:∀ e2:Env,J 0 e2=.slice (some ⟨bl,0,none⟩) n c->J 7 e2=AI AT ((P'.length+1:Nat):Int)->∃ e3 h4,nwB (call AC (m+3)) e2 h3=.norm e3 h4/\Fx (fun b=>b=bl) h3 h4/\h4.Row bl el (iv (P'++x::y::(Q++B))++Z)/\∀ j,j=0\/j=1\/j=2\/j=6\/j=7->J j e3=J j e2:=fun e2 a b=>cr y2.wf rfl R3 AFs lL.symm (by omega) a b
   have hrun:∃ e3 h4,nnB (call AC (m+3)) e' g=.norm e3 h4/\Fx (fun b=>b=bl) h3 h4/\h4.Row bl el (iv (P'++x::y::(Q++B))++Z)/\J 7 e3=AI AT (P'.length:Int)/\∀ j,j=0\/j=1\/j=2\/j=6->J j e3=J j e':=by
    rw[TO];unfold bA;simp only[sT,By,BY,reduceIte,gD,A1,AK,AJ,t7,t1,c1,t0,BB,ix,AM,AP,ld,B3,a1,iy,ldy,q2,BJ,Az];obtain⟨e3,h4,r1,f4,R4,r2⟩:=sw (Env.set 30 (.bool true) (Env.set 29 (.bool true) (Env.set 28 (AI AT (y:Int)) (Env.set 27 (.pointer (some ⟨bl,P'.length,none⟩)) (Env.set 26 (AI AT (P'.length:Int)) (Env.set 25 (AI AT ((P'.length+1:Nat):Int)) (Env.set 24 (.slice (some ⟨bl,0,none⟩) n c) (Env.set 23 (AI AT (x:Int)) (Env.set 22 (.pointer (some ⟨bl,P'.length+1,none⟩)) (Env.set 21 (AI AT ((P'.length+1:Nat):Int)) (Env.set 20 (.slice (some ⟨bl,0,none⟩) n c) (Env.set 18 (.bool true) e')))))))))))) (by simp[AG,t0]) (by simp[AG,t7]);have u7:J 7 e3=AI AT ((P'.length+1:Nat):Int):=(r2 7 (by omega)).trans (by simp[AG,t7]);rw[r1];simp only[CT,BA,sT,By,BY,reduceIte,B3,u7,a1];refine⟨_,_,rfl,f4,R4,by simp[AG],fun j hj=>?_⟩;have:=r2 j (by omega);rcases hj with rfl|rfl|rfl|rfl<;>simp only[AG,By,BY,reduceIte]at this ⊢<;>exact this
   obtain⟨e3,h4,r1,f4,R4,r7,r2⟩:=hrun;refine⟨by omega,e3,h4,r1,P',y::Q,by rw[hA];simp,by omega,(fx.trans (.of y2)).trans f4,R4,fun z hz=>?_,r7,fun j hj=>(r2 j hj).trans (ts j hj)⟩;rcases yv.1 hz with rfl|hz
   ·exact hc
   ·exact hQ z hz
  ·right
   rw[decide_eq_false hc]at q2;have hrun:∃ e3,nnB (call AC (m+3)) e' g=.exit 2 e3 h3/\∀ j,j=0\/j=1\/j=2\/j=6->J j e3=J j e':=by
    rw[TO];unfold bA;simp only[sT,By,BY,reduceIte,gD,A1,AK,AJ,t7,t1,c1,t0,BB,ix,AM,AP,ld,B3,a1,iy,ldy,q2];refine⟨_,rfl,fun j hj=>?_⟩;rcases hj with rfl|rfl|rfl|rfl<;>simp only[AG,By,BY,reduceIte]
   obtain⟨e3,r1,r2⟩:=hrun;rw[r1];refine⟨rfl,e3,h3,rfl,fx.trans (.of y2),?_,fun j hj=>(r2 j hj).trans (ts j hj)⟩;rw[hA,VV hQ (.inr ⟨P',y,rfl,hc⟩),zC,zC];exact R3
theorem YX(W:h.Wf){l:List Nat}(Rw:h.Row bl el (iv l++Z))(AFs:256<=bl)(hn:n=l.length)(hl:n<=1000):
  ∃ h',call AC (m+4) 149 [.slice (some ⟨bl,0,none⟩) n c,AI AT 0,AI AT (n:Int)] h=.ok AFl h'/\Fx (fun b=>b=bl) h h'/\h'.Row bl el (iv (Eh l)++Z):=by
 have run:∀ e1:Env,J 0 e1=.slice (some ⟨bl,0,none⟩) n c->J 1 e1=AI AT 0->J 2 e1=AI AT (n:Int)->J 6 e1=AI AT ((1:Nat):Int)->∃ e' h',A9 noB (call AC (m+3)) e1 h=.exit 0 e' h'/\Fx (fun b=>b=bl) h h'/\h'.Row bl el (iv (Eh l)++Z):=fun e1 s0 s1 s2 s6=>by
  refine Bh (I:=fun i e' g=>∃ A B,A.length+B.length=l.length/\(A.length=i+1\/(B=[]/\A.length<=i+1))/\cj A B=Eh l/\Fx (fun b=>b=bl) h g/\g.Row bl el (iv (A++B)++Z)/\J 0 e'=.slice (some ⟨bl,0,none⟩) n c/\J 1 e'=AI AT 0/\J 2 e'=AI AT (n:Int)/\J 6 e'=AI AT ((i+1:Nat):Int))
   (Q:=fun x=>∃ e' h',x=.exit 0 e' h'/\Fx (fun b=>b=bl) h h'/\h'.Row bl el (iv (Eh l)++Z)) n (by omega) (fun i e' g ⟨A,B,hAB,hAi,hsr,fx,R,t0,t1,t2,t6⟩=>?_) ⟨l.take 1,l.drop 1,by rw[zJ,zl];omega,?_,rfl,.refl W,by rw[AAY];exact Rw,s0,s1,s2,s6⟩
  ·have W':=fx.wf
   cases B with
   |nil=>
    right;have hA:A.length=n:=by simp only[List.length_nil]at hAB;omega
    have c1:iLt ((i+1:Nat):Int) (n:Int)=false:=DJ (by omega);have hrun:∃ e3,noB (call AC (m+3)) e' g=.exit 0 e3 g:=by
     rw[bB];unfold jJ;simp only[sT,By,BY,reduceIte,AK,AJ,t6,t2,c1];exact⟨_,rfl⟩
    obtain⟨e3,r1⟩:=hrun;rw[r1];refine⟨rfl,e3,g,rfl,fx,?_⟩;rw[<- hsr];rw[yw]at R;exact R
   |cons x B=>
    left;rw[yh]at hAB;have hA:A.length=i+1:=by
     rcases hAi with h1|⟨h1,_⟩
     ·exact h1
     ·cases h1
    have c1:iLt ((i+1:Nat):Int) (n:Int)=true:=E9 (by omega);obtain⟨e2,h2,i1,f2,R2,i2⟩:=Xt (m:=m) (e:=Env.set 7 (AI AT ((i+1:Nat):Int)) (Env.set 12 (.bool true) e')) W' R AFs (by rw[No,yh];omega) hl (by simp only[AG,By,BY,reduceIte];exact t0) (by simp only[AG,By,BY,reduceIte];exact t1) (by simp only[AG,By,BY,reduceIte,hA]);have g0:=i2 0 (by omega);have g1:=i2 1 (by omega);have g2:=i2 2 (by omega);have g6:=i2 6 (by omega);simp only[AG,By,BY,reduceIte,t0]at g0;simp only[AG,By,BY,reduceIte,t1]at g1;simp only[AG,By,BY,reduceIte,t2]at g2;simp only[AG,By,BY,reduceIte,t6]at g6;have a3:Ez .i64 (AI AT ((i+1:Nat):Int)) (AI AT 1) h2=.ok (AI AT ((i+1+1:Nat):Int)) h2:=Cc (by omega);have hrun:∃ e3,noB (call AC (m+3)) e' g=.norm e3 h2/\J 0 e3=.slice (some ⟨bl,0,none⟩) n c/\J 1 e3=AI AT 0/\J 2 e3=AI AT (n:Int)/\J 6 e3=AI AT ((i+1+1:Nat):Int):=by
     rw[bB];unfold jJ;simp only[sT,By,BY,reduceIte,AK,AJ,t6,t2,c1,i1,g6,BM,a3];exact⟨_,rfl,by simp only[AG,By,BY,reduceIte];exact g0,by simp only[AG,By,BY,reduceIte];exact g1,by simp only[AG,By,BY,reduceIte];exact g2,by simp[AG]⟩
    obtain⟨e3,r1,r2,r3,r4,r5⟩:=hrun;have il:(NZ A x).length=A.length+1:=(N9 A x).length_eq;exact⟨by omega,e3,h2,r1,NZ A x,B,by omega,.inl (by omega),hsr,fx.trans f2,R2,r2,r3,r4,r5⟩
  ·cases l with
   |nil=>exact .inr ⟨rfl,zL _⟩
   |cons k l=>exact .inl rfl
 have a1:Ez .i64 (AI AT 0) (AI AT 1) h=.ok (AI AT ((1:Nat):Int)) h:=Cc (i:=0) (by omega);obtain⟨e2,h2,r1,x2⟩:=run (Env.set 6 (AI AT ((1:Nat):Int)) (Env.set 9 (AI AT ((1:Nat):Int)) (AS e0 0 [.slice (some ⟨bl,0,none⟩) n c,AI AT 0,AI AT (n:Int)]))) (by simp only[iN,IS,AG,By,BY,reduceIte]) (by simp only[iN,IS,AG,By,BY,reduceIte]) (by simp only[iN,IS,AG,By,BY,reduceIte]) (by simp[AG]);simp only[iN,IS]at r1;refine⟨h2,?_,x2⟩;rw[fa rfl,gq];unfold Zl;simp only[iN,IS,sT,By,BY,reduceIte,BM,a1,r1,EH,D6]
theorem ge:gd=Zj:=rfl
theorem sV:npB=sW:=rfl
theorem cg(W:h.Wf){l:List Nat}(Rw:h.Row bl el (iv l++Z))(AFs:256<=bl)(hn:n=l.length)(hl:n<=12):
  ∃ h',call AC (m+6) 107 [.slice (some ⟨bl,0,none⟩) n c] h=.ok AFl h'/\Fx (fun b=>b=bl) h h'/\h'.Row bl el (iv (Eh l)++Z):=by
 obtain⟨h2,k2,x2,R2⟩:=YX (m:=m) (c:=c) W Rw AFs hn (by omega);obtain⟨k,kb⟩:=Oj (m:=m+3) (h:=h) (n:=n) (by omega);have cv:Di .u64 (AI AT (n:Int)) h=.ok (.int .u64 (n:Int)) h:=by rw[Cw,Ee (by omega)]
 have a1:Fv zX .i64 (AI AT (n:Int)) (AI AT 0) h=.ok (AI AT (n:Int)) h:=by
  have:zX (n:Int) 0=(n:Int):=Int.sub_zero _;rw[Cg,this,Bf (by omega)]
 have c1:iLe (n:Int) 12=true:=Hc (by omega);have pd:call AC (m+5) 132 [.slice (some ⟨bl,0,none⟩) n c,AI AT 0,AI AT (n:Int),AI AT (k:Int)] h=.ok AFl h2:=by
  have hb:∃ e2,npB (call AC (m+4)) (Env.set 9 (.bool true) (Env.set 8 (.bool true) (AS e0 0 [.slice (some ⟨bl,0,none⟩) n c,AI AT 0,AI AT (n:Int),AI AT (k:Int)]))) h=.ret e2 h2:=by
   rw[sV];unfold sW;simp only[iN,IS,sT,By,BY,reduceIte,B3,a1,AK,AJ,c1,cA0,k2];exact⟨_,rfl⟩
  obtain⟨e2,r1⟩:=hb;have r1:=Ms r1;simp only[iN,IS]at r1;rw[fT rfl,ge];unfold Zj;simp only[iN,IS,sT,By,BY,reduceIte,r1,BI,D6]
 refine⟨h2,?_,x2,R2⟩;rw[fA rfl];unfold gF;simp only[iN,IS,sT,By,BY,reduceIte,Ah,D7,CX,cv,cA0,kb,pd,EH,D6]
end
end
end Go.Proofs.YtbjadbhkogcfeaaGreat
