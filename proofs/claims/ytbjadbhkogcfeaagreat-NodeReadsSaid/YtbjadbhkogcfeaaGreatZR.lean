/-
  Part ZR of what Lawnr stands on: printed by program, names and spaces cut.
-/
import Derived.Test.YtbjadbhkogcfeaaGreatZQ
open Go.Value renaming int→AI
open Go.IntKind renaming i64→AT
open Nat renaming reduceEqDiff→BY,reduceLT→By,reduceAdd→IS,le_refl→IT,zero_add→If,beq→xr,lt_or_ge→yG,zero_le→yK,le_trans→yP,lt_of_lt_of_le→yr,mul_comm→zT,zero_mul→AAD,succ_mul→AAk,not_lt_zero→ABP,add_comm→ADk
open Go renaming Value→IN,World→yQ
open List renaming length_append→No,length_map→OF,getElem?_eq_getElem→sh,getD_eq_getElem?_getD→xV,length_cons→xY,mem_cons_of_mem→xZ,mem_cons_self→xa,replicate→xn,mem_of_getElem?→xp,append_nil→xx,mem_cons→xz,getElem?_eq_some_iff→yD,mem_singleton→yE,append_assoc→yF,getElem?_append_left→yH,getElem?_append_right→yJ,mem_append→yL,length_take→yM,nil_append→yU,drop_zero→yv,getElem?_map→yx,mem_map→yz,drop_of_length_le→zC,take_append_drop→zN,length_replicate→zO,pairwise_cons→zR,mem_of_mem_take→zV,flatten_cons→zZ,getElem?_take→zy,getElem?_drop→AAP,getElem_mem→AAX,pairwise_singleton→ACD,pairwise_reverse→ACU,flatMap_append→ACi,flatMap_cons→ACw,drop_append→AC5
open Bool renaming and_eq_true→yA
open Go.DataW renaming trod→zj
open Go.MemPlace renaming cell→AA7
open Go.Value renaming chan→ABU
open Int renaming le_refl→ACV
set_option linter.unusedVariables false
set_option linter.unusedSimpArgs false
namespace Go.Proofs.YtbjadbhkogcfeaaGreat
noncomputable section
open Go
set_option maxRecDepth 100000
theorem sS:tdM=sU:=rfl
theorem pp:d33=pq:=rfl
section
variable {F:AEA}{e:Env}{h h' g:Hp}{S X:Nat->Prop}{A:At}{T M:List Nat}{c0 m k n nb r r4 r6 r8 op:Nat}{arm AEY lf sq a b c z err room:Int}{ks ks':List Kt}{fr fr':List Nat}{v lv fv u w iv bw:IN}{x:Kt}
theorem nz{x y:O}{k:C}{a b i j:Nat}(hx:x e=.pointer (some ⟨a,i,none⟩))(hy:y e=.pointer (some ⟨b,j,none⟩))(h1:b≠a):Ci x [y] k F e h=k F e h:=by
 have n1:xr b a=false:=by
  cases e:xr b a
  ·rfl
  ·exact absurd (Az.1 e) h1
 unfold Ci;rw[hx];show(bif DA a e [y]then k F e h else .no)=_;have:DA a e [y]=true:=by
  unfold DA;rw[hy];show(bif xr b a then false else DA a e [])=true;rw[n1];rfl
 rw[this];rfl
theorem QK(W:g.Wf){L:List IN}(R:g.Row r 0 L){off:Nat}(ho:off<L.length)(AEK:256<=r)(h1:cellsOf v=[v])(h2:oneCell v=true):
  ∃ g',(∀ (F:AEA) (e:Env) (x y:O),x e=.pointer (some ⟨r,off,none⟩)->y e=v->Ja x (Ah 1 x y) F e g=.ok AED g')/\g'.Row r 0 (over L off [v])/\g'.mark=g.mark/\g'.next=g.next/\Fx (fun b=>b=r) g g':=by
 have Rq:g.quiet.Row r 0 L:=R.same rfl;have hoo:off+[v].length<=L.length:=ho;have ha:Ba [v]=true:=by
  show(bif oneCell v then true else false)=true;rw[h2];rfl
 have st:=Rq.AEH (n:=1) (off:=off) (v:=v) W.quiet AEK (by rw[h1];rfl) (by rw[h1];exact hoo) (by rw[h1];exact ha);rw[h1]at st;have wr:=Rq.AEM W.quiet hoo;have fx:=Fx.wr (S:=fun b=>b=r) W.quiet Rq hoo rfl;have wn:=Rq.AEo hoo;obtain⟨cc,_,hw,_⟩:=Rq.AFM hoo;have AGu:(g.quiet.wr r off [v]).low=r:=by
  rw[hw];show B8 g.next r=r;have:=R.lt W;rw[BW];omega
 have AF0:(g.quiet.wr r off [v]).high=r:=by
  rw[hw];show Cw 0 r=r;rw[B3];omega
 generalize g.quiet.wr r off [v]=q at st wr fx wn AGu AF0;refine⟨g.back q,fun F e x y hx hy=>?_,wr.same rfl,rfl,wn,fx.back⟩;show(match Ah 1 x y F e g.quiet with|.ok v h'=>bif IZ (AEh (x e)) g h'.low h'.high then Db g v h' else .no|.no=>.no)=_;rw[AX,hx,hy,st];show(bif IZ (.ok r) g q.low q.high then Db g AED q else .no)=_;rw[AGu,AF0];have:IZ (.ok r) g r r=true:=by
  show(bif Nat.ble r r then Nat.ble r r else false)=true;rw[Au.2 (IT r)];rfl
 rw[this];show Db g AED q=_;unfold Db;simp only[Ap];rfl
theorem G0(R:h.Row r 0 (D4 lf sq op err iv bw room)):AEC ⟨r,3,none⟩ h=.ok (AI AT err) h/\AEC ⟨r,4,none⟩ h=.ok iv h/\AEC ⟨r,5,none⟩ h=.ok bw h/\loadN 7 ⟨r,0,none⟩ h=.ok (CB lf sq op err iv bw room) h:=
 ⟨R.AEC (off:=3) (by show 3<7;omega),R.AEC (off:=4) (by show 4<7;omega),R.AEC (off:=5) (by show 5<7;omega),R.loadN (off:=0) (n:=7) (by show 0+7<=7;omega)⟩
theorem bz(W:h.Wf)(Rn:h.Row nb 0 (AEa A.bd A.tb A.bs AEY))(U:UpX X h A T ks fr k)(hX:X r6/\X r8)(hD:¬ A.D r6/\¬ A.D r8)(ht:A.tb≠r6/\A.tb≠r8)(R4:h.Row r4 0 (CZ lf sq op a b c u))(R6:h.Row r6 0 F7)(R8:h.Row r8 0 (D4 0 0 0 z iv bw 0))(h48:r4≠r8)(h68:r6≠r8)(h6:256<=r6)(h8:256<=r8)(hi:oneCell iv=true)(hb:oneCell bw=true)
  (s0:J 0 e=pt nb)(s4:J 4 e=pt r4)(s6:J 6 e=pt r6)(s8:J 8 e=pt r8):
  ∃ e' h',tdE (call AC (m+2)) e h=.ret e' h'/\J 6 e'=pt r6/\J 7 e'=AI AT 0/\Fx (fun b=>b=r6\/b=r8) h h'/\h'.Row r6 0 (D4 lf sq op z iv bw (fr.length:Int))/\UpX X h' A T ks fr k:=by
 obtain⟨lv,fv,Rs,V⟩:(∃ lv fv,h.Row A.bs 0 (slL A.bd A.tb lv fv 0 false)/\h.AEX fv (ints .i64 (fr.map Int.ofNat))):=by
  obtain⟨⟨M,c0,arm,lv,fv,s,_⟩,_⟩:=U;exact⟨lv,fv,s.row,s.fs.vals⟩
 obtain⟨_,_,nd0,_⟩:=Cg Rn;have k1:call AC (m+2) 53 [pt A.bs] h=.ok (.bool false) h:=VV (m:=m+1) Rs;have Wm:=W.marked;obtain⟨_,_,n2',_⟩:=Cg (Rn.same (h':=h.marked) rfl);obtain⟨a0,a1,a2,_⟩:=CP (R4.same (h':=h.marked) rfl);have o4:∀ {i:Nat} {k:C} {F:AEA} {e:Env},Iq (.pointer (some ⟨r4,i,none⟩)) k F e h.marked=k F e h.marked:=fun {i k F e}=>Dg (R4.lt W)
 have k2:call AC (m+2) 57 [pt A.bs] h.marked.quiet=.ok (AI AT (fr.length:Int)) h.marked.quiet:=jd (m:=m+1) (Rs.same (h':=h.marked.quiet) rfl) (V.same (h':=h.marked.quiet) rfl);have q2:∀ e:Env,J 43 e=pt A.bs->Ae .weak (AU 57 [J 43]) (call AC (m+2)) e h.marked=.ok (AI AT (fr.length:Int)) (h.marked.back h.marked.quiet):=fun e e1=>by
  refine Ck ?_ (.refl Wm.quiet) (IT _);rw[BO,AV,A2,e1];exact k2
 have y1:h.Ext (h.marked.back h.marked.quiet):=Hp.Ext.AFF (Hp.Ext.refl W).marked (Hp.Ext.refl W).marked.quiet;generalize h.marked.back h.marked.quiet=h1 at q2 y1;have W1:=y1.wf;have R8':=R8.ext W y1;have R6':=R6.ext W y1;obtain⟨h2,st2,R82,_,n2,f2⟩:=QK (v:=AI AT lf) W1 R8' (off:=0) (by show 0<7;omega) h8 rfl rfl;obtain⟨h3,st3,R83,_,n3,f3⟩:=QK (v:=AI AT sq) f2.wf R82 (off:=1) (by show 1<7;omega) h8 rfl rfl;obtain⟨h4,st4,R84,n4,_,f4,_⟩:=MI (v:=.int .u8 (op:Int)) f3.wf R83 (off:=2) (by show 2<7;omega) h8 rfl rfl;obtain⟨h5,st5,R85,n5,_,f5,_⟩:=MI (v:=AI AT (fr.length:Int)) f4.wf R84 (off:=6) (by show 6<7;omega) h8 rfl rfl;have R85:h5.Row r8 0 (D4 lf sq op z iv bw (fr.length:Int)):=R85;obtain⟨_,_,_,ld⟩:=G0 R85;have f15:=((f2.trans f3).trans f4).trans f5;obtain⟨h6',st6,f6,R66⟩:=EU (lf:=lf) (sq:=sq) (op:=op) (err:=z) (iv:=iv) (bw:=bw) (room:=(fr.length:Int)) f15.wf (f15.row W1 R6' h68) rfl h6 hi hb;have U1:=U.ext W y1;have U5:=UpX.wr W1 U1 hX.2 R8' R85 f15 hD.2 ht.2 E6;have U6:=UpX.wr f15.wf U5 hX.1 (f15.row W1 R6' h68) R66 f6 hD.1 ht.1 E6;have ck1:∀ {k:C} {F:AEA} {e:Env},J 45 e=.pointer (some ⟨r8,0,none⟩)->J 36 e=.pointer (some ⟨r4,1,none⟩)->J 38 e=.pointer (some ⟨r4,2,none⟩)->Ci (J 45) [J 36,J 38] k F e h1=k F e h1:=fun e1 e2 e3=>Yo e1 e2 e3 h48 h48
 have ck2:∀ {k:C} {F:AEA} {e:Env},J 46 e=.pointer (some ⟨r8,1,none⟩)->J 38 e=.pointer (some ⟨r4,2,none⟩)->Ci (J 46) [J 38] k F e h2=k F e h2:=fun e1 e2=>nz e1 e2 h48
 have s2':=fun (F:AEA) (e:Env) (e1:J 45 e=.pointer (some ⟨r8,0,none⟩)) (e2:J 35 e=AI AT lf)=>st2 F e (J 45) (J 35) e1 e2
 have s3':=fun (F:AEA) (e:Env) (e1:J 46 e=.pointer (some ⟨r8,1,none⟩)) (e2:J 37 e=AI AT sq)=>st3 F e (J 46) (J 37) e1 e2
 have s4':=fun (F:AEA) (e:Env) (e1:J 47 e=.pointer (some ⟨r8,2,none⟩)) (e2:J 39 e=.int .u8 (op:Int))=>st4 F e (J 47) (J 39) e1 e2
 have s5':=fun (F:AEA) (e:Env) (e1:J 48 e=.pointer (some ⟨r8,6,none⟩)) (e2:J 44 e=AI AT (fr.length:Int))=>st5 F e (J 48) (J 44) e1 e2
 obtain⟨e1,p1,t6,t7⟩:∃ e1,tdE (call AC (m+2)) e h=.ret e1 h6'/\J 6 e1=pt r6/\J 7 e1=AI AT 0:=by
  unfold tdE;simp only[sT,By,BY,reduceIte,Ax,s0,Al,AH,AO,If,AN,AP,nd0,cA0,k1,A0,s4,D5,o4,DQ,a0,a1,a2,n2',q2,s8,ck1,s2',ck2,s3',s4',s5',Av,Am,ld,s6,AX,st6];exact⟨_,rfl,by simp[AG,s6]⟩
 refine⟨e1,h6',p1,t6,t7,((Fx.of y1).trans (f15.mono fun b hb=>.inr hb)).trans (f6.mono fun b hb=>.inl hb),R66,U6⟩
theorem TP(W:h.Wf)(U:UpX X h A T ks fr k)(hX:∀ b,X b->b<h.next){w:IN}:
  ∃ e1 h4 r4 r6 r8,d33 (call AC m) (AS e0 0 [pt nb,Cp lf sq op a b c u,w]) h=tdM (call AC m) e1 h4/\J 0 e1=pt nb/\J 2 e1=w/\J 4 e1=pt r4/\J 6 e1=pt r6/\J 8 e1=pt r8/\h.Ext h4/\h4.Row r4 0 (CZ lf sq op a b c u)/\h4.Row r6 0 F7/\h4.Row r8 0 (D4 0 0 0 120 AEF AEF 0)/\
   h.next<=r4/\h.next<=r6/\h.next<=r8/\r4≠r8/\r6≠r8/\UpX (fun b=>(X b\/b=r6)\/b=r8) h4 A T ks fr k/\r6<h4.next/\r8<h4.next:=by
 have bx:=fun (F:AEA) (e:Env) (he:J 1 e=Cp lf sq op a b c u)=>FE (F:=F) W he
 have x1:=(Hp.Ext.refl W).AD9 0 (CZ lf sq op a b c u);have R1:=Hp.Row.new W 0 (CZ lf sq op a b c u);have n1:(h.AD9 0 (CZ lf sq op a b c u)).next=h.next+1:=rfl;generalize h.AD9 0 (CZ lf sq op a b c u)=h1 at bx x1 R1 n1;have al:=fun (F:AEA) (e:Env)=>BQ (F:=F) (e:=e) x1.wf (n:=7) (t:=Ch)
 have Ra:=Hp.Row.alloc x1.wf D7 (show F7.length=7 from rfl);have y2:h1.Ext (h1.push (.cells Ch 7 0)):=(Hp.Ext.refl x1.wf).push _;have n2:(h1.push (.cells Ch 7 0)).next=h1.next+1:=rfl;generalize h1.push (.cells Ch 7 0)=h2 at al Ra y2 n2;have bd:=fun (F:AEA) (e:Env)=>Hv (F:=F) (e:=e) (h:=h2) (z:=120) (g1:=kV (AI AT 120)) rfl
 have al2:=fun (F:AEA) (e:Env)=>BQ (F:=F) (e:=e) y2.wf (n:=7) (t:=Ch)
 have Ra2:=Hp.Row.alloc y2.wf D7 (show F7.length=7 from rfl);have y3:h2.Ext (h2.push (.cells Ch 7 0)):=(Hp.Ext.refl y2.wf).push _;have n3:(h2.push (.cells Ch 7 0)).next=h2.next+1:=rfl;generalize h2.push (.cells Ch 7 0)=h3 at al2 Ra2 y3 n3;have big:=W.big;obtain⟨h4,st4,f4,R4⟩:=EU (lf:=0) (sq:=0) (op:=0) (err:=120) (iv:=AEF) (bw:=AEF) (room:=0) y3.wf Ra2 rfl (by omega) rfl rfl;have x3:=(x1.trans y2).trans y3;have y14:=y2.trans y3;have x4:=Fx.xtF x3 f4 (fun b hb=>by rw[hb];omega);have n4:=f4.next;have hrun:∃ e1,d33 (call AC m) (AS e0 0 [pt nb,Cp lf sq op a b c u,w]) h=tdM (call AC m) e1 h4/\J 0 e1=pt nb/\J 2 e1=w/\J 4 e1=pt h.next/\J 6 e1=pt h1.next/\J 8 e1=pt h2.next:=by
  rw[pp];unfold pq;simp only[iN,IS,sT,By,BY,reduceIte,bx,al,bd,al2,AX,st4];exact⟨_,rfl,by simp[AG]⟩
 obtain⟨e1,p1,p2,p3,p4,p5,p6⟩:=hrun;exact⟨e1,h4,_,_,_,p1,p2,p3,p4,p5,p6,x4,f4.row y3.wf (R1.ext x1.wf y14) (by omega),f4.row y3.wf (Ra.ext y2.wf y3) (by omega),R4,IT _,by omega,by omega,by omega,by omega,((U.more W (r:=h1.next) (by omega)).more W (r:=h2.next) (by omega)).ext W x4,by omega,by omega⟩
theorem aS{bd tb bs:Nat}:Odd (AEa bd tb bs AEY):=⟨.inl (by show 4<6;omega),pt bd,xa,fun q h=>by cases h⟩
def tA(Q:Nat->Hp->Int->IN->IN->List Kt->List Nat->Prop):Prop:=∀ (i j:Nat) (g g':Hp) (z:Int) (iv bw:IN) (ks:List Kt) (fr:List Nat),Q i g z iv bw ks fr->j<=i->g.Wf->Fx (fun b=>b<i) g g'->Q j g' z iv bw ks fr
theorem cA(W:h.Wf)(Rn:h.Row nb 0 (AEa A.bd A.tb A.bs AEY))(U:UpX X h A T ks fr k)(hX:∀ b,X b->b<h.next)(hXn:X nb)(hnD:¬ A.D nb)(hnt:A.tb≠nb)(AEK:256<=nb)(hle:AEY<=lf){f:Nat}{Q:Nat->Hp->Int->IN->IN->List Kt->List Nat->Prop}(hQ:tA Q)
  (ap:∀ (g:Hp) (Y:Nat->Prop),g.Wf->g.Row nb 0 (AEa A.bd A.tb A.bs lf)->UpX Y g A T ks fr k->(∀ b,Y b->b<g.next)->Fx (fun b=>b=nb) h g->∃ z iv bw g' ks' fr',call AC (m+2) f [pt nb,Cp lf sq op a b c u] g=.ok (CB 0 0 0 z iv bw 0) g'/\Fx A.D g g'/\UpX Y g' A T ks' fr' n/\z≠120/\oneCell iv=true/\oneCell bw=true/\Q g.next g' z iv bw ks' fr'):
  ∃ z iv bw room h' ks' fr',call AC (m+3) 33 [pt nb,Cp lf sq op a b c u,.func (.func f) ⟨[]⟩ ⟨[]⟩] h=.ok (.tuple ⟨[CB lf sq op z iv bw room,AI AT 0]⟩) h'/\Fx (fun b=>A.D b\/b=nb) h h'/\h'.Row nb 0 (AEa A.bd A.tb A.bs lf)/\UpX X h' A T ks' fr' n/\z≠120/\oneCell iv=true/\oneCell bw=true/\Q h.next h' z iv bw ks' fr':=by
 obtain⟨e1,h4,r4,r6,r8,p1,p2,p3,p4,p5,p6,x4,R4,R6,R8,l4,l6,l8,n48,n68,U4,m6,m8⟩:=TP (m:=m+2) (nb:=nb) (lf:=lf) (sq:=sq) (op:=op) (a:=a) (b:=b) (c:=c) (u:=u) (w:=.func (.func f) ⟨[]⟩ ⟨[]⟩) W U hX;have W4:=x4.wf;have Rn4:=Rn.ext W x4;have big:=W.big;have hD:=U.lt W;have hn:=Rn.lt W;obtain⟨ht0,_,ht⟩:=U.tab;have htl:=ht0.lt W;obtain⟨a0,_⟩:=CP (R4.same (h':=h4.marked) rfl);obtain⟨_,_,_,nd3⟩:=Cg (Rn4.same (h':=h4.marked) rfl);have c1:iGe lf AEY=true:=Fs (by omega);have xm:=(Hp.Ext.refl W4).marked;have Wm:=xm.wf;obtain⟨h5,st5,R5,nx5,f5,_⟩:=FG (v:=AI AT lf) Wm (Rn4.same (h':=h4.marked) rfl) (off:=3) (by show 3<4;omega) AEK rfl rfl;have R5:h5.Row nb 0 (AEa A.bd A.tb A.bs lf):=R5;have nx5:h5.next=h4.next:=nx5;have U5:=UpX.wr Wm (U4.same (h':=h4.marked) rfl) (.inl (.inl hXn)) (Rn4.same (h':=h4.marked) rfl) R5 f5 hnD hnt aS;have f05:Fx (fun b=>b=nb) h h5:=(Fx.of (x4.trans xm)).trans f5;obtain⟨z,iv,bw,h6,ks',fr',k6,f6,U6,hz,hi,hb,hq⟩:=ap h5 _ f5.wf R5 U5 (fun b hb=>by
  rcases hb with (hb|hb)|hb
  ·have:=hX b hb
   omega
  ·omega
  ·omega) f05
 have hDr:∀ r,h.next<=r->¬ A.D r:=fun r hr h=>by have:=hD _ h;omega
 have R45:=f5.row Wm (R4.same (h':=h4.marked) rfl) (by omega);have R46:=f6.row f5.wf R45 (hDr _ l4);have R66:=f6.row f5.wf (f5.row Wm (R6.same (h':=h4.marked) rfl) (by omega)) (hDr _ l6);have R86:=f6.row f5.wf (f5.row Wm (R8.same (h':=h4.marked) rfl) (by omega)) (hDr _ l8);have Rn6:=f6.row f5.wf R5 hnD;obtain⟨h7,st7,f7,R87⟩:=EU (lf:=0) (sq:=0) (op:=0) (err:=z) (iv:=iv) (bw:=bw) (room:=0) f6.wf R86 rfl (by omega) hi hb;have U7:=UpX.wr f6.wf U6 (.inr rfl) R86 R87 f7 (hDr _ l8) (by omega) E6;have R47:=f7.row f6.wf R46 (by omega);have R67:=f7.row f6.wf R66 (by omega);have Rn7:=f7.row f6.wf Rn6 (by omega);obtain⟨_,_,_,_,_,_,_,lda⟩:=CP R45;have hrun:∃ e2,tdM (call AC (m+2)) e1 h4=tdE (call AC (m+2)) e2 h7/\J 0 e2=pt nb/\J 4 e2=pt r4/\J 6 e2=pt r6/\J 8 e2=pt r8:=by
  rw[sS];unfold sU tdA;simp only[sT,By,BY,reduceIte,A0,p4,p2,p3,p6,AH,AO,If,AN,AP,a0,nd3,Ax,Al,AK,AJ,c1,AX,st5,Av,Am,lda,CV,Co,AV,A2,yU,xx,k6,st7];exact⟨_,rfl,by simp[AG,p2,p4,p5,p6]⟩
 obtain⟨e2,q1,q2,q4,q5,q6⟩:=hrun;obtain⟨e3,h8,r1,r2,r3,f8,R68,U8⟩:=bz (m:=m) f7.wf Rn7 U7 ⟨.inl (.inr rfl),.inr rfl⟩ ⟨hDr _ l6,hDr _ l8⟩ ⟨by omega,by omega⟩ R47 R67 R87 n48 n68 (by omega) (by omega) hi hb q2 q4 q5 q6;refine⟨z,iv,bw,fr'.length,h8,ks',fr',?_,Fx.drop ((((f05.mono fun b hb=>.inl (.inr hb)).trans (f6.mono fun b hb=>.inl (.inl hb))).trans (f7.mono fun b hb=>.inr (by omega))).trans (f8.mono fun b hb=>.inr (by rcases hb with rfl|rfl<;>omega))),f8.row f7.wf Rn7 (by omega),U8.less fun b hb=>.inl (.inl hb),hz,hi,hb,hQ _ _ _ _ _ _ _ _ _ hq (by have:=x4.next;omega) f6.wf ((f7.mono fun b hb=>by omega).trans (f8.mono fun b hb=>by rcases hb with rfl|rfl<;>omega))⟩;rw[oP rfl,p1,q1,r1,BG,H4 (v:=CB lf sq op z iv bw fr'.length) (by rw[r2];exact DJ R68),r3]
end
end
noncomputable section
open Go
set_option maxRecDepth 100000
theorem lm:TT.k=.ptr 83:=by kernel_rfl
theorem qG:doR=gQ:=rfl
theorem Y9:d11=fR:=rfl
def fnO(op:Nat):Nat:=if op=1 then 34 else if op=2 then 35 else if op=3 then 36 else if op=4 then 37 else if op=5 then 38 else 39
section
variable {F:AEA}{e:Env}{h h' g:Hp}{X:Nat->Prop}{A:At}{T M:List Nat}{c0 m k n nb r r4 op:Nat}{arm AEY lf sq a b c z err room:Int}{ks ks':List Kt}{fr fr' l:List Nat}{v lv fv u iv bw:IN}{x:Kt}
theorem OC{n:Nat}(hr:ED lf sq op a b c n=true):1<=op/\op<=6/\1<=lf:=by
 unfold ED hdQ wiQ at hr;simp only[yA,decide_eq_true_eq]at hr;exact⟨hr.1.1.2.1,hr.1.1.2.2,hr.1.1.1.1.1⟩
def kdO(op:Nat):Int:=if op=1 then 1 else if op=2 then 5 else if op=3 then 7 else 8
def Rdn(T:List Nat)(ks:List Kt)(fr:List Nat)(op:Nat)(a b c:Int)(l:List Nat)(i:Nat)(g:Hp)(z:Int)(iv bw:IN)(ks':List Kt)(fr':List Nat):Prop:=
 (op≠4/\op≠5/\iv=AEF/\bw=AEF/\∃ l',(op=1->l'=l)/\Stp T ks fr (kdO op) a b c l' z ks' fr')\/
 (ks'=ks/\fr'=fr/\((op=5/\z=0/\bw=AEF/\g.IL i iv (ks.filter fun x=>LE x a b c))\/
  (op=4/\((c=0/\z=0/\bw=AEF/\g.IL i iv (ks.filter fun x=>decide (x.a=a) && decide (x.b=b)))\/(c≠0/\ks.find? (Bq a b c)=none/\z=60/\iv=AEF/\bw=AEF)\/
   (c≠0/\∃ kx,ks.find? (Bq a b c)=some kx/\z=0/\(∃ r,iv=.slice (some ⟨r,0,none⟩) 1 1/\g.Row r 0 (Bs kx)/\i<=r)/\g.BS (fun b=>i<=b) bw (kx.l.map bv))))))
theorem Hp.IL.less(o:h.IL n v ks)(hk:m<=n):h.IL m v ks:=by
 rcases o with h1|⟨b,h1,h2,h3⟩
 ·exact .inl h1
 ·exact .inr ⟨b,h1,h2,yP hk h3⟩
theorem VZ:tA (Rdn T ks fr op a b c l):=fun i j g g' z iv bw ks' fr' h hj W f=>by
 rcases h with h|⟨h1,h2,⟨h3,h4,h5,h6⟩|⟨h3,⟨h4,h5,h6,h7⟩|h4|⟨h4,kx,h5,h6,⟨r,h7,h8,h9⟩,h10⟩⟩⟩
 ·exact .inl h
 ·exact .inr ⟨h1,h2,.inl ⟨h3,h4,h5,(h6.fx W f fun b hb=>hb).less hj⟩⟩
 ·exact .inr ⟨h1,h2,.inr ⟨h3,.inl ⟨h4,h5,h6,(h7.fx W f fun b hb=>hb).less hj⟩⟩⟩
 ·exact .inr ⟨h1,h2,.inr ⟨h3,.inr (.inl h4)⟩⟩
 ·exact .inr ⟨h1,h2,.inr ⟨h3,.inr (.inr ⟨h4,kx,h5,h6,⟨r,h7,f.row W h8 (by omega),by omega⟩,h10.AFG fun b el L hb _ q=>⟨f.row W q (by have hb:i<=b:=hb;omega),by have hb:i<=b:=hb;show j<=b;omega⟩⟩)⟩⟩
theorem YV(W:h.Wf)(hA:A.n=24)(Rn:h.Row nb 0 (AEa A.bd A.tb A.bs AEY))(U:UpX X h A T ks fr k)(hop:op=4\/op=5):
  ∃ z iv bw h' ks' fr',call AC (m+10) (fnO op) [pt nb,Cp lf sq op a b c u] h=.ok (CB 0 0 0 z iv bw 0) h'/\Fx A.D h h'/\UpX X h' A T ks' fr' k/\z≠120/\oneCell iv=true/\oneCell bw=true/\Rdn T ks fr op a b c l h.next h' z iv bw ks' fr':=by
 rcases hop with rfl|rfl
 ·have U0:=U
  obtain⟨⟨M,c0,arm,lv,fv,s,iv',md,_⟩,_⟩:=U0;have hln:=iv'.len;obtain⟨h',k',z,iv,bw,q1,q2,hk',q4,q5,q6⟩:=vQ (m:=m) (lf:=lf) (sq:=sq) (op:=4) (a:=a) (b:=b) (c:=c) (u:=u) W Rn s (by omega) (fun x hx=>md.AIU hx) (fun x hx=>by have:=iv'.lt x hx;omega);refine⟨z,iv,bw,h',ks,fr,q1,.of q2,U.ext W q2,?_,q4,q5,.inr ⟨rfl,rfl,.inr ⟨rfl,?_⟩⟩⟩
  ·rcases q6 with ⟨_,rfl,_⟩|⟨_,_,rfl,_⟩|⟨_,_,_,rfl,_⟩<;>omega
  ·rcases q6 with ⟨g1,g2,g3,g4⟩|g1|⟨g1,kx,g2,g3,⟨r,g4,g5,g6⟩,g7⟩
   ·exact .inl ⟨g1,g2,g3,g4.less hk'⟩
   ·exact .inr (.inl g1)
   ·exact .inr (.inr ⟨g1,kx,g2,g3,⟨r,g4,g5,yP hk' g6⟩,g7.mono fun b hb=>yP hk' hb⟩)
 ·have U0:=U
  obtain⟨⟨M,c0,arm,lv,fv,s,iv',md,_⟩,_⟩:=U0;have hln:=iv'.len;obtain⟨h',k',iv,q1,q2,hk',q4⟩:=vN (m:=m) (lf:=lf) (sq:=sq) (op:=5) (a:=a) (b:=b) (c:=c) (u:=u) W Rn s (by omega);exact⟨0,iv,_,h',ks,fr,q1,.of q2,U.ext W q2,by omega,(Sj q4).2.2,rfl,.inr ⟨rfl,rfl,.inl ⟨rfl,rfl,rfl,q4.less hk'⟩⟩⟩
theorem uf(W:h.Wf)(hA:A.n=24)(Rn:h.Row nb 0 (AEa A.bd A.tb A.bs AEY))(U:UpX X h A T ks fr (k+40))(hX:∀ b,X b->b<h.next)(V:h.VE u (l.map bv))(hb:∀ x∈l,x<256)(hl:l.length<=1000)(h1:1<=op)(h6:op<=6):
  ∃ z iv bw h' ks' fr',call AC (m+10) (fnO op) [pt nb,Cp lf sq op a b c u] h=.ok (CB 0 0 0 z iv bw 0) h'/\Fx A.D h h'/\UpX X h' A T ks' fr' k/\z≠120/\oneCell iv=true/\oneCell bw=true/\Rdn T ks fr op a b c l h.next h' z iv bw ks' fr':=by
 have hop:op=1\/op=2\/op=3\/op=4\/op=5\/op=6:=by omega
 rcases hop with rfl|rfl|rfl|rfl|rfl|rfl
 ·obtain⟨z,h',ks',fr',q1,q2,q3,q4⟩:=rG (m:=m) (lf:=lf) (sq:=sq) (op:=1) (a:=a) (b:=b) (c:=c) W hA Rn U hX V hb hl
  exact⟨z,_,_,h',ks',fr',q1,q2,q3,PP q4,rfl,rfl,.inl ⟨by omega,by omega,rfl,rfl,_,fun _=>rfl,q4⟩⟩
 ·obtain⟨z,h',ks',fr',q1,q2,q3,q4⟩:=rH (m:=m) (lf:=lf) (sq:=sq) (op:=2) (a:=a) (b:=b) (c:=c) (u:=u) W hA Rn U hX
  exact⟨z,_,_,h',ks',fr',q1,q2,q3,PP q4,rfl,rfl,.inl ⟨by omega,by omega,rfl,rfl,_,fun h=>absurd h (by omega),q4⟩⟩
 ·obtain⟨z,h',ks',fr',q1,q2,q3,q4⟩:=rI (m:=m) (lf:=lf) (sq:=sq) (op:=3) (a:=a) (b:=b) (c:=c) (u:=u) W hA Rn U hX
  exact⟨z,_,_,h',ks',fr',q1,q2,q3,PP q4,rfl,rfl,.inl ⟨by omega,by omega,rfl,rfl,_,fun h=>absurd h (by omega),q4⟩⟩
 ·exact YV (m:=m) W hA Rn (U.le (by omega)) (.inl rfl)
 ·exact YV (m:=m) W hA Rn (U.le (by omega)) (.inr rfl)
 ·obtain⟨z,h',ks',fr',q1,q2,q3,q4⟩:=rJ (m:=m) (lf:=lf) (sq:=sq) (op:=6) (a:=a) (b:=b) (c:=c) (u:=u) W hA Rn U hX
  exact⟨z,_,_,h',ks',fr',q1,q2,q3,PP q4,rfl,rfl,.inl ⟨by omega,by omega,rfl,rfl,_,fun h=>absurd h (by omega),q4⟩⟩
theorem rQ(Rn:h.Row nb 0 (AEa A.bd A.tb A.bs AEY))(U:UpX X h A T ks fr k):call AC (m+3) 31 [pt nb] h=.ok (AI AT 0) h:=by
 obtain⟨⟨M,c0,arm,lv,fv,s,_⟩,_⟩:=U;obtain⟨n0,_,n2,_⟩:=Cg Rn;have p1:∀ e:Env,J 0 e=pt nb->oEq TT.k false (J 0) (kV (.pointer none)) (call AC (m+2)) e h=.ok (.bool false) h:=fun e he=>F2 lm he
 have p2:∀ e:Env,J 10 e=pt A.bs->oEq Hq.k false (J 10) (kV (.pointer none)) (call AC (m+2)) e h=.ok (.bool false) h:=fun e he=>F2 V6 he
 have k1:call AC (m+2) 53 [pt A.bs] h=.ok (.bool false) h:=VV (m:=m+1) s.row;have k2:call AC (m+2) 19 [pt A.bd] h=.ok (.bool false) h:=Oa (m:=m) s.dk;rw[oN rfl];unfold d31;simp only[iN,IS,sT,By,BY,reduceIte,gD,cA0,p1,Ax,Al,AH,AO,If,AN,AP,n0,n2,p2,k1,k2,lV0]
theorem Py(W:h.Wf)(Rn:h.Row nb 0 (AEa A.bd A.tb A.bs AEY))(U:UpX X h A T ks fr k)(hop:op<256){l:Nat}(hu:∀ g:Hp,AEs u g=.ok (AI AT (l:Int)) g):
  ∃ e1 h4 r3 r4,d11 (call AC (m+3)) (AS e0 0 [pt nb,Cp lf sq op a b c u]) h=(if ED lf sq op a b c l=true then doM (call AC (m+3)) e1 h4 else .ret e1 h4)/\J 0 e1=pt nb/\J 3 e1=pt r3/\J 4 e1=pt r4/\h.Ext h4/\h4.Row r3 0 (CZ lf sq op a b c u)/\h4.Row r4 0 F7/\
   h.next<=r3/\h.next<=r4/\r3≠r4/\UpX (fun b=>X b\/b=r4) h4 A T ks fr k/\r4<h4.next/\(ED lf sq op a b c l=false->J 5 e1=AI AT 110):=by
 have bx:=fun (F:AEA) (e:Env) (he:J 1 e=Cp lf sq op a b c u)=>FE (F:=F) W he
 have x1:=(Hp.Ext.refl W).AD9 0 (CZ lf sq op a b c u);have R1:=Hp.Row.new W 0 (CZ lf sq op a b c u);have n1:(h.AD9 0 (CZ lf sq op a b c u)).next=h.next+1:=rfl;generalize h.AD9 0 (CZ lf sq op a b c u)=h1 at bx x1 R1 n1;have al:=fun (F:AEA) (e:Env)=>BQ (F:=F) (e:=e) x1.wf (n:=7) (t:=Ch)
 have Ra:=Hp.Row.alloc x1.wf D7 (show F7.length=7 from rfl);have y2:h1.Ext (h1.push (.cells Ch 7 0)):=(Hp.Ext.refl x1.wf).push _;have n2:(h1.push (.cells Ch 7 0)).next=h1.next+1:=rfl;generalize h1.push (.cells Ch 7 0)=h2 at al Ra y2 n2;have x2:=x1.trans y2;have U2:=((U.more W (r:=h1.next) (by omega)).ext W x2);have k1:call AC (m+3) 31 [pt nb] h2=.ok (AI AT 0) h2:=rQ (m:=m) (Rn.ext W x2) U2;have c1:iNe 0 0=false:=CN rfl;obtain⟨_,_,_,_,_,_,_,lda⟩:=CP (R1.ext x1.wf y2);obtain⟨h3,k3,y3⟩:=X4 (m:=m) (AEY:=lf) (seq:=sq) (op:=op) (a:=a) (b:=b) (c:=c) x2.wf hop hu;have big:=W.big;cases hr:ED lf sq op a b c l
 ·rw[hr]at k3
  have Ra3:=Ra.ext y2.wf y3;obtain⟨h4,st4,f4,R4⟩:=EU (lf:=0) (sq:=0) (op:=0) (err:=0) (iv:=AEF) (bw:=AEF) (room:=0) y3.wf Ra3 rfl (by omega) rfl rfl;have bd:=fun (F:AEA) (e:Env)=>du (F:=F) (e:=e) (h:=h3)
  have x4:=Fx.xtF (x2.trans y3) f4 (fun b hb=>by rw[hb];omega);have hrun:∃ e1,d11 (call AC (m+3)) (AS e0 0 [pt nb,Cp lf sq op a b c u]) h=.ret e1 h4/\J 0 e1=pt nb/\J 3 e1=pt h.next/\J 4 e1=pt h1.next/\J 5 e1=AI AT 110:=by
   rw[Y9];unfold fR;simp only[iN,IS,sT,By,BY,reduceIte,bx,al,cA0,k1,AK,AJ,c1];unfold doR gQ Aq doM Aw;simp only[sT,By,BY,reduceIte,Av,Am,lda,cA0,k3,BZ,BX,Bool.not_false,bd,AX,st4];exact⟨_,rfl,by simp[AG]⟩
  obtain⟨e1,q0,q1,q2,q3,q4⟩:=hrun;have nn:=y3.next;have nn4:=f4.next;exact⟨e1,h4,_,_,q0,q1,q2,q3,x4,f4.row y3.wf ((R1.ext x1.wf y2).ext y2.wf y3) (by omega),R4,IT _,by omega,by omega,((U.more W (r:=h1.next) (by omega)).ext W x4),by omega,fun _=>q4⟩
 ·rw[hr]at k3
  have hrun:∃ e1,d11 (call AC (m+3)) (AS e0 0 [pt nb,Cp lf sq op a b c u]) h=doM (call AC (m+3)) e1 h3/\J 0 e1=pt nb/\J 3 e1=pt h.next/\J 4 e1=pt h1.next:=by
   rw[Y9];unfold fR;simp only[iN,IS,sT,By,BY,reduceIte,bx,al,cA0,k1,AK,AJ,c1];rw[qG];unfold gQ;simp only[sT,By,BY,reduceIte,Av,Am,lda,cA0,k3,BZ,BX,Bool.not_true];exact⟨_,rfl,by simp[AG]⟩
  obtain⟨e1,q0,q1,q2,q3⟩:=hrun;have nn:=y3.next;have x3:=x2.trans y3;exact⟨e1,h3,_,_,q0,q1,q2,q3,x3,(R1.ext x1.wf y2).ext y2.wf y3,Ra.ext y2.wf y3,IT _,by omega,by omega,((U.more W (r:=h1.next) (by omega)).ext W x3),by omega,fun e=>by cases e⟩
end
end
noncomputable section
open Go
set_option maxRecDepth 100000
section
variable {e:Env}{h h' g:Hp}{S X:Nat->Prop}{A:At}{T:List Nat}{m k n nb r r3 r4 op:Nat}{AEY lf sq a b c z err room:Int}{ks ks':List Kt}{fr fr' l:List Nat}{v u iv bw:IN}{x:Kt}
theorem Hp.VE.fx{xs:List IN}(V:h.VE u xs)(W:h.Wf)(f:Fx S h h')(hS:∀ b,AEc u b->¬ S b):h'.VE u xs:=by
 rcases V with (h1|⟨b,off,c,el,L,h1,h2,h3⟩)|h1
 ·exact .inl (.inl h1)
 ·exact .inl (.inr ⟨b,off,c,el,L,h1,f.row W h2 (hS b ⟨off,_,c,h1⟩),h3⟩)
 ·exact .inr h1
theorem qF{h1 h2:Hp}(R3:h.Row r3 0 (CZ lf sq op a b c u))(h1':1<=op)(h6:op<=6)(s0:J 0 e=pt nb)(s3:J 3 e=pt r3)(s4:J 4 e=pt r4){tv:IN}
  (hk:call AC (m+3) 33 [pt nb,Cp lf sq op a b c u,.func (.func (fnO op)) ⟨[]⟩ ⟨[]⟩] h=.ok (.tuple ⟨[tv,AI AT 0]⟩) h1)(st:AEH 7 (pt r4) tv h1=.ok AED h2):
  ∃ e2,doM (call AC (m+3)) e h=.ret e2 h2/\J 4 e2=pt r4/\J 5 e2=AI AT 0:=by
 obtain⟨_,_,l2,_,_,_,_,lda⟩:=CP R3;have hq:op=1\/op=2\/op=3\/op=4\/op=5\/op=6:=by omega
 unfold doM;rcases hq with hq|hq|hq|hq|hq|hq
 ·have c1:iEq (op:Int) 1=true:=CL (by omega)
  have hk:=hk;rw[show fnO op=34 by rw[hq];rfl]at hk;simp only[sT,By,BY,reduceIte,s3,AH,AO,If,AN,AP,l2,AK,AJ,c1,Av,Am,lda,cA0,s0,hk,A8,BB,BH,AX,s4,st];exact⟨_,rfl,by simp[AG,s4]⟩
 ·have c1:iEq (op:Int) 1=false:=B6 (by omega)
  have c2:iEq (op:Int) 2=true:=CL (by omega);have hk:=hk;rw[show fnO op=35 by rw[hq];rfl]at hk;simp only[sT,By,BY,reduceIte,s3,AH,AO,If,AN,AP,l2,AK,AJ,c1,c2,Av,Am,lda,cA0,s0,hk,A8,BB,BH,AX,s4,st];exact⟨_,rfl,by simp[AG,s4]⟩
 ·have c1:iEq (op:Int) 1=false:=B6 (by omega)
  have c2:iEq (op:Int) 2=false:=B6 (by omega);have c3:iEq (op:Int) 3=true:=CL (by omega);have hk:=hk;rw[show fnO op=36 by rw[hq];rfl]at hk;simp only[sT,By,BY,reduceIte,s3,AH,AO,If,AN,AP,l2,AK,AJ,c1,c2,c3,Av,Am,lda,cA0,s0,hk,A8,BB,BH,AX,s4,st];exact⟨_,rfl,by simp[AG,s4]⟩
 ·have c1:iEq (op:Int) 1=false:=B6 (by omega)
  have c2:iEq (op:Int) 2=false:=B6 (by omega);have c3:iEq (op:Int) 3=false:=B6 (by omega);have c4:iEq (op:Int) 4=true:=CL (by omega);have hk:=hk;rw[show fnO op=37 by rw[hq];rfl]at hk;simp only[sT,By,BY,reduceIte,s3,AH,AO,If,AN,AP,l2,AK,AJ,c1,c2,c3,c4,Av,Am,lda,cA0,s0,hk,A8,BB,BH,AX,s4,st];exact⟨_,rfl,by simp[AG,s4]⟩
 ·have c1:iEq (op:Int) 1=false:=B6 (by omega)
  have c2:iEq (op:Int) 2=false:=B6 (by omega);have c3:iEq (op:Int) 3=false:=B6 (by omega);have c4:iEq (op:Int) 4=false:=B6 (by omega);have c5:iEq (op:Int) 5=true:=CL (by omega);have hk:=hk;rw[show fnO op=38 by rw[hq];rfl]at hk;simp only[sT,By,BY,reduceIte,s3,AH,AO,If,AN,AP,l2,AK,AJ,c1,c2,c3,c4,c5,Av,Am,lda,cA0,s0,hk,A8,BB,BH,AX,s4,st];exact⟨_,rfl,by simp[AG,s4]⟩
 ·have c1:iEq (op:Int) 1=false:=B6 (by omega)
  have c2:iEq (op:Int) 2=false:=B6 (by omega);have c3:iEq (op:Int) 3=false:=B6 (by omega);have c4:iEq (op:Int) 4=false:=B6 (by omega);have c5:iEq (op:Int) 5=false:=B6 (by omega);have hk:=hk;rw[show fnO op=39 by rw[hq];rfl]at hk;simp only[sT,By,BY,reduceIte,s3,AH,AO,If,AN,AP,l2,AK,AJ,c1,c2,c3,c4,c5,Av,Am,lda,cA0,s0,hk,A8,BB,BH,AX,s4,st];exact⟨_,rfl,by simp[AG,s4]⟩
theorem qH(W:h.Wf)(Rn:h.Row nb 0 (AEa A.bd A.tb A.bs AEY))(U:UpX X h A T ks fr k)(hop:op<256){l:Nat}(hu:∀ g:Hp,AEs u g=.ok (AI AT (l:Int)) g)(hr:ED lf sq op a b c l=false):
  ∃ tv h',call AC (m+4) 11 [pt nb,Cp lf sq op a b c u] h=.ok (.tuple ⟨[tv,AI AT 110]⟩) h'/\h.Ext h'/\tv=CB 0 0 0 0 AEF AEF 0:=by
 obtain⟨e1,h4,r3,r4,p1,p2,p3,p4,x4,R3,R4,l3,l4,n34,U4,m4,q⟩:=Py (m:=m) (lf:=lf) (sq:=sq) (op:=op) (a:=a) (b:=b) (c:=c) W Rn U hop hu;rw[hr,if_neg (by decide)]at p1;refine⟨_,h4,?_,x4,rfl⟩;rw[Yr rfl,p1,BG,H4 (v:=CB 0 0 0 0 AEF AEF 0) (by rw[p4];exact DJ R4),q hr]
theorem ZR(W:h.Wf)(hA:A.n=24)(Rn:h.Row nb 0 (AEa A.bd A.tb A.bs AEY))(U:UpX X h A T ks fr k)(hX:∀ b,X b->b<h.next)(hXn:X nb)(hnD:¬ A.D nb)(hnt:A.tb≠nb)(AEK:256<=nb)(V:h.VE u (l.map bv))(hr:ED lf sq op a b c l.length=true)(hle:AEY<=lf)
  (ap:∀ (g:Hp) (Y:Nat->Prop),g.Wf->g.Row nb 0 (AEa A.bd A.tb A.bs lf)->UpX Y g A T ks fr k->(∀ b,Y b->b<g.next)->(∀ g0:Hp,h.Ext g0->Fx (fun b=>b=nb) g0 g->∃ z iv bw g' ks' fr',call AC (m+10) (fnO op) [pt nb,Cp lf sq op a b c u] g=.ok (CB 0 0 0 z iv bw 0) g'/\Fx A.D g g'/\UpX Y g' A T ks' fr' n/\z≠120/\oneCell iv=true/\oneCell bw=true/\Rdn T ks fr op a b c l g.next g' z iv bw ks' fr')):
  ∃ z iv bw room h' ks' fr',call AC (m+12) 11 [pt nb,Cp lf sq op a b c u] h=.ok (.tuple ⟨[CB lf sq op z iv bw room,AI AT 0]⟩) h'/\Fx (fun b=>A.D b\/b=nb) h h'/\h'.Row nb 0 (AEa A.bd A.tb A.bs lf)/\UpX X h' A T ks' fr' n/\z≠120/\oneCell iv=true/\oneCell bw=true/\Rdn T ks fr op a b c l h.next h' z iv bw ks' fr':=by
 obtain⟨o1,o6,_⟩:=OC hr;obtain⟨e1,h4,r3,r4,p1,p2,p3,p4,x4,R3,R4,l3,l4,n34,U4,m4,q⟩:=Py (m:=m+8) (lf:=lf) (sq:=sq) (op:=op) (a:=a) (b:=b) (c:=c) W Rn U (by omega) (fun g=>V.bl g);rw[hr,if_pos rfl]at p1;have big:=W.big;have hD:=U.lt W;have hn:=Rn.lt W;obtain⟨ht0,_,ht⟩:=U.tab;have htl:=ht0.lt W;obtain⟨z,iv,bw,room,h5,ks',fr',k5,f5,Rn5,U5,hz,hi,hw,hq⟩:=cA (m:=m+8) (n:=n) (lf:=lf) (sq:=sq) (op:=op) (a:=a) (b:=b) (c:=c) (u:=u) (f:=fnO op) x4.wf (Rn.ext W x4) U4 (fun b hb=>by
  have:=x4.next;rcases hb with hb|hb
  ·have:=hX b hb
   omega
  ·omega) (.inl hXn) hnD hnt AEK hle VZ fun g Y Wg Rg Ug hY fg=>ap g Y Wg Rg Ug hY h4 x4 fg
 have hDr:∀ r,h.next<=r->¬ A.D r:=fun r hr h=>by have:=hD _ h;omega
 have R45:=f5.row x4.wf R4 (fun h=>by
  rcases h with h|h
  ·exact hDr _ l4 h
  ·omega)
 obtain⟨h6,st6,f6,R6⟩:=EU (lf:=lf) (sq:=sq) (op:=op) (err:=z) (iv:=iv) (bw:=bw) (room:=room) f5.wf R45 rfl (by omega) hi hw;obtain⟨e2,q1,q2,q3⟩:=qF (m:=m+8) R3 o1 o6 p2 p3 p4 k5 st6;have U6:=UpX.wr f5.wf U5 (.inr rfl) R45 R6 f6 (hDr _ l4) (by omega) E6;refine⟨z,iv,bw,room,h6,ks',fr',?_,Fx.drop (((Fx.of x4).trans (f5.mono fun b hb=>.inl hb)).trans (f6.mono fun b hb=>.inr (by omega))),f6.row f5.wf Rn5 (by omega),U6.less fun b hb=>.inl hb,hz,hi,hw,VZ _ _ _ _ _ _ _ _ _ hq x4.next f5.wf (f6.mono fun b hb=>by omega)⟩;rw[Yr rfl,p1,q1,BG,H4 (v:=CB lf sq op z iv bw room) (by rw[q2];exact DJ R6),q3]
theorem qI(W:h.Wf)(hA:A.n=24)(Rn:h.Row nb 0 (AEa A.bd A.tb A.bs AEY))(U:UpX X h A T ks fr (k+40))(hX:∀ b,X b->b<h.next)(hXn:X nb)(hnD:¬ A.D nb)(hnt:A.tb≠nb)(AEK:256<=nb)(V:h.VE u (l.map bv))(hb:∀ x∈l,x<256)(hl:l.length<=1000)(huo:∀ b,AEc u b->b≠nb)(hr:ED lf sq op a b c l.length=true)(hle:AEY<=lf):
  ∃ z iv bw room h' ks' fr',call AC (m+12) 11 [pt nb,Cp lf sq op a b c u] h=.ok (.tuple ⟨[CB lf sq op z iv bw room,AI AT 0]⟩) h'/\Fx (fun b=>A.D b\/b=nb) h h'/\h'.Row nb 0 (AEa A.bd A.tb A.bs lf)/\UpX X h' A T ks' fr' k/\z≠120/\oneCell iv=true/\oneCell bw=true/\Rdn T ks fr op a b c l h.next h' z iv bw ks' fr':=by
 obtain⟨o1,o6,_⟩:=OC hr;exact ZR (m:=m) W hA Rn U hX hXn hnD hnt AEK V hr hle fun g Y Wg Rg Ug hY g0 x0 fg=>uf (m:=m) Wg hA Rg Ug hY ((V.ext W x0).fx x0.wf fg huo) hb hl o1 o6
theorem uw(W:h.Wf)(hA:A.n=24)(Rn:h.Row nb 0 (AEa A.bd A.tb A.bs AEY))(U:UpX X h A T ks fr k)(hX:∀ b,X b->b<h.next)(hXn:X nb)(hnD:¬ A.D nb)(hnt:A.tb≠nb)(AEK:256<=nb)(V:h.VE u (l.map bv))(hop:op=4\/op=5)(hr:ED lf sq op a b c l.length=true)(hle:AEY<=lf):
  ∃ z iv bw room h' ks' fr',call AC (m+12) 11 [pt nb,Cp lf sq op a b c u] h=.ok (.tuple ⟨[CB lf sq op z iv bw room,AI AT 0]⟩) h'/\Fx (fun b=>A.D b\/b=nb) h h'/\h'.Row nb 0 (AEa A.bd A.tb A.bs lf)/\UpX X h' A T ks' fr' k/\z≠120/\oneCell iv=true/\oneCell bw=true/\Rdn T ks fr op a b c l h.next h' z iv bw ks' fr':=
 ZR (m:=m) W hA Rn U hX hXn hnD hnt AEK V hr hle fun g Y Wg Rg Ug hY g0 x0 fg=>YV (m:=m) Wg hA Rg Ug hop
end
end
noncomputable section
open Go
set_option maxRecDepth 100000
structure Ak where
 lf:Int
 sq:Int
 op:Nat
 a:Int
 b:Int
 c:Int
 u:IN
 l:List Nat
def Ak.cells(x:Ak):List IN:=CZ x.lf x.sq x.op x.a x.b x.c x.u
def Ak.val(x:Ak):IN:=Cp x.lf x.sq x.op x.a x.b x.c x.u
def AGV(h:Hp)(x:Ak):Prop:=h.VE x.u (x.l.map bv)/\(∀ y∈x.l,y<256)/\oneCell x.u=true/\x.op<256
def flA(xs:List Ak):List IN:=xs.flatMap Ak.cells
def Hp.KL(h:Hp)(k:Nat)(v:IN)(xs:List Ak):Prop:=(v=AEF/\xs=[])\/∃ b,v=.slice (some ⟨b,0,none⟩) xs.length xs.length/\h.Row b 37 (flA xs)/\k<=b
structure AIV (h:Hp)(v:IN)(n cap:Nat):Prop where
 len:∀ g:Hp,AEs v g=.ok (AI AT (n:Int)) g
 get:∀ i,i<n->i<cap->∃ (r:Nat) (x:Ak),(∀ g:Hp,h.Ext g->AE2 7 v (AI AT (i:Int)) g=.ok (.pointer (some ⟨r,i*7,none⟩)) g/\loadN 7 ⟨r,i*7,none⟩ g=.ok x.val g/\AEC ⟨r,i*7+6,none⟩ g=.ok x.u g)/\AGV h x
theorem Of:∀ xs:List Ak,(flA xs).length=xs.length*7
 |[]=>rfl
 |x::l=>by
  show(x.cells++flA l).length=_;rw[No,Of l,xY];show 7+l.length*7=_;omega
theorem UZ:∀ (xs:List Ak) (i:Nat) (x:Ak),xs[i]? =some x->((flA xs).drop (i*7)).take 7=x.cells
 |[],i,x,h=>by cases h
 |y::xs,0,x,h=>by
  have h:some y=some x:=h;cases h;rfl
 |y::xs,i+1,x,h=>by
  show((y.cells++flA xs).drop ((i+1)*7)).take 7=_;rw[AC5,zC (show y.cells.length<=_ by show 7<=_;omega),yU,show(i+1)*7 - y.cells.length=i*7 by show(i+1)*7 - 7=_;omega];exact UZ xs i x h
theorem Zf:fwK=BI (Ab 1 fwB) fwI:=rfl
theorem Sf:fwL=Zg:=rfl
theorem qY:fwS=BI (Ab 0 (A3 fwL)) fwE:=rfl
theorem pj:d10=pk:=rfl
theorem kA:Bc Js.zero 1=CZ 0 0 0 0 0 0 AEF:=by kernel_rfl
theorem kH:Bt .mt 0 (CZ 0 0 0 0 0 0 AEF)=some kG:=by kernel_rfl
section
variable {F:AEA}{e:Env}{h h' h0 g:Hp}{S:Nat->Prop}{m k n:Nat}{v:IN}{xs:List Ak}{x:Ak}
theorem YT(W:h.Wf){g:O}(hg:g e=x.val):Ar 1 (Bc Js.zero 1) [(0,7,g)] F e h=.ok (.slice (some ⟨h.next,0,none⟩) 1 1) (h.AD9 0 x.cells):=by
 rw[kA,CO,As (hk:=by rw[hg];rfl),hg,show cellsOf x.val=x.cells from rfl,if_pos (show x.cells.length=7 from rfl),if_pos (show 0+7<=(CZ 0 0 0 0 0 0 AEF).length from IT _),Bu,C4 W];rfl
theorem Ak.one(x:Ak)(hu:oneCell x.u=true):Ba x.cells=true:=by
 show(bif oneCell x.u then true else false)=true;rw[hu];rfl
theorem Hp.KL.ext(o:h.KL k v xs)(W:h.Wf)(y:h.Ext h'):h'.KL k v xs:=by
 rcases o with h1|⟨b,h1,h2,h3⟩
 ·exact .inl h1
 ·exact .inr ⟨b,h1,h2.ext W y,h3⟩
theorem Hp.KL.fx(o:h.KL k v xs)(W:h.Wf)(f:Fx S h h')(hS:∀ b,k<=b->¬ S b):h'.KL k v xs:=by
 rcases o with h1|⟨b,h1,h2,h3⟩
 ·exact .inl h1
 ·exact .inr ⟨b,h1,f.row W h2 (hS b h3),h3⟩
theorem Hp.KL.len(o:h.KL k v xs)(g:Hp):AEs v g=.ok (AI AT (xs.length:Int)) g:=by
 rcases o with ⟨rfl,rfl⟩|⟨b,rfl,_⟩
 ·exact Dy
 ·exact Dy
theorem Hp.KL.at(o:h.KL k v xs){i:Nat}(hi:xs[i]? =some x):∃ b,AE2 7 v (AI AT (i:Int)) h=.ok (.pointer (some ⟨b,i*7,none⟩)) h/\loadN 7 ⟨b,i*7,none⟩ h=.ok x.val h:=by
 have hil:=(yD.1 hi).1;rcases o with ⟨rfl,rfl⟩|⟨b,rfl,h2,h3⟩
 ·cases hi
 ·refine⟨b,?_,?_⟩
  ·have:=C6 (h:=h) (n:=xs.length) (c:=xs.length) (es:=7) (b:=b) (off:=0) (i:=i) (k:=.i64) hil
   rwa [If]at this
  ·rw[h2.loadN (by rw[Of];omega),UZ xs i x hi];rfl
theorem Hp.KL.app(o:h.KL k v xs)(W0:h0.Wf)(x0:h0.Ext h)(hk:h0.next<=k)(hkn:k<=h.next)(hl:xs.length<=1000)(hu:oneCell x.u=true):
  ∃ h' v',DP 7 72 36 v (.slice (some ⟨h.next,0,none⟩) 1 1) (h.AD9 0 x.cells)=.ok v' h'/\h0.Ext h'/\h'.KL k v' (xs++[x]):=by
 have W:=x0.wf;have x1:=x0.AD9 0 x.cells;have y1:=(Hp.Ext.refl W).AD9 0 x.cells;have Rw:=Hp.Row.new W 0 x.cells;have hn1:h.next<=(h.AD9 0 x.cells).next:=y1.next;have big:=W0.big;generalize h.AD9 0 x.cells=h1 at x1 y1 Rw hn1;have hs:∀ K:List IN->R,BP h1 7 (.slice (some ⟨h.next,0,none⟩) 1 1) 1 K=K x.cells:=fun K=>Rw.AGB (es:=7) (off:=0) (n:=1) (by show 0+1 * 7<=7;omega)
 have ha:=x.one hu;rcases o with ⟨rfl,rfl⟩|⟨b,rfl,r,hb⟩
 ·obtain⟨h5,a1,a2,a3,a4,_,a6⟩:=JW (eb:=72) (en:=36) x1 hs rfl rfl ha (by omega)
  exact⟨h5,_,a1,a2,.inr ⟨_,rfl,by rw[show flA ([]++[x])=x.cells from xx _];exact a3,by omega⟩⟩
 ·obtain⟨h5,a1,a2,a3,_,_,a6⟩:=Nk (eb:=72) (en:=36) (n:=xs.length) x1 hs rfl rfl (by omega) ha (r.ext W y1) (Of xs) (by omega) (by omega) (by omega)
  refine⟨h5,_,a1,a2,.inr ⟨_,by rw[No];rfl,?_,by omega⟩⟩;rw[show flA (xs++[x])=flA xs++x.cells by unfold flA;rw[ACi];exact congrArg _ (xx _)];exact a3
theorem qU(W:h.Wf)(hb:h0.Ext h)(W0:h0.Wf)(O:AIV h0 v n 25):∃ h' v' xs,call AC (m+1) 10 [v] h=.ok v' h'/\h.Ext h'/\h'.KL h.next v' xs/\xs.length<=25/\∀ x∈xs,AGV h0 x/\x.l.length<=150:=by
 obtain⟨e1,p1,s0,s3,s4⟩:∃ e1,d10 (call AC m) (AS e0 0 [v]) h=fwS (call AC m) e1 h/\J 0 e1=v/\J 3 e1=AEF/\J 4 e1=AI AT ((0:Nat):Int):=by
  rw[pj];unfold pk;simp only[iN,IS,sT,By,BY,reduceIte];exact⟨_,rfl,by simp[AG]⟩
 have run:∃ e2 h2 xs,A3 fwL (call AC m) e1 h=.exit 0 e2 h2/\h.Ext h2/\h2.KL h.next (J 3 e2) xs/\xs.length<=25/\∀ x∈xs,AGV h0 x/\x.l.length<=150:=by
  refine Bd (I:=fun i e' h'=>∃ xs,h.Ext h'/\J 0 e'=v/\J 4 e'=AI AT (i:Int)/\i<=25/\h'.KL h.next (J 3 e') xs/\xs.length<=i/\∀ x∈xs,AGV h0 x/\x.l.length<=150)
   (Q:=fun x=>∃ e2 h2 xs,x=.exit 0 e2 h2/\h.Ext h2/\h2.KL h.next (J 3 e2) xs/\xs.length<=25/\∀ x∈xs,AGV h0 x/\x.l.length<=150) 25 (by omega) (fun i e' h' ⟨xs,x',t0,t4,hi,K,hl,hx⟩=>?_) ⟨[],.refl W,s0,s4,yK _,.inl ⟨s3,rfl⟩,IT _,fun x hx=>by cases hx⟩
  have W':=x'.wf;have ln:=O.len h';have done:(∃ e2,fwL (call AC m) e' h'=.exit 0 e2 h'/\J 3 e2=J 3 e')->(UU (fwL (call AC m) e' h')=true/\∃ e2 h2 xs,fwL (call AC m) e' h'=.exit 0 e2 h2/\h.Ext h2/\h2.KL h.next (J 3 e2) xs/\xs.length<=25/\∀ x∈xs,AGV h0 x/\x.l.length<=150):=fun⟨e2,r1,r2⟩=>by
   rw[r1];exact⟨rfl,e2,h',xs,rfl,x',by rw[r2];exact K,by omega,hx⟩
  by_cases hin:i<n
  ·have c1:=EW hin
   by_cases AHL:i<25
   ·left
    have c2:iLt (i:Int) 25=true:=HT (by omega);obtain⟨r2,x,hop,ok⟩:=O.get i hin AHL;obtain⟨q1,q2,q3⟩:=hop h' (hb.trans x');have a3:=fun g:Hp=>CI (i:=i) (h:=g) (by omega)
    have vl:=ok.1.bl h';obtain⟨e2,r1,u0,u3,u4⟩:∃ e2,fwL (call AC m) e' h'=fwK (call AC m) e2 h'/\J 0 e2=v/\J 3 e2=J 3 e'/\J 4 e2=AI AT (i:Int):=by
     rw[Sf];unfold Zg;simp only[sT,By,BY,reduceIte,gD,Af,t0,ln,AK,AJ,t4,c1,c2];exact⟨_,rfl,by simp[AG,t0,t4]⟩
    have fin:∀ (e3:Env) (h3:Hp),J 4 e3=AI AT (i:Int)->∃ e4,fwI (call AC m) e3 h3=.norm e4 h3/\J 4 e4=AI AT ((i+1:Nat):Int)/\J 0 e4=J 0 e3/\J 3 e4=J 3 e3:=fun e3 h3 r5=>by
     unfold fwI;simp only[sT,By,BY,reduceIte,BM,r5,a3];exact⟨_,rfl,by simp[AG]⟩
    by_cases AHg:x.l.length<=150
    ·have c3:iLe (x.l.length:Int) 150=true:=HS (by omega)
     have sl:=fun (F:AEA) (e:Env) (he:J 26 e=x.val)=>YT (F:=F) (e:=e) (x:=x) W' he
     obtain⟨h5,v5,k5,x5,K5⟩:=K.app (x:=x) W x' (IT _) x'.next (by omega) ok.2.2.1;obtain⟨e3,r3,w0,w3,w4⟩:∃ e3,fwB (call AC m) e2 h'=.norm e3 h5/\J 0 e3=v/\J 3 e3=v5/\J 4 e3=AI AT (i:Int):=by
      unfold fwB;simp only[sT,By,BY,reduceIte,A9,u0,u4,q1,AH,AO,AN,AP,q3,Af,vl,AK,AJ,c3,Av,Am,q2,sl,BN,u3,k5];exact⟨_,rfl,by simp[AG,u0,u4]⟩
     obtain⟨e4,f1,f2,f3,f4⟩:=fin e3 h5 w4;refine⟨AHL,e4,h5,?_,xs++[x],x5,f3.trans w0,f2,AHL,by rw[f4,w3];exact K5,by rw[No];show xs.length+1<=_;omega,fun z hz=>?_⟩
     ·rw[r1,Zf]
      simp only[BJ,Ay,r3,Ca,BA,f1]
     ·rcases yL.1 hz with hz|hz
      ·exact hx z hz
      ·rw[yE.1 hz];exact⟨ok,AHg⟩
    ·have c3:iLe (x.l.length:Int) 150=false:=Kx (by omega)
     obtain⟨e3,r3,w0,w3,w4⟩:∃ e3,fwB (call AC m) e2 h'=.norm e3 h'/\J 0 e3=v/\J 3 e3=J 3 e2/\J 4 e3=AI AT (i:Int):=by
      unfold fwB;simp only[sT,By,BY,reduceIte,A9,u0,u4,q1,AH,AO,AN,AP,q3,Af,vl,AK,AJ,c3];exact⟨_,rfl,by simp[AG,u0,u4]⟩
     obtain⟨e4,f1,f2,f3,f4⟩:=fin e3 h' w4;refine⟨AHL,e4,h',?_,xs,x',f3.trans w0,f2,AHL,by rw[f4,w3,u3];exact K,by omega,hx⟩;rw[r1,Zf];simp only[BJ,Ay,r3,Ca,BA,f1]
   ·right
    have c2:iLt (i:Int) 25=false:=Fu (by omega);refine done ?_;rw[Sf];unfold Zg;simp only[sT,By,BY,reduceIte,gD,Af,t0,ln,AK,AJ,t4,c1,c2];exact⟨_,rfl,by simp[AG]⟩
  ·right
   have c1:=DD (show n<=i by omega);refine done ?_;rw[Sf];unfold Zg;simp only[sT,By,BY,reduceIte,gD,Af,t0,ln,AK,AJ,t4,c1];exact⟨_,rfl,by simp[AG]⟩
 obtain⟨e2,h2,xs,r1,x2,K,hl,hx⟩:=run;refine⟨h2,_,xs,?_,x2,K,hl,hx⟩;rw[oE rfl,p1,qY];simp only[BJ,Ay,r1,A7,BA];unfold fwE;simp only[sT,By,BY,reduceIte,lV0]
end
end
noncomputable section
open Go Go.RowKit Go.WideShapes Go.ChangeShapes
set_option maxRecDepth 100000
theorem Yi{W:yQ}{a:Addr}{v:IN}(h:W.cell? a=some v):a.spot=none/\∃ cs tt fr,W.heap[a.block]? =some (.cells cs tt fr)/\cs[a.off]? =some v:=by
 unfold World.cell? at h;split at h
 ·rename_i cs tt fr hb
  split at h
  ·cases h
  ·rename_i hs
   refine⟨?_,cs,tt,fr,hb,h⟩;cases hsp:a.spot with
   |none=>rfl
   |some s=>rw[hsp]at hs;exact(hs rfl).elim
 ·cases h
theorem bQ{W:yQ}{a:Addr}{L:List IN}{cs:Array IN}{tt:TypeId}{fr:Nat×Nat}(hb:W.heap[a.block]? =some (.cells cs tt fr))(hc:∀ j,j<L.length->cs[a.off+j]? =some (L.getD j AED))(hf:∀ j,j<L.length->W.frozen? ⟨a.block,a.off+j,none⟩=false):Km W a L:=by
 refine⟨cs,tt,fr,hb,hc,fun i hi hh=>?_⟩;have h6:=hf i hi;obtain⟨lo,hi'⟩:=fr;simp only[World.frozen?,hb]at h6;simp only at hh;simp only[Bool.and_eq_false_iff,decide_eq_false_iff_not]at h6;omega
theorem U9{α:Type}{Q:Nat->α->Prop}:∀ n,(∀ i,i<n->∃ x,Q i x)->∃ xs:List α,xs.length=n/\∀ i x,xs[i]? =some x->Q i x
 |0,_=>⟨[],rfl,fun i x h=>by cases h⟩
 |n+1,h=>by
  obtain⟨xs,hl,hx⟩:=U9 n fun i hi=>h i (by omega)
  obtain⟨y,hy⟩:=h n (by omega);refine⟨xs++[y],by rw[No,hl];rfl,fun i x hi=>?_⟩;rcases yG i xs.length with h1|h1
  ·rw[yH h1]at hi;exact hx i x hi
  ·rw[yJ h1]at hi
   have h2:i - xs.length< [y].length:=(yD.1 hi).1;have h2:i - xs.length<1:=h2;have h3:i - xs.length=0:=by omega
   rw[h3]at hi;cases hi;rw[show i=n by omega];exact hy
theorem GN{s:Nat}:∀ {Ls:List (List IN)},(∀ l∈Ls,l.length=s)->Ls.flatten.length=Ls.length*s
 |[],_=>by simp
 |l::Ls,h=>by
  rw[zZ,No,h l xa,GN fun x hx=>h x (xZ _ hx),xY,AAk,ADk]
theorem QI{s:Nat}:∀ {Ls:List (List IN)} {i r:Nat} {l:List IN},(∀ l∈Ls,l.length=s)->Ls[i]? =some l->r<s->Ls.flatten[i*s+r]? =l[r]?
 |[],i,_,_,_,h,_=>by cases h
 |x::Ls,0,r,l,h,hi,hr=>by
  cases hi;rw[zZ,AAD,If,yH (by rw[h x xa];exact hr)]
 |x::Ls,i+1,r,l,h,hi,hr=>by
  have hx:=h x xa;rw[zZ,yJ (by rw[hx,AAk];omega),hx];have:(i+1)*s+r - s=i*s+r:=by rw[AAk];omega
  rw[this];exact QI (fun y hy=>h y (xZ _ hy)) hi hr
theorem Nf{s:Nat}:∀ {Ls:List (List IN)} {i:Nat} {l:List IN} (R:List IN),(∀ l∈Ls,l.length=s)->Ls[i]? =some l->((Ls.flatten++R).drop (i*s)).take s=l
 |[],i,_,_,_,h=>by cases h
 |x::Ls,0,l,R,h,hi=>by
  cases hi;rw[AAD,yv,zZ,yF];exact List.take_left' (h x xa)
 |x::Ls,i+1,l,R,h,hi=>by
  have hx:=h x xa;have:(i+1)*s=s+i*s:=by rw[AAk,ADk]
  rw[this,<- List.drop_drop,zZ,yF,List.drop_left' hx];exact Nf R (fun y hy=>h y (xZ _ hy)) hi
def Jz(W:yQ)(Q:List IN->Prop)(s:Nat)(v:IN)(n:Nat)(Ls:List (List IN)):Prop:=(∀ l∈Ls,l.length=s/\Q l)/\n<=Ls.length/\
 ((v=AEF/\Ls=[])\/(∃ a,v=.slice (some a) 0 0/\Ls=[])\/∃ a,v=.slice (some a) n Ls.length/\0<Ls.length/\a.spot=none/\Km W a Ls.flatten)
theorem Vd{H:Type}{enc:TypeId×IN->H}{P:Program}{t e:TypeId}{s:Nat}(ht:P.underlying t=some (.slice e))(hs:P.cellsOf e=s)(h0:0<s){W:yQ}{fuel:Nat}{v:IN}{x:DataW H×List MemPlace}{Q:List IN->Prop}
  (dec:∀ (m:Nat) (l:List IN) (y:DataW H×List MemPlace),l.length=s->zj enc P W 0 (fun _=>true) true m e l=some y->(∀ b off,AA7 b off∈y.2->W.frozen? ⟨b,off,none⟩=false)->Q l)
  (hf:zj enc P W 0 (fun _=>true) true fuel t [v]=some x)(hfz:∀ b off,AA7 b off∈x.2->W.frozen? ⟨b,off,none⟩=false):∃ n Ls,Jz W Q s v n Ls:=by
 rcases DataW.trod_slice ht hf with ⟨hcs,_⟩|⟨a,n,c,elems,rest,m,_,hcs,hx,_,hl,hm,hlen,hel,hsp,_⟩
 ·have:v=AEF:=by simpa using hcs
  exact⟨0,[],(fun l hl=>by cases hl),IT _,.inl ⟨this,rfl⟩⟩
 ·have:v=.slice (some a) n c:=by simpa using hcs
  subst this;obtain⟨hrl,hr⟩:=hsp rfl;subst hx;rcases Nat.eq_zero_or_pos c with hc|hc
  ·subst hc
   have:n=0:=by omega
   subst this;exact⟨0,[],(fun l hl=>by cases hl),IT _,.inr (.inl ⟨a,rfl,rfl⟩)⟩
  ·have htot:(elems++rest).length=c:=by rw[No];omega
   have each:∀ i,i<c->∃ l:List IN,(l.length=s/\Q l)/\∀ j,j<s->W.cell? ((a.add (i*s)).add j)=l[j]?:=fun i hi=>by
    have hi':i<(elems++rest).length:=by omega
    have hb:(W.cells? 0 (a.add (i*P.cellsOf e)) (P.cellsOf e)).bind (zj enc P W 0 (fun _=>true) true m e)=some ((elems++rest)[i]'hi'):=by
     rcases yG i n with h4|h4
     ·have:=hel i h4
      rw[this,<- sh hi',yH (by omega)]
     ·have:=hr (i - n) (by omega)
      rw[show n+(i - n)=i by omega]at this;rw[this,<- sh hi',yJ (by omega),hlen]
    rw[hs,Option.bind_eq_some_iff]at hb;obtain⟨l,h4,h5⟩:=hb;obtain⟨_,h6,h7⟩:=World.cells?_some h4;exact⟨l,⟨h6,dec m l _ h6 h5 fun b off hm=>hfz b off (List.mem_append_right _ (List.mem_flatMap.2 ⟨_,AAX hi',hm⟩))⟩,h7⟩
   obtain⟨Ls,hLl,hLs⟩:=U9 c each;have hall:∀ l∈Ls,l.length=s/\Q l:=fun l hl=>by
    obtain⟨i,hi,rfl⟩:=List.mem_iff_getElem.1 hl;exact(hLs i _ (sh hi)).1
   have hls:∀ l∈Ls,l.length=s:=fun l hl=>(hall l hl).1
   have hz:0<Ls.length:=by omega
   have c0:=(hLs 0 _ (sh hz)).2 0 h0;have hl0:0<(Ls[0]'hz).length:=by rw[hls _ (AAX hz)];exact h0
   rw[sh hl0,AAD]at c0;have c0:W.cell? a=some ((Ls[0]'hz)[0]'hl0):=c0;obtain⟨AJI,cs,tt,fr,hb,_⟩:=Yi c0;obtain⟨ab,ao,spot⟩:=a;simp only at AJI;subst AJI;have hfl:=GN hls;refine⟨n,Ls,hall,by omega,.inr (.inr ⟨⟨ab,ao,none⟩,by rw[hLl],hz,rfl,bQ hb (fun j hj=>?_) fun j hj=>hfz ab (ao+j) (List.mem_append_left _ ?_)⟩)⟩
   ·rw[hfl]at hj
    have hi:j/s<Ls.length:=Nat.div_lt_of_lt_mul (by rw[zT];exact hj);have hr:j % s<s:=Nat.mod_lt _ h0;have e:j/s*s+j % s=j:=by rw[zT];exact Nat.div_add_mod j s
    have hx:=sh hi;have q:=(hLs _ _ hx).2 _ hr;have g:=QI hls hx hr;rw[e]at g;have hll:j % s<(Ls[j/s]'hi).length:=by rw[hls _ (AAX hi)];exact hr
    rw[sh hll]at q g;rw[Addr.AFB,Addr.AFB,JA hb]at q;rw[xV,g];show cs[ao+j]? =some _;have:ao+j/s*s+j % s=ao+j:=by omega
    rw[<- this];exact q
   ·simp only[MemPlace.row,yz,List.mem_range]
    exact⟨j,by rw[hfl]at hj;rw[hs,hlen,hrl,show n+(c - n)=c by omega,<- hLl];exact hj,rfl⟩
theorem Vm{φ:Phi}{a:Addr}{n c i m:Nat}(hs:a.spot=none)(hn:n<=c)(hc:0<c)(hm:0<m)(hp:φ i=some (PI a m)):AEE φ (.slice (some ⟨i,0,none⟩) n c) (.slice (some a) n c):=by
 refine .slice hn ⟨rfl,hs,_,hp,rfl,.inl ⟨hc,?_,.inl rfl⟩⟩;show a.off=(if m=0 then 0 else a.off)+0;rw[if_neg (by omega),Nat.add_zero]
theorem Jz.rel{W:yQ}{Q:List IN->Prop}{s n:Nat}{v:IN}{Ls:List (List IN)}(b:Jz W Q s v n Ls)(h0:0<s)(rf:∀ l,Q l->∀ φ,AEV φ l l)(i:Nat):∃ (u:IN) (q:Option Pl),YM W Ls.flatten q/\(∀ φ,AEV φ Ls.flatten Ls.flatten)/\(∀ φ:Phi,φ i=q->AEE φ u v)/\
  ((u=AEF/\Ls=[])\/(u=.chan (some 0)/\Ls=[])\/u=.slice (some ⟨i,0,none⟩) n Ls.length):=by
 obtain⟨h1,h2,h3⟩:=b;have AEp:∀ φ,AEV φ Ls.flatten Ls.flatten:=fun φ=>by
  clear h2 h3
  induction Ls with
  |nil=>exact .nil
  |cons l Ls ih=>
   rw[zZ];exact(rf l (h1 l xa).2 φ).append (ih fun l hl=>h1 l (xZ _ hl))
 rcases h3 with ⟨rfl,rfl⟩|⟨a,rfl,rfl⟩|⟨a,rfl,h4,h5,h6⟩
 ·exact⟨AEF,none,.inl rfl,AEp,fun _ _=>.AE0,.inl ⟨rfl,rfl⟩⟩
 ·have:n=0:=by simpa using h2
  subst this;exact⟨.chan (some 0),none,.inl rfl,AEp,fun _ _=>.AGN,.inr (.inl ⟨rfl,rfl⟩)⟩
 ·have hfl:=GN fun l hl=>(h1 l hl).1
  refine⟨.slice (some ⟨i,0,none⟩) n Ls.length,some (PI a Ls.flatten.length),.inr ⟨a,rfl,h6⟩,AEp,fun φ hφ=>Vm h5 h2 h4 (by rw[hfl];exact Nat.mul_pos h4 h0) hφ,.inr (.inr rfl)⟩
def QB(l:List IN):Prop:=∃ x:Nat,l=[bv x]/\x<256
theorem lz{l:List IN}(h:QB l)(φ:Phi):AEV φ l l:=by
 obtain⟨x,rfl,_⟩:=h;exact .cons (.int _ _) .nil
theorem Q0:∀ xs:List Nat,(xs.map fun x=>[bv x]).flatten=xs.map bv
 |[]=>rfl
 |a::xs=>by rw[List.map_cons,zZ,Q0 xs];rfl
theorem NV:∀ {Ls:List (List IN)},(∀ l∈Ls,QB l)->∃ xs:List Nat,Ls=xs.map (fun x=>[bv x])/\∀ x∈xs,x<256
 |[],_=>⟨[],rfl,fun x hx=>by cases hx⟩
 |l::Ls,h=>by
  obtain⟨x,rfl,hx⟩:=h l xa;obtain⟨xs,rfl,hxs⟩:=NV fun l hl=>h l (xZ _ hl)
  exact⟨x::xs,rfl,fun y hy=>by
   rcases xz.1 hy with rfl|hy
   ·exact hx
   ·exact hxs y hy⟩
theorem ny{W:yQ}{v:IN}{n:Nat}{Ls:List (List IN)}(b:Jz W QB 1 v n Ls):∃ l:List Nat,(∀ x∈l,x<256)/\∀ (i:Nat) (u:IN),((u=AEF/\Ls=[])\/(u=.chan (some 0)/\Ls=[])\/u=.slice (some ⟨i,0,none⟩) n Ls.length)->∀ h:Hp,h.Row i 0 Ls.flatten->h.VE u (l.map bv):=by
 obtain⟨h1,h2,_⟩:=b;obtain⟨xs,rfl,hxs⟩:=NV fun l hl=>(h1 l hl).2
 rw[OF]at h2;refine⟨xs.take n,fun x hx=>hxs x (zV hx),fun i u hu h hr=>?_⟩;rw[Q0]at hr;rcases hu with ⟨rfl,hx⟩|⟨rfl,hx⟩|rfl
 ·have:xs=[]:=by simpa using hx
  subst this;exact .inl (.inl ⟨rfl,by simp⟩)
 ·have:xs=[]:=by simpa using hx
  subst this;exact .inr ⟨⟨0,rfl⟩,by simp⟩
 ·have hl:(xs.take n).length=n:=by rw[yM];omega
  refine .inl (.inr ⟨i,0,(xs.map fun x=>[bv x]).length,0,xs.map bv,?_,hr,?_,?_⟩)
  ·rw[OF,OF,hl]
  ·rw[OF,hl,OF];omega
  ·rw[OF,hl,yv,List.map_take]
structure AD where
 lf:Int
 sq:Int
 op:Nat
 a:Int
 b:Int
 c:Int
 u:IN
def AD.cells(x:AD):List IN:=CZ x.lf x.sq x.op x.a x.b x.c x.u
def YK(W:yQ)(x:AD):Prop:=(∃ n Ls,Jz W QB 1 x.u n Ls)/\x.op<256
theorem cf{φ:Phi}{lf sq a b c:Int}{op:Nat}{ui vi:IN}(h1:AEE φ ui vi):AEV φ (CZ lf sq op a b c ui) (CZ lf sq op a b c vi):=
 .cons (.int _ _) (.cons (.int _ _) (.cons (.int _ _) (.cons (.int _ _) (.cons (.int _ _) (.cons (.int _ _) (.cons h1 .nil))))))
theorem jD{u:IN}{P Q:Prop}{i n m:Nat}(h:(u=AEF/\P)\/(u=.chan (some 0)/\Q)\/u=.slice (some ⟨i,0,none⟩) n m):oneCell u=true:=by
 rcases h with ⟨rfl,_⟩|⟨rfl,_⟩|rfl<;>rfl
theorem Pi{W:yQ}:∀ (xs:List AD),(∀ x∈xs,YK W x)->∀ k:Nat,∃ (us:List AD) (qs:List (Option Pl)) (Zs:List (List IN)),us.length=xs.length/\qs.length=xs.length/\Zs.length=xs.length/\
  (∀ (i:Nat) (q:Option Pl) (L:List IN),qs[i]? =some q->Zs[i]? =some L->YM W L q/\∀ φ,AEV φ L L)/\(∀ φ:Phi,(∀ (i:Nat) (q:Option Pl),qs[i]? =some q->φ (i+k)=q)->AEV φ (us.flatMap AD.cells) (xs.flatMap AD.cells))/\
  (∀ h:Hp,(∀ (i:Nat) (L:List IN),Zs[i]? =some L->h.Row (i+k) 0 L)->∀ u∈us,∃ l:List Nat,h.VE u.u (l.map bv)/\(∀ x∈l,x<256)/\oneCell u.u=true/\u.op<256)
 |[],_,k=>⟨[],[],[],rfl,rfl,rfl,(fun i q L h=>by cases h),(fun φ _=>.nil),fun h _ x hx=>by cases hx⟩
 |x::xs,hx,k=>by
  obtain⟨us,qs,Zs,l1,l2,l3,h1,h2,h3⟩:=Pi xs (fun y hy=>hx y (xZ _ hy)) (k+1);obtain⟨⟨n,LI,bI⟩,hop⟩:=hx x xa;obtain⟨ui,q0,i1,i2,i3,i4⟩:=bI.rel (by omega) (fun l h φ=>lz h φ) k;obtain⟨lb,hlb,hB⟩:=ny bI;refine⟨⟨x.lf,x.sq,x.op,x.a,x.b,x.c,ui⟩::us,q0::qs,LI.flatten::Zs,by rw[xY,xY,l1],by rw[xY,xY,l2],by rw[xY,xY,l3],fun i q' L e1 e2=>?_,fun φ hφ=>?_,fun h hr y hy=>?_⟩
  ·match i,e1,e2 with
   |0,e1,e2=>cases e1;cases e2;exact⟨i1,i2⟩
   |i+1,e1,e2=>exact h1 i q' L e1 e2
  ·rw[ACw,ACw]
   refine(cf (i3 φ (by have:=hφ 0 q0 rfl;rwa [If]at this))).append (h2 φ fun i q' e=>?_);have:=hφ (i+1) q' e
   rwa [show i+1+k=i+(k+1)by omega]at this
  ·rcases xz.1 hy with rfl|hy
   ·exact⟨lb,hB k ui i4 h (by have:=hr 0 _ rfl;rwa [If]at this),hlb,jD i4,hop⟩
   ·refine h3 h (fun i L e=>?_) y hy
    have:=hr (i+1) L e
    rwa [show i+1+k=i+(k+1)by omega]at this
theorem WA(φ:Phi):∀ L:List IN,AEV φ (xn L.length (ABU none)) L
 |[]=>.nil
 |_::L=>.cons .unk (WA φ L)
def YN(W:yQ)(φ:Phi)(L:List IN)(q:Option Pl):Prop:=q=none\/∃ a L',q=some (PI a L.length)/\Km W a L'/\AEV φ L L'
theorem YM.AKa{W:yQ}{φ:Phi}{L:List IN}{q:Option Pl}(h:YM W L q)(r:AEV φ L L):YN W φ L q:=by
 rcases h with h|⟨a,ha,hr⟩
 ·exact .inl h
 ·exact .inr ⟨a,L,ha,hr,r⟩
theorem bR{W:yQ}{ty:TTy}{ps:List (Option Pl)}{Ls:List (List IN)}(AEK:Ls.length<=256)(hlen:ps.length=Ls.length)
  (h:∀ (i:Nat) (q:Option Pl) (L:List IN),ps[i]? =some q->Ls[i]? =some L->YN W (Nr ps) L q):AEI ty (Nr ps) nil (inH Ls) W:=
 qy AEK fun i p e=>by
  have e:(ps[i]?).getD none=some p:=e;cases hq:ps[i]? with
  |none=>rw[hq]at e;cases e
  |some q=>
   rw[hq]at e;have e:q=some p:=e;subst e;have hi:=(yD.1 hq).1;have hL:=sh (l:=Ls) (i:=i) (by omega);rcases h i _ _ hq hL with h|⟨a,L',ha,hr,hrl⟩
   ·cases h
   ·obtain rfl:=Option.some.inj ha
    exact⟨a,_,rfl,hL,hr.lt,az hr hrl⟩
theorem Hu(xs:List AD):xs.flatMap AD.cells=(xs.map AD.cells).flatten:=by rw[List.flatMap_def]
theorem cg{W:yQ}{v:IN}{n:Nat}{Ls:List (List IN)}(b:Jz W (fun l=>∃ x:AD,l=x.cells/\YK W x) 7 v n Ls)(i k cap:Nat):
  ∃ (u:IN) (q:Option Pl) (L0:List IN) (qs:List (Option Pl)) (Zs:List (List IN)),qs.length=min n cap/\Zs.length=min n cap/\
  (∀ φ:Phi,φ i=q->(∀ (j:Nat) (q':Option Pl),qs[j]? =some q'->φ (j+k)=q')->YN W φ L0 q/\AEE φ u v)/\(∀ (j:Nat) (q':Option Pl) (L:List IN),qs[j]? =some q'->Zs[j]? =some L->YM W L q'/\∀ φ,AEV φ L L)/\
  (∀ h:Hp,h.Wf->h.Row i 0 L0->(∀ (j:Nat) (L:List IN),Zs[j]? =some L->h.Row (j+k) 0 L)->AIV h u n cap):=by
 obtain⟨h1,h2,h3⟩:=b;rcases h3 with ⟨rfl,rfl⟩|⟨a,rfl,rfl⟩|⟨a,rfl,h4,h5,h6⟩
 ·have:n=0:=by simpa using h2
  subst this;exact⟨AEF,none,[],[],[],by simp,by simp,fun φ _ _=>⟨.inl rfl,.AE0⟩,(fun j q' L h=>by cases h),fun h _ _ _=>⟨fun g=>rfl,fun i hi=>absurd hi (ABP _)⟩⟩
 ·have:n=0:=by simpa using h2
  subst this;exact⟨.chan (some 0),none,[],[],[],by simp,by simp,fun φ _ _=>⟨.inl rfl,.AGN⟩,(fun j q' L h=>by cases h),fun h _ _ _=>⟨fun g=>rfl,fun i hi=>absurd hi (ABP _)⟩⟩
 ·obtain⟨xs,hxs⟩:∃ xs:List AD,Ls=xs.map AD.cells/\∀ x∈xs,YK W x:=by
   clear h2 h4 h5 h6
   induction Ls with
   |nil=>exact⟨[],rfl,fun x hx=>by cases hx⟩
   |cons l Ls ih=>
    obtain⟨_,x,rfl,hx⟩:=h1 l xa;obtain⟨xs,rfl,hxs⟩:=ih fun l hl=>h1 l (xZ _ hl)
    exact⟨x::xs,rfl,fun y hy=>by
     rcases xz.1 hy with rfl|hy
     ·exact hx
     ·exact hxs y hy⟩
  obtain⟨rfl,hok⟩:=hxs;rw[OF]at h2 h4;have hml:(xs.take (min n cap)).length=min n cap:=by rw[yM];omega
  obtain⟨us,qs,Zs,l1,l2,l3,r1,r2,r3⟩:=Pi (xs.take (min n cap)) (fun x hx=>hok x (zV hx)) k;have hsplit:(xs.map AD.cells).flatten=(xs.take (min n cap)).flatMap AD.cells++(xs.drop (min n cap)).flatMap AD.cells:=by
   rw[<- Hu,<- ACi,zN]
  have hcl:∀ (ys:List AD),∀ l∈ys.map AD.cells,l.length=7:=fun ys l hl=>by
   obtain⟨x,_,rfl⟩:=yz.1 hl;rfl
  have ul:(us.flatMap AD.cells).length=(xs.take (min n cap)).length*7:=by rw[Hu,GN (hcl us),OF,l1]
  have vl:((xs.take (min n cap)).flatMap AD.cells).length=(xs.take (min n cap)).length*7:=by rw[Hu,GN (hcl _),OF]
  have AIW:(us.flatMap AD.cells++xn ((xs.drop (min n cap)).flatMap AD.cells).length (ABU none)).length=(xs.map AD.cells).flatten.length:=by
   rw[hsplit,No,No,zO,ul,vl]
  have hpos:0<(xs.map AD.cells).flatten.length:=by rw[GN (hcl xs),OF];omega
  refine⟨.slice (some ⟨i,0,none⟩) n (xs.map AD.cells).length,some (PI a (xs.map AD.cells).flatten.length),us.flatMap AD.cells++xn ((xs.drop (min n cap)).flatMap AD.cells).length (ABU none),qs,Zs,by rw[l2,hml],by rw[l3,hml],fun φ hφ hq=>⟨.inr ⟨a,(xs.map AD.cells).flatten,by rw[AIW],h6,?_⟩,Vm h5 (by rw[OF];exact h2) (by rw[OF];exact h4) hpos hφ⟩,r1,fun h Wh hrow AIX=>⟨fun g=>Dy,fun j hj AKt=>?_⟩⟩
  ·rw[hsplit]
   exact(r2 φ hq).append (WA φ _)
  ·have hju:j<us.length:=by rw[l1,hml];omega
   have hx:us[j]? =some (us[j]'hju):=sh hju;obtain⟨lb,hB,hlb,ou,ow⟩:=r3 h AIX _ (AAX hju);refine⟨i,⟨(us[j]'hju).lf,(us[j]'hju).sq,(us[j]'hju).op,(us[j]'hju).a,(us[j]'hju).b,(us[j]'hju).c,(us[j]'hju).u,lb⟩,fun g xg=>?_,hB,hlb,ou,ow⟩;have hm:(us.map AD.cells)[j]? =some (us[j]'hju).cells:=by rw[yx,hx];rfl
   have hd:=Nf (xn ((xs.drop (min n cap)).flatMap AD.cells).length (ABU none)) (hcl us) hm;rw[<- Hu]at hd;refine⟨?_,?_,?_⟩
   ·have:=C6 (h:=g) (n:=n) (c:=(xs.map AD.cells).length) (es:=7) (b:=i) (off:=0) (k:=.i64) hj
    rwa [If]at this
   ·rw[(hrow.ext Wh xg).loadN (by rw[No,ul];omega),hd];rfl
   ·rw[(hrow.ext Wh xg).AEC (by rw[No,ul];omega)]
    have h5:((us.flatMap AD.cells++xn ((xs.drop (min n cap)).flatMap AD.cells).length (ABU none)).drop (j*7)).take 7=(us[j]'hju).cells:=hd;have h6:=congrArg (fun l=>l[6]?) h5;simp only[zy,AAP]at h6;rw[if_pos (by omega)]at h6;rw[xV,h6];rfl
end
noncomputable section
open Go
set_option maxRecDepth 100000
theorem wg:jy.zero=[.pointer none,.pointer none,.pointer none,AI AT 0]:=by kernel_rfl
section
variable {F:AEA}{e:Env}{h h':Hp}{A:At}{T M:List Nat}{c0 bad m k n nb r bd bm bc bs tb:Nat}{arm AEY b:Int}{ks:List Kt}{fr:List Nat}{v lv fv:IN}{ov:Bool}{x:Kt}
theorem vE:sy [] [0,1,2,3,4,5,6,7]:=⟨List.nodup_nil,.refl _⟩
theorem vJ:Med T iC [] [0,1,2,3,4,5,6,7]:=by
 refine⟨zO,fun k hk=>(by cases hk),fun k hk=>(by cases hk),fun p _ r _=>RI,fun k hk=>(by cases hk),fun p hp=>?_⟩;simp only[xz,List.not_mem_nil,or_false]at hp;omega
theorem VK(W:h.Wf)(Rn:h.Row nb 0 (AEa A.bd A.tb A.bs AEY))(s:Sl h A T M c0 arm ks fr lv fv bad ov):∃ h' v,call AC (m+5) 13 [pt nb] h=.ok v h'/\h.Ext h'/\h'.AL h.next v ks:=by
 obtain⟨_,_,n2,_⟩:=Cg Rn;have p1:∀ e:Env,J 0 e=pt nb->oEq TT.k false (J 0) (kV (.pointer none)) (call AC (m+4)) e h=.ok (.bool false) h:=fun e he=>F2 lm he
 obtain⟨h3,v3,k3,x3,V3⟩:=Tl (m:=m) W s.row s.ls (Sl.all s) s.le.1;have k3:call AC (m+4) 40 [pt A.bs] h=.ok v3 h3:=k3;refine⟨h3,v3,?_,x3,V3⟩;rw[oF rfl];unfold d13;simp only[iN,IS,sT,By,BY,reduceIte,p1,Ax,Al,AH,AO,If,AN,AP,n2,cA0,k3,lV0]
theorem nw{g1 g2 g3:O}(h1:g1 e=pt bd)(h2:g2 e=pt tb)(h3:g3 e=pt bs):BC jy.zero [(0,1,g1),(1,1,g2),(2,1,g3)] F e h=.ok (.agg ⟨AEa bd tb bs 0⟩) h:=by
 rw[CQ,wg,As (hk:=by rw[h1];rfl),h1,As (hk:=by rw[h2];rfl),h2,As (hk:=by rw[h3];rfl),h3];rfl
theorem Xy(W:h.Wf)(Rt:h.Row tb 0 (T.map wv))(hT:AE4 T):
  ∃ h' bs bd bm bc nb,call AC (m+10) 9 [pt tb] h=.ok (.tuple ⟨[pt bd,pt nb,.bool true]⟩) h'/\h.Ext h'/\UpX (fun b=>b=nb) h' ⟨bs,bd,bm,bc,tb,24⟩ T [] [0,1,2,3,4,5,6,7] k/\h'.Row nb 0 (AEa bd tb bs 0)/\(∀ b,At.D ⟨bs,bd,bm,bc,tb,24⟩ b->h.next<=b/\b<nb)/\h.next<=nb:=by
 obtain⟨h1,bd,bm,bc,k1,x1,d,l1,l2,l3⟩:=gP (m:=m+8) (n:=24) W (by omega);have htb:=Rt.lt W;have d:Dk h1 bd bm bc 24 iC 0 [] (-1) false:=d;obtain⟨h2,bs,c1,AEd,lv,fv,ks3,k2,f2,s2,pm,l4,ha⟩:=ac (m:=m) (k:=k) x1.wf d (Rt.ext W x1) hT ⟨by omega,by omega,by omega⟩ vE (vJ (T:=T)) (fun x hx=>by cases hx) (wz _);have hk:ks3=[]:=List.map_eq_nil_iff.1 (List.perm_nil.1 pm);subst hk;have s2:Sl h2 ⟨bs,bd,bm,bc,tb,24⟩ T iC c1 AEd [] [0,1,2,3,4,5,6,7] lv fv 0 false:=s2;have k2:call AC (m+8) 47 [pt bd,pt tb,AI AT 100] h1=.ok (.tuple ⟨[pt bs,AI AT 0]⟩) h2:=k2;have k1:call AC (m+9) 30 [AI AT 24] h=.ok (.tuple ⟨[pt bd,AI AT 0]⟩) h1:=k1;have x2:h.Ext h2:=Fx.AKR x1 f2 fun b hb=>by rcases hb with rfl|rfl|rfl<;>assumption
 have W2:=x2.wf;have hn1:=x1.next;have c0:iEq 0 0=true:=CL rfl;have c00:iNe 0 0=false:=CN rfl;have y3:=(Hp.Ext.refl W2).AD9 0 (AEa bd tb bs 0);have R3:=Hp.Row.new W2 0 (AEa bd tb bs 0);have k3:call AC (m+9) 21 [pt bd,pt tb,AI AT 100] h1=.ok (.tuple ⟨[pt h2.next,AI AT 0]⟩) (h2.AD9 0 (AEa bd tb bs 0)):=by
  have bn:=fun (F:AEA) (e:Env) (e1:J 0 e=pt bd) (e2:J 1 e=pt tb) (e3:J 8 e=pt bs)=>nw (F:=F) (h:=h2) e1 e2 e3
  have bx:=fun (F:AEA) (e:Env) (he:J 23 e=.agg ⟨AEa bd tb bs 0⟩)=>(show Cc (J 23) F e h2=.ok (pt h2.next) (h2.AD9 0 (AEa bd tb bs 0))by rw[Eu,he,Eq W2];rfl)
  rw[oK rfl];unfold d21;simp only[iN,IS,sT,By,BY,reduceIte,cA0,k2,A8,BB,BH,AK,AJ,c00,bn,bx,BG,DR]
 have D2:=s2.AGk W2;have s3:=s2.ext W2 y3;refine⟨_,bs,bd,bm,bc,h2.next,?_,x2.trans y3,⟨⟨iC,c1,AEd,lv,fv,s3,vE,vJ,fun x hx=>(by cases hx),ha⟩,fun x hx=>(by cases hx)⟩,R3,fun b hb=>⟨?_,D2 b hb⟩,x2.next⟩
 ·rw[ut rfl]
  unfold d9;simp only[iN,IS,sT,By,BY,reduceIte,gD,cA0,k1,A8,BB,BH,k3,AK,AJ,c0,BG,MH]
 ·rcases hb with h1|h1|h1|h1<;>rw[h1]
  ·exact yP hn1 l4
  ·exact l1
  ·exact l2
  ·exact l3
end
end
noncomputable section
open Go
set_option maxRecDepth 100000
structure Ctx (h0:Hp)(A:At)(nb kk:Nat):Prop where
 W0:h0.Wf
 hD:∀ b,A.D b->h0.next<=b/\b<nb
 n24:A.n=24
 nb0:h0.next<=nb
 kk:nb<kk
 tb:A.tb≠nb
section
variable {F:AEA}{e:Env}{h:Hp}{n r:Nat}{b c z:Int}{v u:IN}{xs:List Ak}
theorem UC(W:h.Wf){z:VT}{L vs:List IN}(hz:Bt .mt 0 L=some z)(hL:L.length=7)(hv:vs.length=7)(h1:Ba vs=true):
  ∃ g1 g2,(∀ (F:AEA) (e:Env),BV 7 z F e h=.ok (pt h.next) g1)/\AEH 7 (pt h.next) (.agg ⟨vs⟩) g1=.ok AED g2/\h.Ext g2/\g2.Row h.next 0 vs/\h.next<g2.next:=by
 have al:=fun (F:AEA) (e:Env)=>BQ (F:=F) (e:=e) W (n:=7) (t:=z)
 have Ra:=Hp.Row.alloc W hz hL;have y2:h.Ext (h.push (.cells z 7 0)):=(Hp.Ext.refl W).push _;generalize h.push (.cells z 7 0)=h2 at al Ra y2;have big:=W.big;have ho:0+vs.length<=L.length:=by rw[hL,hv];exact IT _
 have st:=Ra.AEH (n:=7) (off:=0) y2.wf (by omega) (v:=.agg ⟨vs⟩) hv ho h1;have wr:=Ra.AEM y2.wf ho;rw[Em (show L.length=vs.length by rw[hL,hv])]at wr;have x3:=Ra.AEe y2 (IT _) ho;exact⟨h2,_,al,st,x3,wr,wr.lt x3.wf⟩
theorem Hp.VE.lt{xs:List IN}(V:h.VE u xs)(W:h.Wf):∀ b,AEc u b->b<h.next:=fun b ⟨off,n,c,hb⟩=>by
 rcases V with (⟨h1,_⟩|⟨b',off',c',el,L,h1,h2,_⟩)|⟨⟨r,h1⟩,_⟩
 ·rw[h1]at hb;cases hb
 ·rw[h1]at hb
  injection hb with hb
  injection hb with hb
  injection hb with hb
  rw[<- hb];exact h2.lt W
 ·rw[h1]at hb;cases hb
end
end
noncomputable section
open Go
set_option maxRecDepth 100000
section
variable {X:List Kt}{x y:Kt}{a b c:Int}
def LtC(x y:Kc):Prop:=x.a<y.a\/(x.a=y.a/\(x.b<y.b\/(x.b=y.b/\(x.c<y.c\/(x.c=y.c/\x.p<y.p)))))
def LtK(x y:Kt):Prop:=LtC x.core y.core
theorem PG{z:Int}{l:List Int}:orZ (z::l)<0↔z<0\/(z=0/\orZ l<0):=by
 have e:orZ (z::l)=if z=0 then orZ l else z:=rfl
 rw[e];split
 ·rename_i h
  exact⟨fun g=>.inr ⟨h,g⟩,fun g=>g.elim (fun g=>by omega) fun g=>g.2⟩
 ·rename_i h
  exact⟨.inl,fun g=>g.elim id fun g=>absurd g.1 h⟩
theorem OX{a b:Int}:DB a b<0↔a<b:=by
 unfold DB;split
 ·omega
 ·split<;>omega
theorem OW{a b:Int}:DB a b=0↔a=b:=by
 unfold DB;split
 ·omega
 ·split<;>omega
theorem VU:Gp x y<0↔LtK x y:=by
 unfold Gp LtK LtC;rw[PG,PG,PG,PG,OX,OX,OX,OX,OW,OW,OW,OW];show x.a<y.a\/x.a=y.a/\(x.b<y.b\/x.b=y.b/\(x.c<y.c\/x.c=y.c/\((x.p:Int)<(y.p:Int)\/(x.p:Int)=(y.p:Int)/\(0:Int)<0)))↔x.a<y.a\/(x.a=y.a/\(x.b<y.b\/(x.b=y.b/\(x.c<y.c\/(x.c=y.c/\x.p<y.p)))));omega
theorem LtK.tot(h:x.key≠y.key):LtK x y\/LtK y x:=by
 have h2:¬ (x.a=y.a/\x.b=y.b/\x.c=y.c):=fun g=>h (by show(x.a,x.b,x.c)=(y.a,y.b,y.c);rw[g.1,g.2.1,g.2.2])
 show(x.a<y.a\/(x.a=y.a/\(x.b<y.b\/(x.b=y.b/\(x.c<y.c\/(x.c=y.c/\x.p<y.p))))))\/(y.a<x.a\/(y.a=x.a/\(y.b<x.b\/(y.b=x.b/\(y.c<x.c\/(y.c=x.c/\y.p<x.p))))));omega
theorem LtK.tr{z:Kt}(h:LtK x y)(h2:LtK y z):LtK x z:=by
 unfold LtK LtC at *;omega
theorem Nt:∀ {l:List Kt},l.Pairwise (fun u v=>LtK v u)->(∀ y∈l,x.key≠y.key)->(IK x l).Pairwise (fun u v=>LtK v u)
 |[],_,_=>ACD _ _
 |y::r,h,hk=>by
  obtain⟨h1,h2⟩:=zR.1 h;rw[KP];split
  ·rename_i hlt
   refine zR.2 ⟨fun z hz=>?_,Nt h2 fun z hz=>hk z (xZ _ hz)⟩;rcases MP.1 hz with rfl|hz
   ·exact VU.1 hlt
   ·exact h1 z hz
  ·rename_i hlt
   have hyx:LtK y x:=(LtK.tot (hk y xa)).resolve_left fun g=>hlt (VU.2 g)
   refine zR.2 ⟨fun z hz=>?_,h⟩;rcases xz.1 hz with rfl|hz
   ·exact hyx
   ·exact(h1 z hz).tr hyx
theorem Zr{A:List Kt}(h:A.Pairwise LtK)(hk:∀ y∈A,x.key≠y.key):(Gg A x).Pairwise LtK:=by
 unfold Gg;exact ACU.2 (Nt (ACU.2 h) fun y hy=>hk y (List.mem_reverse.1 hy))
theorem Vr:∀ (B A:List Kt),A.Pairwise LtK->((A++B).map Kt.key).Nodup->(srt A B).Pairwise LtK
 |[],A,h,_=>h
 |x::B,A,h,hn=>by
  show(srt (Gg A x) B).Pairwise LtK;have pm:((Gg A x++B).map Kt.key).Perm ((A++x::B).map Kt.key):=(((Nx A x).append_right B).trans List.perm_middle.symm).map _;refine Vr B _ (Zr h fun y hy e=>?_) (pm.nodup_iff.2 hn);rw[List.map_append,List.nodup_append]at hn;exact hn.2.2 y.key (yz.2 ⟨y,hy,rfl⟩) x.key (yz.2 ⟨x,xa,rfl⟩) e.symm
theorem X9(hn:(X.map Kt.key).Nodup):(Ds X).Pairwise LtK:=by
 unfold Ds;refine Vr _ _ ?_ (by rw[zN];exact hn);cases X with
 |nil=>exact .nil
 |cons x l=>exact ACD _ _
end
def rnk(x:Kt):Int×Int×Int×Nat:=(x.a,x.b,x.c,x.p)
theorem VC{x y x' y':Kt}(h:rnk x=rnk x')(h2:rnk y=rnk y')(l:LtK x y):LtK x' y':=by
 have e1:x.a=x'.a:=congrArg (·.1) h;have e2:x.b=x'.b:=congrArg (·.2.1) h;have e3:x.c=x'.c:=congrArg (·.2.2.1) h;have e4:x.p=x'.p:=congrArg (·.2.2.2) h;have g1:y.a=y'.a:=congrArg (·.1) h2;have g2:y.b=y'.b:=congrArg (·.2.1) h2;have g3:y.c=y'.c:=congrArg (·.2.2.1) h2;have g4:y.p=y'.p:=congrArg (·.2.2.2) h2;have l:x.a<y.a\/(x.a=y.a/\(x.b<y.b\/(x.b=y.b/\(x.c<y.c\/(x.c=y.c/\x.p<y.p))))):=l;show x'.a<y'.a\/(x'.a=y'.a/\(x'.b<y'.b\/(x'.b=y'.b/\(x'.c<y'.c\/(x'.c=y'.c/\x'.p<y'.p)))));rw[<- e1,<- e2,<- e3,<- e4,<- g1,<- g2,<- g3,<- g4];exact l
theorem Vg:∀ {ks:List Kt} {j:Nat} {x y:Kt},ks.Pairwise LtK->ks[j]? =some x->rnk y=rnk x->(ks.set j y).Pairwise LtK
 |[],j,x,y,h,hj,e=>by cases hj
 |z::ks,0,x,y,h,hj,e=>by
  cases hj;obtain⟨h1,h2⟩:=zR.1 h;exact zR.2 ⟨fun w hw=>VC e.symm rfl (h1 w hw),h2⟩
 |z::ks,j+1,x,y,h,hj,e=>by
  obtain⟨h1,h2⟩:=zR.1 h;refine zR.2 ⟨fun w hw=>?_,Vg h2 hj e⟩;have hj:ks[j]? =some x:=hj;rcases mem_set hj hw with rfl|hw
  ·exact VC rfl e.symm (h1 x (xp hj))
  ·exact h1 w hw
theorem cC{T M M':List Nat}{ks ks':List Kt}{fr fr':List Nat}{kd a b c:Int}{l:List Nat}{np:Nat}(iv:AFN np ks fr)(h:ks.Pairwise LtK)(t:Pb T M ks fr kd a b c l M' ks' fr'):ks'.Pairwise LtK:=by
 have hk:=(Ho iv t).1.key;rcases t with ⟨_,_,p,k',_,rfl,_⟩|⟨_,j,kx,hj,_,_,rfl,_⟩|⟨_,j,kx,hj,_,_,rfl,_⟩|⟨_,rfl,_⟩
 ·exact X9 (((Gw _).map Kt.key).nodup_iff.1 hk)
 ·exact(Vg (y:={kx with s:=2}) h hj rfl).filter _
 ·exact h.sublist (by rw[<- List.eraseIdx_eq_take_drop_succ];exact List.eraseIdx_sublist _ _)
 ·exact h.filter _
theorem jq{T:List Nat}{ks ks':List Kt}{fr fr':List Nat}{kd a b c z:Int}{l:List Nat}{np:Nat}(iv:AFN np ks fr)(h:ks.Pairwise LtK)(s:Stp T ks fr kd a b c l z ks' fr'):ks'.Pairwise LtK:=by
 rcases s with ⟨_,rfl,_⟩|⟨_,M,M',t⟩
 ·exact h
 ·exact cC iv h t
theorem df{ks:List Kt}(h:∀ x∈ks,0<=x.a/\0<=x.b/\1<=x.c):(ks.filter fun x=>LE x 0 0 0)=ks:=
 List.filter_eq_self.2 fun x hx=>by
  obtain⟨h1,h2,h3⟩:=h x hx;unfold LE;split
  ·split
   ·exact decide_eq_true (by omega)
   ·exact decide_eq_true (by omega)
  ·exact decide_eq_true (by omega)
theorem Yc{ks:List Kt}{z:Kt}(h:(ks++[z]).Pairwise LtK):((ks++[z]).filter fun x=>LE x z.a z.b z.c)=[]:=by
 refine List.filter_eq_nil_iff.2 fun x hx=>?_
 have q:x.a<z.a\/(x.a=z.a/\(x.b<z.b\/(x.b=z.b/\x.c<=z.c))):=by
  rcases yL.1 hx with hx|hx
  ·have:LtK x z:=(List.pairwise_append.1 h).2.2 x hx z xa
   have:x.a<z.a\/(x.a=z.a/\(x.b<z.b\/(x.b=z.b/\(x.c<z.c\/(x.c=z.c/\x.p<z.p))))):=this;omega
  ·rw[yE.1 hx];omega
 unfold LE;split
 ·split
  ·rw[decide_eq_true_eq];omega
  ·rw[decide_eq_true_eq];omega
 ·rw[decide_eq_true_eq];omega
end
noncomputable section
open Go
set_option maxRecDepth 100000
theorem rl:rlK=BI (Ab 1 rlB) rlI:=rfl
theorem bN:rlL=jZ:=rfl
def rq(j:Nat):Prop:=j=4\/j=5\/j=31\/j=32
section
variable {e:Env}{h h' h0 g:Hp}{X:Nat->Prop}{A:At}{T M:List Nat}{c0 m k kk n nb op i bd tb bs:Nat}{arm AEY sq a b c z room:Int}{ks ks':List Kt}{fr fr' l:List Nat}{v lv fv u w iv bw:IN}{x:Ak}{xs:List Ak}
theorem UpX.inv(U:UpX X h A T ks fr k):AFN 8 ks fr:=by
 obtain⟨⟨M,c0,arm,lv,fv,s,iv,_⟩,_⟩:=U;exact iv
theorem jW{np:Nat}(iv:AFN np ks fr)(h:ks.Pairwise LtK)(q:Rdn T ks fr op a b c l n g z w bw ks' fr'):ks'.Pairwise LtK:=by
 rcases q with ⟨_,_,_,_,_,_,s⟩|⟨rfl,_⟩
 ·exact jq iv h s
 ·exact h
theorem rm(C0:Ctx h0 A nb kk)(x0:h0.Ext h)(K:h.KL kk v xs)(hi:xs[i]? =some x)(ok:AGV h0 x)(AHg:x.l.length<=150)(Rn:h.Row nb 0 (AEa A.bd A.tb A.bs AEY))(U:UpX (fun b=>b=nb) h A T ks fr (k+40))(hA:ks.Pairwise LtK)(hlf:AEY<=1)
  (s5:J 5 e=pt nb)(s31:J 31 e=v)(s33:J 33 e=AI AT (i:Int)):
  ∃ e' h' AFJ ks' fr',rlB (call AC (m+12)) e h=.norm e' h'/\h0.Ext h'/\(∀ j,rq j\/j=33->J j e'=J j e)/\AFJ<=1/\UpX (fun b=>b=nb) h' A T ks' fr' k/\ks'.Pairwise LtK/\h'.Row nb 0 (AEa A.bd A.tb A.bs AFJ)/\h'.KL kk v xs:=by
 have W:=x0.wf;obtain⟨b,ix,ld⟩:=K.at hi;obtain⟨g1,h1,al1,st1,y1,R1,q1⟩:=UC W kH rfl (vs:=x.cells) rfl (x.one ok.2.2.1);have st1:AEH 7 (pt h.next) x.val g1=.ok AED h1:=st1;have big:=C0.W0.big;have hn0:=x0.next;obtain⟨h2,st2,R2,n2,f2,xt2⟩:=FG (v:=AI AT 1) y1.wf R1 (off:=0) (by show 0<7;omega) (by omega) rfl rfl;have R2:h2.Row h.next 0 (CZ 1 x.sq x.op x.a x.b x.c x.u):=R2;have y2:h.Ext h2:=xt2 h y1 (IT _);obtain⟨_,_,_,_,_,_,_,lda⟩:=CP R2;have x2:=x0.trans y2;have V2:=ok.1.ext C0.W0 x2;have U2:=U.ext W y2;have Rn2:=Rn.ext W y2;have hnl:=Rn2.lt x2.wf;have AKu:=C0.nb0;have hkk:=C0.kk;have fin:∀ (rv:IN) (h3:Hp),call AC (m+12) 11 [pt nb,Cp 1 x.sq x.op x.a x.b x.c x.u] h2=.ok rv h3->∃ e',rlB (call AC (m+12)) e h=.norm e' h3/\∀ j,rq j\/j=33->J j e'=J j e:=fun rv h3 k3=>by
  unfold rlB;simp only[sT,By,BY,reduceIte,A9,s31,s33,ix,Av,Am,ld,al1,AX,st1,AH,AO,If,st2,lda,cA0,s5,k3];refine⟨_,rfl,fun j hj=>?_⟩;rcases hj with (rfl|rfl|rfl|rfl)|rfl<;>simp only[AG,By,BY,reduceIte]
 cases hr:ED 1 x.sq x.op x.a x.b x.c x.l.length
 ·obtain⟨tv,h3,k3,y3,_⟩:=qH (m:=m+8) y2.wf Rn2 U2 ok.2.2.2 (fun g=>V2.bl g) hr
  obtain⟨e',p1,p2⟩:=fin _ _ k3;have y:=y2.trans y3;exact⟨e',h3,AEY,ks,fr,p1,x0.trans y,p2,hlf,(U.ext W y).le (by omega),hA,Rn.ext W y,K.ext W y⟩
 ·obtain⟨z,iv,bw,room,h3,ks',fr',k3,f3,Rn3,U3,_,_,_,rd⟩:=qI (m:=m) (k:=k) y2.wf C0.n24 Rn2 U2 (fun b hb=>by rw[hb];exact hnl) rfl (fun hb=>by have:=C0.hD _ hb;omega) C0.tb (by omega) V2 ok.2.1 (by omega) (fun b hb=>by
   have:=ok.1.lt C0.W0 b hb;omega) hr hlf
  obtain⟨e',p1,p2⟩:=fin _ _ k3;have hS:∀ b,(A.D b\/b=nb)->h0.next<=b/\b<=nb:=fun b hb=>by
   rcases hb with hb|hb
   ·have:=C0.hD b hb
    omega
   ·omega
  exact⟨e',h3,1,ks',fr',p1,Fx.xtF x2 f3 fun b hb=>(hS b hb).1,p2,ACV _,U3,jW U.inv hA rd,Rn3,(K.ext W y2).fx y2.wf f3 fun b hb hs=>by have:=hS _ hs;omega⟩
theorem ja(C0:Ctx h0 A nb kk)(x0:h0.Ext h)(K:h.KL kk v xs)(hl:xs.length<=25)(hx:∀ x∈xs,AGV h0 x/\x.l.length<=150)(Rn:h.Row nb 0 (AEa A.bd A.tb A.bs 0))(U:UpX (fun b=>b=nb) h A T [] fr 1000)
  (s5:J 5 e=pt nb)(s31:J 31 e=v)(s32:J 32 e=AI AT (xs.length:Int))(s33:J 33 e=AI AT ((0:Nat):Int)):
  ∃ e' h' AFJ ks' fr',A3 rlL (call AC (m+12)) e h=.exit 0 e' h'/\h0.Ext h'/\(∀ j,rq j->J j e'=J j e)/\AFJ<=1/\UpX (fun b=>b=nb) h' A T ks' fr' 0/\ks'.Pairwise LtK/\h'.Row nb 0 (AEa A.bd A.tb A.bs AFJ):=by
 refine Bd (I:=fun i e' h'=>∃ AFJ ks' fr',h0.Ext h'/\(∀ j,rq j->J j e'=J j e)/\J 33 e'=AI AT (i:Int)/\i<=xs.length/\AFJ<=1/\UpX (fun b=>b=nb) h' A T ks' fr' (1000 - 40*i)/\ks'.Pairwise LtK/\h'.Row nb 0 (AEa A.bd A.tb A.bs AFJ)/\h'.KL kk v xs)
  (Q:=fun x=>∃ e' h' AFJ ks' fr',x=.exit 0 e' h'/\h0.Ext h'/\(∀ j,rq j->J j e'=J j e)/\AFJ<=1/\UpX (fun b=>b=nb) h' A T ks' fr' 0/\ks'.Pairwise LtK/\h'.Row nb 0 (AEa A.bd A.tb A.bs AFJ)) xs.length (by omega) (fun i e' h' ⟨AFJ,ks',fr',x',tj,t33,hi,hlf,U',hA',Rn',K'⟩=>?_)
  ⟨0,[],fr,x0,fun _ _=>rfl,s33,yK _,by omega,U,.nil,Rn,K⟩
 have t32:=(tj 32 (by unfold rq;omega)).trans s32;by_cases hlt:i<xs.length
 ·left
  have c1:=EW hlt;obtain⟨x,hxi⟩:∃ x,xs[i]? =some x:=⟨_,sh hlt⟩;obtain⟨ok,AHg⟩:=hx x (xp hxi);obtain⟨e1,p1,uj⟩:∃ e1,rlL (call AC (m+12)) e' h'=rlK (call AC (m+12)) e1 h'/\∀ j,rq j\/j=33->J j e1=J j e':=by
   rw[bN];unfold jZ;simp only[sT,By,BY,reduceIte,AK,AJ,t33,t32,c1];refine⟨_,rfl,fun j hj=>?_⟩;rcases hj with (rfl|rfl|rfl|rfl)|rfl<;>simp only[AG,By,BY,reduceIte]
  have u:=fun j (hj:rq j)=>(uj j (.inl hj)).trans (tj j hj)
  obtain⟨e2,h2,AIY,ks2,fr2,r1,x2,wj,AKb,U2,hA2,Rn2,K2⟩:=rm (m:=m) (k:=1000 - 40*(i+1)) C0 x' K' hxi ok AHg Rn' (by rw[show 1000 - 40*(i+1)+40=1000 - 40*i by omega];exact U') hA' hlf ((u 5 (by unfold rq;omega)).trans s5) ((u 31 (by unfold rq;omega)).trans s31) ((uj 33 (.inr rfl)).trans t33);have w33:=(wj 33 (.inr rfl)).trans ((uj 33 (.inr rfl)).trans t33);have a3:=CI (i:=i) (h:=h2) (by omega);obtain⟨e3,f1,f33,fj⟩:∃ e3,rlI (call AC (m+12)) e2 h2=.norm e3 h2/\J 33 e3=AI AT ((i+1:Nat):Int)/\∀ j,rq j->J j e3=J j e2:=by
   unfold rlI;simp only[sT,By,BY,reduceIte,BM,w33,a3];refine⟨_,rfl,by simp[AG],fun j hj=>?_⟩;rcases hj with rfl|rfl|rfl|rfl<;>simp only[AG,By,BY,reduceIte]
  refine⟨hlt,e3,h2,?_,AIY,ks2,fr2,x2,fun j hj=>(fj j hj).trans ((wj j (.inl hj)).trans (u j hj)),f33,hlt,AKb,U2,hA2,Rn2,K2⟩;rw[p1,rl];simp only[BJ,Ay,r1,Ca,BA,f1]
 ·right
  obtain rfl:i=xs.length:=by omega
  have c1:=DD (IT xs.length);obtain⟨e1,p1,uj⟩:∃ e1,rlL (call AC (m+12)) e' h'=.exit 0 e1 h'/\∀ j,rq j->J j e1=J j e':=by
   rw[bN];unfold jZ;simp only[sT,By,BY,reduceIte,AK,AJ,t33,t32,c1];refine⟨_,rfl,fun j hj=>?_⟩;rcases hj with rfl|rfl|rfl|rfl<;>simp only[AG,By,BY,reduceIte]
  rw[p1];exact⟨rfl,e1,h',AFJ,ks',fr',rfl,x',fun j hj=>(uj j hj).trans (tj j hj),hlf,U'.le (yK _),hA',Rn'⟩
end
end
noncomputable section
open Go
set_option maxRecDepth 100000
theorem re:rcK=BI (Ab 5 rcB) rcI:=rfl
theorem bF:rcL=jU:=rfl
theorem rh:rcT=Ab 4 (A3 rcL):=rfl
theorem bO:roB=jb:=rfl
theorem bP:roK=BI (Ab 3 roB) roI:=rfl
theorem rn:roL=ro:=rfl
def Zn(n:Int):Prop:= -9223372036854775808<=n/\n<=9223372036854775807
theorem Sk{n:Int}(h:Zn n):inK .i64 n=true:=by
 cases n with
 |ofNat m=>exact Au.2 (by have:=h.2;show m<=9223372036854775807;simp at this;omega)
 |negSucc m=>exact Au.2 (by have:=h.1;show m<=9223372036854775807;omega)
theorem vC{n:Int}(h:0<=n/\n<=255):inK .u8 n=true:=by
 obtain⟨m,rfl⟩:=Int.eq_ofNat_of_zero_le h.1;exact Au.2 (by show m<=255;omega)
def YO(x:Kt):Prop:=Zn x.a/\Zn x.b/\Zn x.c/\x.s<=255
theorem qM{F:AEA}{e:Env}{h:Hp}{g1 g2:O}{x:Kt}(o:YO x)(h1:g1 e=DG x)(h2:g2 e=DG x):Mh ⟨true,[.i .i64,.i .i64,.i .i64,.i .u8]⟩ true g1 g2 F e h=.ok (.bool false) h:=by
 have f4:GC ⟨true,[.i .i64,.i .i64,.i .i64,.i .u8]⟩ (DG x)=true:=by
  show(match (match Dh .i64 .i64 with|true=>inK .i64 x.a|false=>false)with|true=>(match (match Dh .i64 .i64 with|true=>inK .i64 x.b|false=>false)with|true=>(match (match Dh .i64 .i64 with|true=>inK .i64 x.c|false=>false)with|true=>(match (match Dh .u8 .u8 with|true=>inK .u8 (x.s:Int)|false=>false)with|true=>true|false=>false)|false=>false)|false=>false)|false=>false)=true;rw[Sk o.1,Sk o.2.1,Sk o.2.2.1,vC ⟨Int.natCast_nonneg _,by have:=o.2.2.2;omega⟩];rfl
 have hk:GP ⟨true,[.i .i64,.i .i64,.i .i64,.i .u8]⟩ (DG x) (DG x)=some true:=by
  unfold GP;rw[f4];show(match (match Dh .i64 .i64 with|true=>some (iEq x.a x.a)|false=>none)with|some true=>(match (match Dh .i64 .i64 with|true=>some (iEq x.b x.b)|false=>none)with|some true=>(match (match Dh .i64 .i64 with|true=>some (iEq x.c x.c)|false=>none)with|some true=>(match (match Dh .u8 .u8 with|true=>some (iEq (x.s:Int) (x.s:Int))|false=>none)with|some true=>some true|some false=>some false|none=>none)|some false=>some false|none=>none)|some false=>some false|none=>none)|some false=>some false|none=>none)=some true;rw[CL (a:=x.a) rfl,CL (a:=x.b) rfl,CL (a:=x.c) rfl,CL (a:=(x.s:Int)) rfl];rfl
 show(match eqC ⟨true,[.i .i64,.i .i64,.i .i64,.i .u8]⟩ (g1 e) (g2 e)with|some r=>okB (true != r) h|none=>.no)=_;rw[h1,h2];unfold eqC;rw[f4];show(match GP ⟨true,[.i .i64,.i .i64,.i .i64,.i .u8]⟩ (DG x) (DG x)with|some r=>okB (true != r) h|none=>.no)=_;rw[hk];exact FC
theorem cR:Js.zero=CZ 0 0 0 0 0 0 AEF:=by kernel_rfl
section
variable {F:AEA}{e:Env}{h h' h0 hB g:Hp}{X:Nat->Prop}{A:At}{T:List Nat}{m k kw n nb r r10 op i bd tb bs:Nat}{AEY lf sq a b c z room:Int}{ks ks':List Kt}{fr fr' l:List Nat}{v u w iv bw:IN}{x y:Kt}
theorem Yl{g1 g2 g3:O}(h1:g1 e=AI AT a)(h2:g2 e=AI AT b)(h3:g3 e=AI AT c)(op:Nat):
  BC Js.zero [(0,1,kV (AI AT 1)),(1,1,kV (AI AT 1)),(2,1,kV (.int .u8 (op:Int))),(3,1,g1),(4,1,g2),(5,1,g3)] F e h=.ok (Cp 1 1 op a b c AEF) h:=by
 rw[CQ,cR,As (hk:=by rfl),As (hk:=by rfl),As (hk:=by rfl),As (hk:=by rw[h1];rfl),h1,As (hk:=by rw[h2];rfl),h2,As (hk:=by rw[h3];rfl),h3];rfl
theorem Yy{n:Nat}(W:h.Wf){z:VT}{L vs:List IN}(hz:Bt .mt 0 L=some z)(hL:L.length=n)(hv:vs.length=n)(h1:Ba vs=true):
  ∃ g1 g2,(∀ (F:AEA) (e:Env),BV n z F e h=.ok (pt h.next) g1)/\AEH n (pt h.next) (.agg ⟨vs⟩) g1=.ok AED g2/\h.Ext g2/\g2.Row h.next 0 vs/\h.next<g2.next:=by
 have al:=fun (F:AEA) (e:Env)=>BQ (F:=F) (e:=e) W (n:=n) (t:=z)
 have Ra:=Hp.Row.alloc W hz hL;have y2:h.Ext (h.push (.cells z n 0)):=(Hp.Ext.refl W).push _;generalize h.push (.cells z n 0)=h2 at al Ra y2;have big:=W.big;have ho:0+vs.length<=L.length:=by rw[hL,hv,If];exact IT _
 have st:=Ra.AEH (n:=n) (off:=0) y2.wf (by omega) (v:=.agg ⟨vs⟩) hv ho h1;have wr:=Ra.AEM y2.wf ho;rw[Em (show L.length=vs.length by rw[hL,hv])]at wr;have x3:=Ra.AEe y2 (IT _) ho;exact⟨h2,_,al,st,x3,wr,wr.lt x3.wf⟩
theorem wO(W:g.Wf)(AEK:256<=r){L:List IN}(R:g.Row r 0 L)(hL:L.length=4)(k:Kt):
  ∃ g',AEH 4 (pt r) (DG k) g=.ok AED g'/\g'.Row r 0 (Bs k)/\Fx (fun b=>b=r) g g':=by
 have ho:0+(Bs k).length<=L.length:=by rw[hL];exact IT _
 have st:=R.AEH (n:=4) (off:=0) W AEK (v:=DG k) rfl ho rfl;have wr:=R.AEM W ho;rw[Em (show L.length=(Bs k).length from hL)]at wr;exact⟨_,st,wr,Fx.wr W R ho rfl⟩
theorem Ua:∀ (ks:List Kt) (i:Nat) (k:Kt),ks[i]? =some k->((flI ks).drop (i*4)).take 4=Bs k
 |[],i,k,h=>by cases h
 |x::ks,0,k,h=>by
  have h:some x=some k:=h;cases h;rfl
 |x::ks,i+1,k,h=>by
  show((Bs x++flI ks).drop ((i+1)*4)).take 4=_;rw[AC5,zC (show(Bs x).length<=_ by show 4<=_;omega),yU,show(i+1)*4 - (Bs x).length=i*4 by show(i+1)*4 - 4=_;omega];exact Ua ks i k h
theorem Hp.IL.len(o:h.IL k v ks)(g:Hp):AEs v g=.ok (AI AT (ks.length:Int)) g:=by
 rcases o with ⟨rfl,rfl⟩|⟨b,rfl,_⟩<;>rfl
theorem Hp.IL.at(o:h.IL k v ks){i:Nat}(hi:ks[i]? =some x):∃ b,AE2 4 v (AI AT (i:Int)) h=.ok (.pointer (some ⟨b,i*4,none⟩)) h/\loadN 4 ⟨b,i*4,none⟩ h=.ok (DG x) h:=by
 have hil:=(yD.1 hi).1;rcases o with ⟨rfl,rfl⟩|⟨b,rfl,h2,h3⟩
 ·cases hi
 ·refine⟨b,?_,?_⟩
  ·have:=C6 (h:=h) (n:=ks.length) (c:=ks.length) (es:=4) (b:=b) (off:=0) (i:=i) (k:=.i64) hil
   rwa [If]at this
  ·rw[h2.loadN (by rw[Og];omega),Ua ks i x hi];rfl
theorem Hp.IL.ext(o:h.IL k v ks)(W:h.Wf)(y:h.Ext h'):h'.IL k v ks:=by
 rcases o with h1|⟨b,h1,h2,h3⟩
 ·exact .inl h1
 ·exact .inr ⟨b,h1,h2.ext W y,h3⟩
theorem Hp.AL.at5(o:h.AL k v ks){i:Nat}(hi:ks[i]? =some x):∃ b u,∀ g:Hp,(∀ b el L,k<=b->h.Row b el L->g.Row b el L)->AE2 5 v (AI AT (i:Int)) g=.ok (.pointer (some ⟨b,5*i,none⟩)) g/\loadN 5 ⟨b,5*i,none⟩ g=.ok (Bk x.a x.b x.c x.s u) g/\g.AEX u (x.l.map bv)/\
  AEC ⟨b,5*i+0,none⟩ g=.ok (AI AT x.a) g/\AEC ⟨b,5*i+1,none⟩ g=.ok (AI AT x.b) g/\AEC ⟨b,5*i+2,none⟩ g=.ok (AI AT x.c) g/\AEC ⟨b,5*i+3,none⟩ g=.ok (.int .u8 (x.s:Int)) g:=by
 have hil:=(yD.1 hi).1;rcases o with ⟨rfl,rfl⟩|⟨b,L,rfl,h2,h3,h4,h5⟩
 ·cases hi
 ·have hLl:L.length=ks.length:=by rw[<- OF (f:=Kt.core),h3,OF]
  obtain⟨y,hy⟩:∃ y,L[i]? =some y:=⟨_,sh (by omega)⟩;have hc:=Oi L i y hy;have hyx:y.core=x.core:=by
   have h6:=congrArg (fun l=>l[i]?) h3;simp only[yx,hy,hi,Option.map_some]at h6;injection h6
  obtain⟨e1,e2,e3,e4,e5,_⟩:=LY hyx;refine⟨b,y.u,fun g hg=>?_⟩;have R:=hg _ _ _ h4 h2;have hlen:5*i+5<=(flS L).length:=by rw[LW,hLl];omega
  have cell:∀ r,r<5->AEC ⟨b,5*i+r,none⟩ g=.ok ((Ic y).getD r AED) g:=fun r hr=>by
   rw[R.AEC (by omega),<- hc]
   congr 1
   simp only[xV,zy,AAP];rw[if_pos hr]
  refine⟨?_,?_,?_,?_,?_,?_,?_⟩
  ·have:=C6 (h:=g) (n:=ks.length) (c:=ks.length) (es:=5) (b:=b) (off:=0) (i:=i) (k:=.i64) hil
   rwa [If,zT]at this
  ·rw[R.loadN hlen,hc,<- e1,<- e2,<- e3,<- e4];rfl
  ·rw[<- e5];exact((h5 y (xp hy)).keep fun b el L hb _ r=>hg b el L hb r).vs.vals
  ·rw[cell 0 (by omega),<- e1];rfl
  ·rw[cell 1 (by omega),<- e2];rfl
  ·rw[cell 2 (by omega),<- e3];rfl
  ·rw[cell 3 (by omega),<- e4];rfl
structure Rcx (h0 hB:Hp)(A:At)(T:List Nat)(nb kw:Nat)(w:IN)(ks:List Kt)(fr:List Nat):Prop where
 W0:h0.Wf
 x0:h0.Ext hB
 n24:A.n=24
 tb:A.tb≠nb/\A.tb<hB.next
 nb0:h0.next<=nb/\nb<kw
 kwl:kw<=hB.next
 hD:∀ b,A.D b->h0.next<=b/\b<nb
 V:hB.AL kw w ks
 asc:ks.Pairwise LtK
 iv:AFN 8 ks fr
 rs:∀ x∈ks,AEP x.a x.b x.c x.s x.l.length=true
 byt:∀ x∈ks,∀ y∈x.l,y<256
structure Rst (hB:Hp)(A:At)(T:List Nat)(nb:Nat)(ks:List Kt)(fr:List Nat)(X:Nat->Prop)(h:Hp):Prop where
 f:Fx (fun b=>A.D b\/b=nb) hB h
 U:UpX X h A T ks fr 0
 Rn:∃ AEY,AEY<=1/\h.Row nb 0 (AEa A.bd A.tb A.bs AEY)
 hX:∀ b,X b->b<h.next
 Xn:X nb
theorem Rst.ext(s:Rst hB A T nb ks fr X h)(y:h.Ext h'):Rst hB A T nb ks fr X h':=by
 obtain⟨f,U,⟨AEY,h1,h2⟩,h3,h4⟩:=s;exact⟨f.trans (.of y),U.ext f.wf y,⟨AEY,h1,h2.ext f.wf y⟩,fun b hb=>yr (h3 b hb) y.next,h4⟩
theorem Rcx.rows(C:Rcx h0 hB A T nb kw w ks fr)(s:Rst hB A T nb ks fr X h):∀ b el L,kw<=b->hB.Row b el L->h.Row b el L:=fun b el L hb r=>s.f.row C.x0.wf r fun hs=>by
 have:=C.nb0;rcases hs with hs|hs
 ·have:=C.hD b hs
  omega
 ·omega
theorem Rst.wr(C:Rcx h0 hB A T nb kw w ks fr)(s:Rst hB A T nb ks fr X h)(hX:X r)(hr:hB.next<=r){L L':List IN}(R:h.Row r 0 L)(R':h'.Row r 0 L')(f:Fx (fun b=>b=r) h h')(o:Odd L):Rst hB A T nb ks fr X h':=by
 obtain⟨f0,U,⟨AEY,h1,h2⟩,h3,h4⟩:=s;have W:=f0.wf;have hn:=C.nb0;have hk:=C.kwl;have hB':=C.x0.next;have hDr:¬ A.D r:=fun h=>by have:=C.hD r h;omega
 have htr:A.tb≠r:=by have:=C.tb.2;omega
 exact⟨f0.fresh f hr,U.wr W hX R R' f hDr htr o,⟨AEY,h1,f.row W h2 (by omega)⟩,fun b hb=>yr (h3 b hb) f.next,h4⟩
theorem Rst.alloc(s:Rst hB A T nb ks fr X h)(hr:h.next=r)(y:h.Ext h')(hl:r<h'.next):Rst hB A T nb ks fr (fun b=>X b\/b=r) h':=by
 have s':=s.ext y;exact⟨s'.f,(s.U.more s.f.wf (r:=r) (by omega)).ext s.f.wf y,s'.Rn,fun b hb=>by
  rcases hb with hb|hb
  ·exact s'.hX b hb
  ·omega,.inl s.Xn⟩
theorem xJ(hop:op=4\/op=5)(ha:0<=a/\a<=1099511627776)(hb:0<=b/\b<=254)(hc:0<=c/\c<=1099511627776):ED 1 1 op a b c ([]:List Nat).length=true:=by
 unfold ED hdQ nmQ wiQ De;simp only[yA,decide_eq_true_eq,List.length_nil];rw[if_pos hop,if_neg (by omega)];refine⟨⟨⟨⟨⟨by omega,by omega⟩,by omega,by omega⟩,by omega,by omega⟩,⟨ha,hb⟩,hc⟩,?_⟩;trivial
theorem PK(C:Rcx h0 hB A T nb kw w ks fr)(s:Rst hB A T nb ks fr X h)(hop:op=4\/op=5)(ha:0<=a/\a<=1099511627776)(hb:0<=b/\b<=254)(hc:0<=c/\c<=1099511627776):
  ∃ z iv bw room h',call AC (m+12) 11 [pt nb,Cp 1 1 op a b c AEF] h=.ok (.tuple ⟨[CB 1 1 op z iv bw room,AI AT 0]⟩) h'/\Rst hB A T nb ks fr X h'/\Fx (fun b=>A.D b\/b=nb) h h'/\oneCell iv=true/\oneCell bw=true/\Rdn T ks fr op a b c [] h.next h' z iv bw ks fr:=by
 obtain⟨f0,U,⟨AEY,h1,h2⟩,h3,h4⟩:=s;have hn:=C.nb0;have big:=C.W0.big;obtain⟨z,iv,bw,room,h',ks',fr',k1,f1,Rn1,U1,_,hi,hw,rd⟩:=uw (m:=m) (k:=0) (l:=[]) (lf:=1) (sq:=1) (u:=AEF) f0.wf C.n24 h2 U h3 h4 (fun h=>by have:=C.hD _ h;omega) C.tb.1 (by omega) (.inl (.inl ⟨rfl,rfl⟩)) hop (xJ hop ha hb hc) h1;have e:ks'=ks/\fr'=fr:=by
  rcases rd with ⟨n4,n5,_⟩|⟨e1,e2,_⟩
  ·omega
  ·exact⟨e1,e2⟩
 obtain⟨rfl,rfl⟩:=e;exact⟨z,iv,bw,room,h',k1,⟨f0.trans f1,U1,⟨1,ACV _,Rn1⟩,fun b hb=>yr (h3 b hb) f1.next,h4⟩,f1,hi,hw,rd⟩
theorem Rcx.info(C:Rcx h0 hB A T nb kw w ks fr)(hx:x∈ks):(0<=x.a/\x.a<=1099511627776)/\(0<=x.b/\x.b<=254)/\(1<=x.c/\x.c<=1099511627776)/\(x.s=1\/x.s=2):=by
 have:=C.rs x hx;unfold AEP at this;rw[decide_eq_true_eq]at this;omega
theorem aR:Odd (Bs x):=⟨.inl (by show 4<6;omega),.int .u8 (x.s:Int),xZ _ (xZ _ (xZ _ xa)),fun q h=>by cases h⟩
def cq(j:Nat):Prop:=j=4\/j=5\/j=9\/j=10\/j=47
theorem ri(C:Rcx h0 hB A T nb kw w ks fr)(s:Rst hB A T nb ks fr X h)(hX:X r10)(hr:hB.next<=r10)(R10:h.Row r10 0 (Bs y))(I:h.IL k iv ks)(hk:r10<k)(hi:ks[i]? =some x)(hl:ks.length<=1000)
  (s9:J 9 e=w)(s10:J 10 e=pt r10)(s11:J 11 e=AI AT (i:Int))(s73:J 73 e=iv)(s75:J 75 e=AI AT (i:Int)):
  ∃ e' h',rcB (call AC (m+12)) e h=.norm e' h'/\Rst hB A T nb ks fr X h'/\h'.Row r10 0 (Bs x)/\h'.IL k iv ks/\(∀ j,cq j\/j=73\/j=74\/j=75->J j e'=J j e)/\J 11 e'=AI AT ((i+1:Nat):Int):=by
 have W:=s.f.wf;have hil:=(yD.1 hi).1;obtain⟨b,ix,ld⟩:=I.at hi;obtain⟨g1,g2,al,st,y2,R15,_⟩:=Yy (n:=4) W PY rfl (vs:=Bs x) rfl rfl;have st:AEH 4 (pt h.next) (DG x) g1=.ok AED g2:=st;have ym:=y2.marked;have sm:=s.ext ym;have Wm:=ym.wf;have AKc:=R15.same (h':=g2.marked) rfl;have l15:loadN 4 ⟨h.next,0,none⟩ g2.marked=.ok (DG x) g2.marked:=AKc.loadN (off:=0) (n:=4) (by show 0+4<=4;omega);have ln:=C.V.len g2.marked;have c1:iGe (i:Int) (ks.length:Int)=false:=EY (by omega);obtain⟨b2,u,hg⟩:=C.V.at5 hi;obtain⟨ix2,_,_,q0,q1,q2,q3⟩:=hg g2.marked (C.rows sm);obtain⟨o1,o2,o3,o4⟩:=C.info (xp hi);have bd:=fun (F:AEA) (e:Env) (e1:J 89 e=AI AT x.a) (e2:J 94 e=AI AT x.b) (e3:J 99 e=AI AT x.c) (e4:J 104 e=.int .u8 (x.s:Int))=>Yk (F:=F) (h:=g2.marked) e1 e2 e3 e4
 have eq:=fun (F:AEA) (e:Env) (e1:J 84 e=DG x) (e2:J 105 e=DG x)=>qM (F:=F) (h:=g2.marked) (x:=x) (by unfold YO Zn;omega) e1 e2
 have a3:=CI (i:=i) (h:=g2.marked) (by omega);have big:=C.W0.big;have hn0:=C.x0.next;obtain⟨h3,st3,R3,f3⟩:=wO Wm (by omega) (R10.ext W ym) rfl x;refine(show ∃ e',rcB (call AC (m+12)) e h=.norm e' h3/\(∀ j,cq j\/j=73\/j=74\/j=75->J j e'=J j e)/\J 11 e'=AI AT ((i+1:Nat):Int)from ?_).elim fun e' ⟨p1,p2,p3⟩=>⟨e',h3,p1,sm.wr C hX hr (R10.ext W ym) R3 f3 aR,R3,(I.ext W ym).fx Wm f3 fun b hb=>by omega,p2,p3⟩
 unfold rcB;simp only[sT,By,BY,reduceIte,gD,A9,s73,s75,ix,Av,Am,ld,al,AX,st,A0,Af,s9,ln,AK,AJ,s11,c1,l15,ix2,AH,AO,AN,AP,q0,q1,q2,q3,bd,eq,BM,a3,s10,st3];refine⟨_,rfl,fun j hj=>?_,by simp[AG]⟩;rcases hj with (rfl|rfl|rfl|rfl|rfl)|rfl|rfl|rfl<;>simp only[AG,By,BY,reduceIte]
theorem jV(C:Rcx h0 hB A T nb kw w ks fr)(s:Rst hB A T nb ks fr X h)(hX:X r10)(hr:hB.next<=r10)(R10:h.Row r10 0 (Bs y))(I:h.IL k iv ks)(hk:r10<k)(hl:ks.length<=1000)
  (s9:J 9 e=w)(s10:J 10 e=pt r10)(s11:J 11 e=AI AT ((0:Nat):Int))(s73:J 73 e=iv)(s74:J 74 e=AI AT (ks.length:Int))(s75:J 75 e=AI AT ((0:Nat):Int)):
  ∃ e' h' y',A3 rcL (call AC (m+12)) e h=.exit 4 e' h'/\Rst hB A T nb ks fr X h'/\h'.Row r10 0 (Bs y')/\(∀ j,cq j->J j e'=J j e)/\J 11 e'=AI AT (ks.length:Int)/\(0<ks.length->ks[ks.length - 1]? =some y'):=by
 refine Bd (I:=fun i e' h'=>∃ y',Rst hB A T nb ks fr X h'/\h'.Row r10 0 (Bs y')/\h'.IL k iv ks/\(∀ j,cq j\/j=73\/j=74->J j e'=J j e)/\J 75 e'=AI AT (i:Int)/\J 11 e'=AI AT (i:Int)/\i<=ks.length/\(0<i->ks[i - 1]? =some y'))
  (Q:=fun q=>∃ e' h' y',q=.exit 4 e' h'/\Rst hB A T nb ks fr X h'/\h'.Row r10 0 (Bs y')/\(∀ j,cq j->J j e'=J j e)/\J 11 e'=AI AT (ks.length:Int)/\(0<ks.length->ks[ks.length - 1]? =some y')) ks.length (by omega) (fun i e' h' ⟨y',s',R',I',tj,t75,t11,hi,hy⟩=>?_)
  ⟨y,s,R10,I,fun _ _=>rfl,s75,s11,yK _,fun h=>absurd h (by omega)⟩
 have t74:=(tj 74 (.inr (.inr rfl))).trans s74;by_cases hlt:i<ks.length
 ·left
  have c1:=EW hlt;obtain⟨x,hx⟩:∃ x,ks[i]? =some x:=⟨_,sh hlt⟩;obtain⟨e1,p1,u11,uj⟩:∃ e1,rcL (call AC (m+12)) e' h'=rcK (call AC (m+12)) e1 h'/\J 11 e1=AI AT (i:Int)/\∀ j,cq j\/j=73\/j=74\/j=75->J j e1=J j e':=by
   rw[bF];unfold jU;simp only[sT,By,BY,reduceIte,AK,AJ,t75,t74,c1];refine⟨_,rfl,by simp[AG,t11],fun j hj=>?_⟩;rcases hj with (rfl|rfl|rfl|rfl|rfl)|rfl|rfl|rfl<;>simp only[AG,By,BY,reduceIte]
  obtain⟨e2,h2,r1,s2,R2,I2,wj,w11⟩:=ri (m:=m) C s' hX hr R' I' hk hx hl ((uj 9 (by unfold cq;omega)).trans ((tj 9 (by unfold cq;omega)).trans s9)) ((uj 10 (by unfold cq;omega)).trans ((tj 10 (by unfold cq;omega)).trans s10)) u11 ((uj 73 (by omega)).trans ((tj 73 (by omega)).trans s73)) ((uj 75 (by omega)).trans t75);have w75:=(wj 75 (by omega)).trans ((uj 75 (by omega)).trans t75);have a3:=CI (i:=i) (h:=h2) (by omega);obtain⟨e3,f1,f75,f11,fj⟩:∃ e3,rcI (call AC (m+12)) e2 h2=.norm e3 h2/\J 75 e3=AI AT ((i+1:Nat):Int)/\J 11 e3=AI AT ((i+1:Nat):Int)/\∀ j,cq j\/j=73\/j=74->J j e3=J j e2:=by
   unfold rcI;simp only[sT,By,BY,reduceIte,BM,w75,a3];refine⟨_,rfl,by simp[AG],by simp[AG,w11],fun j hj=>?_⟩;rcases hj with (rfl|rfl|rfl|rfl|rfl)|rfl|rfl<;>simp only[AG,By,BY,reduceIte]
  refine⟨hlt,e3,h2,?_,x,s2,R2,I2,fun j hj=>(fj j hj).trans ((wj j (hj.imp id fun h=>h.imp id .inl)).trans ((uj j (hj.imp id fun h=>h.imp id .inl)).trans (tj j hj))),f75,f11,hlt,fun _=>by rw[Nat.add_sub_cancel];exact hx⟩;rw[p1,re];simp only[BJ,Ay,r1,Ca,BA,f1]
 ·right
  obtain rfl:i=ks.length:=by omega
  have c1:=DD (IT ks.length);obtain⟨e1,p1,u11,uj⟩:∃ e1,rcL (call AC (m+12)) e' h'=.exit 4 e1 h'/\J 11 e1=AI AT (ks.length:Int)/\∀ j,cq j->J j e1=J j e':=by
   rw[bF];unfold jU;simp only[sT,By,BY,reduceIte,AK,AJ,t75,t74,c1];refine⟨_,rfl,by simp[AG,t11],fun j hj=>?_⟩;rcases hj with rfl|rfl|rfl|rfl|rfl<;>simp only[AG,By,BY,reduceIte]
  rw[p1];exact⟨rfl,e1,h',y',rfl,s',R',fun j hj=>(uj j hj).trans (tj j (.inl hj)),u11,hy⟩
end
end
end Go.Proofs.YtbjadbhkogcfeaaGreat
