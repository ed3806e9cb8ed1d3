/-
  Part ZR of what Lawlt stands on: printed by program, names and spaces cut.
-/
import Derived.Test.YtbjadbhkogcfeaaGreatZQ
open Go.Value renaming int→AI
open Go.IntKind renaming i64→AT
open Nat renaming reduceEqDiff→BY,reduceLT→By,reduceAdd→IS,le_refl→IT,zero_add→If,beq→yu,lt_or_ge→zD,zero_le→zL,le_trans→zO,mul_comm→AAP,zero_mul→AAw,succ_mul→ABX,not_lt_zero→ABs,add_comm→AEM
open Go renaming Value→IN,World→zP
open List renaming length_append→No,length_map→OF,getElem?_eq_getElem→sh,getD_eq_getElem?_getD→yf,length_cons→yh,mem_cons_of_mem→yj,mem_cons_self→yk,replicate→yp,mem_cons→yv,append_nil→yw,mem_singleton→zB,append_assoc→zC,mem_append_right→zE,getElem?_append_left→zF,getElem?_eq_some_iff→zG,getElem?_append_right→zI,length_take→zJ,mem_append→zK,mem_filter→zQ,nil_append→zU,mem_map→zq,drop_zero→zr,range→zu,drop_of_length_le→zx,length_replicate→AAH,mem_range→AAM,mem_of_mem_take→AAN,flatten_cons→AAU,nodup_range→ABG,nodup_append→ABI,getElem_mem→ABJ,map_eq_nil_iff→ABU,map_map→ABc,find?_eq_none→ABg,flatMap_append→ADi,flatMap_cons→AD1,drop_append→AEB,any_eq_true→AED
open Bool renaming and_eq_true→yr,and_false→ABk
open Go.DataW renaming trod→AAa
open Int renaming eq_ofNat_of_zero_le→AAg,le_refl→AFO
open Go.MemPlace renaming cell→AAs
open Go.Value renaming chan→ACK
set_option linter.unusedVariables false
set_option linter.unusedSimpArgs false
namespace Go.Proofs.YtbjadbhkogcfeaaGreat
noncomputable section
open Go
set_option maxRecDepth 100000
theorem tT:tdM=tU:=rfl
theorem qa:d33=qc:=rfl
section
variable {F:AFi}{e:Env}{h h' g:Hp}{S X:Nat->Prop}{A:At}{T M:List Nat}{c0 m k n nb r r4 r6 r8 op:Nat}{arm AF7 lf sq a b c z err room:Int}{ks ks':List Kt}{fr fr':List Nat}{v lv fv u w iv bw:IN}{x:Kt}
theorem ox{x y:O}{k:C}{a b i j:Nat}(hx:x e=.pointer (some ⟨a,i,none⟩))(hy:y e=.pointer (some ⟨b,j,none⟩))(h1:b≠a):Cn x [y] k F e h=k F e h:=by
 have n1:yu b a=false:=by
  cases e:yu b a
  ·rfl
  ·exact absurd (Ay.1 e) h1
 unfold Cn;rw[hx];show(bif DE a e [y]then k F e h else .no)=_;have:DE a e [y]=true:=by
  unfold DE;rw[hy];show(bif yu b a then false else DE a e [])=true;rw[n1];rfl
 rw[this];rfl
theorem QZ(W:g.Wf){L:List IN}(R:g.Row r 0 L){off:Nat}(ho:off<L.length)(AFs:256<=r)(h1:cellsOf v=[v])(h2:oneCell v=true):
  ∃ g',(∀ (F:AFi) (e:Env) (x y:O),x e=.pointer (some ⟨r,off,none⟩)->y e=v->Jr x (Ac 1 x y) F e g=.ok AFl g')/\g'.Row r 0 (over L off [v])/\g'.mark=g.mark/\g'.next=g.next/\Fx (fun b=>b=r) g g':=by
 have Rq:g.quiet.Row r 0 L:=R.same rfl;have hoo:off+[v].length<=L.length:=ho;have ha:Bc [v]=true:=by
  show(bif oneCell v then true else false)=true;rw[h2];rfl
 have st:=Rq.AFr (n:=1) (off:=off) (v:=v) W.quiet AFs (by rw[h1];rfl) (by rw[h1];exact hoo) (by rw[h1];exact ha);rw[h1]at st;have wr:=Rq.AFu W.quiet hoo;have fx:=Fx.wr (S:=fun b=>b=r) W.quiet Rq hoo rfl;have wn:=Rq.AGN hoo;obtain⟨cc,_,hw,_⟩:=Rq.AGt hoo;have AIQ:(g.quiet.wr r off [v]).low=r:=by
  rw[hw];show B9 g.next r=r;have:=R.lt W;rw[BZ];omega
 have AHW:(g.quiet.wr r off [v]).high=r:=by
  rw[hw];show Cy 0 r=r;rw[B7];omega
 generalize g.quiet.wr r off [v]=q at st wr fx wn AIQ AHW;refine⟨g.back q,fun F e x y hx hy=>?_,wr.same rfl,rfl,wn,fx.back⟩;show(match Ac 1 x y F e g.quiet with|.ok v h'=>bif Io (AGG (x e)) g h'.low h'.high then Dg g v h' else .no|.no=>.no)=_;rw[AX,hx,hy,st];show(bif Io (.ok r) g q.low q.high then Dg g AFl q else .no)=_;rw[AIQ,AHW];have:Io (.ok r) g r r=true:=by
  show(bif Nat.ble r r then Nat.ble r r else false)=true;rw[Av.2 (IT r)];rfl
 rw[this];show Dg g AFl q=_;unfold Dg;simp only[Ao];rfl
theorem HC(R:h.Row r 0 (EB lf sq op err iv bw room)):AFk ⟨r,3,none⟩ h=.ok (AI AT err) h/\AFk ⟨r,4,none⟩ h=.ok iv h/\AFk ⟨r,5,none⟩ h=.ok bw h/\loadN 7 ⟨r,0,none⟩ h=.ok (CC lf sq op err iv bw room) h:=
 ⟨R.AFk (off:=3) (by show 3<7;omega),R.AFk (off:=4) (by show 4<7;omega),R.AFk (off:=5) (by show 5<7;omega),R.loadN (off:=0) (n:=7) (by show 0+7<=7;omega)⟩
theorem cy(W:h.Wf)(Rn:h.Row nb 0 (AF9 A.bd A.tb A.bs AF7))(U:UpX X h A T ks fr k)(hX:X r6/\X r8)(hD:¬ A.D r6/\¬ A.D r8)(ht:A.tb≠r6/\A.tb≠r8)(R4:h.Row r4 0 (CP lf sq op a b c u))(R6:h.Row r6 0 GI)(R8:h.Row r8 0 (EB 0 0 0 z iv bw 0))(h48:r4≠r8)(h68:r6≠r8)(h6:256<=r6)(h8:256<=r8)(hi:oneCell iv=true)(hb:oneCell bw=true)
  (s0:J 0 e=pt nb)(s4:J 4 e=pt r4)(s6:J 6 e=pt r6)(s8:J 8 e=pt r8):
  ∃ e' h',tdE (call AC (m+2)) e h=.ret e' h'/\J 6 e'=pt r6/\J 7 e'=AI AT 0/\Fx (fun b=>b=r6\/b=r8) h h'/\h'.Row r6 0 (EB lf sq op z iv bw (fr.length:Int))/\UpX X h' A T ks fr k:=by
 obtain⟨lv,fv,Rs,V⟩:(∃ lv fv,h.Row A.bs 0 (slL A.bd A.tb lv fv 0 false)/\h.AF5 fv (ints .i64 (fr.map Int.ofNat))):=by
  obtain⟨⟨M,c0,arm,lv,fv,s,_⟩,_⟩:=U;exact⟨lv,fv,s.row,s.fs.vals⟩
 obtain⟨_,_,nd0,_⟩:=Cz Rn;have k1:call AC (m+2) 53 [pt A.bs] h=.ok (.bool false) h:=V4 (m:=m+1) Rs;have Wm:=W.marked;obtain⟨_,_,n2',_⟩:=Cz (Rn.same (h':=h.marked) rfl);obtain⟨a0,a1,a2,_⟩:=B5 (R4.same (h':=h.marked) rfl);have o4:∀ {i:Nat} {k:C} {F:AFi} {e:Env},JA (.pointer (some ⟨r4,i,none⟩)) k F e h.marked=k F e h.marked:=fun {i k F e}=>Dl (R4.lt W)
 have k2:call AC (m+2) 57 [pt A.bs] h.marked.quiet=.ok (AI AT (fr.length:Int)) h.marked.quiet:=kH (m:=m+1) (Rs.same (h':=h.marked.quiet) rfl) (V.same (h':=h.marked.quiet) rfl);have q2:∀ e:Env,J 43 e=pt A.bs->Ad .weak (AU 57 [J 43]) (call AC (m+2)) e h.marked=.ok (AI AT (fr.length:Int)) (h.marked.back h.marked.quiet):=fun e e1=>by
  refine Cp ?_ (.refl Wm.quiet) (IT _);rw[BR,AV,A3,e1];exact k2
 have y1:h.Ext (h.marked.back h.marked.quiet):=Hp.Ext.AGo (Hp.Ext.refl W).marked (Hp.Ext.refl W).marked.quiet;generalize h.marked.back h.marked.quiet=h1 at q2 y1;have W1:=y1.wf;have R8':=R8.ext W y1;have R6':=R6.ext W y1;obtain⟨h2,st2,R82,_,n2,f2⟩:=QZ (v:=AI AT lf) W1 R8' (off:=0) (by show 0<7;omega) h8 rfl rfl;obtain⟨h3,st3,R83,_,n3,f3⟩:=QZ (v:=AI AT sq) f2.wf R82 (off:=1) (by show 1<7;omega) h8 rfl rfl;obtain⟨h4,st4,R84,n4,_,f4,_⟩:=Mc (v:=.int .u8 (op:Int)) f3.wf R83 (off:=2) (by show 2<7;omega) h8 rfl rfl;obtain⟨h5,st5,R85,n5,_,f5,_⟩:=Mc (v:=AI AT (fr.length:Int)) f4.wf R84 (off:=6) (by show 6<7;omega) h8 rfl rfl;have R85:h5.Row r8 0 (EB lf sq op z iv bw (fr.length:Int)):=R85;obtain⟨_,_,_,ld⟩:=HC R85;have f15:=((f2.trans f3).trans f4).trans f5;obtain⟨h6',st6,f6,R66⟩:=Ed (lf:=lf) (sq:=sq) (op:=op) (err:=z) (iv:=iv) (bw:=bw) (room:=(fr.length:Int)) f15.wf (f15.row W1 R6' h68) rfl h6 hi hb;have U1:=U.ext W y1;have U5:=UpX.wr W1 U1 hX.2 R8' R85 f15 hD.2 ht.2 FC;have U6:=UpX.wr f15.wf U5 hX.1 (f15.row W1 R6' h68) R66 f6 hD.1 ht.1 FC;have ck1:∀ {k:C} {F:AFi} {e:Env},J 45 e=.pointer (some ⟨r8,0,none⟩)->J 36 e=.pointer (some ⟨r4,1,none⟩)->J 38 e=.pointer (some ⟨r4,2,none⟩)->Cn (J 45) [J 36,J 38] k F e h1=k F e h1:=fun e1 e2 e3=>ZM e1 e2 e3 h48 h48
 have ck2:∀ {k:C} {F:AFi} {e:Env},J 46 e=.pointer (some ⟨r8,1,none⟩)->J 38 e=.pointer (some ⟨r4,2,none⟩)->Cn (J 46) [J 38] k F e h2=k F e h2:=fun e1 e2=>ox e1 e2 h48
 have s2':=fun (F:AFi) (e:Env) (e1:J 45 e=.pointer (some ⟨r8,0,none⟩)) (e2:J 35 e=AI AT lf)=>st2 F e (J 45) (J 35) e1 e2
 have s3':=fun (F:AFi) (e:Env) (e1:J 46 e=.pointer (some ⟨r8,1,none⟩)) (e2:J 37 e=AI AT sq)=>st3 F e (J 46) (J 37) e1 e2
 have s4':=fun (F:AFi) (e:Env) (e1:J 47 e=.pointer (some ⟨r8,2,none⟩)) (e2:J 39 e=.int .u8 (op:Int))=>st4 F e (J 47) (J 39) e1 e2
 have s5':=fun (F:AFi) (e:Env) (e1:J 48 e=.pointer (some ⟨r8,6,none⟩)) (e2:J 44 e=AI AT (fr.length:Int))=>st5 F e (J 48) (J 44) e1 e2
 obtain⟨e1,p1,t6,t7⟩:∃ e1,tdE (call AC (m+2)) e h=.ret e1 h6'/\J 6 e1=pt r6/\J 7 e1=AI AT 0:=by
  unfold tdE;simp only[sT,By,BY,reduceIte,Ax,s0,Al,AH,AN,If,AM,AP,nd0,cA0,k1,A1,s4,ED,o4,DV,a0,a1,a2,n2',q2,s8,ck1,s2',ck2,s3',s4',s5',Au,Am,ld,s6,AX,st6];exact⟨_,rfl,by simp[AG,s6]⟩
 refine⟨e1,h6',p1,t6,t7,((Fx.of y1).trans (f15.mono fun b hb=>.inr hb)).trans (f6.mono fun b hb=>.inl hb),R66,U6⟩
theorem Tq(W:h.Wf)(U:UpX X h A T ks fr k)(hX:∀ b,X b->b<h.next){w:IN}:
  ∃ e1 h4 r4 r6 r8,d33 (call AC m) (AS e0 0 [pt nb,Ck lf sq op a b c u,w]) h=tdM (call AC m) e1 h4/\J 0 e1=pt nb/\J 2 e1=w/\J 4 e1=pt r4/\J 6 e1=pt r6/\J 8 e1=pt r8/\h.Ext h4/\h4.Row r4 0 (CP lf sq op a b c u)/\h4.Row r6 0 GI/\h4.Row r8 0 (EB 0 0 0 120 AFn AFn 0)/\
   h.next<=r4/\h.next<=r6/\h.next<=r8/\r4≠r8/\r6≠r8/\UpX (fun b=>(X b\/b=r6)\/b=r8) h4 A T ks fr k/\r6<h4.next/\r8<h4.next:=by
 have bx:=fun (F:AFi) (e:Env) (he:J 1 e=Ck lf sq op a b c u)=>FK (F:=F) W he
 have x1:=(Hp.Ext.refl W).AFh 0 (CP lf sq op a b c u);have R1:=Hp.Row.new W 0 (CP lf sq op a b c u);have n1:(h.AFh 0 (CP lf sq op a b c u)).next=h.next+1:=rfl;generalize h.AFh 0 (CP lf sq op a b c u)=h1 at bx x1 R1 n1;have al:=fun (F:AFi) (e:Env)=>BW (F:=F) (e:=e) x1.wf (n:=7) (t:=Cm)
 have Ra:=Hp.Row.alloc x1.wf EG (show GI.length=7 from rfl);have y2:h1.Ext (h1.push (.cells Cm 7 0)):=(Hp.Ext.refl x1.wf).push _;have n2:(h1.push (.cells Cm 7 0)).next=h1.next+1:=rfl;generalize h1.push (.cells Cm 7 0)=h2 at al Ra y2 n2;have bd:=fun (F:AFi) (e:Env)=>H6 (F:=F) (e:=e) (h:=h2) (z:=120) (g1:=kV (AI AT 120)) rfl
 have al2:=fun (F:AFi) (e:Env)=>BW (F:=F) (e:=e) y2.wf (n:=7) (t:=Cm)
 have Ra2:=Hp.Row.alloc y2.wf EG (show GI.length=7 from rfl);have y3:h2.Ext (h2.push (.cells Cm 7 0)):=(Hp.Ext.refl y2.wf).push _;have n3:(h2.push (.cells Cm 7 0)).next=h2.next+1:=rfl;generalize h2.push (.cells Cm 7 0)=h3 at al2 Ra2 y3 n3;have big:=W.big;obtain⟨h4,st4,f4,R4⟩:=Ed (lf:=0) (sq:=0) (op:=0) (err:=120) (iv:=AFn) (bw:=AFn) (room:=0) y3.wf Ra2 rfl (by omega) rfl rfl;have x3:=(x1.trans y2).trans y3;have y14:=y2.trans y3;have x4:=Fx.xtF x3 f4 (fun b hb=>by rw[hb];omega);have n4:=f4.next;have hrun:∃ e1,d33 (call AC m) (AS e0 0 [pt nb,Ck lf sq op a b c u,w]) h=tdM (call AC m) e1 h4/\J 0 e1=pt nb/\J 2 e1=w/\J 4 e1=pt h.next/\J 6 e1=pt h1.next/\J 8 e1=pt h2.next:=by
  rw[qa];unfold qc;simp only[iN,IS,sT,By,BY,reduceIte,bx,al,bd,al2,AX,st4];exact⟨_,rfl,by simp[AG]⟩
 obtain⟨e1,p1,p2,p3,p4,p5,p6⟩:=hrun;exact⟨e1,h4,_,_,_,p1,p2,p3,p4,p5,p6,x4,f4.row y3.wf (R1.ext x1.wf y14) (by omega),f4.row y3.wf (Ra.ext y2.wf y3) (by omega),R4,IT _,by omega,by omega,by omega,by omega,((U.more W (r:=h1.next) (by omega)).more W (r:=h2.next) (by omega)).ext W x4,by omega,by omega⟩
theorem bZ{bd tb bs:Nat}:Odd (AF9 bd tb bs AF7):=⟨.inl (by show 4<6;omega),pt bd,yk,fun q h=>by cases h⟩
def uC(Q:Nat->Hp->Int->IN->IN->List Kt->List Nat->Prop):Prop:=∀ (i j:Nat) (g g':Hp) (z:Int) (iv bw:IN) (ks:List Kt) (fr:List Nat),Q i g z iv bw ks fr->j<=i->g.Wf->Fx (fun b=>b<i) g g'->Q j g' z iv bw ks fr
theorem cz(W:h.Wf)(Rn:h.Row nb 0 (AF9 A.bd A.tb A.bs AF7))(U:UpX X h A T ks fr k)(hX:∀ b,X b->b<h.next)(hXn:X nb)(hnD:¬ A.D nb)(hnt:A.tb≠nb)(AFs:256<=nb)(hle:AF7<=lf){f:Nat}{Q:Nat->Hp->Int->IN->IN->List Kt->List Nat->Prop}(hQ:uC Q)
  (ap:∀ (g:Hp) (Y:Nat->Prop),g.Wf->g.Row nb 0 (AF9 A.bd A.tb A.bs lf)->UpX Y g A T ks fr k->(∀ b,Y b->b<g.next)->Fx (fun b=>b=nb) h g->∃ z iv bw g' ks' fr',call AC (m+2) f [pt nb,Ck lf sq op a b c u] g=.ok (CC 0 0 0 z iv bw 0) g'/\Fx A.D g g'/\UpX Y g' A T ks' fr' n/\z≠120/\oneCell iv=true/\oneCell bw=true/\Q g.next g' z iv bw ks' fr'):
  ∃ z iv bw room h' ks' fr',call AC (m+3) 33 [pt nb,Ck lf sq op a b c u,.func (.func f) ⟨[]⟩ ⟨[]⟩] h=.ok (.tuple ⟨[CC lf sq op z iv bw room,AI AT 0]⟩) h'/\Fx (fun b=>A.D b\/b=nb) h h'/\h'.Row nb 0 (AF9 A.bd A.tb A.bs lf)/\UpX X h' A T ks' fr' n/\z≠120/\oneCell iv=true/\oneCell bw=true/\Q h.next h' z iv bw ks' fr':=by
 obtain⟨e1,h4,r4,r6,r8,p1,p2,p3,p4,p5,p6,x4,R4,R6,R8,l4,l6,l8,n48,n68,U4,m6,m8⟩:=Tq (m:=m+2) (nb:=nb) (lf:=lf) (sq:=sq) (op:=op) (a:=a) (b:=b) (c:=c) (u:=u) (w:=.func (.func f) ⟨[]⟩ ⟨[]⟩) W U hX;have W4:=x4.wf;have Rn4:=Rn.ext W x4;have big:=W.big;have hD:=U.lt W;have hn:=Rn.lt W;obtain⟨ht0,_,ht⟩:=U.tab;have htl:=ht0.lt W;obtain⟨a0,_⟩:=B5 (R4.same (h':=h4.marked) rfl);obtain⟨_,_,_,nd3⟩:=Cz (Rn4.same (h':=h4.marked) rfl);have c1:iGe lf AF7=true:=F7 (by omega);have xm:=(Hp.Ext.refl W4).marked;have Wm:=xm.wf;obtain⟨h5,st5,R5,nx5,f5,_⟩:=Dt (v:=AI AT lf) Wm (Rn4.same (h':=h4.marked) rfl) (off:=3) (by show 3<4;omega) AFs rfl rfl;have R5:h5.Row nb 0 (AF9 A.bd A.tb A.bs lf):=R5;have nx5:h5.next=h4.next:=nx5;have U5:=UpX.wr Wm (U4.same (h':=h4.marked) rfl) (.inl (.inl hXn)) (Rn4.same (h':=h4.marked) rfl) R5 f5 hnD hnt bZ;have f05:Fx (fun b=>b=nb) h h5:=(Fx.of (x4.trans xm)).trans f5;obtain⟨z,iv,bw,h6,ks',fr',k6,f6,U6,hz,hi,hb,hq⟩:=ap h5 _ f5.wf R5 U5 (fun b hb=>by
  rcases hb with (hb|hb)|hb
  ·have:=hX b hb
   omega
  ·omega
  ·omega) f05
 have hDr:∀ r,h.next<=r->¬ A.D r:=fun r hr h=>by have:=hD _ h;omega
 have R45:=f5.row Wm (R4.same (h':=h4.marked) rfl) (by omega);have R46:=f6.row f5.wf R45 (hDr _ l4);have R66:=f6.row f5.wf (f5.row Wm (R6.same (h':=h4.marked) rfl) (by omega)) (hDr _ l6);have R86:=f6.row f5.wf (f5.row Wm (R8.same (h':=h4.marked) rfl) (by omega)) (hDr _ l8);have Rn6:=f6.row f5.wf R5 hnD;obtain⟨h7,st7,f7,R87⟩:=Ed (lf:=0) (sq:=0) (op:=0) (err:=z) (iv:=iv) (bw:=bw) (room:=0) f6.wf R86 rfl (by omega) hi hb;have U7:=UpX.wr f6.wf U6 (.inr rfl) R86 R87 f7 (hDr _ l8) (by omega) FC;have R47:=f7.row f6.wf R46 (by omega);have R67:=f7.row f6.wf R66 (by omega);have Rn7:=f7.row f6.wf Rn6 (by omega);obtain⟨_,_,_,_,_,_,_,lda⟩:=B5 R45;have hrun:∃ e2,tdM (call AC (m+2)) e1 h4=tdE (call AC (m+2)) e2 h7/\J 0 e2=pt nb/\J 4 e2=pt r4/\J 6 e2=pt r6/\J 8 e2=pt r8:=by
  rw[tT];unfold tU tdA;simp only[sT,By,BY,reduceIte,A1,p4,p2,p3,p6,AH,AN,If,AM,AP,a0,nd3,Ax,Al,AK,AJ,c1,AX,st5,Au,Am,lda,Ca,Cr,AV,A3,zU,yw,k6,st7];exact⟨_,rfl,by simp[AG,p2,p4,p5,p6]⟩
 obtain⟨e2,q1,q2,q4,q5,q6⟩:=hrun;obtain⟨e3,h8,r1,r2,r3,f8,R68,U8⟩:=cy (m:=m) f7.wf Rn7 U7 ⟨.inl (.inr rfl),.inr rfl⟩ ⟨hDr _ l6,hDr _ l8⟩ ⟨by omega,by omega⟩ R47 R67 R87 n48 n68 (by omega) (by omega) hi hb q2 q4 q5 q6;refine⟨z,iv,bw,fr'.length,h8,ks',fr',?_,Fx.drop ((((f05.mono fun b hb=>.inl (.inr hb)).trans (f6.mono fun b hb=>.inl (.inl hb))).trans (f7.mono fun b hb=>.inr (by omega))).trans (f8.mono fun b hb=>.inr (by rcases hb with rfl|rfl<;>omega))),f8.row f7.wf Rn7 (by omega),U8.less fun b hb=>.inl (.inl hb),hz,hi,hb,hQ _ _ _ _ _ _ _ _ _ hq (by have:=x4.next;omega) f6.wf ((f7.mono fun b hb=>by omega).trans (f8.mono fun b hb=>by rcases hb with rfl|rfl<;>omega))⟩;rw[pJ rfl,p1,q1,r1,BI,IF (v:=CC lf sq op z iv bw fr'.length) (by rw[r2];exact DN R68),r3]
end
end
noncomputable section
open Go
set_option maxRecDepth 100000
theorem xu:dC.k=.ptr 83:=by kernel_rfl
theorem qt:doR=iG:=rfl
theorem Zi:d11=gR:=rfl
def fnO(op:Nat):Nat:=if op=1 then 34 else if op=2 then 35 else if op=3 then 36 else if op=4 then 37 else if op=5 then 38 else 39
section
variable {F:AFi}{e:Env}{h h' g:Hp}{X:Nat->Prop}{A:At}{T M:List Nat}{c0 m k n nb r r4 op:Nat}{arm AF7 lf sq a b c z err room:Int}{ks ks':List Kt}{fr fr' l:List Nat}{v lv fv u iv bw:IN}{x:Kt}
theorem K9{n:Nat}(hr:DL lf sq op a b c n=true):1<=op/\op<=6/\1<=lf:=by
 unfold DL hdQ wiQ at hr;simp only[yr,decide_eq_true_eq]at hr;exact⟨hr.1.1.2.1,hr.1.1.2.2,hr.1.1.1.1.1⟩
def kdO(op:Nat):Int:=if op=1 then 1 else if op=2 then 5 else if op=3 then 7 else 8
def Rdn(T:List Nat)(ks:List Kt)(fr:List Nat)(op:Nat)(a b c:Int)(l:List Nat)(i:Nat)(g:Hp)(z:Int)(iv bw:IN)(ks':List Kt)(fr':List Nat):Prop:=
 (op≠4/\op≠5/\iv=AFn/\bw=AFn/\∃ l',(op=1->l'=l)/\Stp T ks fr (kdO op) a b c l' z ks' fr')\/
 (ks'=ks/\fr'=fr/\((op=5/\z=0/\bw=AFn/\g.IL i iv (ks.filter fun x=>ZA x a b c))\/
  (op=4/\((c=0/\z=0/\bw=AFn/\g.IL i iv (ks.filter fun x=>decide (x.a=a) && decide (x.b=b)))\/(c≠0/\ks.find? (Bo a b c)=none/\z=60/\iv=AFn/\bw=AFn)\/
   (c≠0/\∃ kx,ks.find? (Bo a b c)=some kx/\z=0/\(∃ r,iv=.slice (some ⟨r,0,none⟩) 1 1/\g.Row r 0 (CO kx)/\i<=r)/\g.BS (fun b=>i<=b) bw (kx.l.map bv))))))
theorem Hp.IL.less(o:h.IL n v ks)(hk:m<=n):h.IL m v ks:=by
 rcases o with h1|⟨b,h1,h2,h3⟩
 ·exact .inl h1
 ·exact .inr ⟨b,h1,h2,zO hk h3⟩
theorem V9:uC (Rdn T ks fr op a b c l):=fun i j g g' z iv bw ks' fr' h hj W f=>by
 rcases h with h|⟨h1,h2,⟨h3,h4,h5,h6⟩|⟨h3,⟨h4,h5,h6,h7⟩|h4|⟨h4,kx,h5,h6,⟨r,h7,h8,h9⟩,h10⟩⟩⟩
 ·exact .inl h
 ·exact .inr ⟨h1,h2,.inl ⟨h3,h4,h5,(h6.fx W f fun b hb=>hb).less hj⟩⟩
 ·exact .inr ⟨h1,h2,.inr ⟨h3,.inl ⟨h4,h5,h6,(h7.fx W f fun b hb=>hb).less hj⟩⟩⟩
 ·exact .inr ⟨h1,h2,.inr ⟨h3,.inr (.inl h4)⟩⟩
 ·exact .inr ⟨h1,h2,.inr ⟨h3,.inr (.inr ⟨h4,kx,h5,h6,⟨r,h7,f.row W h8 (by omega),by omega⟩,h10.AGp fun b el L hb _ q=>⟨f.row W q (by have hb:i<=b:=hb;omega),by have hb:i<=b:=hb;show j<=b;omega⟩⟩)⟩⟩
theorem Y4(W:h.Wf)(hA:A.n=24)(Rn:h.Row nb 0 (AF9 A.bd A.tb A.bs AF7))(U:UpX X h A T ks fr k)(hop:op=4\/op=5):
  ∃ z iv bw h' ks' fr',call AC (m+10) (fnO op) [pt nb,Ck lf sq op a b c u] h=.ok (CC 0 0 0 z iv bw 0) h'/\Fx A.D h h'/\UpX X h' A T ks' fr' k/\z≠120/\oneCell iv=true/\oneCell bw=true/\Rdn T ks fr op a b c l h.next h' z iv bw ks' fr':=by
 rcases hop with rfl|rfl
 ·have U0:=U
  obtain⟨⟨M,c0,arm,lv,fv,s,iv',md,_⟩,_⟩:=U0;have hln:=iv'.len;obtain⟨h',k',z,iv,bw,q1,q2,hk',q4,q5,q6⟩:=wO (m:=m) (lf:=lf) (sq:=sq) (op:=4) (a:=a) (b:=b) (c:=c) (u:=u) W Rn s (by omega) (fun x hx=>md.AJz hx) (fun x hx=>by have:=iv'.lt x hx;omega);refine⟨z,iv,bw,h',ks,fr,q1,.of q2,U.ext W q2,?_,q4,q5,.inr ⟨rfl,rfl,.inr ⟨rfl,?_⟩⟩⟩
  ·rcases q6 with ⟨_,rfl,_⟩|⟨_,_,rfl,_⟩|⟨_,_,_,rfl,_⟩<;>omega
  ·rcases q6 with ⟨g1,g2,g3,g4⟩|g1|⟨g1,kx,g2,g3,⟨r,g4,g5,g6⟩,g7⟩
   ·exact .inl ⟨g1,g2,g3,g4.less hk'⟩
   ·exact .inr (.inl g1)
   ·exact .inr (.inr ⟨g1,kx,g2,g3,⟨r,g4,g5,zO hk' g6⟩,g7.mono fun b hb=>zO hk' hb⟩)
 ·have U0:=U
  obtain⟨⟨M,c0,arm,lv,fv,s,iv',md,_⟩,_⟩:=U0;have hln:=iv'.len;obtain⟨h',k',iv,q1,q2,hk',q4⟩:=wL (m:=m) (lf:=lf) (sq:=sq) (op:=5) (a:=a) (b:=b) (c:=c) (u:=u) W Rn s (by omega);exact⟨0,iv,_,h',ks,fr,q1,.of q2,U.ext W q2,by omega,(S8 q4).2.2,rfl,.inr ⟨rfl,rfl,.inl ⟨rfl,rfl,rfl,q4.less hk'⟩⟩⟩
theorem vg(W:h.Wf)(hA:A.n=24)(Rn:h.Row nb 0 (AF9 A.bd A.tb A.bs AF7))(U:UpX X h A T ks fr (k+40))(hX:∀ b,X b->b<h.next)(V:h.VE u (l.map bv))(hb:∀ x∈l,x<256)(hl:l.length<=1000)(h1:1<=op)(h6:op<=6):
  ∃ z iv bw h' ks' fr',call AC (m+10) (fnO op) [pt nb,Ck lf sq op a b c u] h=.ok (CC 0 0 0 z iv bw 0) h'/\Fx A.D h h'/\UpX X h' A T ks' fr' k/\z≠120/\oneCell iv=true/\oneCell bw=true/\Rdn T ks fr op a b c l h.next h' z iv bw ks' fr':=by
 have hop:op=1\/op=2\/op=3\/op=4\/op=5\/op=6:=by omega
 rcases hop with rfl|rfl|rfl|rfl|rfl|rfl
 ·obtain⟨z,h',ks',fr',q1,q2,q3,q4⟩:=sM (m:=m) (lf:=lf) (sq:=sq) (op:=1) (a:=a) (b:=b) (c:=c) W hA Rn U hX V hb hl
  exact⟨z,_,_,h',ks',fr',q1,q2,q3,Pa q4,rfl,rfl,.inl ⟨by omega,by omega,rfl,rfl,_,fun _=>rfl,q4⟩⟩
 ·obtain⟨z,h',ks',fr',q1,q2,q3,q4⟩:=sN (m:=m) (lf:=lf) (sq:=sq) (op:=2) (a:=a) (b:=b) (c:=c) (u:=u) W hA Rn U hX
  exact⟨z,_,_,h',ks',fr',q1,q2,q3,Pa q4,rfl,rfl,.inl ⟨by omega,by omega,rfl,rfl,_,fun h=>absurd h (by omega),q4⟩⟩
 ·obtain⟨z,h',ks',fr',q1,q2,q3,q4⟩:=sO (m:=m) (lf:=lf) (sq:=sq) (op:=3) (a:=a) (b:=b) (c:=c) (u:=u) W hA Rn U hX
  exact⟨z,_,_,h',ks',fr',q1,q2,q3,Pa q4,rfl,rfl,.inl ⟨by omega,by omega,rfl,rfl,_,fun h=>absurd h (by omega),q4⟩⟩
 ·exact Y4 (m:=m) W hA Rn (U.le (by omega)) (.inl rfl)
 ·exact Y4 (m:=m) W hA Rn (U.le (by omega)) (.inr rfl)
 ·obtain⟨z,h',ks',fr',q1,q2,q3,q4⟩:=sP (m:=m) (lf:=lf) (sq:=sq) (op:=6) (a:=a) (b:=b) (c:=c) (u:=u) W hA Rn U hX
  exact⟨z,_,_,h',ks',fr',q1,q2,q3,Pa q4,rfl,rfl,.inl ⟨by omega,by omega,rfl,rfl,_,fun h=>absurd h (by omega),q4⟩⟩
theorem sY(Rn:h.Row nb 0 (AF9 A.bd A.tb A.bs AF7))(U:UpX X h A T ks fr k):call AC (m+3) 31 [pt nb] h=.ok (AI AT 0) h:=by
 obtain⟨⟨M,c0,arm,lv,fv,s,_⟩,_⟩:=U;obtain⟨n0,_,n2,_⟩:=Cz Rn;have p1:∀ e:Env,J 0 e=pt nb->oEq dC.k false (J 0) (kV (.pointer none)) (call AC (m+2)) e h=.ok (.bool false) h:=fun e he=>Gz xu he
 have p2:∀ e:Env,J 10 e=pt A.bs->oEq Hz.k false (J 10) (kV (.pointer none)) (call AC (m+2)) e h=.ok (.bool false) h:=fun e he=>Gz WS he
 have k1:call AC (m+2) 53 [pt A.bs] h=.ok (.bool false) h:=V4 (m:=m+1) s.row;have k2:call AC (m+2) 19 [pt A.bd] h=.ok (.bool false) h:=Us (m:=m) s.dk;rw[pH rfl];unfold d31;simp only[iN,IS,sT,By,BY,reduceIte,gD,cA0,p1,Ax,Al,AH,AN,If,AM,AP,n0,n2,p2,k1,k2,lV0]
theorem QG(W:h.Wf)(Rn:h.Row nb 0 (AF9 A.bd A.tb A.bs AF7))(U:UpX X h A T ks fr k)(hop:op<256){l:Nat}(hu:∀ g:Hp,AGQ u g=.ok (AI AT (l:Int)) g):
  ∃ e1 h4 r3 r4,d11 (call AC (m+3)) (AS e0 0 [pt nb,Ck lf sq op a b c u]) h=(if DL lf sq op a b c l=true then doM (call AC (m+3)) e1 h4 else .ret e1 h4)/\J 0 e1=pt nb/\J 3 e1=pt r3/\J 4 e1=pt r4/\h.Ext h4/\h4.Row r3 0 (CP lf sq op a b c u)/\h4.Row r4 0 GI/\
   h.next<=r3/\h.next<=r4/\r3≠r4/\UpX (fun b=>X b\/b=r4) h4 A T ks fr k/\r4<h4.next/\(DL lf sq op a b c l=false->J 5 e1=AI AT 110):=by
 have bx:=fun (F:AFi) (e:Env) (he:J 1 e=Ck lf sq op a b c u)=>FK (F:=F) W he
 have x1:=(Hp.Ext.refl W).AFh 0 (CP lf sq op a b c u);have R1:=Hp.Row.new W 0 (CP lf sq op a b c u);have n1:(h.AFh 0 (CP lf sq op a b c u)).next=h.next+1:=rfl;generalize h.AFh 0 (CP lf sq op a b c u)=h1 at bx x1 R1 n1;have al:=fun (F:AFi) (e:Env)=>BW (F:=F) (e:=e) x1.wf (n:=7) (t:=Cm)
 have Ra:=Hp.Row.alloc x1.wf EG (show GI.length=7 from rfl);have y2:h1.Ext (h1.push (.cells Cm 7 0)):=(Hp.Ext.refl x1.wf).push _;have n2:(h1.push (.cells Cm 7 0)).next=h1.next+1:=rfl;generalize h1.push (.cells Cm 7 0)=h2 at al Ra y2 n2;have x2:=x1.trans y2;have U2:=((U.more W (r:=h1.next) (by omega)).ext W x2);have k1:call AC (m+3) 31 [pt nb] h2=.ok (AI AT 0) h2:=sY (m:=m) (Rn.ext W x2) U2;have c1:iNe 0 0=false:=CH rfl;obtain⟨_,_,_,_,_,_,_,lda⟩:=B5 (R1.ext x1.wf y2);obtain⟨h3,k3,y3⟩:=Yc (m:=m) (AF7:=lf) (seq:=sq) (op:=op) (a:=a) (b:=b) (c:=c) x2.wf hop hu;have big:=W.big;cases hr:DL lf sq op a b c l
 ·rw[hr]at k3
  have Ra3:=Ra.ext y2.wf y3;obtain⟨h4,st4,f4,R4⟩:=Ed (lf:=0) (sq:=0) (op:=0) (err:=0) (iv:=AFn) (bw:=AFn) (room:=0) y3.wf Ra3 rfl (by omega) rfl rfl;have bd:=fun (F:AFi) (e:Env)=>ef (F:=F) (e:=e) (h:=h3)
  have x4:=Fx.xtF (x2.trans y3) f4 (fun b hb=>by rw[hb];omega);have hrun:∃ e1,d11 (call AC (m+3)) (AS e0 0 [pt nb,Ck lf sq op a b c u]) h=.ret e1 h4/\J 0 e1=pt nb/\J 3 e1=pt h.next/\J 4 e1=pt h1.next/\J 5 e1=AI AT 110:=by
   rw[Zi];unfold gR;simp only[iN,IS,sT,By,BY,reduceIte,bx,al,cA0,k1,AK,AJ,c1];unfold doR iG Ar doM Aw;simp only[sT,By,BY,reduceIte,Au,Am,lda,cA0,k3,Be,Bd,Bool.not_false,bd,AX,st4];exact⟨_,rfl,by simp[AG]⟩
  obtain⟨e1,q0,q1,q2,q3,q4⟩:=hrun;have nn:=y3.next;have nn4:=f4.next;exact⟨e1,h4,_,_,q0,q1,q2,q3,x4,f4.row y3.wf ((R1.ext x1.wf y2).ext y2.wf y3) (by omega),R4,IT _,by omega,by omega,((U.more W (r:=h1.next) (by omega)).ext W x4),by omega,fun _=>q4⟩
 ·rw[hr]at k3
  have hrun:∃ e1,d11 (call AC (m+3)) (AS e0 0 [pt nb,Ck lf sq op a b c u]) h=doM (call AC (m+3)) e1 h3/\J 0 e1=pt nb/\J 3 e1=pt h.next/\J 4 e1=pt h1.next:=by
   rw[Zi];unfold gR;simp only[iN,IS,sT,By,BY,reduceIte,bx,al,cA0,k1,AK,AJ,c1];rw[qt];unfold iG;simp only[sT,By,BY,reduceIte,Au,Am,lda,cA0,k3,Be,Bd,Bool.not_true];exact⟨_,rfl,by simp[AG]⟩
  obtain⟨e1,q0,q1,q2,q3⟩:=hrun;have nn:=y3.next;have x3:=x2.trans y3;exact⟨e1,h3,_,_,q0,q1,q2,q3,x3,(R1.ext x1.wf y2).ext y2.wf y3,Ra.ext y2.wf y3,IT _,by omega,by omega,((U.more W (r:=h1.next) (by omega)).ext W x3),by omega,fun e=>by cases e⟩
end
end
noncomputable section
open Go
set_option maxRecDepth 100000
section
variable {e:Env}{h h' g:Hp}{S X:Nat->Prop}{A:At}{T:List Nat}{m k n nb r r3 r4 op:Nat}{AF7 lf sq a b c z err room:Int}{ks ks':List Kt}{fr fr' l:List Nat}{v u iv bw:IN}{x:Kt}
theorem Hp.VE.fx{xs:List IN}(V:h.VE u xs)(W:h.Wf)(f:Fx S h h')(hS:∀ b,AGA u b->¬ S b):h'.VE u xs:=by
 rcases V with (h1|⟨b,off,c,el,L,h1,h2,h3⟩)|h1
 ·exact .inl (.inl h1)
 ·exact .inl (.inr ⟨b,off,c,el,L,h1,f.row W h2 (hS b ⟨off,_,c,h1⟩),h3⟩)
 ·exact .inr h1
theorem qr{h1 h2:Hp}(R3:h.Row r3 0 (CP lf sq op a b c u))(h1':1<=op)(h6:op<=6)(s0:J 0 e=pt nb)(s3:J 3 e=pt r3)(s4:J 4 e=pt r4){tv:IN}
  (hk:call AC (m+3) 33 [pt nb,Ck lf sq op a b c u,.func (.func (fnO op)) ⟨[]⟩ ⟨[]⟩] h=.ok (.tuple ⟨[tv,AI AT 0]⟩) h1)(st:AFr 7 (pt r4) tv h1=.ok AFl h2):
  ∃ e2,doM (call AC (m+3)) e h=.ret e2 h2/\J 4 e2=pt r4/\J 5 e2=AI AT 0:=by
 obtain⟨_,_,l2,_,_,_,_,lda⟩:=B5 R3;have hq:op=1\/op=2\/op=3\/op=4\/op=5\/op=6:=by omega
 unfold doM;rcases hq with hq|hq|hq|hq|hq|hq
 ·have c1:iEq (op:Int) 1=true:=Cb (by omega)
  have hk:=hk;rw[show fnO op=34 by rw[hq];rfl]at hk;simp only[sT,By,BY,reduceIte,s3,AH,AN,If,AM,AP,l2,AK,AJ,c1,Au,Am,lda,cA0,s0,hk,A7,BC,BE,AX,s4,st];exact⟨_,rfl,by simp[AG,s4]⟩
 ·have c1:iEq (op:Int) 1=false:=B6 (by omega)
  have c2:iEq (op:Int) 2=true:=Cb (by omega);have hk:=hk;rw[show fnO op=35 by rw[hq];rfl]at hk;simp only[sT,By,BY,reduceIte,s3,AH,AN,If,AM,AP,l2,AK,AJ,c1,c2,Au,Am,lda,cA0,s0,hk,A7,BC,BE,AX,s4,st];exact⟨_,rfl,by simp[AG,s4]⟩
 ·have c1:iEq (op:Int) 1=false:=B6 (by omega)
  have c2:iEq (op:Int) 2=false:=B6 (by omega);have c3:iEq (op:Int) 3=true:=Cb (by omega);have hk:=hk;rw[show fnO op=36 by rw[hq];rfl]at hk;simp only[sT,By,BY,reduceIte,s3,AH,AN,If,AM,AP,l2,AK,AJ,c1,c2,c3,Au,Am,lda,cA0,s0,hk,A7,BC,BE,AX,s4,st];exact⟨_,rfl,by simp[AG,s4]⟩
 ·have c1:iEq (op:Int) 1=false:=B6 (by omega)
  have c2:iEq (op:Int) 2=false:=B6 (by omega);have c3:iEq (op:Int) 3=false:=B6 (by omega);have c4:iEq (op:Int) 4=true:=Cb (by omega);have hk:=hk;rw[show fnO op=37 by rw[hq];rfl]at hk;simp only[sT,By,BY,reduceIte,s3,AH,AN,If,AM,AP,l2,AK,AJ,c1,c2,c3,c4,Au,Am,lda,cA0,s0,hk,A7,BC,BE,AX,s4,st];exact⟨_,rfl,by simp[AG,s4]⟩
 ·have c1:iEq (op:Int) 1=false:=B6 (by omega)
  have c2:iEq (op:Int) 2=false:=B6 (by omega);have c3:iEq (op:Int) 3=false:=B6 (by omega);have c4:iEq (op:Int) 4=false:=B6 (by omega);have c5:iEq (op:Int) 5=true:=Cb (by omega);have hk:=hk;rw[show fnO op=38 by rw[hq];rfl]at hk;simp only[sT,By,BY,reduceIte,s3,AH,AN,If,AM,AP,l2,AK,AJ,c1,c2,c3,c4,c5,Au,Am,lda,cA0,s0,hk,A7,BC,BE,AX,s4,st];exact⟨_,rfl,by simp[AG,s4]⟩
 ·have c1:iEq (op:Int) 1=false:=B6 (by omega)
  have c2:iEq (op:Int) 2=false:=B6 (by omega);have c3:iEq (op:Int) 3=false:=B6 (by omega);have c4:iEq (op:Int) 4=false:=B6 (by omega);have c5:iEq (op:Int) 5=false:=B6 (by omega);have hk:=hk;rw[show fnO op=39 by rw[hq];rfl]at hk;simp only[sT,By,BY,reduceIte,s3,AH,AN,If,AM,AP,l2,AK,AJ,c1,c2,c3,c4,c5,Au,Am,lda,cA0,s0,hk,A7,BC,BE,AX,s4,st];exact⟨_,rfl,by simp[AG,s4]⟩
theorem qu(W:h.Wf)(Rn:h.Row nb 0 (AF9 A.bd A.tb A.bs AF7))(U:UpX X h A T ks fr k)(hop:op<256){l:Nat}(hu:∀ g:Hp,AGQ u g=.ok (AI AT (l:Int)) g)(hr:DL lf sq op a b c l=false):
  ∃ tv h',call AC (m+4) 11 [pt nb,Ck lf sq op a b c u] h=.ok (.tuple ⟨[tv,AI AT 110]⟩) h'/\h.Ext h'/\tv=CC 0 0 0 0 AFn AFn 0:=by
 obtain⟨e1,h4,r3,r4,p1,p2,p3,p4,x4,R3,R4,l3,l4,n34,U4,m4,q⟩:=QG (m:=m) (lf:=lf) (sq:=sq) (op:=op) (a:=a) (b:=b) (c:=c) W Rn U hop hu;rw[hr,if_neg (by decide)]at p1;refine⟨_,h4,?_,x4,rfl⟩;rw[ZP rfl,p1,BI,IF (v:=CC 0 0 0 0 AFn AFn 0) (by rw[p4];exact DN R4),q hr]
theorem Z1(W:h.Wf)(hA:A.n=24)(Rn:h.Row nb 0 (AF9 A.bd A.tb A.bs AF7))(U:UpX X h A T ks fr k)(hX:∀ b,X b->b<h.next)(hXn:X nb)(hnD:¬ A.D nb)(hnt:A.tb≠nb)(AFs:256<=nb)(V:h.VE u (l.map bv))(hr:DL lf sq op a b c l.length=true)(hle:AF7<=lf)
  (ap:∀ (g:Hp) (Y:Nat->Prop),g.Wf->g.Row nb 0 (AF9 A.bd A.tb A.bs lf)->UpX Y g A T ks fr k->(∀ b,Y b->b<g.next)->(∀ g0:Hp,h.Ext g0->Fx (fun b=>b=nb) g0 g->∃ z iv bw g' ks' fr',call AC (m+10) (fnO op) [pt nb,Ck lf sq op a b c u] g=.ok (CC 0 0 0 z iv bw 0) g'/\Fx A.D g g'/\UpX Y g' A T ks' fr' n/\z≠120/\oneCell iv=true/\oneCell bw=true/\Rdn T ks fr op a b c l g.next g' z iv bw ks' fr')):
  ∃ z iv bw room h' ks' fr',call AC (m+12) 11 [pt nb,Ck lf sq op a b c u] h=.ok (.tuple ⟨[CC lf sq op z iv bw room,AI AT 0]⟩) h'/\Fx (fun b=>A.D b\/b=nb) h h'/\h'.Row nb 0 (AF9 A.bd A.tb A.bs lf)/\UpX X h' A T ks' fr' n/\z≠120/\oneCell iv=true/\oneCell bw=true/\Rdn T ks fr op a b c l h.next h' z iv bw ks' fr':=by
 obtain⟨o1,o6,_⟩:=K9 hr;obtain⟨e1,h4,r3,r4,p1,p2,p3,p4,x4,R3,R4,l3,l4,n34,U4,m4,q⟩:=QG (m:=m+8) (lf:=lf) (sq:=sq) (op:=op) (a:=a) (b:=b) (c:=c) W Rn U (by omega) (fun g=>V.bl g);rw[hr,if_pos rfl]at p1;have big:=W.big;have hD:=U.lt W;have hn:=Rn.lt W;obtain⟨ht0,_,ht⟩:=U.tab;have htl:=ht0.lt W;obtain⟨z,iv,bw,room,h5,ks',fr',k5,f5,Rn5,U5,hz,hi,hw,hq⟩:=cz (m:=m+8) (n:=n) (lf:=lf) (sq:=sq) (op:=op) (a:=a) (b:=b) (c:=c) (u:=u) (f:=fnO op) x4.wf (Rn.ext W x4) U4 (fun b hb=>by
  have:=x4.next;rcases hb with hb|hb
  ·have:=hX b hb
   omega
  ·omega) (.inl hXn) hnD hnt AFs hle V9 fun g Y Wg Rg Ug hY fg=>ap g Y Wg Rg Ug hY h4 x4 fg
 have hDr:∀ r,h.next<=r->¬ A.D r:=fun r hr h=>by have:=hD _ h;omega
 have R45:=f5.row x4.wf R4 (fun h=>by
  rcases h with h|h
  ·exact hDr _ l4 h
  ·omega)
 obtain⟨h6,st6,f6,R6⟩:=Ed (lf:=lf) (sq:=sq) (op:=op) (err:=z) (iv:=iv) (bw:=bw) (room:=room) f5.wf R45 rfl (by omega) hi hw;obtain⟨e2,q1,q2,q3⟩:=qr (m:=m+8) R3 o1 o6 p2 p3 p4 k5 st6;have U6:=UpX.wr f5.wf U5 (.inr rfl) R45 R6 f6 (hDr _ l4) (by omega) FC;refine⟨z,iv,bw,room,h6,ks',fr',?_,Fx.drop (((Fx.of x4).trans (f5.mono fun b hb=>.inl hb)).trans (f6.mono fun b hb=>.inr (by omega))),f6.row f5.wf Rn5 (by omega),U6.less fun b hb=>.inl hb,hz,hi,hw,V9 _ _ _ _ _ _ _ _ _ hq x4.next f5.wf (f6.mono fun b hb=>by omega)⟩;rw[ZP rfl,p1,q1,BI,IF (v:=CC lf sq op z iv bw room) (by rw[q2];exact DN R6),q3]
theorem Sy(W:h.Wf)(hA:A.n=24)(Rn:h.Row nb 0 (AF9 A.bd A.tb A.bs AF7))(U:UpX X h A T ks fr (k+40))(hX:∀ b,X b->b<h.next)(hXn:X nb)(hnD:¬ A.D nb)(hnt:A.tb≠nb)(AFs:256<=nb)(V:h.VE u (l.map bv))(hb:∀ x∈l,x<256)(hl:l.length<=1000)(huo:∀ b,AGA u b->b≠nb)(hr:DL lf sq op a b c l.length=true)(hle:AF7<=lf):
  ∃ z iv bw room h' ks' fr',call AC (m+12) 11 [pt nb,Ck lf sq op a b c u] h=.ok (.tuple ⟨[CC lf sq op z iv bw room,AI AT 0]⟩) h'/\Fx (fun b=>A.D b\/b=nb) h h'/\h'.Row nb 0 (AF9 A.bd A.tb A.bs lf)/\UpX X h' A T ks' fr' k/\z≠120/\oneCell iv=true/\oneCell bw=true/\Rdn T ks fr op a b c l h.next h' z iv bw ks' fr':=by
 obtain⟨o1,o6,_⟩:=K9 hr;exact Z1 (m:=m) W hA Rn U hX hXn hnD hnt AFs V hr hle fun g Y Wg Rg Ug hY g0 x0 fg=>vg (m:=m) Wg hA Rg Ug hY ((V.ext W x0).fx x0.wf fg huo) hb hl o1 o6
theorem vy(W:h.Wf)(hA:A.n=24)(Rn:h.Row nb 0 (AF9 A.bd A.tb A.bs AF7))(U:UpX X h A T ks fr k)(hX:∀ b,X b->b<h.next)(hXn:X nb)(hnD:¬ A.D nb)(hnt:A.tb≠nb)(AFs:256<=nb)(V:h.VE u (l.map bv))(hop:op=4\/op=5)(hr:DL lf sq op a b c l.length=true)(hle:AF7<=lf):
  ∃ z iv bw room h' ks' fr',call AC (m+12) 11 [pt nb,Ck lf sq op a b c u] h=.ok (.tuple ⟨[CC lf sq op z iv bw room,AI AT 0]⟩) h'/\Fx (fun b=>A.D b\/b=nb) h h'/\h'.Row nb 0 (AF9 A.bd A.tb A.bs lf)/\UpX X h' A T ks' fr' k/\z≠120/\oneCell iv=true/\oneCell bw=true/\Rdn T ks fr op a b c l h.next h' z iv bw ks' fr':=
 Z1 (m:=m) W hA Rn U hX hXn hnD hnt AFs V hr hle fun g Y Wg Rg Ug hY g0 x0 fg=>Y4 (m:=m) Wg hA Rg Ug hop
end
end
noncomputable section
open Go
set_option maxRecDepth 100000
structure Ak where
 lf:Int
 sq:Int
 op:Nat
 a:Int
 b:Int
 c:Int
 u:IN
 l:List Nat
def Ak.cells(x:Ak):List IN:=CP x.lf x.sq x.op x.a x.b x.c x.u
def Ak.val(x:Ak):IN:=Ck x.lf x.sq x.op x.a x.b x.c x.u
def AH2(h:Hp)(x:Ak):Prop:=h.VE x.u (x.l.map bv)/\(∀ y∈x.l,y<256)/\oneCell x.u=true/\x.op<256
def flA(xs:List Ak):List IN:=xs.flatMap Ak.cells
def Hp.KL(h:Hp)(k:Nat)(v:IN)(xs:List Ak):Prop:=(v=AFn/\xs=[])\/∃ b,v=.slice (some ⟨b,0,none⟩) xs.length xs.length/\h.Row b 37 (flA xs)/\k<=b
structure AJ0 (h:Hp)(v:IN)(n cap:Nat):Prop where
 len:∀ g:Hp,AGQ v g=.ok (AI AT (n:Int)) g
 get:∀ i,i<n->i<cap->∃ (r:Nat) (x:Ak),(∀ g:Hp,h.Ext g->AGa 7 v (AI AT (i:Int)) g=.ok (.pointer (some ⟨r,i*7,none⟩)) g/\loadN 7 ⟨r,i*7,none⟩ g=.ok x.val g/\AFk ⟨r,i*7+6,none⟩ g=.ok x.u g)/\AH2 h x
theorem Ow:∀ xs:List Ak,(flA xs).length=xs.length*7
 |[]=>rfl
 |x::l=>by
  show(x.cells++flA l).length=_;rw[No,Ow l,yh];show 7+l.length*7=_;omega
theorem Uy:∀ (xs:List Ak) (i:Nat) (x:Ak),xs[i]? =some x->((flA xs).drop (i*7)).take 7=x.cells
 |[],i,x,h=>by cases h
 |y::xs,0,x,h=>by
  have h:some y=some x:=h;cases h;rfl
 |y::xs,i+1,x,h=>by
  show((y.cells++flA xs).drop ((i+1)*7)).take 7=_;rw[AEB,zx (show y.cells.length<=_ by show 7<=_;omega),zU,show(i+1)*7 - y.cells.length=i*7 by show(i+1)*7 - 7=_;omega];exact Uy xs i x h
theorem aG:fwK=BL (Ae 1 fwB) fwI:=rfl
theorem S5:fwL=aH:=rfl
theorem rJ:fwS=BL (Ae 0 (A9 fwL)) fwE:=rfl
theorem qW:d10=qX:=rfl
theorem lC:Bb KC.zero 1=CP 0 0 0 0 0 0 AFn:=by kernel_rfl
theorem Pj:Bt .mt 0 (CP 0 0 0 0 0 0 AFn)=some Ys:=by kernel_rfl
section
variable {F:AFi}{e:Env}{h h' h0 g:Hp}{S:Nat->Prop}{m k n:Nat}{v:IN}{xs:List Ak}{x:Ak}
theorem Y2(W:h.Wf){g:O}(hg:g e=x.val):As 1 (Bb KC.zero 1) [(0,7,g)] F e h=.ok (.slice (some ⟨h.next,0,none⟩) 1 1) (h.AFh 0 x.cells):=by
 rw[lC,CR,Af (hk:=by rw[hg];rfl),hg,show cellsOf x.val=x.cells from rfl,if_pos (show x.cells.length=7 from rfl),if_pos (show 0+7<=(CP 0 0 0 0 0 0 AFn).length from IT _),Bs,C9 W];rfl
theorem Ak.one(x:Ak)(hu:oneCell x.u=true):Bc x.cells=true:=by
 show(bif oneCell x.u then true else false)=true;rw[hu];rfl
theorem Hp.KL.fx(o:h.KL k v xs)(W:h.Wf)(f:Fx S h h')(hS:∀ b,k<=b->¬ S b):h'.KL k v xs:=by
 rcases o with h1|⟨b,h1,h2,h3⟩
 ·exact .inl h1
 ·exact .inr ⟨b,h1,f.row W h2 (hS b h3),h3⟩
theorem Hp.KL.len(o:h.KL k v xs)(g:Hp):AGQ v g=.ok (AI AT (xs.length:Int)) g:=by
 rcases o with ⟨rfl,rfl⟩|⟨b,rfl,_⟩
 ·exact D7
 ·exact D7
theorem Hp.KL.at(o:h.KL k v xs){i:Nat}(hi:xs[i]? =some x):∃ b,AGa 7 v (AI AT (i:Int)) h=.ok (.pointer (some ⟨b,i*7,none⟩)) h/\loadN 7 ⟨b,i*7,none⟩ h=.ok x.val h:=by
 have hil:=(zG.1 hi).1;rcases o with ⟨rfl,rfl⟩|⟨b,rfl,h2,h3⟩
 ·cases hi
 ·refine⟨b,?_,?_⟩
  ·have:=DB (h:=h) (n:=xs.length) (c:=xs.length) (es:=7) (b:=b) (off:=0) (i:=i) (k:=.i64) hil
   rwa [If]at this
  ·rw[h2.loadN (by rw[Ow];omega),Uy xs i x hi];rfl
theorem Hp.KL.app(o:h.KL k v xs)(W0:h0.Wf)(x0:h0.Ext h)(hk:h0.next<=k)(hkn:k<=h.next)(hl:xs.length<=1000)(hu:oneCell x.u=true):
  ∃ h' v',DU 7 72 36 v (.slice (some ⟨h.next,0,none⟩) 1 1) (h.AFh 0 x.cells)=.ok v' h'/\h0.Ext h'/\h'.KL k v' (xs++[x]):=by
 have W:=x0.wf;have x1:=x0.AFh 0 x.cells;have y1:=(Hp.Ext.refl W).AFh 0 x.cells;have Rw:=Hp.Row.new W 0 x.cells;have hn1:h.next<=(h.AFh 0 x.cells).next:=y1.next;have big:=W0.big;generalize h.AFh 0 x.cells=h1 at x1 y1 Rw hn1;have hs:∀ K:List IN->R,BP h1 7 (.slice (some ⟨h.next,0,none⟩) 1 1) 1 K=K x.cells:=fun K=>Rw.AHh (es:=7) (off:=0) (n:=1) (by show 0+1 * 7<=7;omega)
 have ha:=x.one hu;rcases o with ⟨rfl,rfl⟩|⟨b,rfl,r,hb⟩
 ·obtain⟨h5,a1,a2,a3,a4,_,a6⟩:=Jm (eb:=72) (en:=36) x1 hs rfl rfl ha (by omega)
  exact⟨h5,_,a1,a2,.inr ⟨_,rfl,by rw[show flA ([]++[x])=x.cells from yw _];exact a3,by omega⟩⟩
 ·obtain⟨h5,a1,a2,a3,_,_,a6⟩:=N3 (eb:=72) (en:=36) (n:=xs.length) x1 hs rfl rfl (by omega) ha (r.ext W y1) (Ow xs) (by omega) (by omega) (by omega)
  refine⟨h5,_,a1,a2,.inr ⟨_,by rw[No];rfl,?_,by omega⟩⟩;rw[show flA (xs++[x])=flA xs++x.cells by unfold flA;rw[ADi];exact congrArg _ (yw _)];exact a3
theorem rF(W:h.Wf)(hb:h0.Ext h)(W0:h0.Wf)(O:AJ0 h0 v n 25):∃ h' v' xs,call AC (m+1) 10 [v] h=.ok v' h'/\h.Ext h'/\h'.KL h.next v' xs/\xs.length<=25/\∀ x∈xs,AH2 h0 x/\x.l.length<=150:=by
 obtain⟨e1,p1,s0,s3,s4⟩:∃ e1,d10 (call AC m) (AS e0 0 [v]) h=fwS (call AC m) e1 h/\J 0 e1=v/\J 3 e1=AFn/\J 4 e1=AI AT ((0:Nat):Int):=by
  rw[qW];unfold qX;simp only[iN,IS,sT,By,BY,reduceIte];exact⟨_,rfl,by simp[AG]⟩
 have run:∃ e2 h2 xs,A9 fwL (call AC m) e1 h=.exit 0 e2 h2/\h.Ext h2/\h2.KL h.next (J 3 e2) xs/\xs.length<=25/\∀ x∈xs,AH2 h0 x/\x.l.length<=150:=by
  refine Bh (I:=fun i e' h'=>∃ xs,h.Ext h'/\J 0 e'=v/\J 4 e'=AI AT (i:Int)/\i<=25/\h'.KL h.next (J 3 e') xs/\xs.length<=i/\∀ x∈xs,AH2 h0 x/\x.l.length<=150)
   (Q:=fun x=>∃ e2 h2 xs,x=.exit 0 e2 h2/\h.Ext h2/\h2.KL h.next (J 3 e2) xs/\xs.length<=25/\∀ x∈xs,AH2 h0 x/\x.l.length<=150) 25 (by omega) (fun i e' h' ⟨xs,x',t0,t4,hi,K,hl,hx⟩=>?_) ⟨[],.refl W,s0,s4,zL _,.inl ⟨s3,rfl⟩,IT _,fun x hx=>by cases hx⟩
  have W':=x'.wf;have ln:=O.len h';have done:(∃ e2,fwL (call AC m) e' h'=.exit 0 e2 h'/\J 3 e2=J 3 e')->(Z9 (fwL (call AC m) e' h')=true/\∃ e2 h2 xs,fwL (call AC m) e' h'=.exit 0 e2 h2/\h.Ext h2/\h2.KL h.next (J 3 e2) xs/\xs.length<=25/\∀ x∈xs,AH2 h0 x/\x.l.length<=150):=fun⟨e2,r1,r2⟩=>by
   rw[r1];exact⟨rfl,e2,h',xs,rfl,x',by rw[r2];exact K,by omega,hx⟩
  by_cases hin:i<n
  ·have c1:=E9 hin
   by_cases AIr:i<25
   ·left
    have c2:iLt (i:Int) 25=true:=Hd (by omega);obtain⟨r2,x,hop,ok⟩:=O.get i hin AIr;obtain⟨q1,q2,q3⟩:=hop h' (hb.trans x');have a3:=fun g:Hp=>Cc (i:=i) (h:=g) (by omega)
    have vl:=ok.1.bl h';obtain⟨e2,r1,u0,u3,u4⟩:∃ e2,fwL (call AC m) e' h'=fwK (call AC m) e2 h'/\J 0 e2=v/\J 3 e2=J 3 e'/\J 4 e2=AI AT (i:Int):=by
     rw[S5];unfold aH;simp only[sT,By,BY,reduceIte,gD,Ah,t0,ln,AK,AJ,t4,c1,c2];exact⟨_,rfl,by simp[AG,t0,t4]⟩
    have fin:∀ (e3:Env) (h3:Hp),J 4 e3=AI AT (i:Int)->∃ e4,fwI (call AC m) e3 h3=.norm e4 h3/\J 4 e4=AI AT ((i+1:Nat):Int)/\J 0 e4=J 0 e3/\J 3 e4=J 3 e3:=fun e3 h3 r5=>by
     unfold fwI;simp only[sT,By,BY,reduceIte,BM,r5,a3];exact⟨_,rfl,by simp[AG]⟩
    by_cases AJD:x.l.length<=150
    ·have c3:iLe (x.l.length:Int) 150=true:=Hc (by omega)
     have sl:=fun (F:AFi) (e:Env) (he:J 26 e=x.val)=>Y2 (F:=F) (e:=e) (x:=x) W' he
     obtain⟨h5,v5,k5,x5,K5⟩:=K.app (x:=x) W x' (IT _) x'.next (by omega) ok.2.2.1;obtain⟨e3,r3,w0,w3,w4⟩:∃ e3,fwB (call AC m) e2 h'=.norm e3 h5/\J 0 e3=v/\J 3 e3=v5/\J 4 e3=AI AT (i:Int):=by
      unfold fwB;simp only[sT,By,BY,reduceIte,BB,u0,u4,q1,AH,AN,AM,AP,q3,Ah,vl,AK,AJ,c3,Au,Am,q2,sl,BN,u3,k5];exact⟨_,rfl,by simp[AG,u0,u4]⟩
     obtain⟨e4,f1,f2,f3,f4⟩:=fin e3 h5 w4;refine⟨AIr,e4,h5,?_,xs++[x],x5,f3.trans w0,f2,AIr,by rw[f4,w3];exact K5,by rw[No];show xs.length+1<=_;omega,fun z hz=>?_⟩
     ·rw[r1,aG]
      simp only[BJ,Az,r3,CT,BA,f1]
     ·rcases zK.1 hz with hz|hz
      ·exact hx z hz
      ·rw[zB.1 hz];exact⟨ok,AJD⟩
    ·have c3:iLe (x.l.length:Int) 150=false:=Jg (by omega)
     obtain⟨e3,r3,w0,w3,w4⟩:∃ e3,fwB (call AC m) e2 h'=.norm e3 h'/\J 0 e3=v/\J 3 e3=J 3 e2/\J 4 e3=AI AT (i:Int):=by
      unfold fwB;simp only[sT,By,BY,reduceIte,BB,u0,u4,q1,AH,AN,AM,AP,q3,Ah,vl,AK,AJ,c3];exact⟨_,rfl,by simp[AG,u0,u4]⟩
     obtain⟨e4,f1,f2,f3,f4⟩:=fin e3 h' w4;refine⟨AIr,e4,h',?_,xs,x',f3.trans w0,f2,AIr,by rw[f4,w3,u3];exact K,by omega,hx⟩;rw[r1,aG];simp only[BJ,Az,r3,CT,BA,f1]
   ·right
    have c2:iLt (i:Int) 25=false:=Fb (by omega);refine done ?_;rw[S5];unfold aH;simp only[sT,By,BY,reduceIte,gD,Ah,t0,ln,AK,AJ,t4,c1,c2];exact⟨_,rfl,by simp[AG]⟩
  ·right
   have c1:=DJ (show n<=i by omega);refine done ?_;rw[S5];unfold aH;simp only[sT,By,BY,reduceIte,gD,Ah,t0,ln,AK,AJ,t4,c1];exact⟨_,rfl,by simp[AG]⟩
 obtain⟨e2,h2,xs,r1,x2,K,hl,hx⟩:=run;refine⟨h2,_,xs,?_,x2,K,hl,hx⟩;rw[pA rfl,p1,rJ];simp only[BJ,Az,r1,BD,BA];unfold fwE;simp only[sT,By,BY,reduceIte,lV0]
end
end
noncomputable section
open Go Go.RowKit Go.WideShapes Go.ChangeShapes
set_option maxRecDepth 100000
theorem ZG{W:zP}{a:Addr}{v:IN}(h:W.cell? a=some v):a.spot=none/\∃ cs tt fr,W.heap[a.block]? =some (.cells cs tt fr)/\cs[a.off]? =some v:=by
 unfold World.cell? at h;split at h
 ·rename_i cs tt fr hb
  split at h
  ·cases h
  ·rename_i hs
   refine⟨?_,cs,tt,fr,hb,h⟩;cases hsp:a.spot with
   |none=>rfl
   |some s=>rw[hsp]at hs;exact(hs rfl).elim
 ·cases h
theorem cT{W:zP}{a:Addr}{L:List IN}{cs:Array IN}{tt:TypeId}{fr:Nat×Nat}(hb:W.heap[a.block]? =some (.cells cs tt fr))(hc:∀ j,j<L.length->cs[a.off+j]? =some (L.getD j AFl))(hf:∀ j,j<L.length->W.frozen? ⟨a.block,a.off+j,none⟩=false):LE W a L:=by
 refine⟨cs,tt,fr,hb,hc,fun i hi hh=>?_⟩;have h6:=hf i hi;obtain⟨lo,hi'⟩:=fr;simp only[World.frozen?,hb]at h6;simp only at hh;simp only[Bool.and_eq_false_iff,decide_eq_false_iff_not]at h6;omega
theorem Vd{α:Type}{Q:Nat->α->Prop}:∀ n,(∀ i,i<n->∃ x,Q i x)->∃ xs:List α,xs.length=n/\∀ i x,xs[i]? =some x->Q i x
 |0,_=>⟨[],rfl,fun i x h=>by cases h⟩
 |n+1,h=>by
  obtain⟨xs,hl,hx⟩:=Vd n fun i hi=>h i (by omega)
  obtain⟨y,hy⟩:=h n (by omega);refine⟨xs++[y],by rw[No,hl];rfl,fun i x hi=>?_⟩;rcases zD i xs.length with h1|h1
  ·rw[zF h1]at hi;exact hx i x hi
  ·rw[zI h1]at hi
   have h2:i - xs.length< [y].length:=(zG.1 hi).1;have h2:i - xs.length<1:=h2;have h3:i - xs.length=0:=by omega
   rw[h3]at hi;cases hi;rw[show i=n by omega];exact hy
theorem GX{s:Nat}:∀ {Ls:List (List IN)},(∀ l∈Ls,l.length=s)->Ls.flatten.length=Ls.length*s
 |[],_=>by simp
 |l::Ls,h=>by
  rw[AAU,No,h l yk,GX fun x hx=>h x (yj _ hx),yh,ABX,AEM]
theorem QX{s:Nat}:∀ {Ls:List (List IN)} {i r:Nat} {l:List IN},(∀ l∈Ls,l.length=s)->Ls[i]? =some l->r<s->Ls.flatten[i*s+r]? =l[r]?
 |[],i,_,_,_,h,_=>by cases h
 |x::Ls,0,r,l,h,hi,hr=>by
  cases hi;rw[AAU,AAw,If,zF (by rw[h x yk];exact hr)]
 |x::Ls,i+1,r,l,h,hi,hr=>by
  have hx:=h x yk;rw[AAU,zI (by rw[hx,ABX];omega),hx];have:(i+1)*s+r - s=i*s+r:=by rw[ABX];omega
  rw[this];exact QX (fun y hy=>h y (yj _ hy)) hi hr
theorem Ny{s:Nat}:∀ {Ls:List (List IN)} {i:Nat} {l:List IN} (R:List IN),(∀ l∈Ls,l.length=s)->Ls[i]? =some l->((Ls.flatten++R).drop (i*s)).take s=l
 |[],i,_,_,_,h=>by cases h
 |x::Ls,0,l,R,h,hi=>by
  cases hi;rw[AAw,zr,AAU,zC];exact List.take_left' (h x yk)
 |x::Ls,i+1,l,R,h,hi=>by
  have hx:=h x yk;have:(i+1)*s=s+i*s:=by rw[ABX,AEM]
  rw[this,<- List.drop_drop,AAU,zC,List.drop_left' hx];exact Ny R (fun y hy=>h y (yj _ hy)) hi
def Im(W:zP)(Q:List IN->Prop)(s:Nat)(v:IN)(n:Nat)(Ls:List (List IN)):Prop:=(∀ l∈Ls,l.length=s/\Q l)/\n<=Ls.length/\
 ((v=AFn/\Ls=[])\/(∃ a,v=.slice (some a) 0 0/\Ls=[])\/∃ a,v=.slice (some a) n Ls.length/\0<Ls.length/\a.spot=none/\LE W a Ls.flatten)
theorem L2{H:Type}{enc:TypeId×IN->H}{P:Program}{t e:TypeId}{s:Nat}(ht:P.underlying t=some (.slice e))(hs:P.cellsOf e=s)(h0:0<s){W:zP}{fuel:Nat}{v:IN}{x:DataW H×List MemPlace}{Q:List IN->Prop}
  (dec:∀ (m:Nat) (l:List IN) (y:DataW H×List MemPlace),l.length=s->AAa enc P W 0 (fun _=>true) true m e l=some y->(∀ b off,AAs b off∈y.2->W.frozen? ⟨b,off,none⟩=false)->Q l)
  (hf:AAa enc P W 0 (fun _=>true) true fuel t [v]=some x)(hfz:∀ b off,AAs b off∈x.2->W.frozen? ⟨b,off,none⟩=false):∃ n Ls,Im W Q s v n Ls:=by
 rcases DataW.trod_slice ht hf with ⟨hcs,_⟩|⟨a,n,c,elems,rest,m,_,hcs,hx,_,hl,hm,hlen,hel,hsp,_⟩
 ·have:v=AFn:=by simpa using hcs
  exact⟨0,[],(fun l hl=>by cases hl),IT _,.inl ⟨this,rfl⟩⟩
 ·have:v=.slice (some a) n c:=by simpa using hcs
  subst this;obtain⟨hrl,hr⟩:=hsp rfl;subst hx;rcases Nat.eq_zero_or_pos c with hc|hc
  ·subst hc
   have:n=0:=by omega
   subst this;exact⟨0,[],(fun l hl=>by cases hl),IT _,.inr (.inl ⟨a,rfl,rfl⟩)⟩
  ·have htot:(elems++rest).length=c:=by rw[No];omega
   have each:∀ i,i<c->∃ l:List IN,(l.length=s/\Q l)/\∀ j,j<s->W.cell? ((a.add (i*s)).add j)=l[j]?:=fun i hi=>by
    have hi':i<(elems++rest).length:=by omega
    have hb:(W.cells? 0 (a.add (i*P.cellsOf e)) (P.cellsOf e)).bind (AAa enc P W 0 (fun _=>true) true m e)=some ((elems++rest)[i]'hi'):=by
     rcases zD i n with h4|h4
     ·have:=hel i h4
      rw[this,<- sh hi',zF (by omega)]
     ·have:=hr (i - n) (by omega)
      rw[show n+(i - n)=i by omega]at this;rw[this,<- sh hi',zI (by omega),hlen]
    rw[hs,Option.bind_eq_some_iff]at hb;obtain⟨l,h4,h5⟩:=hb;obtain⟨_,h6,h7⟩:=World.cells?_some h4;exact⟨l,⟨h6,dec m l _ h6 h5 fun b off hm=>hfz b off (zE _ (List.mem_flatMap.2 ⟨_,ABJ hi',hm⟩))⟩,h7⟩
   obtain⟨Ls,hLl,hLs⟩:=Vd c each;have hall:∀ l∈Ls,l.length=s/\Q l:=fun l hl=>by
    obtain⟨i,hi,rfl⟩:=List.mem_iff_getElem.1 hl;exact(hLs i _ (sh hi)).1
   have hls:∀ l∈Ls,l.length=s:=fun l hl=>(hall l hl).1
   have hz:0<Ls.length:=by omega
   have c0:=(hLs 0 _ (sh hz)).2 0 h0;have hl0:0<(Ls[0]'hz).length:=by rw[hls _ (ABJ hz)];exact h0
   rw[sh hl0,AAw]at c0;have c0:W.cell? a=some ((Ls[0]'hz)[0]'hl0):=c0;obtain⟨AKl,cs,tt,fr,hb,_⟩:=ZG c0;obtain⟨ab,ao,spot⟩:=a;simp only at AKl;subst AKl;have hfl:=GX hls;refine⟨n,Ls,hall,by omega,.inr (.inr ⟨⟨ab,ao,none⟩,by rw[hLl],hz,rfl,cT hb (fun j hj=>?_) fun j hj=>hfz ab (ao+j) (List.mem_append_left _ ?_)⟩)⟩
   ·rw[hfl]at hj
    have hi:j/s<Ls.length:=Nat.div_lt_of_lt_mul (by rw[AAP];exact hj);have hr:j % s<s:=Nat.mod_lt _ h0;have e:j/s*s+j % s=j:=by rw[AAP];exact Nat.div_add_mod j s
    have hx:=sh hi;have q:=(hLs _ _ hx).2 _ hr;have g:=QX hls hx hr;rw[e]at g;have hll:j % s<(Ls[j/s]'hi).length:=by rw[hls _ (ABJ hi)];exact hr
    rw[sh hll]at q g;rw[Addr.AGk,Addr.AGk,H8 hb]at q;rw[yf,g];show cs[ao+j]? =some _;have:ao+j/s*s+j % s=ao+j:=by omega
    rw[<- this];exact q
   ·simp only[MemPlace.row,zq,AAM]
    exact⟨j,by rw[hfl]at hj;rw[hs,hlen,hrl,show n+(c - n)=c by omega,<- hLl];exact hj,rfl⟩
theorem WG{φ:Phi}{a:Addr}{n c i m:Nat}(hs:a.spot=none)(hn:n<=c)(hc:0<c)(hm:0<m)(hp:φ i=some (PU a m)):AFm φ (.slice (some ⟨i,0,none⟩) n c) (.slice (some a) n c):=by
 refine .slice hn ⟨rfl,hs,_,hp,rfl,.inl ⟨hc,?_,.inl rfl⟩⟩;show a.off=(if m=0 then 0 else a.off)+0;rw[if_neg (by omega),Nat.add_zero]
theorem Im.rel{W:zP}{Q:List IN->Prop}{s n:Nat}{v:IN}{Ls:List (List IN)}(b:Im W Q s v n Ls)(h0:0<s)(rf:∀ l,Q l->∀ φ,AF3 φ l l)(i:Nat):∃ (u:IN) (q:Option Pl),Yv W Ls.flatten q/\(∀ φ,AF3 φ Ls.flatten Ls.flatten)/\(∀ φ:Phi,φ i=q->AFm φ u v)/\
  ((u=AFn/\Ls=[])\/(u=.chan (some 0)/\Ls=[])\/u=.slice (some ⟨i,0,none⟩) n Ls.length):=by
 obtain⟨h1,h2,h3⟩:=b;have AGK:∀ φ,AF3 φ Ls.flatten Ls.flatten:=fun φ=>by
  clear h2 h3
  induction Ls with
  |nil=>exact .nil
  |cons l Ls ih=>
   rw[AAU];exact(rf l (h1 l yk).2 φ).append (ih fun l hl=>h1 l (yj _ hl))
 rcases h3 with ⟨rfl,rfl⟩|⟨a,rfl,rfl⟩|⟨a,rfl,h4,h5,h6⟩
 ·exact⟨AFn,none,.inl rfl,AGK,fun _ _=>.AGW,.inl ⟨rfl,rfl⟩⟩
 ·have:n=0:=by simpa using h2
  subst this;exact⟨.chan (some 0),none,.inl rfl,AGK,fun _ _=>.AHu,.inr (.inl ⟨rfl,rfl⟩)⟩
 ·have hfl:=GX fun l hl=>(h1 l hl).1
  refine⟨.slice (some ⟨i,0,none⟩) n Ls.length,some (PU a Ls.flatten.length),.inr ⟨a,rfl,h6⟩,AGK,fun φ hφ=>WG h5 h2 h4 (by rw[hfl];exact Nat.mul_pos h4 h0) hφ,.inr (.inr rfl)⟩
def QB(l:List IN):Prop:=∃ x:Nat,l=[bv x]/\x<256
theorem Yx{l:List IN}(h:QB l)(φ:Phi):AF3 φ l l:=by
 obtain⟨x,rfl,_⟩:=h;exact .cons (.int _ _) .nil
theorem RI:∀ xs:List Nat,(xs.map fun x=>[bv x]).flatten=xs.map bv
 |[]=>rfl
 |a::xs=>by rw[List.map_cons,AAU,RI xs];rfl
theorem Nn:∀ {Ls:List (List IN)},(∀ l∈Ls,QB l)->∃ xs:List Nat,Ls=xs.map (fun x=>[bv x])/\∀ x∈xs,x<256
 |[],_=>⟨[],rfl,fun x hx=>by cases hx⟩
 |l::Ls,h=>by
  obtain⟨x,rfl,hx⟩:=h l yk;obtain⟨xs,rfl,hxs⟩:=Nn fun l hl=>h l (yj _ hl)
  exact⟨x::xs,rfl,fun y hy=>by
   rcases yv.1 hy with rfl|hy
   ·exact hx
   ·exact hxs y hy⟩
theorem ZL{W:zP}{v:IN}{n:Nat}{Ls:List (List IN)}(b:Im W QB 1 v n Ls):∃ l:List Nat,(∀ x∈l,x<256)/\∀ (i:Nat) (u:IN),((u=AFn/\Ls=[])\/(u=.chan (some 0)/\Ls=[])\/u=.slice (some ⟨i,0,none⟩) n Ls.length)->∀ h:Hp,h.Row i 0 Ls.flatten->h.VE u (l.map bv):=by
 obtain⟨h1,h2,_⟩:=b;obtain⟨xs,rfl,hxs⟩:=Nn fun l hl=>(h1 l hl).2
 rw[OF]at h2;refine⟨xs.take n,fun x hx=>hxs x (AAN hx),fun i u hu h hr=>?_⟩;rw[RI]at hr;rcases hu with ⟨rfl,hx⟩|⟨rfl,hx⟩|rfl
 ·have:xs=[]:=by simpa using hx
  subst this;exact .inl (.inl ⟨rfl,by simp⟩)
 ·have:xs=[]:=by simpa using hx
  subst this;exact .inr ⟨⟨0,rfl⟩,by simp⟩
 ·have hl:(xs.take n).length=n:=by rw[zJ];omega
  refine .inl (.inr ⟨i,0,(xs.map fun x=>[bv x]).length,0,xs.map bv,?_,hr,?_,?_⟩)
  ·rw[OF,OF,hl]
  ·rw[OF,hl,OF];omega
  ·rw[OF,hl,zr,List.map_take]
structure AD where
 lf:Int
 sq:Int
 op:Nat
 a:Int
 b:Int
 c:Int
 u:IN
def AD.cells(x:AD):List IN:=CP x.lf x.sq x.op x.a x.b x.c x.u
def Yt(W:zP)(x:AD):Prop:=(∃ n Ls,Im W QB 1 x.u n Ls)/\x.op<256
theorem dZ{φ:Phi}{lf sq a b c:Int}{op:Nat}{ui vi:IN}(h1:AFm φ ui vi):AF3 φ (CP lf sq op a b c ui) (CP lf sq op a b c vi):=
 .cons (.int _ _) (.cons (.int _ _) (.cons (.int _ _) (.cons (.int _ _) (.cons (.int _ _) (.cons (.int _ _) (.cons h1 .nil))))))
theorem jt{u:IN}{P Q:Prop}{i n m:Nat}(h:(u=AFn/\P)\/(u=.chan (some 0)/\Q)\/u=.slice (some ⟨i,0,none⟩) n m):oneCell u=true:=by
 rcases h with ⟨rfl,_⟩|⟨rfl,_⟩|rfl<;>rfl
theorem Pu{W:zP}:∀ (xs:List AD),(∀ x∈xs,Yt W x)->∀ k:Nat,∃ (us:List AD) (qs:List (Option Pl)) (Zs:List (List IN)),us.length=xs.length/\qs.length=xs.length/\Zs.length=xs.length/\
  (∀ (i:Nat) (q:Option Pl) (L:List IN),qs[i]? =some q->Zs[i]? =some L->Yv W L q/\∀ φ,AF3 φ L L)/\(∀ φ:Phi,(∀ (i:Nat) (q:Option Pl),qs[i]? =some q->φ (i+k)=q)->AF3 φ (us.flatMap AD.cells) (xs.flatMap AD.cells))/\
  (∀ h:Hp,(∀ (i:Nat) (L:List IN),Zs[i]? =some L->h.Row (i+k) 0 L)->∀ u∈us,∃ l:List Nat,h.VE u.u (l.map bv)/\(∀ x∈l,x<256)/\oneCell u.u=true/\u.op<256)
 |[],_,k=>⟨[],[],[],rfl,rfl,rfl,(fun i q L h=>by cases h),(fun φ _=>.nil),fun h _ x hx=>by cases hx⟩
 |x::xs,hx,k=>by
  obtain⟨us,qs,Zs,l1,l2,l3,h1,h2,h3⟩:=Pu xs (fun y hy=>hx y (yj _ hy)) (k+1);obtain⟨⟨n,LI,bI⟩,hop⟩:=hx x yk;obtain⟨ui,q0,i1,i2,i3,i4⟩:=bI.rel (by omega) (fun l h φ=>Yx h φ) k;obtain⟨lb,hlb,hB⟩:=ZL bI;refine⟨⟨x.lf,x.sq,x.op,x.a,x.b,x.c,ui⟩::us,q0::qs,LI.flatten::Zs,by rw[yh,yh,l1],by rw[yh,yh,l2],by rw[yh,yh,l3],fun i q' L e1 e2=>?_,fun φ hφ=>?_,fun h hr y hy=>?_⟩
  ·match i,e1,e2 with
   |0,e1,e2=>cases e1;cases e2;exact⟨i1,i2⟩
   |i+1,e1,e2=>exact h1 i q' L e1 e2
  ·rw[AD1,AD1]
   refine(dZ (i3 φ (by have:=hφ 0 q0 rfl;rwa [If]at this))).append (h2 φ fun i q' e=>?_);have:=hφ (i+1) q' e
   rwa [show i+1+k=i+(k+1)by omega]at this
  ·rcases yv.1 hy with rfl|hy
   ·exact⟨lb,hB k ui i4 h (by have:=hr 0 _ rfl;rwa [If]at this),hlb,jt i4,hop⟩
   ·refine h3 h (fun i L e=>?_) y hy
    have:=hr (i+1) L e
    rwa [show i+1+k=i+(k+1)by omega]at this
theorem WU(φ:Phi):∀ L:List IN,AF3 φ (yp L.length (ACK none)) L
 |[]=>.nil
 |_::L=>.cons .unk (WU φ L)
def Yw(W:zP)(φ:Phi)(L:List IN)(q:Option Pl):Prop:=q=none\/∃ a L',q=some (PU a L.length)/\LE W a L'/\AF3 φ L L'
theorem Yv.AJ1{W:zP}{φ:Phi}{L:List IN}{q:Option Pl}(h:Yv W L q)(r:AF3 φ L L):Yw W φ L q:=by
 rcases h with h|⟨a,ha,hr⟩
 ·exact .inl h
 ·exact .inr ⟨a,L,ha,hr,r⟩
theorem cU{W:zP}{ty:TTy}{ps:List (Option Pl)}{Ls:List (List IN)}(AFs:Ls.length<=256)(hlen:ps.length=Ls.length)
  (h:∀ (i:Nat) (q:Option Pl) (L:List IN),ps[i]? =some q->Ls[i]? =some L->Yw W (Mi ps) L q):AFp ty (Mi ps) nil (inH Ls) W:=
 rh AFs fun i p e=>by
  have e:(ps[i]?).getD none=some p:=e;cases hq:ps[i]? with
  |none=>rw[hq]at e;cases e
  |some q=>
   rw[hq]at e;have e:q=some p:=e;subst e;have hi:=(zG.1 hq).1;have hL:=sh (l:=Ls) (i:=i) (by omega);rcases h i _ _ hq hL with h|⟨a,L',ha,hr,hrl⟩
   ·cases h
   ·obtain rfl:=Option.some.inj ha
    exact⟨a,_,rfl,hL,hr.lt,cF hr hrl⟩
theorem H5(xs:List AD):xs.flatMap AD.cells=(xs.map AD.cells).flatten:=by rw[List.flatMap_def]
theorem da{W:zP}{v:IN}{n:Nat}{Ls:List (List IN)}(b:Im W (fun l=>∃ x:AD,l=x.cells/\Yt W x) 7 v n Ls)(i k cap:Nat):
  ∃ (u:IN) (q:Option Pl) (L0:List IN) (qs:List (Option Pl)) (Zs:List (List IN)),qs.length=min n cap/\Zs.length=min n cap/\
  (∀ φ:Phi,φ i=q->(∀ (j:Nat) (q':Option Pl),qs[j]? =some q'->φ (j+k)=q')->Yw W φ L0 q/\AFm φ u v)/\(∀ (j:Nat) (q':Option Pl) (L:List IN),qs[j]? =some q'->Zs[j]? =some L->Yv W L q'/\∀ φ,AF3 φ L L)/\
  (∀ h:Hp,h.Wf->h.Row i 0 L0->(∀ (j:Nat) (L:List IN),Zs[j]? =some L->h.Row (j+k) 0 L)->AJ0 h u n cap):=by
 obtain⟨h1,h2,h3⟩:=b;rcases h3 with ⟨rfl,rfl⟩|⟨a,rfl,rfl⟩|⟨a,rfl,h4,h5,h6⟩
 ·have:n=0:=by simpa using h2
  subst this;exact⟨AFn,none,[],[],[],by simp,by simp,fun φ _ _=>⟨.inl rfl,.AGW⟩,(fun j q' L h=>by cases h),fun h _ _ _=>⟨fun g=>rfl,fun i hi=>absurd hi (ABs _)⟩⟩
 ·have:n=0:=by simpa using h2
  subst this;exact⟨.chan (some 0),none,[],[],[],by simp,by simp,fun φ _ _=>⟨.inl rfl,.AHu⟩,(fun j q' L h=>by cases h),fun h _ _ _=>⟨fun g=>rfl,fun i hi=>absurd hi (ABs _)⟩⟩
 ·obtain⟨xs,hxs⟩:∃ xs:List AD,Ls=xs.map AD.cells/\∀ x∈xs,Yt W x:=by
   clear h2 h4 h5 h6
   induction Ls with
   |nil=>exact⟨[],rfl,fun x hx=>by cases hx⟩
   |cons l Ls ih=>
    obtain⟨_,x,rfl,hx⟩:=h1 l yk;obtain⟨xs,rfl,hxs⟩:=ih fun l hl=>h1 l (yj _ hl)
    exact⟨x::xs,rfl,fun y hy=>by
     rcases yv.1 hy with rfl|hy
     ·exact hx
     ·exact hxs y hy⟩
  obtain⟨rfl,hok⟩:=hxs;rw[OF]at h2 h4;have hml:(xs.take (min n cap)).length=min n cap:=by rw[zJ];omega
  obtain⟨us,qs,Zs,l1,l2,l3,r1,r2,r3⟩:=Pu (xs.take (min n cap)) (fun x hx=>hok x (AAN hx)) k;have hsplit:(xs.map AD.cells).flatten=(xs.take (min n cap)).flatMap AD.cells++(xs.drop (min n cap)).flatMap AD.cells:=by
   rw[<- H5,<- ADi,List.take_append_drop]
  have hcl:∀ (ys:List AD),∀ l∈ys.map AD.cells,l.length=7:=fun ys l hl=>by
   obtain⟨x,_,rfl⟩:=zq.1 hl;rfl
  have ul:(us.flatMap AD.cells).length=(xs.take (min n cap)).length*7:=by rw[H5,GX (hcl us),OF,l1]
  have vl:((xs.take (min n cap)).flatMap AD.cells).length=(xs.take (min n cap)).length*7:=by rw[H5,GX (hcl _),OF]
  have AJ2:(us.flatMap AD.cells++yp ((xs.drop (min n cap)).flatMap AD.cells).length (ACK none)).length=(xs.map AD.cells).flatten.length:=by
   rw[hsplit,No,No,AAH,ul,vl]
  have hpos:0<(xs.map AD.cells).flatten.length:=by rw[GX (hcl xs),OF];omega
  refine⟨.slice (some ⟨i,0,none⟩) n (xs.map AD.cells).length,some (PU a (xs.map AD.cells).flatten.length),us.flatMap AD.cells++yp ((xs.drop (min n cap)).flatMap AD.cells).length (ACK none),qs,Zs,by rw[l2,hml],by rw[l3,hml],fun φ hφ hq=>⟨.inr ⟨a,(xs.map AD.cells).flatten,by rw[AJ2],h6,?_⟩,WG h5 (by rw[OF];exact h2) (by rw[OF];exact h4) hpos hφ⟩,r1,fun h Wh hrow AJ3=>⟨fun g=>D7,fun j hj AMM=>?_⟩⟩
  ·rw[hsplit]
   exact(r2 φ hq).append (WU φ _)
  ·have hju:j<us.length:=by rw[l1,hml];omega
   have hx:us[j]? =some (us[j]'hju):=sh hju;obtain⟨lb,hB,hlb,ou,ow⟩:=r3 h AJ3 _ (ABJ hju);refine⟨i,⟨(us[j]'hju).lf,(us[j]'hju).sq,(us[j]'hju).op,(us[j]'hju).a,(us[j]'hju).b,(us[j]'hju).c,(us[j]'hju).u,lb⟩,fun g xg=>?_,hB,hlb,ou,ow⟩;have hm:(us.map AD.cells)[j]? =some (us[j]'hju).cells:=by rw[List.getElem?_map,hx];rfl
   have hd:=Ny (yp ((xs.drop (min n cap)).flatMap AD.cells).length (ACK none)) (hcl us) hm;rw[<- H5]at hd;refine⟨?_,?_,?_⟩
   ·have:=DB (h:=g) (n:=n) (c:=(xs.map AD.cells).length) (es:=7) (b:=i) (off:=0) (k:=.i64) hj
    rwa [If]at this
   ·rw[(hrow.ext Wh xg).loadN (by rw[No,ul];omega),hd];rfl
   ·rw[(hrow.ext Wh xg).AFk (by rw[No,ul];omega)]
    have h5:((us.flatMap AD.cells++yp ((xs.drop (min n cap)).flatMap AD.cells).length (ACK none)).drop (j*7)).take 7=(us[j]'hju).cells:=hd;have h6:=congrArg (fun l=>l[6]?) h5;simp only[List.getElem?_take,List.getElem?_drop]at h6;rw[if_pos (by omega)]at h6;rw[yf,h6];rfl
end
noncomputable section
open Go
set_option maxRecDepth 100000
section
variable {x y:Kt}{a b c:Int}
def LtC(x y:Kc):Prop:=x.a<y.a\/(x.a=y.a/\(x.b<y.b\/(x.b=y.b/\(x.c<y.c\/(x.c=y.c/\x.p<y.p)))))
def LtK(x y:Kt):Prop:=LtC x.core y.core
end
end
noncomputable section
open Go
set_option maxRecDepth 100000
def Hld(v:Int)(bs:List Nat)(ks:List Kt):Prop:=∃ k∈ks,k.a=3/\k.b=1/\k.c=v/\k.s=2/\k.l=bs
section
variable {T M M':List Nat}{ks ks':List Kt}{fr fr':List Nat}{a b c z v:Int}{l bs:List Nat}{op:Nat}
theorem sU{k:Kt}(h:k.a=a/\k.b=b/\k.s=2):HO a b k=true:=by
 unfold HO;rw[decide_eq_true h.1,decide_eq_true h.2.1,decide_eq_true h.2.2];rfl
theorem bD{k:Kt}(h:HO a b k=true):k.a=a/\k.b=b/\k.s=2:=by
 unfold HO at h;simp only[yr,decide_eq_true_eq]at h;exact⟨h.1.1,h.1.2,h.2⟩
theorem Hld.now(H:Hld v bs ks)(hc:Com ks):∃ y,ks.find? (HO 3 1)=some y/\y.c=v:=by
 obtain⟨k,hk,ka,kb,kc,s2,kl⟩:=H;cases hf:ks.find? (HO 3 1)with
 |none=>exact absurd (sU ⟨ka,kb,s2⟩) (ABg.1 hf k hk)
 |some y=>
  have hy:=List.mem_of_find?_eq_some hf;obtain⟨ya,yb,ys⟩:=bD (List.find?_some hf);have h1:=hc k hk y hy (ya.trans ka.symm) (yb.trans kb.symm) ys;have h2:=hc y hy k hk (ka.trans ya.symm) (kb.trans yb.symm) s2;exact⟨y,rfl,by omega⟩
theorem Hld.stale(H:Hld v bs ks)(hc:Com ks):CA 3 1 c ks=decide (c<=v):=by
 obtain⟨y,hf,hy⟩:=H.now hc;unfold CA;rw[hf];show decide (c<=y.c)=_;rw[hy]
theorem X6(H:Hld v bs ks)(hc:Com ks)(h12:op=1\/op=2->c<=v)(h6:op≠1->op≠2->op≠3->c<v)(t:Pn T M ks fr (kdO op) 3 1 c l M' ks' fr'):Hld v bs ks':=by
 have hst:=H.stale (c:=c) hc;obtain⟨k,hk,ka,kb,kc,s2,kl⟩:=H;have k1:I5 (kdO op)->op=1:=fun h=>by
  unfold I5 kdO at h;split at h
  ·assumption
  ·split at h
   ·omega
   ·split at h<;>omega
 have k2:kdO op=5\/kdO op=6->op=2:=fun h=>by
  unfold kdO at h;split at h
  ·omega
  ·split at h
   ·assumption
   ·split at h<;>omega
 have k3:kdO op=7->op=3:=fun h=>by
  unfold kdO at h;split at h
  ·omega
  ·split at h
   ·omega
   ·split at h
    ·assumption
    ·omega
 have k4:kdO op=8->op≠1/\op≠2/\op≠3:=fun h=>by
  unfold kdO at h;split at h
  ·omega
  ·split at h
   ·omega
   ·split at h
    ·omega
    ·exact⟨by assumption,by assumption,by assumption⟩
 rcases t with ⟨hp,he,_⟩|⟨hp,j,kx,hj,AGw,st,_⟩|⟨hp,j,kx,hj,⟨xa,xb,xc⟩,st,rfl,_⟩|⟨hp,rfl,_⟩
 ·have:=h12 (.inl (k1 hp))
  rw[decide_eq_true this]at hst;unfold Fk at he;split at he
  ·cases he
  ·split at he
   ·split at he<;>cases he
   ·first|(cases he;done)|(rw[hst,if_pos rfl]at he;cases he)
 ·have:=h12 (.inr (k2 hp))
  rw[hst,decide_eq_true this]at st;cases st
 ·have hcv:¬ c<=v:=fun h=>by
   rw[hst,decide_eq_true h]at st;cases st
  refine⟨k,?_,ka,kb,kc,s2,kl⟩;rw[<- List.eraseIdx_eq_take_drop_succ];obtain⟨i,hi⟩:=List.mem_iff_getElem?.1 hk;refine List.mem_eraseIdx_iff_getElem?.2 ⟨i,fun e=>?_,hi⟩;subst e;rw[hj]at hi;cases hi;omega
 ·obtain⟨n1,n2,n3⟩:=k4 hp
  have hlt:=h6 n1 n2 n3;refine⟨k,zQ.2 ⟨hk,?_⟩,ka,kb,kc,s2,kl⟩;unfold drB;rw[decide_eq_false (show ¬ k.c<=c by omega),ABk];rfl
theorem ac{iv bw:IN}{g:Hp}{i:Nat}(H:Hld v bs ks)(hc:Com ks)(h12:op=1\/op=2->c<=v)(h6:op=6->c<v)(o6:op<=6/\1<=op)(q:Rdn T ks fr op 3 1 c l i g z iv bw ks' fr'):Hld v bs ks':=by
 rcases q with ⟨n4,n5,_,_,l',_,s⟩|⟨rfl,_⟩
 ·rcases s with ⟨_,rfl,_⟩|⟨_,M,M',t⟩
  ·exact H
  ·exact X6 H hc h12 (fun n1 n2 n3=>h6 (by omega)) t
 ·exact H
theorem Hld.core{ks0:List Kt}(H:Hld v bs ks)(pm:(ks0.map Kt.core).Perm (ks.map Kt.core)):Hld v bs ks0:=by
 obtain⟨x,hx,x1,x2,x3,x4,x5⟩:=H;obtain⟨w,hw,ew⟩:=D4 pm.symm hx;obtain⟨w1,w2,w3,w4,w5,_⟩:=Ew ew;exact⟨w,hw,w1.trans x1,w2.trans x2,w3.trans x3,w4.trans x4,w5.trans x5⟩
theorem X4{iv bw:IN}{g:Hp}{i:Nat}(hv:1<=v/\v<=1099511627776)(hl:bs.length<=100)(hf:fr≠[])(q:Rdn T [] fr 1 3 1 v bs i g z iv bw ks' fr'):z=0/\∃ k,ks'=[k]/\k.a=3/\k.b=1/\k.c=v/\k.s=1/\k.l=bs:=by
 have hr:AFx 3 1 v 1 bs.length=true:=decide_eq_true ⟨by omega,by omega,by omega,by omega,hv.1,hv.2,.inl rfl,by omega⟩;have he:Fk [] fr.length 3 1 v bs=none:=by
  unfold Fk;rw[if_neg (by rw[hr];rintro (h|h);cases h;omega)];show(if CA 3 1 v []=true then some 61 else if fr.length=0 then some 62 else none)=none;rw[if_neg (show ¬ CA 3 1 v []=true by show ¬ (false=true);decide),if_neg (fun h=>hf (List.length_eq_zero_iff.1 h))]
 rcases q with ⟨_,_,_,_,l',hl',s⟩|⟨_,_,⟨h,_⟩|⟨h,_⟩⟩
 ·obtain rfl:=hl' rfl
  have s:Stp T [] fr 1 3 1 v l' z ks' fr':=s;rcases s with ⟨q,_⟩|⟨hz,M,M',t⟩
  ·rcases q with ⟨_,e⟩|⟨h,_⟩|⟨h,_⟩|⟨h,_⟩|⟨h,_⟩
   ·rw[he]at e;cases e
   ·omega
   ·omega
   ·omega
   ·exact absurd (.inl rfl) h
  ·rcases t with ⟨_,_,p,k',_,h1,h2,_⟩|⟨h,_⟩|⟨h,_⟩|⟨h,_⟩
   ·refine⟨hz,k',?_,congrArg Kc.a h2,congrArg Kc.b h2,congrArg Kc.c h2,congrArg Kc.s h2,congrArg Kc.l h2⟩
    rw[h1];exact List.perm_singleton.1 (G6 _)
   ·omega
   ·omega
   ·omega
 ·omega
 ·omega
theorem X2{iv bw:IN}{g:Hp}{i:Nat}{k:Kt}(hk:k.a=3/\k.b=1/\k.c=v/\k.s=1/\k.l=bs)(q:Rdn T [k] fr 2 3 1 v l i g z iv bw ks' fr'):z=0/\Hld v bs ks':=by
 obtain⟨ka,kb,kc,s1,kl⟩:=hk;have hst:CA 3 1 v [k]=false:=by
  have:[k].find? (HO 3 1)=none:=ABg.2 fun x hx h=>by
   rw[zB.1 hx]at h;have:=(bD h).2.2;omega
  unfold CA;rw[this]
 have hfd:[k].find? (Bo 3 1 v)=some k:=List.find?_cons_of_pos (by unfold Bo;rw[decide_eq_true ka,decide_eq_true kb,decide_eq_true kc];rfl);rcases q with ⟨_,_,_,_,l',_,s⟩|⟨_,_,⟨h,_⟩|⟨h,_⟩⟩
 ·have s:Stp T [k] fr 5 3 1 v l' z ks' fr':=s
  rcases s with ⟨q,_⟩|⟨hz,M,M',t⟩
  ·rcases q with ⟨h,_⟩|⟨_,e⟩|⟨h,_⟩|⟨h,_⟩|⟨_,h,_⟩
   ·unfold I5 at h;omega
   ·unfold Ie at e
    rw[hfd]at e;simp only at e;rw[if_neg (by omega),hst,if_neg (by decide)]at e;cases e
   ·omega
   ·omega
   ·omega
  ·rcases t with ⟨h,_⟩|⟨_,j,kx,hj,AGw,st,h1,_⟩|⟨h,_⟩|⟨h,_⟩
   ·unfold I5 at h;omega
   ·have hj0:j=0:=by
     have:=(zG.1 hj).1;have:j<1:=this;omega
    subst hj0;have hj:some k=some kx:=hj;cases hj;refine⟨hz,{k with s:=2},?_,ka,kb,kc,rfl,kl⟩;rw[h1];refine zQ.2 ⟨yk,?_⟩;unfold elB;rw[show decide (({k with s:=2}:Kt).c<v)=false from decide_eq_false (by show ¬ k.c<v;omega),ABk];rfl
   ·omega
   ·omega
 ·omega
 ·omega
theorem Xs(H:Hld v bs ks)(hn:(ks.map Kt.key).Nodup):∃ k,ks.find? (Bo 3 1 v)=some k/\k.s=2/\k.l=bs:=by
 obtain⟨k,hk,ka,kb,kc,s2,kl⟩:=H;exact⟨k,Ma hn hk (by unfold Kt.key;rw[ka,kb,kc]),s2,kl⟩
end
end
noncomputable section
open Go
set_option maxRecDepth 100000
theorem yA:kZ.zero=[.pointer none,.pointer none,.pointer none,AI AT 0]:=by kernel_rfl
section
variable {F:AFi}{e:Env}{h h':Hp}{T:List Nat}{c0 m k n nb r bd bm bc bs tb:Nat}{a b z:Int}{lv fv:IN}{x:Kt}
theorem wC:uB [] [0,1,2,3,4,5,6,7]:=⟨List.nodup_nil,.refl _⟩
theorem wH:Med T jA [] [0,1,2,3,4,5,6,7]:=by
 refine⟨AAH,fun k hk=>(by cases hk),fun k hk=>(by cases hk),fun p _ r _=>Ri,fun k hk=>(by cases hk),fun p hp=>?_⟩;simp only[yv,List.not_mem_nil,or_false]at hp;omega
theorem bE(hn:1<=z/\z<=2199023255552):∃ r,call AC (m+1) 14 [AI AT a,AI AT z] h=.ok (AI AT r) h/\0<=r/\r<z:=by
 have c1:iLe z 0=false:=Jg (by omega);have r1:Tc .i64 (AI AT a) (AI AT z) h=.ok (AI AT (a.tmod z)) h:=Lz (by omega);have b1:a.tmod z<z:=Int.tmod_lt_of_pos a (by omega);have b2: - z<a.tmod z:=Int.lt_tmod_of_pos a (by omega);rw[pB rfl];unfold d14;by_cases hneg:a.tmod z<0
 ·have c2:iLt (a.tmod z) 0=true:=Hd hneg
  have a3:Ez .i64 (AI AT (a.tmod z)) (AI AT z) h=.ok (AI AT (((a.tmod z+z).toNat:Nat):Int)) h:=by
   rw[Dq,show a.tmod z+z=(((a.tmod z+z).toNat:Nat):Int)by omega,Bf (by omega)];rfl
  refine⟨((a.tmod z+z).toNat:Nat),?_,Int.natCast_nonneg _,by omega⟩;simp only[iN,IS,sT,By,BY,reduceIte,AK,AJ,c1,IO,r1,c2,BM,a3,lV0]
 ·have c2:iLt (a.tmod z) 0=false:=Fb hneg
  refine⟨a.tmod z,?_,by omega,b1⟩;simp only[iN,IS,sT,By,BY,reduceIte,AK,AJ,c1,IO,r1,c2,lV0]
theorem ZI{g1 g2 g3:O}(h1:g1 e=pt bd)(h2:g2 e=pt tb)(h3:g3 e=pt bs):BK kZ.zero [(0,1,g1),(1,1,g2),(2,1,g3)] F e h=.ok (.agg ⟨AF9 bd tb bs 0⟩) h:=by
 rw[CS,yA,Af (hk:=by rw[h1];rfl),h1,Af (hk:=by rw[h2];rfl),h2,Af (hk:=by rw[h3];rfl),h3];rfl
theorem YW(W:h.Wf)(Rt:h.Row tb 0 (T.map wv))(hT:AGc T):
  ∃ h' bs bd bm bc nb,call AC (m+10) 9 [pt tb] h=.ok (.tuple ⟨[pt bd,pt nb,.bool true]⟩) h'/\h.Ext h'/\UpX (fun b=>b=nb) h' ⟨bs,bd,bm,bc,tb,24⟩ T [] [0,1,2,3,4,5,6,7] k/\h'.Row nb 0 (AF9 bd tb bs 0)/\(∀ b,At.D ⟨bs,bd,bm,bc,tb,24⟩ b->h.next<=b/\b<nb)/\h.next<=nb:=by
 obtain⟨h1,bd,bm,bc,k1,x1,d,l1,l2,l3⟩:=iF (m:=m+8) (n:=24) W (by omega);have htb:=Rt.lt W;have d:Dk h1 bd bm bc 24 jA 0 [] (-1) false:=d;obtain⟨h2,bs,c1,AGB,lv,fv,ks3,k2,f2,s2,pm,l4,ha⟩:=RK (m:=m) (k:=k) x1.wf d (Rt.ext W x1) hT ⟨by omega,by omega,by omega⟩ wC (wH (T:=T)) (fun x hx=>by cases hx) (vk _);have hk:ks3=[]:=ABU.1 (List.perm_nil.1 pm);subst hk;have s2:Sl h2 ⟨bs,bd,bm,bc,tb,24⟩ T jA c1 AGB [] [0,1,2,3,4,5,6,7] lv fv 0 false:=s2;have k2:call AC (m+8) 47 [pt bd,pt tb,AI AT 100] h1=.ok (.tuple ⟨[pt bs,AI AT 0]⟩) h2:=k2;have k1:call AC (m+9) 30 [AI AT 24] h=.ok (.tuple ⟨[pt bd,AI AT 0]⟩) h1:=k1;have x2:h.Ext h2:=Fx.ALu x1 f2 fun b hb=>by rcases hb with rfl|rfl|rfl<;>assumption
 have W2:=x2.wf;have hn1:=x1.next;have c0:iEq 0 0=true:=Cb rfl;have c00:iNe 0 0=false:=CH rfl;have y3:=(Hp.Ext.refl W2).AFh 0 (AF9 bd tb bs 0);have R3:=Hp.Row.new W2 0 (AF9 bd tb bs 0);have k3:call AC (m+9) 21 [pt bd,pt tb,AI AT 100] h1=.ok (.tuple ⟨[pt h2.next,AI AT 0]⟩) (h2.AFh 0 (AF9 bd tb bs 0)):=by
  have bn:=fun (F:AFi) (e:Env) (e1:J 0 e=pt bd) (e2:J 1 e=pt tb) (e3:J 8 e=pt bs)=>ZI (F:=F) (h:=h2) e1 e2 e3
  have bx:=fun (F:AFi) (e:Env) (he:J 23 e=.agg ⟨AF9 bd tb bs 0⟩)=>(show Ce (J 23) F e h2=.ok (pt h2.next) (h2.AFh 0 (AF9 bd tb bs 0))by rw[EF,he,EC W2];rfl)
  rw[ZQ rfl];unfold d21;simp only[iN,IS,sT,By,BY,reduceIte,cA0,k2,A7,BC,BE,AK,AJ,c00,bn,bx,BI,DH]
 have D2:=s2.AHz W2;have s3:=s2.ext W2 y3;refine⟨_,bs,bd,bm,bc,h2.next,?_,x2.trans y3,⟨⟨jA,c1,AGB,lv,fv,s3,wC,wH,fun x hx=>(by cases hx),ha⟩,fun x hx=>(by cases hx)⟩,R3,fun b hb=>⟨?_,D2 b hb⟩,x2.next⟩
 ·rw[vu rfl]
  unfold d9;simp only[iN,IS,sT,By,BY,reduceIte,gD,cA0,k1,A7,BC,BE,k3,AK,AJ,c0,BI,Mb]
 ·rcases hb with h1|h1|h1|h1<;>rw[h1]
  ·exact zO hn1 l4
  ·exact l1
  ·exact l2
  ·exact l3
end
end
noncomputable section
open Go
set_option maxRecDepth 100000
theorem qU:crS=BL (Ae 0 (A9 crB)) crE:=rfl
theorem qY:d20=gv:=rfl
section
variable {F:AFi}{e:Env}{h h':Hp}{S X:Nat->Prop}{A:At}{T M:List Nat}{c0 bad m k n nb r np:Nat}{arm:Int}{ks ks3:List Kt}{fr l:List Nat}{v lv fv u:IN}{ov:Bool}
theorem Xc(W:h.Wf)(s:Sl h A T M c0 arm ks fr lv fv bad ov):
  ∃ h' c1,call AC (m+3) 20 [pt A.bd,AFn] h=.ok AFl h'/\Fx (fun b=>b=A.bd\/b=A.bm\/b=A.bc) h h'/\Dk h' A.bd A.bm A.bc A.n M c1 [] (-1) false:=by
 have d:=s.dk;have k1:=Jp (m:=m+1) d;obtain⟨h1,k2,x1⟩:=XZ (m:=m) W s;have d1:=d.ext W x1;have W1:=x1.wf;have ln:AGQ AFn h1=.ok (AI AT ((0:Nat):Int)) h1:=rfl;have c1:=DJ (IT 0);obtain⟨e1,p1,s0,s10,s11⟩:∃ e1,gv (call AC (m+2)) (AS e0 0 [pt A.bd,AFn]) h=crS (call AC (m+2)) e1 h1/\J 0 e1=pt A.bd/\J 10 e1=AI AT ((0:Nat):Int)/\J 11 e1=AI AT ((0:Nat):Int):=by
  unfold gv;simp only[iN,IS,sT,By,BY,reduceIte,cA0,k1,k2,Ah,ln];exact⟨_,rfl,by simp[AG]⟩
 have run:∃ e',A9 crB (call AC (m+2)) e1 h1=.exit 0 e' h1/\J 0 e'=pt A.bd:=by
  refine Bh (I:=fun i e' h'=>h'=h1/\J 0 e'=pt A.bd/\J 10 e'=AI AT ((0:Nat):Int)/\J 11 e'=AI AT ((0:Nat):Int)) (Q:=fun x=>∃ e',x=.exit 0 e' h1/\J 0 e'=pt A.bd) 0 (by omega) (fun i e' h' ⟨hh,t0,t10,t11⟩=>?_) ⟨rfl,s0,s10,s11⟩;subst hh;right;obtain⟨e2,r1,r2⟩:∃ e2,crB (call AC (m+2)) e' h'=.exit 0 e2 h'/\J 0 e2=pt A.bd:=by
   unfold crB;simp only[sT,By,BY,reduceIte,AK,AJ,t11,t10,c1];exact⟨_,rfl,by simp[AG,t0]⟩
  rw[r1];exact⟨rfl,e2,rfl,r2⟩
 obtain⟨e2,r1,t0⟩:=run;obtain⟨_,l1,_,_⟩:=DA d1.disk;have hlt:=d1.lt W1;have cl:∀ (F:AFi) (e:Env),J 42 e=.map (some A.bc)->Dv (J 42) F e h1=.ok AFl (h1.put A.bc (.map [] (c0+0))):=fun F e he=>by
  have hen:Bk h1 A.bc=.ok (AF0 c0 []) (c0+0):=by unfold Bk;rw[d1.map];rfl
  unfold Dv;rw[he];simp only[hen];rw[Dw W1 d.big.2.2 hlt.2.2];rfl
 have f3:=Fx.put (S:=fun b=>b=A.bc) W1 hlt.2.2 rfl (.map [] (c0+0));have P3:=W1.AGF hlt.2.2 (.map [] (c0+0));generalize h1.put A.bc (.map [] (c0+0))=h3 at cl f3 P3;have R3:=f3.row W1 d1.disk d1.bdc;obtain⟨h4,st4,R4,n4,f4,_⟩:=Dt (v:=.bool false) f3.wf R3 (off:=3) (show 3<4 by omega) d.big.1 rfl rfl;have R4:h4.Row A.bd 0 (dkL A.bm A.bc A.n arm false):=R4;obtain⟨h5,st5,R5,n5,f5,_⟩:=Dt (v:=AI AT (-1)) f4.wf R4 (off:=2) (show 2<4 by omega) d.big.1 rfl rfl;have R5:h5.Row A.bd 0 (dkL A.bm A.bc A.n (-1) false):=R5;have f35:Fx (fun b=>b=A.bd) h3 h5:=f4.trans f5;have n3:=f3.next;refine⟨h5,c0+0,?_,((Fx.of x1).trans (f3.mono fun b hb=>.inr (.inr hb))).trans (f35.mono fun b hb=>.inl hb),⟨R5,f35.row f3.wf (f3.row W1 d1.med d1.bmc) (fun h=>d1.bdm h.symm),d1.len,d1.byt,?_,d1.big,d1.n1⟩⟩
 ·rw[pE rfl,qY,p1,qU]
  simp only[BJ,Az,r1,BD,BA];unfold crE;simp only[sT,By,BY,reduceIte,Ax,t0,Al,AH,AN,If,AM,AP,l1,cl,AX,st4,st5,EH,D6]
 ·rw[f35.get _ (by omega) (fun h=>d1.bdc h.symm),P3,if_pos rfl];rfl
theorem Xp(hn:(ks.map Kt.plc).Nodup)(hp:∀ k∈ks,k.p<np):(ks.map Kt.plc++AGh ks np).Perm (zu np):=by
 refine(List.perm_ext_iff_of_nodup (ABI.2 ⟨hn,ABG.filter _,fun y hy x hx e=>?_⟩) ABG).2 fun p=>?_
 ·subst e
  obtain⟨k,hk,rfl⟩:=zq.1 hy;have h2:=(zQ.1 hx).2;rw[show(ks.any fun z=>decide (z.p=k.plc))=true from AED.2 ⟨k,hk,decide_eq_true rfl⟩]at h2;cases h2
 ·rw[zK,AAM]
  refine⟨fun h=>?_,fun h=>?_⟩
  ·rcases h with h|h
   ·obtain⟨k,hk,rfl⟩:=zq.1 h
    exact hp k hk
   ·exact AAM.1 (zQ.1 h).1
  ·cases hq:ks.any fun z=>decide (z.p=p)
   ·exact .inr (zQ.2 ⟨AAM.2 h,by rw[hq];rfl⟩)
   ·obtain⟨k,hk,e⟩:=AED.1 hq
    exact .inl (zq.2 ⟨k,hk,of_decide_eq_true e⟩)
theorem Wc(i:AGy np ks fr)(md:AHA np T M ks fr)(hc:Com ks)(pm:(ks3.map Kt.core).Perm (ks.map Kt.core)):AGy np ks3 (AGh ks3 np)/\AHA np T M ks3 (AGh ks3 np)/\Com ks3:=by
 have e1:∀ l:List Kt,l.map Kt.key=(l.map Kt.core).map fun c=>(c.a,c.b,c.c):=fun l=>by rw[ABc];rfl
 have e2:∀ l:List Kt,l.map Kt.plc=(l.map Kt.core).map Kc.p:=fun l=>by rw[ABc];rfl
 have hk:(ks3.map Kt.key).Nodup:=by rw[e1];exact(pm.map _).nodup_iff.2 (e1 ks ▸ i.key)
 have hpp:(ks3.map Kt.plc).Perm (ks.map Kt.plc):=by rw[e2,e2];exact pm.map _
 have hn3:(ks3.map Kt.plc).Nodup:=hpp.nodup_iff.2 i.nd;have hlt:∀ k∈ks3,k.p<np:=fun k hk=>by
  obtain⟨y,hy,e⟩:=D4 pm hk;have:=i.lt y hy;have:=(Ew e).2.2.2.2.2;omega
 have fp:=Xp hn3 hlt;have hfr:∀ p∈AGh ks3 np,p∈fr:=fun p hp=>by
  have h1:p∈zu np:=fp.mem_iff.1 (zE _ hp);rcases zK.1 (i.plc.mem_iff.2 h1)with h2|h2
  ·exact absurd rfl ((ABI.1 (fp.nodup_iff.2 ABG)).2.2 p (hpp.mem_iff.2 h2) p hp)
  ·exact h2
 refine⟨⟨hk,fp⟩,⟨md.len,fun k hk=>?_,fun k hk=>?_,fun p hp=>md.bl p (hfr p hp),fun k hk=>?_,fun p hp=>md.pl p (hfr p hp)⟩,fun x hx y hy h1 h2 h3=>?_⟩
 ·obtain⟨y,hy,e⟩:=D4 pm hk
  obtain⟨w1,w2,w3,w4,w5,w6⟩:=Ew e;rw[<- w1,<- w2,<- w3,<- w4,<- w5,<- w6];exact md.hd y hy
 ·obtain⟨y,hy,e⟩:=D4 pm hk
  obtain⟨w1,w2,w3,w4,w5,w6⟩:=Ew e;rw[<- w5,<- w6];exact md.dt y hy
 ·obtain⟨y,hy,e⟩:=D4 pm hk
  obtain⟨w1,w2,w3,w4,w5,w6⟩:=Ew e;rw[<- w1,<- w2,<- w3,<- w4,<- w5];exact md.rs y hy
 ·obtain⟨x',hx',ex⟩:=D4 pm hx
  obtain⟨y',hy',ey⟩:=D4 pm hy;obtain⟨w1,w2,w3,_⟩:=Ew ex;obtain⟨z1,z2,z3,z4,_⟩:=Ew ey;have:=hc x' hx' y' hy' (z1.trans (h1.trans w1.symm)) (z2.trans (h2.trans w2.symm)) (z4.trans h3);omega
theorem Ya(W:h.Wf)(hA:A.n=24)(U:UpX X h A T ks fr 0):
  ∃ h1 h' bs nb ks3,call AC (m+9) 20 [pt A.bd,AFn] h=.ok AFl h1/\call AC (m+9) 21 [pt A.bd,pt A.tb,AI AT 100] h1=.ok (.tuple ⟨[pt nb,AI AT 0]⟩) h'/\Fx (fun b=>b=A.bd\/b=A.bm\/b=A.bc) h h'/\
   UpX (fun b=>b=nb) h' ⟨bs,A.bd,A.bm,A.bc,A.tb,24⟩ T ks3 (AGh ks3 8) k/\(ks3.map Kt.core).Perm (ks.map Kt.core)/\h'.Row nb 0 (AF9 A.bd A.tb bs 0)/\h.next<=bs/\bs<nb/\h.next<=nb:=by
 obtain⟨⟨M,c0,arm,lv,fv,s,iv,md,hc,ha⟩,hx⟩:=U;obtain⟨h1,c1,k1,f1,d1⟩:=Xc (m:=m+6) W s;have W1:=f1.wf;have nt:=s.ne.2.2.2.1;have htb:A.tb≠A.bd/\A.tb≠A.bm/\A.tb≠A.bc:=⟨fun h=>nt (.inr (.inl h)),fun h=>nt (.inr (.inr (.inl h))),fun h=>nt (.inr (.inr (.inr h)))⟩;have Rt1:=f1.row W s.tab (fun h=>by rcases h with h|h|h;exact htb.1 h;exact htb.2.1 h;exact htb.2.2 h);rw[hA]at d1;obtain⟨h2,bs,c2,AGB,lv',fv',ks3,k2,f2,s2,pm,l4,ha'⟩:=RK (m:=m) (k:=k) W1 d1 Rt1 s.tok htb iv md hc (vk _);have k2:call AC (m+8) 47 [pt A.bd,pt A.tb,AI AT 100] h1=.ok (.tuple ⟨[pt bs,AI AT 0]⟩) h2:=k2;have W2:=f2.wf;have c00:iNe 0 0=false:=CH rfl;have y3:=(Hp.Ext.refl W2).AFh 0 (AF9 A.bd A.tb bs 0);have R3:=Hp.Row.new W2 0 (AF9 A.bd A.tb bs 0);have k3:call AC (m+9) 21 [pt A.bd,pt A.tb,AI AT 100] h1=.ok (.tuple ⟨[pt h2.next,AI AT 0]⟩) (h2.AFh 0 (AF9 A.bd A.tb bs 0)):=by
  have bn:=fun (F:AFi) (e:Env) (e1:J 0 e=pt A.bd) (e2:J 1 e=pt A.tb) (e3:J 8 e=pt bs)=>ZI (F:=F) (h:=h2) e1 e2 e3
  have bx:=fun (F:AFi) (e:Env) (he:J 23 e=.agg ⟨AF9 A.bd A.tb bs 0⟩)=>(show Ce (J 23) F e h2=.ok (pt h2.next) (h2.AFh 0 (AF9 A.bd A.tb bs 0))by rw[EF,he,EC W2];rfl)
  rw[ZQ rfl];unfold d21;simp only[iN,IS,sT,By,BY,reduceIte,cA0,k2,A7,BC,BE,AK,AJ,c00,bn,bx,BI,DH]
 obtain⟨i3,m3,c3⟩:=Wc iv md hc pm;have n1:=f1.next;have n2:=f2.next;have U2:UpX (fun _=>False) h2 ⟨bs,A.bd,A.bm,A.bc,A.tb,24⟩ T ks3 (AGh ks3 8) k:=⟨⟨M,c2,AGB,lv',fv',s2,i3,m3,c3,ha'⟩,fun _ _ _ _ h=>h⟩;have D2:=s2.AHz W2;exact⟨h1,_,bs,h2.next,ks3,k1,k3,(f1.trans f2).trans (.of y3),((U2.more W2 (IT _)).less fun b hb=>.inr hb).ext W2 y3,pm,R3,by omega,D2 bs (.inl rfl),by omega⟩
theorem tZ{xs:List IN}(V:h.VE u xs):known u=true/\cellsOf u=[u]/\oneCell u=true:=by
 rcases V with V|⟨⟨r,rfl⟩,_⟩
 ·exact NV V
 ·exact⟨rfl,rfl,rfl⟩
theorem Hp.VE.str(V:h.VE u (l.map bv)):tO u h=.ok (.string ⟨⟨l.map UInt8.ofNat⟩⟩) h:=by
 rcases V with V|⟨⟨r,rfl⟩,h2⟩
 ·exact V.bytes.str
 ·rw[ABU.1 h2];rfl
theorem tE{n:Nat}{a:List Nat}(U:h.AF5 u (a.map bv))(V:h.VE v (a.map bv))(ha:∀ x∈a,x<256):call AC (n+1) 18 [u,v] h=.ok (.bool true) h:=by
 have hbe:=Px ha ha;rw[decide_eq_true rfl]at hbe;rw[pC rfl];unfold d18;simp only[iN,IS,sT,By,BY,reduceIte,K4,U.bytes.str,V.str,PO,Ot,hbe,lV0]
end
end
noncomputable section
open Go
set_option maxRecDepth 100000
structure Ctx (h0:Hp)(A:At)(nb kk:Nat):Prop where
 W0:h0.Wf
 hD:∀ b,A.D b->h0.next<=b/\b<nb
 n24:A.n=24
 nb0:h0.next<=nb
 kk:nb<kk
 tb:A.tb≠nb
section
variable {F:AFi}{e:Env}{h:Hp}{n r:Nat}{b c z:Int}{v u:IN}{xs:List Ak}
theorem Nq(W:h.Wf){z:VT}{L vs:List IN}(hz:Bt .mt 0 L=some z)(hL:L.length=7)(hv:vs.length=7)(h1:Bc vs=true):
  ∃ g1 g2,(∀ (F:AFi) (e:Env),Ba 7 z F e h=.ok (pt h.next) g1)/\AFr 7 (pt h.next) (.agg ⟨vs⟩) g1=.ok AFl g2/\h.Ext g2/\g2.Row h.next 0 vs/\h.next<g2.next:=by
 have al:=fun (F:AFi) (e:Env)=>BW (F:=F) (e:=e) W (n:=7) (t:=z)
 have Ra:=Hp.Row.alloc W hz hL;have y2:h.Ext (h.push (.cells z 7 0)):=(Hp.Ext.refl W).push _;generalize h.push (.cells z 7 0)=h2 at al Ra y2;have big:=W.big;have ho:0+vs.length<=L.length:=by rw[hL,hv];exact IT _
 have st:=Ra.AFr (n:=7) (off:=0) y2.wf (by omega) (v:=.agg ⟨vs⟩) hv ho h1;have wr:=Ra.AFu y2.wf ho;rw[Fi (show L.length=vs.length by rw[hL,hv])]at wr;have x3:=Ra.AGE y2 (IT _) ho;exact⟨h2,_,al,st,x3,wr,wr.lt x3.wf⟩
theorem Hp.VE.lt{xs:List IN}(V:h.VE u xs)(W:h.Wf):∀ b,AGA u b->b<h.next:=fun b ⟨off,n,c,hb⟩=>by
 rcases V with (⟨h1,_⟩|⟨b',off',c',el,L,h1,h2,_⟩)|⟨⟨r,h1⟩,_⟩
 ·rw[h1]at hb;cases hb
 ·rw[h1]at hb
  injection hb with hb
  injection hb with hb
  injection hb with hb
  rw[<- hb];exact h2.lt W
 ·rw[h1]at hb;cases hb
end
end
noncomputable section
open Go
set_option maxRecDepth 100000
theorem Tx:KC.zero=CP 0 0 0 0 0 0 AFn:=by kernel_rfl
section
variable {h h0 hB:Hp}{X:Nat->Prop}{A:At}{T:List Nat}{k kw n nb op i bd tb bs:Nat}{AF7 sq a b c:Int}{ks:List Kt}{fr l:List Nat}{w iv:IN}{x y:Kt}
theorem iQ:∀ (ks:List Kt) (i:Nat) (k:Kt),ks[i]? =some k->((flI ks).drop (i*4)).take 4=CO k
 |[],i,k,h=>by cases h
 |x::ks,0,k,h=>by
  have h:some x=some k:=h;cases h;rfl
 |x::ks,i+1,k,h=>by
  show((CO x++flI ks).drop ((i+1)*4)).take 4=_;rw[AEB,zx (show(CO x).length<=_ by show 4<=_;omega),zU,show(i+1)*4 - (CO x).length=i*4 by show(i+1)*4 - 4=_;omega];exact iQ ks i k h
structure Rcx (h0 hB:Hp)(A:At)(T:List Nat)(nb kw:Nat)(w:IN)(ks:List Kt)(fr:List Nat):Prop where
 W0:h0.Wf
 x0:h0.Ext hB
 n24:A.n=24
 tb:A.tb≠nb/\A.tb<hB.next
 nb0:h0.next<=nb/\nb<kw
 kwl:kw<=hB.next
 hD:∀ b,A.D b->h0.next<=b/\b<nb
 V:hB.AL kw w ks
 asc:ks.Pairwise LtK
 iv:AGy 8 ks fr
 rs:∀ x∈ks,AFx x.a x.b x.c x.s x.l.length=true
 byt:∀ x∈ks,∀ y∈x.l,y<256
structure Rst (hB:Hp)(A:At)(T:List Nat)(nb:Nat)(ks:List Kt)(fr:List Nat)(X:Nat->Prop)(h:Hp):Prop where
 f:Fx (fun b=>A.D b\/b=nb) hB h
 U:UpX X h A T ks fr 0
 Rn:∃ AF7,AF7<=1/\h.Row nb 0 (AF9 A.bd A.tb A.bs AF7)
 hX:∀ b,X b->b<h.next
 Xn:X nb
theorem yQ(hs:1<=sq/\sq<=1000)(hop:op=4\/op=5)(ha:0<=a/\a<=1099511627776)(hb:0<=b/\b<=254)(hc:0<=c/\c<=1099511627776):DL 1 sq op a b c ([]:List Nat).length=true:=by
 unfold DL hdQ nmQ wiQ Dd;simp only[yr,decide_eq_true_eq,List.length_nil];rw[if_pos hop,if_neg (by omega)];refine⟨⟨⟨⟨⟨by omega,by omega⟩,by omega,by omega⟩,by omega,by omega⟩,⟨ha,hb⟩,hc⟩,?_⟩;trivial
end
end
noncomputable section
open Go
set_option maxRecDepth 100000
theorem rv:laQ=BL laC laE:=rfl
theorem aa:laR=io:=rfl
theorem ry:laW=BL laS laR:=rfl
theorem rn:laB=ro:=rfl
structure Lcx (h0 hB:Hp)(S0:Nat->Prop)(bd bm bc tb kk:Nat):Prop where
 W0:h0.Wf
 x0:h0.Ext hB
 hS:∀ b,S0 b->h0.next<=b/\b<kk
 d0:S0 bd/\S0 bm/\S0 bc
 tb:tb<hB.next
 kl:kk<=hB.next
structure Lst (hB:Hp)(S0:Nat->Prop)(T:List Nat)(bd bm bc tb:Nat)(v:Int)(b0:List Nat)(j nb:Nat)(h:Hp):Prop where
 f:Fx S0 hB h
 st:∃ bs ks fr AF7,UpX (fun b=>b=nb) h ⟨bs,bd,bm,bc,tb,24⟩ T ks fr j/\h.Row nb 0 (AF9 bd tb bs AF7)/\AF7<=1/\Hld v b0 ks/\(S0 bs\/hB.next<=bs)/\(S0 nb\/hB.next<=nb)/\¬ At.D ⟨bs,bd,bm,bc,tb,24⟩ nb/\tb≠nb
section
variable {e:Env}{h h' h0 hB g:Hp}{S S0:Nat->Prop}{T M b0:List Nat}{c0 m k kk n nb r j op bd bm bc tb bs:Nat}{arm AF7 lf sq a b c z room v:Int}{ks ks':List Kt}{fr fr' l:List Nat}{lv fv u w iv bw:IN}
theorem Lcx.ext(C:Lcx h0 hB S0 bd bm bc tb kk)(s:Lst hB S0 T bd bm bc tb v b0 j nb h):h0.Ext h:=Fx.xtF C.x0 s.f fun b hb=>(C.hS b hb).1
theorem Lst.ext(s:Lst hB S0 T bd bm bc tb v b0 j nb h)(y:h.Ext h'):Lst hB S0 T bd bm bc tb v b0 j nb h':=by
 obtain⟨f,bs,ks,fr,AF7,U,Rn,q⟩:=s;exact⟨f.trans (.of y),bs,ks,fr,AF7,U.ext f.wf y,Rn.ext f.wf y,q⟩
theorem Fx.more(a:Fx S0 hB h)(x:Fx S h h')(hs:∀ b,S b->S0 b\/hB.next<=b):Fx S0 hB h':=((a.mono fun b hb=>.inl hb).trans (x.mono hs)).drop
theorem Lst.nb0(C:Lcx h0 hB S0 bd bm bc tb kk)(s:Lst hB S0 T bd bm bc tb v b0 j nb h):h0.next<=nb:=by
 obtain⟨_,bs,ks,fr,AF7,_,_,_,_,_,q,_⟩:=s;have:=C.x0.next;rcases q with q|q
 ·exact(C.hS nb q).1
 ·omega
theorem iq(C:Lcx h0 hB S0 bd bm bc tb kk)(s:Lst hB S0 T bd bm bc tb v b0 (j+40) nb h)(V:h0.VE u (l.map bv))(hb:∀ x∈l,x<256)(hl:l.length<=1000)(hop:op<256)(h12:op=1\/op=2->c<=v)(h6:op=6->c<v):
  ∃ w h',call AC (m+12) 11 [pt nb,Ck 1 sq op 3 1 c u] h=.ok w h'/\Lst hB S0 T bd bm bc tb v b0 j nb h':=by
 have x0:=C.ext s;have n0:=s.nb0 C;have big:=C.W0.big;obtain⟨f,bs,ks,fr,AF7,U,Rn,hlf,H,q1,q2,q3,q4⟩:=s;have W:=f.wf;have Vh:=V.ext C.W0 x0;cases hr:DL 1 sq op 3 1 c l.length
 ·obtain⟨tv,h',k1,y1,_⟩:=qu (m:=m+8) W Rn U hop (fun g=>Vh.bl g) hr
  exact⟨_,h',k1,f.trans (.of y1),bs,ks,fr,AF7,(U.ext W y1).le (by omega),Rn.ext W y1,hlf,H,q1,q2,q3,q4⟩
 ·obtain⟨o1,o6,_⟩:=K9 hr
  obtain⟨⟨M,c0,arm,lv,fv,sl,iv',md,hc,ha⟩,_⟩:=id U;obtain⟨z,iv,bw,room,h',ks',fr',k1,f1,Rn1,U1,_,_,_,rd⟩:=Sy (m:=m) (k:=j) W rfl Rn U (fun b hb=>by rw[hb];exact Rn.lt W) rfl q3 q4 (by omega) Vh hb hl (fun b hb=>by
   have:=V.lt C.W0 b hb;omega) hr hlf
  refine⟨_,h',k1,f.more f1 (fun b hb=>?_),bs,ks',fr',1,U1,Rn1,AFO _,ac H hc h12 h6 ⟨o6,o1⟩ rd,q1,q2,q3,q4⟩;rcases hb with (h1|h1|h1|h1)|h1
  ·rw[h1];exact q1
  ·rw[h1];exact .inl C.d0.1
  ·rw[h1];exact .inl C.d0.2.1
  ·rw[h1];exact .inl C.d0.2.2
  ·rw[h1];exact q2
theorem X5(C:Lcx h0 hB S0 bd bm bc tb kk)(s:Lst hB S0 T bd bm bc tb v b0 j nb h)(hv:1<=v/\v<=1099511627776):
  ∃ iv bw room r kx h',call AC (m+12) 11 [pt nb,Ck 1 3 4 3 1 v AFn] h=.ok (.tuple ⟨[CC 1 3 4 0 iv bw room,AI AT 0]⟩) h'/\Lst hB S0 T bd bm bc tb v b0 j nb h'/\oneCell iv=true/\oneCell bw=true/\iv=.slice (some ⟨r,0,none⟩) 1 1/\h'.Row r 0 (CO kx)/\kx.s=2/\h'.AF5 bw (b0.map bv):=by
 have n0:=s.nb0 C;have big:=C.W0.big;obtain⟨f,bs,ks,fr,AF7,U,Rn,hlf,H,q1,q2,q3,q4⟩:=s;have W:=f.wf;have hr:DL 1 3 4 3 1 v ([]:List Nat).length=true:=yQ ⟨by omega,by omega⟩ (.inl rfl) ⟨by omega,by omega⟩ ⟨by omega,by omega⟩ ⟨by omega,by omega⟩;obtain⟨⟨M,c0,arm,lv,fv,sl,iv',md,hc,ha⟩,_⟩:=id U;obtain⟨z,iv,bw,room,h',ks',fr',k1,f1,Rn1,U1,_,hi,hw,rd⟩:=vy (m:=m) (k:=j) (l:=[]) (lf:=1) (sq:=3) (op:=4) (a:=3) (b:=1) (c:=v) (u:=AFn) W rfl Rn U (fun b hb=>by rw[hb];exact Rn.lt W) rfl q3 q4 (by omega) (.inl (.inl ⟨rfl,rfl⟩)) (.inl rfl) hr hlf;obtain⟨k0,hf,hs,hl⟩:=Xs H iv'.key;rcases rd with ⟨n4,_⟩|⟨rfl,rfl,⟨n5,_⟩|⟨_,⟨n0',_⟩|⟨_,n1,_⟩|⟨_,kx,n1,rfl,⟨r,e1,e2,_⟩,n3⟩⟩⟩
 ·omega
 ·omega
 ·omega
 ·rw[hf]at n1;cases n1
 ·rw[hf]at n1
  cases n1;refine⟨iv,bw,room,r,_,h',k1,⟨f.more f1 (fun b hb=>?_),bs,_,_,1,U1,Rn1,AFO _,H,q1,q2,q3,q4⟩,hi,hw,e1,e2,hs,hl ▸ n3.vs.vals⟩;rcases hb with (h1|h1|h1|h1)|h1
  ·rw[h1];exact q1
  ·rw[h1];exact .inl C.d0.1
  ·rw[h1];exact .inl C.d0.2.1
  ·rw[h1];exact .inl C.d0.2.2
  ·rw[h1];exact q2
theorem xW(ho:op=1\/op=2)(hs:1<=sq/\sq<=1000)(hv:1<=v/\v<=1099511627776)(hn:n<=65536)(h2:op=2->n=0):DL 1 sq op 3 1 v n=true:=by
 unfold DL hdQ nmQ wiQ Dd;simp only[yr,decide_eq_true_eq];rw[if_neg (by omega)];refine⟨⟨⟨⟨⟨by omega,by omega⟩,by omega,by omega⟩,by omega,by omega⟩,⟨⟨by omega,by omega⟩,by omega,by omega⟩,by omega,by omega⟩,?_⟩;split
 ·exact decide_eq_true (by omega)
 ·exact decide_eq_true (by omega)
theorem X3(C:Lcx h0 hB S0 bd bm bc tb kk)(s:Lst hB S0 T bd bm bc tb v b0 j nb h)(n:Nat):
  ∃ h1 h' nb',call AC (m+12) 20 [pt bd,AFn] h=.ok AFl h1/\call AC (m+12) 21 [pt bd,pt tb,AI AT 100] h1=.ok (.tuple ⟨[pt nb',AI AT 0]⟩) h'/\Lst hB S0 T bd bm bc tb v b0 n nb' h':=by
 obtain⟨f,bs,ks,fr,AF7,U,Rn,hlf,H,q1,q2,q3,q4⟩:=s;have W:=f.wf;obtain⟨h1,h',bs',nb',ks3,k1,k2,f1,U1,pm,Rn1,l1,l2,l3⟩:=Ya (m:=m+3) (k:=n) W rfl (U.le (zL _));have hn:=f.next;have ht:=C.tb;refine⟨h1,h',nb',k1,k2,f.more f1 (fun b hb=>?_),bs',ks3,_,0,U1,Rn1,by omega,H.core pm,.inr (by omega),.inr (by omega),fun h=>?_,by omega⟩
 ·rcases hb with h1|h1|h1<;>rw[h1]
  ·exact .inl C.d0.1
  ·exact .inl C.d0.2.1
  ·exact .inl C.d0.2.2
 ·have:=C.kl
  rcases h with h1|h1|h1|h1
  ·have h1:nb'=bs':=h1
   omega
  ·have h1:nb'=bd:=h1
   have:=(C.hS bd C.d0.1).2;omega
  ·have h1:nb'=bm:=h1
   have:=(C.hS bm C.d0.2.1).2;omega
  ·have h1:nb'=bc:=h1
   have:=(C.hS bc C.d0.2.2).2;omega
def vq(j:Nat):Prop:=j=0\/j=3\/j=9\/j=10\/j=11\/j=13\/j=20\/j=21\/j=78\/j=79\/j=80
theorem uD{r:Int}(h:0<=r/\r<=1000)(g:Hp):Ez .i64 (AI AT 1) (AI AT r) g=.ok (AI AT (1+r)) g:=by
 obtain⟨n,rfl⟩:=AAg h.1;rw[Dq,show(1:Int)+(n:Int)=((1+n:Nat):Int)by omega,Bf (by omega)]
theorem rx(W:h.Wf)(R:h.Row r 0 (CP 1 sq op 3 1 c u))(AFs:256<=r)(hv:5<=v/\v<=9)(s13:J 13 e=AI AT v)(s21:J 21 e=pt r)(s89:J 89 e=.int .u8 (op:Int)):
  ∃ e' h' c',laS (call AC (m+12)) e h=.norm e' h'/\h'.Row r 0 (CP 1 sq op 3 1 c' u)/\Fx (fun b=>b=r) h h'/\(∀ h0:Hp,h0.Ext h->h0.next<=r->h0.Ext h')/\(op=1\/op=2->c'<=v)/\(op=6->c'<v)/\∀ j,vq j->J j e'=J j e:=by
 obtain⟨_,_,_,_,_,l5,_⟩:=B5 R;have one:∀ z:Int,1<=z/\z<=9->∃ q h',call AC (m+12) 14 [AI AT c,AI AT z] h=.ok (AI AT q) h/\Ez .i64 (AI AT 1) (AI AT q) h=.ok (AI AT (1+q)) h/\AFr 1 (.pointer (some ⟨r,5,none⟩)) (AI AT (1+q)) h=.ok AFl h'/\h'.Row r 0 (CP 1 sq op 3 1 (1+q) u)/\Fx (fun b=>b=r) h h'/\(∀ h0:Hp,h0.Ext h->h0.next<=r->h0.Ext h')/\1+q<=z:=fun z hz=>by
  obtain⟨q,k1,b1,b2⟩:=bE (m:=m+11) (h:=h) (a:=c) (z:=z) (by omega);obtain⟨h2,st2,R2,n2,f2,xt2⟩:=Dt (v:=AI AT (1+q)) W R (off:=5) (by show 5<7;omega) AFs rfl rfl;have R2:h2.Row r 0 (CP 1 sq op 3 1 (1+q) u):=R2;exact⟨q,h2,k1,uD (by omega) h,st2,R2,f2,xt2,by omega⟩
 by_cases h12:op=1\/op=2
 ·obtain⟨q,h',k1,a1,st,R',f,xt,hq⟩:=one v (by omega)
  refine(show ∃ e',laS (call AC (m+12)) e h=.norm e' h'/\∀ j,vq j->J j e'=J j e from ?_).elim fun e' ⟨p1,p2⟩=>⟨e',h',1+q,p1,R',f,xt,fun _=>hq,fun h=>by omega,p2⟩
  rcases h12 with h1|h1
  ·have c1:iEq (op:Int) 1=true:=Cb (by omega)
   unfold laS;simp only[sT,By,BY,reduceIte,BJ,Az,BA,CT,AK,AJ,s89,c1,AH,AN,If,AM,AP,s21,l5,cA0,s13,k1,BM,a1,AX,st];refine⟨_,rfl,fun j hj=>?_⟩;rcases hj with rfl|rfl|rfl|rfl|rfl|rfl|rfl|rfl|rfl|rfl|rfl<;>simp only[AG,By,BY,reduceIte]
  ·have c1:iEq (op:Int) 1=false:=B6 (by omega)
   have c2:iEq (op:Int) 2=true:=Cb (by omega);unfold laS;simp only[sT,By,BY,reduceIte,BJ,Az,BA,CT,AK,AJ,s89,c1,c2,AH,AN,If,AM,AP,s21,l5,cA0,s13,k1,BM,a1,AX,st];refine⟨_,rfl,fun j hj=>?_⟩;rcases hj with rfl|rfl|rfl|rfl|rfl|rfl|rfl|rfl|rfl|rfl|rfl<;>simp only[AG,By,BY,reduceIte]
 ·have c1:iEq (op:Int) 1=false:=B6 (by omega)
  have c2:iEq (op:Int) 2=false:=B6 (by omega);by_cases h6:op=6
  ·have c3:iEq (op:Int) 6=true:=Cb (by omega)
   obtain⟨q,h',k1,a1,st,R',f,xt,hq⟩:=one (v - 1) (by omega);have a0:Fv Int.sub .i64 (AI AT v) (AI AT 1) h=.ok (AI AT (v - 1)) h:=by
    obtain⟨n,rfl⟩:=AAg (show 0<=v by omega);have:Int.sub (n:Int) 1=((n - 1:Nat):Int):=by
     show(n:Int) - 1=_;omega
    rw[Cg,this,Bf (by omega),show((n - 1:Nat):Int)=(n:Int) - 1 by omega]
   refine(show ∃ e',laS (call AC (m+12)) e h=.norm e' h'/\∀ j,vq j->J j e'=J j e from ?_).elim fun e' ⟨p1,p2⟩=>⟨e',h',1+q,p1,R',f,xt,fun h=>absurd h h12,fun h=>by omega,p2⟩
   unfold laS;simp only[sT,By,BY,reduceIte,BJ,Az,BA,CT,AK,AJ,s89,c1,c2,c3,AH,AN,If,AM,AP,s21,l5,B3,s13,a0,cA0,k1,BM,a1,AX,st];refine⟨_,rfl,fun j hj=>?_⟩;rcases hj with rfl|rfl|rfl|rfl|rfl|rfl|rfl|rfl|rfl|rfl|rfl<;>simp only[AG,By,BY,reduceIte]
  ·have c3:iEq (op:Int) 6=false:=B6 (by omega)
   refine(show ∃ e',laS (call AC (m+12)) e h=.norm e' h/\∀ j,vq j->J j e'=J j e from ?_).elim fun e' ⟨p1,p2⟩=>⟨e',h,c,p1,R,.refl W,fun h0 x _=>x,fun h=>absurd h h12,fun h=>absurd h h6,p2⟩
   unfold laS;simp only[sT,By,BY,reduceIte,BJ,Az,BA,CT,AK,AJ,s89,c1,c2,c3];refine⟨_,rfl,fun j hj=>?_⟩;rcases hj with rfl|rfl|rfl|rfl|rfl|rfl|rfl|rfl|rfl|rfl|rfl<;>simp only[AG,By,BY,reduceIte]
end
end
noncomputable section
open Go
set_option maxRecDepth 100000
section
variable {op:Nat}{lf sq z room:Int}{iv bw:IN}
theorem NQ{lf sq:Int}(hi:oneCell iv=true)(hw:oneCell bw=true):Bc (EB lf sq op z iv bw room)=true:=by
 show(bif oneCell iv then(bif oneCell bw then true else false)else false)=true;rw[hi,hw];rfl
def kq(j:Nat):Prop:=j=4\/j=5\/j=9\/j=10
end
end
end Go.Proofs.YtbjadbhkogcfeaaGreat
