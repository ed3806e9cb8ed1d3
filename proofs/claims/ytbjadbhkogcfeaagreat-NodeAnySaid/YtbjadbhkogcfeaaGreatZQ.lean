/-
  Part ZQ of what Lawan stands on: printed by program, names and spaces cut.
-/
import Derived.Test.YtbjadbhkogcfeaaGreatZP
open Go.Value renaming int→AI
open Go.IntKind renaming i64→AT
open Nat renaming reduceEqDiff→BY,reduceLT→By,reduceAdd→IT,le_refl→If,zero_add→sh,beq→tm,ble→tz,zero_le→uD,lt_or_ge→uG,le_trans→uO,zero_mul→wK,mul_comm→wP,succ_mul→xH,not_lt_zero→yL,add_comm→AAc
open Go renaming Value→IN,World→uS
open List renaming length_append→No,length_map→OF,getElem?_eq_getElem→tW,getD_eq_getElem?_getD→tY,length_cons→tZ,mem_cons_of_mem→td,mem_cons_self→te,replicate→th,mem_cons→uA,append_assoc→uC,append_nil→uH,getElem?_append_right→uI,getElem?_append_left→uJ,getElem?_eq_some_iff→uK,length_take→uL,nil_append→uN,length_drop→ua,length_replicate→uh,getElem?_map→uq,drop_zero→uv,drop_of_length_le→vC,mem_map→vL,mem_of_mem_take→vQ,flatten_cons→vg,mem_of_mem_drop→wM,getElem_mem→wl,flatMap_append→zu,flatMap_cons→AAM,drop_append→AAW,map_take→AAu
open Bool renaming and_eq_true→uB
open Go.Value renaming int→ue,chan→yS,bool→AAa
open Go.DataW renaming trod→vu
open Go.MemPlace renaming cell→xF
set_option linter.unusedVariables false
set_option linter.unusedSimpArgs false
namespace Go.Proofs.YtbjadbhkogcfeaaGreat
noncomputable section
open Go
set_option maxRecDepth 100000
theorem bp:tdM=iL:=rfl
theorem nM:d33=nN:=rfl
section
variable {F:ABZ}{e:Env}{h h' g:Hp}{S X:Nat->Prop}{A:At}{T M:List Nat}{c0 m k n nb r r4 r6 r8 op:Nat}{arm ABs lf sq a b c z err room:Int}{ks ks':List Kt}{fr fr':List Nat}{v lv fv u w iv bw:IN}{x:Kt}
theorem kD{x y:O}{k:C}{a b i j:Nat}(hx:x e=.pointer (some ⟨a,i,none⟩))(hy:y e=.pointer (some ⟨b,j,none⟩))(h1:b≠a):Cf x [y] k F e h=k F e h:=by
 have n1:tm b a=false:=by
  cases e:tm b a
  ·rfl
  ·exact absurd (A1.1 e) h1
 unfold Cf;rw[hx];show(bif CY a e [y]then k F e h else .no)=_;have:CY a e [y]=true:=by
  unfold CY;rw[hy];show(bif tm b a then false else CY a e [])=true;rw[n1];rfl
 rw[this];rfl
theorem ML(W:g.Wf){L:List IN}(R:g.Row r 0 L){off:Nat}(ho:off<L.length)(ABj:256<=r)(h1:cellsOf v=[v])(h2:oneCell v=true):
  ∃ g',(∀ (F:ABZ) (e:Env) (x y:O),x e=.pointer (some ⟨r,off,none⟩)->y e=v->Ix x (Ac 1 x y) F e g=.ok ABd g')/\g'.Row r 0 (over L off [v])/\g'.mark=g.mark/\g'.next=g.next/\Fx (fun b=>b=r) g g':=by
 have Rq:g.quiet.Row r 0 L:=R.same rfl;have hoo:off+[v].length<=L.length:=ho;have ha:BX [v]=true:=by
  show(bif oneCell v then true else false)=true;rw[h2];rfl
 have st:=Rq.ABg (n:=1) (off:=off) (v:=v) W.quiet ABj (by rw[h1];rfl) (by rw[h1];exact hoo) (by rw[h1];exact ha);rw[h1]at st;have wr:=Rq.ABl W.quiet hoo;have fx:=Fx.wr (S:=fun b=>b=r) W.quiet Rq hoo rfl;have wn:=Rq.ACH hoo;obtain⟨cc,_,hw,_⟩:=Rq.ACh hoo;have AEH:(g.quiet.wr r off [v]).low=r:=by
  rw[hw];show CC g.next r=r;have:=R.lt W;rw[BW];omega
 have ADN:(g.quiet.wr r off [v]).high=r:=by
  rw[hw];show C5 0 r=r;rw[B7];omega
 generalize g.quiet.wr r off [v]=q at st wr fx wn AEH ADN;refine⟨g.back q,fun F e x y hx hy=>?_,wr.same rfl,rfl,wn,fx.back⟩;show(match Ac 1 x y F e g.quiet with|.ok v h'=>bif Id (AB4 (x e)) g h'.low h'.high then Df g v h' else .no|.no=>.no)=_;rw[AW,hx,hy,st];show(bif Id (.ok r) g q.low q.high then Df g ABd q else .no)=_;rw[AEH,ADN];have:Id (.ok r) g r r=true:=by
  show(bif tz r r then tz r r else false)=true;rw[Ar.2 (If r)];rfl
 rw[this];show Df g ABd q=_;unfold Df;simp only[Am];rfl
theorem Dq(R:h.Row r 0 (DJ lf sq op err iv bw room)):ABa ⟨r,3,none⟩ h=.ok (AI AT err) h/\ABa ⟨r,4,none⟩ h=.ok iv h/\ABa ⟨r,5,none⟩ h=.ok bw h/\loadN 7 ⟨r,0,none⟩ h=.ok (Bs lf sq op err iv bw room) h:=
 ⟨R.ABa (off:=3) (by show 3<7;omega),R.ABa (off:=4) (by show 4<7;omega),R.ABa (off:=5) (by show 5<7;omega),R.loadN (off:=0) (n:=7) (by show 0+7<=7;omega)⟩
theorem SG(W:h.Wf)(Rn:h.Row nb 0 (AB0 A.bd A.tb A.bs ABs))(U:UpX X h A T ks fr k)(hX:X r6/\X r8)(hD:¬ A.D r6/\¬ A.D r8)(ht:A.tb≠r6/\A.tb≠r8)(R4:h.Row r4 0 (CJ lf sq op a b c u))(R6:h.Row r6 0 GD)(R8:h.Row r8 0 (DJ 0 0 0 z iv bw 0))(h48:r4≠r8)(h68:r6≠r8)(h6:256<=r6)(h8:256<=r8)(hi:oneCell iv=true)(hb:oneCell bw=true)
  (s0:J 0 e=pt nb)(s4:J 4 e=pt r4)(s6:J 6 e=pt r6)(s8:J 8 e=pt r8):
  ∃ e' h',tdE (call AC (m+2)) e h=.ret e' h'/\J 6 e'=pt r6/\J 7 e'=AI AT 0/\Fx (fun b=>b=r6\/b=r8) h h'/\h'.Row r6 0 (DJ lf sq op z iv bw (fr.length:Int))/\UpX X h' A T ks fr k:=by
 obtain⟨lv,fv,Rs,V⟩:(∃ lv fv,h.Row A.bs 0 (slL A.bd A.tb lv fv 0 false)/\h.ABy fv (ints .i64 (fr.map Int.ofNat))):=by
  obtain⟨⟨M,c0,arm,lv,fv,s,_⟩,_⟩:=U;exact⟨lv,fv,s.row,s.fs.vals⟩
 obtain⟨_,_,nd0,_⟩:=CF Rn;have k1:call AC (m+2) 53 [pt A.bs] h=.ok (.bool false) h:=Vs (m:=m+1) Rs;have Wm:=W.marked;obtain⟨_,_,n2',_⟩:=CF (Rn.same (h':=h.marked) rfl);obtain⟨a0,a1,a2,_⟩:=B1 (R4.same (h':=h.marked) rfl);have o4:∀ {i:Nat} {k:C} {F:ABZ} {e:Env},I5 (.pointer (some ⟨r4,i,none⟩)) k F e h.marked=k F e h.marked:=fun {i k F e}=>Dm (R4.lt W)
 have k2:call AC (m+2) 57 [pt A.bs] h.marked.quiet=.ok (AI AT (fr.length:Int)) h.marked.quiet:=gz (m:=m+1) (Rs.same (h':=h.marked.quiet) rfl) (V.same (h':=h.marked.quiet) rfl);have q2:∀ e:Env,J 43 e=pt A.bs->Aa .weak (AS 57 [J 43]) (call AC (m+2)) e h.marked=.ok (AI AT (fr.length:Int)) (h.marked.back h.marked.quiet):=fun e e1=>by
  refine Cp ?_ (.refl Wm.quiet) (If _);rw[BP,AU,A5,e1];exact k2
 have y1:h.Ext (h.marked.back h.marked.quiet):=Hp.Ext.ACe (Hp.Ext.refl W).marked (Hp.Ext.refl W).marked.quiet;generalize h.marked.back h.marked.quiet=h1 at q2 y1;have W1:=y1.wf;have R8':=R8.ext W y1;have R6':=R6.ext W y1;obtain⟨h2,st2,R82,_,n2,f2⟩:=ML (v:=AI AT lf) W1 R8' (off:=0) (by show 0<7;omega) h8 rfl rfl;obtain⟨h3,st3,R83,_,n3,f3⟩:=ML (v:=AI AT sq) f2.wf R82 (off:=1) (by show 1<7;omega) h8 rfl rfl;obtain⟨h4,st4,R84,n4,_,f4,_⟩:=MK (v:=.int .u8 (op:Int)) f3.wf R83 (off:=2) (by show 2<7;omega) h8 rfl rfl;obtain⟨h5,st5,R85,n5,_,f5,_⟩:=MK (v:=AI AT (fr.length:Int)) f4.wf R84 (off:=6) (by show 6<7;omega) h8 rfl rfl;have R85:h5.Row r8 0 (DJ lf sq op z iv bw (fr.length:Int)):=R85;obtain⟨_,_,_,ld⟩:=Dq R85;have f15:=((f2.trans f3).trans f4).trans f5;obtain⟨h6',st6,f6,R66⟩:=EE (lf:=lf) (sq:=sq) (op:=op) (err:=z) (iv:=iv) (bw:=bw) (room:=(fr.length:Int)) f15.wf (f15.row W1 R6' h68) rfl h6 hi hb;have U1:=U.ext W y1;have U5:=UpX.wr W1 U1 hX.2 R8' R85 f15 hD.2 ht.2 FA;have U6:=UpX.wr f15.wf U5 hX.1 (f15.row W1 R6' h68) R66 f6 hD.1 ht.1 FA;have ck1:∀ {k:C} {F:ABZ} {e:Env},J 45 e=.pointer (some ⟨r8,0,none⟩)->J 36 e=.pointer (some ⟨r4,1,none⟩)->J 38 e=.pointer (some ⟨r4,2,none⟩)->Cf (J 45) [J 36,J 38] k F e h1=k F e h1:=fun e1 e2 e3=>YT e1 e2 e3 h48 h48
 have ck2:∀ {k:C} {F:ABZ} {e:Env},J 46 e=.pointer (some ⟨r8,1,none⟩)->J 38 e=.pointer (some ⟨r4,2,none⟩)->Cf (J 46) [J 38] k F e h2=k F e h2:=fun e1 e2=>kD e1 e2 h48
 have s2':=fun (F:ABZ) (e:Env) (e1:J 45 e=.pointer (some ⟨r8,0,none⟩)) (e2:J 35 e=AI AT lf)=>st2 F e (J 45) (J 35) e1 e2
 have s3':=fun (F:ABZ) (e:Env) (e1:J 46 e=.pointer (some ⟨r8,1,none⟩)) (e2:J 37 e=AI AT sq)=>st3 F e (J 46) (J 37) e1 e2
 have s4':=fun (F:ABZ) (e:Env) (e1:J 47 e=.pointer (some ⟨r8,2,none⟩)) (e2:J 39 e=.int .u8 (op:Int))=>st4 F e (J 47) (J 39) e1 e2
 have s5':=fun (F:ABZ) (e:Env) (e1:J 48 e=.pointer (some ⟨r8,6,none⟩)) (e2:J 44 e=AI AT (fr.length:Int))=>st5 F e (J 48) (J 44) e1 e2
 obtain⟨e1,p1,t6,t7⟩:∃ e1,tdE (call AC (m+2)) e h=.ret e1 h6'/\J 6 e1=pt r6/\J 7 e1=AI AT 0:=by
  unfold tdE;simp only[sT,By,BY,reduceIte,Au,s0,Ai,AH,AO,sh,AN,AQ,nd0,cA0,k1,Az,s4,EG,o4,DU,a0,a1,a2,n2',q2,s8,ck1,s2',ck2,s3',s4',s5',Ap,Aj,ld,s6,AW,st6];exact⟨_,rfl,by simp[AG,s6]⟩
 refine⟨e1,h6',p1,t6,t7,((Fx.of y1).trans (f15.mono fun b hb=>.inr hb)).trans (f6.mono fun b hb=>.inl hb),R66,U6⟩
theorem NG(W:h.Wf)(U:UpX X h A T ks fr k)(hX:∀ b,X b->b<h.next){w:IN}:
  ∃ e1 h4 r4 r6 r8,d33 (call AC m) (As e0 0 [pt nb,CO lf sq op a b c u,w]) h=tdM (call AC m) e1 h4/\J 0 e1=pt nb/\J 2 e1=w/\J 4 e1=pt r4/\J 6 e1=pt r6/\J 8 e1=pt r8/\h.Ext h4/\h4.Row r4 0 (CJ lf sq op a b c u)/\h4.Row r6 0 GD/\h4.Row r8 0 (DJ 0 0 0 120 ABc ABc 0)/\
   h.next<=r4/\h.next<=r6/\h.next<=r8/\r4≠r8/\r6≠r8/\UpX (fun b=>(X b\/b=r6)\/b=r8) h4 A T ks fr k/\r6<h4.next/\r8<h4.next:=by
 have bx:=fun (F:ABZ) (e:Env) (he:J 1 e=CO lf sq op a b c u)=>FG (F:=F) W he
 have x1:=(Hp.Ext.refl W).ABY 0 (CJ lf sq op a b c u);have R1:=Hp.Row.new W 0 (CJ lf sq op a b c u);have n1:(h.ABY 0 (CJ lf sq op a b c u)).next=h.next+1:=rfl;generalize h.ABY 0 (CJ lf sq op a b c u)=h1 at bx x1 R1 n1;have al:=fun (F:ABZ) (e:Env)=>BL (F:=F) (e:=e) x1.wf (n:=7) (t:=Ct)
 have Ra:=Hp.Row.alloc x1.wf Ew (show GD.length=7 from rfl);have y2:h1.Ext (h1.push (.cells Ct 7 0)):=(Hp.Ext.refl x1.wf).push _;have n2:(h1.push (.cells Ct 7 0)).next=h1.next+1:=rfl;generalize h1.push (.cells Ct 7 0)=h2 at al Ra y2 n2;have bd:=fun (F:ABZ) (e:Env)=>Hz (F:=F) (e:=e) (h:=h2) (z:=120) (g1:=kV (AI AT 120)) rfl
 have al2:=fun (F:ABZ) (e:Env)=>BL (F:=F) (e:=e) y2.wf (n:=7) (t:=Ct)
 have Ra2:=Hp.Row.alloc y2.wf Ew (show GD.length=7 from rfl);have y3:h2.Ext (h2.push (.cells Ct 7 0)):=(Hp.Ext.refl y2.wf).push _;have n3:(h2.push (.cells Ct 7 0)).next=h2.next+1:=rfl;generalize h2.push (.cells Ct 7 0)=h3 at al2 Ra2 y3 n3;have big:=W.big;obtain⟨h4,st4,f4,R4⟩:=EE (lf:=0) (sq:=0) (op:=0) (err:=120) (iv:=ABc) (bw:=ABc) (room:=0) y3.wf Ra2 rfl (by omega) rfl rfl;have x3:=(x1.trans y2).trans y3;have y14:=y2.trans y3;have x4:=Fx.xtF x3 f4 (fun b hb=>by rw[hb];omega);have n4:=f4.next;have hrun:∃ e1,d33 (call AC m) (As e0 0 [pt nb,CO lf sq op a b c u,w]) h=tdM (call AC m) e1 h4/\J 0 e1=pt nb/\J 2 e1=w/\J 4 e1=pt h.next/\J 6 e1=pt h1.next/\J 8 e1=pt h2.next:=by
  rw[nM];unfold nN;simp only[iN,IT,sT,By,BY,reduceIte,bx,al,bd,al2,AW,st4];exact⟨_,rfl,by simp[AG]⟩
 obtain⟨e1,p1,p2,p3,p4,p5,p6⟩:=hrun;exact⟨e1,h4,_,_,_,p1,p2,p3,p4,p5,p6,x4,f4.row y3.wf (R1.ext x1.wf y14) (by omega),f4.row y3.wf (Ra.ext y2.wf y3) (by omega),R4,If _,by omega,by omega,by omega,by omega,((U.more W (r:=h1.next) (by omega)).more W (r:=h2.next) (by omega)).ext W x4,by omega,by omega⟩
theorem bu(W:h.Wf)(Rn:h.Row nb 0 (AB0 A.bd A.tb A.bs ABs))(U:UpX X h A T ks fr k)(hX:∀ b,X b->b<h.next)(hlt:lf<ABs){w:IN}:
  ∃ room h',call AC (m+3) 33 [pt nb,CO lf sq op a b c u,w] h=.ok (.tuple ⟨[Bs lf sq op 120 ABc ABc room,AI AT 0]⟩) h'/\h.Ext h'/\room=(fr.length:Int):=by
 obtain⟨e1,h4,r4,r6,r8,p1,p2,p3,p4,p5,p6,x4,R4,R6,R8,l4,l6,l8,n48,n68,U4,m6,m8⟩:=NG (m:=m+2) (nb:=nb) (lf:=lf) (sq:=sq) (op:=op) (a:=a) (b:=b) (c:=c) (u:=u) (w:=w) W U hX;have W4:=x4.wf;have Rn4:=Rn.ext W x4;have big:=W.big;have hD:=U.lt W;obtain⟨a0,_⟩:=B1 (R4.same (h':=h4.marked) rfl);obtain⟨_,_,_,nd3⟩:=CF (Rn4.same (h':=h4.marked) rfl);have c1:iGe lf ABs=false:=EK (by omega);have xm:=(Hp.Ext.refl W4).marked;have hrun:∃ e2,tdM (call AC (m+2)) e1 h4=tdE (call AC (m+2)) e2 h4.marked/\J 0 e2=pt nb/\J 4 e2=pt r4/\J 6 e2=pt r6/\J 8 e2=pt r8:=by
  rw[bp];unfold iL tdA;simp only[sT,By,BY,reduceIte,Az,p4,p2,AH,AO,sh,AN,AQ,a0,nd3,Au,Ai,AK,AJ,c1];exact⟨_,rfl,by simp[AG,p2,p4,p5,p6]⟩
 obtain⟨e2,q1,q2,q4,q5,q6⟩:=hrun;obtain⟨ht0,_,ht⟩:=U.tab;have htl:=ht0.lt W;obtain⟨e3,h5,r1,r2,r3,f5,R65,_⟩:=SG (m:=m) xm.wf (Rn4.same rfl) (U4.same (h':=h4.marked) rfl) ⟨.inl (.inr rfl),.inr rfl⟩ ⟨fun h=>by have:=hD _ h;omega,fun h=>by have:=hD _ h;omega⟩ ⟨by omega,by omega⟩ (R4.same (h':=h4.marked) rfl) (R6.same rfl) (R8.same rfl) n48 n68 (by omega) (by omega) rfl rfl q2 q4 q5 q6;refine⟨fr.length,h5,?_,Fx.xtF (x4.trans xm) f5 (fun b hb=>by rcases hb with rfl|rfl<;>omega),rfl⟩;rw[YY rfl,p1,q1,r1,Ay,Dv (v:=Bs lf sq op 120 ABc ABc fr.length) (by rw[r2];exact C2 R65),r3]
theorem aO{bd tb bs:Nat}:Odd (AB0 bd tb bs ABs):=⟨.inl (by show 4<6;omega),pt bd,te,fun q h=>by cases h⟩
def qk(Q:Nat->Hp->Int->IN->IN->List Kt->List Nat->Prop):Prop:=∀ (i j:Nat) (g g':Hp) (z:Int) (iv bw:IN) (ks:List Kt) (fr:List Nat),Q i g z iv bw ks fr->j<=i->g.Wf->Fx (fun b=>b<i) g g'->Q j g' z iv bw ks fr
theorem bt(W:h.Wf)(Rn:h.Row nb 0 (AB0 A.bd A.tb A.bs ABs))(U:UpX X h A T ks fr k)(hX:∀ b,X b->b<h.next)(hXn:X nb)(hnD:¬ A.D nb)(hnt:A.tb≠nb)(ABj:256<=nb)(hle:ABs<=lf){f:Nat}{Q:Nat->Hp->Int->IN->IN->List Kt->List Nat->Prop}(hQ:qk Q)
  (ap:∀ (g:Hp) (Y:Nat->Prop),g.Wf->g.Row nb 0 (AB0 A.bd A.tb A.bs lf)->UpX Y g A T ks fr k->(∀ b,Y b->b<g.next)->Fx (fun b=>b=nb) h g->∃ z iv bw g' ks' fr',call AC (m+2) f [pt nb,CO lf sq op a b c u] g=.ok (Bs 0 0 0 z iv bw 0) g'/\Fx A.D g g'/\UpX Y g' A T ks' fr' n/\z≠120/\oneCell iv=true/\oneCell bw=true/\Q g.next g' z iv bw ks' fr'):
  ∃ z iv bw room h' ks' fr',call AC (m+3) 33 [pt nb,CO lf sq op a b c u,.func (.func f) ⟨[]⟩ ⟨[]⟩] h=.ok (.tuple ⟨[Bs lf sq op z iv bw room,AI AT 0]⟩) h'/\Fx (fun b=>A.D b\/b=nb) h h'/\h'.Row nb 0 (AB0 A.bd A.tb A.bs lf)/\UpX X h' A T ks' fr' n/\(z≠120/\room=(fr'.length:Int))/\oneCell iv=true/\oneCell bw=true/\Q h.next h' z iv bw ks' fr':=by
 obtain⟨e1,h4,r4,r6,r8,p1,p2,p3,p4,p5,p6,x4,R4,R6,R8,l4,l6,l8,n48,n68,U4,m6,m8⟩:=NG (m:=m+2) (nb:=nb) (lf:=lf) (sq:=sq) (op:=op) (a:=a) (b:=b) (c:=c) (u:=u) (w:=.func (.func f) ⟨[]⟩ ⟨[]⟩) W U hX;have W4:=x4.wf;have Rn4:=Rn.ext W x4;have big:=W.big;have hD:=U.lt W;have hn:=Rn.lt W;obtain⟨ht0,_,ht⟩:=U.tab;have htl:=ht0.lt W;obtain⟨a0,_⟩:=B1 (R4.same (h':=h4.marked) rfl);obtain⟨_,_,_,nd3⟩:=CF (Rn4.same (h':=h4.marked) rfl);have c1:iGe lf ABs=true:=F2 (by omega);have xm:=(Hp.Ext.refl W4).marked;have Wm:=xm.wf;obtain⟨h5,st5,R5,nx5,f5,_⟩:=FI (v:=AI AT lf) Wm (Rn4.same (h':=h4.marked) rfl) (off:=3) (by show 3<4;omega) ABj rfl rfl;have R5:h5.Row nb 0 (AB0 A.bd A.tb A.bs lf):=R5;have nx5:h5.next=h4.next:=nx5;have U5:=UpX.wr Wm (U4.same (h':=h4.marked) rfl) (.inl (.inl hXn)) (Rn4.same (h':=h4.marked) rfl) R5 f5 hnD hnt aO;have f05:Fx (fun b=>b=nb) h h5:=(Fx.of (x4.trans xm)).trans f5;obtain⟨z,iv,bw,h6,ks',fr',k6,f6,U6,hz,hi,hb,hq⟩:=ap h5 _ f5.wf R5 U5 (fun b hb=>by
  rcases hb with (hb|hb)|hb
  ·have:=hX b hb
   omega
  ·omega
  ·omega) f05
 have hDr:∀ r,h.next<=r->¬ A.D r:=fun r hr h=>by have:=hD _ h;omega
 have R45:=f5.row Wm (R4.same (h':=h4.marked) rfl) (by omega);have R46:=f6.row f5.wf R45 (hDr _ l4);have R66:=f6.row f5.wf (f5.row Wm (R6.same (h':=h4.marked) rfl) (by omega)) (hDr _ l6);have R86:=f6.row f5.wf (f5.row Wm (R8.same (h':=h4.marked) rfl) (by omega)) (hDr _ l8);have Rn6:=f6.row f5.wf R5 hnD;obtain⟨h7,st7,f7,R87⟩:=EE (lf:=0) (sq:=0) (op:=0) (err:=z) (iv:=iv) (bw:=bw) (room:=0) f6.wf R86 rfl (by omega) hi hb;have U7:=UpX.wr f6.wf U6 (.inr rfl) R86 R87 f7 (hDr _ l8) (by omega) FA;have R47:=f7.row f6.wf R46 (by omega);have R67:=f7.row f6.wf R66 (by omega);have Rn7:=f7.row f6.wf Rn6 (by omega);obtain⟨_,_,_,_,_,_,_,lda⟩:=B1 R45;have hrun:∃ e2,tdM (call AC (m+2)) e1 h4=tdE (call AC (m+2)) e2 h7/\J 0 e2=pt nb/\J 4 e2=pt r4/\J 6 e2=pt r6/\J 8 e2=pt r8:=by
  rw[bp];unfold iL tdA;simp only[sT,By,BY,reduceIte,Az,p4,p2,p3,p6,AH,AO,sh,AN,AQ,a0,nd3,Au,Ai,AK,AJ,c1,AW,st5,Ap,Aj,lda,Ck,DC,AU,A5,uN,uH,k6,st7];exact⟨_,rfl,by simp[AG,p2,p4,p5,p6]⟩
 obtain⟨e2,q1,q2,q4,q5,q6⟩:=hrun;obtain⟨e3,h8,r1,r2,r3,f8,R68,U8⟩:=SG (m:=m) f7.wf Rn7 U7 ⟨.inl (.inr rfl),.inr rfl⟩ ⟨hDr _ l6,hDr _ l8⟩ ⟨by omega,by omega⟩ R47 R67 R87 n48 n68 (by omega) (by omega) hi hb q2 q4 q5 q6;refine⟨z,iv,bw,fr'.length,h8,ks',fr',?_,Fx.drop ((((f05.mono fun b hb=>.inl (.inr hb)).trans (f6.mono fun b hb=>.inl (.inl hb))).trans (f7.mono fun b hb=>.inr (by omega))).trans (f8.mono fun b hb=>.inr (by rcases hb with rfl|rfl<;>omega))),f8.row f7.wf Rn7 (by omega),U8.less fun b hb=>.inl (.inl hb),⟨hz,rfl⟩,hi,hb,hQ _ _ _ _ _ _ _ _ _ hq (by have:=x4.next;omega) f6.wf ((f7.mono fun b hb=>by omega).trans (f8.mono fun b hb=>by rcases hb with rfl|rfl<;>omega))⟩;rw[YY rfl,p1,q1,r1,Ay,Dv (v:=Bs lf sq op z iv bw fr'.length) (by rw[r2];exact C2 R68),r3]
end
end
noncomputable section
open Go
set_option maxRecDepth 100000
theorem cB:SK.k=.ptr 83:=by kernel_rfl
theorem nf:doR=eU:=rfl
theorem Ys:d11=dy:=rfl
def fnO(op:Nat):Nat:=if op=1 then 34 else if op=2 then 35 else if op=3 then 36 else if op=4 then 37 else if op=5 then 38 else 39
section
variable {F:ABZ}{e:Env}{h h' g:Hp}{X:Nat->Prop}{A:At}{T M:List Nat}{c0 m k n nb r r4 op:Nat}{arm ABs lf sq a b c z err room:Int}{ks ks':List Kt}{fr fr' l:List Nat}{v lv fv u iv bw:IN}{x:Kt}
theorem Kk{n:Nat}(hr:DA lf sq op a b c n=true):1<=op/\op<=6/\1<=lf:=by
 unfold DA hdQ wiQ at hr;simp only[uB,decide_eq_true_eq]at hr;exact⟨hr.1.1.2.1,hr.1.1.2.2,hr.1.1.1.1.1⟩
def kdO(op:Nat):Int:=if op=1 then 1 else if op=2 then 5 else if op=3 then 7 else 8
def Rdn(T:List Nat)(ks:List Kt)(fr:List Nat)(op:Nat)(a b c:Int)(l:List Nat)(i:Nat)(g:Hp)(z:Int)(iv bw:IN)(ks':List Kt)(fr':List Nat):Prop:=
 (op≠4/\op≠5/\iv=ABc/\bw=ABc/\∃ l',(op=1->l'=l)/\Stp T ks fr (kdO op) a b c l' z ks' fr')\/
 (ks'=ks/\fr'=fr/\((op=5/\z=0/\bw=ABc/\g.IL i iv (ks.filter fun x=>YH x a b c))\/
  (op=4/\((c=0/\z=0/\bw=ABc/\g.IL i iv (ks.filter fun x=>decide (x.a=a) && decide (x.b=b)))\/(c≠0/\ks.find? (Bp a b c)=none/\z=60/\iv=ABc/\bw=ABc)\/
   (c≠0/\∃ kx,ks.find? (Bp a b c)=some kx/\z=0/\(∃ r,iv=.slice (some ⟨r,0,none⟩) 1 1/\g.Row r 0 (CA kx)/\i<=r)/\g.BS (fun b=>i<=b) bw (kx.l.map bv))))))
theorem Hp.IL.less(o:h.IL n v ks)(hk:m<=n):h.IL m v ks:=by
 rcases o with h1|⟨b,h1,h2,h3⟩
 ·exact .inl h1
 ·exact .inr ⟨b,h1,h2,uO hk h3⟩
theorem Vy:qk (Rdn T ks fr op a b c l):=fun i j g g' z iv bw ks' fr' h hj W f=>by
 rcases h with h|⟨h1,h2,⟨h3,h4,h5,h6⟩|⟨h3,⟨h4,h5,h6,h7⟩|h4|⟨h4,kx,h5,h6,⟨r,h7,h8,h9⟩,h10⟩⟩⟩
 ·exact .inl h
 ·exact .inr ⟨h1,h2,.inl ⟨h3,h4,h5,(h6.fx W f fun b hb=>hb).less hj⟩⟩
 ·exact .inr ⟨h1,h2,.inr ⟨h3,.inl ⟨h4,h5,h6,(h7.fx W f fun b hb=>hb).less hj⟩⟩⟩
 ·exact .inr ⟨h1,h2,.inr ⟨h3,.inr (.inl h4)⟩⟩
 ·exact .inr ⟨h1,h2,.inr ⟨h3,.inr (.inr ⟨h4,kx,h5,h6,⟨r,h7,f.row W h8 (by omega),by omega⟩,h10.ACf fun b el L hb _ q=>⟨f.row W q (by have hb:i<=b:=hb;omega),by have hb:i<=b:=hb;show j<=b;omega⟩⟩)⟩⟩
theorem ir(W:h.Wf)(hA:A.n=24)(Rn:h.Row nb 0 (AB0 A.bd A.tb A.bs ABs))(U:UpX X h A T ks fr k)(hop:op=4\/op=5):
  ∃ z iv bw h' ks' fr',call AC (m+10) (fnO op) [pt nb,CO lf sq op a b c u] h=.ok (Bs 0 0 0 z iv bw 0) h'/\Fx A.D h h'/\UpX X h' A T ks' fr' k/\z≠120/\oneCell iv=true/\oneCell bw=true/\Rdn T ks fr op a b c l h.next h' z iv bw ks' fr':=by
 rcases hop with rfl|rfl
 ·have U0:=U
  obtain⟨⟨M,c0,arm,lv,fv,s,iv',md,_⟩,_⟩:=U0;have hln:=iv'.len;obtain⟨h',k',z,iv,bw,q1,q2,hk',q4,q5,q6⟩:=rK (m:=m) (lf:=lf) (sq:=sq) (op:=4) (a:=a) (b:=b) (c:=c) (u:=u) W Rn s (by omega) (fun x hx=>md.AFk hx) (fun x hx=>by have:=iv'.lt x hx;omega);refine⟨z,iv,bw,h',ks,fr,q1,.of q2,U.ext W q2,?_,q4,q5,.inr ⟨rfl,rfl,.inr ⟨rfl,?_⟩⟩⟩
  ·rcases q6 with ⟨_,rfl,_⟩|⟨_,_,rfl,_⟩|⟨_,_,_,rfl,_⟩<;>omega
  ·rcases q6 with ⟨g1,g2,g3,g4⟩|g1|⟨g1,kx,g2,g3,⟨r,g4,g5,g6⟩,g7⟩
   ·exact .inl ⟨g1,g2,g3,g4.less hk'⟩
   ·exact .inr (.inl g1)
   ·exact .inr (.inr ⟨g1,kx,g2,g3,⟨r,g4,g5,uO hk' g6⟩,g7.mono fun b hb=>uO hk' hb⟩)
 ·have U0:=U
  obtain⟨⟨M,c0,arm,lv,fv,s,iv',md,_⟩,_⟩:=U0;have hln:=iv'.len;obtain⟨h',k',iv,q1,q2,hk',q4⟩:=rI (m:=m) (lf:=lf) (sq:=sq) (op:=5) (a:=a) (b:=b) (c:=c) (u:=u) W Rn s (by omega);exact⟨0,iv,_,h',ks,fr,q1,.of q2,U.ext W q2,by omega,(S7 q4).2.2,rfl,.inr ⟨rfl,rfl,.inl ⟨rfl,rfl,rfl,q4.less hk'⟩⟩⟩
theorem qo(W:h.Wf)(hA:A.n=24)(Rn:h.Row nb 0 (AB0 A.bd A.tb A.bs ABs))(U:UpX X h A T ks fr (k+40))(hX:∀ b,X b->b<h.next)(V:h.VE u (l.map bv))(hb:∀ x∈l,x<256)(hl:l.length<=1000)(h1:1<=op)(h6:op<=6):
  ∃ z iv bw h' ks' fr',call AC (m+10) (fnO op) [pt nb,CO lf sq op a b c u] h=.ok (Bs 0 0 0 z iv bw 0) h'/\Fx A.D h h'/\UpX X h' A T ks' fr' k/\z≠120/\oneCell iv=true/\oneCell bw=true/\Rdn T ks fr op a b c l h.next h' z iv bw ks' fr':=by
 have hop:op=1\/op=2\/op=3\/op=4\/op=5\/op=6:=by omega
 rcases hop with rfl|rfl|rfl|rfl|rfl|rfl
 ·obtain⟨z,h',ks',fr',q1,q2,q3,q4⟩:=pD (m:=m) (lf:=lf) (sq:=sq) (op:=1) (a:=a) (b:=b) (c:=c) W hA Rn U hX V hb hl
  exact⟨z,_,_,h',ks',fr',q1,q2,q3,Ph q4,rfl,rfl,.inl ⟨by omega,by omega,rfl,rfl,_,fun _=>rfl,q4⟩⟩
 ·obtain⟨z,h',ks',fr',q1,q2,q3,q4⟩:=pE (m:=m) (lf:=lf) (sq:=sq) (op:=2) (a:=a) (b:=b) (c:=c) (u:=u) W hA Rn U hX
  exact⟨z,_,_,h',ks',fr',q1,q2,q3,Ph q4,rfl,rfl,.inl ⟨by omega,by omega,rfl,rfl,_,fun h=>absurd h (by omega),q4⟩⟩
 ·obtain⟨z,h',ks',fr',q1,q2,q3,q4⟩:=pF (m:=m) (lf:=lf) (sq:=sq) (op:=3) (a:=a) (b:=b) (c:=c) (u:=u) W hA Rn U hX
  exact⟨z,_,_,h',ks',fr',q1,q2,q3,Ph q4,rfl,rfl,.inl ⟨by omega,by omega,rfl,rfl,_,fun h=>absurd h (by omega),q4⟩⟩
 ·exact ir (m:=m) W hA Rn (U.le (by omega)) (.inl rfl)
 ·exact ir (m:=m) W hA Rn (U.le (by omega)) (.inr rfl)
 ·obtain⟨z,h',ks',fr',q1,q2,q3,q4⟩:=pG (m:=m) (lf:=lf) (sq:=sq) (op:=6) (a:=a) (b:=b) (c:=c) (u:=u) W hA Rn U hX
  exact⟨z,_,_,h',ks',fr',q1,q2,q3,Ph q4,rfl,rfl,.inl ⟨by omega,by omega,rfl,rfl,_,fun h=>absurd h (by omega),q4⟩⟩
theorem Z6(Rn:h.Row nb 0 (AB0 A.bd A.tb A.bs ABs))(U:UpX X h A T ks fr k):call AC (m+3) 31 [pt nb] h=.ok (AI AT 0) h:=by
 obtain⟨⟨M,c0,arm,lv,fv,s,_⟩,_⟩:=U;obtain⟨n0,_,n2,_⟩:=CF Rn;have p1:∀ e:Env,J 0 e=pt nb->oEq SK.k false (J 0) (kV (.pointer none)) (call AC (m+2)) e h=.ok (.bool false) h:=fun e he=>FM cB he
 have p2:∀ e:Env,J 10 e=pt A.bs->oEq Hu.k false (J 10) (kV (.pointer none)) (call AC (m+2)) e h=.ok (.bool false) h:=fun e he=>FM WT he
 have k1:call AC (m+2) 53 [pt A.bs] h=.ok (.bool false) h:=Vs (m:=m+1) s.row;have k2:call AC (m+2) 19 [pt A.bd] h=.ok (.bool false) h:=Uo (m:=m) s.dk;rw[kR rfl];unfold d31;simp only[iN,IT,sT,By,BY,reduceIte,gD,cA0,p1,Au,Ai,AH,AO,sh,AN,AQ,n0,n2,p2,k1,k2,lV0]
theorem ME(W:h.Wf)(Rn:h.Row nb 0 (AB0 A.bd A.tb A.bs ABs))(U:UpX X h A T ks fr k)(hop:op<256){l:Nat}(hu:∀ g:Hp,AB2 u g=.ok (AI AT (l:Int)) g):
  ∃ e1 h4 r3 r4,d11 (call AC (m+3)) (As e0 0 [pt nb,CO lf sq op a b c u]) h=(if DA lf sq op a b c l=true then doM (call AC (m+3)) e1 h4 else .ret e1 h4)/\J 0 e1=pt nb/\J 3 e1=pt r3/\J 4 e1=pt r4/\h.Ext h4/\h4.Row r3 0 (CJ lf sq op a b c u)/\h4.Row r4 0 GD/\
   h.next<=r3/\h.next<=r4/\r3≠r4/\UpX (fun b=>X b\/b=r4) h4 A T ks fr k/\r4<h4.next/\(DA lf sq op a b c l=false->J 5 e1=AI AT 110):=by
 have bx:=fun (F:ABZ) (e:Env) (he:J 1 e=CO lf sq op a b c u)=>FG (F:=F) W he
 have x1:=(Hp.Ext.refl W).ABY 0 (CJ lf sq op a b c u);have R1:=Hp.Row.new W 0 (CJ lf sq op a b c u);have n1:(h.ABY 0 (CJ lf sq op a b c u)).next=h.next+1:=rfl;generalize h.ABY 0 (CJ lf sq op a b c u)=h1 at bx x1 R1 n1;have al:=fun (F:ABZ) (e:Env)=>BL (F:=F) (e:=e) x1.wf (n:=7) (t:=Ct)
 have Ra:=Hp.Row.alloc x1.wf Ew (show GD.length=7 from rfl);have y2:h1.Ext (h1.push (.cells Ct 7 0)):=(Hp.Ext.refl x1.wf).push _;have n2:(h1.push (.cells Ct 7 0)).next=h1.next+1:=rfl;generalize h1.push (.cells Ct 7 0)=h2 at al Ra y2 n2;have x2:=x1.trans y2;have U2:=((U.more W (r:=h1.next) (by omega)).ext W x2);have k1:call AC (m+3) 31 [pt nb] h2=.ok (AI AT 0) h2:=Z6 (m:=m) (Rn.ext W x2) U2;have c1:iNe 0 0=false:=B5 rfl;obtain⟨_,_,_,_,_,_,_,lda⟩:=B1 (R1.ext x1.wf y2);obtain⟨h3,k3,y3⟩:=OO (m:=m) (ABs:=lf) (seq:=sq) (op:=op) (a:=a) (b:=b) (c:=c) x2.wf hop hu;have big:=W.big;cases hr:DA lf sq op a b c l
 ·rw[hr]at k3
  have Ra3:=Ra.ext y2.wf y3;obtain⟨h4,st4,f4,R4⟩:=EE (lf:=0) (sq:=0) (op:=0) (err:=0) (iv:=ABc) (bw:=ABc) (room:=0) y3.wf Ra3 rfl (by omega) rfl rfl;have bd:=fun (F:ABZ) (e:Env)=>cw (F:=F) (e:=e) (h:=h3)
  have x4:=Fx.xtF (x2.trans y3) f4 (fun b hb=>by rw[hb];omega);have hrun:∃ e1,d11 (call AC (m+3)) (As e0 0 [pt nb,CO lf sq op a b c u]) h=.ret e1 h4/\J 0 e1=pt nb/\J 3 e1=pt h.next/\J 4 e1=pt h1.next/\J 5 e1=AI AT 110:=by
   rw[Ys];unfold dy;simp only[iN,IT,sT,By,BY,reduceIte,bx,al,cA0,k1,AK,AJ,c1];unfold doR eU Ah doM Aq;simp only[sT,By,BY,reduceIte,Ap,Aj,lda,cA0,k3,BM,BK,Bool.not_false,bd,AW,st4];exact⟨_,rfl,by simp[AG]⟩
  obtain⟨e1,q0,q1,q2,q3,q4⟩:=hrun;have nn:=y3.next;have nn4:=f4.next;exact⟨e1,h4,_,_,q0,q1,q2,q3,x4,f4.row y3.wf ((R1.ext x1.wf y2).ext y2.wf y3) (by omega),R4,If _,by omega,by omega,((U.more W (r:=h1.next) (by omega)).ext W x4),by omega,fun _=>q4⟩
 ·rw[hr]at k3
  have hrun:∃ e1,d11 (call AC (m+3)) (As e0 0 [pt nb,CO lf sq op a b c u]) h=doM (call AC (m+3)) e1 h3/\J 0 e1=pt nb/\J 3 e1=pt h.next/\J 4 e1=pt h1.next:=by
   rw[Ys];unfold dy;simp only[iN,IT,sT,By,BY,reduceIte,bx,al,cA0,k1,AK,AJ,c1];rw[nf];unfold eU;simp only[sT,By,BY,reduceIte,Ap,Aj,lda,cA0,k3,BM,BK,Bool.not_true];exact⟨_,rfl,by simp[AG]⟩
  obtain⟨e1,q0,q1,q2,q3⟩:=hrun;have nn:=y3.next;have x3:=x2.trans y3;exact⟨e1,h3,_,_,q0,q1,q2,q3,x3,(R1.ext x1.wf y2).ext y2.wf y3,Ra.ext y2.wf y3,If _,by omega,by omega,((U.more W (r:=h1.next) (by omega)).ext W x3),by omega,fun e=>by cases e⟩
end
end
noncomputable section
open Go
set_option maxRecDepth 100000
section
variable {e:Env}{h h' g:Hp}{S X:Nat->Prop}{A:At}{T:List Nat}{m k n nb r r3 r4 op:Nat}{ABs lf sq a b c z err room:Int}{ks ks':List Kt}{fr fr' l:List Nat}{v u w iv bw:IN}{x:Kt}
theorem Hp.VE.fx{xs:List IN}(V:h.VE u xs)(W:h.Wf)(f:Fx S h h')(hS:∀ b,ABw u b->¬ S b):h'.VE u xs:=by
 rcases V with (h1|⟨b,off,c,el,L,h1,h2,h3⟩)|h1
 ·exact .inl (.inl h1)
 ·exact .inl (.inr ⟨b,off,c,el,L,h1,f.row W h2 (hS b ⟨off,_,c,h1⟩),h3⟩)
 ·exact .inr h1
theorem ZC{h1 h2:Hp}(R3:h.Row r3 0 (CJ lf sq op a b c u))(h1':1<=op)(h6:op<=6)(s0:J 0 e=pt nb)(s3:J 3 e=pt r3)(s4:J 4 e=pt r4){tv:IN}
  (hk:call AC (m+3) 33 [pt nb,CO lf sq op a b c u,.func (.func (fnO op)) ⟨[]⟩ ⟨[]⟩] h=.ok (.tuple ⟨[tv,AI AT 0]⟩) h1)(st:ABg 7 (pt r4) tv h1=.ok ABd h2):
  ∃ e2,doM (call AC (m+3)) e h=.ret e2 h2/\J 4 e2=pt r4/\J 5 e2=AI AT 0:=by
 obtain⟨_,_,l2,_,_,_,_,lda⟩:=B1 R3;have hq:op=1\/op=2\/op=3\/op=4\/op=5\/op=6:=by omega
 unfold doM;rcases hq with hq|hq|hq|hq|hq|hq
 ·have c1:iEq (op:Int) 1=true:=CU (by omega)
  have hk:=hk;rw[show fnO op=34 by rw[hq];rfl]at hk;simp only[sT,By,BY,reduceIte,s3,AH,AO,sh,AN,AQ,l2,AK,AJ,c1,Ap,Aj,lda,cA0,s0,hk,Ao,Ax,A2,AW,s4,st];exact⟨_,rfl,by simp[AG,s4]⟩
 ·have c1:iEq (op:Int) 1=false:=B9 (by omega)
  have c2:iEq (op:Int) 2=true:=CU (by omega);have hk:=hk;rw[show fnO op=35 by rw[hq];rfl]at hk;simp only[sT,By,BY,reduceIte,s3,AH,AO,sh,AN,AQ,l2,AK,AJ,c1,c2,Ap,Aj,lda,cA0,s0,hk,Ao,Ax,A2,AW,s4,st];exact⟨_,rfl,by simp[AG,s4]⟩
 ·have c1:iEq (op:Int) 1=false:=B9 (by omega)
  have c2:iEq (op:Int) 2=false:=B9 (by omega);have c3:iEq (op:Int) 3=true:=CU (by omega);have hk:=hk;rw[show fnO op=36 by rw[hq];rfl]at hk;simp only[sT,By,BY,reduceIte,s3,AH,AO,sh,AN,AQ,l2,AK,AJ,c1,c2,c3,Ap,Aj,lda,cA0,s0,hk,Ao,Ax,A2,AW,s4,st];exact⟨_,rfl,by simp[AG,s4]⟩
 ·have c1:iEq (op:Int) 1=false:=B9 (by omega)
  have c2:iEq (op:Int) 2=false:=B9 (by omega);have c3:iEq (op:Int) 3=false:=B9 (by omega);have c4:iEq (op:Int) 4=true:=CU (by omega);have hk:=hk;rw[show fnO op=37 by rw[hq];rfl]at hk;simp only[sT,By,BY,reduceIte,s3,AH,AO,sh,AN,AQ,l2,AK,AJ,c1,c2,c3,c4,Ap,Aj,lda,cA0,s0,hk,Ao,Ax,A2,AW,s4,st];exact⟨_,rfl,by simp[AG,s4]⟩
 ·have c1:iEq (op:Int) 1=false:=B9 (by omega)
  have c2:iEq (op:Int) 2=false:=B9 (by omega);have c3:iEq (op:Int) 3=false:=B9 (by omega);have c4:iEq (op:Int) 4=false:=B9 (by omega);have c5:iEq (op:Int) 5=true:=CU (by omega);have hk:=hk;rw[show fnO op=38 by rw[hq];rfl]at hk;simp only[sT,By,BY,reduceIte,s3,AH,AO,sh,AN,AQ,l2,AK,AJ,c1,c2,c3,c4,c5,Ap,Aj,lda,cA0,s0,hk,Ao,Ax,A2,AW,s4,st];exact⟨_,rfl,by simp[AG,s4]⟩
 ·have c1:iEq (op:Int) 1=false:=B9 (by omega)
  have c2:iEq (op:Int) 2=false:=B9 (by omega);have c3:iEq (op:Int) 3=false:=B9 (by omega);have c4:iEq (op:Int) 4=false:=B9 (by omega);have c5:iEq (op:Int) 5=false:=B9 (by omega);have hk:=hk;rw[show fnO op=39 by rw[hq];rfl]at hk;simp only[sT,By,BY,reduceIte,s3,AH,AO,sh,AN,AQ,l2,AK,AJ,c1,c2,c3,c4,c5,Ap,Aj,lda,cA0,s0,hk,Ao,Ax,A2,AW,s4,st];exact⟨_,rfl,by simp[AG,s4]⟩
theorem ng(W:h.Wf)(Rn:h.Row nb 0 (AB0 A.bd A.tb A.bs ABs))(U:UpX X h A T ks fr k)(hop:op<256){l:Nat}(hu:∀ g:Hp,AB2 u g=.ok (AI AT (l:Int)) g)(hr:DA lf sq op a b c l=false):
  ∃ tv h',call AC (m+4) 11 [pt nb,CO lf sq op a b c u] h=.ok (.tuple ⟨[tv,AI AT 110]⟩) h'/\h.Ext h'/\tv=Bs 0 0 0 0 ABc ABc 0:=by
 obtain⟨e1,h4,r3,r4,p1,p2,p3,p4,x4,R3,R4,l3,l4,n34,U4,m4,q⟩:=ME (m:=m) (lf:=lf) (sq:=sq) (op:=op) (a:=a) (b:=b) (c:=c) W Rn U hop hu;rw[hr,if_neg (by decide)]at p1;refine⟨_,h4,?_,x4,rfl⟩;rw[Se rfl,p1,Ay,Dv (v:=Bs 0 0 0 0 ABc ABc 0) (by rw[p4];exact C2 R4),q hr]
theorem nr(W:h.Wf)(Rn:h.Row nb 0 (AB0 A.bd A.tb A.bs ABs))(U:UpX X h A T ks fr k)(hX:∀ b,X b->b<h.next)(hop:op<256){l:Nat}(hu:∀ g:Hp,AB2 u g=.ok (AI AT (l:Int)) g)(hr:DA lf sq op a b c l=true)(hlt:lf<ABs):
  ∃ room h',call AC (m+4) 11 [pt nb,CO lf sq op a b c u] h=.ok (.tuple ⟨[Bs lf sq op 120 ABc ABc room,AI AT 0]⟩) h'/\h.Ext h'/\room=(fr.length:Int):=by
 obtain⟨e1,h4,r3,r4,p1,p2,p3,p4,x4,R3,R4,l3,l4,n34,U4,m4,q⟩:=ME (m:=m) (lf:=lf) (sq:=sq) (op:=op) (a:=a) (b:=b) (c:=c) W Rn U hop hu;rw[hr,if_pos rfl]at p1;obtain⟨o1,o6,_⟩:=Kk hr;have big:=W.big;obtain⟨room,h5,k5,y5,hroom⟩:=bu (m:=m) (lf:=lf) (sq:=sq) (op:=op) (a:=a) (b:=b) (c:=c) (u:=u) (w:=.func (.func (fnO op)) ⟨[]⟩ ⟨[]⟩) x4.wf (Rn.ext W x4) U4 (fun b hb=>by
  have:=x4.next;rcases hb with hb|hb
  ·have:=hX b hb
   omega
  ·omega) hlt
 obtain⟨h6,st6,f6,R6⟩:=EE (lf:=lf) (sq:=sq) (op:=op) (err:=120) (iv:=ABc) (bw:=ABc) (room:=room) y5.wf (R4.ext x4.wf y5) rfl (by omega) rfl rfl;obtain⟨e2,q1,q2,q3⟩:=ZC (m:=m) R3 o1 o6 p2 p3 p4 k5 st6;refine⟨room,h6,?_,Fx.xtF (x4.trans y5) f6 (fun b hb=>by rw[hb];omega),hroom⟩;rw[Se rfl,p1,q1,Ay,Dv (v:=Bs lf sq op 120 ABc ABc room) (by rw[q2];exact C2 R6),q3]
theorem nh(W:h.Wf)(hA:A.n=24)(Rn:h.Row nb 0 (AB0 A.bd A.tb A.bs ABs))(U:UpX X h A T ks fr k)(hX:∀ b,X b->b<h.next)(hXn:X nb)(hnD:¬ A.D nb)(hnt:A.tb≠nb)(ABj:256<=nb)(V:h.VE u (l.map bv))(hr:DA lf sq op a b c l.length=true)(hle:ABs<=lf)
  (ap:∀ (g:Hp) (Y:Nat->Prop),g.Wf->g.Row nb 0 (AB0 A.bd A.tb A.bs lf)->UpX Y g A T ks fr k->(∀ b,Y b->b<g.next)->(∀ g0:Hp,h.Ext g0->Fx (fun b=>b=nb) g0 g->∃ z iv bw g' ks' fr',call AC (m+10) (fnO op) [pt nb,CO lf sq op a b c u] g=.ok (Bs 0 0 0 z iv bw 0) g'/\Fx A.D g g'/\UpX Y g' A T ks' fr' n/\z≠120/\oneCell iv=true/\oneCell bw=true/\Rdn T ks fr op a b c l g.next g' z iv bw ks' fr')):
  ∃ z iv bw room h' ks' fr',call AC (m+12) 11 [pt nb,CO lf sq op a b c u] h=.ok (.tuple ⟨[Bs lf sq op z iv bw room,AI AT 0]⟩) h'/\Fx (fun b=>A.D b\/b=nb) h h'/\h'.Row nb 0 (AB0 A.bd A.tb A.bs lf)/\UpX X h' A T ks' fr' n/\(z≠120/\room=(fr'.length:Int))/\oneCell iv=true/\oneCell bw=true/\Rdn T ks fr op a b c l h.next h' z iv bw ks' fr':=by
 obtain⟨o1,o6,_⟩:=Kk hr;obtain⟨e1,h4,r3,r4,p1,p2,p3,p4,x4,R3,R4,l3,l4,n34,U4,m4,q⟩:=ME (m:=m+8) (lf:=lf) (sq:=sq) (op:=op) (a:=a) (b:=b) (c:=c) W Rn U (by omega) (fun g=>V.bl g);rw[hr,if_pos rfl]at p1;have big:=W.big;have hD:=U.lt W;have hn:=Rn.lt W;obtain⟨ht0,_,ht⟩:=U.tab;have htl:=ht0.lt W;obtain⟨z,iv,bw,room,h5,ks',fr',k5,f5,Rn5,U5,hz,hi,hw,hq⟩:=bt (m:=m+8) (n:=n) (lf:=lf) (sq:=sq) (op:=op) (a:=a) (b:=b) (c:=c) (u:=u) (f:=fnO op) x4.wf (Rn.ext W x4) U4 (fun b hb=>by
  have:=x4.next;rcases hb with hb|hb
  ·have:=hX b hb
   omega
  ·omega) (.inl hXn) hnD hnt ABj hle Vy fun g Y Wg Rg Ug hY fg=>ap g Y Wg Rg Ug hY h4 x4 fg
 have hDr:∀ r,h.next<=r->¬ A.D r:=fun r hr h=>by have:=hD _ h;omega
 have R45:=f5.row x4.wf R4 (fun h=>by
  rcases h with h|h
  ·exact hDr _ l4 h
  ·omega)
 obtain⟨h6,st6,f6,R6⟩:=EE (lf:=lf) (sq:=sq) (op:=op) (err:=z) (iv:=iv) (bw:=bw) (room:=room) f5.wf R45 rfl (by omega) hi hw;obtain⟨e2,q1,q2,q3⟩:=ZC (m:=m+8) R3 o1 o6 p2 p3 p4 k5 st6;have U6:=UpX.wr f5.wf U5 (.inr rfl) R45 R6 f6 (hDr _ l4) (by omega) FA;refine⟨z,iv,bw,room,h6,ks',fr',?_,Fx.drop (((Fx.of x4).trans (f5.mono fun b hb=>.inl hb)).trans (f6.mono fun b hb=>.inr (by omega))),f6.row f5.wf Rn5 (by omega),U6.less fun b hb=>.inl hb,hz,hi,hw,Vy _ _ _ _ _ _ _ _ _ hq x4.next f5.wf (f6.mono fun b hb=>by omega)⟩;rw[Se rfl,p1,q1,Ay,Dv (v:=Bs lf sq op z iv bw room) (by rw[q2];exact C2 R6),q3]
theorem nk(W:h.Wf)(hA:A.n=24)(Rn:h.Row nb 0 (AB0 A.bd A.tb A.bs ABs))(U:UpX X h A T ks fr (k+40))(hX:∀ b,X b->b<h.next)(hXn:X nb)(hnD:¬ A.D nb)(hnt:A.tb≠nb)(ABj:256<=nb)(V:h.VE u (l.map bv))(hb:∀ x∈l,x<256)(hl:l.length<=1000)(huo:∀ b,ABw u b->b≠nb)(hr:DA lf sq op a b c l.length=true)(hle:ABs<=lf):
  ∃ z iv bw room h' ks' fr',call AC (m+12) 11 [pt nb,CO lf sq op a b c u] h=.ok (.tuple ⟨[Bs lf sq op z iv bw room,AI AT 0]⟩) h'/\Fx (fun b=>A.D b\/b=nb) h h'/\h'.Row nb 0 (AB0 A.bd A.tb A.bs lf)/\UpX X h' A T ks' fr' k/\(z≠120/\room=(fr'.length:Int))/\oneCell iv=true/\oneCell bw=true/\Rdn T ks fr op a b c l h.next h' z iv bw ks' fr':=by
 obtain⟨o1,o6,_⟩:=Kk hr;exact nh (m:=m) W hA Rn U hX hXn hnD hnt ABj V hr hle fun g Y Wg Rg Ug hY g0 x0 fg=>qo (m:=m) Wg hA Rg Ug hY ((V.ext W x0).fx x0.wf fg huo) hb hl o1 o6
end
end
noncomputable section
open Go
set_option maxRecDepth 100000
structure Ak where
 lf:Int
 sq:Int
 op:Nat
 a:Int
 b:Int
 c:Int
 u:IN
 l:List Nat
def Ak.cells(x:Ak):List IN:=CJ x.lf x.sq x.op x.a x.b x.c x.u
def Ak.val(x:Ak):IN:=CO x.lf x.sq x.op x.a x.b x.c x.u
def ADk(h:Hp)(x:Ak):Prop:=h.VE x.u (x.l.map bv)/\(∀ y∈x.l,y<256)/\oneCell x.u=true/\x.op<256
def flA(xs:List Ak):List IN:=xs.flatMap Ak.cells
def Hp.KL(h:Hp)(k:Nat)(v:IN)(xs:List Ak):Prop:=(v=ABc/\xs=[])\/∃ b,v=.slice (some ⟨b,0,none⟩) xs.length xs.length/\h.Row b 37 (flA xs)/\k<=b
structure AFl (h:Hp)(v:IN)(n cap:Nat):Prop where
 len:∀ g:Hp,AB2 v g=.ok (AI AT (n:Int)) g
 get:∀ i,i<n->i<cap->∃ (r:Nat) (x:Ak),(∀ g:Hp,h.Ext g->ACN 7 v (AI AT (i:Int)) g=.ok (.pointer (some ⟨r,i*7,none⟩)) g/\loadN 7 ⟨r,i*7,none⟩ g=.ok x.val g/\ABa ⟨r,i*7+6,none⟩ g=.ok x.u g)/\ADk h x
theorem Oy:∀ xs:List Ak,(flA xs).length=xs.length*7
 |[]=>rfl
 |x::l=>by
  show(x.cells++flA l).length=_;rw[No,Oy l,tZ];show 7+l.length*7=_;omega
theorem Uu:∀ (xs:List Ak) (i:Nat) (x:Ak),xs[i]? =some x->((flA xs).drop (i*7)).take 7=x.cells
 |[],i,x,h=>by cases h
 |y::xs,0,x,h=>by
  have h:some y=some x:=h;cases h;rfl
 |y::xs,i+1,x,h=>by
  show((y.cells++flA xs).drop ((i+1)*7)).take 7=_;rw[AAW,vC (show y.cells.length<=_ by show 7<=_;omega),uN,show(i+1)*7 - y.cells.length=i*7 by show(i+1)*7 - 7=_;omega];exact Uu xs i x h
theorem ZU:fwK=BB (AY 1 fwB) fwI:=rfl
theorem S2:fwL=ZV:=rfl
theorem oJ:fwS=BB (AY 0 (A4 fwL)) fwE:=rfl
theorem mT:d10=mU:=rfl
theorem ia:BO NH.zero 1=CJ 0 0 0 0 0 0 ABc:=by kernel_rfl
theorem J2:Bo .mt 0 (CJ 0 0 0 0 0 0 ABc)=some LP:=by kernel_rfl
section
variable {F:ABZ}{e:Env}{h h' h0 g:Hp}{S:Nat->Prop}{m k n:Nat}{v:IN}{xs:List Ak}{x:Ak}
theorem YB(W:h.Wf){g:O}(hg:g e=x.val):Ab 1 (BO NH.zero 1) [(0,7,g)] F e h=.ok (.slice (some ⟨h.next,0,none⟩) 1 1) (h.ABY 0 x.cells):=by
 rw[ia,Bq,Ad (hk:=by rw[hg];rfl),hg,show cellsOf x.val=x.cells from rfl,if_pos (show x.cells.length=7 from rfl),if_pos (show 0+7<=(CJ 0 0 0 0 0 0 ABc).length from If _),Bg,CQ W];rfl
theorem Ak.one(x:Ak)(hu:oneCell x.u=true):BX x.cells=true:=by
 show(bif oneCell x.u then true else false)=true;rw[hu];rfl
theorem Hp.KL.fx(o:h.KL k v xs)(W:h.Wf)(f:Fx S h h')(hS:∀ b,k<=b->¬ S b):h'.KL k v xs:=by
 rcases o with h1|⟨b,h1,h2,h3⟩
 ·exact .inl h1
 ·exact .inr ⟨b,h1,f.row W h2 (hS b h3),h3⟩
theorem Hp.KL.len(o:h.KL k v xs)(g:Hp):AB2 v g=.ok (AI AT (xs.length:Int)) g:=by
 rcases o with ⟨rfl,rfl⟩|⟨b,rfl,_⟩
 ·exact EC
 ·exact EC
theorem Hp.KL.at(o:h.KL k v xs){i:Nat}(hi:xs[i]? =some x):∃ b,ACN 7 v (AI AT (i:Int)) h=.ok (.pointer (some ⟨b,i*7,none⟩)) h/\loadN 7 ⟨b,i*7,none⟩ h=.ok x.val h:=by
 have hil:=(uK.1 hi).1;rcases o with ⟨rfl,rfl⟩|⟨b,rfl,h2,h3⟩
 ·cases hi
 ·refine⟨b,?_,?_⟩
  ·have:=Ch (h:=h) (n:=xs.length) (c:=xs.length) (es:=7) (b:=b) (off:=0) (i:=i) (k:=.i64) hil
   rwa [sh]at this
  ·rw[h2.loadN (by rw[Oy];omega),Uu xs i x hi];rfl
theorem Hp.KL.app(o:h.KL k v xs)(W0:h0.Wf)(x0:h0.Ext h)(hk:h0.next<=k)(hkn:k<=h.next)(hl:xs.length<=1000)(hu:oneCell x.u=true):
  ∃ h' v',DN 7 72 36 v (.slice (some ⟨h.next,0,none⟩) 1 1) (h.ABY 0 x.cells)=.ok v' h'/\h0.Ext h'/\h'.KL k v' (xs++[x]):=by
 have W:=x0.wf;have x1:=x0.ABY 0 x.cells;have y1:=(Hp.Ext.refl W).ABY 0 x.cells;have Rw:=Hp.Row.new W 0 x.cells;have hn1:h.next<=(h.ABY 0 x.cells).next:=y1.next;have big:=W0.big;generalize h.ABY 0 x.cells=h1 at x1 y1 Rw hn1;have hs:∀ K:List IN->R,BI h1 7 (.slice (some ⟨h.next,0,none⟩) 1 1) 1 K=K x.cells:=fun K=>Rw.ADZ (es:=7) (off:=0) (n:=1) (by show 0+1 * 7<=7;omega)
 have ha:=x.one hu;rcases o with ⟨rfl,rfl⟩|⟨b,rfl,r,hb⟩
 ·obtain⟨h5,a1,a2,a3,a4,_,a6⟩:=Jd (eb:=72) (en:=36) x1 hs rfl rfl ha (by omega)
  exact⟨h5,_,a1,a2,.inr ⟨_,rfl,by rw[show flA ([]++[x])=x.cells from uH _];exact a3,by omega⟩⟩
 ·obtain⟨h5,a1,a2,a3,_,_,a6⟩:=Nx (eb:=72) (en:=36) (n:=xs.length) x1 hs rfl rfl (by omega) ha (r.ext W y1) (Oy xs) (by omega) (by omega) (by omega)
  refine⟨h5,_,a1,a2,.inr ⟨_,by rw[No];rfl,?_,by omega⟩⟩;rw[show flA (xs++[x])=flA xs++x.cells by unfold flA;rw[zu];exact congrArg _ (uH _)];exact a3
theorem oE(W:h.Wf)(hb:h0.Ext h)(W0:h0.Wf)(O:AFl h0 v n 25):∃ h' v' xs,call AC (m+1) 10 [v] h=.ok v' h'/\h.Ext h'/\h'.KL h.next v' xs/\xs.length<=25/\∀ x∈xs,ADk h0 x/\x.l.length<=150:=by
 obtain⟨e1,p1,s0,s3,s4⟩:∃ e1,d10 (call AC m) (As e0 0 [v]) h=fwS (call AC m) e1 h/\J 0 e1=v/\J 3 e1=ABc/\J 4 e1=AI AT ((0:Nat):Int):=by
  rw[mT];unfold mU;simp only[iN,IT,sT,By,BY,reduceIte];exact⟨_,rfl,by simp[AG]⟩
 have run:∃ e2 h2 xs,A4 fwL (call AC m) e1 h=.exit 0 e2 h2/\h.Ext h2/\h2.KL h.next (J 3 e2) xs/\xs.length<=25/\∀ x∈xs,ADk h0 x/\x.l.length<=150:=by
  refine Bb (I:=fun i e' h'=>∃ xs,h.Ext h'/\J 0 e'=v/\J 4 e'=AI AT (i:Int)/\i<=25/\h'.KL h.next (J 3 e') xs/\xs.length<=i/\∀ x∈xs,ADk h0 x/\x.l.length<=150)
   (Q:=fun x=>∃ e2 h2 xs,x=.exit 0 e2 h2/\h.Ext h2/\h2.KL h.next (J 3 e2) xs/\xs.length<=25/\∀ x∈xs,ADk h0 x/\x.l.length<=150) 25 (by omega) (fun i e' h' ⟨xs,x',t0,t4,hi,K,hl,hx⟩=>?_) ⟨[],.refl W,s0,s4,uD _,.inl ⟨s3,rfl⟩,If _,fun x hx=>by cases hx⟩
  have W':=x'.wf;have ln:=O.len h';have done:(∃ e2,fwL (call AC m) e' h'=.exit 0 e2 h'/\J 3 e2=J 3 e')->(ZM (fwL (call AC m) e' h')=true/\∃ e2 h2 xs,fwL (call AC m) e' h'=.exit 0 e2 h2/\h.Ext h2/\h2.KL h.next (J 3 e2) xs/\xs.length<=25/\∀ x∈xs,ADk h0 x/\x.l.length<=150):=fun⟨e2,r1,r2⟩=>by
   rw[r1];exact⟨rfl,e2,h',xs,rfl,x',by rw[r2];exact K,by omega,hx⟩
  by_cases hin:i<n
  ·have c1:=EP hin
   by_cases AEi:i<25
   ·left
    have c2:iLt (i:Int) 25=true:=HZ (by omega);obtain⟨r2,x,hop,ok⟩:=O.get i hin AEi;obtain⟨q1,q2,q3⟩:=hop h' (hb.trans x');have a3:=fun g:Hp=>Cd (i:=i) (h:=g) (by omega)
    have vl:=ok.1.bl h';obtain⟨e2,r1,u0,u3,u4⟩:∃ e2,fwL (call AC m) e' h'=fwK (call AC m) e2 h'/\J 0 e2=v/\J 3 e2=J 3 e'/\J 4 e2=AI AT (i:Int):=by
     rw[S2];unfold ZV;simp only[sT,By,BY,reduceIte,gD,AX,t0,ln,AK,AJ,t4,c1,c2];exact⟨_,rfl,by simp[AG,t0,t4]⟩
    have fin:∀ (e3:Env) (h3:Hp),J 4 e3=AI AT (i:Int)->∃ e4,fwI (call AC m) e3 h3=.norm e4 h3/\J 4 e4=AI AT ((i+1:Nat):Int)/\J 0 e4=J 0 e3/\J 3 e4=J 3 e3:=fun e3 h3 r5=>by
     unfold fwI;simp only[sT,By,BY,reduceIte,BR,r5,a3];exact⟨_,rfl,by simp[AG]⟩
    by_cases AEN:x.l.length<=150
    ·have c3:iLe (x.l.length:Int) 150=true:=GW (by omega)
     have sl:=fun (F:ABZ) (e:Env) (he:J 26 e=x.val)=>YB (F:=F) (e:=e) (x:=x) W' he
     obtain⟨h5,v5,k5,x5,K5⟩:=K.app (x:=x) W x' (If _) x'.next (by omega) ok.2.2.1;obtain⟨e3,r3,w0,w3,w4⟩:∃ e3,fwB (call AC m) e2 h'=.norm e3 h5/\J 0 e3=v/\J 3 e3=v5/\J 4 e3=AI AT (i:Int):=by
      unfold fwB;simp only[sT,By,BY,reduceIte,BA,u0,u4,q1,AH,AO,AN,AQ,q3,AX,vl,AK,AJ,c3,Ap,Aj,q2,sl,BZ,u3,k5];exact⟨_,rfl,by simp[AG,u0,u4]⟩
     obtain⟨e4,f1,f2,f3,f4⟩:=fin e3 h5 w4;refine⟨AEi,e4,h5,?_,xs++[x],x5,f3.trans w0,f2,AEi,by rw[f4,w3];exact K5,by rw[No];show xs.length+1<=_;omega,fun z hz=>?_⟩
     ·rw[r1,ZU]
      simp only[A9,An,r3,Bt,A3,f1]
     ·rcases List.mem_append.1 hz with hz|hz
      ·exact hx z hz
      ·rw[List.mem_singleton.1 hz];exact⟨ok,AEN⟩
    ·have c3:iLe (x.l.length:Int) 150=false:=K2 (by omega)
     obtain⟨e3,r3,w0,w3,w4⟩:∃ e3,fwB (call AC m) e2 h'=.norm e3 h'/\J 0 e3=v/\J 3 e3=J 3 e2/\J 4 e3=AI AT (i:Int):=by
      unfold fwB;simp only[sT,By,BY,reduceIte,BA,u0,u4,q1,AH,AO,AN,AQ,q3,AX,vl,AK,AJ,c3];exact⟨_,rfl,by simp[AG,u0,u4]⟩
     obtain⟨e4,f1,f2,f3,f4⟩:=fin e3 h' w4;refine⟨AEi,e4,h',?_,xs,x',f3.trans w0,f2,AEi,by rw[f4,w3,u3];exact K,by omega,hx⟩;rw[r1,ZU];simp only[A9,An,r3,Bt,A3,f1]
   ·right
    have c2:iLt (i:Int) 25=false:=E5 (by omega);refine done ?_;rw[S2];unfold ZV;simp only[sT,By,BY,reduceIte,gD,AX,t0,ln,AK,AJ,t4,c1,c2];exact⟨_,rfl,by simp[AG]⟩
  ·right
   have c1:=Cv (show n<=i by omega);refine done ?_;rw[S2];unfold ZV;simp only[sT,By,BY,reduceIte,gD,AX,t0,ln,AK,AJ,t4,c1];exact⟨_,rfl,by simp[AG]⟩
 obtain⟨e2,h2,xs,r1,x2,K,hl,hx⟩:=run;refine⟨h2,_,xs,?_,x2,K,hl,hx⟩;rw[kI rfl,p1,oJ];simp only[A9,An,r1,A8,A3];unfold fwE;simp only[sT,By,BY,reduceIte,lV0]
end
end
noncomputable section
open Go Go.RowKit Go.WideShapes Go.ChangeShapes
set_option maxRecDepth 100000
theorem YN{W:uS}{a:Addr}{v:IN}(h:W.cell? a=some v):a.spot=none/\∃ cs tt fr,W.heap[a.block]? =some (.cells cs tt fr)/\cs[a.off]? =some v:=by
 unfold World.cell? at h;split at h
 ·rename_i cs tt fr hb
  split at h
  ·cases h
  ·rename_i hs
   refine⟨?_,cs,tt,fr,hb,h⟩;cases hsp:a.spot with
   |none=>rfl
   |some s=>rw[hsp]at hs;exact(hs rfl).elim
 ·cases h
theorem bK{W:uS}{a:Addr}{L:List IN}{cs:Array IN}{tt:TypeId}{fr:Nat×Nat}(hb:W.heap[a.block]? =some (.cells cs tt fr))(hc:∀ j,j<L.length->cs[a.off+j]? =some (L.getD j ABd))(hf:∀ j,j<L.length->W.frozen? ⟨a.block,a.off+j,none⟩=false):Ks W a L:=by
 refine⟨cs,tt,fr,hb,hc,fun i hi hh=>?_⟩;have h6:=hf i hi;obtain⟨lo,hi'⟩:=fr;simp only[World.frozen?,hb]at h6;simp only at hh;simp only[Bool.and_eq_false_iff,decide_eq_false_iff_not]at h6;omega
theorem VW{α:Type}{Q:Nat->α->Prop}:∀ n,(∀ i,i<n->∃ x,Q i x)->∃ xs:List α,xs.length=n/\∀ i x,xs[i]? =some x->Q i x
 |0,_=>⟨[],rfl,fun i x h=>by cases h⟩
 |n+1,h=>by
  obtain⟨xs,hl,hx⟩:=VW n fun i hi=>h i (by omega)
  obtain⟨y,hy⟩:=h n (by omega);refine⟨xs++[y],by rw[No,hl];rfl,fun i x hi=>?_⟩;rcases uG i xs.length with h1|h1
  ·rw[uJ h1]at hi;exact hx i x hi
  ·rw[uI h1]at hi
   have h2:i - xs.length< [y].length:=(uK.1 hi).1;have h2:i - xs.length<1:=h2;have h3:i - xs.length=0:=by omega
   rw[h3]at hi;cases hi;rw[show i=n by omega];exact hy
theorem GT{s:Nat}:∀ {Ls:List (List IN)},(∀ l∈Ls,l.length=s)->Ls.flatten.length=Ls.length*s
 |[],_=>by simp
 |l::Ls,h=>by
  rw[vg,No,h l te,GT fun x hx=>h x (td _ hx),tZ,xH,AAc]
theorem Qc{s:Nat}:∀ {Ls:List (List IN)} {i r:Nat} {l:List IN},(∀ l∈Ls,l.length=s)->Ls[i]? =some l->r<s->Ls.flatten[i*s+r]? =l[r]?
 |[],i,_,_,_,h,_=>by cases h
 |x::Ls,0,r,l,h,hi,hr=>by
  cases hi;rw[vg,wK,sh,uJ (by rw[h x te];exact hr)]
 |x::Ls,i+1,r,l,h,hi,hr=>by
  have hx:=h x te;rw[vg,uI (by rw[hx,xH];omega),hx];have:(i+1)*s+r - s=i*s+r:=by rw[xH];omega
  rw[this];exact Qc (fun y hy=>h y (td _ hy)) hi hr
theorem Nr{s:Nat}:∀ {Ls:List (List IN)} {i:Nat} {l:List IN} (R:List IN),(∀ l∈Ls,l.length=s)->Ls[i]? =some l->((Ls.flatten++R).drop (i*s)).take s=l
 |[],i,_,_,_,h=>by cases h
 |x::Ls,0,l,R,h,hi=>by
  cases hi;rw[wK,uv,vg,uC];exact List.take_left' (h x te)
 |x::Ls,i+1,l,R,h,hi=>by
  have hx:=h x te;have:(i+1)*s=s+i*s:=by rw[xH,AAc]
  rw[this,<- List.drop_drop,vg,uC,List.drop_left' hx];exact Nr R (fun y hy=>h y (td _ hy)) hi
def J4(W:uS)(Q:List IN->Prop)(s:Nat)(v:IN)(n:Nat)(Ls:List (List IN)):Prop:=(∀ l∈Ls,l.length=s/\Q l)/\n<=Ls.length/\
 ((v=ABc/\Ls=[])\/(∃ a,v=.slice (some a) 0 0/\Ls=[])\/∃ a,v=.slice (some a) n Ls.length/\0<Ls.length/\a.spot=none/\Ks W a Ls.flatten)
theorem Pd{H:Type}{enc:TypeId×IN->H}{P:Program}{t e:TypeId}{s:Nat}(ht:P.underlying t=some (.slice e))(hs:P.cellsOf e=s)(h0:0<s){W:uS}{fuel:Nat}{v:IN}{x:DataW H×List MemPlace}{Q:List IN->Prop}
  (dec:∀ (m:Nat) (l:List IN) (y:DataW H×List MemPlace),l.length=s->vu enc P W 0 (fun _=>true) true m e l=some y->(∀ b off,xF b off∈y.2->W.frozen? ⟨b,off,none⟩=false)->Q l)
  (hf:vu enc P W 0 (fun _=>true) true fuel t [v]=some x)(hfz:∀ b off,xF b off∈x.2->W.frozen? ⟨b,off,none⟩=false):∃ n Ls,J4 W Q s v n Ls:=by
 rcases DataW.trod_slice ht hf with ⟨hcs,_⟩|⟨a,n,c,elems,rest,m,_,hcs,hx,_,hl,hm,hlen,hel,hsp,_⟩
 ·have:v=ABc:=by simpa using hcs
  exact⟨0,[],(fun l hl=>by cases hl),If _,.inl ⟨this,rfl⟩⟩
 ·have:v=.slice (some a) n c:=by simpa using hcs
  subst this;obtain⟨hrl,hr⟩:=hsp rfl;subst hx;rcases Nat.eq_zero_or_pos c with hc|hc
  ·subst hc
   have:n=0:=by omega
   subst this;exact⟨0,[],(fun l hl=>by cases hl),If _,.inr (.inl ⟨a,rfl,rfl⟩)⟩
  ·have htot:(elems++rest).length=c:=by rw[No];omega
   have each:∀ i,i<c->∃ l:List IN,(l.length=s/\Q l)/\∀ j,j<s->W.cell? ((a.add (i*s)).add j)=l[j]?:=fun i hi=>by
    have hi':i<(elems++rest).length:=by omega
    have hb:(W.cells? 0 (a.add (i*P.cellsOf e)) (P.cellsOf e)).bind (vu enc P W 0 (fun _=>true) true m e)=some ((elems++rest)[i]'hi'):=by
     rcases uG i n with h4|h4
     ·have:=hel i h4
      rw[this,<- tW hi',uJ (by omega)]
     ·have:=hr (i - n) (by omega)
      rw[show n+(i - n)=i by omega]at this;rw[this,<- tW hi',uI (by omega),hlen]
    rw[hs,Option.bind_eq_some_iff]at hb;obtain⟨l,h4,h5⟩:=hb;obtain⟨_,h6,h7⟩:=World.cells?_some h4;exact⟨l,⟨h6,dec m l _ h6 h5 fun b off hm=>hfz b off (List.mem_append_right _ (List.mem_flatMap.2 ⟨_,wl hi',hm⟩))⟩,h7⟩
   obtain⟨Ls,hLl,hLs⟩:=VW c each;have hall:∀ l∈Ls,l.length=s/\Q l:=fun l hl=>by
    obtain⟨i,hi,rfl⟩:=List.mem_iff_getElem.1 hl;exact(hLs i _ (tW hi)).1
   have hls:∀ l∈Ls,l.length=s:=fun l hl=>(hall l hl).1
   have hz:0<Ls.length:=by omega
   have c0:=(hLs 0 _ (tW hz)).2 0 h0;have hl0:0<(Ls[0]'hz).length:=by rw[hls _ (wl hz)];exact h0
   rw[tW hl0,wK]at c0;have c0:W.cell? a=some ((Ls[0]'hz)[0]'hl0):=c0;obtain⟨AGV,cs,tt,fr,hb,_⟩:=YN c0;obtain⟨ab,ao,spot⟩:=a;simp only at AGV;subst AGV;have hfl:=GT hls;refine⟨n,Ls,hall,by omega,.inr (.inr ⟨⟨ab,ao,none⟩,by rw[hLl],hz,rfl,bK hb (fun j hj=>?_) fun j hj=>hfz ab (ao+j) (List.mem_append_left _ ?_)⟩)⟩
   ·rw[hfl]at hj
    have hi:j/s<Ls.length:=Nat.div_lt_of_lt_mul (by rw[wP];exact hj);have hr:j % s<s:=Nat.mod_lt _ h0;have e:j/s*s+j % s=j:=by rw[wP];exact Nat.div_add_mod j s
    have hx:=tW hi;have q:=(hLs _ _ hx).2 _ hr;have g:=Qc hls hx hr;rw[e]at g;have hll:j % s<(Ls[j/s]'hi).length:=by rw[hls _ (wl hi)];exact hr
    rw[tW hll]at q g;rw[Addr.ACa,Addr.ACa,JK hb]at q;rw[tY,g];show cs[ao+j]? =some _;have:ao+j/s*s+j % s=ao+j:=by omega
    rw[<- this];exact q
   ·simp only[MemPlace.row,vL,List.mem_range]
    exact⟨j,by rw[hfl]at hj;rw[hs,hlen,hrl,show n+(c - n)=c by omega,<- hLl];exact hj,rfl⟩
theorem WE{φ:Phi}{a:Addr}{n c i m:Nat}(hs:a.spot=none)(hn:n<=c)(hc:0<c)(hm:0<m)(hp:φ i=some (PZ a m)):ABe φ (.slice (some ⟨i,0,none⟩) n c) (.slice (some a) n c):=by
 refine .slice hn ⟨rfl,hs,_,hp,rfl,.inl ⟨hc,?_,.inl rfl⟩⟩;show a.off=(if m=0 then 0 else a.off)+0;rw[if_neg (by omega),Nat.add_zero]
theorem J4.rel{W:uS}{Q:List IN->Prop}{s n:Nat}{v:IN}{Ls:List (List IN)}(b:J4 W Q s v n Ls)(h0:0<s)(rf:∀ l,Q l->∀ φ,ABv φ l l)(i:Nat):∃ (u:IN) (q:Option Pl),X4 W Ls.flatten q/\(∀ φ,ABv φ Ls.flatten Ls.flatten)/\(∀ φ:Phi,φ i=q->ABe φ u v)/\
  ((u=ABc/\Ls=[])\/(u=.chan (some 0)/\Ls=[])\/u=.slice (some ⟨i,0,none⟩) n Ls.length):=by
 obtain⟨h1,h2,h3⟩:=b;have ACE:∀ φ,ABv φ Ls.flatten Ls.flatten:=fun φ=>by
  clear h2 h3
  induction Ls with
  |nil=>exact .nil
  |cons l Ls ih=>
   rw[vg];exact(rf l (h1 l te).2 φ).append (ih fun l hl=>h1 l (td _ hl))
 rcases h3 with ⟨rfl,rfl⟩|⟨a,rfl,rfl⟩|⟨a,rfl,h4,h5,h6⟩
 ·exact⟨ABc,none,.inl rfl,ACE,fun _ _=>.ACR,.inl ⟨rfl,rfl⟩⟩
 ·have:n=0:=by simpa using h2
  subst this;exact⟨.chan (some 0),none,.inl rfl,ACE,fun _ _=>.ADl,.inr (.inl ⟨rfl,rfl⟩)⟩
 ·have hfl:=GT fun l hl=>(h1 l hl).1
  refine⟨.slice (some ⟨i,0,none⟩) n Ls.length,some (PZ a Ls.flatten.length),.inr ⟨a,rfl,h6⟩,ACE,fun φ hφ=>WE h5 h2 h4 (by rw[hfl];exact Nat.mul_pos h4 h0) hφ,.inr (.inr rfl)⟩
def QB(l:List IN):Prop:=∃ x:Nat,l=[bv x]/\x<256
theorem X6{l:List IN}(h:QB l)(φ:Phi):ABv φ l l:=by
 obtain⟨x,rfl,_⟩:=h;exact .cons (.int _ _) .nil
theorem RF:∀ xs:List Nat,(xs.map fun x=>[bv x]).flatten=xs.map bv
 |[]=>rfl
 |a::xs=>by rw[List.map_cons,vg,RF xs];rfl
theorem Ng:∀ {Ls:List (List IN)},(∀ l∈Ls,QB l)->∃ xs:List Nat,Ls=xs.map (fun x=>[bv x])/\∀ x∈xs,x<256
 |[],_=>⟨[],rfl,fun x hx=>by cases hx⟩
 |l::Ls,h=>by
  obtain⟨x,rfl,hx⟩:=h l te;obtain⟨xs,rfl,hxs⟩:=Ng fun l hl=>h l (td _ hl)
  exact⟨x::xs,rfl,fun y hy=>by
   rcases uA.1 hy with rfl|hy
   ·exact hx
   ·exact hxs y hy⟩
theorem YS{W:uS}{v:IN}{n:Nat}{Ls:List (List IN)}(b:J4 W QB 1 v n Ls):∃ l:List Nat,(∀ x∈l,x<256)/\∀ (i:Nat) (u:IN),((u=ABc/\Ls=[])\/(u=.chan (some 0)/\Ls=[])\/u=.slice (some ⟨i,0,none⟩) n Ls.length)->∀ h:Hp,h.Row i 0 Ls.flatten->h.VE u (l.map bv):=by
 obtain⟨h1,h2,_⟩:=b;obtain⟨xs,rfl,hxs⟩:=Ng fun l hl=>(h1 l hl).2
 rw[OF]at h2;refine⟨xs.take n,fun x hx=>hxs x (vQ hx),fun i u hu h hr=>?_⟩;rw[RF]at hr;rcases hu with ⟨rfl,hx⟩|⟨rfl,hx⟩|rfl
 ·have:xs=[]:=by simpa using hx
  subst this;exact .inl (.inl ⟨rfl,by simp⟩)
 ·have:xs=[]:=by simpa using hx
  subst this;exact .inr ⟨⟨0,rfl⟩,by simp⟩
 ·have hl:(xs.take n).length=n:=by rw[uL];omega
  refine .inl (.inr ⟨i,0,(xs.map fun x=>[bv x]).length,0,xs.map bv,?_,hr,?_,?_⟩)
  ·rw[OF,OF,hl]
  ·rw[OF,hl,OF];omega
  ·rw[OF,hl,uv,AAu]
structure AD where
 lf:Int
 sq:Int
 op:Nat
 a:Int
 b:Int
 c:Int
 u:IN
def AD.cells(x:AD):List IN:=CJ x.lf x.sq x.op x.a x.b x.c x.u
def X3(W:uS)(x:AD):Prop:=(∃ n Ls,J4 W QB 1 x.u n Ls)/\x.op<256
theorem cf{φ:Phi}{lf sq a b c:Int}{op:Nat}{ui vi:IN}(h1:ABe φ ui vi):ABv φ (CJ lf sq op a b c ui) (CJ lf sq op a b c vi):=
 .cons (.int _ _) (.cons (.int _ _) (.cons (.int _ _) (.cons (.int _ _) (.cons (.int _ _) (.cons (.int _ _) (.cons h1 .nil))))))
theorem gW{u:IN}{P Q:Prop}{i n m:Nat}(h:(u=ABc/\P)\/(u=.chan (some 0)/\Q)\/u=.slice (some ⟨i,0,none⟩) n m):oneCell u=true:=by
 rcases h with ⟨rfl,_⟩|⟨rfl,_⟩|rfl<;>rfl
theorem P3{W:uS}:∀ (xs:List AD),(∀ x∈xs,X3 W x)->∀ k:Nat,∃ (us:List AD) (qs:List (Option Pl)) (Zs:List (List IN)),us.length=xs.length/\qs.length=xs.length/\Zs.length=xs.length/\
  (∀ (i:Nat) (q:Option Pl) (L:List IN),qs[i]? =some q->Zs[i]? =some L->X4 W L q/\∀ φ,ABv φ L L)/\(∀ φ:Phi,(∀ (i:Nat) (q:Option Pl),qs[i]? =some q->φ (i+k)=q)->ABv φ (us.flatMap AD.cells) (xs.flatMap AD.cells))/\
  (∀ h:Hp,(∀ (i:Nat) (L:List IN),Zs[i]? =some L->h.Row (i+k) 0 L)->∀ u∈us,∃ l:List Nat,h.VE u.u (l.map bv)/\(∀ x∈l,x<256)/\oneCell u.u=true/\u.op<256)
 |[],_,k=>⟨[],[],[],rfl,rfl,rfl,(fun i q L h=>by cases h),(fun φ _=>.nil),fun h _ x hx=>by cases hx⟩
 |x::xs,hx,k=>by
  obtain⟨us,qs,Zs,l1,l2,l3,h1,h2,h3⟩:=P3 xs (fun y hy=>hx y (td _ hy)) (k+1);obtain⟨⟨n,LI,bI⟩,hop⟩:=hx x te;obtain⟨ui,q0,i1,i2,i3,i4⟩:=bI.rel (by omega) (fun l h φ=>X6 h φ) k;obtain⟨lb,hlb,hB⟩:=YS bI;refine⟨⟨x.lf,x.sq,x.op,x.a,x.b,x.c,ui⟩::us,q0::qs,LI.flatten::Zs,by rw[tZ,tZ,l1],by rw[tZ,tZ,l2],by rw[tZ,tZ,l3],fun i q' L e1 e2=>?_,fun φ hφ=>?_,fun h hr y hy=>?_⟩
  ·match i,e1,e2 with
   |0,e1,e2=>cases e1;cases e2;exact⟨i1,i2⟩
   |i+1,e1,e2=>exact h1 i q' L e1 e2
  ·rw[AAM,AAM]
   refine(cf (i3 φ (by have:=hφ 0 q0 rfl;rwa [sh]at this))).append (h2 φ fun i q' e=>?_);have:=hφ (i+1) q' e
   rwa [show i+1+k=i+(k+1)by omega]at this
  ·rcases uA.1 hy with rfl|hy
   ·exact⟨lb,hB k ui i4 h (by have:=hr 0 _ rfl;rwa [sh]at this),hlb,gW i4,hop⟩
   ·refine h3 h (fun i L e=>?_) y hy
    have:=hr (i+1) L e
    rwa [show i+1+k=i+(k+1)by omega]at this
theorem WW(φ:Phi):∀ L:List IN,ABv φ (th L.length (yS none)) L
 |[]=>.nil
 |_::L=>.cons .unk (WW φ L)
def X5(W:uS)(φ:Phi)(L:List IN)(q:Option Pl):Prop:=q=none\/∃ a L',q=some (PZ a L.length)/\Ks W a L'/\ABv φ L L'
theorem X4.AGW{W:uS}{φ:Phi}{L:List IN}{q:Option Pl}(h:X4 W L q)(r:ABv φ L L):X5 W φ L q:=by
 rcases h with h|⟨a,ha,hr⟩
 ·exact .inl h
 ·exact .inr ⟨a,L,ha,hr,r⟩
theorem bL{W:uS}{ty:TTy}{ps:List (Option Pl)}{Ls:List (List IN)}(ABj:Ls.length<=256)(hlen:ps.length=Ls.length)
  (h:∀ (i:Nat) (q:Option Pl) (L:List IN),ps[i]? =some q->Ls[i]? =some L->X5 W (MR ps) L q):ABh ty (MR ps) nil (inH Ls) W:=
 oq ABj fun i p e=>by
  have e:(ps[i]?).getD none=some p:=e;cases hq:ps[i]? with
  |none=>rw[hq]at e;cases e
  |some q=>
   rw[hq]at e;have e:q=some p:=e;subst e;have hi:=(uK.1 hq).1;have hL:=tW (l:=Ls) (i:=i) (by omega);rcases h i _ _ hq hL with h|⟨a,L',ha,hr,hrl⟩
   ·cases h
   ·obtain rfl:=Option.some.inj ha
    exact⟨a,_,rfl,hL,hr.lt,aq hr hrl⟩
theorem Hy(xs:List AD):xs.flatMap AD.cells=(xs.map AD.cells).flatten:=by rw[List.flatMap_def]
theorem cg{W:uS}{v:IN}{n:Nat}{Ls:List (List IN)}(b:J4 W (fun l=>∃ x:AD,l=x.cells/\X3 W x) 7 v n Ls)(i k cap:Nat):
  ∃ (u:IN) (q:Option Pl) (L0:List IN) (qs:List (Option Pl)) (Zs:List (List IN)),qs.length=min n cap/\Zs.length=min n cap/\
  (∀ φ:Phi,φ i=q->(∀ (j:Nat) (q':Option Pl),qs[j]? =some q'->φ (j+k)=q')->X5 W φ L0 q/\ABe φ u v)/\(∀ (j:Nat) (q':Option Pl) (L:List IN),qs[j]? =some q'->Zs[j]? =some L->X4 W L q'/\∀ φ,ABv φ L L)/\
  (∀ h:Hp,h.Wf->h.Row i 0 L0->(∀ (j:Nat) (L:List IN),Zs[j]? =some L->h.Row (j+k) 0 L)->AFl h u n cap):=by
 obtain⟨h1,h2,h3⟩:=b;rcases h3 with ⟨rfl,rfl⟩|⟨a,rfl,rfl⟩|⟨a,rfl,h4,h5,h6⟩
 ·have:n=0:=by simpa using h2
  subst this;exact⟨ABc,none,[],[],[],by simp,by simp,fun φ _ _=>⟨.inl rfl,.ACR⟩,(fun j q' L h=>by cases h),fun h _ _ _=>⟨fun g=>rfl,fun i hi=>absurd hi (yL _)⟩⟩
 ·have:n=0:=by simpa using h2
  subst this;exact⟨.chan (some 0),none,[],[],[],by simp,by simp,fun φ _ _=>⟨.inl rfl,.ADl⟩,(fun j q' L h=>by cases h),fun h _ _ _=>⟨fun g=>rfl,fun i hi=>absurd hi (yL _)⟩⟩
 ·obtain⟨xs,hxs⟩:∃ xs:List AD,Ls=xs.map AD.cells/\∀ x∈xs,X3 W x:=by
   clear h2 h4 h5 h6
   induction Ls with
   |nil=>exact⟨[],rfl,fun x hx=>by cases hx⟩
   |cons l Ls ih=>
    obtain⟨_,x,rfl,hx⟩:=h1 l te;obtain⟨xs,rfl,hxs⟩:=ih fun l hl=>h1 l (td _ hl)
    exact⟨x::xs,rfl,fun y hy=>by
     rcases uA.1 hy with rfl|hy
     ·exact hx
     ·exact hxs y hy⟩
  obtain⟨rfl,hok⟩:=hxs;rw[OF]at h2 h4;have hml:(xs.take (min n cap)).length=min n cap:=by rw[uL];omega
  obtain⟨us,qs,Zs,l1,l2,l3,r1,r2,r3⟩:=P3 (xs.take (min n cap)) (fun x hx=>hok x (vQ hx)) k;have hsplit:(xs.map AD.cells).flatten=(xs.take (min n cap)).flatMap AD.cells++(xs.drop (min n cap)).flatMap AD.cells:=by
   rw[<- Hy,<- zu,List.take_append_drop]
  have hcl:∀ (ys:List AD),∀ l∈ys.map AD.cells,l.length=7:=fun ys l hl=>by
   obtain⟨x,_,rfl⟩:=vL.1 hl;rfl
  have ul:(us.flatMap AD.cells).length=(xs.take (min n cap)).length*7:=by rw[Hy,GT (hcl us),OF,l1]
  have vl:((xs.take (min n cap)).flatMap AD.cells).length=(xs.take (min n cap)).length*7:=by rw[Hy,GT (hcl _),OF]
  have AFm:(us.flatMap AD.cells++th ((xs.drop (min n cap)).flatMap AD.cells).length (yS none)).length=(xs.map AD.cells).flatten.length:=by
   rw[hsplit,No,No,uh,ul,vl]
  have hpos:0<(xs.map AD.cells).flatten.length:=by rw[GT (hcl xs),OF];omega
  refine⟨.slice (some ⟨i,0,none⟩) n (xs.map AD.cells).length,some (PZ a (xs.map AD.cells).flatten.length),us.flatMap AD.cells++th ((xs.drop (min n cap)).flatMap AD.cells).length (yS none),qs,Zs,by rw[l2,hml],by rw[l3,hml],fun φ hφ hq=>⟨.inr ⟨a,(xs.map AD.cells).flatten,by rw[AFm],h6,?_⟩,WE h5 (by rw[OF];exact h2) (by rw[OF];exact h4) hpos hφ⟩,r1,fun h Wh hrow AFn=>⟨fun g=>EC,fun j hj AHz=>?_⟩⟩
  ·rw[hsplit]
   exact(r2 φ hq).append (WW φ _)
  ·have hju:j<us.length:=by rw[l1,hml];omega
   have hx:us[j]? =some (us[j]'hju):=tW hju;obtain⟨lb,hB,hlb,ou,ow⟩:=r3 h AFn _ (wl hju);refine⟨i,⟨(us[j]'hju).lf,(us[j]'hju).sq,(us[j]'hju).op,(us[j]'hju).a,(us[j]'hju).b,(us[j]'hju).c,(us[j]'hju).u,lb⟩,fun g xg=>?_,hB,hlb,ou,ow⟩;have hm:(us.map AD.cells)[j]? =some (us[j]'hju).cells:=by rw[uq,hx];rfl
   have hd:=Nr (th ((xs.drop (min n cap)).flatMap AD.cells).length (yS none)) (hcl us) hm;rw[<- Hy]at hd;refine⟨?_,?_,?_⟩
   ·have:=Ch (h:=g) (n:=n) (c:=(xs.map AD.cells).length) (es:=7) (b:=i) (off:=0) (k:=.i64) hj
    rwa [sh]at this
   ·rw[(hrow.ext Wh xg).loadN (by rw[No,ul];omega),hd];rfl
   ·rw[(hrow.ext Wh xg).ABa (by rw[No,ul];omega)]
    have h5:((us.flatMap AD.cells++th ((xs.drop (min n cap)).flatMap AD.cells).length (yS none)).drop (j*7)).take 7=(us[j]'hju).cells:=hd;have h6:=congrArg (fun l=>l[6]?) h5;simp only[List.getElem?_take,List.getElem?_drop]at h6;rw[if_pos (by omega)]at h6;rw[tY,h6];rfl
end
noncomputable section
open Go
set_option maxRecDepth 100000
section
variable {F:ABZ}{e:Env}{h h':Hp}{T l B:List Nat}{m n p k tb:Nat}{u v w:IN}
theorem Tt(W:h.Wf)(R:h.Row tb 0 (T.map wv))(hT:ACM T)(V:h.VR u l)(hC:GL u)(hb:∀ x∈l,x<256)(hl:l.length<=900000):
  ∃ h',h.Ext h'/\ql T l h h' (call AC (n+3) 82 [pt tb,u] h):=by
 rcases V with V|⟨⟨r,rfl⟩,rfl⟩
 ·exact Ob W R hT V hC hb hl
 ·have ln:AB2 (.chan (some r)) h=.ok (AI AT 0) h:=rfl
  have c1:iLt 0 4=true:=HZ (by omega);refine⟨h,.refl W,.inr ⟨rfl,11,⟨by omega,rfl⟩,?_⟩⟩;rw[Ol rfl];unfold d82;simp only[iN,IT,sT,By,BY,reduceIte,AX,ln,AK,AJ,c1,Ay,CP]
def JX(B:List Nat)(p:Nat):Option (List Nat×Nat):=match FP 0 0 (B.drop p)with
 |none=>none
 |some (v,j)=>if v<=65536/\v<=B.length - (p+j)then some ((B.drop (p+j)).take v,p+j+v)else none
theorem O6:gbQ=BB gbS gbE:=rfl
theorem Ot:d86=Y3:=rfl
theorem ZW(W:h.Wf)(M:Mk h k u B)(hb:∀ x∈B,x<256)(hp:p<=B.length)(hl:B.length<=900000):
  ∃ h',h.Ext h'/\((∃ L q w,JX B p=some (L,q)/\call AC (n+2) 86 [u,AI AT (p:Int),AI AT 65536] h=.ok (.tuple ⟨[w,AI AT (q:Int),AI AT 0]⟩) h'/\Mk h' h.next w L/\q<=B.length/\L.length<=65536)\/
   (JX B p=none/\∃ b c:Int,c≠0/\call AC (n+2) 86 [u,AI AT (p:Int),AI AT 65536] h=.ok (.tuple ⟨[ABc,AI AT b,AI AT c]⟩) h')):=by
 have V:=M.vals;have Vl:=V.bl h;obtain⟨a,b,c,k1,AH4⟩:=S4 (n:=n) V hb hp (by omega);have k1:call AC (n+1) 84 [u,AI AT (p:Int)] h=.ok (.tuple ⟨[.int .u64 a,AI AT b,AI AT c]⟩) h:=k1;have c3:iLt 65536 0=false:=E5 (by omega);have v3:C3 .u64 (AI AT 65536) h=.ok (.int .u64 ((65536:Nat):Int)) h:=by rw[B4];exact congrArg (fun z=>R.ok (.int .u64 z) h) (DG (n:=65536) (by omega))
 rcases AH4 with ⟨v,j,hg,rfl,rfl,rfl⟩|⟨hg,hc⟩
 ·have hj:p+j<=B.length:=by
   have:=WV (fun x hx=>hb x (wM hx)) hg;rw[ua]at this;omega
  have a1:FX Int.sub .i64 (AI AT (B.length:Int)) (AI AT ((p+j:Nat):Int)) h=.ok (AI AT ((B.length - (p+j):Nat):Int)) h:=by
   have:Int.sub (B.length:Int) ((p+j:Nat):Int)=((B.length - (p+j):Nat):Int):=by
    show(B.length:Int) - ((p+j:Nat):Int)=_;omega
   rw[Ce,this,Bc (by omega)]
  have v1:C3 .u64 (AI AT ((B.length - (p+j):Nat):Int)) h=.ok (.int .u64 ((B.length - (p+j):Nat):Int)) h:=by rw[B4,DG (by omega)]
  have c1:iNe 0 0=false:=B5 rfl;obtain⟨e1,p1,s0,s9,s10,s2,s11,s12⟩:∃ e1,Y3 (call AC (n+1)) (As e0 0 [u,AI AT (p:Int),AI AT 65536]) h=gbQ (call AC (n+1)) e1 h/\J 0 e1=u/\J 9 e1=.int .u64 (v:Int)/\J 10 e1=AI AT ((p+j:Nat):Int)/\J 2 e1=AI AT 65536/\J 11 e1=AI AT 0/\J 12 e1=.int .u64 ((B.length - (p+j):Nat):Int):=by
   unfold Y3;simp only[iN,IT,sT,By,BY,reduceIte,cA0,k1,Ao,Ax,A2,Bu,AX,Vl,Bz,a1,Bl,v1];exact⟨_,rfl,by simp[AG]⟩
  by_cases h1:v<=65536
  ·have c4:iGt (v:Int) ((65536:Nat):Int)=false:=E4 (by omega)
   by_cases h2:v<=B.length - (p+j)
   ·have c5:iGt (v:Int) ((B.length - (p+j):Nat):Int)=false:=E4 (by omega)
    obtain⟨e2,r1,t0,t9,t10⟩:∃ e2,gbS (call AC (n+1)) e1 h=.norm e2 h/\J 0 e2=u/\J 9 e2=.int .u64 (v:Int)/\J 10 e2=AI AT ((p+j:Nat):Int):=by
     unfold gbS;simp only[sT,By,BY,reduceIte,A9,An,A3,Bt,s11,s2,s9,s12,AK,AJ,c1,c3,Bl,v3,c4,c5];exact⟨_,rfl,by simp[AG,s0,s9,s10]⟩
    obtain⟨w0,⟨a0,rfl⟩,ct0,V0⟩:=Nk M hj;have hdl:(B.drop (p+j)).length=B.length - (p+j):=ua;have hLl:((B.drop (p+j)).take v).length=v:=by rw[uL];omega
    have ct1:∀ (F:ABZ) (e:Env) (x y:O),x e=.slice (some a0) (B.length - (p+j)) (B.length - (p+j))->y e=.int .u64 (v:Int)->Dd 5 1 x none (some y) none F e h=.ok (.slice (some a0) v (B.length - (p+j))) h:=fun F e x y hx hy=>by
     have:=MA (F:=F) (e:=e) (h:=h) (x:=x) (y:=kV (AI AT (v:Int))) (el:=5) hx rfl h2;rw[<- this];show(match x e with|.slice a n c=>DO e n c none (some y) none (fun l hh m=>EH 5 1 a false l hh m h)|_=>.no)=(match x e with|.slice a n c=>DO e n c none (some (kV (AI AT (v:Int)))) none (fun l hh m=>EH 5 1 a false l hh m h)|_=>.no);rw[hx];show(match DS (y e)with|.ok n=>(bif tz n (B.length - (p+j))then _ else R.no)|.no=>R.no)=(match DS (AI AT (v:Int))with|.ok n=>(bif tz n (B.length - (p+j))then _ else R.no)|.no=>R.no);rw[hy];rfl
    have V1:h.ABy (.slice (some a0) ((B.drop (p+j)).take v).length (B.length - (p+j))) (((B.drop (p+j)).take v).map bv):=by
     rcases V0 with ⟨hx,_⟩|⟨b,off,c',el,L,e1,e2,e3,e4⟩
     ·cases hx
     ·injection e1 with e1a e1b e1c
      injection e1a with e1a
      rw[OF,hdl]at e3 e4;refine .inr ⟨b,off,B.length - (p+j),el,L,by rw[OF,e1a],e2,by rw[OF,hLl];omega,?_⟩;rw[OF,hLl,AAu,<- e4,List.take_take,Nat.min_eq_left h2]
    obtain⟨h2',w,k2,x2,M2⟩:=L8 (n:=n) W V1 (by omega);rw[hLl]at k2;have k2:call AC (n+1) 93 [.slice (some a0) v (B.length - (p+j))] h=.ok w h2':=k2;have ln:AB2 (.slice (some a0) v (B.length - (p+j))) h2'=.ok (AI AT (v:Int)) h2':=rfl;have a2:Fs .i64 (AI AT ((p+j:Nat):Int)) (AI AT (v:Int)) h2'=.ok (AI AT ((p+j+v:Nat):Int)) h2':=by
     rw[EF,show((p+j:Nat):Int)+(v:Int)=((p+j+v:Nat):Int)by omega,Bc (by omega)]
    refine⟨h2',x2,.inl ⟨_,_,w,by unfold JX;rw[hg];simp only;rw[if_pos ⟨h1,h2⟩],?_,M2,by omega,by omega⟩⟩;rw[Om rfl,Ot,p1,O6,A9,r1,A3];unfold gbE;simp only[sT,By,BY,reduceIte,ct0 _ _ _ _ t0 t10,ct1,t9,cA0,k2,AX,ln,t10,BR,a2,Ay,EV]
   ·have c5:iGt (v:Int) ((B.length - (p+j):Nat):Int)=true:=Fc (by omega)
    refine⟨h,.refl W,.inr ⟨by unfold JX;rw[hg];simp only;rw[if_neg (fun h=>h2 h.2)],0,11,by omega,?_⟩⟩;rw[Om rfl,Ot,p1,O6];unfold gbS;simp only[sT,By,BY,reduceIte,A9,An,A3,Bt,s11,s2,s9,s12,AK,AJ,c1,c3,Bl,v3,c4,c5,CE,Cq,Ay,EV]
  ·have c4:iGt (v:Int) ((65536:Nat):Int)=true:=Fc (by omega)
   refine⟨h,.refl W,.inr ⟨by unfold JX;rw[hg];simp only;rw[if_neg (fun h=>h1 h.1)],0,3,by omega,?_⟩⟩;rw[Om rfl,Ot,p1,O6];unfold gbS;simp only[sT,By,BY,reduceIte,A9,An,A3,Bt,s11,s2,s9,s12,AK,AJ,c1,c3,Bl,v3,c4,CE,Cq,Ay,EV]
 ·have c1:iNe c 0=true:=EB hc
  refine⟨h,.refl W,.inr ⟨by unfold JX;rw[hg],0,c,hc,?_⟩⟩;rw[Om rfl,Ot];unfold Y3;simp only[iN,IT,sT,By,BY,reduceIte,cA0,k1,Ao,Ax,A2,Bu,AX,Vl,Bz,Ce,Bl,B4];rw[O6];unfold gbS;simp only[sT,By,BY,reduceIte,A9,An,AK,AJ,c1,CE,Cq,Ay,EV]
end
end
noncomputable section
open Go
set_option maxRecDepth 100000
def IK(B:List Nat):Bool:= !decide (B[0]? =some 1)
def nx(B:List Nat)(most:Nat)(s:Bool×Nat):Nat×(Bool×Nat):=if s.1 then(0,s)else match FP 0 0 (B.drop s.2)with
 |some (v,j)=>if v<=most then(v,(false,s.2+j))else(0,(true,s.2))
 |none=>(0,(true,s.2))
def FZ(B:List Nat)(s:Bool×Nat):Bool×List Nat:=if s.1 then(false,[])else match JX B s.2 with
 |some (L,q)=>(decide (q=B.length),L)
 |none=>(false,[])
structure Rdr (h:Hp)(r9 r11 r12 k:Nat)(v:IN)(B:List Nat)(s:Bool×Nat):Prop where
 m:Mk h k v B
 R9:h.Row r9 0 [v]
 R11:h.Row r11 0 [AI AT (s.2:Int)]
 R12:h.Row r12 0 [.bool s.1]
 ne:r9≠r11/\r9≠r12/\r11≠r12/\256<=r11/\256<=r12
 vb:∀ b,ABw v b->b≠r11/\b≠r12
 ok:s.1=false->s.2<=B.length
 b8:∀ x∈B,x<256
 ln:B.length<=900000
section
variable {h h':Hp}{B:List Nat}{m n k r r9 r11 r12 most:Nat}{v w:IN}{s:Bool×Nat}
theorem Zz(M:Mk h k v B){b:Nat}(hb:ABw v b):∃ el L,h.Row b el L:=by
 obtain⟨b',el,h1,_,h3,_⟩:=M;obtain⟨o,q,c,h2⟩:=hb;rw[h1]at h2;injection h2 with h2
 injection h2 with h2
 injection h2 with h2
 exact⟨el,_,h2 ▸ h3⟩
theorem Mk.keep(M:Mk h k v B)(hk:∀ b el L,ABw v b->h.Row b el L->h'.Row b el L):Mk h' k v B:=by
 obtain⟨b,el,h1,h2,h3,h4⟩:=M;exact⟨b,el,h1,h2,hk _ _ _ ⟨0,_,_,h1⟩ h3,h4⟩
theorem Rdr.ext(D:Rdr h r9 r11 r12 k v B s)(W:h.Wf)(y:h.Ext h'):Rdr h' r9 r11 r12 k v B s:=⟨D.m.ext W y,D.R9.ext W y,D.R11.ext W y,D.R12.ext W y,D.ne,D.vb,D.ok,D.b8,D.ln⟩
theorem L1{L:List IN}(W:h.Wf)(R:h.Row r 0 L)(hL:L.length=1)(ABj:256<=r)(h1:cellsOf w=[w])(h2:oneCell w=true):
  ∃ h',ABg 1 (pt r) w h=.ok ABd h'/\h'.Row r 0 [w]/\Fx (fun b=>b=r) h h':=by
 obtain⟨h',st,R',_,f,_⟩:=FI (v:=w) W R (off:=0) (by omega) ABj h1 h2;rw[EJ (show L.length=[w].length from hL)]at R';exact⟨h',st,R',f⟩
theorem DZ(R:h.Row r 0 [w]):ABa ⟨r,0,none⟩ h=.ok w h:=R.ABa (off:=0) (by show 0<1;omega)
theorem IE(W:h.Wf)(D:Rdr h r9 r11 r12 k v B s)(hm:most<=1099511627776):
  ∃ h',call AC (n+2) 83 [AI AT (most:Int),pt r12,pt r9,pt r11] h=.ok (AI AT ((nx B most s).1:Int)) h'/\Fx (fun b=>b=r11\/b=r12) h h'/\Rdr h' r9 r11 r12 k v B (nx B most s).2/\(nx B most s).1<=most:=by
 obtain⟨sb,sp⟩:=s;have l12:ABa ⟨r12,0,none⟩ h=.ok (.bool sb) h:=DZ D.R12;obtain⟨n1,n2,n3,n4,n5⟩:=D.ne;cases sb
 ·have hp:sp<=B.length:=D.ok rfl
  have l9:ABa ⟨r9,0,none⟩ h=.ok v h:=DZ D.R9;have l11:ABa ⟨r11,0,none⟩ h=.ok (AI AT (sp:Int)) h:=DZ D.R11;obtain⟨a,b,c,k1,AH4⟩:=S4 (n:=n) D.m.vals D.b8 hp (by have:=D.ln;omega);have k1:call AC (n+1) 84 [v,AI AT (sp:Int)] h=.ok (.tuple ⟨[.int .u64 a,AI AT b,AI AT c]⟩) h:=k1;have cm:C3 .u64 (AI AT (most:Int)) h=.ok (.int .u64 (most:Int)) h:=by rw[B4,DG (by omega)]
  have bad:nx B most (false,sp)=(0,(true,sp))->(∃ q:Bool,(c≠0/\q=true)\/(c=0/\q=true/\iGt a (most:Int)=true))->∃ h',call AC (n+2) 83 [AI AT (most:Int),pt r12,pt r9,pt r11] h=.ok (AI AT ((nx B most (false,sp)).1:Int)) h'/\Fx (fun b=>b=r11\/b=r12) h h'/\Rdr h' r9 r11 r12 k v B (nx B most (false,sp)).2/\(nx B most (false,sp)).1<=most:=fun hn hq=>by
   rw[hn];obtain⟨h2,st,R2,f2⟩:=L1 (w:=.bool true) W D.R12 rfl n5 rfl rfl;have l2:ABa ⟨r12,0,none⟩ h2=.ok (.bool true) h2:=DZ R2;refine⟨h2,?_,f2.mono fun b hb=>.inr hb,⟨D.m.keep fun b el L hb r=>f2.row W r (D.vb b hb).2,f2.row W D.R9 n2,f2.row W D.R11 n3,R2,D.ne,D.vb,(fun h=>by cases h),D.b8,D.ln⟩,uD _⟩;rw[Sj rfl];unfold d83;rcases hq with ⟨q,⟨h1,_⟩|⟨rfl,_,h2⟩⟩
   ·have c1:iNe c 0=true:=EB h1
    simp only[iN,IT,sT,By,BY,reduceIte,gD,AN,AQ,l12,l9,l11,cA0,k1,Ao,Ax,A2,Bu,AK,AJ,c1,AW,st,l2,lV0];rfl
   ·have c1:iNe 0 0=false:=B5 rfl
    simp only[iN,IT,sT,By,BY,reduceIte,gD,AN,AQ,l12,l9,l11,cA0,k1,Ao,Ax,A2,Bu,AK,AJ,c1,Bl,cm,h2,AW,st,l2,lV0];rfl
  rcases AH4 with ⟨x,j,hg,rfl,rfl,rfl⟩|⟨hg,hc⟩
  ·have hj:sp+j<=B.length:=by
    have:=WV (fun x hx=>D.b8 x (wM hx)) hg;rw[ua]at this;omega
   by_cases hx:x<=most
   ·have hn:nx B most (false,sp)=(x,(false,sp+j)):=by
     unfold nx;simp only[hg];rw[if_neg (by decide),if_pos hx]
    rw[hn];have c1:iNe 0 0=false:=B5 rfl;have c2:iGt (x:Int) (most:Int)=false:=E4 (by omega);obtain⟨h2,st,R2,f2⟩:=L1 (w:=.bool false) W D.R12 rfl n5 rfl rfl;have l2:ABa ⟨r12,0,none⟩ h2=.ok (.bool false) h2:=DZ R2;obtain⟨h3,st3,R3,f3⟩:=L1 (w:=AI AT ((sp+j:Nat):Int)) f2.wf (f2.row W D.R11 n3) rfl n4 rfl rfl;have cx:C3 .i64 (.int .u64 (x:Int)) h3=.ok (AI AT (x:Int)) h3:=by rw[B4,Bc (by omega)]
    refine⟨h3,?_,(f2.mono fun b hb=>.inr hb).trans (f3.mono fun b hb=>.inl hb),⟨D.m.keep fun b el L hb r=>f3.row f2.wf (f2.row W r (D.vb b hb).2) (D.vb b hb).1,f3.row f2.wf (f2.row W D.R9 n2) n1,R3,f3.row f2.wf R2 (fun h=>n3 h.symm),D.ne,D.vb,fun _=>hj,D.b8,D.ln⟩,hx⟩;rw[Sj rfl];unfold d83;simp only[iN,IT,sT,By,BY,reduceIte,gD,AN,AQ,l12,l9,l11,cA0,k1,Ao,Ax,A2,Bu,AK,AJ,c1,Bl,cm,c2,AW,st,l2,st3,cx,lV0]
   ·refine bad ?_ ⟨true,.inr ⟨rfl,rfl,Fc (by omega)⟩⟩
    unfold nx;simp only[hg];rw[if_neg (by decide),if_neg hx]
  ·refine bad ?_ ⟨true,.inl ⟨hc,rfl⟩⟩
   unfold nx;simp only[hg];rfl
 ·have hn:nx B most (true,sp)=(0,(true,sp)):=rfl
  rw[hn];refine⟨h,?_,.refl W,D,uD _⟩;rw[Sj rfl];unfold d83;simp only[iN,IT,sT,By,BY,reduceIte,AN,AQ,l12,lV0];rfl
theorem nw(W:h.Wf)(D:Rdr h r9 r11 r12 k v B s):
  ∃ h' w,call AC (n+3) 85 [pt r12,pt r9,pt r11] h=.ok (.tuple ⟨[w,.bool (FZ B s).1]⟩) h'/\h.Ext h'/\(Mk h' h.next w (FZ B s).2\/(w=ABc/\(FZ B s).2=[])):=by
 obtain⟨sb,sp⟩:=s;have l12:ABa ⟨r12,0,none⟩ h=.ok (.bool sb) h:=DZ D.R12;cases sb
 ·have hp:sp<=B.length:=D.ok rfl
  have l9:ABa ⟨r9,0,none⟩ h=.ok v h:=DZ D.R9;have l11:ABa ⟨r11,0,none⟩ h=.ok (AI AT (sp:Int)) h:=DZ D.R11;obtain⟨h2,x2,⟨L,q,w,hg,k1,M,hq,_⟩|⟨hg,b,c,hc,k1⟩⟩:=ZW (n:=n) W D.m D.b8 hp D.ln
  ·have hn:FZ B (false,sp)=(decide (q=B.length),L):=by
    unfold FZ;simp only[hg];rw[if_neg (by decide)]
   rw[hn];have xm:=x2.marked;have l9m:ABa ⟨r9,0,none⟩ h2.marked=.ok v h2.marked:=DZ (D.R9.ext W xm);have c0:iEq 0 0=true:=CU rfl;have ln:=D.m.vals.bl h2.marked;have c1:iEq (q:Int) (B.length:Int)=decide (q=B.length):=by
    rw[Dh];by_cases qe:q=B.length
    ·simp[qe]
    ·simp[qe]
     omega
   refine⟨h2.marked,w,?_,xm,.inl (M.same rfl)⟩;rw[Sk rfl];unfold d85;simp only[iN,IT,sT,By,BY,reduceIte,gD,AN,AQ,l12,l9,l11,cA0,k1,Ao,Ax,A2,Bu,Az,AK,AJ,c0,l9m,AX,ln,c1,Ay,CP]
  ·have hn:FZ B (false,sp)=(false,[]):=by
    unfold FZ;simp only[hg];rfl
   rw[hn];have c0:iEq c 0=false:=B9 hc;refine⟨h2.marked,ABc,?_,x2.marked,.inr ⟨rfl,rfl⟩⟩;rw[Sk rfl];unfold d85;simp only[iN,IT,sT,By,BY,reduceIte,gD,AN,AQ,l12,l9,l11,cA0,k1,Ao,Ax,A2,Bu,Az,AK,AJ,c0,Ay,CP]
 ·have hn:FZ B (true,sp)=(false,[]):=rfl
  rw[hn];refine⟨h,ABc,?_,.refl W,.inr ⟨rfl,rfl⟩⟩;rw[Sk rfl];unfold d85;simp only[iN,IT,sT,By,BY,reduceIte,AN,AQ,l12,Ay,CP]
end
end
noncomputable section
open Go
set_option maxRecDepth 100000
theorem sW:iP.zero=[.pointer none,.pointer none,.pointer none,AI AT 0]:=by kernel_rfl
section
variable {F:ABZ}{e:Env}{h h':Hp}{A:At}{T M:List Nat}{c0 bad m k nb r bd bs tb:Nat}{arm ABs:Int}{ks:List Kt}{fr:List Nat}{v lv fv:IN}{ov:Bool}
theorem tC:so [] [0,1,2,3,4,5,6,7]:=⟨List.nodup_nil,.refl _⟩
theorem rE:Med T Zx [] [0,1,2,3,4,5,6,7]:=by
 refine⟨uh,fun k hk=>(by cases hk),fun k hk=>(by cases hk),fun p _ r _=>Re,fun k hk=>(by cases hk),fun p hp=>?_⟩;simp only[uA,List.not_mem_nil,or_false]at hp;omega
theorem VV(Rn:h.Row nb 0 (AB0 bd tb bs ABs)):call AC (m+1) 12 [pt nb] h=.ok (AI AT ABs) h:=by
 obtain⟨_,_,_,n3⟩:=CF Rn;have p1:∀ e:Env,J 0 e=pt nb->oEq SK.k false (J 0) (kV (.pointer none)) (call AC m) e h=.ok (.bool false) h:=fun e he=>FM cB he
 rw[kJ rfl];unfold d12;simp only[iN,IT,sT,By,BY,reduceIte,p1,Au,Ai,AH,AO,sh,AN,AQ,n3,lV0]
theorem Vh(W:h.Wf)(Rn:h.Row nb 0 (AB0 A.bd A.tb A.bs ABs))(s:Sl h A T M c0 arm ks fr lv fv bad ov):∃ h' v,call AC (m+5) 13 [pt nb] h=.ok v h'/\h.Ext h'/\h'.AL h.next v ks:=by
 obtain⟨_,_,n2,_⟩:=CF Rn;have p1:∀ e:Env,J 0 e=pt nb->oEq SK.k false (J 0) (kV (.pointer none)) (call AC (m+4)) e h=.ok (.bool false) h:=fun e he=>FM cB he
 obtain⟨h3,v3,k3,x3,V3⟩:=UH (m:=m) W s.row s.ls (Sl.all s) s.le.1;have k3:call AC (m+4) 40 [pt A.bs] h=.ok v3 h3:=k3;refine⟨h3,v3,?_,x3,V3⟩;rw[kK rfl];unfold d13;simp only[iN,IT,sT,By,BY,reduceIte,p1,Au,Ai,AH,AO,sh,AN,AQ,n2,cA0,k3,lV0]
theorem kC{g1 g2 g3:O}(h1:g1 e=pt bd)(h2:g2 e=pt tb)(h3:g3 e=pt bs):BH iP.zero [(0,1,g1),(1,1,g2),(2,1,g3)] F e h=.ok (.agg ⟨AB0 bd tb bs 0⟩) h:=by
 rw[Cb,sW,Ad (hk:=by rw[h1];rfl),h1,Ad (hk:=by rw[h2];rfl),h2,Ad (hk:=by rw[h3];rfl),h3];rfl
end
end
noncomputable section
open Go
set_option maxRecDepth 100000
structure Ctx (h0:Hp)(A:At)(nb kk:Nat):Prop where
 W0:h0.Wf
 hD:∀ b,A.D b->h0.next<=b/\b<nb
 n24:A.n=24
 nb0:h0.next<=nb
 kk:nb<kk
 tb:A.tb≠nb
section
variable {F:ABZ}{e:Env}{h:Hp}{n r:Nat}{b c z:Int}{v u:IN}{xs:List Ak}
theorem QD(W:h.Wf){z:VT}{L vs:List IN}(hz:Bo .mt 0 L=some z)(hL:L.length=7)(hv:vs.length=7)(h1:BX vs=true):
  ∃ g1 g2,(∀ (F:ABZ) (e:Env),BN 7 z F e h=.ok (pt h.next) g1)/\ABg 7 (pt h.next) (.agg ⟨vs⟩) g1=.ok ABd g2/\h.Ext g2/\g2.Row h.next 0 vs/\h.next<g2.next:=by
 have al:=fun (F:ABZ) (e:Env)=>BL (F:=F) (e:=e) W (n:=7) (t:=z)
 have Ra:=Hp.Row.alloc W hz hL;have y2:h.Ext (h.push (.cells z 7 0)):=(Hp.Ext.refl W).push _;generalize h.push (.cells z 7 0)=h2 at al Ra y2;have big:=W.big;have ho:0+vs.length<=L.length:=by rw[hL,hv];exact If _
 have st:=Ra.ABg (n:=7) (off:=0) y2.wf (by omega) (v:=.agg ⟨vs⟩) hv ho h1;have wr:=Ra.ABl y2.wf ho;rw[EJ (show L.length=vs.length by rw[hL,hv])]at wr;have x3:=Ra.AB3 y2 (If _) ho;exact⟨h2,_,al,st,x3,wr,wr.lt x3.wf⟩
theorem Hp.VE.lt{xs:List IN}(V:h.VE u xs)(W:h.Wf):∀ b,ABw u b->b<h.next:=fun b ⟨off,n,c,hb⟩=>by
 rcases V with (⟨h1,_⟩|⟨b',off',c',el,L,h1,h2,_⟩)|⟨⟨r,h1⟩,_⟩
 ·rw[h1]at hb;cases hb
 ·rw[h1]at hb
  injection hb with hb
  injection hb with hb
  injection hb with hb
  rw[<- hb];exact h2.lt W
 ·rw[h1]at hb;cases hb
end
end
noncomputable section
open Go
set_option maxRecDepth 100000
section
variable {x y:Kt}{a b c:Int}
def LtC(x y:Kc):Prop:=x.a<y.a\/(x.a=y.a/\(x.b<y.b\/(x.b=y.b/\(x.c<y.c\/(x.c=y.c/\x.p<y.p)))))
def LtK(x y:Kt):Prop:=LtC x.core y.core
end
end
noncomputable section
open Go
set_option maxRecDepth 100000
theorem cS:NH.zero=CJ 0 0 0 0 0 0 ABc:=by kernel_rfl
section
variable {F:ABZ}{e:Env}{h h0 hB:Hp}{X:Nat->Prop}{A:At}{T:List Nat}{k kw n nb i bd tb bs:Nat}{ABs a b c z:Int}{ks:List Kt}{fr l:List Nat}{v w iv:IN}{x y:Kt}
theorem Yg{n:Nat}(W:h.Wf){z:VT}{L vs:List IN}(hz:Bo .mt 0 L=some z)(hL:L.length=n)(hv:vs.length=n)(h1:BX vs=true):
  ∃ g1 g2,(∀ (F:ABZ) (e:Env),BN n z F e h=.ok (pt h.next) g1)/\ABg n (pt h.next) (.agg ⟨vs⟩) g1=.ok ABd g2/\h.Ext g2/\g2.Row h.next 0 vs/\h.next<g2.next:=by
 have al:=fun (F:ABZ) (e:Env)=>BL (F:=F) (e:=e) W (n:=n) (t:=z)
 have Ra:=Hp.Row.alloc W hz hL;have y2:h.Ext (h.push (.cells z n 0)):=(Hp.Ext.refl W).push _;generalize h.push (.cells z n 0)=h2 at al Ra y2;have big:=W.big;have ho:0+vs.length<=L.length:=by rw[hL,hv,sh];exact If _
 have st:=Ra.ABg (n:=n) (off:=0) y2.wf (by omega) (v:=.agg ⟨vs⟩) hv ho h1;have wr:=Ra.ABl y2.wf ho;rw[EJ (show L.length=vs.length by rw[hL,hv])]at wr;have x3:=Ra.AB3 y2 (If _) ho;exact⟨h2,_,al,st,x3,wr,wr.lt x3.wf⟩
theorem Uv:∀ (ks:List Kt) (i:Nat) (k:Kt),ks[i]? =some k->((flI ks).drop (i*4)).take 4=CA k
 |[],i,k,h=>by cases h
 |x::ks,0,k,h=>by
  have h:some x=some k:=h;cases h;rfl
 |x::ks,i+1,k,h=>by
  show((CA x++flI ks).drop ((i+1)*4)).take 4=_;rw[AAW,vC (show(CA x).length<=_ by show 4<=_;omega),uN,show(i+1)*4 - (CA x).length=i*4 by show(i+1)*4 - 4=_;omega];exact Uv ks i k h
structure Rcx (h0 hB:Hp)(A:At)(T:List Nat)(nb kw:Nat)(w:IN)(ks:List Kt)(fr:List Nat):Prop where
 W0:h0.Wf
 x0:h0.Ext hB
 n24:A.n=24
 tb:A.tb≠nb/\A.tb<hB.next
 nb0:h0.next<=nb/\nb<kw
 kwl:kw<=hB.next
 hD:∀ b,A.D b->h0.next<=b/\b<nb
 V:hB.AL kw w ks
 asc:ks.Pairwise LtK
 iv:ACy 8 ks fr
 rs:∀ x∈ks,ABp x.a x.b x.c x.s x.l.length=true
 byt:∀ x∈ks,∀ y∈x.l,y<256
structure Rst (hB:Hp)(A:At)(T:List Nat)(nb:Nat)(ks:List Kt)(fr:List Nat)(X:Nat->Prop)(h:Hp):Prop where
 f:Fx (fun b=>A.D b\/b=nb) hB h
 U:UpX X h A T ks fr 0
 Rn:∃ ABs,ABs<=1/\h.Row nb 0 (AB0 A.bd A.tb A.bs ABs)
 hX:∀ b,X b->b<h.next
 Xn:X nb
end
end
noncomputable section
open Go
set_option maxRecDepth 100000
theorem pr:reM=Xh:=rfl
theorem Yx:d49=Yy:=rfl
theorem ik:Bo .mt 0 [ue .i64 0]=some zt3:=by kernel_rfl
theorem im:Bo .mt 0 [AAa false]=some zt4:=by kernel_rfl
def six(B:List Nat):(Nat×Nat×Nat×Nat×Nat×Nat)×(Bool×Nat):=
 let a:=nx B 1099511627776 (IK B,1)
 let b:=nx B 1099511627776 a.2
 let c:=nx B 9 b.2
 let d:=nx B 1099511627776 c.2
 let f:=nx B 255 d.2
 let g:=nx B 1099511627776 f.2
 ((a.1,b.1,c.1,d.1,f.1,g.1),g.2)
def GM(T l:List Nat):Int:=match DF T l with
 |none=>unC l
 |some B=>if(FZ B (six B).2).1 && DA (six B).1.1 (six B).1.2.1 (six B).1.2.2.1 (six B).1.2.2.2.1 (six B).1.2.2.2.2.1 (six B).1.2.2.2.2.2 (FZ B (six B).2).2.length then 0 else 110
section
variable {F:ABZ}{e:Env}{h h':Hp}{T l B:List Nat}{n k tb r r9 r11 r12:Nat}{a b c:Int}{u v:IN}
theorem Tc{L:List IN}(W:h.Wf)(R:h.Row r 0 L)(hL:L.length=1)(ABj:256<=r)(h1:cellsOf v=[v])(h2:oneCell v=true):
  ∃ h',(∀ (F:ABZ) (e:Env) (g1 g2:O),g1 e=pt r->g2 e=v->Aa .free (Ac 1 g1 g2) F e h=.ok ABd h')/\Fx (fun b=>b=r) h h'/\h'.Row r 0 [v]:=by
 have Rq:h.quiet.Row r 0 L:=R.same rfl;have ho:0+[v].length<=L.length:=by rw[hL];exact If _
 have ha:BX [v]=true:=by
  show(bif oneCell v then true else false)=true;rw[h2];rfl
 have st:=Rq.ABg (n:=1) (off:=0) W.quiet ABj (v:=v) (by rw[h1];rfl) (by rw[h1];exact ho) (by rw[h1];exact ha);rw[h1]at st;have wr:=Rq.ABl W.quiet ho;rw[EJ (show L.length=[v].length from hL)]at wr;exact⟨_,fun F e g1 g2 e1 e2=>BF (by rw[AW,e1,e2];exact st),Fx.back (Fx.wr W.quiet Rq ho rfl),wr.same rfl⟩
theorem kE{x y z:O}{k:C}{a b i j:Nat}(hx:x e=.pointer (some ⟨a,i,none⟩))(hy:y e=.pointer (some ⟨b,j,none⟩))(h1:b≠a)(hz:∀ c,AB4 (z e)=.ok c->c≠a):Cf x [y,z] k F e h=k F e h:=by
 have n1:tm b a=false:=by
  cases e:tm b a
  ·rfl
  ·exact absurd (A1.1 e) h1
 unfold Cf;rw[hx];show(bif CY a e [y,z]then k F e h else .no)=_;have:CY a e [y,z]=true:=by
  unfold CY;rw[hy];show(bif tm b a then false else CY a e [z])=true;rw[n1];show CY a e [z]=true;unfold CY;cases hb:AB4 (z e)with
  |no=>rfl
  |ok c=>
   simp only;have n2:tm c a=false:=by
    cases e:tm c a
    ·rfl
    ·exact absurd (A1.1 e) (hz c hb)
   rw[n2];rfl
 rw[this];rfl
theorem pq(W:h.Wf)(M:Mk h k v B)(hk:k<=h.next)(R9:h.Row r9 0 [v])(hb9:∀ b,ABw v b->b≠r9)(hmk:h.mark<=h.next)(b8:∀ x∈B,x<256)(ln:B.length<=900000){bb:Bool}(hbb:bb=false->1<=B.length)(s9:J 9 e=pt r9)(s29:∀ c,AB4 (J 29 e)=.ok c->c<h.next)(s33:J 33 e=.bool bb):
  ∃ e' h' r11 r12,reA F e h=.ret e' h'/\J 6 e'=.func (.func 83) ⟨[]⟩ ⟨[pt r12,pt r9,pt r11]⟩/\J 7 e'=.func (.func 85) ⟨[]⟩ ⟨[pt r12,pt r9,pt r11]⟩/\J 8 e'=AI AT 0/\h.Ext h'/\Rdr h' r9 r11 r12 k v B (bb,1)/\h.next<=r11/\h.next<=r12:=by
 have big:=W.big;obtain⟨h1,al1,y1,R1,m1⟩:=HN W ik (show [ue .i64 0].length=1 from rfl) hmk;have n1:=y1.next;have hr9:=R9.lt W;have hl1:=R1.lt y1.wf;obtain⟨h2,al2,y2,R2,m2⟩:=HN y1.wf im (show [AAa false].length=1 from rfl) (by rw[m1];omega);obtain⟨h3,st3,R3,m3,nx3,f3⟩:=ML (v:=AI AT 1) y2.wf (R1.ext y1.wf y2) (off:=0) (by show 0<1;omega) (by omega) rfl rfl;have R3:h3.Row h.next 0 [AI AT 1]:=R3;have R23:=f3.row y2.wf R2 (by omega);obtain⟨h4,st4,f4,R4⟩:=Tc (v:=.bool bb) f3.wf R23 rfl (by omega) rfl rfl;have y4:h.Ext h4:=Fx.xtF (Fx.xtF (y1.trans y2) f3 fun b hb=>by rw[hb];exact If _) f4 fun b hb=>by rw[hb];exact n1
 have AHh:=fun (F:ABZ) (e:Env) (e1:J 11 e=pt h.next)=>st3 F e (J 11) (kV (AI AT 1)) e1 rfl
 have AHi:=fun (F:ABZ) (e:Env) (e1:J 12 e=pt h1.next) (e2:J 33 e=.bool bb)=>st4 F e (J 12) (J 33) e1 e2
 have ck:∀ {k:C} {F:ABZ} {e':Env},J 11 e'=pt h.next->J 9 e'=pt r9->J 29 e'=J 29 e->Cf (J 11) [J 9,J 29] k F e' h2=k F e' h2:=fun e1 e2 e3=>kE e1 e2 (by omega) fun c hc=>by
  rw[e3]at hc;have:=s29 c hc;omega
 have vlt:∀ b,ABw v b->b<h.next:=fun b hb=>by
  obtain⟨el,L,r⟩:=Zz M hb;exact r.lt W
 refine(show ∃ e',reA F e h=.ret e' h4/\J 6 e'=.func (.func 83) ⟨[]⟩ ⟨[pt h1.next,pt r9,pt h.next]⟩/\J 7 e'=.func (.func 85) ⟨[]⟩ ⟨[pt h1.next,pt r9,pt h.next]⟩/\J 8 e'=AI AT 0 from ?_).elim fun e' ⟨p1,p2,p3,p4⟩=>⟨e',h4,h.next,h1.next,p1,p2,p3,p4,y4,⟨M.ext W y4,R9.ext W y4,f4.row f3.wf R3 (by omega),R4,⟨by omega,by omega,by omega,by omega,by omega⟩,fun b hb=>by
   have:=vlt b hb;omega,hbb,b8,ln⟩,If _,n1⟩
 unfold reA;simp only[sT,By,BY,reduceIte,al1,al2,s9,s33,ck,AHh,AHi,Dj,AU,A5];exact⟨_,rfl,by simp[AG]⟩
theorem Xi(W:h.Wf)(R:h.Row tb 0 (T.map wv))(hT:ACM T)(V:h.VR u l)(hC:GL u)(hb:∀ x∈l,x<256)(hl:l.length<=900000):
  ∃ h',h.Ext h'/\((∃ B r9 r11 r12 k v,DF T l=some B/\call AC (n+4) 49 [pt tb,u,.int .u8 1] h=.ok (.tuple ⟨[.func (.func 83) ⟨[]⟩ ⟨[pt r12,pt r9,pt r11]⟩,.func (.func 85) ⟨[]⟩ ⟨[pt r12,pt r9,pt r11]⟩,AI AT 0]⟩) h'/\Rdr h' r9 r11 r12 k v B (IK B,1)/\h.next<=r11/\h.next<=r12)\/
   (DF T l=none/\call AC (n+4) 49 [pt tb,u,.int .u8 1] h=.ok (.tuple ⟨[.nilFunc,.nilFunc,AI AT (unC l)]⟩) h')):=by
 obtain⟨h1,x1,U⟩:=Tt (n:=n) W R hT V hC hb hl;have W1:=x1.wf;have big:=W.big;rcases U with ⟨B,v,hu,k1,M⟩|⟨hu,c,⟨hc,rfl⟩,k1⟩
 ·have c1:iNe 0 0=false:=B5 rfl
  have o1:oneCell v=true:=by
   obtain⟨b,el,rfl,_⟩:=M;rfl
  obtain⟨g2,h2,al,st,y2,R9,q2⟩:=Yg (n:=1) W1 Pr rfl (vs:=[v]) rfl (by show(bif oneCell v then true else false)=true;rw[o1];rfl);have st:ABg 1 (pt h1.next) v g2=.ok ABd h2:=by
   have:ABg 1 (pt h1.next) v g2=ABg 1 (pt h1.next) (.agg ⟨[v]⟩) g2:=by
    obtain⟨b,el,rfl,_⟩:=M;rfl
   rw[this];exact st
  have b8:∀ x∈B,x<256:=fun x hx=>by
   unfold DF at hu;split at hu
   ·cases hu
   ·split at hu
    ·cases hu;exact hb x (vQ hx)
    ·cases hu
  have ln:B.length<=900000:=by
   unfold DF at hu;split at hu
   ·cases hu
   ·split at hu
    ·cases hu
     rw[uL];omega
    ·cases hu
  have xm:=y2.marked;have Mm:Mk h2.marked h.next v B:=(M.ext W1 y2).same rfl;have R9m:h2.marked.Row h1.next 0 [v]:=R9.same rfl;have l9:ABa ⟨h1.next,0,none⟩ h2.marked=.ok v h2.marked:=DZ R9m;have lv:=Mm.vals.bl h2.marked;have n1:=x1.next;have vb9:∀ b,ABw v b->b≠h1.next:=fun b hb=>by
   obtain⟨el,L,r⟩:=Zz M hb;have:=r.lt W1;omega
  obtain⟨e1,p1,s2,s9⟩:∃ e1,Yy (call AC (n+3)) (As e0 0 [pt tb,u,.int .u8 1]) h=reM (call AC (n+3)) e1 h2/\J 2 e1=.int .u8 1/\J 9 e1=pt h1.next:=by
   unfold Yy;simp only[iN,IT,sT,By,BY,reduceIte,cA0,k1,Ao,Ax,A2,al,AW,st,AK,AJ,c1];exact⟨_,rfl,by simp[AG]⟩
  obtain⟨e2,p2,t9,t29,t33⟩:∃ e2,reM (call AC (n+3)) e1 h2=reA (call AC (n+3)) e2 h2.marked/\J 9 e2=pt h1.next/\(∀ c,AB4 (J 29 e2)=.ok c->c<h2.marked.next)/\J 33 e2=.bool (IK B):=by
   rw[pr];cases hB:B with
   |nil=>
    rw[hB]at lv;have c2:iEq (([]:List Nat).length:Int) 0=true:=CU rfl;refine(show ∃ e2,Xh (call AC (n+3)) e1 h2=reA (call AC (n+3)) e2 h2.marked/\J 9 e2=pt h1.next/\J 29 e2=ABd/\J 33 e2=.bool true from ?_).elim fun e2 ⟨q1,q2,q3,q4⟩=>⟨e2,q1,q2,(fun c hc=>by rw[q3]at hc;cases hc),q4⟩
    unfold Xh;simp only[sT,By,BY,reduceIte,gD,Az,AN,AQ,s9,l9,AX,lv,AK,AJ,c2];exact⟨_,rfl,by simp[AG,s9]⟩
   |cons x0 B'=>
    rw[<- hB];have hpos:0<B.length:=by rw[hB,tZ];omega
    have c2:iEq (B.length:Int) 0=false:=B9 (by omega);obtain⟨b,el,hv,_,Rb,_⟩:=Mm;have hx:B[0]? =some x0:=by rw[hB];rfl
    have ix:ACN 1 v (AI AT 0) h2.marked=.ok (.pointer (some ⟨b,0,none⟩)) h2.marked:=by
     rw[hv];have:=Ch (h:=h2.marked) (n:=B.length) (c:=B.length) (es:=1) (b:=b) (off:=0) (i:=0) (k:=.i64) hpos;exact this
    have lx:ABa ⟨b,0,none⟩ h2.marked=.ok (.int .u8 (x0:Int)) h2.marked:=by
     rw[Rb.ABa (by rw[OF];exact hpos),tY,uq,hx];rfl
    have c3:iNe (x0:Int) 1=IK B:=by
     unfold IK;rw[hx];by_cases q:x0=1
     ·subst q
      rw[show((1:Nat):Int)=1 from rfl,B5 rfl];rfl
     ·rw[EB (by omega),decide_eq_false (fun h=>q (Option.some.inj h))];rfl
    have hlt:=Rb.lt xm.wf;refine(show ∃ e2,Xh (call AC (n+3)) e1 h2=reA (call AC (n+3)) e2 h2.marked/\J 9 e2=pt h1.next/\J 29 e2=pt b/\J 33 e2=.bool (IK B)from ?_).elim fun e2 ⟨q1,q2,q3,q4⟩=>⟨e2,q1,q2,(fun c hc=>by
     rw[q3]at hc;cases hc;exact hlt),q4⟩
    unfold Xh;simp only[sT,By,BY,reduceIte,gD,Az,AN,AQ,s9,l9,AX,lv,AK,AJ,c2,BA,E6,ix,lx,s2,c3];exact⟨_,rfl,by simp[AG,s9]⟩
  have hbb:IK B=false->1<=B.length:=fun h=>by
   cases B with
   |nil=>cases h
   |cons x l=>rw[tZ];omega
  have hn2:=y2.next;obtain⟨e3,h3,r11,r12,p3,u6,u7,u8,y3,D,d1,d2⟩:=pq (F:=call AC (n+3)) (e:=e2) xm.wf Mm (by show h.next<=h2.next;omega) R9m vb9 (If _) b8 ln hbb t9 t29 t33;have hq:h.next<=h2.marked.next:=by show h.next<=h2.next;omega
  refine⟨h3,(x1.trans xm).trans y3,.inl ⟨B,h1.next,r11,r12,h.next,v,hu,?_,D,by omega,by omega⟩⟩;rw[YZ rfl,Yx,p1,p2,p3,Ay,EV,u6,u7,u8]
 ·have c1:iNe (unC l) 0=true:=EB hc
  obtain⟨g2,h2,al,st,y2,R9,q2⟩:=Yg (n:=1) W1 Pr rfl (vs:=[ABc]) rfl rfl;have st:ABg 1 (pt h1.next) ABc g2=.ok ABd h2:=st;refine⟨h2,x1.trans y2,.inr ⟨hu,?_⟩⟩;rw[YZ rfl,Yx];unfold Yy;simp only[iN,IT,sT,By,BY,reduceIte,cA0,k1,Ao,Ax,A2,al,AW,st,AK,AJ,c1,Ay,EV]
end
end
noncomputable section
open Go
set_option maxRecDepth 100000
def Hld(v:Int)(bs:List Nat)(ks:List Kt):Prop:=∃ k∈ks,k.a=3/\k.b=1/\k.c=v/\k.s=2/\k.l=bs
section
variable {a b:Int}
theorem tH{k:Kt}(h:k.a=a/\k.b=b/\k.s=2):Iw a b k=true:=by
 unfold Iw;rw[decide_eq_true h.1,decide_eq_true h.2.1,decide_eq_true h.2.2];rfl
theorem tG{k:Kt}(h:Iw a b k=true):k.a=a/\k.b=b/\k.s=2:=by
 unfold Iw at h;simp only[uB,decide_eq_true_eq]at h;exact⟨h.1.1,h.1.2,h.2⟩
end
end
noncomputable section
open Go
set_option maxRecDepth 100000
section
variable {h:Hp}{r:Nat}{u:IN}
theorem qM{xs:List IN}(V:h.VE u xs):known u=true/\cellsOf u=[u]/\oneCell u=true:=by
 rcases V with V|⟨⟨r,rfl⟩,_⟩
 ·exact Gm V
 ·exact⟨rfl,rfl,rfl⟩
end
end
end Go.Proofs.YtbjadbhkogcfeaaGreat
