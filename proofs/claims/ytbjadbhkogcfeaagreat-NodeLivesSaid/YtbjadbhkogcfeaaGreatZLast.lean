/-
  'NodeLives' of layer 11 answers true, whatever memory it is called in, whatever asks it is handed and whatever the tape answers: no condition. What the canonical machine gives is shown for any of them (YtbjadbhkogcfeaaGreatNom); that machine is sound for the model (YtbjadbhkogcfeaaGreatFns).
-/
import Derived.Test.YtbjadbhkogcfeaaGreatZQ
import Derived.Test.YtbjadbhkogcfeaaGreatRows
import Derived.ProofKit
import Derived.OpenShut
import Derived.Carry
open Go.Value renaming int→AI
open Go.IntKind renaming i64→AT
open Nat renaming reduceEqDiff→BY,reduceLT→By,reduceAdd→IS,le_refl→IT,zero_add→OF,beq→xW,lt_or_ge→xx,zero_le→yC,mul_comm→zW,zero_mul→AAD,succ_mul→AAd,not_lt_zero→ABK,add_comm→ADi
open Go renaming Value→IN,World→yJ,TypeId→yL,MemPlace→AB7,DataW→AD7
open List renaming length_append→No,length_map→sh,getElem?_eq_getElem→xL,getD_eq_getElem?_getD→xN,length_cons→xP,mem_cons_of_mem→xS,mem_cons_self→xT,replicate→xV,append_nil→xZ,getElem?_append_left→xa,mem_cons→xe,getElem?_append_right→xn,append_assoc→xp,getElem?_eq_some_iff→xy,length_take→yE,mem_append_right→yI,mem_append_left→yN,nil_append→yP,drop_zero→yf,mem_map→yl,length_replicate→zF,mem_of_mem_take→zI,flatten_cons→zM,getElem_mem→zn,flatMap_append→ACh,flatMap_cons→ACu,mem_flatMap→AC1
open Go.Proofs.Tryz renaming prog→xR,underlying3→AAC,underlying22→AAh,checked→ACM,f3→ACd,underlying4→ACy,func3→ADo
open Bool renaming and_eq_true→xk,not_true→yT
open Go.Value renaming int→yX,okWide→AAB,chan→ABO
open Go.DataW renaming trod→zK,trod_int→zh,Trod→ACn
open Go.MemPlace renaming cell→zx
open Int renaming toNat_of_nonneg→AAi
open Go.WideElems renaming Trod_stays→ABr
open Go.ChangeSpec renaming witness6→AD3
open Go.OpenClaim renaming holds_of_wide→AD5
set_option linter.unusedVariables false
set_option linter.unusedSimpArgs false
namespace Go.Proofs.YtbjadbhkogcfeaaGreat
noncomputable section
open Go
set_option maxRecDepth 100000
theorem cQ:tdM=kB:=rfl
theorem qA:d33=qB:=rfl
section
variable {F:AEB}{e:Env}{h h' g:Hp}{S X:Nat->Prop}{A:At}{T M:List Nat}{c0 m k n nb r r4 r6 r8 op:Nat}{arm AES lf sq a b c z err room:Int}{ks ks':List Kt}{fr fr':List Nat}{v lv fv u w iv bw:IN}{x:Kt}
theorem oH{x y:O}{k:C}{a b i j:Nat}(hx:x e=.pointer (some ⟨a,i,none⟩))(hy:y e=.pointer (some ⟨b,j,none⟩))(h1:b≠a):Cf x [y] k F e h=k F e h:=by
 have n1:xW b a=false:=by
  cases e:xW b a
  ·rfl
  ·exact absurd (Ax.1 e) h1
 unfold Cf;rw[hx];show(bif DA a e [y]then k F e h else .no)=_;have:DA a e [y]=true:=by
  unfold DA;rw[hy];show(bif xW b a then false else DA a e [])=true;rw[n1];rfl
 rw[this];rfl
theorem QP(W:g.Wf){L:List IN}(R:g.Row r 0 L){off:Nat}(ho:off<L.length)(AEM:256<=r)(h1:cellsOf v=[v])(h2:oneCell v=true):
  ∃ g',(∀ (F:AEB) (e:Env) (x y:O),x e=.pointer (some ⟨r,off,none⟩)->y e=v->Jc x (Ai 1 x y) F e g=.ok AEE g')/\g'.Row r 0 (over L off [v])/\g'.mark=g.mark/\g'.next=g.next/\Fx (fun b=>b=r) g g':=by
 have Rq:g.quiet.Row r 0 L:=R.same rfl;have hoo:off+[v].length<=L.length:=ho;have ha:Bb [v]=true:=by
  show(bif oneCell v then true else false)=true;rw[h2];rfl
 have st:=Rq.AEK (n:=1) (off:=off) (v:=v) W.quiet AEM (by rw[h1];rfl) (by rw[h1];exact hoo) (by rw[h1];exact ha);rw[h1]at st;have wr:=Rq.AEP W.quiet hoo;have fx:=Fx.wr (S:=fun b=>b=r) W.quiet Rq hoo rfl;have wn:=Rq.AEr hoo;obtain⟨cc,_,hw,_⟩:=Rq.AFN hoo;have AGy:(g.quiet.wr r off [v]).low=r:=by
  rw[hw];show B9 g.next r=r;have:=R.lt W;rw[BV];omega
 have AF2:(g.quiet.wr r off [v]).high=r:=by
  rw[hw];show Cv 0 r=r;rw[B4];omega
 generalize g.quiet.wr r off [v]=q at st wr fx wn AGy AF2;refine⟨g.back q,fun F e x y hx hy=>?_,wr.same rfl,rfl,wn,fx.back⟩;show(match Ai 1 x y F e g.quiet with|.ok v h'=>bif IZ (AEl (x e)) g h'.low h'.high then Dd g v h' else .no|.no=>.no)=_;rw[AX,hx,hy,st];show(bif IZ (.ok r) g q.low q.high then Dd g AEE q else .no)=_;rw[AGy,AF2];have:IZ (.ok r) g r r=true:=by
  show(bif Nat.ble r r then Nat.ble r r else false)=true;rw[Au.2 (IT r)];rfl
 rw[this];show Dd g AEE q=_;unfold Dd;simp only[Ao];rfl
theorem Iy(R:h.Row r 0 (Db lf sq op err iv bw room)):AEF ⟨r,3,none⟩ h=.ok (AI AT err) h/\AEF ⟨r,4,none⟩ h=.ok iv h/\AEF ⟨r,5,none⟩ h=.ok bw h/\loadN 7 ⟨r,0,none⟩ h=.ok (B3 lf sq op err iv bw room) h:=
 ⟨R.AEF (off:=3) (by show 3<7;omega),R.AEF (off:=4) (by show 4<7;omega),R.AEF (off:=5) (by show 5<7;omega),R.loadN (off:=0) (n:=7) (by show 0+7<=7;omega)⟩
theorem SC(W:h.Wf)(Rn:h.Row nb 0 (AEf A.bd A.tb A.bs AES))(U:UpX X h A T ks fr k)(hX:X r6/\X r8)(hD:¬ A.D r6/\¬ A.D r8)(ht:A.tb≠r6/\A.tb≠r8)(R4:h.Row r4 0 (CR lf sq op a b c u))(R6:h.Row r6 0 GD)(R8:h.Row r8 0 (Db 0 0 0 z iv bw 0))(h48:r4≠r8)(h68:r6≠r8)(h6:256<=r6)(h8:256<=r8)(hi:oneCell iv=true)(hb:oneCell bw=true)
  (s0:J 0 e=pt nb)(s4:J 4 e=pt r4)(s6:J 6 e=pt r6)(s8:J 8 e=pt r8):
  ∃ e' h',tdE (call AC (m+2)) e h=.ret e' h'/\J 6 e'=pt r6/\J 7 e'=AI AT 0/\Fx (fun b=>b=r6\/b=r8) h h'/\h'.Row r6 0 (Db lf sq op z iv bw (fr.length:Int))/\UpX X h' A T ks fr k:=by
 obtain⟨lv,fv,Rs,V⟩:(∃ lv fv,h.Row A.bs 0 (slL A.bd A.tb lv fv 0 false)/\h.AEY fv (ints .i64 (fr.map Int.ofNat))):=by
  obtain⟨⟨M,c0,arm,lv,fv,s,_⟩,_⟩:=U;exact⟨lv,fv,s.row,s.fs.vals⟩
 obtain⟨_,_,nd0,_⟩:=CL Rn;have k1:call AC (m+2) 53 [pt A.bs] h=.ok (.bool false) h:=Vv (m:=m+1) Rs;have Wm:=W.marked;obtain⟨_,_,n2',_⟩:=CL (Rn.same (h':=h.marked) rfl);obtain⟨a0,a1,a2,_⟩:=B0 (R4.same (h':=h.marked) rfl);have o4:∀ {i:Nat} {k:C} {F:AEB} {e:Env},Ir (.pointer (some ⟨r4,i,none⟩)) k F e h.marked=k F e h.marked:=fun {i k F e}=>Dh (R4.lt W)
 have k2:call AC (m+2) 57 [pt A.bs] h.marked.quiet=.ok (AI AT (fr.length:Int)) h.marked.quiet:=jp (m:=m+1) (Rs.same (h':=h.marked.quiet) rfl) (V.same (h':=h.marked.quiet) rfl);have q2:∀ e:Env,J 43 e=pt A.bs->Ad .weak (AU 57 [J 43]) (call AC (m+2)) e h.marked=.ok (AI AT (fr.length:Int)) (h.marked.back h.marked.quiet):=fun e e1=>by
  refine Ci ?_ (.refl Wm.quiet) (IT _);rw[BN,AV,A0,e1];exact k2
 have y1:h.Ext (h.marked.back h.marked.quiet):=Hp.Ext.AFI (Hp.Ext.refl W).marked (Hp.Ext.refl W).marked.quiet;generalize h.marked.back h.marked.quiet=h1 at q2 y1;have W1:=y1.wf;have R8':=R8.ext W y1;have R6':=R6.ext W y1;obtain⟨h2,st2,R82,_,n2,f2⟩:=QP (v:=AI AT lf) W1 R8' (off:=0) (by show 0<7;omega) h8 rfl rfl;obtain⟨h3,st3,R83,_,n3,f3⟩:=QP (v:=AI AT sq) f2.wf R82 (off:=1) (by show 1<7;omega) h8 rfl rfl;obtain⟨h4,st4,R84,n4,_,f4,_⟩:=MO (v:=.int .u8 (op:Int)) f3.wf R83 (off:=2) (by show 2<7;omega) h8 rfl rfl;obtain⟨h5,st5,R85,n5,_,f5,_⟩:=MO (v:=AI AT (fr.length:Int)) f4.wf R84 (off:=6) (by show 6<7;omega) h8 rfl rfl;have R85:h5.Row r8 0 (Db lf sq op z iv bw (fr.length:Int)):=R85;obtain⟨_,_,_,ld⟩:=Iy R85;have f15:=((f2.trans f3).trans f4).trans f5;obtain⟨h6',st6,f6,R66⟩:=Dz (lf:=lf) (sq:=sq) (op:=op) (err:=z) (iv:=iv) (bw:=bw) (room:=(fr.length:Int)) f15.wf (f15.row W1 R6' h68) rfl h6 hi hb;have U1:=U.ext W y1;have U5:=UpX.wr W1 U1 hX.2 R8' R85 f15 hD.2 ht.2 E7;have U6:=UpX.wr f15.wf U5 hX.1 (f15.row W1 R6' h68) R66 f6 hD.1 ht.1 E7;have ck1:∀ {k:C} {F:AEB} {e:Env},J 45 e=.pointer (some ⟨r8,0,none⟩)->J 36 e=.pointer (some ⟨r4,1,none⟩)->J 38 e=.pointer (some ⟨r4,2,none⟩)->Cf (J 45) [J 36,J 38] k F e h1=k F e h1:=fun e1 e2 e3=>Yx e1 e2 e3 h48 h48
 have ck2:∀ {k:C} {F:AEB} {e:Env},J 46 e=.pointer (some ⟨r8,1,none⟩)->J 38 e=.pointer (some ⟨r4,2,none⟩)->Cf (J 46) [J 38] k F e h2=k F e h2:=fun e1 e2=>oH e1 e2 h48
 have s2':=fun (F:AEB) (e:Env) (e1:J 45 e=.pointer (some ⟨r8,0,none⟩)) (e2:J 35 e=AI AT lf)=>st2 F e (J 45) (J 35) e1 e2
 have s3':=fun (F:AEB) (e:Env) (e1:J 46 e=.pointer (some ⟨r8,1,none⟩)) (e2:J 37 e=AI AT sq)=>st3 F e (J 46) (J 37) e1 e2
 have s4':=fun (F:AEB) (e:Env) (e1:J 47 e=.pointer (some ⟨r8,2,none⟩)) (e2:J 39 e=.int .u8 (op:Int))=>st4 F e (J 47) (J 39) e1 e2
 have s5':=fun (F:AEB) (e:Env) (e1:J 48 e=.pointer (some ⟨r8,6,none⟩)) (e2:J 44 e=AI AT (fr.length:Int))=>st5 F e (J 48) (J 44) e1 e2
 obtain⟨e1,p1,t6,t7⟩:∃ e1,tdE (call AC (m+2)) e h=.ret e1 h6'/\J 6 e1=pt r6/\J 7 e1=AI AT 0:=by
  unfold tdE;simp only[sT,By,BY,reduceIte,Av,s0,Af,AH,AN,OF,AM,AP,nd0,cA0,k1,Ay,s4,D4,o4,DP,a0,a1,a2,n2',q2,s8,ck1,s2',ck2,s3',s4',s5',Ar,Aj,ld,s6,AX,st6];exact⟨_,rfl,by simp[AG,s6]⟩
 refine⟨e1,h6',p1,t6,t7,((Fx.of y1).trans (f15.mono fun b hb=>.inr hb)).trans (f6.mono fun b hb=>.inl hb),R66,U6⟩
theorem NF(W:h.Wf)(U:UpX X h A T ks fr k)(hX:∀ b,X b->b<h.next){w:IN}:
  ∃ e1 h4 r4 r6 r8,d33 (call AC m) (AS e0 0 [pt nb,DC lf sq op a b c u,w]) h=tdM (call AC m) e1 h4/\J 0 e1=pt nb/\J 2 e1=w/\J 4 e1=pt r4/\J 6 e1=pt r6/\J 8 e1=pt r8/\h.Ext h4/\h4.Row r4 0 (CR lf sq op a b c u)/\h4.Row r6 0 GD/\h4.Row r8 0 (Db 0 0 0 120 AEG AEG 0)/\
   h.next<=r4/\h.next<=r6/\h.next<=r8/\r4≠r8/\r6≠r8/\UpX (fun b=>(X b\/b=r6)\/b=r8) h4 A T ks fr k/\r6<h4.next/\r8<h4.next:=by
 have bx:=fun (F:AEB) (e:Env) (he:J 1 e=DC lf sq op a b c u)=>FF (F:=F) W he
 have x1:=(Hp.Ext.refl W).AEA 0 (CR lf sq op a b c u);have R1:=Hp.Row.new W 0 (CR lf sq op a b c u);have n1:(h.AEA 0 (CR lf sq op a b c u)).next=h.next+1:=rfl;generalize h.AEA 0 (CR lf sq op a b c u)=h1 at bx x1 R1 n1;have al:=fun (F:AEB) (e:Env)=>BQ (F:=F) (e:=e) x1.wf (n:=7) (t:=Cj)
 have Ra:=Hp.Row.alloc x1.wf Dc (show GD.length=7 from rfl);have y2:h1.Ext (h1.push (.cells Cj 7 0)):=(Hp.Ext.refl x1.wf).push _;have n2:(h1.push (.cells Cj 7 0)).next=h1.next+1:=rfl;generalize h1.push (.cells Cj 7 0)=h2 at al Ra y2 n2;have bd:=fun (F:AEB) (e:Env)=>Hy (F:=F) (e:=e) (h:=h2) (z:=120) (g1:=kV (AI AT 120)) rfl
 have al2:=fun (F:AEB) (e:Env)=>BQ (F:=F) (e:=e) y2.wf (n:=7) (t:=Cj)
 have Ra2:=Hp.Row.alloc y2.wf Dc (show GD.length=7 from rfl);have y3:h2.Ext (h2.push (.cells Cj 7 0)):=(Hp.Ext.refl y2.wf).push _;have n3:(h2.push (.cells Cj 7 0)).next=h2.next+1:=rfl;generalize h2.push (.cells Cj 7 0)=h3 at al2 Ra2 y3 n3;have big:=W.big;obtain⟨h4,st4,f4,R4⟩:=Dz (lf:=0) (sq:=0) (op:=0) (err:=120) (iv:=AEG) (bw:=AEG) (room:=0) y3.wf Ra2 rfl (by omega) rfl rfl;have x3:=(x1.trans y2).trans y3;have y14:=y2.trans y3;have x4:=Fx.xtF x3 f4 (fun b hb=>by rw[hb];omega);have n4:=f4.next;have hrun:∃ e1,d33 (call AC m) (AS e0 0 [pt nb,DC lf sq op a b c u,w]) h=tdM (call AC m) e1 h4/\J 0 e1=pt nb/\J 2 e1=w/\J 4 e1=pt h.next/\J 6 e1=pt h1.next/\J 8 e1=pt h2.next:=by
  rw[qA];unfold qB;simp only[iN,IS,sT,By,BY,reduceIte,bx,al,bd,al2,AX,st4];exact⟨_,rfl,by simp[AG]⟩
 obtain⟨e1,p1,p2,p3,p4,p5,p6⟩:=hrun;exact⟨e1,h4,_,_,_,p1,p2,p3,p4,p5,p6,x4,f4.row y3.wf (R1.ext x1.wf y14) (by omega),f4.row y3.wf (Ra.ext y2.wf y3) (by omega),R4,IT _,by omega,by omega,by omega,by omega,((U.more W (r:=h1.next) (by omega)).more W (r:=h2.next) (by omega)).ext W x4,by omega,by omega⟩
theorem cS(W:h.Wf)(Rn:h.Row nb 0 (AEf A.bd A.tb A.bs AES))(U:UpX X h A T ks fr k)(hX:∀ b,X b->b<h.next)(hlt:lf<AES){w:IN}:
  ∃ room h',call AC (m+3) 33 [pt nb,DC lf sq op a b c u,w] h=.ok (.tuple ⟨[B3 lf sq op 120 AEG AEG room,AI AT 0]⟩) h'/\h.Ext h':=by
 obtain⟨e1,h4,r4,r6,r8,p1,p2,p3,p4,p5,p6,x4,R4,R6,R8,l4,l6,l8,n48,n68,U4,m6,m8⟩:=NF (m:=m+2) (nb:=nb) (lf:=lf) (sq:=sq) (op:=op) (a:=a) (b:=b) (c:=c) (u:=u) (w:=w) W U hX;have W4:=x4.wf;have Rn4:=Rn.ext W x4;have big:=W.big;have hD:=U.lt W;obtain⟨a0,_⟩:=B0 (R4.same (h':=h4.marked) rfl);obtain⟨_,_,_,nd3⟩:=CL (Rn4.same (h':=h4.marked) rfl);have c1:iGe lf AES=false:=Ea (by omega);have xm:=(Hp.Ext.refl W4).marked;have hrun:∃ e2,tdM (call AC (m+2)) e1 h4=tdE (call AC (m+2)) e2 h4.marked/\J 0 e2=pt nb/\J 4 e2=pt r4/\J 6 e2=pt r6/\J 8 e2=pt r8:=by
  rw[cQ];unfold kB tdA;simp only[sT,By,BY,reduceIte,Ay,p4,p2,AH,AN,OF,AM,AP,a0,nd3,Av,Af,AK,AJ,c1];exact⟨_,rfl,by simp[AG,p2,p4,p5,p6]⟩
 obtain⟨e2,q1,q2,q4,q5,q6⟩:=hrun;obtain⟨ht0,_,ht⟩:=U.tab;have htl:=ht0.lt W;obtain⟨e3,h5,r1,r2,r3,f5,R65,_⟩:=SC (m:=m) xm.wf (Rn4.same rfl) (U4.same (h':=h4.marked) rfl) ⟨.inl (.inr rfl),.inr rfl⟩ ⟨fun h=>by have:=hD _ h;omega,fun h=>by have:=hD _ h;omega⟩ ⟨by omega,by omega⟩ (R4.same (h':=h4.marked) rfl) (R6.same rfl) (R8.same rfl) n48 n68 (by omega) (by omega) rfl rfl q2 q4 q5 q6;refine⟨fr.length,h5,?_,Fx.xtF (x4.trans xm) f5 fun b hb=>by rcases hb with rfl|rfl<;>omega⟩;rw[Y0 rfl,p1,q1,r1,BE,FP (v:=B3 lf sq op 120 AEG AEG fr.length) (by rw[r2];exact Cs R65),r3]
theorem bB{bd tb bs:Nat}:Odd (AEf bd tb bs AES):=⟨.inl (by show 4<6;omega),pt bd,xT,fun q h=>by cases h⟩
theorem cR(W:h.Wf)(Rn:h.Row nb 0 (AEf A.bd A.tb A.bs AES))(U:UpX X h A T ks fr k)(hX:∀ b,X b->b<h.next)(hXn:X nb)(hnD:¬ A.D nb)(hnt:A.tb≠nb)(AEM:256<=nb)(hle:AES<=lf){f:Nat}
  (ap:∀ (g:Hp) (Y:Nat->Prop),g.Wf->g.Row nb 0 (AEf A.bd A.tb A.bs lf)->UpX Y g A T ks fr k->(∀ b,Y b->b<g.next)->Fx (fun b=>b=nb) h g->∃ z iv bw g' ks' fr',call AC (m+2) f [pt nb,DC lf sq op a b c u] g=.ok (B3 0 0 0 z iv bw 0) g'/\Fx A.D g g'/\UpX Y g' A T ks' fr' n/\z≠120/\oneCell iv=true/\oneCell bw=true):
  ∃ z iv bw room h' ks' fr',call AC (m+3) 33 [pt nb,DC lf sq op a b c u,.func (.func f) ⟨[]⟩ ⟨[]⟩] h=.ok (.tuple ⟨[B3 lf sq op z iv bw room,AI AT 0]⟩) h'/\Fx (fun b=>A.D b\/b=nb) h h'/\h'.Row nb 0 (AEf A.bd A.tb A.bs lf)/\UpX X h' A T ks' fr' n/\z≠120/\oneCell iv=true/\oneCell bw=true:=by
 obtain⟨e1,h4,r4,r6,r8,p1,p2,p3,p4,p5,p6,x4,R4,R6,R8,l4,l6,l8,n48,n68,U4,m6,m8⟩:=NF (m:=m+2) (nb:=nb) (lf:=lf) (sq:=sq) (op:=op) (a:=a) (b:=b) (c:=c) (u:=u) (w:=.func (.func f) ⟨[]⟩ ⟨[]⟩) W U hX;have W4:=x4.wf;have Rn4:=Rn.ext W x4;have big:=W.big;have hD:=U.lt W;have hn:=Rn.lt W;obtain⟨ht0,_,ht⟩:=U.tab;have htl:=ht0.lt W;obtain⟨a0,_⟩:=B0 (R4.same (h':=h4.marked) rfl);obtain⟨_,_,_,nd3⟩:=CL (Rn4.same (h':=h4.marked) rfl);have c1:iGe lf AES=true:=F4 (by omega);have xm:=(Hp.Ext.refl W4).marked;have Wm:=xm.wf;obtain⟨h5,st5,R5,nx5,f5,_⟩:=F1 (v:=AI AT lf) Wm (Rn4.same (h':=h4.marked) rfl) (off:=3) (by show 3<4;omega) AEM rfl rfl;have R5:h5.Row nb 0 (AEf A.bd A.tb A.bs lf):=R5;have nx5:h5.next=h4.next:=nx5;have U5:=UpX.wr Wm (U4.same (h':=h4.marked) rfl) (.inl (.inl hXn)) (Rn4.same (h':=h4.marked) rfl) R5 f5 hnD hnt bB;have f05:Fx (fun b=>b=nb) h h5:=(Fx.of (x4.trans xm)).trans f5;obtain⟨z,iv,bw,h6,ks',fr',k6,f6,U6,hz,hi,hb⟩:=ap h5 _ f5.wf R5 U5 (fun b hb=>by
  rcases hb with (hb|hb)|hb
  ·have:=hX b hb
   omega
  ·omega
  ·omega) f05
 have hDr:∀ r,h.next<=r->¬ A.D r:=fun r hr h=>by have:=hD _ h;omega
 have R45:=f5.row Wm (R4.same (h':=h4.marked) rfl) (by omega);have R46:=f6.row f5.wf R45 (hDr _ l4);have R66:=f6.row f5.wf (f5.row Wm (R6.same (h':=h4.marked) rfl) (by omega)) (hDr _ l6);have R86:=f6.row f5.wf (f5.row Wm (R8.same (h':=h4.marked) rfl) (by omega)) (hDr _ l8);have Rn6:=f6.row f5.wf R5 hnD;obtain⟨h7,st7,f7,R87⟩:=Dz (lf:=0) (sq:=0) (op:=0) (err:=z) (iv:=iv) (bw:=bw) (room:=0) f6.wf R86 rfl (by omega) hi hb;have U7:=UpX.wr f6.wf U6 (.inr rfl) R86 R87 f7 (hDr _ l8) (by omega) E7;have R47:=f7.row f6.wf R46 (by omega);have R67:=f7.row f6.wf R66 (by omega);have Rn7:=f7.row f6.wf Rn6 (by omega);obtain⟨_,_,_,_,_,_,_,lda⟩:=B0 R45;have hrun:∃ e2,tdM (call AC (m+2)) e1 h4=tdE (call AC (m+2)) e2 h7/\J 0 e2=pt nb/\J 4 e2=pt r4/\J 6 e2=pt r6/\J 8 e2=pt r8:=by
  rw[cQ];unfold kB tdA;simp only[sT,By,BY,reduceIte,Ay,p4,p2,p3,p6,AH,AN,OF,AM,AP,a0,nd3,Av,Af,AK,AJ,c1,AX,st5,Ar,Aj,lda,CT,Cn,AV,A0,yP,xZ,k6,st7];exact⟨_,rfl,by simp[AG,p2,p4,p5,p6]⟩
 obtain⟨e2,q1,q2,q4,q5,q6⟩:=hrun;obtain⟨e3,h8,r1,r2,r3,f8,R68,U8⟩:=SC (m:=m) f7.wf Rn7 U7 ⟨.inl (.inr rfl),.inr rfl⟩ ⟨hDr _ l6,hDr _ l8⟩ ⟨by omega,by omega⟩ R47 R67 R87 n48 n68 (by omega) (by omega) hi hb q2 q4 q5 q6;refine⟨z,iv,bw,fr'.length,h8,ks',fr',?_,Fx.drop ((((f05.mono fun b hb=>.inl (.inr hb)).trans (f6.mono fun b hb=>.inl (.inl hb))).trans (f7.mono fun b hb=>.inr (by omega))).trans (f8.mono fun b hb=>.inr (by rcases hb with rfl|rfl<;>omega))),f8.row f7.wf Rn7 (by omega),U8.less fun b hb=>.inl (.inl hb),hz,hi,hb⟩;rw[Y0 rfl,p1,q1,r1,BE,FP (v:=B3 lf sq op z iv bw fr'.length) (by rw[r2];exact Cs R68),r3]
end
end
noncomputable section
open Go
set_option maxRecDepth 100000
theorem cV:SH.k=.ptr 83:=by kernel_rfl
theorem qM:doR=gb:=rfl
theorem ZH:d11=fe:=rfl
def fnO(op:Nat):Nat:=if op=1 then 34 else if op=2 then 35 else if op=3 then 36 else if op=4 then 37 else if op=5 then 38 else 39
section
variable {F:AEB}{e:Env}{h h' g:Hp}{X:Nat->Prop}{A:At}{T M:List Nat}{c0 m k n nb r r4 op:Nat}{arm AES lf sq a b c z err room:Int}{ks ks':List Kt}{fr fr' l:List Nat}{lv fv u iv bw:IN}{x:Kt}
theorem OH{n:Nat}(hr:EA lf sq op a b c n=true):1<=op/\op<=6/\1<=lf:=by
 unfold EA hdQ wiQ at hr;simp only[xk,decide_eq_true_eq]at hr;exact⟨hr.1.1.2.1,hr.1.1.2.2,hr.1.1.1.1.1⟩
theorem uZ(W:h.Wf)(hA:A.n=24)(Rn:h.Row nb 0 (AEf A.bd A.tb A.bs AES))(U:UpX X h A T ks fr (k+40))(hX:∀ b,X b->b<h.next)(V:h.VE u (l.map bv))(hb:∀ x∈l,x<256)(hl:l.length<=1000)(h1:1<=op)(h6:op<=6):
  ∃ z iv bw h' ks' fr',call AC (m+10) (fnO op) [pt nb,DC lf sq op a b c u] h=.ok (B3 0 0 0 z iv bw 0) h'/\Fx A.D h h'/\UpX X h' A T ks' fr' k/\z≠120/\oneCell iv=true/\oneCell bw=true:=by
 have h:op=1\/op=2\/op=3\/op=4\/op=5\/op=6:=by omega
 rcases h with rfl|rfl|rfl|rfl|rfl|rfl
 ·obtain⟨z,h',ks',fr',q1,q2,q3,q4⟩:=rS (m:=m) (lf:=lf) (sq:=sq) (op:=1) (a:=a) (b:=b) (c:=c) W hA Rn U hX V hb hl
  exact⟨z,_,_,h',ks',fr',q1,q2,q3,PU q4,rfl,rfl⟩
 ·obtain⟨z,h',ks',fr',q1,q2,q3,q4⟩:=rT (m:=m) (lf:=lf) (sq:=sq) (op:=2) (a:=a) (b:=b) (c:=c) (u:=u) W hA Rn U hX
  exact⟨z,_,_,h',ks',fr',q1,q2,q3,PU q4,rfl,rfl⟩
 ·obtain⟨z,h',ks',fr',q1,q2,q3,q4⟩:=rU (m:=m) (lf:=lf) (sq:=sq) (op:=3) (a:=a) (b:=b) (c:=c) (u:=u) W hA Rn U hX
  exact⟨z,_,_,h',ks',fr',q1,q2,q3,PU q4,rfl,rfl⟩
 ·have U0:=U
  obtain⟨⟨M,c0,arm,lv,fv,s,iv',md,_⟩,_⟩:=U0;have hln:=iv'.len;obtain⟨h',k',z,iv,bw,q1,q2,_,q4,q5,q6⟩:=vJ (m:=m) (lf:=lf) (sq:=sq) (op:=4) (a:=a) (b:=b) (c:=c) (u:=u) W Rn s (by omega) (fun x hx=>md.AIW hx) (fun x hx=>by have:=iv'.lt x hx;omega);refine⟨z,iv,bw,h',ks,fr,q1,.of q2,(U.ext W q2).le (by omega),?_,q4,q5⟩;rcases q6 with ⟨_,rfl,_⟩|⟨_,_,rfl,_⟩|⟨_,_,_,rfl,_⟩<;>omega
 ·have U0:=U
  obtain⟨⟨M,c0,arm,lv,fv,s,iv',md,_⟩,_⟩:=U0;have hln:=iv'.len;obtain⟨h',k',iv,q1,q2,_,q4⟩:=vG (m:=m) (lf:=lf) (sq:=sq) (op:=5) (a:=a) (b:=b) (c:=c) (u:=u) W Rn s (by omega);exact⟨0,iv,_,h',ks,fr,q1,.of q2,(U.ext W q2).le (by omega),by omega,(S0 q4).2.2,rfl⟩
 ·obtain⟨z,h',ks',fr',q1,q2,q3,q4⟩:=rV (m:=m) (lf:=lf) (sq:=sq) (op:=6) (a:=a) (b:=b) (c:=c) (u:=u) W hA Rn U hX
  exact⟨z,_,_,h',ks',fr',q1,q2,q3,PU q4,rfl,rfl⟩
theorem rd(Rn:h.Row nb 0 (AEf A.bd A.tb A.bs AES))(U:UpX X h A T ks fr k):call AC (m+3) 31 [pt nb] h=.ok (AI AT 0) h:=by
 obtain⟨⟨M,c0,arm,lv,fv,s,_⟩,_⟩:=U;obtain⟨n0,_,n2,_⟩:=CL Rn;have p1:∀ e:Env,J 0 e=pt nb->oEq SH.k false (J 0) (kV (.pointer none)) (call AC (m+2)) e h=.ok (.bool false) h:=fun e he=>FK cV he
 have p2:∀ e:Env,J 10 e=pt A.bs->oEq Hs.k false (J 10) (kV (.pointer none)) (call AC (m+2)) e h=.ok (.bool false) h:=fun e he=>FK WM he
 have k1:call AC (m+2) 53 [pt A.bs] h=.ok (.bool false) h:=Vv (m:=m+1) s.row;have k2:call AC (m+2) 19 [pt A.bd] h=.ok (.bool false) h:=Up (m:=m) s.dk;rw[oW rfl];unfold d31;simp only[iN,IS,sT,By,BY,reduceIte,gD,cA0,p1,Av,Af,AH,AN,OF,AM,AP,n0,n2,p2,k1,k2,lV0]
theorem ME(W:h.Wf)(Rn:h.Row nb 0 (AEf A.bd A.tb A.bs AES))(U:UpX X h A T ks fr k)(hop:op<256){l:Nat}(hu:∀ g:Hp,AEv u g=.ok (AI AT (l:Int)) g):
  ∃ e1 h4 r3 r4,d11 (call AC (m+3)) (AS e0 0 [pt nb,DC lf sq op a b c u]) h=(if EA lf sq op a b c l=true then doM (call AC (m+3)) e1 h4 else .ret e1 h4)/\J 0 e1=pt nb/\J 3 e1=pt r3/\J 4 e1=pt r4/\h.Ext h4/\h4.Row r3 0 (CR lf sq op a b c u)/\h4.Row r4 0 GD/\
   h.next<=r3/\h.next<=r4/\r3≠r4/\UpX (fun b=>X b\/b=r4) h4 A T ks fr k/\r4<h4.next/\(EA lf sq op a b c l=false->J 5 e1=AI AT 110):=by
 have bx:=fun (F:AEB) (e:Env) (he:J 1 e=DC lf sq op a b c u)=>FF (F:=F) W he
 have x1:=(Hp.Ext.refl W).AEA 0 (CR lf sq op a b c u);have R1:=Hp.Row.new W 0 (CR lf sq op a b c u);have n1:(h.AEA 0 (CR lf sq op a b c u)).next=h.next+1:=rfl;generalize h.AEA 0 (CR lf sq op a b c u)=h1 at bx x1 R1 n1;have al:=fun (F:AEB) (e:Env)=>BQ (F:=F) (e:=e) x1.wf (n:=7) (t:=Cj)
 have Ra:=Hp.Row.alloc x1.wf Dc (show GD.length=7 from rfl);have y2:h1.Ext (h1.push (.cells Cj 7 0)):=(Hp.Ext.refl x1.wf).push _;have n2:(h1.push (.cells Cj 7 0)).next=h1.next+1:=rfl;generalize h1.push (.cells Cj 7 0)=h2 at al Ra y2 n2;have x2:=x1.trans y2;have U2:=((U.more W (r:=h1.next) (by omega)).ext W x2);have k1:call AC (m+3) 31 [pt nb] h2=.ok (AI AT 0) h2:=rd (m:=m) (Rn.ext W x2) U2;have c1:iNe 0 0=false:=CE rfl;obtain⟨_,_,_,_,_,_,_,lda⟩:=B0 (R1.ext x1.wf y2);obtain⟨h3,k3,y3⟩:=YK (m:=m) (AES:=lf) (seq:=sq) (op:=op) (a:=a) (b:=b) (c:=c) x2.wf hop hu;have big:=W.big;cases hr:EA lf sq op a b c l
 ·rw[hr]at k3
  have Ra3:=Ra.ext y2.wf y3;obtain⟨h4,st4,f4,R4⟩:=Dz (lf:=0) (sq:=0) (op:=0) (err:=0) (iv:=AEG) (bw:=AEG) (room:=0) y3.wf Ra3 rfl (by omega) rfl rfl;have bd:=fun (F:AEB) (e:Env)=>eE (F:=F) (e:=e) (h:=h3)
  have x4:=Fx.xtF (x2.trans y3) f4 (fun b hb=>by rw[hb];omega);have hrun:∃ e1,d11 (call AC (m+3)) (AS e0 0 [pt nb,DC lf sq op a b c u]) h=.ret e1 h4/\J 0 e1=pt nb/\J 3 e1=pt h.next/\J 4 e1=pt h1.next/\J 5 e1=AI AT 110:=by
   rw[ZH];unfold fe;simp only[iN,IS,sT,By,BY,reduceIte,bx,al,cA0,k1,AK,AJ,c1];unfold doR gb Aq doM Aw;simp only[sT,By,BY,reduceIte,Ar,Aj,lda,cA0,k3,BZ,BX,Bool.not_false,bd,AX,st4];exact⟨_,rfl,by simp[AG]⟩
  obtain⟨e1,q0,q1,q2,q3,q4⟩:=hrun;have nn:=y3.next;have nn4:=f4.next;exact⟨e1,h4,_,_,q0,q1,q2,q3,x4,f4.row y3.wf ((R1.ext x1.wf y2).ext y2.wf y3) (by omega),R4,IT _,by omega,by omega,((U.more W (r:=h1.next) (by omega)).ext W x4),by omega,fun _=>q4⟩
 ·rw[hr]at k3
  have hrun:∃ e1,d11 (call AC (m+3)) (AS e0 0 [pt nb,DC lf sq op a b c u]) h=doM (call AC (m+3)) e1 h3/\J 0 e1=pt nb/\J 3 e1=pt h.next/\J 4 e1=pt h1.next:=by
   rw[ZH];unfold fe;simp only[iN,IS,sT,By,BY,reduceIte,bx,al,cA0,k1,AK,AJ,c1];rw[qM];unfold gb;simp only[sT,By,BY,reduceIte,Ar,Aj,lda,cA0,k3,BZ,BX,yT];exact⟨_,rfl,by simp[AG]⟩
  obtain⟨e1,q0,q1,q2,q3⟩:=hrun;have nn:=y3.next;have x3:=x2.trans y3;exact⟨e1,h3,_,_,q0,q1,q2,q3,x3,(R1.ext x1.wf y2).ext y2.wf y3,Ra.ext y2.wf y3,IT _,by omega,by omega,((U.more W (r:=h1.next) (by omega)).ext W x3),by omega,fun e=>by cases e⟩
end
end
noncomputable section
open Go
set_option maxRecDepth 100000
section
variable {e:Env}{h h' g:Hp}{S X:Nat->Prop}{A:At}{T:List Nat}{m k n nb r r3 r4 op:Nat}{AES lf sq a b c z err room:Int}{ks ks':List Kt}{fr fr' l:List Nat}{v u w iv bw:IN}{x:Kt}
theorem Hp.VE.fx{xs:List IN}(V:h.VE u xs)(W:h.Wf)(f:Fx S h h')(hS:∀ b,AEe u b->¬ S b):h'.VE u xs:=by
 rcases V with (h1|⟨b,off,c,el,L,h1,h2,h3⟩)|h1
 ·exact .inl (.inl h1)
 ·exact .inl (.inr ⟨b,off,c,el,L,h1,f.row W h2 (hS b ⟨off,_,c,h1⟩),h3⟩)
 ·exact .inr h1
theorem ZY{h1 h2:Hp}(R3:h.Row r3 0 (CR lf sq op a b c u))(h1':1<=op)(h6:op<=6)(s0:J 0 e=pt nb)(s3:J 3 e=pt r3)(s4:J 4 e=pt r4){tv:IN}
  (hk:call AC (m+3) 33 [pt nb,DC lf sq op a b c u,.func (.func (fnO op)) ⟨[]⟩ ⟨[]⟩] h=.ok (.tuple ⟨[tv,AI AT 0]⟩) h1)(st:AEK 7 (pt r4) tv h1=.ok AEE h2):
  ∃ e2,doM (call AC (m+3)) e h=.ret e2 h2/\J 4 e2=pt r4/\J 5 e2=AI AT 0:=by
 obtain⟨_,_,l2,_,_,_,_,lda⟩:=B0 R3;have hq:op=1\/op=2\/op=3\/op=4\/op=5\/op=6:=by omega
 unfold doM;rcases hq with hq|hq|hq|hq|hq|hq
 ·have c1:iEq (op:Int) 1=true:=CV (by omega)
  have hk:=hk;rw[show fnO op=34 by rw[hq];rfl]at hk;simp only[sT,By,BY,reduceIte,s3,AH,AN,OF,AM,AP,l2,AK,AJ,c1,Ar,Aj,lda,cA0,s0,hk,A7,BA,BC,AX,s4,st];exact⟨_,rfl,by simp[AG,s4]⟩
 ·have c1:iEq (op:Int) 1=false:=B8 (by omega)
  have c2:iEq (op:Int) 2=true:=CV (by omega);have hk:=hk;rw[show fnO op=35 by rw[hq];rfl]at hk;simp only[sT,By,BY,reduceIte,s3,AH,AN,OF,AM,AP,l2,AK,AJ,c1,c2,Ar,Aj,lda,cA0,s0,hk,A7,BA,BC,AX,s4,st];exact⟨_,rfl,by simp[AG,s4]⟩
 ·have c1:iEq (op:Int) 1=false:=B8 (by omega)
  have c2:iEq (op:Int) 2=false:=B8 (by omega);have c3:iEq (op:Int) 3=true:=CV (by omega);have hk:=hk;rw[show fnO op=36 by rw[hq];rfl]at hk;simp only[sT,By,BY,reduceIte,s3,AH,AN,OF,AM,AP,l2,AK,AJ,c1,c2,c3,Ar,Aj,lda,cA0,s0,hk,A7,BA,BC,AX,s4,st];exact⟨_,rfl,by simp[AG,s4]⟩
 ·have c1:iEq (op:Int) 1=false:=B8 (by omega)
  have c2:iEq (op:Int) 2=false:=B8 (by omega);have c3:iEq (op:Int) 3=false:=B8 (by omega);have c4:iEq (op:Int) 4=true:=CV (by omega);have hk:=hk;rw[show fnO op=37 by rw[hq];rfl]at hk;simp only[sT,By,BY,reduceIte,s3,AH,AN,OF,AM,AP,l2,AK,AJ,c1,c2,c3,c4,Ar,Aj,lda,cA0,s0,hk,A7,BA,BC,AX,s4,st];exact⟨_,rfl,by simp[AG,s4]⟩
 ·have c1:iEq (op:Int) 1=false:=B8 (by omega)
  have c2:iEq (op:Int) 2=false:=B8 (by omega);have c3:iEq (op:Int) 3=false:=B8 (by omega);have c4:iEq (op:Int) 4=false:=B8 (by omega);have c5:iEq (op:Int) 5=true:=CV (by omega);have hk:=hk;rw[show fnO op=38 by rw[hq];rfl]at hk;simp only[sT,By,BY,reduceIte,s3,AH,AN,OF,AM,AP,l2,AK,AJ,c1,c2,c3,c4,c5,Ar,Aj,lda,cA0,s0,hk,A7,BA,BC,AX,s4,st];exact⟨_,rfl,by simp[AG,s4]⟩
 ·have c1:iEq (op:Int) 1=false:=B8 (by omega)
  have c2:iEq (op:Int) 2=false:=B8 (by omega);have c3:iEq (op:Int) 3=false:=B8 (by omega);have c4:iEq (op:Int) 4=false:=B8 (by omega);have c5:iEq (op:Int) 5=false:=B8 (by omega);have hk:=hk;rw[show fnO op=39 by rw[hq];rfl]at hk;simp only[sT,By,BY,reduceIte,s3,AH,AN,OF,AM,AP,l2,AK,AJ,c1,c2,c3,c4,c5,Ar,Aj,lda,cA0,s0,hk,A7,BA,BC,AX,s4,st];exact⟨_,rfl,by simp[AG,s4]⟩
theorem Za(W:h.Wf)(Rn:h.Row nb 0 (AEf A.bd A.tb A.bs AES))(U:UpX X h A T ks fr k)(hop:op<256){l:Nat}(hu:∀ g:Hp,AEv u g=.ok (AI AT (l:Int)) g)(hr:EA lf sq op a b c l=false):
  ∃ tv h',call AC (m+4) 11 [pt nb,DC lf sq op a b c u] h=.ok (.tuple ⟨[tv,AI AT 110]⟩) h'/\h.Ext h'/\tv=B3 0 0 0 0 AEG AEG 0:=by
 obtain⟨e1,h4,r3,r4,p1,p2,p3,p4,x4,R3,R4,l3,l4,n34,U4,m4,q⟩:=ME (m:=m) (lf:=lf) (sq:=sq) (op:=op) (a:=a) (b:=b) (c:=c) W Rn U hop hu;rw[hr,if_neg (by decide)]at p1;refine⟨_,h4,?_,x4,rfl⟩;rw[Sd rfl,p1,BE,FP (v:=B3 0 0 0 0 AEG AEG 0) (by rw[p4];exact Cs R4),q hr]
theorem Zb(W:h.Wf)(Rn:h.Row nb 0 (AEf A.bd A.tb A.bs AES))(U:UpX X h A T ks fr k)(hX:∀ b,X b->b<h.next)(hop:op<256){l:Nat}(hu:∀ g:Hp,AEv u g=.ok (AI AT (l:Int)) g)(hr:EA lf sq op a b c l=true)(hlt:lf<AES):
  ∃ room h',call AC (m+4) 11 [pt nb,DC lf sq op a b c u] h=.ok (.tuple ⟨[B3 lf sq op 120 AEG AEG room,AI AT 0]⟩) h'/\h.Ext h':=by
 obtain⟨e1,h4,r3,r4,p1,p2,p3,p4,x4,R3,R4,l3,l4,n34,U4,m4,q⟩:=ME (m:=m) (lf:=lf) (sq:=sq) (op:=op) (a:=a) (b:=b) (c:=c) W Rn U hop hu;rw[hr,if_pos rfl]at p1;obtain⟨o1,o6,_⟩:=OH hr;have big:=W.big;obtain⟨room,h5,k5,y5⟩:=cS (m:=m) (lf:=lf) (sq:=sq) (op:=op) (a:=a) (b:=b) (c:=c) (u:=u) (w:=.func (.func (fnO op)) ⟨[]⟩ ⟨[]⟩) x4.wf (Rn.ext W x4) U4 (fun b hb=>by
  have:=x4.next;rcases hb with hb|hb
  ·have:=hX b hb
   omega
  ·omega) hlt
 obtain⟨h6,st6,f6,R6⟩:=Dz (lf:=lf) (sq:=sq) (op:=op) (err:=120) (iv:=AEG) (bw:=AEG) (room:=room) y5.wf (R4.ext x4.wf y5) rfl (by omega) rfl rfl;obtain⟨e2,q1,q2,q3⟩:=ZY (m:=m) R3 o1 o6 p2 p3 p4 k5 st6;refine⟨room,h6,?_,Fx.xtF (x4.trans y5) f6 (fun b hb=>by rw[hb];omega)⟩;rw[Sd rfl,p1,q1,BE,FP (v:=B3 lf sq op 120 AEG AEG room) (by rw[q2];exact Cs R6),q3]
theorem qN(W:h.Wf)(hA:A.n=24)(Rn:h.Row nb 0 (AEf A.bd A.tb A.bs AES))(U:UpX X h A T ks fr (k+40))(hX:∀ b,X b->b<h.next)(hXn:X nb)(hnD:¬ A.D nb)(hnt:A.tb≠nb)(AEM:256<=nb)(V:h.VE u (l.map bv))(hb:∀ x∈l,x<256)(hl:l.length<=1000)(huo:∀ b,AEe u b->b≠nb)(hr:EA lf sq op a b c l.length=true)(hle:AES<=lf):
  ∃ z iv bw room h' ks' fr',call AC (m+12) 11 [pt nb,DC lf sq op a b c u] h=.ok (.tuple ⟨[B3 lf sq op z iv bw room,AI AT 0]⟩) h'/\Fx (fun b=>A.D b\/b=nb) h h'/\h'.Row nb 0 (AEf A.bd A.tb A.bs lf)/\UpX X h' A T ks' fr' k/\z≠120/\oneCell iv=true/\oneCell bw=true:=by
 obtain⟨o1,o6,_⟩:=OH hr;obtain⟨e1,h4,r3,r4,p1,p2,p3,p4,x4,R3,R4,l3,l4,n34,U4,m4,q⟩:=ME (m:=m+8) (lf:=lf) (sq:=sq) (op:=op) (a:=a) (b:=b) (c:=c) W Rn U (by omega) (fun g=>V.bl g);rw[hr,if_pos rfl]at p1;have big:=W.big;have hD:=U.lt W;have hn:=Rn.lt W;obtain⟨ht0,_,ht⟩:=U.tab;have htl:=ht0.lt W;obtain⟨z,iv,bw,room,h5,ks',fr',k5,f5,Rn5,U5,hz,hi,hw⟩:=cR (m:=m+8) (n:=k) (lf:=lf) (sq:=sq) (op:=op) (a:=a) (b:=b) (c:=c) (u:=u) (f:=fnO op) x4.wf (Rn.ext W x4) U4 (fun b hb=>by
  have:=x4.next;rcases hb with hb|hb
  ·have:=hX b hb
   omega
  ·omega) (.inl hXn) hnD hnt AEM hle fun g Y Wg Rg Ug hY fg=>uZ (m:=m) Wg hA Rg Ug hY (((V.ext W x4)).fx x4.wf fg huo) hb hl o1 o6
 have hDr:∀ r,h.next<=r->¬ A.D r:=fun r hr h=>by have:=hD _ h;omega
 have R45:=f5.row x4.wf R4 (fun h=>by
  rcases h with h|h
  ·exact hDr _ l4 h
  ·omega)
 obtain⟨h6,st6,f6,R6⟩:=Dz (lf:=lf) (sq:=sq) (op:=op) (err:=z) (iv:=iv) (bw:=bw) (room:=room) f5.wf R45 rfl (by omega) hi hw;obtain⟨e2,q1,q2,q3⟩:=ZY (m:=m+8) R3 o1 o6 p2 p3 p4 k5 st6;have U6:=UpX.wr f5.wf U5 (.inr rfl) R45 R6 f6 (hDr _ l4) (by omega) E7;refine⟨z,iv,bw,room,h6,ks',fr',?_,Fx.drop (((Fx.of x4).trans (f5.mono fun b hb=>.inl hb)).trans (f6.mono fun b hb=>.inr (by omega))),f6.row f5.wf Rn5 (by omega),U6.less fun b hb=>.inl hb,hz,hi,hw⟩;rw[Sd rfl,p1,q1,BE,FP (v:=B3 lf sq op z iv bw room) (by rw[q2];exact Cs R6),q3]
end
end
noncomputable section
open Go
set_option maxRecDepth 100000
structure Ak where
 lf:Int
 sq:Int
 op:Nat
 a:Int
 b:Int
 c:Int
 u:IN
 l:List Nat
def Ak.cells(x:Ak):List IN:=CR x.lf x.sq x.op x.a x.b x.c x.u
def Ak.val(x:Ak):IN:=DC x.lf x.sq x.op x.a x.b x.c x.u
def AGZ(h:Hp)(x:Ak):Prop:=h.VE x.u (x.l.map bv)/\(∀ y∈x.l,y<256)/\oneCell x.u=true/\x.op<256
def flA(xs:List Ak):List IN:=xs.flatMap Ak.cells
def Hp.KL(h:Hp)(k:Nat)(v:IN)(xs:List Ak):Prop:=(v=AEG/\xs=[])\/∃ b,v=.slice (some ⟨b,0,none⟩) xs.length xs.length/\h.Row b 37 (flA xs)/\k<=b
structure AG3 (h:Hp)(v:IN)(n cap:Nat):Prop where
 len:∀ g:Hp,AEv v g=.ok (AI AT (n:Int)) g
 get:∀ i,i<n->i<cap->∃ (r:Nat) (x:Ak),(∀ g:Hp,h.Ext g->AE6 7 v (AI AT (i:Int)) g=.ok (.pointer (some ⟨r,i*7,none⟩)) g/\loadN 7 ⟨r,i*7,none⟩ g=.ok x.val g/\AEF ⟨r,i*7+6,none⟩ g=.ok x.u g)/\AGZ h x
theorem Oh:∀ xs:List Ak,(flA xs).length=xs.length*7
 |[]=>rfl
 |x::l=>by
  show(x.cells++flA l).length=_;rw[No,Oh l,xP];show 7+l.length*7=_;omega
theorem Ux:∀ (xs:List Ak) (i:Nat) (x:Ak),xs[i]? =some x->((flA xs).drop (i*7)).take 7=x.cells
 |[],i,x,h=>by cases h
 |y::xs,0,x,h=>by
  have h:some y=some x:=h;cases h;rfl
 |y::xs,i+1,x,h=>by
  show((y.cells++flA xs).drop ((i+1)*7)).take 7=_;rw[List.drop_append,List.drop_of_length_le (show y.cells.length<=_ by show 7<=_;omega),yP,show(i+1)*7 - y.cells.length=i*7 by show(i+1)*7 - 7=_;omega];exact Ux xs i x h
theorem Zo:fwK=BH (Ac 1 fwB) fwI:=rfl
theorem Sx:fwL=Zp:=rfl
theorem qd:fwS=BH (Ac 0 (A6 fwL)) fwE:=rfl
theorem pu:d10=px:=rfl
theorem kK:Ba cX.zero 1=CR 0 0 0 0 0 0 AEG:=by kernel_rfl
theorem WU:Bt .mt 0 (CR 0 0 0 0 0 0 AEG)=some cw:=by kernel_rfl
section
variable {F:AEB}{e:Env}{h h' h0 g:Hp}{S:Nat->Prop}{m k n:Nat}{v:IN}{xs:List Ak}{x:Ak}
theorem Yg(W:h.Wf){g:O}(hg:g e=x.val):As 1 (Ba cX.zero 1) [(0,7,g)] F e h=.ok (.slice (some ⟨h.next,0,none⟩) 1 1) (h.AEA 0 x.cells):=by
 rw[kK,CM,A1 (hk:=by rw[hg];rfl),hg,show cellsOf x.val=x.cells from rfl,if_pos (show x.cells.length=7 from rfl),if_pos (show 0+7<=(CR 0 0 0 0 0 0 AEG).length from IT _),Bx,C3 W];rfl
theorem Ak.one(x:Ak)(hu:oneCell x.u=true):Bb x.cells=true:=by
 show(bif oneCell x.u then true else false)=true;rw[hu];rfl
theorem Hp.KL.ext(o:h.KL k v xs)(W:h.Wf)(y:h.Ext h'):h'.KL k v xs:=by
 rcases o with h1|⟨b,h1,h2,h3⟩
 ·exact .inl h1
 ·exact .inr ⟨b,h1,h2.ext W y,h3⟩
theorem Hp.KL.fx(o:h.KL k v xs)(W:h.Wf)(f:Fx S h h')(hS:∀ b,k<=b->¬ S b):h'.KL k v xs:=by
 rcases o with h1|⟨b,h1,h2,h3⟩
 ·exact .inl h1
 ·exact .inr ⟨b,h1,f.row W h2 (hS b h3),h3⟩
theorem Hp.KL.len(o:h.KL k v xs)(g:Hp):AEv v g=.ok (AI AT (xs.length:Int)) g:=by
 rcases o with ⟨rfl,rfl⟩|⟨b,rfl,_⟩
 ·exact Df
 ·exact Df
theorem Hp.KL.at(o:h.KL k v xs){i:Nat}(hi:xs[i]? =some x):∃ b,AE6 7 v (AI AT (i:Int)) h=.ok (.pointer (some ⟨b,i*7,none⟩)) h/\loadN 7 ⟨b,i*7,none⟩ h=.ok x.val h:=by
 have hil:=(xy.1 hi).1;rcases o with ⟨rfl,rfl⟩|⟨b,rfl,h2,h3⟩
 ·cases hi
 ·refine⟨b,?_,?_⟩
  ·have:=DT (h:=h) (n:=xs.length) (c:=xs.length) (es:=7) (b:=b) (off:=0) (i:=i) (k:=.i64) hil
   rwa [OF]at this
  ·rw[h2.loadN (by rw[Oh];omega),Ux xs i x hi];rfl
theorem Hp.KL.app(o:h.KL k v xs)(W0:h0.Wf)(x0:h0.Ext h)(hk:h0.next<=k)(hkn:k<=h.next)(hl:xs.length<=1000)(hu:oneCell x.u=true):
  ∃ h' v',DO 7 72 36 v (.slice (some ⟨h.next,0,none⟩) 1 1) (h.AEA 0 x.cells)=.ok v' h'/\h0.Ext h'/\h'.KL k v' (xs++[x]):=by
 have W:=x0.wf;have x1:=x0.AEA 0 x.cells;have y1:=(Hp.Ext.refl W).AEA 0 x.cells;have Rw:=Hp.Row.new W 0 x.cells;have hn1:h.next<=(h.AEA 0 x.cells).next:=y1.next;have big:=W0.big;generalize h.AEA 0 x.cells=h1 at x1 y1 Rw hn1;have hs:∀ K:List IN->R,BO h1 7 (.slice (some ⟨h.next,0,none⟩) 1 1) 1 K=K x.cells:=fun K=>Rw.AGE (es:=7) (off:=0) (n:=1) (by show 0+1 * 7<=7;omega)
 have ha:=x.one hu;rcases o with ⟨rfl,rfl⟩|⟨b,rfl,r,hb⟩
 ·obtain⟨h5,a1,a2,a3,a4,_,a6⟩:=JY (eb:=72) (en:=36) x1 hs rfl rfl ha (by omega)
  exact⟨h5,_,a1,a2,.inr ⟨_,rfl,by rw[show flA ([]++[x])=x.cells from xZ _];exact a3,by omega⟩⟩
 ·obtain⟨h5,a1,a2,a3,_,_,a6⟩:=Np (eb:=72) (en:=36) (n:=xs.length) x1 hs rfl rfl (by omega) ha (r.ext W y1) (Oh xs) (by omega) (by omega) (by omega)
  refine⟨h5,_,a1,a2,.inr ⟨_,by rw[No];rfl,?_,by omega⟩⟩;rw[show flA (xs++[x])=flA xs++x.cells by unfold flA;rw[ACh];exact congrArg _ (xZ _)];exact a3
theorem qY(W:h.Wf)(hb:h0.Ext h)(W0:h0.Wf)(O:AG3 h0 v n 25):∃ h' v' xs,call AC (m+1) 10 [v] h=.ok v' h'/\h.Ext h'/\h'.KL h.next v' xs/\xs.length<=25/\∀ x∈xs,AGZ h0 x/\x.l.length<=150:=by
 obtain⟨e1,p1,s0,s3,s4⟩:∃ e1,d10 (call AC m) (AS e0 0 [v]) h=fwS (call AC m) e1 h/\J 0 e1=v/\J 3 e1=AEG/\J 4 e1=AI AT ((0:Nat):Int):=by
  rw[pu];unfold px;simp only[iN,IS,sT,By,BY,reduceIte];exact⟨_,rfl,by simp[AG]⟩
 have run:∃ e2 h2 xs,A6 fwL (call AC m) e1 h=.exit 0 e2 h2/\h.Ext h2/\h2.KL h.next (J 3 e2) xs/\xs.length<=25/\∀ x∈xs,AGZ h0 x/\x.l.length<=150:=by
  refine Be (I:=fun i e' h'=>∃ xs,h.Ext h'/\J 0 e'=v/\J 4 e'=AI AT (i:Int)/\i<=25/\h'.KL h.next (J 3 e') xs/\xs.length<=i/\∀ x∈xs,AGZ h0 x/\x.l.length<=150)
   (Q:=fun x=>∃ e2 h2 xs,x=.exit 0 e2 h2/\h.Ext h2/\h2.KL h.next (J 3 e2) xs/\xs.length<=25/\∀ x∈xs,AGZ h0 x/\x.l.length<=150) 25 (by omega) (fun i e' h' ⟨xs,x',t0,t4,hi,K,hl,hx⟩=>?_) ⟨[],.refl W,s0,s4,yC _,.inl ⟨s3,rfl⟩,IT _,fun x hx=>by cases hx⟩
  have W':=x'.wf;have ln:=O.len h';have done:(∃ e2,fwL (call AC m) e' h'=.exit 0 e2 h'/\J 3 e2=J 3 e')->(Ur (fwL (call AC m) e' h')=true/\∃ e2 h2 xs,fwL (call AC m) e' h'=.exit 0 e2 h2/\h.Ext h2/\h2.KL h.next (J 3 e2) xs/\xs.length<=25/\∀ x∈xs,AGZ h0 x/\x.l.length<=150):=fun⟨e2,r1,r2⟩=>by
   rw[r1];exact⟨rfl,e2,h',xs,rfl,x',by rw[r2];exact K,by omega,hx⟩
  by_cases hin:i<n
  ·have c1:=Ep hin
   by_cases AHQ:i<25
   ·left
    have c2:iLt (i:Int) 25=true:=GT (by omega);obtain⟨r2,x,hop,ok⟩:=O.get i hin AHQ;obtain⟨q1,q2,q3⟩:=hop h' (hb.trans x');have a3:=fun g:Hp=>CN (i:=i) (h:=g) (by omega)
    have vl:=ok.1.bl h';obtain⟨e2,r1,u0,u3,u4⟩:∃ e2,fwL (call AC m) e' h'=fwK (call AC m) e2 h'/\J 0 e2=v/\J 3 e2=J 3 e'/\J 4 e2=AI AT (i:Int):=by
     rw[Sx];unfold Zp;simp only[sT,By,BY,reduceIte,gD,Ae,t0,ln,AK,AJ,t4,c1,c2];exact⟨_,rfl,by simp[AG,t0,t4]⟩
    have fin:∀ (e3:Env) (h3:Hp),J 4 e3=AI AT (i:Int)->∃ e4,fwI (call AC m) e3 h3=.norm e4 h3/\J 4 e4=AI AT ((i+1:Nat):Int)/\J 0 e4=J 0 e3/\J 3 e4=J 3 e3:=fun e3 h3 r5=>by
     unfold fwI;simp only[sT,By,BY,reduceIte,BP,r5,a3];exact⟨_,rfl,by simp[AG]⟩
    by_cases AHk:x.l.length<=150
    ·have c3:iLe (x.l.length:Int) 150=true:=HT (by omega)
     have sl:=fun (F:AEB) (e:Env) (he:J 26 e=x.val)=>Yg (F:=F) (e:=e) (x:=x) W' he
     obtain⟨h5,v5,k5,x5,K5⟩:=K.app (x:=x) W x' (IT _) x'.next (by omega) ok.2.2.1;obtain⟨e3,r3,w0,w3,w4⟩:∃ e3,fwB (call AC m) e2 h'=.norm e3 h5/\J 0 e3=v/\J 3 e3=v5/\J 4 e3=AI AT (i:Int):=by
      unfold fwB;simp only[sT,By,BY,reduceIte,A8,u0,u4,q1,AH,AN,AM,AP,q3,Ae,vl,AK,AJ,c3,Ar,Aj,q2,sl,BL,u3,k5];exact⟨_,rfl,by simp[AG,u0,u4]⟩
     obtain⟨e4,f1,f2,f3,f4⟩:=fin e3 h5 w4;refine⟨AHQ,e4,h5,?_,xs++[x],x5,f3.trans w0,f2,AHQ,by rw[f4,w3];exact K5,by rw[No];show xs.length+1<=_;omega,fun z hz=>?_⟩
     ·rw[r1,Zo]
      simp only[BJ,Az,r3,C4,BD,f1]
     ·rcases List.mem_append.1 hz with hz|hz
      ·exact hx z hz
      ·rw[List.mem_singleton.1 hz];exact⟨ok,AHk⟩
    ·have c3:iLe (x.l.length:Int) 150=false:=JV (by omega)
     obtain⟨e3,r3,w0,w3,w4⟩:∃ e3,fwB (call AC m) e2 h'=.norm e3 h'/\J 0 e3=v/\J 3 e3=J 3 e2/\J 4 e3=AI AT (i:Int):=by
      unfold fwB;simp only[sT,By,BY,reduceIte,A8,u0,u4,q1,AH,AN,AM,AP,q3,Ae,vl,AK,AJ,c3];exact⟨_,rfl,by simp[AG,u0,u4]⟩
     obtain⟨e4,f1,f2,f3,f4⟩:=fin e3 h' w4;refine⟨AHQ,e4,h',?_,xs,x',f3.trans w0,f2,AHQ,by rw[f4,w3,u3];exact K,by omega,hx⟩;rw[r1,Zo];simp only[BJ,Az,r3,C4,BD,f1]
   ·right
    have c2:iLt (i:Int) 25=false:=E5 (by omega);refine done ?_;rw[Sx];unfold Zp;simp only[sT,By,BY,reduceIte,gD,Ae,t0,ln,AK,AJ,t4,c1,c2];exact⟨_,rfl,by simp[AG]⟩
  ·right
   have c1:=DE (show n<=i by omega);refine done ?_;rw[Sx];unfold Zp;simp only[sT,By,BY,reduceIte,gD,Ae,t0,ln,AK,AJ,t4,c1];exact⟨_,rfl,by simp[AG]⟩
 obtain⟨e2,h2,xs,r1,x2,K,hl,hx⟩:=run;refine⟨h2,_,xs,?_,x2,K,hl,hx⟩;rw[oL rfl,p1,qd];simp only[BJ,Az,r1,A9,BD];unfold fwE;simp only[sT,By,BY,reduceIte,lV0]
end
end
noncomputable section
open Go
set_option maxRecDepth 100000
theorem wV:kE.zero=[.pointer none,.pointer none,.pointer none,AI AT 0]:=by kernel_rfl
section
variable {F:AEB}{e:Env}{h h':Hp}{A:At}{T M:List Nat}{c0 bad m k n nb r bd bm bc bs tb:Nat}{arm AES a b z:Int}{ks:List Kt}{fr:List Nat}{v lv fv:IN}{ov:Bool}{x:Kt}
theorem uv:se [] [0,1,2,3,4,5,6,7]:=⟨List.nodup_nil,.refl _⟩
theorem vC:Med T iP [] [0,1,2,3,4,5,6,7]:=by
 refine⟨zF,fun k hk=>(by cases hk),fun k hk=>(by cases hk),fun p _ r _=>RU,fun k hk=>(by cases hk),fun p hp=>?_⟩;simp only[xe,List.not_mem_nil,or_false]at hp;omega
theorem aN(hn:1<=z/\z<=2199023255552):∃ r,call AC (m+1) 14 [AI AT a,AI AT z] h=.ok (AI AT r) h/\0<=r/\r<z:=by
 have c1:iLe z 0=false:=JV (by omega);have r1:YI .i64 (AI AT a) (AI AT z) h=.ok (AI AT (a.tmod z)) h:=PP (by omega);have b1:a.tmod z<z:=Int.tmod_lt_of_pos a (by omega);have b2: - z<a.tmod z:=Int.lt_tmod_of_pos a (by omega);rw[oO rfl];unfold d14;by_cases hneg:a.tmod z<0
 ·have c2:iLt (a.tmod z) 0=true:=GT hneg
  have a3:FE .i64 (AI AT (a.tmod z)) (AI AT z) h=.ok (AI AT (((a.tmod z+z).toNat:Nat):Int)) h:=by
   rw[D0,show a.tmod z+z=(((a.tmod z+z).toNat:Nat):Int)by omega,Bj (by omega)];rfl
  refine⟨((a.tmod z+z).toNat:Nat),?_,Int.natCast_nonneg _,by omega⟩;simp only[iN,IS,sT,By,BY,reduceIte,AK,AJ,c1,Jf,r1,c2,BP,a3,lV0]
 ·have c2:iLt (a.tmod z) 0=false:=E5 hneg
  refine⟨a.tmod z,?_,by omega,b1⟩;simp only[iN,IS,sT,By,BY,reduceIte,AK,AJ,c1,Jf,r1,c2,lV0]
theorem VZ(Rn:h.Row nb 0 (AEf bd tb bs AES)):call AC (m+1) 12 [pt nb] h=.ok (AI AT AES) h:=by
 obtain⟨_,_,_,n3⟩:=CL Rn;have p1:∀ e:Env,J 0 e=pt nb->oEq SH.k false (J 0) (kV (.pointer none)) (call AC m) e h=.ok (.bool false) h:=fun e he=>FK cV he
 rw[oM rfl];unfold d12;simp only[iN,IS,sT,By,BY,reduceIte,p1,Av,Af,AH,AN,OF,AM,AP,n3,lV0]
theorem Vm(W:h.Wf)(Rn:h.Row nb 0 (AEf A.bd A.tb A.bs AES))(s:Sl h A T M c0 arm ks fr lv fv bad ov):∃ h' v,call AC (m+5) 13 [pt nb] h=.ok v h'/\h.Ext h'/\h'.AL h.next v ks:=by
 obtain⟨_,_,n2,_⟩:=CL Rn;have p1:∀ e:Env,J 0 e=pt nb->oEq SH.k false (J 0) (kV (.pointer none)) (call AC (m+4)) e h=.ok (.bool false) h:=fun e he=>FK cV he
 obtain⟨h3,v3,k3,x3,V3⟩:=UF (m:=m) W s.row s.ls (Sl.all s) s.le.1;have k3:call AC (m+4) 40 [pt A.bs] h=.ok v3 h3:=k3;refine⟨h3,v3,?_,x3,V3⟩;rw[oN rfl];unfold d13;simp only[iN,IS,sT,By,BY,reduceIte,p1,Av,Af,AH,AN,OF,AM,AP,n2,cA0,k3,lV0]
theorem oF{g1 g2 g3:O}(h1:g1 e=pt bd)(h2:g2 e=pt tb)(h3:g3 e=pt bs):BU kE.zero [(0,1,g1),(1,1,g2),(2,1,g3)] F e h=.ok (.agg ⟨AEf bd tb bs 0⟩) h:=by
 rw[Cr,wV,A1 (hk:=by rw[h1];rfl),h1,A1 (hk:=by rw[h2];rfl),h2,A1 (hk:=by rw[h3];rfl),h3];rfl
theorem YE(W:h.Wf)(Rt:h.Row tb 0 (T.map wv))(hT:AE5 T):
  ∃ h' bs bd bm bc nb,call AC (m+10) 9 [pt tb] h=.ok (.tuple ⟨[pt bd,pt nb,.bool true]⟩) h'/\h.Ext h'/\UpX (fun b=>b=nb) h' ⟨bs,bd,bm,bc,tb,24⟩ T [] [0,1,2,3,4,5,6,7] k/\h'.Row nb 0 (AEf bd tb bs 0)/\(∀ b,At.D ⟨bs,bd,bm,bc,tb,24⟩ b->h.next<=b/\b<nb)/\h.next<=nb:=by
 obtain⟨h1,bd,bm,bc,k1,x1,d,l1,l2,l3⟩:=ga (m:=m+8) (n:=24) W (by omega);have htb:=Rt.lt W;have d:Dk h1 bd bm bc 24 iP 0 [] (-1) false:=d;obtain⟨h2,bs,c1,AEg,lv,fv,ks3,k2,f2,s2,pm,l4,ha⟩:=bK (m:=m) (k:=k) x1.wf d (Rt.ext W x1) hT ⟨by omega,by omega,by omega⟩ uv (vC (T:=T)) (fun x hx=>by cases hx) (we _);have hk:ks3=[]:=List.map_eq_nil_iff.1 (List.perm_nil.1 pm);subst hk;have s2:Sl h2 ⟨bs,bd,bm,bc,tb,24⟩ T iP c1 AEg [] [0,1,2,3,4,5,6,7] lv fv 0 false:=s2;have k2:call AC (m+8) 47 [pt bd,pt tb,AI AT 100] h1=.ok (.tuple ⟨[pt bs,AI AT 0]⟩) h2:=k2;have k1:call AC (m+9) 30 [AI AT 24] h=.ok (.tuple ⟨[pt bd,AI AT 0]⟩) h1:=k1;have x2:h.Ext h2:=Fx.AKP x1 f2 fun b hb=>by rcases hb with rfl|rfl|rfl<;>assumption
 have W2:=x2.wf;have hn1:=x1.next;have c0:iEq 0 0=true:=CV rfl;have c00:iNe 0 0=false:=CE rfl;have y3:=(Hp.Ext.refl W2).AEA 0 (AEf bd tb bs 0);have R3:=Hp.Row.new W2 0 (AEf bd tb bs 0);have k3:call AC (m+9) 21 [pt bd,pt tb,AI AT 100] h1=.ok (.tuple ⟨[pt h2.next,AI AT 0]⟩) (h2.AEA 0 (AEf bd tb bs 0)):=by
  have bn:=fun (F:AEB) (e:Env) (e1:J 0 e=pt bd) (e2:J 1 e=pt tb) (e3:J 8 e=pt bs)=>oF (F:=F) (h:=h2) e1 e2 e3
  have bx:=fun (F:AEB) (e:Env) (he:J 23 e=.agg ⟨AEf bd tb bs 0⟩)=>(show CZ (J 23) F e h2=.ok (pt h2.next) (h2.AEA 0 (AEf bd tb bs 0))by rw[Ew,he,Et W2];rfl)
  rw[oS rfl];unfold d21;simp only[iN,IS,sT,By,BY,reduceIte,cA0,k2,A7,BA,BC,AK,AJ,c00,bn,bx,BE,DR]
 have D2:=s2.AGp W2;have s3:=s2.ext W2 y3;refine⟨_,bs,bd,bm,bc,h2.next,?_,x2.trans y3,⟨⟨iP,c1,AEg,lv,fv,s3,uv,vC,fun x hx=>(by cases hx),ha⟩,fun x hx=>(by cases hx)⟩,R3,fun b hb=>⟨?_,D2 b hb⟩,x2.next⟩
 ·rw[ug rfl]
  unfold d9;simp only[iN,IS,sT,By,BY,reduceIte,gD,cA0,k1,A7,BA,BC,k3,AK,AJ,c0,BE,MM]
 ·rcases hb with h1|h1|h1|h1<;>rw[h1]
  ·exact Nat.le_trans hn1 l4
  ·exact l1
  ·exact l2
  ·exact l3
end
end
noncomputable section
open Go
set_option maxRecDepth 100000
theorem TG:lvB=aD:=rfl
theorem rO:lvK=BH (Ac 1 lvB) lvI:=rfl
theorem aE:lvL=iL:=rfl
def lq(j:Nat):Prop:=j=1\/j=7\/j=28\/j=29\/j=30
structure Ctx (h0:Hp)(A:At)(nb kk:Nat):Prop where
 W0:h0.Wf
 hD:∀ b,A.D b->h0.next<=b/\b<nb
 n24:A.n=24
 nb0:h0.next<=nb
 kk:nb<kk
 tb:A.tb≠nb
section
variable {F:AEB}{e:Env}{h h' h0 g:Hp}{A:At}{T:List Nat}{m k kk n nb r r11 r12 op i bd tb bs:Nat}{AES lf sq a b c z room:Int}{ks ks':List Kt}{fr fr' l:List Nat}{v u iv bw:IN}{x:Ak}{xs:List Ak}
theorem Pr{p:Bool}{g1 g2:O}(h1:g1 e=.bool p)(h2:g2 e=.bool p):oEq ty4.k true g1 g2 F e h=.ok (.bool false) h:=by
 show(match eqV ty4.k (g1 e) (g2 e)with|some r=>okB (true != r) h|none=>.no)=_;rw[xH,h1,h2];cases p<;>exact FC
theorem L2(W:h.Wf){z:VT}{L vs:List IN}(hz:Bt .mt 0 L=some z)(hL:L.length=7)(hv:vs.length=7)(h1:Bb vs=true):
  ∃ g1 g2,(∀ (F:AEB) (e:Env),Bc 7 z F e h=.ok (pt h.next) g1)/\AEK 7 (pt h.next) (.agg ⟨vs⟩) g1=.ok AEE g2/\h.Ext g2/\g2.Row h.next 0 vs/\h.next<g2.next:=by
 have al:=fun (F:AEB) (e:Env)=>BQ (F:=F) (e:=e) W (n:=7) (t:=z)
 have Ra:=Hp.Row.alloc W hz hL;have y2:h.Ext (h.push (.cells z 7 0)):=(Hp.Ext.refl W).push _;generalize h.push (.cells z 7 0)=h2 at al Ra y2;have big:=W.big;have ho:0+vs.length<=L.length:=by rw[hL,hv];exact IT _
 have st:=Ra.AEK (n:=7) (off:=0) y2.wf (by omega) (v:=.agg ⟨vs⟩) hv ho h1;have wr:=Ra.AEP y2.wf ho;rw[Ff (show L.length=vs.length by rw[hL,hv])]at wr;have x3:=Ra.AEi y2 (IT _) ho;exact⟨h2,_,al,st,x3,wr,wr.lt x3.wf⟩
theorem Hp.VE.lt{xs:List IN}(V:h.VE u xs)(W:h.Wf):∀ b,AEe u b->b<h.next:=fun b ⟨off,n,c,hb⟩=>by
 rcases V with (⟨h1,_⟩|⟨b',off',c',el,L,h1,h2,_⟩)|⟨⟨r,h1⟩,_⟩
 ·rw[h1]at hb;cases hb
 ·rw[h1]at hb
  injection hb with hb
  injection hb with hb
  injection hb with hb
  rw[<- hb];exact h2.lt W
 ·rw[h1]at hb;cases hb
theorem K8{n:Nat}(hr:EA lf sq op a b c n=true):1<=lf/\lf<=1099511627776:=by
 unfold EA hdQ wiQ at hr;simp only[xk,decide_eq_true_eq]at hr;exact hr.1.1.1.1
theorem aF(R12:h.Row r12 0 (Db lf sq op z iv bw room))(R11:h.Row r11 0 x.cells)(Rn:h.Row nb 0 (AEf bd tb bs (max AES x.lf)))(hz:z=120↔x.lf<AES)(s7:J 7 e=pt nb)(s9:J 9 e=AI AT AES)(s11:J 11 e=pt r11)(s12:J 12 e=pt r12):
  ∃ e',lvT (call AC (m+1)) e h=.norm e' h/\(∀ j,lq j->J j e'=J j e)/\J 9 e'=AI AT (max AES x.lf):=by
 have k1:=VZ (m:=m) Rn;obtain⟨l3,_⟩:=Iy R12;obtain⟨l0,_⟩:=B0 (show h.Row r11 0 (CR x.lf x.sq x.op x.a x.b x.c x.u)from R11);have c3:iNe (max AES x.lf) (max AES x.lf)=false:=CE rfl;have mx:=fun (F:AEB) (e:Env) (h1:J 9 e=AI AT AES) (h2:J 52 e=AI AT x.lf)=>TH (F:=F) (h:=h) (x:=J 9) (y:=J 52) h1 h2
 by_cases hq:x.lf<AES
 ·have c1:iEq z 120=true:=CV (hz.2 hq)
  have c2:iLt x.lf AES=true:=GT hq;have be:=fun (F:AEB) (e:Env) (h1:J 44 e=.bool true) (h2:J 48 e=.bool true)=>Pr (F:=F) (h:=h) h1 h2
  unfold lvT;simp only[sT,By,BY,reduceIte,s12,s11,s7,s9,AH,AN,OF,AM,AP,l3,l0,AK,AJ,c1,c2,be,mx,cA0,k1,c3];refine⟨_,rfl,fun j hj=>?_,by simp[AG]⟩;rcases hj with rfl|rfl|rfl|rfl|rfl<;>simp only[AG,By,BY,reduceIte]
 ·have c1:iEq z 120=false:=B8 fun h=>hq (hz.1 h)
  have c2:iLt x.lf AES=false:=E5 hq;have be:=fun (F:AEB) (e:Env) (h1:J 44 e=.bool false) (h2:J 48 e=.bool false)=>Pr (F:=F) (h:=h) h1 h2
  unfold lvT;simp only[sT,By,BY,reduceIte,s12,s11,s7,s9,AH,AN,OF,AM,AP,l3,l0,AK,AJ,c1,c2,be,mx,cA0,k1,c3];refine⟨_,rfl,fun j hj=>?_,by simp[AG]⟩;rcases hj with rfl|rfl|rfl|rfl|rfl<;>simp only[AG,By,BY,reduceIte]
theorem rQ(C0:Ctx h0 A nb kk)(x0:h0.Ext h)(K:h.KL kk v xs)(hi:xs[i]? =some x)(ok:AGZ h0 x)(AHk:x.l.length<=150)(Rn:h.Row nb 0 (AEf A.bd A.tb A.bs AES))(U:UpX (fun b=>b=nb) h A T ks fr (k+40))(hlf:0<=AES/\AES<=1099511627776)
  (s7:J 7 e=pt nb)(s9:J 9 e=AI AT AES)(s28:J 28 e=v)(s30:J 30 e=AI AT (i:Int)):
  ∃ e' h' AEy ks' fr',(lvB (call AC (m+12)) e h=.exit 1 e' h'\/lvB (call AC (m+12)) e h=.norm e' h')/\h0.Ext h'/\(∀ j,lq j->J j e'=J j e)/\J 9 e'=AI AT AEy/\(0<=AEy/\AEy<=1099511627776)/\UpX (fun b=>b=nb) h' A T ks' fr' k/\h'.Row nb 0 (AEf A.bd A.tb A.bs AEy)/\h'.KL kk v xs:=by
 have W:=x0.wf;obtain⟨b,ix,ld⟩:=K.at hi;obtain⟨g1,h1,al1,st1,y1,R1,q1⟩:=L2 W WU rfl (vs:=x.cells) rfl (x.one ok.2.2.1);have st1:AEK 7 (pt h.next) x.val g1=.ok AEE h1:=st1;obtain⟨_,_,_,_,_,_,_,lda⟩:=B0 (show h1.Row h.next 0 (CR x.lf x.sq x.op x.a x.b x.c x.u)from R1);have lda:loadN 7 ⟨h.next,0,none⟩ h1=.ok x.val h1:=lda;have x1:=x0.trans y1;have V1:=ok.1.ext C0.W0 x1;have U1:=U.ext W y1;have Rn1:=Rn.ext W y1;have hnl:=Rn.lt W;have big:=C0.W0.big;have AKl:=C0.nb0;have hkk:=C0.kk;cases hr:EA x.lf x.sq x.op x.a x.b x.c x.l.length
 ·obtain⟨tv,h2,k2,y2,ht⟩:=Za (m:=m+8) y1.wf Rn1 U1 ok.2.2.2 (fun g=>V1.bl g) hr
  have k2:call AC (m+12) 11 [pt nb,x.val] h1=.ok (.tuple ⟨[tv,AI AT 110]⟩) h2:=k2;subst ht;obtain⟨g3,h3,al3,st3,y3,R3,q3⟩:=L2 y2.wf Dc rfl (vs:=Db 0 0 0 0 AEG AEG 0) rfl rfl;have st3:AEK 7 (pt h2.next) (B3 0 0 0 0 AEG AEG 0) g3=.ok AEE h3:=st3;have c1:iNe 110 0=true:=FZ (by omega);have y:=(y1.trans y2).trans y3;have hrun:∃ e',lvB (call AC (m+12)) e h=.exit 1 e' h3/\(∀ j,lq j->J j e'=J j e)/\J 9 e'=AI AT AES:=by
   rw[TG];unfold aD;simp only[sT,By,BY,reduceIte,A8,s28,s30,ix,Ar,Aj,ld,al1,AX,st1,lda,cA0,s7,k2,A7,BA,BC,al3,st3,AK,AJ,c1];refine⟨_,rfl,fun j hj=>?_,by simp[AG,s9]⟩;rcases hj with rfl|rfl|rfl|rfl|rfl<;>simp only[AG,By,BY,reduceIte]
  obtain⟨e',p1,p2,p3⟩:=hrun;exact⟨e',h3,AES,ks,fr,.inl p1,x0.trans y,p2,p3,hlf,(U.ext W y).le (by omega),Rn.ext W y,K.ext W y⟩
 ·obtain⟨rl1,rl2⟩:=K8 hr
  have c1:iNe 0 0=false:=CE rfl;by_cases hq:x.lf<AES
  ·obtain⟨room,h2,k2,y2⟩:=Zb (m:=m+8) y1.wf Rn1 U1 (fun b hb=>by rw[hb];exact Rn1.lt y1.wf) ok.2.2.2 (fun g=>V1.bl g) hr hq
   have k2:call AC (m+12) 11 [pt nb,x.val] h1=.ok (.tuple ⟨[B3 x.lf x.sq x.op 120 AEG AEG room,AI AT 0]⟩) h2:=k2;obtain⟨g3,h3,al3,st3,y3,R3,q3⟩:=L2 y2.wf Dc rfl (vs:=Db x.lf x.sq x.op 120 AEG AEG room) rfl rfl;have st3:AEK 7 (pt h2.next) (B3 x.lf x.sq x.op 120 AEG AEG room) g3=.ok AEE h3:=st3;have y:=(y1.trans y2).trans y3;have hmx:max AES x.lf=AES:=Int.max_eq_left (by omega);have hrun:∃ e1,lvB (call AC (m+12)) e h=lvT (call AC (m+12)) e1 h3/\(∀ j,lq j->J j e1=J j e)/\J 9 e1=AI AT AES/\J 11 e1=pt h.next/\J 12 e1=pt h2.next:=by
    rw[TG];unfold aD;simp only[sT,By,BY,reduceIte,A8,s28,s30,ix,Ar,Aj,ld,al1,AX,st1,lda,cA0,s7,k2,A7,BA,BC,al3,st3,AK,AJ,c1];refine⟨_,rfl,fun j hj=>?_,by simp[AG,s9]⟩;rcases hj with rfl|rfl|rfl|rfl|rfl<;>simp only[AG,By,BY,reduceIte]
   obtain⟨e1,p1,p2,p3,p4,p5⟩:=hrun;have Rn3:=Rn.ext W y;obtain⟨e',f1,f2,f3⟩:=aF (m:=m+11) (x:=x) (AES:=AES) R3 ((R1.ext y1.wf (y2.trans y3))) (by rw[hmx];exact Rn3) ⟨fun _=>hq,fun _=>rfl⟩ ((p2 7 (.inr (.inl rfl))).trans s7) p3 p4 p5;rw[hmx]at f3;exact⟨e',h3,AES,ks,fr,.inr (p1.trans f1),x0.trans y,fun j hj=>(f2 j hj).trans (p2 j hj),f3,hlf,(U.ext W y).le (by omega),Rn3,K.ext W y⟩
  ·obtain⟨z,iv,bw,room,h2,ks',fr',k2,f2,Rn2,U2,hz,hiv,hbw⟩:=qN (m:=m) (k:=k) y1.wf C0.n24 Rn1 U1 (fun b hb=>by rw[hb];exact Rn1.lt y1.wf) rfl (fun hb=>by have:=C0.hD _ hb;omega) C0.tb (by omega) V1 ok.2.1 (by omega) (fun b hb=>by
    have:=ok.1.lt C0.W0 b hb;omega) hr (by omega)
   have k2:call AC (m+12) 11 [pt nb,x.val] h1=.ok (.tuple ⟨[B3 x.lf x.sq x.op z iv bw room,AI AT 0]⟩) h2:=k2;have one:Bb (Db x.lf x.sq x.op z iv bw room)=true:=RA hiv hbw;obtain⟨g3,h3,al3,st3,y3,R3,q3⟩:=L2 f2.wf Dc rfl (vs:=Db x.lf x.sq x.op z iv bw room) rfl one;have st3:AEK 7 (pt h2.next) (B3 x.lf x.sq x.op z iv bw room) g3=.ok AEE h3:=st3;have hmx:max AES x.lf=x.lf:=Int.max_eq_right (by omega);have hS:∀ b,(A.D b\/b=nb)->h0.next<=b/\b<=nb:=fun b hb=>by
    rcases hb with hb|hb
    ·have:=C0.hD b hb
     omega
    ·omega
   have x2:h0.Ext h2:=Fx.xtF x1 f2 fun b hb=>(hS b hb).1
   have hrun:∃ e1,lvB (call AC (m+12)) e h=lvT (call AC (m+12)) e1 h3/\(∀ j,lq j->J j e1=J j e)/\J 9 e1=AI AT AES/\J 11 e1=pt h.next/\J 12 e1=pt h2.next:=by
    rw[TG];unfold aD;simp only[sT,By,BY,reduceIte,A8,s28,s30,ix,Ar,Aj,ld,al1,AX,st1,lda,cA0,s7,k2,A7,BA,BC,al3,st3,AK,AJ,c1];refine⟨_,rfl,fun j hj=>?_,by simp[AG,s9]⟩;rcases hj with rfl|rfl|rfl|rfl|rfl<;>simp only[AG,By,BY,reduceIte]
   obtain⟨e1,p1,p2,p3,p4,p5⟩:=hrun;have Rn3:=Rn2.ext f2.wf y3;have R13:=(f2.row y1.wf R1 fun hb=>by have:=hS _ hb;omega).ext f2.wf y3;obtain⟨e',q1,q2,q3⟩:=aF (m:=m+11) (x:=x) (AES:=AES) R3 R13 (by rw[hmx];exact Rn3) ⟨fun h=>absurd h hz,fun h=>absurd h hq⟩ ((p2 7 (.inr (.inl rfl))).trans s7) p3 p4 p5;rw[hmx]at q3;exact⟨e',h3,x.lf,ks',fr',.inr (p1.trans q1),x2.trans y3,fun j hj=>(q2 j hj).trans (p2 j hj),q3,⟨by omega,rl2⟩,U2.ext f2.wf y3,Rn3,((K.ext W y1).fx y1.wf f2 fun b hb hs=>by have:=hS _ hs;omega).ext f2.wf y3⟩
theorem iM(C0:Ctx h0 A nb kk)(x0:h0.Ext h)(K:h.KL kk v xs)(hl:xs.length<=25)(hx:∀ x∈xs,AGZ h0 x/\x.l.length<=150)(Rn:h.Row nb 0 (AEf A.bd A.tb A.bs 0))(U:UpX (fun b=>b=nb) h A T ks fr 1000)
  (s7:J 7 e=pt nb)(s9:J 9 e=AI AT 0)(s28:J 28 e=v)(s29:J 29 e=AI AT (xs.length:Int))(s30:J 30 e=AI AT ((0:Nat):Int)):
  ∃ e' h' AEy ks' fr',A6 lvL (call AC (m+12)) e h=.exit 0 e' h'/\h0.Ext h'/\(∀ j,lq j->j≠30->J j e'=J j e)/\J 9 e'=AI AT AEy/\(0<=AEy/\AEy<=1099511627776)/\UpX (fun b=>b=nb) h' A T ks' fr' 0/\h'.Row nb 0 (AEf A.bd A.tb A.bs AEy):=by
 refine Be (I:=fun i e' h'=>∃ AEy ks' fr',h0.Ext h'/\(∀ j,lq j->j≠30->J j e'=J j e)/\J 30 e'=AI AT (i:Int)/\i<=xs.length/\J 9 e'=AI AT AEy/\(0<=AEy/\AEy<=1099511627776)/\UpX (fun b=>b=nb) h' A T ks' fr' (1000 - 40*i)/\h'.Row nb 0 (AEf A.bd A.tb A.bs AEy)/\h'.KL kk v xs)
  (Q:=fun x=>∃ e' h' AEy ks' fr',x=.exit 0 e' h'/\h0.Ext h'/\(∀ j,lq j->j≠30->J j e'=J j e)/\J 9 e'=AI AT AEy/\(0<=AEy/\AEy<=1099511627776)/\UpX (fun b=>b=nb) h' A T ks' fr' 0/\h'.Row nb 0 (AEf A.bd A.tb A.bs AEy)) xs.length (by omega) (fun i e' h' ⟨AEy,ks',fr',x',tj,t30,hi,t9,hlf,U',Rn',K'⟩=>?_)
  ⟨0,ks,fr,x0,fun _ _ _=>rfl,s30,yC _,s9,⟨by omega,by omega⟩,U,Rn,K⟩
 have t29:=(tj 29 (by unfold lq;omega) (by omega)).trans s29;by_cases hlt:i<xs.length
 ·left
  have c1:=Ep hlt;obtain⟨x,hxi⟩:∃ x,xs[i]? =some x:=⟨_,xL hlt⟩;obtain⟨ok,AHk⟩:=hx x (List.mem_of_getElem? hxi);obtain⟨e1,p1,u9,uj⟩:∃ e1,lvL (call AC (m+12)) e' h'=lvK (call AC (m+12)) e1 h'/\J 9 e1=AI AT AEy/\∀ j,lq j->J j e1=J j e':=by
   rw[aE];unfold iL;simp only[sT,By,BY,reduceIte,AK,AJ,t30,t29,c1];refine⟨_,rfl,by simp[AG,t9],fun j hj=>?_⟩;rcases hj with rfl|rfl|rfl|rfl|rfl<;>simp only[AG,By,BY,reduceIte]
  obtain⟨e2,h2,AHR,ks2,fr2,r1,x2,wj,w9,AKY,U2,Rn2,K2⟩:=rQ (m:=m) (k:=1000 - 40*(i+1)) C0 x' K' hxi ok AHk Rn' (by rw[show 1000 - 40*(i+1)+40=1000 - 40*i by omega];exact U') hlf ((uj 7 (by unfold lq;omega)).trans ((tj 7 (by unfold lq;omega) (by omega)).trans s7)) u9 ((uj 28 (by unfold lq;omega)).trans ((tj 28 (by unfold lq;omega) (by omega)).trans s28)) ((uj 30 (by unfold lq;omega)).trans t30);have w30:=(wj 30 (by unfold lq;omega)).trans ((uj 30 (by unfold lq;omega)).trans t30);have a3:=CN (i:=i) (h:=h2) (by omega);obtain⟨e3,f1,f9,f30,fj⟩:∃ e3,lvI (call AC (m+12)) e2 h2=.norm e3 h2/\J 9 e3=AI AT AHR/\J 30 e3=AI AT ((i+1:Nat):Int)/\∀ j,lq j->j≠30->J j e3=J j e2:=by
   unfold lvI;simp only[sT,By,BY,reduceIte,BP,w30,a3];refine⟨_,rfl,by simp[AG,w9],by simp[AG],fun j hj hn=>?_⟩;rcases hj with rfl|rfl|rfl|rfl|rfl<;>first|exact absurd rfl hn|simp only[AG,By,BY,reduceIte]
  refine⟨hlt,e3,h2,?_,AHR,ks2,fr2,x2,fun j hj hn=>(fj j hj hn).trans ((wj j hj).trans ((uj j hj).trans (tj j hj hn))),f30,hlt,f9,AKY,U2,Rn2,K2⟩;rw[p1,rO];rcases r1 with r1|r1
  ·simp only[BJ,Az,r1,A9,BD,f1]
  ·simp only[BJ,Az,r1,C4,BD,f1]
 ·right
  obtain rfl:i=xs.length:=by omega
  have c1:=DE (IT xs.length);obtain⟨e1,p1,u9,uj⟩:∃ e1,lvL (call AC (m+12)) e' h'=.exit 0 e1 h'/\J 9 e1=AI AT AEy/\∀ j,lq j->J j e1=J j e':=by
   rw[aE];unfold iL;simp only[sT,By,BY,reduceIte,AK,AJ,t30,t29,c1];refine⟨_,rfl,by simp[AG,t9],fun j hj=>?_⟩;rcases hj with rfl|rfl|rfl|rfl|rfl<;>simp only[AG,By,BY,reduceIte]
  rw[p1];exact⟨rfl,e1,h',AEy,ks',fr',rfl,x',fun j hj hn=>(uj j hj).trans (tj j hj hn),u9,hlf,U'.le (yC _),Rn'⟩
end
end
noncomputable section
open Go
set_option maxRecDepth 100000
theorem aA:ltB=iJ:=rfl
theorem rJ:ltK=BH (Ac 3 ltB) ltI:=rfl
theorem TC:ltL=aB:=rfl
def tq(j:Nat):Prop:=j=1\/j=7\/j=9\/j=14
structure Still (h0 hB:Hp)(A:At)(T:List Nat)(nb kw:Nat)(AES:Int)(w:IN)(ks:List Kt)(fr:List Nat):Prop where
 W0:h0.Wf
 x0:h0.Ext hB
 U:UpX (fun b=>b=nb) hB A T ks fr 0
 Rn:hB.Row nb 0 (AEf A.bd A.tb A.bs AES)
 V:hB.AL kw w ks
 lf:0<=AES/\AES<=1099511627776
section
variable {F:AEB}{e:Env}{h h' h0 hB g:Hp}{A:At}{T M:List Nat}{c0 m kw n nb r op i:Nat}{arm AES lf sq a b c z room:Int}{ks:List Kt}{fr l:List Nat}{v lv fv u w:IN}{x:Ak}
theorem aC(C:Still h0 hB A T nb kw AES w ks fr)(x:hB.Ext h)(s7:J 7 e=pt nb)(s9:J 9 e=AI AT AES)(s14:J 14 e=w)(AKZ:J 103 e=.bool false):
  ∃ e' h',ltT (call AC (m+5)) e h=.norm e' h'/\h.Ext h'/\∀ j,tq j\/j=15->J j e'=J j e:=by
 have W:=x.wf;have WB:=C.U;obtain⟨⟨M,c0,arm,lv,fv,s,_⟩,_⟩:=C.U;have WB:=C.x0.wf;have s':=s.ext WB x;obtain⟨h1,v1,k1,y1,V1⟩:=Vm (m:=m) W (C.Rn.ext WB x) s';obtain⟨h2,k2,y2⟩:=jr (m:=m+2) y1.wf V1 (C.V.ext WB (x.trans y1)) rfl (fun x hx=>(s.ko x hx).2.1) s.le.1;have k2:call AC (m+5) 15 [v1,w] h1=.ok (.bool true) h2:=k2;have k3:=VZ (m:=m+4) (C.Rn.ext WB ((x.trans y1).trans y2));have c3:iNe AES AES=false:=CE rfl;have hrun:∃ e',ltT (call AC (m+5)) e h=.norm e' h2/\∀ j,tq j\/j=15->J j e'=J j e:=by
  unfold ltT;simp only[sT,By,BY,reduceIte,gD,s7,s9,s14,AKZ,cA0,k1,k2,BZ,BX,yT,k3,AK,AJ,c3];refine⟨_,rfl,fun j hj=>?_⟩;rcases hj with (rfl|rfl|rfl|rfl)|rfl<;>simp only[AG,By,BY,reduceIte]
 obtain⟨e',p1,p2⟩:=hrun;exact⟨e',h2,p1,y1.trans y2,p2⟩
theorem rL(C:Still h0 hB A T nb kw AES w ks fr)(x0:hB.Ext h)(O:AG3 h0 v n 10)(hin:i<n)(h10:i<10)(s1:J 1 e=v)(s7:J 7 e=pt nb)(s9:J 9 e=AI AT AES)(s14:J 14 e=w)(s15:J 15 e=AI AT (i:Int)):
  ∃ e' h',ltB (call AC (m+5)) e h=.norm e' h'/\h.Ext h'/\∀ j,tq j\/j=15->J j e'=J j e:=by
 have W:=x0.wf;have WB:=C.x0.wf;have x00:=C.x0.trans x0;obtain⟨r,x,hop,ok⟩:=O.get i hin h10;obtain⟨ix,ld,_⟩:=hop h x00;obtain⟨g1,h1,al1,st1,y1,R1,q1⟩:=L2 W WU rfl (vs:=x.cells) rfl (x.one ok.2.2.1);have st1:AEK 7 (pt h.next) x.val g1=.ok AEE h1:=st1;obtain⟨l0,_⟩:=B0 (show h1.Row h.next 0 (CR x.lf x.sq x.op x.a x.b x.c x.u)from R1);have mx:=fun (F:AEB) (e:Env) (e1:J 9 e=AI AT AES)=>TH (F:=F) (h:=h1) (x:=J 9) (y:=kV (AI AT 1)) e1 rfl
 obtain⟨lf,kp,b1,b2⟩:=aN (m:=m+4) (h:=h1) (a:=x.lf) (z:=max AES 1) (by have:=C.lf;omega);have big:=W.big;obtain⟨h2,st2,R2,n2,f2,xt2⟩:=F1 (v:=AI AT lf) y1.wf R1 (off:=0) (by show 0<7;omega) (by omega) rfl rfl;have R2:h2.Row h.next 0 (CR lf x.sq x.op x.a x.b x.c x.u):=R2;have y2:h.Ext h2:=xt2 h y1 (IT _);obtain⟨_,_,_,_,_,_,_,lda⟩:=B0 R2;have x2:=x0.trans y2;have V2:=ok.1.ext C.W0 (C.x0.trans x2);have U2:=C.U.ext WB x2;have Rn2:=C.Rn.ext WB x2;have hnl:=Rn2.lt x2.wf;cases hr:EA lf x.sq x.op x.a x.b x.c x.l.length
 ·obtain⟨tv,h3,k3,y3,ht⟩:=Za (m:=m+1) y2.wf Rn2 U2 ok.2.2.2 (fun g=>V2.bl g) hr
  have k3:call AC (m+5) 11 [pt nb,DC lf x.sq x.op x.a x.b x.c x.u] h2=.ok (.tuple ⟨[tv,AI AT 110]⟩) h3:=k3;subst ht;obtain⟨g4,h4,al4,st4,y4,R4,q4⟩:=L2 y3.wf Dc rfl (vs:=Db 0 0 0 0 AEG AEG 0) rfl rfl;have st4:AEK 7 (pt h3.next) (B3 0 0 0 0 AEG AEG 0) g4=.ok AEE h4:=st4;have c1:iEq 110 0=false:=B8 (by omega);have y:=(y2.trans y3).trans y4;have hrun:∃ e1,ltB (call AC (m+5)) e h=ltT (call AC (m+5)) e1 h4/\(∀ j,tq j\/j=15->J j e1=J j e)/\J 103 e1=.bool false:=by
   rw[aA];unfold iJ;simp only[sT,By,BY,reduceIte,gD,A8,s1,s15,ix,Ar,Aj,ld,al1,AX,st1,AH,AN,OF,AM,AP,l0,mx,s9,cA0,kp,st2,lda,s7,k3,A7,BA,BC,al4,st4,AK,AJ,c1];refine⟨_,rfl,fun j hj=>?_,by simp[AG]⟩;rcases hj with (rfl|rfl|rfl|rfl)|rfl<;>simp only[AG,By,BY,reduceIte]
  obtain⟨e1,p1,p2,p3⟩:=hrun;obtain⟨e2,h5,f1,f2,f3⟩:=aC (m:=m) C (x0.trans y) ((p2 7 (by unfold tq;omega)).trans s7) ((p2 9 (by unfold tq;omega)).trans s9) ((p2 14 (by unfold tq;omega)).trans s14) p3;exact⟨e2,h5,p1.trans f1,y.trans f2,fun j hj=>(f3 j hj).trans (p2 j hj)⟩
 ·obtain⟨rl1,rl2⟩:=K8 hr
  obtain⟨room,h3,k3,y3⟩:=Zb (m:=m+1) y2.wf Rn2 U2 (fun b hb=>by rw[hb];exact hnl) ok.2.2.2 (fun g=>V2.bl g) hr (by omega);have k3:call AC (m+5) 11 [pt nb,DC lf x.sq x.op x.a x.b x.c x.u] h2=.ok (.tuple ⟨[B3 lf x.sq x.op 120 AEG AEG room,AI AT 0]⟩) h3:=k3;obtain⟨g4,h4,al4,st4,y4,R4,q4⟩:=L2 y3.wf Dc rfl (vs:=Db lf x.sq x.op 120 AEG AEG room) rfl rfl;have st4:AEK 7 (pt h3.next) (B3 lf x.sq x.op 120 AEG AEG room) g4=.ok AEE h4:=st4;obtain⟨t3,t4,t5,_⟩:=Iy R4;have ln:AEv AEG h4=.ok (AI AT ((0:Nat):Int)) h4:=Df;have a0:FE .i64 (AI AT ((0:Nat):Int)) (AI AT ((0:Nat):Int)) h4=.ok (AI AT ((0:Nat):Int)) h4:=by
   rw[D0,show((0:Nat):Int)+((0:Nat):Int)=((0:Nat):Int)from rfl,Bj (by omega)]
  have c1:iEq 0 0=true:=CV rfl;have c2:iNe 120 120=false:=CE rfl;have c3:iNe ((0:Nat):Int) 0=false:=CE rfl;have y:=(y2.trans y3).trans y4;have hrun:∃ e1,ltB (call AC (m+5)) e h=ltT (call AC (m+5)) e1 h4/\(∀ j,tq j\/j=15->J j e1=J j e)/\J 103 e1=.bool false:=by
   rw[aA];unfold iJ;simp only[sT,By,BY,reduceIte,gD,A8,s1,s15,ix,Ar,Aj,ld,al1,AX,st1,AH,AN,OF,AM,AP,l0,mx,s9,cA0,kp,st2,lda,s7,k3,A7,BA,BC,al4,st4,AK,AJ,c1,t3,c2,t4,t5,Ae,ln,BP,a0,c3];refine⟨_,rfl,fun j hj=>?_,by simp[AG]⟩;rcases hj with (rfl|rfl|rfl|rfl)|rfl<;>simp only[AG,By,BY,reduceIte]
  obtain⟨e1,p1,p2,p3⟩:=hrun;obtain⟨e2,h5,f1,f2,f3⟩:=aC (m:=m) C (x0.trans y) ((p2 7 (by unfold tq;omega)).trans s7) ((p2 9 (by unfold tq;omega)).trans s9) ((p2 14 (by unfold tq;omega)).trans s14) p3;exact⟨e2,h5,p1.trans f1,y.trans f2,fun j hj=>(f3 j hj).trans (p2 j hj)⟩
theorem iK(C:Still h0 hB A T nb kw AES w ks fr)(x0:hB.Ext h)(O:AG3 h0 v n 10)(s1:J 1 e=v)(s7:J 7 e=pt nb)(s9:J 9 e=AI AT AES)(s14:J 14 e=w)(s15:J 15 e=AI AT ((0:Nat):Int)):
  ∃ e' h',A6 ltL (call AC (m+5)) e h=.exit 2 e' h'/\hB.Ext h':=by
 refine Be (I:=fun i e' h'=>hB.Ext h'/\(∀ j,tq j->J j e'=J j e)/\J 15 e'=AI AT (i:Int)/\i<=10)
  (Q:=fun x=>∃ e' h',x=.exit 2 e' h'/\hB.Ext h') 10 (by omega) (fun i e' h' ⟨x',tj,t15,hi⟩=>?_) ⟨x0,fun _ _=>rfl,s15,yC _⟩
 have ln:=O.len h';have t1:=(tj 1 (by unfold tq;omega)).trans s1;have done:(∃ e2,ltL (call AC (m+5)) e' h'=.exit 2 e2 h')->(Ur (ltL (call AC (m+5)) e' h')=true/\∃ e2 h2,ltL (call AC (m+5)) e' h'=.exit 2 e2 h2/\hB.Ext h2):=fun⟨e2,r1⟩=>by
  rw[r1];exact⟨rfl,e2,h',rfl,x'⟩
 by_cases hin:i<n
 ·have c1:=Ep hin
  by_cases h10:i<10
  ·left
   have c2:iLt (i:Int) 10=true:=GT (by omega);obtain⟨e1,p1,uj⟩:∃ e1,ltL (call AC (m+5)) e' h'=ltK (call AC (m+5)) e1 h'/\∀ j,tq j\/j=15->J j e1=J j e':=by
    rw[TC];unfold aB;simp only[sT,By,BY,reduceIte,gD,Ae,t1,ln,AK,AJ,t15,c1,c2];refine⟨_,rfl,fun j hj=>?_⟩;rcases hj with (rfl|rfl|rfl|rfl)|rfl<;>simp only[AG,By,BY,reduceIte]
   have u:=fun j (hj:tq j)=>(uj j (.inl hj)).trans (tj j hj)
   obtain⟨e2,h2,r1,x2,wj⟩:=rL (m:=m) C x' O hin h10 ((u 1 (by unfold tq;omega)).trans s1) ((u 7 (by unfold tq;omega)).trans s7) ((u 9 (by unfold tq;omega)).trans s9) ((u 14 (by unfold tq;omega)).trans s14) ((uj 15 (.inr rfl)).trans t15);have w15:=(wj 15 (.inr rfl)).trans ((uj 15 (.inr rfl)).trans t15);have a3:=CN (i:=i) (h:=h2) (by omega);obtain⟨e3,f1,f15,fj⟩:∃ e3,ltI (call AC (m+5)) e2 h2=.norm e3 h2/\J 15 e3=AI AT ((i+1:Nat):Int)/\∀ j,tq j->J j e3=J j e2:=by
    unfold ltI;simp only[sT,By,BY,reduceIte,BP,w15,a3];refine⟨_,rfl,by simp[AG],fun j hj=>?_⟩;rcases hj with rfl|rfl|rfl|rfl<;>simp only[AG,By,BY,reduceIte]
   refine⟨h10,e3,h2,?_,x'.trans x2,fun j hj=>(fj j hj).trans ((wj j (.inl hj)).trans (u j hj)),f15,h10⟩;rw[p1,rJ];simp only[BJ,Az,r1,C4,BD,f1]
  ·right
   have c2:iLt (i:Int) 10=false:=E5 (by omega);refine done ?_;rw[TC];unfold aB;simp only[sT,By,BY,reduceIte,gD,Ae,t1,ln,AK,AJ,t15,c1,c2];exact⟨_,rfl⟩
 ·right
  have c1:=DE (show n<=i by omega);refine done ?_;rw[TC];unfold aB;simp only[sT,By,BY,reduceIte,gD,Ae,t1,ln,AK,AJ,t15,c1];exact⟨_,rfl⟩
end
end
noncomputable section
open Go
set_option maxRecDepth 100000
theorem rK:ltS=BH (Ac 2 (A6 ltL)) ltZ:=rfl
theorem rM:lvE=rN:=rfl
theorem rP:lvS=BH (Ac 0 (A6 lvL)) lvE:=rfl
theorem uh:d3=d3h:=rfl
section
variable {F:AEB}{e:Env}{h h' h0:Hp}{m n n2:Nat}{v v2:IN}
theorem Z8(W:h.Wf)(O:AG3 h v n 25)(O2:AG3 h v2 n2 10):∃ h',call AC (m+13) 3 [v,v2] h=.ok (.bool true) h'/\h.Ext h':=by
 have k9:call AC (m+12) 8 [] h=.ok (.agg ⟨ND⟩) h:=XT (n:=m+11) cP;obtain⟨T,hTl,hT⟩:=j9;rw[hTl]at k9;have hz:kD.zero.length=256:=by kernel_rfl
 have f9:=fun (F:AEB) (e:Env)=>BQ (F:=F) (e:=e) (n:=256) (t:=Pb) W
 have y2:=(Hp.Ext.refl W).push (.cells Pb 256 0);have R9:(h.push (.cells Pb 256 0)).Row h.next 0 kD.zero:=Hp.Row.alloc W kO hz;generalize h.push (.cells Pb 256 0)=h2 at f9 y2 R9;obtain⟨st,y3,R9'⟩:=rv W y2 (IT _) R9 hz hT.1;generalize h2.wr h.next 0 (T.map wv)=h3 at st y3 R9';have W3:=y3.wf;have htb:=R9'.lt W3;obtain⟨h4,bs,bd,bm,bc,nb,k4,x4,U4,Rn4,hD4,hn4⟩:=YE (m:=m+2) (k:=1000) W3 R9' hT;have k4:call AC (m+12) 9 [pt h.next] h3=.ok (.tuple ⟨[pt bd,pt nb,.bool true]⟩) h4:=k4;have x04:=y3.trans x4;have W4:=x04.wf;obtain⟨h5,v5,xs,k5,x5,K5,hl5,hx5⟩:=qY (m:=m+11) (h0:=h) W4 x04 W O;have k5:call AC (m+12) 10 [v] h4=.ok v5 h5:=k5;have x05:=x04.trans x5;have ln:=K5.len h5;have n3:=y3.next;have C0:Ctx h ⟨bs,bd,bm,bc,h.next,24⟩ nb h4.next:=⟨W,fun b hb=>by have:=hD4 b hb;omega,rfl,by omega,Rn4.lt W4,by show h.next≠nb;omega⟩;obtain⟨e1,p1,t1,t7,t9,t28,t29,t30⟩:∃ e1,d3h (call AC (m+12)) (AS e0 0 [v,v2]) h=lvS (call AC (m+12)) e1 h5/\J 1 e1=v2/\J 7 e1=pt nb/\J 9 e1=AI AT 0/\J 28 e1=v5/\J 29 e1=AI AT (xs.length:Int)/\J 30 e1=AI AT ((0:Nat):Int):=by
  unfold d3h;simp only[iN,IS,sT,By,BY,reduceIte,cA0,k9,f9,AX,st,k4,A7,BA,BC,Cu,BZ,BX,yT,k5,Ae,ln];exact⟨_,rfl,by simp[AG]⟩
 obtain⟨e2,h6,AES,ks,fr,r1,x6,j6,t9',hlf,U6,Rn6⟩:=iM (m:=m) C0 x05 K5 hl5 hx5 (Rn4.ext W4 x5) (U4.ext W4 x5) t7 t9 t28 t29 t30;have u1:=(j6 1 (by unfold lq;omega) (by omega)).trans t1;have u7:=(j6 7 (by unfold lq;omega) (by omega)).trans t7;have W6:=x6.wf;obtain⟨h7,v7,k7,x7,V7⟩:∃ h' v,call AC (m+12) 13 [pt nb] h6=.ok v h'/\h6.Ext h'/\h'.AL h6.next v ks:=by
  obtain⟨⟨M,c0,arm,lv,fv,s,_⟩,_⟩:=U6;exact Vm (m:=m+7) W6 Rn6 s
 have x07:=x6.trans x7;have St:Still h h7 ⟨bs,bd,bm,bc,h.next,24⟩ T nb h6.next AES v7 ks fr:=⟨W,x07,U6.ext W6 x7,Rn6.ext W6 x7,V7,hlf⟩;obtain⟨e3,p3,w1,w7,w9,w14,w15⟩:∃ e3,lvE (call AC (m+12)) e2 h6=ltS (call AC (m+12)) e3 h7/\J 1 e3=v2/\J 7 e3=pt nb/\J 9 e3=AI AT AES/\J 14 e3=v7/\J 15 e3=AI AT ((0:Nat):Int):=by
  rw[rM];unfold rN;simp only[sT,By,BY,reduceIte,cA0,u7,k7];exact⟨_,rfl,by simp[AG,u1],by simp[AG,u7],by simp only[AG,By,BY,reduceIte];exact t9',by simp[AG]⟩
 obtain⟨e4,h8,r4,x8⟩:=iK (m:=m+7) St (.refl x07.wf) O2 w1 w7 w9 w14 w15;have r4:A6 ltL (call AC (m+12)) e3 h7=.exit 2 e4 h8:=r4;have aw:=Sj (bs:=AC) (n:=m+11) (f:=16) Ym (h:=h8);refine⟨h8,?_,x07.trans x8⟩;rw[uf rfl,uh,p1,rP];simp only[BJ,Az,r1,A9,BD];rw[p3,rK];simp only[BJ,Az,r4,A9,BD];unfold ltZ;simp only[sT,By,BY,reduceIte,cA0,aw,lV0]
end
end
noncomputable section
open Go Go.RowKit Go.WideShapes Go.ChangeShapes
set_option maxRecDepth 100000
theorem Yt{W:yJ}{a:Addr}{v:IN}(h:W.cell? a=some v):a.spot=none/\∃ cs tt fr,W.heap[a.block]? =some (.cells cs tt fr)/\cs[a.off]? =some v:=by
 unfold World.cell? at h;split at h
 ·rename_i cs tt fr hb
  split at h
  ·cases h
  ·rename_i hs
   refine⟨?_,cs,tt,fr,hb,h⟩;cases hsp:a.spot with
   |none=>rfl
   |some s=>rw[hsp]at hs;exact(hs rfl).elim
 ·cases h
theorem bj{W:yJ}{a:Addr}{L:List IN}{cs:Array IN}{tt:yL}{fr:Nat×Nat}(hb:W.heap[a.block]? =some (.cells cs tt fr))(hc:∀ j,j<L.length->cs[a.off+j]? =some (L.getD j AEE))(hf:∀ j,j<L.length->W.frozen? ⟨a.block,a.off+j,none⟩=false):Ko W a L:=by
 refine⟨cs,tt,fr,hb,hc,fun i hi hh=>?_⟩;have h6:=hf i hi;obtain⟨lo,hi'⟩:=fr;simp only[World.frozen?,hb]at h6;simp only at hh;simp only[Bool.and_eq_false_iff,decide_eq_false_iff_not]at h6;omega
theorem Va{α:Type}{Q:Nat->α->Prop}:∀ n,(∀ i,i<n->∃ x,Q i x)->∃ xs:List α,xs.length=n/\∀ i x,xs[i]? =some x->Q i x
 |0,_=>⟨[],rfl,fun i x h=>by cases h⟩
 |n+1,h=>by
  obtain⟨xs,hl,hx⟩:=Va n fun i hi=>h i (by omega)
  obtain⟨y,hy⟩:=h n (by omega);refine⟨xs++[y],by rw[No,hl];rfl,fun i x hi=>?_⟩;rcases xx i xs.length with h1|h1
  ·rw[xa h1]at hi;exact hx i x hi
  ·rw[xn h1]at hi
   have h2:i - xs.length< [y].length:=(xy.1 hi).1;have h2:i - xs.length<1:=h2;have h3:i - xs.length=0:=by omega
   rw[h3]at hi;cases hi;rw[show i=n by omega];exact hy
theorem GR{s:Nat}:∀ {Ls:List (List IN)},(∀ l∈Ls,l.length=s)->Ls.flatten.length=Ls.length*s
 |[],_=>by simp
 |l::Ls,h=>by
  rw[zM,No,h l xT,GR fun x hx=>h x (xS _ hx),xP,AAd,ADi]
theorem QN{s:Nat}:∀ {Ls:List (List IN)} {i r:Nat} {l:List IN},(∀ l∈Ls,l.length=s)->Ls[i]? =some l->r<s->Ls.flatten[i*s+r]? =l[r]?
 |[],i,_,_,_,h,_=>by cases h
 |x::Ls,0,r,l,h,hi,hr=>by
  cases hi;rw[zM,AAD,OF,xa (by rw[h x xT];exact hr)]
 |x::Ls,i+1,r,l,h,hi,hr=>by
  have hx:=h x xT;rw[zM,xn (by rw[hx,AAd];omega),hx];have:(i+1)*s+r - s=i*s+r:=by rw[AAd];omega
  rw[this];exact QN (fun y hy=>h y (xS _ hy)) hi hr
theorem Nj{s:Nat}:∀ {Ls:List (List IN)} {i:Nat} {l:List IN} (R:List IN),(∀ l∈Ls,l.length=s)->Ls[i]? =some l->((Ls.flatten++R).drop (i*s)).take s=l
 |[],i,_,_,_,h=>by cases h
 |x::Ls,0,l,R,h,hi=>by
  cases hi;rw[AAD,yf,zM,xp];exact List.take_left' (h x xT)
 |x::Ls,i+1,l,R,h,hi=>by
  have hx:=h x xT;have:(i+1)*s=s+i*s:=by rw[AAd,ADi]
  rw[this,<- List.drop_drop,zM,xp,List.drop_left' hx];exact Nj R (fun y hy=>h y (xS _ hy)) hi
def J1(W:yJ)(Q:List IN->Prop)(s:Nat)(v:IN)(n:Nat)(Ls:List (List IN)):Prop:=(∀ l∈Ls,l.length=s/\Q l)/\n<=Ls.length/\
 ((v=AEG/\Ls=[])\/(∃ a,v=.slice (some a) 0 0/\Ls=[])\/∃ a,v=.slice (some a) n Ls.length/\0<Ls.length/\a.spot=none/\Ko W a Ls.flatten)
theorem PR{H:Type}{enc:yL×IN->H}{P:Program}{t e:yL}{s:Nat}(ht:P.underlying t=some (.slice e))(hs:P.cellsOf e=s)(h0:0<s){W:yJ}{fuel:Nat}{v:IN}{x:AD7 H×List AB7}{Q:List IN->Prop}
  (dec:∀ (m:Nat) (l:List IN) (y:AD7 H×List AB7),l.length=s->zK enc P W 0 (fun _=>true) true m e l=some y->(∀ b off,zx b off∈y.2->W.frozen? ⟨b,off,none⟩=false)->Q l)
  (hf:zK enc P W 0 (fun _=>true) true fuel t [v]=some x)(hfz:∀ b off,zx b off∈x.2->W.frozen? ⟨b,off,none⟩=false):∃ n Ls,J1 W Q s v n Ls:=by
 rcases DataW.trod_slice ht hf with ⟨hcs,_⟩|⟨a,n,c,elems,rest,m,_,hcs,hx,_,hl,hm,hlen,hel,hsp,_⟩
 ·have:v=AEG:=by simpa using hcs
  exact⟨0,[],(fun l hl=>by cases hl),IT _,.inl ⟨this,rfl⟩⟩
 ·have:v=.slice (some a) n c:=by simpa using hcs
  subst this;obtain⟨hrl,hr⟩:=hsp rfl;subst hx;rcases Nat.eq_zero_or_pos c with hc|hc
  ·subst hc
   have:n=0:=by omega
   subst this;exact⟨0,[],(fun l hl=>by cases hl),IT _,.inr (.inl ⟨a,rfl,rfl⟩)⟩
  ·have htot:(elems++rest).length=c:=by rw[No];omega
   have each:∀ i,i<c->∃ l:List IN,(l.length=s/\Q l)/\∀ j,j<s->W.cell? ((a.add (i*s)).add j)=l[j]?:=fun i hi=>by
    have hi':i<(elems++rest).length:=by omega
    have hb:(W.cells? 0 (a.add (i*P.cellsOf e)) (P.cellsOf e)).bind (zK enc P W 0 (fun _=>true) true m e)=some ((elems++rest)[i]'hi'):=by
     rcases xx i n with h4|h4
     ·have:=hel i h4
      rw[this,<- xL hi',xa (by omega)]
     ·have:=hr (i - n) (by omega)
      rw[show n+(i - n)=i by omega]at this;rw[this,<- xL hi',xn (by omega),hlen]
    rw[hs,Option.bind_eq_some_iff]at hb;obtain⟨l,h4,h5⟩:=hb;obtain⟨_,h6,h7⟩:=World.cells?_some h4;exact⟨l,⟨h6,dec m l _ h6 h5 fun b off hm=>hfz b off (yI _ (AC1.2 ⟨_,zn hi',hm⟩))⟩,h7⟩
   obtain⟨Ls,hLl,hLs⟩:=Va c each;have hall:∀ l∈Ls,l.length=s/\Q l:=fun l hl=>by
    obtain⟨i,hi,rfl⟩:=List.mem_iff_getElem.1 hl;exact(hLs i _ (xL hi)).1
   have hls:∀ l∈Ls,l.length=s:=fun l hl=>(hall l hl).1
   have hz:0<Ls.length:=by omega
   have c0:=(hLs 0 _ (xL hz)).2 0 h0;have hl0:0<(Ls[0]'hz).length:=by rw[hls _ (zn hz)];exact h0
   rw[xL hl0,AAD]at c0;have c0:W.cell? a=some ((Ls[0]'hz)[0]'hl0):=c0;obtain⟨AJF,cs,tt,fr,hb,_⟩:=Yt c0;obtain⟨ab,ao,spot⟩:=a;simp only at AJF;subst AJF;have hfl:=GR hls;refine⟨n,Ls,hall,by omega,.inr (.inr ⟨⟨ab,ao,none⟩,by rw[hLl],hz,rfl,bj hb (fun j hj=>?_) fun j hj=>hfz ab (ao+j) (yN _ ?_)⟩)⟩
   ·rw[hfl]at hj
    have hi:j/s<Ls.length:=Nat.div_lt_of_lt_mul (by rw[zW];exact hj);have hr:j % s<s:=Nat.mod_lt _ h0;have e:j/s*s+j % s=j:=by rw[zW];exact Nat.div_add_mod j s
    have hx:=xL hi;have q:=(hLs _ _ hx).2 _ hr;have g:=QN hls hx hr;rw[e]at g;have hll:j % s<(Ls[j/s]'hi).length:=by rw[hls _ (zn hi)];exact hr
    rw[xL hll]at q g;rw[Addr.AFE,Addr.AFE,JB hb]at q;rw[xN,g];show cs[ao+j]? =some _;have:ao+j/s*s+j % s=ao+j:=by omega
    rw[<- this];exact q
   ·simp only[MemPlace.row,yl,List.mem_range]
    exact⟨j,by rw[hfl]at hj;rw[hs,hlen,hrl,show n+(c - n)=c by omega,<- hLl];exact hj,rfl⟩
theorem WC{φ:Phi}{a:Addr}{n c i m:Nat}(hs:a.spot=none)(hn:n<=c)(hc:0<c)(hm:0<m)(hp:φ i=some (PM a m)):AED φ (.slice (some ⟨i,0,none⟩) n c) (.slice (some a) n c):=by
 refine .slice hn ⟨rfl,hs,_,hp,rfl,.inl ⟨hc,?_,.inl rfl⟩⟩;show a.off=(if m=0 then 0 else a.off)+0;rw[if_neg (by omega),Nat.add_zero]
theorem J1.rel{W:yJ}{Q:List IN->Prop}{s n:Nat}{v:IN}{Ls:List (List IN)}(b:J1 W Q s v n Ls)(h0:0<s)(rf:∀ l,Q l->∀ φ,AEX φ l l)(i:Nat):∃ (u:IN) (q:Option Pl),Ya W Ls.flatten q/\(∀ φ,AEX φ Ls.flatten Ls.flatten)/\(∀ φ:Phi,φ i=q->AED φ u v)/\
  ((u=AEG/\Ls=[])\/(u=.chan (some 0)/\Ls=[])\/u=.slice (some ⟨i,0,none⟩) n Ls.length):=by
 obtain⟨h1,h2,h3⟩:=b;have AEj:∀ φ,AEX φ Ls.flatten Ls.flatten:=fun φ=>by
  clear h2 h3
  induction Ls with
  |nil=>exact .nil
  |cons l Ls ih=>
   rw[zM];exact(rf l (h1 l xT).2 φ).append (ih fun l hl=>h1 l (xS _ hl))
 rcases h3 with ⟨rfl,rfl⟩|⟨a,rfl,rfl⟩|⟨a,rfl,h4,h5,h6⟩
 ·exact⟨AEG,none,.inl rfl,AEj,fun _ _=>.AE2,.inl ⟨rfl,rfl⟩⟩
 ·have:n=0:=by simpa using h2
  subst this;exact⟨.chan (some 0),none,.inl rfl,AEj,fun _ _=>.AGR,.inr (.inl ⟨rfl,rfl⟩)⟩
 ·have hfl:=GR fun l hl=>(h1 l hl).1
  refine⟨.slice (some ⟨i,0,none⟩) n Ls.length,some (PM a Ls.flatten.length),.inr ⟨a,rfl,h6⟩,AEj,fun φ hφ=>WC h5 h2 h4 (by rw[hfl];exact Nat.mul_pos h4 h0) hφ,.inr (.inr rfl)⟩
def QB(l:List IN):Prop:=∃ x:Nat,l=[bv x]/\x<256
theorem mF{l:List IN}(h:QB l)(φ:Phi):AEX φ l l:=by
 obtain⟨x,rfl,_⟩:=h;exact .cons (.int _ _) .nil
theorem Q9:∀ xs:List Nat,(xs.map fun x=>[bv x]).flatten=xs.map bv
 |[]=>rfl
 |a::xs=>by rw[List.map_cons,zM,Q9 xs];rfl
theorem NZ:∀ {Ls:List (List IN)},(∀ l∈Ls,QB l)->∃ xs:List Nat,Ls=xs.map (fun x=>[bv x])/\∀ x∈xs,x<256
 |[],_=>⟨[],rfl,fun x hx=>by cases hx⟩
 |l::Ls,h=>by
  obtain⟨x,rfl,hx⟩:=h l xT;obtain⟨xs,rfl,hxs⟩:=NZ fun l hl=>h l (xS _ hl)
  exact⟨x::xs,rfl,fun y hy=>by
   rcases xe.1 hy with rfl|hy
   ·exact hx
   ·exact hxs y hy⟩
theorem oG{W:yJ}{v:IN}{n:Nat}{Ls:List (List IN)}(b:J1 W QB 1 v n Ls):∃ l:List Nat,(∀ x∈l,x<256)/\∀ (i:Nat) (u:IN),((u=AEG/\Ls=[])\/(u=.chan (some 0)/\Ls=[])\/u=.slice (some ⟨i,0,none⟩) n Ls.length)->∀ h:Hp,h.Row i 0 Ls.flatten->h.VE u (l.map bv):=by
 obtain⟨h1,h2,_⟩:=b;obtain⟨xs,rfl,hxs⟩:=NZ fun l hl=>(h1 l hl).2
 rw[sh]at h2;refine⟨xs.take n,fun x hx=>hxs x (zI hx),fun i u hu h hr=>?_⟩;rw[Q9]at hr;rcases hu with ⟨rfl,hx⟩|⟨rfl,hx⟩|rfl
 ·have:xs=[]:=by simpa using hx
  subst this;exact .inl (.inl ⟨rfl,by simp⟩)
 ·have:xs=[]:=by simpa using hx
  subst this;exact .inr ⟨⟨0,rfl⟩,by simp⟩
 ·have hl:(xs.take n).length=n:=by rw[yE];omega
  refine .inl (.inr ⟨i,0,(xs.map fun x=>[bv x]).length,0,xs.map bv,?_,hr,?_,?_⟩)
  ·rw[sh,sh,hl]
  ·rw[sh,hl,sh];omega
  ·rw[sh,hl,yf,List.map_take]
structure AD where
 lf:Int
 sq:Int
 op:Nat
 a:Int
 b:Int
 c:Int
 u:IN
def AD.cells(x:AD):List IN:=CR x.lf x.sq x.op x.a x.b x.c x.u
def WW(W:yJ)(x:AD):Prop:=(∃ n Ls,J1 W QB 1 x.u n Ls)/\x.op<256
theorem dB{φ:Phi}{lf sq a b c:Int}{op:Nat}{ui vi:IN}(h1:AED φ ui vi):AEX φ (CR lf sq op a b c ui) (CR lf sq op a b c vi):=
 .cons (.int _ _) (.cons (.int _ _) (.cons (.int _ _) (.cons (.int _ _) (.cons (.int _ _) (.cons (.int _ _) (.cons h1 .nil))))))
theorem jW{u:IN}{P Q:Prop}{i n m:Nat}(h:(u=AEG/\P)\/(u=.chan (some 0)/\Q)\/u=.slice (some ⟨i,0,none⟩) n m):oneCell u=true:=by
 rcases h with ⟨rfl,_⟩|⟨rfl,_⟩|rfl<;>rfl
theorem Pm{W:yJ}:∀ (xs:List AD),(∀ x∈xs,WW W x)->∀ k:Nat,∃ (us:List AD) (qs:List (Option Pl)) (Zs:List (List IN)),us.length=xs.length/\qs.length=xs.length/\Zs.length=xs.length/\
  (∀ (i:Nat) (q:Option Pl) (L:List IN),qs[i]? =some q->Zs[i]? =some L->Ya W L q/\∀ φ,AEX φ L L)/\(∀ φ:Phi,(∀ (i:Nat) (q:Option Pl),qs[i]? =some q->φ (i+k)=q)->AEX φ (us.flatMap AD.cells) (xs.flatMap AD.cells))/\
  (∀ h:Hp,(∀ (i:Nat) (L:List IN),Zs[i]? =some L->h.Row (i+k) 0 L)->∀ u∈us,∃ l:List Nat,h.VE u.u (l.map bv)/\(∀ x∈l,x<256)/\oneCell u.u=true/\u.op<256)
 |[],_,k=>⟨[],[],[],rfl,rfl,rfl,(fun i q L h=>by cases h),(fun φ _=>.nil),fun h _ x hx=>by cases hx⟩
 |x::xs,hx,k=>by
  obtain⟨us,qs,Zs,l1,l2,l3,h1,h2,h3⟩:=Pm xs (fun y hy=>hx y (xS _ hy)) (k+1);obtain⟨⟨n,LI,bI⟩,hop⟩:=hx x xT;obtain⟨ui,q0,i1,i2,i3,i4⟩:=bI.rel (by omega) (fun l h φ=>mF h φ) k;obtain⟨lb,hlb,hB⟩:=oG bI;refine⟨⟨x.lf,x.sq,x.op,x.a,x.b,x.c,ui⟩::us,q0::qs,LI.flatten::Zs,by rw[xP,xP,l1],by rw[xP,xP,l2],by rw[xP,xP,l3],fun i q' L e1 e2=>?_,fun φ hφ=>?_,fun h hr y hy=>?_⟩
  ·match i,e1,e2 with
   |0,e1,e2=>cases e1;cases e2;exact⟨i1,i2⟩
   |i+1,e1,e2=>exact h1 i q' L e1 e2
  ·rw[ACu,ACu]
   refine(dB (i3 φ (by have:=hφ 0 q0 rfl;rwa [OF]at this))).append (h2 φ fun i q' e=>?_);have:=hφ (i+1) q' e
   rwa [show i+1+k=i+(k+1)by omega]at this
  ·rcases xe.1 hy with rfl|hy
   ·exact⟨lb,hB k ui i4 h (by have:=hr 0 _ rfl;rwa [OF]at this),hlb,jW i4,hop⟩
   ·refine h3 h (fun i L e=>?_) y hy
    have:=hr (i+1) L e
    rwa [show i+1+k=i+(k+1)by omega]at this
theorem WO(φ:Phi):∀ L:List IN,AEX φ (xV L.length (ABO none)) L
 |[]=>.nil
 |_::L=>.cons .unk (WO φ L)
def Yb(W:yJ)(φ:Phi)(L:List IN)(q:Option Pl):Prop:=q=none\/∃ a L',q=some (PM a L.length)/\Ko W a L'/\AEX φ L L'
theorem Ya.AJG{W:yJ}{φ:Phi}{L:List IN}{q:Option Pl}(h:Ya W L q)(r:AEX φ L L):Yb W φ L q:=by
 rcases h with h|⟨a,ha,hr⟩
 ·exact .inl h
 ·exact .inr ⟨a,L,ha,hr,r⟩
theorem bo{W:yJ}{ty:TTy}{ps:List (Option Pl)}{Ls:List (List IN)}(AEM:Ls.length<=256)(hlen:ps.length=Ls.length)
  (h:∀ (i:Nat) (q:Option Pl) (L:List IN),ps[i]? =some q->Ls[i]? =some L->Yb W (MU ps) L q):AEI ty (MU ps) nil (inH Ls) W:=
 rC AEM fun i p e=>by
  have e:(ps[i]?).getD none=some p:=e;cases hq:ps[i]? with
  |none=>rw[hq]at e;cases e
  |some q=>
   rw[hq]at e;have e:q=some p:=e;subst e;have hi:=(xy.1 hq).1;have hL:=xL (l:=Ls) (i:=i) (by omega);rcases h i _ _ hq hL with h|⟨a,L',ha,hr,hrl⟩
   ·cases h
   ·obtain rfl:=Option.some.inj ha
    exact⟨a,_,rfl,hL,hr.lt,bV hr hrl⟩
theorem Hw(xs:List AD):xs.flatMap AD.cells=(xs.map AD.cells).flatten:=by rw[List.flatMap_def]
theorem UG{W:yJ}{v:IN}{n:Nat}{Ls:List (List IN)}(b:J1 W (fun l=>∃ x:AD,l=x.cells/\WW W x) 7 v n Ls)(i k cap:Nat):
  ∃ (u:IN) (q:Option Pl) (L0:List IN) (qs:List (Option Pl)) (Zs:List (List IN)),qs.length=min n cap/\Zs.length=min n cap/\
  (∀ φ:Phi,φ i=q->(∀ (j:Nat) (q':Option Pl),qs[j]? =some q'->φ (j+k)=q')->Yb W φ L0 q/\AED φ u v)/\(∀ (j:Nat) (q':Option Pl) (L:List IN),qs[j]? =some q'->Zs[j]? =some L->Ya W L q'/\∀ φ,AEX φ L L)/\
  (∀ h:Hp,h.Wf->h.Row i 0 L0->(∀ (j:Nat) (L:List IN),Zs[j]? =some L->h.Row (j+k) 0 L)->AG3 h u n cap):=by
 obtain⟨h1,h2,h3⟩:=b;rcases h3 with ⟨rfl,rfl⟩|⟨a,rfl,rfl⟩|⟨a,rfl,h4,h5,h6⟩
 ·have:n=0:=by simpa using h2
  subst this;exact⟨AEG,none,[],[],[],by simp,by simp,fun φ _ _=>⟨.inl rfl,.AE2⟩,(fun j q' L h=>by cases h),fun h _ _ _=>⟨fun g=>rfl,fun i hi=>absurd hi (ABK _)⟩⟩
 ·have:n=0:=by simpa using h2
  subst this;exact⟨.chan (some 0),none,[],[],[],by simp,by simp,fun φ _ _=>⟨.inl rfl,.AGR⟩,(fun j q' L h=>by cases h),fun h _ _ _=>⟨fun g=>rfl,fun i hi=>absurd hi (ABK _)⟩⟩
 ·obtain⟨xs,hxs⟩:∃ xs:List AD,Ls=xs.map AD.cells/\∀ x∈xs,WW W x:=by
   clear h2 h4 h5 h6
   induction Ls with
   |nil=>exact⟨[],rfl,fun x hx=>by cases hx⟩
   |cons l Ls ih=>
    obtain⟨_,x,rfl,hx⟩:=h1 l xT;obtain⟨xs,rfl,hxs⟩:=ih fun l hl=>h1 l (xS _ hl)
    exact⟨x::xs,rfl,fun y hy=>by
     rcases xe.1 hy with rfl|hy
     ·exact hx
     ·exact hxs y hy⟩
  obtain⟨rfl,hok⟩:=hxs;rw[sh]at h2 h4;have hml:(xs.take (min n cap)).length=min n cap:=by rw[yE];omega
  obtain⟨us,qs,Zs,l1,l2,l3,r1,r2,r3⟩:=Pm (xs.take (min n cap)) (fun x hx=>hok x (zI hx)) k;have hsplit:(xs.map AD.cells).flatten=(xs.take (min n cap)).flatMap AD.cells++(xs.drop (min n cap)).flatMap AD.cells:=by
   rw[<- Hw,<- ACh,List.take_append_drop]
  have hcl:∀ (ys:List AD),∀ l∈ys.map AD.cells,l.length=7:=fun ys l hl=>by
   obtain⟨x,_,rfl⟩:=yl.1 hl;rfl
  have ul:(us.flatMap AD.cells).length=(xs.take (min n cap)).length*7:=by rw[Hw,GR (hcl us),sh,l1]
  have vl:((xs.take (min n cap)).flatMap AD.cells).length=(xs.take (min n cap)).length*7:=by rw[Hw,GR (hcl _),sh]
  have AIX:(us.flatMap AD.cells++xV ((xs.drop (min n cap)).flatMap AD.cells).length (ABO none)).length=(xs.map AD.cells).flatten.length:=by
   rw[hsplit,No,No,zF,ul,vl]
  have hpos:0<(xs.map AD.cells).flatten.length:=by rw[GR (hcl xs),sh];omega
  refine⟨.slice (some ⟨i,0,none⟩) n (xs.map AD.cells).length,some (PM a (xs.map AD.cells).flatten.length),us.flatMap AD.cells++xV ((xs.drop (min n cap)).flatMap AD.cells).length (ABO none),qs,Zs,by rw[l2,hml],by rw[l3,hml],fun φ hφ hq=>⟨.inr ⟨a,(xs.map AD.cells).flatten,by rw[AIX],h6,?_⟩,WC h5 (by rw[sh];exact h2) (by rw[sh];exact h4) hpos hφ⟩,r1,fun h Wh hrow AIY=>⟨fun g=>Df,fun j hj AKm=>?_⟩⟩
  ·rw[hsplit]
   exact(r2 φ hq).append (WO φ _)
  ·have hju:j<us.length:=by rw[l1,hml];omega
   have hx:us[j]? =some (us[j]'hju):=xL hju;obtain⟨lb,hB,hlb,ou,ow⟩:=r3 h AIY _ (zn hju);refine⟨i,⟨(us[j]'hju).lf,(us[j]'hju).sq,(us[j]'hju).op,(us[j]'hju).a,(us[j]'hju).b,(us[j]'hju).c,(us[j]'hju).u,lb⟩,fun g xg=>?_,hB,hlb,ou,ow⟩;have hm:(us.map AD.cells)[j]? =some (us[j]'hju).cells:=by rw[List.getElem?_map,hx];rfl
   have hd:=Nj (xV ((xs.drop (min n cap)).flatMap AD.cells).length (ABO none)) (hcl us) hm;rw[<- Hw]at hd;refine⟨?_,?_,?_⟩
   ·have:=DT (h:=g) (n:=n) (c:=(xs.map AD.cells).length) (es:=7) (b:=i) (off:=0) (k:=.i64) hj
    rwa [OF]at this
   ·rw[(hrow.ext Wh xg).loadN (by rw[No,ul];omega),hd];rfl
   ·rw[(hrow.ext Wh xg).AEF (by rw[No,ul];omega)]
    have h5:((us.flatMap AD.cells++xV ((xs.drop (min n cap)).flatMap AD.cells).length (ABO none)).drop (j*7)).take 7=(us[j]'hju).cells:=hd;have h6:=congrArg (fun l=>l[6]?) h5;simp only[List.getElem?_take,List.getElem?_drop]at h6;rw[if_pos (by omega)]at h6;rw[xN,h6];rfl
end
end Go.Proofs.YtbjadbhkogcfeaaGreat
namespace Go.Proofs.YtbjadbhkogcfeaaGreat.nodeLives
noncomputable section
open Go Go.ChangeShapes Go.WideShapes Go.ChangeAt Go.RowKit
set_option linter.unusedVariables false
theorem own:ownKnob xR.godebug=none:=by kernel_rfl
theorem VY:laidOutB xR=true:=by kernel_rfl
theorem pY:xR.cellsOf 5=1:=by kernel_rfl
theorem UU:xR.cellsOf 36=7:=by kernel_rfl
theorem slc{H:Type}{enc:yL×IN->H}{P:Program}{W:yJ}{base t e:Nat}{v:IN}{x:AD7 H}{p:List AB7}(ht:P.underlying t=some (.slice e))(h:AAB P W .any base t v)(tx:ACn enc P W 0 (fun _=>true) true t v x p):
  ∃ fuel,zK enc P W 0 (fun _=>true) true fuel t [v]=some (x,p):=by
 have h':Cell.okWide P W .any base t v:=by
  unfold AAB at h;rw[ht]at h;exact h
 obtain⟨fuel,hf⟩:=tx;refine⟨fuel,?_⟩;rcases Th ht h' with rfl|⟨a,n,c,rfl,_⟩<;>exact hf
section
variable {H:Type}{enc:yL×IN->H}{w:yJ}
theorem wg(m:Nat)(l:List IN)(y:AD7 H×List AB7)(hl:l.length=1)(h:zK enc xR w 0 (fun _=>true) true m 5 l=some y)(_:∀ b off,zx b off∈y.2->w.frozen? ⟨b,off,none⟩=false):QB l:=by
 obtain⟨a0,e0,_,hw⟩:=zh Tryz.underlying5 h;have:=bounds_u8 hw;subst e0;exact⟨a0.toNat,by
  show [yX .u8 a0]=[yX .u8 ((a0.toNat:Nat):Int)];rw[AAi this.1],by omega⟩
theorem TB{n:Nat}{l:List IN}(h:l.length=n+1):∃ a l',l=a::l'/\l'.length=n:=by
 cases l with
 |nil=>cases h
 |cons a l'=>exact⟨a,l',rfl,Nat.succ.inj h⟩
theorem wl{l:List IN}(h:l.length=7):∃ c0 c1 c2 c3 c4 c5 c6,l=[c0,c1,c2,c3,c4,c5,c6]:=by
 obtain⟨c0,l0,rfl,h0⟩:=TB h;obtain⟨c1,l1,rfl,h1⟩:=TB h0;obtain⟨c2,l2,rfl,h2⟩:=TB h1;obtain⟨c3,l3,rfl,h3⟩:=TB h2;obtain⟨c4,l4,rfl,h4⟩:=TB h3;obtain⟨c5,l5,rfl,h5⟩:=TB h4;obtain⟨c6,l6,rfl,h6⟩:=TB h5;obtain rfl:=List.eq_nil_of_length_eq_zero h6;exact⟨c0,c1,c2,c3,c4,c5,c6,rfl⟩
set_option maxRecDepth 100000 in
theorem um(m:Nat)(l:List IN)(y:AD7 H×List AB7)(hl:l.length=7)(h:zK enc xR w 0 (fun _=>true) true m 36 l=some y)(hfz:∀ b off,zx b off∈y.2->w.frozen? ⟨b,off,none⟩=false):∃ x:AD,l=x.cells/\WW w x:=by
 obtain⟨c0,c1,c2,c3,c4,c5,c6,rfl⟩:=wl hl;obtain⟨ys,k,_,rfl,_,hys,hfs⟩:=DataW.trod_struct Tryz.underlying36 h;have hys:ys.length=7:=hys;have g0:=hfs 0 _ rfl;have g1:=hfs 1 _ rfl;have g2:=hfs 2 _ rfl;have g3:=hfs 3 _ rfl;have g4:=hfs 4 _ rfl;have g5:=hfs 5 _ rfl;have g6:=hfs 6 _ rfl;have g0:zK enc xR w 0 (fun _=>true) true k 3 [c0]=some (ys[0]'(by omega)):=g0.trans (xL _);have g1:zK enc xR w 0 (fun _=>true) true k 3 [c1]=some (ys[1]'(by omega)):=g1.trans (xL _);have g2:zK enc xR w 0 (fun _=>true) true k 33 [c2]=some (ys[2]'(by omega)):=g2.trans (xL _);have g3:zK enc xR w 0 (fun _=>true) true k 3 [c3]=some (ys[3]'(by omega)):=g3.trans (xL _);have g4:zK enc xR w 0 (fun _=>true) true k 3 [c4]=some (ys[4]'(by omega)):=g4.trans (xL _);have g5:zK enc xR w 0 (fun _=>true) true k 3 [c5]=some (ys[5]'(by omega)):=g5.trans (xL _);have g6:zK enc xR w 0 (fun _=>true) true k 34 [c6]=some (ys[6]'(by omega)):=g6.trans (xL _);obtain⟨a0,e0,_⟩:=zh AAC g0;obtain⟨a1,e1,_⟩:=zh AAC g1;obtain⟨a2,e2,_,hw⟩:=zh Tryz.underlying33 g2;obtain⟨a3,e3,_⟩:=zh AAC g3;obtain⟨a4,e4,_⟩:=zh AAC g4;obtain⟨a5,e5,_⟩:=zh AAC g5;have hB:=PR Tryz.underlying34 pY (by omega) (Q:=QB) wg g6 (fun b off hm=>hfz b off (AC1.2 ⟨_,zn (by omega),hm⟩));have b8:=bounds_u8 hw;cases e0;cases e1;cases e2;cases e3;cases e4;cases e5;refine⟨⟨a0,a1,a2.toNat,a3,a4,a5,c6⟩,?_,hB,by show a2.toNat<256;omega⟩;show [yX .i64 a0,yX .i64 a1,yX .u8 a2,yX .i64 a3,yX .i64 a4,yX .i64 a5,c6]=[yX .i64 a0,yX .i64 a1,yX .u8 ((a2.toNat:Nat):Int),yX .i64 a3,yX .i64 a4,yX .i64 a5,c6];rw[AAi b8.1]
end
set_option maxRecDepth 100000 in
theorem sP{H:Type}{enc:yL×IN->H}(o z:IN)(w:yJ){base:Nat}{d1 d2:AD7 H}{p1 p2:List AB7}(ho:AAB xR w .any base 22 o)(hz:AAB xR w .any base 22 z)
  (to_:ACn enc xR w 0 (fun _=>true) true 22 o d1 p1)(fo:∀ b off,zx b off∈p1->w.frozen? ⟨b,off,none⟩=false)
  (tz:ACn enc xR w 0 (fun _=>true) true 22 z d2 p2)(fz:∀ b off,zx b off∈p2->w.frozen? ⟨b,off,none⟩=false):
  Calls xR 3 #[o,z] w fun e w'=>e=.returned (.bool true)/\Below w.heap.size w w':=by
 obtain⟨fuel,hf⟩:=slc AAh ho to_;obtain⟨n,Ls,R⟩:=PR AAh UU (by omega) (Q:=fun l=>∃ x:AD,l=x.cells/\WW w x) um hf fo;obtain⟨u,q,L0,qs,Zs,l1,l2,r1,r2,r3⟩:=UG R 0 2 25;obtain⟨fuel1,hf1⟩:=slc AAh hz tz;obtain⟨n1,Ls1,R1⟩:=PR AAh UU (by omega) (Q:=fun l=>∃ x:AD,l=x.cells/\WW w x) um hf1 fz;obtain⟨u1,q1,L1,qs1,Zs1,m1,m2,t1,t2,t3⟩:=UG R1 1 (qs.length+2) 10;have AEM:(L0::L1::(Zs++Zs1)).length<=256:=by simp only[xP,No];omega
 have W0:(inH (L0::L1::(Zs++Zs1))).Wf:=Zx AEM;have zl:Zs.length=qs.length:=l2.trans l1.symm;have O:=r3 _ W0 (LY AEM (i:=0) rfl) (fun j L e=>LY AEM (i:=j+2) (by
  show(Zs++Zs1)[j]? =some L;rw[xa (xy.1 e).1];exact e))
 have O1:=t3 _ W0 (LY AEM (i:=1) rfl) (fun j L e=>LY AEM (i:=j+(qs.length+2)) (by
  show(Zs++Zs1)[j+qs.length]? =some L;rw[xn (by omega),show j+qs.length - Zs.length=j by omega];exact e))
 obtain⟨h',hr,hx'⟩:=Z8 (m:=51) W0 O O1;obtain⟨g1,g2⟩:=r1 (MU (q::q1::(qs++qs1))) rfl (fun j q' e=>by
  show((q::q1::(qs++qs1))[j+2]?).getD none=q';have e:(q::q1::(qs++qs1))[j+2]? =some q':=by
   show(qs++qs1)[j]? =some q';rw[xa (xy.1 e).1];exact e
  rw[e];rfl)
 obtain⟨g3,g4⟩:=t1 (MU (q::q1::(qs++qs1))) rfl (fun j q' e=>by
  show((q::q1::(qs++qs1))[j+(qs.length+2)]?).getD none=q';have e:(q::q1::(qs++qs1))[j+(qs.length+2)]? =some q':=by
   show(qs++qs1)[j+qs.length]? =some q';rw[xn (by omega),Nat.add_sub_cancel];exact e
  rw[e];rfl)
 refine jq Y6 hr hx' rfl (.cons g2 (.cons g4 .nil)) (bo (ps:=q::q1::(qs++qs1)) AEM (by simp only[xP,No];omega) fun i q' L e1 e2=>?_)
 match i,e1,e2 with
 |0,e1,e2=>cases e1;cases e2;exact g1
 |1,e1,e2=>cases e1;cases e2;exact g3
 |i+2,e1,e2=>
  have e1:(qs++qs1)[i]? =some q':=e1;have e2:(Zs++Zs1)[i]? =some L:=e2;rcases xx i qs.length with hi|hi
  ·rw[xa hi]at e1
   rw[xa (by omega)]at e2;obtain⟨s1,s2⟩:=r2 i q' L e1 e2;exact s1.AJG (s2 _)
  ·rw[xn hi]at e1
   rw[xn (by omega),zl]at e2;obtain⟨s1,s2⟩:=t2 _ q' L e1 e2;exact s1.AJG (s2 _)
set_option maxRecDepth 100000 in
theorem rI(os:Os)(started:os.Started)(H:Type)(enc:yL×IN->H):
  ReturnsInHanded {} ACM os 3 .any (Rows.nodeLivesSpec.pre6 enc xR ACd Rows.nodeLivesRow.domain false) (Rows.nodeLivesSpec.post enc xR ACd false true false false):=by
 refine returnsInHanded_of_change (C:=ACM) own started (by kernel_rfl) ADo
  (AD3 (enc:=enc) (C:=ACM) false ⟨#[],#[.slice none 0 0,.slice none 0 0],[]⟩ 8 (by kernel_rfl) (by kernel_rfl) (by kernel_rfl) (by kernel_rfl)) ?_
 intro W base args ds gs before AHS hW AKn _;have hval:∀ (j:Nat) t v,ACd.params[j]? =some t->args[j]? =some v->AAB xR W .any base t v:=AHS;have hW':=hW;obtain⟨p,q,hA0,hV,rfl,hfz,hnd⟩:=hW;have hA:DataW.TrodAll enc xR W 0 (fun _=>true) true ACd.params.toList args.toList ds p:=hA0;rw[Tryz.params3]at hA hval;obtain⟨v0,vs0,d0,ds0,p0,q0,hargs,rfl,rfl,h0,r0⟩:=trodAll_cons hA;obtain⟨v1,vs1,d1,ds1,p1,q1,rfl,rfl,rfl,h1,r1⟩:=trodAll_cons r0;obtain⟨rfl,rfl,rfl⟩:=trodAll_nil r1;obtain rfl:args= #[v0,v1]:=by cases args;simp_all
 obtain⟨rfl,rfl⟩:=trodVars_none hV;clear hA0 AHS;simp only[xZ]at hW' hfz;have hlt:∀ x∈p0++p1,x.block<W.heap.size:=fun x hx=>hW'.lt x hx
 have i0:∀ x∈p0,x∈p0++p1:=fun x hx=>yN _ hx
 have i1:∀ x∈p1,x∈p0++p1:=fun x hx=>yI _ hx
 refine(sP v0 v1 W (hval 0 22 v0 rfl rfl) (hval 1 22 v1 rfl rfl) h0 (fun b off hm=>hfz b off (i0 _ hm)) h1 (fun b off hm=>hfz b off (i1 _ hm))).mono fun e W' ⟨he,hb⟩=>?_
 subst he;refine⟨_,rfl,NT (pa:=p0++p1) (pv:=[]) hW' (fun _ _ _=>(trodAll_cons_mk (shut_bool ACy _) trodAll_mk0)) (fun sp hsp=>?_) (fun _ _=>rfl) (by simp) hb (ok_one (by kernel_rfl) rfl (okWide_bool_mk ACy _))⟩;have s0:=ABr VY (by kernel_rfl) (of_decide_eq_true (by kernel_rfl)) h0 (fun x hx=>hb.same (hlt x (i0 x hx))) (fun x hx=>hsp x (i0 x hx));have s1:=ABr VY (by kernel_rfl) (of_decide_eq_true (by kernel_rfl)) h1 (fun x hx=>hb.same (hlt x (i1 x hx))) (fun x hx=>hsp x (i1 x hx));have:=trodAll_cons_mk s0 (trodAll_cons_mk s1 (trodAll_mk0 (enc:=enc) (P:=xR) (w:=W') (base:=0) (spare:=sp) (held:=true)));rw[xZ]at this;exact this
theorem over:Rows.nodeLivesRow.holds Tryz.pinned (OpenSpec.ofChange Rows.nodeLivesSpec):=
 AD5 3 ACd rfl rfl rfl rfl rfl rfl rfl ⟨rfl,rfl,rfl,rfl,rfl⟩ rfl rfl rfl rfl rfl (by kernel_rfl) ADo (by kernel_rfl)
  (of_decide_eq_true (by kernel_rfl)) (by unfold Func.isWrapper;first|(rw[if_pos (by decide +kernel)];kernel_rfl)|(rw[if_neg (by decide +kernel)];exact⟨rfl,rfl⟩))
  (fun os started H enc _=>rI os started H enc)
theorem proved:Rows.NodeLivesSaid:=
 over
#print axioms proved
end
end Go.Proofs.YtbjadbhkogcfeaaGreat.nodeLives
