/-
  Part ZG of what Lawnw stands on: printed by program, names and spaces cut.
-/
import Derived.Test.YtldjiljipddebaaGreatZF
open Option renaming some→BY,none→By
open Bool renaming false→IT,true→IN
open Go.Value renaming int→AI
open Go.IntKind renaming i64→AT
open Nat renaming reduceEqDiff→sh,reduceLT→xT,reduceAdd→xV,le_refl→xW,zero_add→xZ,beq→yA,zero_le→yH,ble→yI,lt_or_ge→yM,le_trans→yS,blt→yp,add_eq→zS,mul_comm→zb,reduceLeDiff→zg,mul_one→zw,mod_eq_of_lt→AAA,zero_mul→AAa,succ_mul→AAj,not_lt_zero→AAn,add_comm→ADC
open Go renaming Value→xU,World→ya
open List renaming length_append→xY,length_map→xa,getElem?_eq_getElem→xc,getD_eq_getElem?_getD→xe,length_cons→xh,mem_cons_of_mem→xn,mem_cons_self→xp,replicate→xx,mem_of_getElem?→xy,mem_cons→yC,append_assoc→yD,append_nil→yF,mem_singleton→yG,getElem?_append_left→yL,getElem?_eq_some_iff→yN,mem_append→yO,length_take→yP,getElem?_append_right→yR,nil_append→yT,length_nil→yU,length_drop→yX,map_append→yZ,length_singleton→yd,drop_zero→yk,drop_of_length_le→ym,length_replicate→yn,take_length→yz,mem_filter→zC,getElem?_map→zE,mem_map→zI,mem_of_mem_take→zJ,cons_append→zK,filter_cons_of_pos→zM,filter_cons_of_neg→zN,map_cons→za,mem_of_mem_drop→zd,take_of_length_le→ze,take_append_drop→zi,nodup_cons→zm,append_eq→zp,flatten_cons→zt,length→AAC,getElem_mem→AAF,find?_eq_none→AAH,flatMap_cons→AAM,singleton_append→AAO,take_add_one→AAT,nodup_append→AAU,map_eq_nil_iff→AAd,flatMap_append→AAg,drop→AAo,not_mem_nil→AAu,take→AA0,drop_left→ABM,drop_drop→ABN,find?_cons_of_neg→ABi,pairwise_cons→ABu,map_take→ACD,flatMap_nil→ACE,pairwise_singleton→ACh,map_map→ACs,find?_cons_of_pos→ACt,filter_eq_nil_iff→ACu,pairwise_reverse→AC0,filter_eq_self→ADE,drop_succ_cons→ADF,pairwise_map→ADO,mem_flatMap→ADV,map_reverse→ADW,drop_append→ADZ,take_left'→ADl,map→AD5
open Bool renaming and_eq_true→yE,not_true→yY,not_false→yg
open Int renaming sub→yi,toNat_natCast→zL,ofNat→zZ,toNat_of_nonneg→zh,eq_ofNat_of_zero_le→zn
open Go.Value renaming int→yy,chan→ABz,bool→ADe
open Go.DataW renaming trod→AAE
open Go.MemPlace renaming cell→ABg
open List.Perm renaming eq_of_pairwise→AEd
set_option linter.unusedVariables false
set_option linter.unusedSimpArgs false
namespace Go.Proofs.YtldjiljipddebaaGreat
set_option maxRecDepth 100000
noncomputable section
open Go
theorem e9:tdM=lT:=rfl
theorem qt:d28=qu:=rfl
section
variable {F:AEh}{e:Env}{h h' g:Hp}{R:Int->Prop}{S X:Nat->Prop}{A:At}{T M:List Nat}{c0 m k n nb r r4 r6 r8 op:Nat}{arm AEr lf sq a b c z err room:Int}{ks ks':List Kt}{fr fr':List Nat}{v lv fv u w iv bw:xU}{x:Kt}
theorem oD{x y:O}{k:C}{a b i j:Nat}(d:x e=.pointer (BY ⟨a,i,By⟩))(f:y e=.pointer (BY ⟨b,j,By⟩))(c:b≠a):Ci x [y] k F e h=k F e h:=by
 have g:yA b a=IT:=by
  cases e:yA b a
  ·rfl
  ·exact absurd (A0.1 e) c
 unfold Ci;rw[d];show(bif Ch a e [y]then k F e h else .no)=_;have:Ch a e [y]=IN:=by
  unfold Ch;rw[f];show(bif yA b a then IT else Ch a e [])=IN;rw[g];rfl
 rw[this];rfl
theorem NL(i:g.Wf){a:List xU}(R:g.Row r 0 a){off:Nat}(t:off<a.length)(q:256<=r)(j:cellsOf v=[v])(h2:oneCell v=IN):
  ∃d,(∀(F:AEh) (e:Env) (x y:O),x e=.pointer (BY ⟨r,off,By⟩)->y e=v->JQ x (AZ 1 x y) F e g=.ok AEl d)/\d.Row r 0 (over a off [v])/\d.mark=g.mark/\d.next=g.next/\Fx (λb=>b=r) g d:=by
 have c:g.quiet.Row r 0 a:=R.same rfl;have f:off+[v].length<=a.length:=t;have s:Bc [v]=IN:=by
  show(bif oneCell v then IN else IT)=IN;rw[h2];rfl
 have k:=c.AEn (n:=1) (off:=off) (v:=v) i.quiet q (by rw[j];rfl) (by rw[j];exact f) (by rw[j];exact s);rw[j]at k;have wr:=c.AEt i.quiet f;have fx:=Fx.wr (S:=λb=>b=r) i.quiet c f rfl;have p:=c.AFP f;obtain⟨z,_,o,_⟩:=c.AFt f;have m:(g.quiet.wr r off [v]).low=r:=by
  rw[o];show CD g.next r=r;have:=R.lt i;rw[BU];omega
 have l:(g.quiet.wr r off [v]).high=r:=by
  rw[o];show C9 0 r=r;rw[B8];omega
 generalize g.quiet.wr r off [v]=h at k wr fx p m l;refine⟨g.back h,λF e x y u w=>?_,wr.same rfl,rfl,p,fx.back⟩;show(match AZ 1 x y F e g.quiet with|.ok v h'=>bif JD (AE9 (x e)) g h'.low h'.high then DP g v h' else .no|.no=>.no)=_;rw[AW,u,w,k];show(bif JD (.ok r) g h.low h.high then DP g AEl h else .no)=_;rw[m,l];have:JD (.ok r) g r r=IN:=by
  show(bif yI r r then yI r r else IT)=IN;rw[As.2 (xW r)];rfl
 rw[this];show DP g AEl h=_;unfold DP;simp only[Ao];rfl
theorem B7(R:h.Row r 0 (B9 lf sq op err iv bw room)):AEi ⟨r,3,By⟩ h=.ok (AI AT err) h/\AEi ⟨r,4,By⟩ h=.ok iv h/\AEi ⟨r,5,By⟩ h=.ok bw h/\loadN 7 ⟨r,0,By⟩ h=.ok (Be lf sq op err iv bw room) h:=
 ⟨R.AEi (off:=3) (by show 3<7;omega),R.AEi (off:=4) (by show 4<7;omega),R.AEi (off:=5) (by show 5<7;omega),R.loadN (off:=0) (n:=7) (by show 0+7<=7;omega)⟩
theorem TZ(g:h.Wf)(y:h.Row nb 0 (AE3 A.bd A.tb A.bs AEr))(B:UpP R X h A T ks fr)(O:X r6/\X r8)(N:¬A.D r6/\¬A.D r8)(P:A.tb≠r6/\A.tb≠r8)(s:h.Row r4 0 (CM lf sq op a b c u))(V:h.Row r6 0 F5)(W:h.Row r8 0 (B9 0 0 0 z iv bw 0))(r:r4≠r8)(L:r6≠r8)(h6:256<=r6)(p:256<=r8)(hi:oneCell iv=IN)(l:oneCell bw=IN)
  (s0:J 0 e=pt nb)(s4:J 4 e=pt r4)(s6:J 6 e=pt r6)(s8:J 8 e=pt r8):
  ∃q h',tdE (call AC (m+2)) e h=.ret q h'/\J 6 q=pt r6/\J 7 q=AI AT 0/\Fx (λb=>b=r6\/b=r8) h h'/\h'.Row r6 0 (B9 lf sq op z iv bw (fr.length:Int))/\UpP R X h' A T ks fr:=by
 obtain⟨lv,fv,Rs,a4⟩:(∃lv fv,h.Row A.bs 0 (slL A.bd A.tb lv fv 0 IT)/\h.AE7 fv (ints .i64 (fr.map zZ))):=by
  obtain⟨⟨M,c0,arm,lv,fv,U,_⟩,_⟩:=B;exact⟨lv,fv,U.row,U.fs.vals⟩
 obtain⟨_,_,a8,_⟩:=CG y;have k1:call AC (m+2) 35 [pt A.bs] h=.ok (.bool IT) h:=Qn (m:=m+1) Rs;have Wm:=g.marked;obtain⟨_,_,a7,_⟩:=CG (y.same (h':=h.marked) rfl);obtain⟨a0,a1,a2,_⟩:=Br (s.same (h':=h.marked) rfl);have o4:∀{Q:Nat} {k:C} {F:AEh} {e:Env},Ir (.pointer (BY ⟨r4,Q,By⟩)) k F e h.marked=k F e h.marked:=λ{Q k F e}=>Df (s.lt g)
 have k2:call AC (m+2) 53 [pt A.bs] h.marked.quiet=.ok (AI AT (fr.length:Int)) h.marked.quiet:=lD (m:=m+1) (Rs.same (h':=h.marked.quiet) rfl) (a4.same (h':=h.marked.quiet) rfl);have S:∀e:Env,J 43 e=pt A.bs->Ac .weak (AS 53 [J 43]) (call AC (m+2)) e h.marked=.ok (AI AT (fr.length:Int)) (h.marked.back h.marked.quiet):=λe d=>by
  refine Cq ?_ (.refl Wm.quiet) (xW _);rw[BX,AV,A4,d];exact k2
 have j:h.Ext (h.marked.back h.marked.quiet):=Hp.Ext.AFp (Hp.Ext.refl g).marked (Hp.Ext.refl g).marked.quiet;generalize h.marked.back h.marked.quiet=H at S j;have o:=j.wf;have x:=W.ext g j;have t:=V.ext g j;obtain⟨I,b3,Y,_,n2,D⟩:=NL (v:=AI AT lf) o x (off:=0) (by show 0<7;omega) p rfl rfl;obtain⟨h3,b4,Z,_,n3,E⟩:=NL (v:=AI AT sq) D.wf Y (off:=1) (by show 1<7;omega) p rfl rfl;obtain⟨h4,b5,a3,n4,_,f4,_⟩:=NK (v:=.int .u8 (op:Int)) E.wf Z (off:=2) (by show 2<7;omega) p rfl rfl;obtain⟨h5,b6,n,n5,_,f5,_⟩:=NK (v:=AI AT (fr.length:Int)) f4.wf a3 (off:=6) (by show 6<7;omega) p rfl rfl;have n:h5.Row r8 0 (B9 lf sq op z iv bw (fr.length:Int)):=n;obtain⟨_,_,_,ld⟩:=B7 n;have i:=((D.trans E).trans f4).trans f5;obtain⟨K,b7,G,w⟩:=D7 (lf:=lf) (sq:=sq) (op:=op) (err:=z) (iv:=iv) (bw:=bw) (room:=(fr.length:Int)) i.wf (i.row o t L) rfl h6 hi l;have U1:=B.ext g j;have U5:=UpP.wr o U1 O.2 x n i N.2 P.2 FN;have U6:=UpP.wr i.wf U5 O.1 (i.row o t L) w G N.1 P.1 FN;have a5:∀{k:C} {F:AEh} {e:Env},J 45 e=.pointer (BY ⟨r8,0,By⟩)->J 36 e=.pointer (BY ⟨r4,1,By⟩)->J 38 e=.pointer (BY ⟨r4,2,By⟩)->Ci (J 45) [J 36,J 38] k F e H=k F e H:=λd f e3=>Z4 d f e3 r r
 have a6:∀{k:C} {F:AEh} {e:Env},J 46 e=.pointer (BY ⟨r8,1,By⟩)->J 38 e=.pointer (BY ⟨r4,2,By⟩)->Ci (J 46) [J 38] k F e I=k F e I:=λd f=>oD d f r
 have a9:=λ(F:AEh) (e:Env) (d:J 45 e=.pointer (BY ⟨r8,0,By⟩)) (f:J 35 e=AI AT lf)=>b3 F e (J 45) (J 35) d f
 have b0:=λ(F:AEh) (e:Env) (d:J 46 e=.pointer (BY ⟨r8,1,By⟩)) (f:J 37 e=AI AT sq)=>b4 F e (J 46) (J 37) d f
 have b1:=λ(F:AEh) (e:Env) (d:J 47 e=.pointer (BY ⟨r8,2,By⟩)) (f:J 39 e=.int .u8 (op:Int))=>b5 F e (J 47) (J 39) d f
 have b2:=λ(F:AEh) (e:Env) (d:J 48 e=.pointer (BY ⟨r8,6,By⟩)) (f:J 44 e=AI AT (fr.length:Int))=>b6 F e (J 48) (J 44) d f
 obtain⟨d,p1,t6,t7⟩:∃d,tdE (call AC (m+2)) e h=.ret d K/\J 6 d=pt r6/\J 7 d=AI AT 0:=by
  unfold tdE;simp only[sT,xT,sh,reduceIte,Ax,s0,Am,AH,AO,xZ,AN,AQ,a8,cA0,k1,Aw,s4,ED,o4,DQ,a0,a1,a2,a7,S,s8,a5,a9,a6,b0,b1,b2,An,Ah,ld,s6,AW,b7];exact⟨_,rfl,by simp[AG,s6]⟩
 refine⟨d,K,p1,t6,t7,((Fx.of j).trans (i.mono λb l=>.inr l)).trans (G.mono λb l=>.inl l),w,U6⟩
theorem OJ(i:h.Wf)(E:UpP R X h A T ks fr)(hX:∀b,X b->b<h.next){w:xU}:
  ∃d f r4 r6 r8,d28 (call AC m) (Au e0 0 [pt nb,CQ lf sq op a b c u,w]) h=tdM (call AC m) d f/\J 0 d=pt nb/\J 2 d=w/\J 4 d=pt r4/\J 6 d=pt r6/\J 8 d=pt r8/\h.Ext f/\f.Row r4 0 (CM lf sq op a b c u)/\f.Row r6 0 F5/\f.Row r8 0 (B9 0 0 0 120 AEk AEk 0)/\
   h.next<=r4/\h.next<=r6/\h.next<=r8/\r4≠r8/\r6≠r8/\UpP R (λb=>(X b\/b=r6)\/b=r8) f A T ks fr/\r6<f.next/\r8<f.next:=by
 have B:=λ(F:AEh) (e:Env) (I:J 1 e=CQ lf sq op a b c u)=>E9 (F:=F) i I
 have o:=(Hp.Ext.refl i).AEg 0 (CM lf sq op a b c u);have p:=Hp.Row.new i 0 (CM lf sq op a b c u);have L:(h.AEg 0 (CM lf sq op a b c u)).next=h.next+1:=rfl;generalize h.AEg 0 (CM lf sq op a b c u)=j at B o p L;have x:=λ(F:AEh) (e:Env)=>BO (F:=F) (e:=e) o.wf (n:=7) (t:=CY)
 have q:=Hp.Row.alloc o.wf Dd (show F5.length=7 from rfl);have k:j.Ext (j.push (.cells CY 7 0)):=(Hp.Ext.refl o.wf).push _;have M:(j.push (.cells CY 7 0)).next=j.next+1:=rfl;generalize j.push (.cells CY 7 0)=g at x q k M;have G:=λ(F:AEh) (e:Env)=>IX (F:=F) (e:=e) (h:=g) (z:=120) (g1:=W (AI AT 120)) rfl
 have y:=λ(F:AEh) (e:Env)=>BO (F:=F) (e:=e) k.wf (n:=7) (t:=CY)
 have s:=Hp.Row.alloc k.wf Dd (show F5.length=7 from rfl);have l:g.Ext (g.push (.cells CY 7 0)):=(Hp.Ext.refl k.wf).push _;have N:(g.push (.cells CY 7 0)).next=g.next+1:=rfl;generalize g.push (.cells CY 7 0)=h3 at y s l N;have big:=i.big;obtain⟨f,Y,f4,D⟩:=D7 (lf:=0) (sq:=0) (op:=0) (err:=120) (iv:=AEk) (bw:=AEk) (room:=0) l.wf s rfl (by omega) rfl rfl;have Z:=(o.trans k).trans l;have a0:=k.trans l;have C:=Fx.xtF Z f4 (λb H=>by rw[H];omega);have n4:=f4.next;have K:∃d,d28 (call AC m) (Au e0 0 [pt nb,CQ lf sq op a b c u,w]) h=tdM (call AC m) d f/\J 0 d=pt nb/\J 2 d=w/\J 4 d=pt h.next/\J 6 d=pt j.next/\J 8 d=pt g.next:=by
  rw[qt];unfold qu;simp only[iN,xV,sT,xT,sh,reduceIte,B,x,G,y,AW,Y];exact⟨_,rfl,by simp[AG]⟩
 obtain⟨d,O,P,Q,S,U,V⟩:=K;exact⟨d,f,_,_,_,O,P,Q,S,U,V,C,f4.row l.wf (p.ext o.wf a0) (by omega),f4.row l.wf (q.ext k.wf l) (by omega),D,xW _,by omega,by omega,by omega,by omega,((E.more i (r:=j.next) (by omega)).more i (r:=g.next) (by omega)).ext i C,by omega,by omega⟩
theorem fC(f:h.Wf)(t:h.Row nb 0 (AE3 A.bd A.tb A.bs AEr))(g:UpP R X h A T ks fr)(F:∀b,X b->b<h.next)(a1:lf<AEr){w:xU}:
  ∃room h',call AC (m+3) 28 [pt nb,CQ lf sq op a b c u,w] h=.ok (.tuple ⟨[Be lf sq op 120 AEk AEk room,AI AT 0]⟩) h'/\h.Ext h'/\room=(fr.length:Int):=by
 obtain⟨C,e,r4,r6,r8,N,n,p3,o,O,P,i,j,q,s,l4,l6,l8,K,L,x,m6,m8⟩:=OJ (m:=m+2) (nb:=nb) (lf:=lf) (sq:=sq) (op:=op) (a:=a) (b:=b) (c:=c) (u:=u) (w:=w) f g F;have y:=i.wf;have k:=t.ext f i;have big:=f.big;have l:=g.lt f;obtain⟨z,_⟩:=Br (j.same (h':=e.marked) rfl);obtain⟨_,_,_,M⟩:=CG (k.same (h':=e.marked) rfl);have B:iGe lf AEr=IT:=EX (by omega);have p:=(Hp.Ext.refl y).marked;have H:∃d,tdM (call AC (m+2)) C e=tdE (call AC (m+2)) d e.marked/\J 0 d=pt nb/\J 4 d=pt r4/\J 6 d=pt r6/\J 8 d=pt r8:=by
  rw[e9];unfold lT tdA;simp only[sT,xT,sh,reduceIte,Aw,o,n,AH,AO,xZ,AN,AQ,z,M,Ax,Am,AK,AJ,B];exact⟨_,rfl,by simp[AG,n,o,O,P]⟩
 obtain⟨d,Q,S,U,V,W⟩:=H;obtain⟨I,_,ht⟩:=g.tab;have a2:=I.lt f;obtain⟨e3,E,Y,Z,r3,D,r,_⟩:=TZ (m:=m) p.wf (k.same rfl) (x.same (h':=e.marked) rfl) ⟨.inl (.inr rfl),.inr rfl⟩ ⟨λh=>by have:=l _ h;omega,λh=>by have:=l _ h;omega⟩ ⟨by omega,by omega⟩ (j.same (h':=e.marked) rfl) (q.same rfl) (s.same rfl) K L (by omega) (by omega) rfl rfl S U V W;refine⟨fr.length,E,?_,Fx.xtF (i.trans p) D (λb G=>by rcases G with rfl|rfl<;>omega),rfl⟩;rw[aA rfl,N,Q,Y,Av,Dl (v:=Be lf sq op 120 AEk AEk fr.length) (by rw[Z];exact Cw r),r3]
theorem dN{bd a bs:Nat}:Odd (AE3 bd a bs AEr):=⟨.inl (by show 4<6;omega),pt bd,xp,λb h=>by cases h⟩
def uc(Q:Nat->Hp->Int->xU->xU->List Kt->List Nat->Prop):Prop:=∀(a d:Nat) (g c:Hp) (z:Int) (iv bw:xU) (ks:List Kt) (fr:List Nat),Q a g z iv bw ks fr->d<=a->g.Wf->Fx (λb=>b<a) g c->Q d c z iv bw ks fr
theorem fA(o:h.Wf)(M:h.Row nb 0 (AE3 A.bd A.tb A.bs AEr))(D:UpX X h A T ks fr k)(P:∀b,X b->b<h.next)(a8:X nb)(R:¬A.D nb)(a9:A.tb≠nb)(a1:256<=nb)(b8:AEr<=lf){f:Nat}{Q:Nat->Hp->Int->xU->xU->List Kt->List Nat->Prop}(hQ:uc Q)
  (ap:∀(g:Hp) (Y:Nat->Prop),g.Wf->g.Row nb 0 (AE3 A.bd A.tb A.bs lf)->UpX Y g A T ks fr k->(∀b,Y b->b<g.next)->Fx (λb=>b=nb) h g->∃z iv bw x ks' fr',call AC (m+2) f [pt nb,CQ lf sq op a b c u] g=.ok (Be 0 0 0 z iv bw 0) x/\Fx A.D g x/\UpX Y x A T ks' fr' n/\z≠120/\oneCell iv=IN/\oneCell bw=IN/\Q g.next x z iv bw ks' fr'):
  ∃z iv bw room h' ks' fr',call AC (m+3) 28 [pt nb,CQ lf sq op a b c u,.func (.func f) ⟨[]⟩ ⟨[]⟩] h=.ok (.tuple ⟨[Be lf sq op z iv bw room,AI AT 0]⟩) h'/\Fx (λb=>A.D b\/b=nb) h h'/\h'.Row nb 0 (AE3 A.bd A.tb A.bs lf)/\UpX X h' A T ks' fr' n/\(z≠120/\room=(fr'.length:Int))/\oneCell iv=IN/\oneCell bw=IN/\Q h.next h' z iv bw ks' fr':=by
 obtain⟨e1,j,r4,r6,r8,p1,V,p3,W,p5,Z,B,H,R6,R8,l4,S,G,b3,b4,U4,m6,m8⟩:=OJ (m:=m+2) (nb:=nb) (lf:=lf) (sq:=sq) (op:=op) (a:=a) (b:=b) (c:=c) (u:=u) (w:=.func (.func f) ⟨[]⟩ ⟨[]⟩) o D P;have W4:=B.wf;have C:=M.ext o B;have big:=o.big;have hD:=D.lt o;have hn:=M.lt o;obtain⟨b1,_,ht⟩:=D.tab;have b9:=b1.lt o;obtain⟨a0,_⟩:=Br (H.same (h':=j.marked) rfl);obtain⟨_,_,_,b5⟩:=CG (C.same (h':=j.marked) rfl);have c1:iGe lf AEr=IN:=GL (by omega);have xm:=(Hp.Ext.refl W4).marked;have t:=xm.wf;obtain⟨y,b6,s,U,i,_⟩:=Ei (v:=AI AT lf) t (C.same (h':=j.marked) rfl) (off:=3) (by show 3<4;omega) a1 rfl rfl;have s:y.Row nb 0 (AE3 A.bd A.tb A.bs lf):=s;have U:y.next=j.next:=U;have U5:=UpP.wr t (U4.same (h':=j.marked) rfl) (.inl (.inl a8)) (C.same (h':=j.marked) rfl) s i R a9 dN;have O:Fx (λb=>b=nb) h y:=(Fx.of (B.trans xm)).trans i;obtain⟨z,iv,bw,h6,ks',fr',k6,e,U6,hz,F,d,hq⟩:=ap y _ i.wf s U5 (λb d=>by
  rcases d with (d|d)|d
  ·have:=P b d
   omega
  ·omega
  ·omega) O
 have q:∀r,h.next<=r->¬A.D r:=λr hr h=>by have:=hD _ h;omega
 have I:=i.row t (H.same (h':=j.marked) rfl) (by omega);have a2:=e.row i.wf I (q _ l4);have a4:=e.row i.wf (i.row t (R6.same (h':=j.marked) rfl) (by omega)) (q _ S);have K:=e.row i.wf (i.row t (R8.same (h':=j.marked) rfl) (by omega)) (q _ G);have a7:=e.row i.wf s R;obtain⟨h7,b7,l,L⟩:=D7 (lf:=0) (sq:=0) (op:=0) (err:=z) (iv:=iv) (bw:=bw) (room:=0) e.wf K rfl (by omega) F d;have U7:=UpP.wr e.wf U6 (.inr rfl) K L l (q _ G) (by omega) FN;have a3:=l.row e.wf a2 (by omega);have a5:=l.row e.wf a4 (by omega);have N:=l.row e.wf a7 (by omega);obtain⟨_,_,_,_,_,_,_,b2⟩:=Br I;have b0:∃p,tdM (call AC (m+2)) e1 j=tdE (call AC (m+2)) p h7/\J 0 p=pt nb/\J 4 p=pt r4/\J 6 p=pt r6/\J 8 p=pt r8:=by
  rw[e9];unfold lT tdA;simp only[sT,xT,sh,reduceIte,Aw,W,V,p3,Z,AH,AO,xZ,AN,AQ,a0,b5,Ax,Am,AK,AJ,c1,AW,b6,An,Ah,b2,CU,Cf,AV,A4,yT,yF,k6,b7];exact⟨_,rfl,by simp[AG,V,W,p5,Z]⟩
 obtain⟨p,q1,q2,q4,q5,q6⟩:=b0;obtain⟨e3,h8,r1,r2,r3,E,a6,U8⟩:=TZ (m:=m) l.wf N U7 ⟨.inl (.inr rfl),.inr rfl⟩ ⟨q _ S,q _ G⟩ ⟨by omega,by omega⟩ a3 a5 L b3 b4 (by omega) (by omega) F d q2 q4 q5 q6;refine⟨z,iv,bw,fr'.length,h8,ks',fr',?_,Fx.drop ((((O.mono λb d=>.inl (.inr d)).trans (e.mono λb d=>.inl (.inl d))).trans (l.mono λb d=>.inr (by omega))).trans (E.mono λb d=>.inr (by rcases d with rfl|rfl<;>omega))),E.row l.wf N (by omega),U8.less λb d=>.inl (.inl d),⟨hz,rfl⟩,F,d,hQ _ _ _ _ _ _ _ _ _ hq (by have:=B.next;omega) e.wf ((l.mono λb d=>by omega).trans (E.mono λb d=>by rcases d with rfl|rfl<;>omega))⟩;rw[aA rfl,p1,q1,r1,Av,Dl (v:=Be lf sq op z iv bw fr'.length) (by rw[r2];exact Cw a6),r3]
end
theorem fM:Qy.k=.ptr 76:=by kernel_rfl
theorem rN:doR=ib:=rfl
theorem mL:d9=d9h:=rfl
def fnO(op:Nat):Nat:=if op=1 then 29 else if op=2 then 30 else if op=3 then 31 else if op=4 then 32 else if op=5 then 33 else 34
section
variable {F:AEh}{e:Env}{h h' g:Hp}{R:Int->Prop}{X:Nat->Prop}{A:At}{T M:List Nat}{c0 m k n nb r r4 op:Nat}{arm AEr lf sq a b c z err room:Int}{ks ks':List Kt}{fr fr' l:List Nat}{v lv fv u iv bw:xU}{x:Kt}
theorem LY{n:Nat}(d:Ca lf sq op a b c n=IN):1<=op/\op<=6/\1<=lf:=by
 unfold Ca hdQ wiQ at d;simp only[yE,decide_eq_true_eq]at d;exact⟨d.1.1.2.1,d.1.1.2.2,d.1.1.1.1.1⟩
def kdO(op:Nat):Int:=if op=1 then 1 else if op=2 then 5 else if op=3 then 7 else 8
def Rdn(T:List Nat)(ks:List Kt)(fr:List Nat)(op:Nat)(a b c:Int)(l:List Nat)(i:Nat)(g:Hp)(z:Int)(iv bw:xU)(ks':List Kt)(fr':List Nat):Prop:=
 (op≠4/\op≠5/\iv=AEk/\bw=AEk/\∃e,(op=1->e=l)/\Stp T ks fr (kdO op) a b c e z ks' fr')\/
 (ks'=ks/\fr'=fr/\((op=5/\z=0/\bw=AEk/\g.IL i iv (ks.filter λx=>OT x a b c))\/
  (op=4/\((c=0/\z=0/\bw=AEk/\g.IL i iv (ks.filter λx=>decide (x.a=a) && decide (x.b=b)))\/(c≠0/\ks.find? (BL a b c)=By/\z=60/\iv=AEk/\bw=AEk)\/
   (c≠0/\∃d,ks.find? (BL a b c)=BY d/\z=0/\(∃r,iv=.slice (BY ⟨r,0,By⟩) 1 1/\g.Row r 0 (Bv d)/\i<=r)/\g.BS (λb=>i<=b) bw (d.l.map bv))))))
theorem Hp.IL.less(o:h.IL n v ks)(hk:m<=n):h.IL m v ks:=by
 rcases o with a|⟨b,a,c,d⟩
 ·exact .inl a
 ·exact .inr ⟨b,a,c,yS hk d⟩
theorem Xk:uc (Rdn T ks fr op a b c l):=λs w g C z iv bw ks' fr' h q k m=>by
 rcases h with h|⟨n,o,⟨f,e,i,j⟩|⟨f,⟨e,i,j,p⟩|e|⟨e,x,i,j,⟨r,p,u,D⟩,t⟩⟩⟩
 ·exact .inl h
 ·exact .inr ⟨n,o,.inl ⟨f,e,i,(j.fx k m λb d=>d).less q⟩⟩
 ·exact .inr ⟨n,o,.inr ⟨f,.inl ⟨e,i,j,(p.fx k m λb d=>d).less q⟩⟩⟩
 ·exact .inr ⟨n,o,.inr ⟨f,.inr (.inl e)⟩⟩
 ·exact .inr ⟨n,o,.inr ⟨f,.inr (.inr ⟨e,x,i,j,⟨r,p,m.row k u (by omega),by omega⟩,t.AFq λb B A d _ y=>⟨m.row k y (by have d:s<=b:=d;omega),by have d:s<=b:=d;show w<=b;omega⟩⟩)⟩⟩
theorem mI(g:h.Wf)(G:A.n=24)(s:h.Row nb 0 (AE3 A.bd A.tb A.bs AEr))(f:UpX X h A T ks fr k)(C:op=4\/op=5):
  ∃z iv bw h' ks' fr',call AC (m+10) (fnO op) [pt nb,CQ lf sq op a b c u] h=.ok (Be 0 0 0 z iv bw 0) h'/\Fx A.D h h'/\UpX X h' A T ks' fr' k/\z≠120/\oneCell iv=IN/\oneCell bw=IN/\Rdn T ks fr op a b c l h.next h' z iv bw ks' fr':=by
 rcases C with rfl|rfl
 ·have n:=f
  obtain⟨⟨M,c0,arm,lv,fv,q,i,t,_⟩,_⟩:=n;have B:=i.len;obtain⟨h',D,z,iv,bw,p,e,d,j,F,w⟩:=vM (m:=m) (lf:=lf) (sq:=sq) (op:=4) (a:=a) (b:=b) (c:=c) (u:=u) g s q (by omega) (λx o=>t.AI0 o) (λx o=>by have:=i.lt x o;omega);refine⟨z,iv,bw,h',ks,fr,p,.of e,f.ext g e,?_,j,F,.inr ⟨rfl,rfl,.inr ⟨rfl,?_⟩⟩⟩
  ·rcases w with ⟨_,rfl,_⟩|⟨_,_,rfl,_⟩|⟨_,_,_,rfl,_⟩<;>omega
  ·rcases w with ⟨g1,g2,g3,g4⟩|g1|⟨g1,E,g2,g3,⟨r,g4,g5,g6⟩,g7⟩
   ·exact .inl ⟨g1,g2,g3,g4.less d⟩
   ·exact .inr (.inl g1)
   ·exact .inr (.inr ⟨g1,E,g2,g3,⟨r,g4,g5,yS d g6⟩,g7.mono λb y=>yS d y⟩)
 ·have n:=f
  obtain⟨⟨M,c0,arm,lv,fv,q,i,t,_⟩,_⟩:=n;have B:=i.len;obtain⟨h',D,iv,p,e,d,j⟩:=vK (m:=m) (lf:=lf) (sq:=sq) (op:=5) (a:=a) (b:=b) (c:=c) (u:=u) g s q (by omega);exact⟨0,iv,_,h',ks,fr,p,.of e,f.ext g e,by omega,(Uf j).2.2,rfl,.inr ⟨rfl,rfl,.inl ⟨rfl,rfl,rfl,j.less d⟩⟩⟩
theorem Uv(c:h.Row nb 0 (AE3 A.bd A.tb A.bs AEr))(d:UpP R X h A T ks fr):call AC (m+3) 27 [pt nb] h=.ok (AI AT 0) h:=by
 obtain⟨⟨M,c0,arm,lv,fv,b,_⟩,_⟩:=d;obtain⟨i,_,j,_⟩:=CG c;have k:∀e:Env,J 0 e=pt nb->oEq Qy.k IT (J 0) (W (.pointer By)) (call AC (m+2)) e h=.ok (.bool IT) h:=λe a=>GU fM a
 have l:∀e:Env,J 10 e=pt A.bs->oEq IP.k IT (J 10) (W (.pointer By)) (call AC (m+2)) e h=.ok (.bool IT) h:=λe a=>GU X9 a
 have f:call AC (m+2) 35 [pt A.bs] h=.ok (.bool IT) h:=Qn (m:=m+1) b.row;have g:call AC (m+2) 10 [pt A.bd] h=.ok (.bool IT) h:=Wi (m:=m) b.dk;rw[oR rfl];unfold d27;simp only[iN,xV,sT,xT,sh,reduceIte,gD,cA0,k,Ax,Am,AH,AO,xZ,AN,AQ,i,j,l,f,g,lV0]
theorem NC(f:h.Wf)(W:h.Row nb 0 (AE3 A.bd A.tb A.bs AEr))(z:UpP R X h A T ks fr)(a0:op<256){l:Nat}(hu:∀g:Hp,AFB u g=.ok (AI AT (l:Int)) g):
  ∃d j x r4,d9 (call AC (m+3)) (Au e0 0 [pt nb,CQ lf sq op a b c u]) h=(if Ca lf sq op a b c l=IN then doM (call AC (m+3)) d j else .ret d j)/\J 0 d=pt nb/\J 3 d=pt x/\J 4 d=pt r4/\h.Ext j/\j.Row x 0 (CM lf sq op a b c u)/\j.Row r4 0 F5/\
   h.next<=x/\h.next<=r4/\x≠r4/\UpP R (λb=>X b\/b=r4) j A T ks fr/\r4<j.next/\(Ca lf sq op a b c l=IT->J 5 d=AI AT 110):=by
 have C:=λ(F:AEh) (e:Env) (he:J 1 e=CQ lf sq op a b c u)=>E9 (F:=F) f he
 have p:=(Hp.Ext.refl f).AEg 0 (CM lf sq op a b c u);have s:=Hp.Row.new f 0 (CM lf sq op a b c u);have n1:(h.AEg 0 (CM lf sq op a b c u)).next=h.next+1:=rfl;generalize h.AEg 0 (CM lf sq op a b c u)=i at C p s n1;have B:=λ(F:AEh) (e:Env)=>BO (F:=F) (e:=e) p.wf (n:=7) (t:=CY)
 have y:=Hp.Row.alloc p.wf Dd (show F5.length=7 from rfl);have o:i.Ext (i.push (.cells CY 7 0)):=(Hp.Ext.refl p.wf).push _;have n2:(i.push (.cells CY 7 0)).next=i.next+1:=rfl;generalize i.push (.cells CY 7 0)=M at B y o n2;have q:=p.trans o;have Y:=((z.more f (r:=i.next) (by omega)).ext f q);have O:call AC (m+3) 27 [pt nb] M=.ok (AI AT 0) M:=Uv (m:=m) (W.ext f q) Y;have L:iNe 0 0=IT:=B0 rfl;obtain⟨_,_,_,_,_,_,_,P⟩:=Br (s.ext p.wf o);obtain⟨D,w,k⟩:=LX (m:=m) (AEr:=lf) (seq:=sq) (op:=op) (a:=a) (b:=b) (c:=c) q.wf a0 hu;have big:=f.big;cases N:Ca lf sq op a b c l
 ·rw[N]at w
  have V:=y.ext o.wf k;obtain⟨j,a1,f4,U⟩:=D7 (lf:=0) (sq:=0) (op:=0) (err:=0) (iv:=AEk) (bw:=AEk) (room:=0) k.wf V rfl (by omega) rfl rfl;have Z:=λ(F:AEh) (e:Env)=>gF (F:=F) (e:=e) (h:=D)
  have S:=Fx.xtF (q.trans k) f4 (λb hb=>by rw[hb];omega);have E:∃d,d9 (call AC (m+3)) (Au e0 0 [pt nb,CQ lf sq op a b c u]) h=.ret d j/\J 0 d=pt nb/\J 3 d=pt h.next/\J 4 d=pt i.next/\J 5 d=AI AT 110:=by
   rw[mL];unfold d9h;simp only[iN,xV,sT,xT,sh,reduceIte,C,B,cA0,O,AK,AJ,L];unfold doR ib Ai doM Ar;simp only[sT,xT,sh,reduceIte,An,Ah,P,cA0,w,BJ,BI,yg,Z,AW,a1];exact⟨_,rfl,by simp[AG]⟩
  obtain⟨d,G,H,I,K,q4⟩:=E;have nn:=k.next;have a2:=f4.next;exact⟨d,j,_,_,G,H,I,K,S,f4.row k.wf ((s.ext p.wf o).ext o.wf k) (by omega),U,xW _,by omega,by omega,((z.more f (r:=i.next) (by omega)).ext f S),by omega,λ_=>q4⟩
 ·rw[N]at w
  have E:∃d,d9 (call AC (m+3)) (Au e0 0 [pt nb,CQ lf sq op a b c u]) h=doM (call AC (m+3)) d D/\J 0 d=pt nb/\J 3 d=pt h.next/\J 4 d=pt i.next:=by
   rw[mL];unfold d9h;simp only[iN,xV,sT,xT,sh,reduceIte,C,B,cA0,O,AK,AJ,L];rw[rN];unfold ib;simp only[sT,xT,sh,reduceIte,An,Ah,P,cA0,w,BJ,BI,yY];exact⟨_,rfl,by simp[AG]⟩
  obtain⟨d,G,H,I,K⟩:=E;have nn:=k.next;have Q:=q.trans k;exact⟨d,D,_,_,G,H,I,K,Q,(s.ext p.wf o).ext o.wf k,y.ext o.wf k,xW _,by omega,by omega,((z.more f (r:=i.next) (by omega)).ext f Q),by omega,λe=>by cases e⟩
end
section
variable {e:Env}{h h' g:Hp}{R:Int->Prop}{S X:Nat->Prop}{A:At}{T:List Nat}{m k n nb r r3 r4 op:Nat}{AEr lf sq a b c z err room:Int}{ks ks':List Kt}{fr fr' l:List Nat}{v u w iv bw:xU}
theorem Hp.VE.fx{xs:List xU}(g:h.VE u xs)(i:h.Wf)(f:Fx S h h')(m:∀b,AE1 u b->¬S b):h'.VE u xs:=by
 rcases g with (a|⟨b,d,c,j,e,a,k,l⟩)|a
 ·exact .inl (.inl a)
 ·exact .inl (.inr ⟨b,d,c,j,e,a,f.row i k (m b ⟨d,_,c,a⟩),l⟩)
 ·exact .inr a
theorem bJ{o h2:Hp}{n:Int}(q:h.Row r3 0 (CM lf sq op a b c u))(r:1<=op)(s:op<=6)(s0:J 0 e=pt nb)(s3:J 3 e=pt r3)(s4:J 4 e=pt r4){p:xU}
  (hk:call AC (m+3) 28 [pt nb,CQ lf sq op a b c u,.func (.func (fnO op)) ⟨[]⟩ ⟨[]⟩] h=.ok (.tuple ⟨[p,AI AT n]⟩) o)(k:AEn 7 (pt r4) p o=.ok AEl h2):
  ∃l,doM (call AC (m+3)) e h=.ret l h2/\J 4 l=pt r4/\J 5 l=AI AT n:=by
 obtain⟨_,_,i,_,_,_,_,j⟩:=Br q;have hq:op=1\/op=2\/op=3\/op=4\/op=5\/op=6:=by omega
 unfold doM;rcases hq with hq|hq|hq|hq|hq|hq
 ·have d:iEq (op:Int) 1=IN:=CP (by omega)
  have hk:=hk;rw[show fnO op=29 by rw[hq];rfl]at hk;simp only[sT,xT,sh,reduceIte,s3,AH,AO,xZ,AN,AQ,i,AK,AJ,d,An,Ah,j,cA0,s0,hk,Aq,Az,A1,AW,s4,k];exact⟨_,rfl,by simp[AG,s4]⟩
 ·have d:iEq (op:Int) 1=IT:=CF (by omega)
  have f:iEq (op:Int) 2=IN:=CP (by omega);have hk:=hk;rw[show fnO op=30 by rw[hq];rfl]at hk;simp only[sT,xT,sh,reduceIte,s3,AH,AO,xZ,AN,AQ,i,AK,AJ,d,f,An,Ah,j,cA0,s0,hk,Aq,Az,A1,AW,s4,k];exact⟨_,rfl,by simp[AG,s4]⟩
 ·have d:iEq (op:Int) 1=IT:=CF (by omega)
  have f:iEq (op:Int) 2=IT:=CF (by omega);have g:iEq (op:Int) 3=IN:=CP (by omega);have hk:=hk;rw[show fnO op=31 by rw[hq];rfl]at hk;simp only[sT,xT,sh,reduceIte,s3,AH,AO,xZ,AN,AQ,i,AK,AJ,d,f,g,An,Ah,j,cA0,s0,hk,Aq,Az,A1,AW,s4,k];exact⟨_,rfl,by simp[AG,s4]⟩
 ·have d:iEq (op:Int) 1=IT:=CF (by omega)
  have f:iEq (op:Int) 2=IT:=CF (by omega);have g:iEq (op:Int) 3=IT:=CF (by omega);have c4:iEq (op:Int) 4=IN:=CP (by omega);have hk:=hk;rw[show fnO op=32 by rw[hq];rfl]at hk;simp only[sT,xT,sh,reduceIte,s3,AH,AO,xZ,AN,AQ,i,AK,AJ,d,f,g,c4,An,Ah,j,cA0,s0,hk,Aq,Az,A1,AW,s4,k];exact⟨_,rfl,by simp[AG,s4]⟩
 ·have d:iEq (op:Int) 1=IT:=CF (by omega)
  have f:iEq (op:Int) 2=IT:=CF (by omega);have g:iEq (op:Int) 3=IT:=CF (by omega);have c4:iEq (op:Int) 4=IT:=CF (by omega);have c5:iEq (op:Int) 5=IN:=CP (by omega);have hk:=hk;rw[show fnO op=33 by rw[hq];rfl]at hk;simp only[sT,xT,sh,reduceIte,s3,AH,AO,xZ,AN,AQ,i,AK,AJ,d,f,g,c4,c5,An,Ah,j,cA0,s0,hk,Aq,Az,A1,AW,s4,k];exact⟨_,rfl,by simp[AG,s4]⟩
 ·have d:iEq (op:Int) 1=IT:=CF (by omega)
  have f:iEq (op:Int) 2=IT:=CF (by omega);have g:iEq (op:Int) 3=IT:=CF (by omega);have c4:iEq (op:Int) 4=IT:=CF (by omega);have c5:iEq (op:Int) 5=IT:=CF (by omega);have hk:=hk;rw[show fnO op=34 by rw[hq];rfl]at hk;simp only[sT,xT,sh,reduceIte,s3,AH,AO,xZ,AN,AQ,i,AK,AJ,d,f,g,c4,c5,An,Ah,j,cA0,s0,hk,Aq,Az,A1,AW,s4,k];exact⟨_,rfl,by simp[AG,s4]⟩
theorem rO(n:h.Wf)(j:h.Row nb 0 (AE3 A.bd A.tb A.bs AEr))(k:UpP R X h A T ks fr)(p:op<256){l:Nat}(q:∀g:Hp,AFB u g=.ok (AI AT (l:Int)) g)(d:Ca lf sq op a b c l=IT):
  ∃f h',call AC (m+4) 9 [pt nb,CQ lf sq op a b c u] h=.ok (.tuple ⟨[f,AI AT 110]⟩) h'/\h.Ext h'/\f=Be 0 0 0 0 AEk AEk 0:=by
 obtain⟨y,o,r3,r4,e,E,F,r,t,w,i,z,B,D,x,C,s⟩:=NC (m:=m) (lf:=lf) (sq:=sq) (op:=op) (a:=a) (b:=b) (c:=c) n j k p q;rw[d,No (by decide)]at e;refine⟨_,o,?_,t,rfl⟩;rw[aG rfl,e,Av,Dl (v:=Be 0 0 0 0 AEk AEk 0) (by rw[r];exact Cw i),s d]
theorem rQ(f:h.Wf)(j:h.Row nb 0 (AE3 A.bd A.tb A.bs AEr))(r:UpP R X h A T ks fr)(y:∀b,X b->b<h.next)(B:op<256){l:Nat}(D:∀g:Hp,AFB u g=.ok (AI AT (l:Int)) g)(k:Ca lf sq op a b c l=IN)(z:lf<AEr):
  ∃room h',call AC (m+4) 9 [pt nb,CQ lf sq op a b c u] h=.ok (.tuple ⟨[Be lf sq op 120 AEk AEk room,AI AT 0]⟩) h'/\h.Ext h'/\room=(fr.length:Int):=by
 obtain⟨N,P,r3,r4,n,G,H,I,e,o,p,S,U,W,s,V,Y⟩:=NC (m:=m) (lf:=lf) (sq:=sq) (op:=op) (a:=a) (b:=b) (c:=c) f j r B D;rw[k,If rfl]at n;obtain⟨F,o6,_⟩:=LY k;have big:=f.big;obtain⟨room,Q,E,i,C⟩:=fC (m:=m) (lf:=lf) (sq:=sq) (op:=op) (a:=a) (b:=b) (c:=c) (u:=u) (w:=.func (.func (fnO op)) ⟨[]⟩ ⟨[]⟩) e.wf (j.ext f e) s (λb d=>by
  have:=e.next;rcases d with d|d
  ·have:=y b d
   omega
  ·omega) z
 obtain⟨x,M,t,q⟩:=D7 (lf:=lf) (sq:=sq) (op:=op) (err:=120) (iv:=AEk) (bw:=AEk) (room:=room) i.wf (p.ext e.wf i) rfl (by omega) rfl rfl;obtain⟨O,J,K,L⟩:=bJ (m:=m) o F o6 G H I E M;refine⟨room,x,?_,Fx.xtF (e.trans i) t (λb d=>by rw[d];omega),C⟩;rw[aG rfl,n,J,Av,Dl (v:=Be lf sq op 120 AEk AEk room) (by rw[K];exact Cw q),L]
theorem rP(i:h.Wf)(hA:A.n=24)(q:h.Row nb 0 (AE3 A.bd A.tb A.bs AEr))(s:UpX X h A T ks fr k)(W:∀b,X b->b<h.next)(Z:X nb)(a1:¬A.D nb)(a2:A.tb≠nb)(F:256<=nb)(O:h.VE u (l.map bv))(t:Ca lf sq op a b c l.length=IN)(a0:AEr<=lf)
  (Q:∀(g:Hp) (Y:Nat->Prop),g.Wf->g.Row nb 0 (AE3 A.bd A.tb A.bs lf)->UpX Y g A T ks fr k->(∀b,Y b->b<g.next)->(∀g0:Hp,h.Ext g0->Fx (λb=>b=nb) g0 g->∃z iv bw p ks' fr',call AC (m+10) (fnO op) [pt nb,CQ lf sq op a b c u] g=.ok (Be 0 0 0 z iv bw 0) p/\Fx A.D g p/\UpX Y p A T ks' fr' n/\z≠120/\oneCell iv=IN/\oneCell bw=IN/\Rdn T ks fr op a b c l g.next p z iv bw ks' fr')):
  ∃z iv bw room h' ks' fr',call AC (m+12) 9 [pt nb,CQ lf sq op a b c u] h=.ok (.tuple ⟨[Be lf sq op z iv bw room,AI AT 0]⟩) h'/\Fx (λb=>A.D b\/b=nb) h h'/\h'.Row nb 0 (AE3 A.bd A.tb A.bs lf)/\UpX X h' A T ks' fr' n/\(z≠120/\room=(fr'.length:Int))/\oneCell iv=IN/\oneCell bw=IN/\Rdn T ks fr op a b c l h.next h' z iv bw ks' fr':=by
 obtain⟨o1,o6,_⟩:=LY t;obtain⟨e1,S,r3,r4,E,p2,p3,p4,e,G,H,l3,D,a6,K,m4,a7⟩:=NC (m:=m+8) (lf:=lf) (sq:=sq) (op:=op) (a:=a) (b:=b) (c:=c) i q s (by omega) (λg=>O.bl g);rw[t,If rfl]at E;have big:=i.big;have V:=s.lt i;have hn:=q.lt i;obtain⟨a3,_,ht⟩:=s.tab;have a5:=a3.lt i;obtain⟨z,iv,bw,room,h5,ks',fr',k5,j,J,L,hz,B,C,hq⟩:=fA (m:=m+8) (n:=n) (lf:=lf) (sq:=sq) (op:=op) (a:=a) (b:=b) (c:=c) (u:=u) (f:=fnO op) e.wf (q.ext i e) K (λb d=>by
  have:=e.next;rcases d with d|d
  ·have:=W b d
   omega
  ·omega) (.inl Z) a1 a2 F a0 Xk λg Y P I N hY R=>Q g Y P I N hY S e R
 have y:∀r,h.next<=r->¬A.D r:=λr t h=>by have:=V _ h;omega
 have w:=j.row e.wf H (λh=>by
  rcases h with h|h
  ·exact y _ D h
  ·omega)
 obtain⟨U,a4,o,x⟩:=D7 (lf:=lf) (sq:=sq) (op:=op) (err:=z) (iv:=iv) (bw:=bw) (room:=room) j.wf w rfl (by omega) B C;obtain⟨e2,q1,q2,q3⟩:=bJ (m:=m+8) G o1 o6 p2 p3 p4 k5 a4;have M:=UpP.wr j.wf L (.inr rfl) w x o (y _ D) (by omega) FN;refine⟨z,iv,bw,room,U,ks',fr',?_,Fx.drop (((Fx.of e).trans (j.mono λb d=>.inl d)).trans (o.mono λb d=>.inr (by omega))),o.row j.wf J (by omega),M.less λb d=>.inl d,hz,B,C,Xk _ _ _ _ _ _ _ _ _ hq e.next j.wf (o.mono λb d=>by omega)⟩;rw[aG rfl,E,q1,Av,Dl (v:=Be lf sq op z iv bw room) (by rw[q2];exact Cw x),q3]
end
structure Ak where
 lf:Int
 sq:Int
 op:Nat
 a:Int
 b:Int
 c:Int
 u:xU
 l:List Nat
def Ak.cells(x:Ak):List xU:=CM x.lf x.sq x.op x.a x.b x.c x.u
def Ak.val(x:Ak):xU:=CQ x.lf x.sq x.op x.a x.b x.c x.u
def AGc(h:Hp)(x:Ak):Prop:=h.VE x.u (x.l.map bv)/\(∀a∈x.l,a<256)/\oneCell x.u=IN/\x.op<256
def flA(xs:List Ak):List xU:=xs.flatMap Ak.cells
def Hp.KL(h:Hp)(k:Nat)(v:xU)(xs:List Ak):Prop:=(v=AEk/\xs=[])\/∃a,v=.slice (BY ⟨a,0,By⟩) xs.length xs.length/\h.Row a 38 (flA xs)/\k<=a
structure AI1 (h:Hp)(v:xU)(n cap:Nat):Prop where
 len:∀g:Hp,AFB v g=.ok (AI AT (n:Int)) g
 get:∀i,i<n->i<cap->∃(r:Nat) (x:Ak),(∀g:Hp,h.Ext g->AFV 7 v (AI AT (i:Int)) g=.ok (.pointer (BY ⟨r,i*7,By⟩)) g/\loadN 7 ⟨r,i*7,By⟩ g=.ok x.val g/\AEi ⟨r,i*7+6,By⟩ g=.ok x.u g)/\AGc h x
theorem QG:∀xs:List Ak,(flA xs).length=xs.length*7
 |[]=>rfl
 |x::a=>by
  show(x.cells++flA a).length=_;rw[xY,QG a,xh];show 7+a.length*7=_;omega
theorem Wq:∀(xs:List Ak) (i:Nat) (x:Ak),xs[i]? =BY x->((flA xs).drop (i*7)).take 7=x.cells
 |[],i,x,a=>by cases a
 |y::xs,0,x,a=>by
  have a:BY y=BY x:=a;cases a;rfl
 |y::xs,i+1,x,a=>by
  show((y.cells++flA xs).drop ((i+1)*7)).take 7=_;rw[ADZ,ym (show y.cells.length<=_ by show 7<=_;omega),yT,show(i+1)*7 - y.cells.length=i*7 by show(i+1)*7 - 7=_;omega];exact Wq xs i x a
theorem ba:fwK=BB (AY 1 fwB) fwI:=rfl
theorem UZ:fwL=be:=rfl
theorem rh:fwS=BB (AY 0 (A3 fwL)) fwE:=rfl
theorem uu:d8=d8h:=rfl
theorem ly:BP OK.zero 1=CM 0 0 0 0 0 0 AEk:=by kernel_rfl
theorem Ki:Bs .mt 0 (CM 0 0 0 0 0 0 AEk)=BY OR:=by kernel_rfl
section
variable {F:AEh}{e:Env}{h h' h0 g:Hp}{S:Nat->Prop}{m k n:Nat}{v:xU}{xs:List Ak}{x:Ak}
theorem Zh(b:h.Wf){g:O}(a:g e=x.val):Ab 1 (BP OK.zero 1) [(0,7,g)] F e h=.ok (.slice (BY ⟨h.next,0,By⟩) 1 1) (h.AEg 0 x.cells):=by
 rw[ly,B5,Ad (hk:=by rw[a];rfl),a,show cellsOf x.val=x.cells from rfl,If (show x.cells.length=7 from rfl),If (show 0+7<=(CM 0 0 0 0 0 0 AEk).length from xW _),Bo,Cm b];rfl
theorem Ak.one(x:Ak)(a:oneCell x.u=IN):Bc x.cells=IN:=by
 show(bif oneCell x.u then IN else IT)=IN;rw[a];rfl
theorem Hp.KL.fx(o:h.KL k v xs)(d:h.Wf)(f:Fx S h h')(g:∀b,k<=b->¬S b):h'.KL k v xs:=by
 rcases o with a|⟨b,a,e,c⟩
 ·exact .inl a
 ·exact .inr ⟨b,a,f.row d e (g b c),c⟩
theorem Hp.KL.len(o:h.KL k v xs)(g:Hp):AFB v g=.ok (AI AT (xs.length:Int)) g:=by
 rcases o with ⟨rfl,rfl⟩|⟨a,rfl,_⟩
 ·exact EO
 ·exact EO
theorem Hp.KL.at(o:h.KL k v xs){i:Nat}(hi:xs[i]? =BY x):∃b,AFV 7 v (AI AT (i:Int)) h=.ok (.pointer (BY ⟨b,i*7,By⟩)) h/\loadN 7 ⟨b,i*7,By⟩ h=.ok x.val h:=by
 have hil:=(yN.1 hi).1;rcases o with ⟨rfl,rfl⟩|⟨b,rfl,h2,h3⟩
 ·cases hi
 ·refine⟨b,?_,?_⟩
  ·have:=Cy (h:=h) (n:=xs.length) (c:=xs.length) (es:=7) (b:=b) (off:=0) (i:=i) (k:=.i64) hil
   rwa [xZ]at this
  ·rw[h2.loadN (by rw[QG];omega),Wq xs i x hi];rfl
theorem Hp.KL.app(o:h.KL k v xs)(s:h0.Wf)(r:h0.Ext h)(hk:h0.next<=k)(H:k<=h.next)(I:xs.length<=1000)(C:oneCell x.u=IN):
  ∃h' v',DU 7 72 37 v (.slice (BY ⟨h.next,0,By⟩) 1 1) (h.AEg 0 x.cells)=.ok v' h'/\h0.Ext h'/\h'.KL k v' (xs++[x])/\Fx (AE1 v) h h':=by
 have c:=r.wf;have j:=r.AEg 0 x.cells;have a:=(Hp.Ext.refl c).AEg 0 x.cells;have l:=Hp.Row.new c 0 x.cells;have B:h.next<=(h.AEg 0 x.cells).next:=a.next;have big:=s.big;generalize h.AEg 0 x.cells=y at j a l B;have q:∀K:List xU->R,BM y 7 (.slice (BY ⟨h.next,0,By⟩) 1 1) 1 K=K x.cells:=λK=>l.AGd (es:=7) (off:=0) (n:=1) (by show 0+1 * 7<=7;omega)
 have p:=x.one C;rcases o with ⟨rfl,rfl⟩|⟨w,rfl,E,G⟩
 ·obtain⟨i,d,b,f,t,_,g⟩:=Ij (eb:=72) (en:=37) j q rfl rfl p (by omega)
  exact⟨i,_,d,b,.inr ⟨_,rfl,by rw[show flA ([]++[x])=x.cells from yF _];exact f,by omega⟩,.of (a.trans g)⟩
 ·obtain⟨i,d,b,f,t,⟨_,u,_⟩,g⟩:=LF (eb:=72) (en:=37) (n:=xs.length) j q rfl rfl (by omega) p (E.ext c a) (QG xs) (by omega) (by omega) (by omega)
  refine⟨i,_,d,b,.inr ⟨_,by rw[xY];rfl,?_,by omega⟩,by omega,λm z A=>(g m (by omega) λe=>A (e ▸ ⟨0,_,_,rfl⟩)).trans (a.get m z),b.wf,λF J L D=>by
   have g1:=D w ⟨0,_,_,rfl⟩;have g2:=a.low;rw[u,BU];omega⟩
  rw[show flA (xs++[x])=flA xs++x.cells by unfold flA;rw[AAg];exact congrArg _ (yF _)];exact f
theorem rZ(M:h.Wf)(hb:h0.Ext h)(W0:h0.Wf)(O:AI1 h0 v n 25):∃h' v' xs,call AC (m+1) 8 [v] h=.ok v' h'/\h.Ext h'/\h'.KL h.next v' xs/\xs.length<=25/\∀x∈xs,AGc h0 x/\x.l.length<=150:=by
 obtain⟨k,p1,s0,s3,s4⟩:∃k,d8 (call AC m) (Au e0 0 [v]) h=fwS (call AC m) k h/\J 0 k=v/\J 3 k=AEk/\J 4 k=AI AT ((0:Nat):Int):=by
  rw[uu];unfold d8h;simp only[iN,xV,sT,xT,sh,reduceIte];exact⟨_,rfl,by simp[AG]⟩
 have a1:∃a c xs,A3 fwL (call AC m) k h=.exit 0 a c/\h.Ext c/\c.KL h.next (J 3 a) xs/\xs.length<=25/\∀x∈xs,AGc h0 x/\x.l.length<=150:=by
  refine Bd (I:=λi d h'=>∃xs,h.Ext h'/\J 0 d=v/\J 4 d=AI AT (i:Int)/\i<=25/\h'.KL h.next (J 3 d) xs/\xs.length<=i/\∀x∈xs,AGc h0 x/\x.l.length<=150)
   (Q:=λx=>∃a c xs,x=.exit 0 a c/\h.Ext c/\c.KL h.next (J 3 a) xs/\xs.length<=25/\∀x∈xs,AGc h0 x/\x.l.length<=150) 25 (by omega) (λi d h' ⟨xs,o,t0,t4,hi,K,P,j⟩=>?_) ⟨[],.refl M,s0,s4,yH _,.inl ⟨s3,rfl⟩,xW _,λx j=>by cases j⟩
  have Y:=o.wf;have D:=O.len h';have done:(∃a,fwL (call AC m) d h'=.exit 0 a h'/\J 3 a=J 3 d)->(bS (fwL (call AC m) d h')=IN/\∃a c xs,fwL (call AC m) d h'=.exit 0 a c/\h.Ext c/\c.KL h.next (J 3 a) xs/\xs.length<=25/\∀x∈xs,AGc h0 x/\x.l.length<=150):=λ⟨a,l,T⟩=>by
   rw[l];exact⟨rfl,a,h',xs,rfl,o,by rw[T];exact K,by omega,j⟩
  by_cases N:i<n
  ·have r:=EU N
   by_cases p:i<25
   ·left
    have u:iLt (i:Int) 25=IN:=H0 (by omega);obtain⟨T,x,a0,ok⟩:=O.get i N p;obtain⟨R,q2,S⟩:=a0 h' (hb.trans o);have Z:=λg:Hp=>Cc (i:=i) (h:=g) (by omega)
    have V:=ok.1.bl h';obtain⟨a,l,s,U,t⟩:∃a,fwL (call AC m) d h'=fwK (call AC m) a h'/\J 0 a=v/\J 3 a=J 3 d/\J 4 a=AI AT (i:Int):=by
     rw[UZ];unfold be;simp only[sT,xT,sh,reduceIte,gD,AX,t0,D,AK,AJ,t4,r,u];exact⟨_,rfl,by simp[AG,t0,t4]⟩
    have fin:∀(b:Env) (B:Hp),J 4 b=AI AT (i:Int)->∃f,fwI (call AC m) b B=.norm f B/\J 4 f=AI AT ((i+1:Nat):Int)/\J 0 f=J 0 b/\J 3 f=J 3 b:=λb B r5=>by
     unfold fwI;simp only[sT,xT,sh,reduceIte,BW,r5,Z];exact⟨_,rfl,by simp[AG]⟩
    by_cases W:x.l.length<=150
    ·have w:iLe (x.l.length:Int) 150=IN:=Gv (by omega)
     have sl:=λ(F:AEh) (e:Env) (he:J 26 e=x.val)=>Zh (F:=F) (e:=e) (x:=x) Y he
     obtain⟨C,v5,k5,x5,X,_⟩:=K.app (x:=x) M o (xW _) o.next (by omega) ok.2.2.1;obtain⟨b,E,G,H,L⟩:∃b,fwB (call AC m) a h'=.norm b C/\J 0 b=v/\J 3 b=v5/\J 4 b=AI AT (i:Int):=by
      unfold fwB;simp only[sT,xT,sh,reduceIte,BA,s,t,R,AH,AO,AN,AQ,S,AX,V,AK,AJ,w,An,Ah,q2,sl,Bb,U,k5];exact⟨_,rfl,by simp[AG,s,t]⟩
     obtain⟨f,y,z,A,f4⟩:=fin b C L;refine⟨p,f,C,?_,xs++[x],x5,A.trans G,z,p,by rw[f4,H];exact X,by rw[xY];show xs.length+1<=_;omega,λa2 q=>?_⟩
     ·rw[l,ba]
      simp only[A7,Ap,E,Bt,Ay,y]
     ·rcases yO.1 q with q|q
      ·exact j a2 q
      ·rw[yG.1 q];exact⟨ok,W⟩
    ·have w:iLe (x.l.length:Int) 150=IT:=Lm (by omega)
     obtain⟨b,E,G,H,L⟩:∃b,fwB (call AC m) a h'=.norm b h'/\J 0 b=v/\J 3 b=J 3 a/\J 4 b=AI AT (i:Int):=by
      unfold fwB;simp only[sT,xT,sh,reduceIte,BA,s,t,R,AH,AO,AN,AQ,S,AX,V,AK,AJ,w];exact⟨_,rfl,by simp[AG,s,t]⟩
     obtain⟨f,y,z,A,f4⟩:=fin b h' L;refine⟨p,f,h',?_,xs,o,A.trans G,z,p,by rw[f4,H,U];exact K,by omega,j⟩;rw[l,ba];simp only[A7,Ap,E,Bt,Ay,y]
   ·right
    have u:iLt (i:Int) 25=IT:=FI (by omega);refine done ?_;rw[UZ];unfold be;simp only[sT,xT,sh,reduceIte,gD,AX,t0,D,AK,AJ,t4,r,u];exact⟨_,rfl,by simp[AG]⟩
  ·right
   have r:=Cz (show n<=i by omega);refine done ?_;rw[UZ];unfold be;simp only[sT,xT,sh,reduceIte,gD,AX,t0,D,AK,AJ,t4,r];exact⟨_,rfl,by simp[AG]⟩
 obtain⟨a,c,xs,l,x2,K,P,j⟩:=a1;refine⟨c,_,xs,?_,x2,K,P,j⟩;rw[uq rfl,p1,rh];simp only[A7,Ap,l,A5,Ay];unfold fwE;simp only[sT,xT,sh,reduceIte,lV0]
end
end
noncomputable section
open Go Go.RowKit Go.WideShapes Go.ChangeShapes
theorem Zw{c:ya}{a:Addr}{v:xU}(h:c.cell? a=BY v):a.spot=By/\∃cs b fr,c.heap[a.block]? =BY (.cells cs b fr)/\cs[a.off]? =BY v:=by
 unfold World.cell? at h;split at h
 ·rename_i cs b fr e
  split at h
  ·cases h
  ·rename_i d
   refine⟨?_,cs,b,fr,e,h⟩;cases f:a.spot with
   |none=>rfl
   |some g=>rw[f]at d;exact(d rfl).elim
 ·cases h
theorem eF{c:ya}{a:Addr}{b:List xU}{cs:Array xU}{f:TypeId}{fr:Nat×Nat}(e:c.heap[a.block]? =BY (.cells cs f fr))(g:∀j,j<b.length->cs[a.off+j]? =BY (b.getD j AEl))(h:∀j,j<b.length->c.frozen? ⟨a.block,a.off+j,By⟩=IT):Me c a b:=by
 refine⟨cs,f,fr,e,g,λl k i=>?_⟩;have d:=h l k;obtain⟨n,m⟩:=fr;simp only[World.frozen?,e]at d;simp only at i;simp only[Bool.and_eq_false_iff,decide_eq_false_iff_not]at d;omega
theorem XP{f:Type}{Q:Nat->f->Prop}:∀n,(∀i,i<n->∃x,Q i x)->∃xs:List f,xs.length=n/\∀i x,xs[i]? =BY x->Q i x
 |0,_=>⟨[],rfl,λi x b=>by cases b⟩
 |n+1,b=>by
  obtain⟨xs,h,j⟩:=XP n λi a=>b i (by omega)
  obtain⟨e,k⟩:=b n (by omega);refine⟨xs++[e],by rw[xY,h];rfl,λi x a=>?_⟩;rcases yM i xs.length with c|c
  ·rw[yL c]at a;exact j i x a
  ·rw[yR c]at a
   have d:i - xs.length< [e].length:=(yN.1 a).1;have d:i - xs.length<1:=d;have g:i - xs.length=0:=by omega
   rw[g]at a;cases a;rw[show i=n by omega];exact k
theorem Gr{s:Nat}:∀{a:List (List xU)},(∀l∈a,l.length=s)->a.flatten.length=a.length*s
 |[],_=>by simp
 |l::a,b=>by
  rw[zt,xY,b l xp,Gr λd c=>b d (xn _ c),xh,AAj,ADC]
theorem Ru{s:Nat}:∀{b:List (List xU)} {i r:Nat} {l:List xU},(∀l∈b,l.length=s)->b[i]? =BY l->r<s->b.flatten[i*s+r]? =l[r]?
 |[],i,_,_,_,a,_=>by cases a
 |x::b,0,r,l,a,c,d=>by
  cases c;rw[zt,AAa,xZ,yL (by rw[a x xp];exact d)]
 |x::b,i+1,r,l,a,c,d=>by
  have e:=a x xp;rw[zt,yR (by rw[e,AAj];omega),e];have:(i+1)*s+r - s=i*s+r:=by rw[AAj];omega
  rw[this];exact Ru (λg f=>a g (xn _ f)) c d
theorem Ox{s:Nat}:∀{b:List (List xU)} {i:Nat} {l:List xU} (R:List xU),(∀l∈b,l.length=s)->b[i]? =BY l->((b.flatten++R).drop (i*s)).take s=l
 |[],i,_,_,_,a=>by cases a
 |x::b,0,l,R,a,c=>by
  cases c;rw[AAa,yk,zt,yD];exact ADl (a x xp)
 |x::b,i+1,l,R,a,c=>by
  have d:=a x xp;have:(i+1)*s=s+i*s:=by rw[AAj,ADC]
  rw[this,<- ABN,zt,yD,List.drop_left' d];exact Ox R (λf e=>a f (xn _ e)) c
def Kk(d:ya)(Q:List xU->Prop)(s:Nat)(v:xU)(n:Nat)(a:List (List xU)):Prop:=(∀c∈a,c.length=s/\Q c)/\n<=a.length/\
 ((v=AEk/\a=[])\/(∃b,v=.slice (BY b) 0 0/\a=[])\/∃b,v=.slice (BY b) n a.length/\0<a.length/\b.spot=By/\Me d b a.flatten)
theorem Xn{H:Type}{enc:TypeId×xU->H}{P:Program}{t e:TypeId}{s:Nat}(ht:P.underlying t=BY (.slice e))(hs:P.cellsOf e=s)(h0:0<s){W:ya}{fuel:Nat}{v:xU}{x:DataW H×List MemPlace}{Q:List xU->Prop}
  (dec:∀(m:Nat) (l:List xU) (y:DataW H×List MemPlace),l.length=s->AAE enc P W 0 (λ_=>IN) IN m e l=BY y->(∀b off,ABg b off∈y.2->W.frozen? ⟨b,off,By⟩=IT)->Q l)
  (hf:AAE enc P W 0 (λ_=>IN) IN fuel t [v]=BY x)(hfz:∀b off,ABg b off∈x.2->W.frozen? ⟨b,off,By⟩=IT):∃n Ls,Kk W Q s v n Ls:=by
 rcases DataW.trod_slice ht hf with ⟨hcs,_⟩|⟨a,n,c,elems,rest,m,_,hcs,hx,_,hl,hm,hlen,hel,hsp,_⟩
 ·have:v=AEk:=by simpa using hcs
  exact⟨0,[],(λl hl=>by cases hl),xW _,.inl ⟨this,rfl⟩⟩
 ·have:v=.slice (BY a) n c:=by simpa using hcs
  subst this;obtain⟨hrl,hr⟩:=hsp rfl;subst hx;rcases Nat.eq_zero_or_pos c with hc|hc
  ·subst hc
   have:n=0:=by omega
   subst this;exact⟨0,[],(λl hl=>by cases hl),xW _,.inr (.inl ⟨a,rfl,rfl⟩)⟩
  ·have htot:(elems++rest).length=c:=by rw[xY];omega
   have each:∀i,i<c->∃l:List xU,(l.length=s/\Q l)/\∀j,j<s->W.cell? ((a.add (i*s)).add j)=l[j]?:=λi hi=>by
    have hi':i<(elems++rest).length:=by omega
    have hb:(W.cells? 0 (a.add (i*P.cellsOf e)) (P.cellsOf e)).bind (AAE enc P W 0 (λ_=>IN) IN m e)=BY ((elems++rest)[i]'hi'):=by
     rcases yM i n with h4|h4
     ·have:=hel i h4
      rw[this,<- xc hi',yL (by omega)]
     ·have:=hr (i - n) (by omega)
      rw[show n+(i - n)=i by omega]at this;rw[this,<- xc hi',yR (by omega),hlen]
    rw[hs,Option.bind_eq_some_iff]at hb;obtain⟨l,h4,h5⟩:=hb;obtain⟨_,h6,h7⟩:=World.cells?_some h4;exact⟨l,⟨h6,dec m l _ h6 h5 λb off hm=>hfz b off (List.mem_append_right _ (ADV.2 ⟨_,AAF hi',hm⟩))⟩,h7⟩
   obtain⟨Ls,hLl,hLs⟩:=XP c each;have hall:∀l∈Ls,l.length=s/\Q l:=λl hl=>by
    obtain⟨i,hi,rfl⟩:=List.mem_iff_getElem.1 hl;exact(hLs i _ (xc hi)).1
   have hls:∀l∈Ls,l.length=s:=λl hl=>(hall l hl).1
   have hz:0<Ls.length:=by omega
   have c0:=(hLs 0 _ (xc hz)).2 0 h0;have hl0:0<(Ls[0]'hz).length:=by rw[hls _ (AAF hz)];exact h0
   rw[xc hl0,AAa]at c0;have c0:W.cell? a=BY ((Ls[0]'hz)[0]'hl0):=c0;obtain⟨AJp,cs,tt,fr,hb,_⟩:=Zw c0;obtain⟨ab,ao,spot⟩:=a;simp only at AJp;subst AJp;have hfl:=Gr hls;refine⟨n,Ls,hall,by omega,.inr (.inr ⟨⟨ab,ao,By⟩,by rw[hLl],hz,rfl,eF hb (λj hj=>?_) λj hj=>hfz ab (ao+j) (List.mem_append_left _ ?_)⟩)⟩
   ·rw[hfl]at hj
    have hi:j/s<Ls.length:=Nat.div_lt_of_lt_mul (by rw[zb];exact hj);have hr:j % s<s:=Nat.mod_lt _ h0;have e:j/s*s+j % s=j:=by rw[zb];exact Nat.div_add_mod j s
    have hx:=xc hi;have q:=(hLs _ _ hx).2 _ hr;have g:=Ru hls hx hr;rw[e]at g;have hll:j % s<(Ls[j/s]'hi).length:=by rw[hls _ (AAF hi)];exact hr
    rw[xc hll]at q g;rw[Addr.AFk,Addr.AFk,Jm hb]at q;rw[xe,g];show cs[ao+j]? =BY _;have:ao+j/s*s+j % s=ao+j:=by omega
    rw[<- this];exact q
   ·simp only[MemPlace.row,zI,List.mem_range]
    exact⟨j,by rw[hfl]at hj;rw[hs,hlen,hrl,show n+(c - n)=c by omega,<- hLl];exact hj,rfl⟩
theorem Xt{φ:Phi}{a:Addr}{n c i m:Nat}(f:a.spot=By)(d:n<=c)(b:0<c)(g:0<m)(e:φ i=BY (Sy a m)):AEm φ (.slice (BY ⟨i,0,By⟩) n c) (.slice (BY a) n c):=by
 refine .slice d ⟨rfl,f,_,e,rfl,.inl ⟨b,?_,.inl rfl⟩⟩;show a.off=(if m=0 then 0 else a.off)+0;rw[No (by omega),Nat.add_zero]
theorem Kk.rel{h:ya}{Q:List xU->Prop}{s n:Nat}{v:xU}{a:List (List xU)}(b:Kk h Q s v n a)(h0:0<s)(w:∀l,Q l->∀φ,AE5 φ l l)(i:Nat):∃(u:xU) (q:Option Pl),ZZ h a.flatten q/\(∀φ,AE5 φ a.flatten a.flatten)/\(∀φ:Phi,φ i=q->AEm φ u v)/\
  ((u=AEk/\a=[])\/(u=.chan (BY 0)/\a=[])\/u=.slice (BY ⟨i,0,By⟩) n a.length):=by
 obtain⟨e,f,j⟩:=b;have c:∀φ,AE5 φ a.flatten a.flatten:=λφ=>by
  clear f j
  induction a with
  |nil=>exact .nil
  |cons l a t=>
   rw[zt];exact(w l (e l xp).2 φ).append (t λl g=>e l (xn _ g))
 rcases j with ⟨rfl,rfl⟩|⟨d,rfl,rfl⟩|⟨d,rfl,k,m,o⟩
 ·exact⟨AEk,By,.inl rfl,c,λ_ _=>.AFZ,.inl ⟨rfl,rfl⟩⟩
 ·have:n=0:=by simpa using f
  subst this;exact⟨.chan (BY 0),By,.inl rfl,c,λ_ _=>.AGx,.inr (.inl ⟨rfl,rfl⟩)⟩
 ·have p:=Gr λl g=>(e l g).1
  refine⟨.slice (BY ⟨i,0,By⟩) n a.length,BY (Sy d a.flatten.length),.inr ⟨d,rfl,o⟩,c,λφ r=>Xt m f k (by rw[p];exact Nat.mul_pos k h0) r,.inr (.inr rfl)⟩
def QB(l:List xU):Prop:=∃a:Nat,l=[bv a]/\a<256
theorem mZ{l:List xU}(h:QB l)(φ:Phi):AE5 φ l l:=by
 obtain⟨a,rfl,_⟩:=h;exact .cons (.int _ _) .nil
theorem So:∀xs:List Nat,(xs.map λx=>[bv x]).flatten=xs.map bv
 |[]=>rfl
 |a::xs=>by rw[za,zt,So xs];rfl
theorem Ol:∀{a:List (List xU)},(∀l∈a,QB l)->∃xs:List Nat,a=xs.map (λx=>[bv x])/\∀x∈xs,x<256
 |[],_=>⟨[],rfl,λx b=>by cases b⟩
 |l::a,d=>by
  obtain⟨x,rfl,b⟩:=d l xp;obtain⟨xs,rfl,f⟩:=Ol λl e=>d l (xn _ e)
  exact⟨x::xs,rfl,λg c=>by
   rcases yC.1 c with rfl|c
   ·exact b
   ·exact f g c⟩
theorem oB{g:ya}{v:xU}{n:Nat}{c:List (List xU)}(b:Kk g QB 1 v n c):∃l:List Nat,(∀x∈l,x<256)/\∀(i:Nat) (u:xU),((u=AEk/\c=[])\/(u=.chan (BY 0)/\c=[])\/u=.slice (BY ⟨i,0,By⟩) n c.length)->∀h:Hp,h.Row i 0 c.flatten->h.VE u (l.map bv):=by
 obtain⟨j,k,_⟩:=b;obtain⟨a,rfl,o⟩:=Ol λl d=>(j l d).2
 rw[xa]at k;refine⟨a.take n,λx e=>o x (zJ e),λi u m h f=>?_⟩;rw[So]at f;rcases m with ⟨rfl,e⟩|⟨rfl,e⟩|rfl
 ·have:a=[]:=by simpa using e
  subst this;exact .inl (.inl ⟨rfl,by simp⟩)
 ·have:a=[]:=by simpa using e
  subst this;exact .inr ⟨⟨0,rfl⟩,by simp⟩
 ·have d:(a.take n).length=n:=by rw[yP];omega
  refine .inl (.inr ⟨i,0,(a.map λx=>[bv x]).length,0,a.map bv,?_,f,?_,?_⟩)
  ·rw[xa,xa,d]
  ·rw[xa,d,xa];omega
  ·rw[xa,d,yk,ACD]
structure AD where
 lf:Int
 sq:Int
 op:Nat
 a:Int
 b:Int
 c:Int
 u:xU
def AD.cells(x:AD):List xU:=CM x.lf x.sq x.op x.a x.b x.c x.u
def ZX(b:ya)(x:AD):Prop:=(∃c a,Kk b QB 1 x.u c a)/\x.op<256
theorem fy{φ:Phi}{lf sq a b c:Int}{op:Nat}{d e:xU}(f:AEm φ d e):AE5 φ (CM lf sq op a b c d) (CM lf sq op a b c e):=
 .cons (.int _ _) (.cons (.int _ _) (.cons (.int _ _) (.cons (.int _ _) (.cons (.int _ _) (.cons (.int _ _) (.cons f .nil))))))
theorem kG{u:xU}{P Q:Prop}{i n m:Nat}(h:(u=AEk/\P)\/(u=.chan (BY 0)/\Q)\/u=.slice (BY ⟨i,0,By⟩) n m):oneCell u=IN:=by
 rcases h with ⟨rfl,_⟩|⟨rfl,_⟩|rfl<;>rfl
theorem RC{W:ya}:∀(xs:List AD),(∀x∈xs,ZX W x)->∀k:Nat,∃(us:List AD) (qs:List (Option Pl)) (Zs:List (List xU)),us.length=xs.length/\qs.length=xs.length/\Zs.length=xs.length/\
  (∀(i:Nat) (q:Option Pl) (L:List xU),qs[i]? =BY q->Zs[i]? =BY L->ZZ W L q/\∀φ,AE5 φ L L)/\(∀φ:Phi,(∀(i:Nat) (q:Option Pl),qs[i]? =BY q->φ (i+k)=q)->AE5 φ (us.flatMap AD.cells) (xs.flatMap AD.cells))/\
  (∀h:Hp,(∀(i:Nat) (L:List xU),Zs[i]? =BY L->h.Row (i+k) 0 L)->∀u∈us,∃l:List Nat,h.VE u.u (l.map bv)/\(∀x∈l,x<256)/\oneCell u.u=IN/\u.op<256)
 |[],_,k=>⟨[],[],[],rfl,rfl,rfl,(λi q L h=>by cases h),(λφ _=>.nil),λh _ x hx=>by cases hx⟩
 |x::xs,hx,k=>by
  obtain⟨us,qs,Zs,l1,l2,l3,h1,h2,h3⟩:=RC xs (λy hy=>hx y (xn _ hy)) (k+1);obtain⟨⟨n,LI,bI⟩,hop⟩:=hx x xp;obtain⟨ui,q0,i1,i2,i3,i4⟩:=bI.rel (by omega) (λl h φ=>mZ h φ) k;obtain⟨lb,hlb,hB⟩:=oB bI;refine⟨⟨x.lf,x.sq,x.op,x.a,x.b,x.c,ui⟩::us,q0::qs,LI.flatten::Zs,by rw[xh,xh,l1],by rw[xh,xh,l2],by rw[xh,xh,l3],λi q' L e1 e2=>?_,λφ hφ=>?_,λh hr y hy=>?_⟩
  ·match i,e1,e2 with
   |0,e1,e2=>cases e1;cases e2;exact⟨i1,i2⟩
   |i+1,e1,e2=>exact h1 i q' L e1 e2
  ·rw[AAM,AAM]
   refine(fy (i3 φ (by have:=hφ 0 q0 rfl;rwa [xZ]at this))).append (h2 φ λi q' e=>?_);have:=hφ (i+1) q' e
   rwa [show i+1+k=i+(k+1)by omega]at this
  ·rcases yC.1 hy with rfl|hy
   ·exact⟨lb,hB k ui i4 h (by have:=hr 0 _ rfl;rwa [xZ]at this),hlb,kG i4,hop⟩
   ·refine h3 h (λi L e=>?_) y hy
    have:=hr (i+1) L e
    rwa [show i+1+k=i+(k+1)by omega]at this
theorem YC(φ:Phi):∀a:List xU,AE5 φ (xx a.length (ABz By)) a
 |[]=>.nil
 |_::a=>.cons .unk (YC φ a)
def Za(d:ya)(φ:Phi)(a:List xU)(q:Option Pl):Prop:=q=By\/∃c b,q=BY (Sy c a.length)/\Me d c b/\AE5 φ a b
theorem ZZ.AK0{b:ya}{φ:Phi}{a:List xU}{q:Option Pl}(h:ZZ b a q)(r:AE5 φ a a):Za b φ a q:=by
 rcases h with h|⟨c,d,e⟩
 ·exact .inl h
 ·exact .inr ⟨c,a,d,e,r⟩
theorem eG{e:ya}{ty:TTy}{ps:List (Option Pl)}{b:List (List xU)}(k:b.length<=256)(s:ps.length=b.length)
  (h:∀(i:Nat) (q:Option Pl) (d:List xU),ps[i]? =BY q->b[i]? =BY d->Za e (PC ps) d q):AEp ty (PC ps) nil (inH b) e:=
 sQ k λi j a=>by
  have a:(ps[i]?).getD By=BY j:=a;cases c:ps[i]? with
  |none=>rw[c]at a;cases a
  |some q=>
   rw[c]at a;have a:q=BY j:=a;subst a;have r:=(yN.1 c).1;have f:=xc (l:=b) (i:=i) (by omega);rcases h i _ _ c f with h|⟨m,p,n,g,o⟩
   ·cases h
   ·obtain rfl:=Option.some.inj n
    exact⟨m,_,rfl,f,g.lt,dm g o⟩
theorem IW(xs:List AD):xs.flatMap AD.cells=(xs.map AD.cells).flatten:=by rw[List.flatMap_def]
theorem fz{W:ya}{v:xU}{n:Nat}{Ls:List (List xU)}(b:Kk W (λl=>∃x:AD,l=x.cells/\ZX W x) 7 v n Ls)(i k cap:Nat):
  ∃(u:xU) (q:Option Pl) (L0:List xU) (qs:List (Option Pl)) (Zs:List (List xU)),qs.length=min n cap/\Zs.length=min n cap/\
  (∀φ:Phi,φ i=q->(∀(j:Nat) (q':Option Pl),qs[j]? =BY q'->φ (j+k)=q')->Za W φ L0 q/\AEm φ u v)/\(∀(j:Nat) (q':Option Pl) (L:List xU),qs[j]? =BY q'->Zs[j]? =BY L->ZZ W L q'/\∀φ,AE5 φ L L)/\
  (∀h:Hp,h.Wf->h.Row i 0 L0->(∀(j:Nat) (L:List xU),Zs[j]? =BY L->h.Row (j+k) 0 L)->AI1 h u n cap):=by
 obtain⟨h1,h2,h3⟩:=b;rcases h3 with ⟨rfl,rfl⟩|⟨a,rfl,rfl⟩|⟨a,rfl,h4,h5,h6⟩
 ·have:n=0:=by simpa using h2
  subst this;exact⟨AEk,By,[],[],[],by simp,by simp,λφ _ _=>⟨.inl rfl,.AFZ⟩,(λj q' L h=>by cases h),λh _ _ _=>⟨λg=>rfl,λi hi=>absurd hi (AAn _)⟩⟩
 ·have:n=0:=by simpa using h2
  subst this;exact⟨.chan (BY 0),By,[],[],[],by simp,by simp,λφ _ _=>⟨.inl rfl,.AGx⟩,(λj q' L h=>by cases h),λh _ _ _=>⟨λg=>rfl,λi hi=>absurd hi (AAn _)⟩⟩
 ·obtain⟨xs,hxs⟩:∃xs:List AD,Ls=xs.map AD.cells/\∀x∈xs,ZX W x:=by
   clear h2 h4 h5 h6
   induction Ls with
   |nil=>exact⟨[],rfl,λx hx=>by cases hx⟩
   |cons l Ls ih=>
    obtain⟨_,x,rfl,hx⟩:=h1 l xp;obtain⟨xs,rfl,hxs⟩:=ih λl hl=>h1 l (xn _ hl)
    exact⟨x::xs,rfl,λy hy=>by
     rcases yC.1 hy with rfl|hy
     ·exact hx
     ·exact hxs y hy⟩
  obtain⟨rfl,hok⟩:=hxs;rw[xa]at h2 h4;have hml:(xs.take (min n cap)).length=min n cap:=by rw[yP];omega
  obtain⟨us,qs,Zs,l1,l2,l3,r1,r2,r3⟩:=RC (xs.take (min n cap)) (λx hx=>hok x (zJ hx)) k;have hsplit:(xs.map AD.cells).flatten=(xs.take (min n cap)).flatMap AD.cells++(xs.drop (min n cap)).flatMap AD.cells:=by
   rw[<- IW,<- AAg,zi]
  have hcl:∀(ys:List AD),∀l∈ys.map AD.cells,l.length=7:=λys l hl=>by
   obtain⟨x,_,rfl⟩:=zI.1 hl;rfl
  have ul:(us.flatMap AD.cells).length=(xs.take (min n cap)).length*7:=by rw[IW,Gr (hcl us),xa,l1]
  have vl:((xs.take (min n cap)).flatMap AD.cells).length=(xs.take (min n cap)).length*7:=by rw[IW,Gr (hcl _),xa]
  have AI2:(us.flatMap AD.cells++xx ((xs.drop (min n cap)).flatMap AD.cells).length (ABz By)).length=(xs.map AD.cells).flatten.length:=by
   rw[hsplit,xY,xY,yn,ul,vl]
  have hpos:0<(xs.map AD.cells).flatten.length:=by rw[Gr (hcl xs),xa];omega
  refine⟨.slice (BY ⟨i,0,By⟩) n (xs.map AD.cells).length,BY (Sy a (xs.map AD.cells).flatten.length),us.flatMap AD.cells++xx ((xs.drop (min n cap)).flatMap AD.cells).length (ABz By),qs,Zs,by rw[l2,hml],by rw[l3,hml],λφ hφ hq=>⟨.inr ⟨a,(xs.map AD.cells).flatten,by rw[AI2],h6,?_⟩,Xt h5 (by rw[xa];exact h2) (by rw[xa];exact h4) hpos hφ⟩,r1,λh Wh hrow AI3=>⟨λg=>EO,λj hj ALN=>?_⟩⟩
  ·rw[hsplit]
   exact(r2 φ hq).append (YC φ _)
  ·have hju:j<us.length:=by rw[l1,hml];omega
   have hx:us[j]? =BY (us[j]'hju):=xc hju;obtain⟨lb,hB,hlb,ou,ow⟩:=r3 h AI3 _ (AAF hju);refine⟨i,⟨(us[j]'hju).lf,(us[j]'hju).sq,(us[j]'hju).op,(us[j]'hju).a,(us[j]'hju).b,(us[j]'hju).c,(us[j]'hju).u,lb⟩,λg xg=>?_,hB,hlb,ou,ow⟩;have hm:(us.map AD.cells)[j]? =BY (us[j]'hju).cells:=by rw[zE,hx];rfl
   have hd:=Ox (xx ((xs.drop (min n cap)).flatMap AD.cells).length (ABz By)) (hcl us) hm;rw[<- IW]at hd;refine⟨?_,?_,?_⟩
   ·have:=Cy (h:=g) (n:=n) (c:=(xs.map AD.cells).length) (es:=7) (b:=i) (off:=0) (k:=.i64) hj
    rwa [xZ]at this
   ·rw[(hrow.ext Wh xg).loadN (by rw[xY,ul];omega),hd];rfl
   ·rw[(hrow.ext Wh xg).AEi (by rw[xY,ul];omega)]
    have h5:((us.flatMap AD.cells++xx ((xs.drop (min n cap)).flatMap AD.cells).length (ABz By)).drop (j*7)).take 7=(us[j]'hju).cells:=hd;have h6:=congrArg (λl=>l[6]?) h5;simp only[List.getElem?_take,List.getElem?_drop]at h6;rw[If (by omega)]at h6;rw[xe,h6];rfl
end
noncomputable section
open Go
section
variable {F:AEh}{e:Env}{h h':Hp}{T l B:List Nat}{m n p k tb:Nat}{u v w:xU}
theorem Vb(b:h.Wf)(R:h.Row tb 0 (T.map wv))(e:AFQ T)(a:h.VR u l)(d:Oe u)(f:∀x∈l,x<256)(g:l.length<=900000):
  ∃h',h.Ext h'/\ud T l h h' (call AC (n+3) 82 [pt tb,u] h):=by
 rcases a with a|⟨⟨j,rfl⟩,rfl⟩
 ·exact Po b R e a d f g
 ·have i:AFB (.chan (BY j)) h=.ok (AI AT 0) h:=rfl
  have c:iLt 0 4=IN:=H0 (by omega);refine⟨h,.refl b,.inr ⟨rfl,11,⟨by omega,rfl⟩,?_⟩⟩;rw[P3 rfl];unfold d82;simp only[iN,xV,sT,xT,sh,reduceIte,AX,i,AK,AJ,c,Av,CO]
def Hy(B:List Nat)(p:Nat):Option (List Nat×Nat):=match Fe 0 0 (B.drop p)with
 |none=>By
 |some (v,a)=>if v<=65536/\v<=B.length - (p+a)then BY ((B.drop (p+a)).take v,p+a+v)else By
theorem QK:gbQ=BB gbS gbE:=rfl
theorem QC:d86=au:=rfl
theorem bf(z:h.Wf)(M:Mk h k u B)(T:∀x∈B,x<256)(hp:p<=B.length)(hl:B.length<=900000):
  ∃h',h.Ext h'/\((∃o q w,Hy B p=BY (o,q)/\call AC (n+2) 86 [u,AI AT (p:Int),AI AT 65536] h=.ok (.tuple ⟨[w,AI AT (q:Int),AI AT 0]⟩) h'/\Mk h' h.next w o/\q<=B.length/\o.length<=65536)\/
   (Hy B p=By/\∃b c:Int,c≠0/\call AC (n+2) 86 [u,AI AT (p:Int),AI AT 65536] h=.ok (.tuple ⟨[AEk,AI AT b,AI AT c]⟩) h')):=by
 have N:=M.vals;have P:=N.bl h;obtain⟨r,b,c,C,V⟩:=Ub (n:=n) N T hp (by omega);have C:call AC (n+1) 84 [u,AI AT (p:Int)] h=.ok (.tuple ⟨[.int .u64 r,AI AT b,AI AT c]⟩) h:=C;have E:iLt 65536 0=IT:=FI (by omega);have L:Ct .u64 (AI AT 65536) h=.ok (.int .u64 ((65536:Nat):Int)) h:=by rw[Bu];exact congrArg (λa7=>R.ok (.int .u64 a7) h) (DJ (n:=65536) (by omega))
 rcases V with ⟨v,a,i,rfl,rfl,rfl⟩|⟨i,U⟩
 ·have hj:p+a<=B.length:=by
   have:=YB (λx j=>T x (zd j)) i;rw[yX]at this;omega
  have a1:Fp yi .i64 (AI AT (B.length:Int)) (AI AT ((p+a:Nat):Int)) h=.ok (AI AT ((B.length - (p+a):Nat):Int)) h:=by
   have:yi (B.length:Int) ((p+a:Nat):Int)=((B.length - (p+a):Nat):Int):=by
    show(B.length:Int) - ((p+a:Nat):Int)=_;omega
   rw[Cn,this,Bf (by omega)]
  have v1:Ct .u64 (AI AT ((B.length - (p+a):Nat):Int)) h=.ok (.int .u64 ((B.length - (p+a):Nat):Int)) h:=by rw[Bu,DJ (by omega)]
  have t:iNe 0 0=IT:=B0 rfl;obtain⟨d,K,s0,s9,s10,s2,s11,s12⟩:∃d,au (call AC (n+1)) (Au e0 0 [u,AI AT (p:Int),AI AT 65536]) h=gbQ (call AC (n+1)) d h/\J 0 d=u/\J 9 d=.int .u64 (v:Int)/\J 10 d=AI AT ((p+a:Nat):Int)/\J 2 d=AI AT 65536/\J 11 d=AI AT 0/\J 12 d=.int .u64 ((B.length - (p+a):Nat):Int):=by
   unfold au;simp only[iN,xV,sT,xT,sh,reduceIte,cA0,C,Aq,Az,A1,Bx,AX,P,B6,a1,Bi,v1];exact⟨_,rfl,by simp[AG]⟩
  by_cases S:v<=65536
  ·have c4:iGt (v:Int) ((65536:Nat):Int)=IT:=FW (by omega)
   by_cases A:v<=B.length - (p+a)
   ·have c5:iGt (v:Int) ((B.length - (p+a):Nat):Int)=IT:=FW (by omega)
    obtain⟨f,r1,t0,t9,t10⟩:∃f,gbS (call AC (n+1)) d h=.norm f h/\J 0 f=u/\J 9 f=.int .u64 (v:Int)/\J 10 f=AI AT ((p+a:Nat):Int):=by
     unfold gbS;simp only[sT,xT,sh,reduceIte,A7,Ap,Ay,Bt,s11,s2,s9,s12,AK,AJ,t,E,Bi,L,c4,c5];exact⟨_,rfl,by simp[AG,s0,s9,s10]⟩
    obtain⟨w0,⟨s,rfl⟩,a3,Y⟩:=Oq M hj;have a5:(B.drop (p+a)).length=B.length - (p+a):=yX;have H:((B.drop (p+a)).take v).length=v:=by rw[yP];omega
    have a4:∀(F:AEh) (e:Env) (x y:O),x e=.slice (BY s) (B.length - (p+a)) (B.length - (p+a))->y e=.int .u64 (v:Int)->Dr 5 1 x By (BY y) By F e h=.ok (.slice (BY s) v (B.length - (p+a))) h:=λF e x y j hy=>by
     have:=M5 (F:=F) (e:=e) (h:=h) (x:=x) (y:=W (AI AT (v:Int))) (el:=5) j rfl A;rw[<- this];show(match x e with|.slice r n c=>DY e n c By (BY y) By (λl I m=>ES 5 1 r IT l I m h)|_=>.no)=(match x e with|.slice r n c=>DY e n c By (BY (W (AI AT (v:Int)))) By (λl I m=>ES 5 1 r IT l I m h)|_=>.no);rw[j];show(match Db (y e)with|.ok n=>(bif yI n (B.length - (p+a))then _ else R.no)|.no=>R.no)=(match Db (AI AT (v:Int))with|.ok n=>(bif yI n (B.length - (p+a))then _ else R.no)|.no=>R.no);rw[hy];rfl
    have Z:h.AE7 (.slice (BY s) ((B.drop (p+a)).take v).length (B.length - (p+a))) (((B.drop (p+a)).take v).map bv):=by
     rcases Y with ⟨j,_⟩|⟨b,a6,c',el,o,d,f,e3,Q⟩
     ·cases j
     ·injection d with G a8 a9
      injection G with G
      rw[xa,a5]at e3 Q;refine .inr ⟨b,a6,B.length - (p+a),el,o,by rw[xa,G],f,by rw[xa,H];omega,?_⟩;rw[xa,H,ACD,<- Q,List.take_take,Nat.min_eq_left A]
    obtain⟨g,w,D,x2,X⟩:=Mz (n:=n) z Z (by omega);rw[H]at D;have D:call AC (n+1) 90 [.slice (BY s) v (B.length - (p+a))] h=.ok w g:=D;have ln:AFB (.slice (BY s) v (B.length - (p+a))) g=.ok (AI AT (v:Int)) g:=rfl;have a2:GC .i64 (AI AT ((p+a:Nat):Int)) (AI AT (v:Int)) g=.ok (AI AT ((p+a+v:Nat):Int)) g:=by
     rw[EQ,show((p+a:Nat):Int)+(v:Int)=((p+a+v:Nat):Int)by omega,Bf (by omega)]
    refine⟨g,x2,.inl ⟨_,_,w,by unfold Hy;rw[i];simp only;rw[If ⟨S,A⟩],?_,X,by omega,by omega⟩⟩;rw[P5 rfl,QC,K,QK,A7,r1,Ay];unfold gbE;simp only[sT,xT,sh,reduceIte,a3 _ _ _ _ t0 t10,a4,t9,cA0,D,AX,ln,t10,BW,a2,Av,Eh]
   ·have c5:iGt (v:Int) ((B.length - (p+a):Nat):Int)=IN:=GM (by omega)
    refine⟨h,.refl z,.inr ⟨by unfold Hy;rw[i];simp only;rw[No (λh=>A h.2)],0,11,by omega,?_⟩⟩;rw[P5 rfl,QC,K,QK];unfold gbS;simp only[sT,xT,sh,reduceIte,A7,Ap,Ay,Bt,s11,s2,s9,s12,AK,AJ,t,E,Bi,L,c4,c5,CE,Cr,Av,Eh]
  ·have c4:iGt (v:Int) ((65536:Nat):Int)=IN:=GM (by omega)
   refine⟨h,.refl z,.inr ⟨by unfold Hy;rw[i];simp only;rw[No (λh=>S h.1)],0,3,by omega,?_⟩⟩;rw[P5 rfl,QC,K,QK];unfold gbS;simp only[sT,xT,sh,reduceIte,A7,Ap,Ay,Bt,s11,s2,s9,s12,AK,AJ,t,E,Bi,L,c4,CE,Cr,Av,Eh]
 ·have t:iNe c 0=IN:=EG U
  refine⟨h,.refl z,.inr ⟨by unfold Hy;rw[i],0,c,U,?_⟩⟩;rw[P5 rfl,QC];unfold au;simp only[iN,xV,sT,xT,sh,reduceIte,cA0,C,Aq,Az,A1,Bx,AX,P,B6,Cn,Bi,Bu];rw[QK];unfold gbS;simp only[sT,xT,sh,reduceIte,A7,Ap,AK,AJ,t,CE,Cr,Av,Eh]
end
def FE(q:Nat)(B:List Nat):Bool:= !decide (B[0]? =BY q)
def nx(B:List Nat)(most:Nat)(s:Bool×Nat):Nat×(Bool×Nat):=if s.1 then(0,s)else match Fe 0 0 (B.drop s.2)with
 |some (v,a)=>if v<=most then(v,(IT,s.2+a))else(0,(IN,s.2))
 |none=>(0,(IN,s.2))
def Ey(B:List Nat)(s:Bool×Nat):Bool×List Nat:=if s.1 then(IT,[])else match Hy B s.2 with
 |some (a,b)=>(decide (b=B.length),a)
 |none=>(IT,[])
structure Rdr (h:Hp)(r9 r11 r12 k:Nat)(v:xU)(B:List Nat)(s:Bool×Nat):Prop where
 m:Mk h k v B
 R9:h.Row r9 0 [v]
 R11:h.Row r11 0 [AI AT (s.2:Int)]
 R12:h.Row r12 0 [.bool s.1]
 ne:r9≠r11/\r9≠r12/\r11≠r12/\256<=r11/\256<=r12
 vb:∀b,AE1 v b->b≠r11/\b≠r12
 ok:s.1=IT->s.2<=B.length
 b8:∀x∈B,x<256
 ln:B.length<=900000
section
variable {h h':Hp}{B:List Nat}{m n k r r9 r11 r12 most:Nat}{v w:xU}{s:Bool×Nat}
theorem QY(M:Mk h k v B){b:Nat}(f:AE1 v b):∃el c,h.Row b el c:=by
 obtain⟨g,el,d,_,e,_⟩:=M;obtain⟨j,l,i,a⟩:=f;rw[d]at a;injection a with a
 injection a with a
 injection a with a
 exact⟨el,_,a ▸ e⟩
theorem Mk.keep(M:Mk h k v B)(hk:∀b el a,AE1 v b->h.Row b el a->h'.Row b el a):Mk h' k v B:=by
 obtain⟨b,el,c,d,e,f⟩:=M;exact⟨b,el,c,d,hk _ _ _ ⟨0,_,_,c⟩ e,f⟩
theorem Rdr.ext(D:Rdr h r9 r11 r12 k v B s)(a:h.Wf)(y:h.Ext h'):Rdr h' r9 r11 r12 k v B s:=⟨D.m.ext a y,D.R9.ext a y,D.R11.ext a y,D.R12.ext a y,D.ne,D.vb,D.ok,D.b8,D.ln⟩
theorem Mu{a:List xU}(e:h.Wf)(R:h.Row r 0 a)(f:a.length=1)(i:256<=r)(c:cellsOf w=[w])(h2:oneCell w=IN):
  ∃h',AEn 1 (pt r) w h=.ok AEl h'/\h'.Row r 0 [w]/\Fx (λb=>b=r) h h'/\h'.high=max h.high r:=by
 have d:0+[w].length<=a.length:=by rw[f];exact xW _
 have j:Bc [w]=IN:=by
  show(bif oneCell w then IN else IT)=IN;rw[h2];rfl
 have g:=R.AEn (n:=1) (off:=0) e i (v:=w) (by rw[c];rfl) (by rw[c];exact d) (by rw[c];exact j);rw[c]at g;have wr:=R.AEt e d;rw[EW (show a.length=[w].length from f)]at wr;refine⟨_,g,wr,Fx.wr e R d rfl,?_⟩;obtain⟨_,_,k,_⟩:=R.AFt d;rw[k];exact B8 _ _
theorem Di(R:h.Row r 0 [w]):AEi ⟨r,0,By⟩ h=.ok w h:=R.AEi (off:=0) (by show 0<1;omega)
theorem GR(e:h.Wf)(D:Rdr h r9 r11 r12 k v B s)(hm:most<=1099511627776):
  ∃h',call AC (n+2) 83 [AI AT (most:Int),pt r12,pt r9,pt r11] h=.ok (AI AT ((nx B most s).1:Int)) h'/\Fx (λb=>b=r11\/b=r12) h h'/\Rdr h' r9 r11 r12 k v B (nx B most s).2/\(nx B most s).1<=most/\h'.high<=max h.high (max r11 r12):=by
 obtain⟨M,a⟩:=s;have u:AEi ⟨r12,0,By⟩ h=.ok (.bool M) h:=Di D.R12;obtain⟨Z,K,F,n4,L⟩:=D.ne;cases M
 ·have W:a<=B.length:=D.ok rfl
  have E:AEi ⟨r9,0,By⟩ h=.ok v h:=Di D.R9;have C:AEi ⟨r11,0,By⟩ h=.ok (AI AT (a:Int)) h:=Di D.R11;obtain⟨H,b,q,p,N⟩:=Ub (n:=n) D.m.vals D.b8 W (by have:=D.ln;omega);have p:call AC (n+1) 84 [v,AI AT (a:Int)] h=.ok (.tuple ⟨[.int .u64 H,AI AT b,AI AT q]⟩) h:=p;have J:Ct .u64 (AI AT (most:Int)) h=.ok (.int .u64 (most:Int)) h:=by rw[Bu,DJ (by omega)]
  have I:nx B most (IT,a)=(0,(IN,a))->(∃G:Bool,(q≠0/\G=IN)\/(q=0/\G=IN/\iGt H (most:Int)=IN))->∃h',call AC (n+2) 83 [AI AT (most:Int),pt r12,pt r9,pt r11] h=.ok (AI AT ((nx B most (IT,a)).1:Int)) h'/\Fx (λb=>b=r11\/b=r12) h h'/\Rdr h' r9 r11 r12 k v B (nx B most (IT,a)).2/\(nx B most (IT,a)).1<=most/\h'.high<=max h.high (max r11 r12):=λm X=>by
   rw[m];obtain⟨f,y,i,c,Y⟩:=Mu (w:=.bool IN) e D.R12 rfl L rfl rfl;have x:AEi ⟨r12,0,By⟩ f=.ok (.bool IN) f:=Di i;refine⟨f,?_,c.mono λb d=>.inr d,⟨D.m.keep λb S O d r=>c.row e r (D.vb b d).2,c.row e D.R9 K,c.row e D.R11 F,i,D.ne,D.vb,(λh=>by cases h),D.b8,D.ln⟩,yH _,by omega⟩;rw[UE rfl];unfold d83;rcases X with ⟨G,⟨T,_⟩|⟨rfl,_,f⟩⟩
   ·have j:iNe q 0=IN:=EG T
    simp only[iN,xV,sT,xT,sh,reduceIte,gD,AN,AQ,u,E,C,cA0,p,Aq,Az,A1,Bx,AK,AJ,j,AW,y,x,lV0];rfl
   ·have j:iNe 0 0=IT:=B0 rfl
    simp only[iN,xV,sT,xT,sh,reduceIte,gD,AN,AQ,u,E,C,cA0,p,Aq,Az,A1,Bx,AK,AJ,j,Bi,J,f,AW,y,x,lV0];rfl
  rcases N with ⟨g,A,l,rfl,rfl,rfl⟩|⟨l,U⟩
  ·have V:a+A<=B.length:=by
    have:=YB (λg o=>D.b8 g (zd o)) l;rw[yX]at this;omega
   by_cases o:g<=most
   ·have m:nx B most (IT,a)=(g,(IT,a+A)):=by
     unfold nx;simp only[l];rw[No (by decide),If o]
    rw[m];have j:iNe 0 0=IT:=B0 rfl;have Q:iGt (g:Int) (most:Int)=IT:=FW (by omega);obtain⟨f,y,i,c,Y⟩:=Mu (w:=.bool IT) e D.R12 rfl L rfl rfl;have x:AEi ⟨r12,0,By⟩ f=.ok (.bool IT) f:=Di i;obtain⟨z,a0,P,t,m3⟩:=Mu (w:=AI AT ((a+A:Nat):Int)) c.wf (c.row e D.R11 F) rfl n4 rfl rfl;have R:Ct .i64 (.int .u64 (g:Int)) z=.ok (AI AT (g:Int)) z:=by rw[Bu,Bf (by omega)]
    refine⟨z,?_,(c.mono λb d=>.inr d).trans (t.mono λb d=>.inl d),⟨D.m.keep λb S O d r=>t.row c.wf (c.row e r (D.vb b d).2) (D.vb b d).1,t.row c.wf (c.row e D.R9 K) Z,P,t.row c.wf i (λh=>F h.symm),D.ne,D.vb,λ_=>V,D.b8,D.ln⟩,o,by omega⟩;rw[UE rfl];unfold d83;simp only[iN,xV,sT,xT,sh,reduceIte,gD,AN,AQ,u,E,C,cA0,p,Aq,Az,A1,Bx,AK,AJ,j,Bi,J,Q,AW,y,x,a0,R,lV0]
   ·refine I ?_ ⟨IN,.inr ⟨rfl,rfl,GM (by omega)⟩⟩
    unfold nx;simp only[l];rw[No (by decide),No o]
  ·refine I ?_ ⟨IN,.inl ⟨U,rfl⟩⟩
   unfold nx;simp only[l];rfl
 ·have m:nx B most (IN,a)=(0,(IN,a)):=rfl
  rw[m];refine⟨h,?_,.refl e,D,yH _,by omega⟩;rw[UE rfl];unfold d83;simp only[iN,xV,sT,xT,sh,reduceIte,AN,AQ,u,lV0];rfl
theorem bR(e:h.Wf)(D:Rdr h r9 r11 r12 k v B s):
  ∃h' w,call AC (n+3) 85 [pt r12,pt r9,pt r11] h=.ok (.tuple ⟨[w,.bool (Ey B s).1]⟩) h'/\h.Ext h'/\(Mk h' h.next w (Ey B s).2\/(w=AEk/\(Ey B s).2=[])):=by
 obtain⟨p,c⟩:=s;have j:AEi ⟨r12,0,By⟩ h=.ok (.bool p) h:=Di D.R12;cases p
 ·have A:c<=B.length:=D.ok rfl
  have m:AEi ⟨r9,0,By⟩ h=.ok v h:=Di D.R9;have l:AEi ⟨r11,0,By⟩ h=.ok (AI AT (c:Int)) h:=Di D.R11;obtain⟨a,q,⟨t,d,w,g,i,u,G,_⟩|⟨g,F,x,z,i⟩⟩:=bf (n:=n) e D.m D.b8 A D.ln
  ·have b:Ey B (IT,c)=(decide (d=B.length),t):=by
    unfold Ey;simp only[g];rw[No (by decide)]
   rw[b];have r:=q.marked;have C:AEi ⟨r9,0,By⟩ a.marked=.ok v a.marked:=Di (D.R9.ext e r);have f:iEq 0 0=IN:=CP rfl;have E:=D.m.vals.bl a.marked;have y:iEq (d:Int) (B.length:Int)=decide (d=B.length):=by
    rw[Dv];by_cases o:d=B.length
    ·simp[o]
    ·simp[o]
     omega
   refine⟨a.marked,w,?_,r,.inl (u.same rfl)⟩;rw[UF rfl];unfold d85;simp only[iN,xV,sT,xT,sh,reduceIte,gD,AN,AQ,j,m,l,cA0,i,Aq,Az,A1,Bx,Aw,AK,AJ,f,C,AX,E,y,Av,CO]
  ·have b:Ey B (IT,c)=(IT,[]):=by
    unfold Ey;simp only[g];rfl
   rw[b];have f:iEq x 0=IT:=CF z;refine⟨a.marked,AEk,?_,q.marked,.inr ⟨rfl,rfl⟩⟩;rw[UF rfl];unfold d85;simp only[iN,xV,sT,xT,sh,reduceIte,gD,AN,AQ,j,m,l,cA0,i,Aq,Az,A1,Bx,Aw,AK,AJ,f,Av,CO]
 ·have b:Ey B (IN,c)=(IT,[]):=rfl
  rw[b];refine⟨h,AEk,?_,.refl e,.inr ⟨rfl,rfl⟩⟩;rw[UF rfl];unfold d85;simp only[iN,xV,sT,xT,sh,reduceIte,AN,AQ,j,Av,CO]
end
theorem wY:li.zero=[.pointer By,.pointer By,.pointer By,AI AT 0]:=by kernel_rfl
section
variable {F:AEh}{e:Env}{h h':Hp}{A:At}{T M:List Nat}{c0 bad m k nb r bd bs tb:Nat}{arm AEr:Int}{ks:List Kt}{fr:List Nat}{v lv fv:xU}{ov:Bool}
theorem wm:wd [] [0,1,2,3,4,5,6,7]:=⟨List.nodup_nil,.refl _⟩
theorem vG:Med T cX [] [0,1,2,3,4,5,6,7]:=by
 refine⟨yn,λk a=>(by cases a),λk a=>(by cases a),λc _ r _=>TH,λk a=>(by cases a),λc b=>?_⟩;simp only[yC,AAu,or_false]at b;omega
theorem jV(g:h.Wf)(d:h.Row nb 0 (AE3 A.bd A.tb A.bs AEr))(s:Sl h A T M c0 arm ks fr lv fv bad ov):∃h' v,call AC (m+5) 17 [pt nb] h=.ok v h'/\h.Ext h'/\h'.AL h.next v ks:=by
 obtain⟨_,_,j,_⟩:=CG d;have k:∀e:Env,J 0 e=pt nb->oEq Qy.k IT (J 0) (W (.pointer By)) (call AC (m+4)) e h=.ok (.bool IT) h:=λe i=>GU fM i
 obtain⟨b,c,a,l,f⟩:=Vv (m:=m) g s.row s.ls (Sl.all s) s.le.1;have a:call AC (m+4) 40 [pt A.bs] h=.ok c b:=a;refine⟨b,c,?_,l,f⟩;rw[oM rfl];unfold d17;simp only[iN,xV,sT,xT,sh,reduceIte,k,Ax,Am,AH,AO,xZ,AN,AQ,j,cA0,a,lV0]
theorem nz{g1 g2 g3:O}(a:g1 e=pt bd)(h2:g2 e=pt tb)(b:g3 e=pt bs):BG li.zero [(0,1,g1),(1,1,g2),(2,1,g3)] F e h=.ok (.agg ⟨AE3 bd tb bs 0⟩) h:=by
 rw[CX,wY,Ad (hk:=by rw[a];rfl),a,Ad (hk:=by rw[h2];rfl),h2,Ad (hk:=by rw[b];rfl),b];rfl
end
structure Ctx (h0:Hp)(A:At)(nb kk:Nat):Prop where
 W0:h0.Wf
 hD:∀b,A.D b->h0.next<=b/\b<nb
 n24:A.n=24
 nb0:h0.next<=nb
 kk:nb<kk
 tb:A.tb≠nb
section
variable {F:AEh}{e:Env}{h:Hp}{n r:Nat}{b c z:Int}{v u:xU}{xs:List Ak}
theorem Jk(c:h.Wf){z:VT}{a vs:List xU}(o:Bs .mt 0 a=BY z)(f:a.length=7)(i:vs.length=7)(l:Bc vs=IN):
  ∃g1 g2,(∀(F:AEh) (e:Env),BN 7 z F e h=.ok (pt h.next) g1)/\AEn 7 (pt h.next) (.agg ⟨vs⟩) g1=.ok AEl g2/\h.Ext g2/\g2.Row h.next 0 vs/\h.next<g2.next:=by
 have j:=λ(F:AEh) (e:Env)=>BO (F:=F) (e:=e) c (n:=7) (t:=z)
 have b:=Hp.Row.alloc c o f;have d:h.Ext (h.push (.cells z 7 0)):=(Hp.Ext.refl c).push _;generalize h.push (.cells z 7 0)=m at j b d;have big:=c.big;have g:0+vs.length<=a.length:=by rw[f,i];exact xW _
 have p:=b.AEn (n:=7) (off:=0) d.wf (by omega) (v:=.agg ⟨vs⟩) i g l;have wr:=b.AEt d.wf g;rw[EW (show a.length=vs.length by rw[f,i])]at wr;have k:=b.AFC d (xW _) g;exact⟨m,_,j,p,k,wr,wr.lt k.wf⟩
theorem Hp.VE.lt{xs:List xU}(e:h.VE u xs)(f:h.Wf):∀b,AE1 u b->b<h.next:=λb ⟨m,n,c,a⟩=>by
 rcases e with (⟨d,_⟩|⟨j,o,k,l,i,d,g,_⟩)|⟨⟨r,d⟩,_⟩
 ·rw[d]at a;cases a
 ·rw[d]at a
  injection a with a
  injection a with a
  injection a with a
  rw[<- a];exact g.lt f
 ·rw[d]at a;cases a
end
theorem fb:OK.zero=CM 0 0 0 0 0 0 AEk:=by kernel_rfl
def bz(n:Int):Prop:= -9223372036854775808<=n/\n<=9223372036854775807
theorem Uh{n:Int}(h:bz n):inK .i64 n=IN:=by
 cases n with
 |ofNat a=>exact As.2 (by have:=h.2;show a<=9223372036854775807;simp at this;omega)
 |negSucc a=>exact As.2 (by have:=h.1;show a<=9223372036854775807;omega)
theorem vB{n:Int}(h:0<=n/\n<=255):inK .u8 n=IN:=by
 obtain⟨a,rfl⟩:=zn h.1;exact As.2 (by show a<=255;omega)
def Tm(x:Kt):Prop:=bz x.a/\bz x.b/\bz x.c/\x.s<=255
theorem rU{F:AEh}{e:Env}{h:Hp}{g1 g2:O}{x:Kt}(o:Tm x)(c:g1 e=DF x)(h2:g2 e=DF x):OX ⟨IN,[.i .i64,.i .i64,.i .i64,.i .u8]⟩ IN g1 g2 F e h=.ok (.bool IT) h:=by
 have f4:Gc ⟨IN,[.i .i64,.i .i64,.i .i64,.i .u8]⟩ (DF x)=IN:=by
  show(match (match Dz .i64 .i64 with|true=>inK .i64 x.a|false=>IT)with|true=>(match (match Dz .i64 .i64 with|true=>inK .i64 x.b|false=>IT)with|true=>(match (match Dz .i64 .i64 with|true=>inK .i64 x.c|false=>IT)with|true=>(match (match Dz .u8 .u8 with|true=>inK .u8 (x.s:Int)|false=>IT)with|true=>IN|false=>IT)|false=>IT)|false=>IT)|false=>IT)=IN;rw[Uh o.1,Uh o.2.1,Uh o.2.2.1,vB ⟨Int.natCast_nonneg _,by have:=o.2.2.2;omega⟩];rfl
 have d:Gw ⟨IN,[.i .i64,.i .i64,.i .i64,.i .u8]⟩ (DF x) (DF x)=BY IN:=by
  unfold Gw;rw[f4];show(match (match Dz .i64 .i64 with|true=>BY (iEq x.a x.a)|false=>By)with|some IN=>(match (match Dz .i64 .i64 with|true=>BY (iEq x.b x.b)|false=>By)with|some IN=>(match (match Dz .i64 .i64 with|true=>BY (iEq x.c x.c)|false=>By)with|some IN=>(match (match Dz .u8 .u8 with|true=>BY (iEq (x.s:Int) (x.s:Int))|false=>By)with|some IN=>BY IN|some IT=>BY IT|none=>By)|some IT=>BY IT|none=>By)|some IT=>BY IT|none=>By)|some IT=>BY IT|none=>By)=BY IN;rw[CP (a:=x.a) rfl,CP (a:=x.b) rfl,CP (a:=x.c) rfl,CP (a:=(x.s:Int)) rfl];rfl
 show(match eqC ⟨IN,[.i .i64,.i .i64,.i .i64,.i .u8]⟩ (g1 e) (g2 e)with|some b=>okB (IN != b) h|none=>.no)=_;rw[c,h2];unfold eqC;rw[f4];show(match Gw ⟨IN,[.i .i64,.i .i64,.i .i64,.i .u8]⟩ (DF x) (DF x)with|some b=>okB (IN != b) h|none=>.no)=_;rw[d];exact FU
section
variable {F:AEh}{e:Env}{h h':Hp}{k n r op:Nat}{err room:Int}{ks:List Kt}{u v iv bw:xU}{x:Kt}
theorem aJ{n:Nat}(c:h.Wf){z:VT}{a vs:List xU}(o:Bs .mt 0 a=BY z)(f:a.length=n)(i:vs.length=n)(l:Bc vs=IN):
  ∃g1 g2,(∀(F:AEh) (e:Env),BN n z F e h=.ok (pt h.next) g1)/\AEn n (pt h.next) (.agg ⟨vs⟩) g1=.ok AEl g2/\h.Ext g2/\g2.Row h.next 0 vs/\h.next<g2.next:=by
 have j:=λ(F:AEh) (e:Env)=>BO (F:=F) (e:=e) c (n:=n) (t:=z)
 have b:=Hp.Row.alloc c o f;have d:h.Ext (h.push (.cells z n 0)):=(Hp.Ext.refl c).push _;generalize h.push (.cells z n 0)=m at j b d;have big:=c.big;have g:0+vs.length<=a.length:=by rw[f,i,xZ];exact xW _
 have p:=b.AEn (n:=n) (off:=0) d.wf (by omega) (v:=.agg ⟨vs⟩) i g l;have wr:=b.AEt d.wf g;rw[EW (show a.length=vs.length by rw[f,i])]at wr;have k:=b.AFC d (xW _) g;exact⟨m,_,j,p,k,wr,wr.lt k.wf⟩
theorem Ws:∀(ks:List Kt) (i:Nat) (k:Kt),ks[i]? =BY k->((flI ks).drop (i*4)).take 4=Bv k
 |[],i,k,h=>by cases h
 |x::ks,0,k,h=>by
  have h:BY x=BY k:=h;cases h;rfl
 |x::ks,i+1,k,h=>by
  show((Bv x++flI ks).drop ((i+1)*4)).take 4=_;rw[ADZ,ym (show(Bv x).length<=_ by show 4<=_;omega),yT,show(i+1)*4 - (Bv x).length=i*4 by show(i+1)*4 - 4=_;omega];exact Ws ks i k h
theorem Hp.IL.ext(o:h.IL k v ks)(b:h.Wf)(y:h.Ext h'):h'.IL k v ks:=by
 rcases o with a|⟨c,a,d,e⟩
 ·exact .inl a
 ·exact .inr ⟨c,a,d.ext b y,e⟩
theorem KX{lf sq:Int}(hi:oneCell iv=IN)(a:oneCell bw=IN):Bc (B9 lf sq op err iv bw room)=IN:=by
 show(bif oneCell iv then(bif oneCell bw then IN else IT)else IT)=IN;rw[hi,a];rfl
theorem uO{xs:List xU}(a:h.VE u xs):known u=IN/\cellsOf u=[u]/\oneCell u=IN:=by
 rcases a with a|⟨⟨r,rfl⟩,_⟩
 ·exact Kb a
 ·exact⟨rfl,rfl,rfl⟩
theorem Hp.VE.str{l:List Nat}(a:h.VE u (l.map bv)):tw u h=.ok (.string ⟨⟨l.map UInt8.ofNat⟩⟩) h:=by
 rcases a with a|⟨⟨r,rfl⟩,b⟩
 ·exact a.bytes.str
 ·rw[AAd.1 b];rfl
theorem tZ{n:Nat}{a:List Nat}(d:h.AE7 u (a.map bv))(e:h.VE v (a.map bv))(b:∀x∈a,x<256):call AC (n+1) 50 [u,v] h=.ok (.bool IN) h:=by
 have c:=Mj b b;rw[decide_eq_true rfl]at c;rw[aB rfl];unfold d50;simp only[iN,xV,sT,xT,sh,reduceIte,Im,d.bytes.str,e.str,MS,MK,c,lV0]
end
theorem tY:reM=ZB:=rfl
theorem ag:d51=ai:=rfl
theorem mE:Bs .mt 0 [yy .i64 0]=BY zt3:=by kernel_rfl
theorem mF:Bs .mt 0 [ADe IT]=BY zt4:=by kernel_rfl
def six(B:List Nat):(Nat×Nat×Nat×Nat×Nat×Nat)×(Bool×Nat):=
 let a:=nx B 1099511627776 (FE 1 B,1)
 let b:=nx B 1099511627776 a.2
 let c:=nx B 9 b.2
 let d:=nx B 1099511627776 c.2
 let e:=nx B 255 d.2
 let f:=nx B 1099511627776 e.2
 ((a.1,b.1,c.1,d.1,e.1,f.1),f.2)
def Je(T l:List Nat):Int:=match C3 T l with
 |none=>unC l
 |some a=>if(Ey a (six a).2).1 && Ca (six a).1.1 (six a).1.2.1 (six a).1.2.2.1 (six a).1.2.2.2.1 (six a).1.2.2.2.2.1 (six a).1.2.2.2.2.2 (Ey a (six a).2).2.length then 0 else 110
def ZY(B:List Nat)(lf sq:Int)(op:Nat)(a b c:Int)(d:List Nat):Prop:=lf=((six B).1.1:Int)/\sq=((six B).1.2.1:Int)/\op=(six B).1.2.2.1/\a=((six B).1.2.2.2.1:Int)/\b=((six B).1.2.2.2.2.1:Int)/\c=((six B).1.2.2.2.2.2:Int)/\d=(Ey B (six B).2).2
section
variable {F:AEh}{e:Env}{h h':Hp}{T l B:List Nat}{n k tb r r9 r11 r12:Nat}{a b c:Int}{u v:xU}
theorem VH{a:List xU}(f:h.Wf)(R:h.Row r 0 a)(i:a.length=1)(k:256<=r)(c:cellsOf v=[v])(h2:oneCell v=IN):
  ∃h',(∀(F:AEh) (e:Env) (g1 g2:O),g1 e=pt r->g2 e=v->Ac .free (AZ 1 g1 g2) F e h=.ok AEl h')/\Fx (λb=>b=r) h h'/\h'.Row r 0 [v]:=by
 have d:h.quiet.Row r 0 a:=R.same rfl;have g:0+[v].length<=a.length:=by rw[i];exact xW _
 have o:Bc [v]=IN:=by
  show(bif oneCell v then IN else IT)=IN;rw[h2];rfl
 have j:=d.AEn (n:=1) (off:=0) f.quiet k (v:=v) (by rw[c];rfl) (by rw[c];exact g) (by rw[c];exact o);rw[c]at j;have wr:=d.AEt f.quiet g;rw[EW (show a.length=[v].length from i)]at wr;exact⟨_,λF e g1 g2 l m=>BF (by rw[AW,l,m];exact j),Fx.back (Fx.wr f.quiet d g rfl),wr.same rfl⟩
theorem oE{x y z:O}{k:C}{a b i j:Nat}(g:x e=.pointer (BY ⟨a,i,By⟩))(l:y e=.pointer (BY ⟨b,j,By⟩))(d:b≠a)(m:∀c,AE9 (z e)=.ok c->c≠a):Ci x [y,z] k F e h=k F e h:=by
 have n:yA b a=IT:=by
  cases e:yA b a
  ·rfl
  ·exact absurd (A0.1 e) d
 unfold Ci;rw[g];show(bif Ch a e [y,z]then k F e h else .no)=_;have:Ch a e [y,z]=IN:=by
  unfold Ch;rw[l];show(bif yA b a then IT else Ch a e [z])=IN;rw[n];show Ch a e [z]=IN;unfold Ch;cases f:AE9 (z e)with
  |no=>rfl
  |ok c=>
   simp only;have o:yA c a=IT:=by
    cases e:yA c a
    ·rfl
    ·exact absurd (A0.1 e) (m c f)
   rw[o];rfl
 rw[this];rfl
theorem tX(f:h.Wf)(M:Mk h k v B)(hk:k<=h.next)(u:h.Row r9 0 [v])(a4:∀b,AE1 v b->b≠r9)(Q:h.mark<=h.next)(b8:∀x∈B,x<256)(R:B.length<=900000){g:Bool}(P:g=IT->1<=B.length)(s9:J 9 e=pt r9)(Y:∀c,AE9 (J 29 e)=.ok c->c<h.next)(Z:J 33 e=.bool g):
  ∃a h' r11 r12,reA F e h=.ret a h'/\J 6 a=.func (.func 83) ⟨[]⟩ ⟨[pt r12,pt r9,pt r11]⟩/\J 7 a=.func (.func 85) ⟨[]⟩ ⟨[pt r12,pt r9,pt r11]⟩/\J 8 a=AI AT 0/\h.Ext h'/\Rdr h' r9 r11 r12 k v B (g,1)/\h.next<=r11/\h.next<=r12:=by
 have big:=f.big;obtain⟨m,I,j,t,S⟩:=Ho f mE (show [yy .i64 0].length=1 from rfl) Q;have z:=j.next;have a6:=u.lt f;have a5:=t.lt j.wf;obtain⟨w,K,n,E,m2⟩:=Ho j.wf mF (show [ADe IT].length=1 from rfl) (by rw[S];omega);obtain⟨O,a0,o,m3,a7,l⟩:=NL (v:=AI AT 1) n.wf (t.ext j.wf n) (off:=0) (by show 0<1;omega) (by omega) rfl rfl;have o:O.Row h.next 0 [AI AT 1]:=o;have G:=l.row n.wf E (by omega);obtain⟨q,a1,f4,H⟩:=VH (v:=.bool g) l.wf G rfl (by omega) rfl rfl;have s:h.Ext q:=Fx.xtF (Fx.xtF (j.trans n) l λb d=>by rw[d];exact xW _) f4 λb d=>by rw[d];exact z
 have A:=λ(F:AEh) (e:Env) (i:J 11 e=pt h.next)=>a0 F e (J 11) (W (AI AT 1)) i rfl
 have D:=λ(F:AEh) (e:Env) (i:J 12 e=pt m.next) (p:J 33 e=.bool g)=>a1 F e (J 12) (J 33) i p
 have L:∀{k:C} {F:AEh} {a:Env},J 11 a=pt h.next->J 9 a=pt r9->J 29 a=J 29 e->Ci (J 11) [J 9,J 29] k F a w=k F a w:=λi p N=>oE i p (by omega) λc y=>by
  rw[N]at y;have:=Y c y;omega
 have a2:∀b,AE1 v b->b<h.next:=λb d=>by
  obtain⟨el,a3,r⟩:=QY M d;exact r.lt f
 refine(show ∃a,reA F e h=.ret a q/\J 6 a=.func (.func 83) ⟨[]⟩ ⟨[pt m.next,pt r9,pt h.next]⟩/\J 7 a=.func (.func 85) ⟨[]⟩ ⟨[pt m.next,pt r9,pt h.next]⟩/\J 8 a=AI AT 0 from ?_).elim λa ⟨T,U,V,X⟩=>⟨a,q,h.next,m.next,T,U,V,X,s,⟨M.ext f s,u.ext f s,f4.row l.wf o (by omega),H,⟨by omega,by omega,by omega,by omega,by omega⟩,λb d=>by
   have:=a2 b d;omega,P,b8,R⟩,xW _,z⟩
 unfold reA;simp only[sT,xT,sh,reduceIte,I,K,s9,Z,L,A,D,Dx,AV,A4];exact⟨_,rfl,by simp[AG]⟩
theorem PY{q:Nat}(Y:h.Wf)(R:h.Row tb 0 (T.map wv))(hT:AFQ T)(a1:h.VR u l)(hC:Oe u)(z:∀x∈l,x<256)(hl:l.length<=900000):
  ∃h',h.Ext h'/\((∃B r9 r11 r12 k v,C3 T l=BY B/\call AC (n+4) 51 [pt tb,u,.int .u8 (q:Int)] h=.ok (.tuple ⟨[.func (.func 83) ⟨[]⟩ ⟨[pt r12,pt r9,pt r11]⟩,.func (.func 85) ⟨[]⟩ ⟨[pt r12,pt r9,pt r11]⟩,AI AT 0]⟩) h'/\Rdr h' r9 r11 r12 k v B (FE q B,1)/\h.next<=r11/\h.next<=r12)\/
   (C3 T l=By/\call AC (n+4) 51 [pt tb,u,.int .u8 (q:Int)] h=.ok (.tuple ⟨[.nilFunc,.nilFunc,AI AT (unC l)]⟩) h')):=by
 obtain⟨g,E,a0⟩:=Vb (n:=n) Y R hT a1 hC z hl;have w:=E.wf;have big:=Y.big;rcases a0 with ⟨B,v,f,N,t⟩|⟨f,c,⟨m,rfl⟩,N⟩
 ·have I:iNe 0 0=IT:=B0 rfl
  have o1:oneCell v=IN:=by
   obtain⟨b,L,rfl,_⟩:=t;rfl
  obtain⟨g2,a,H,o,s,V,p⟩:=aJ (n:=1) w Q3 rfl (vs:=[v]) rfl (by show(bif oneCell v then IN else IT)=IN;rw[o1];rfl);have o:AEn 1 (pt g.next) v g2=.ok AEl a:=by
   have:AEn 1 (pt g.next) v g2=AEn 1 (pt g.next) (.agg ⟨[v]⟩) g2:=by
    obtain⟨b,L,rfl,_⟩:=t;rfl
   rw[this];exact o
  have b8:∀x∈B,x<256:=λx A=>by
   unfold C3 at f;split at f
   ·cases f
   ·split at f
    ·cases f;exact z x (zJ A)
    ·cases f
  have ln:B.length<=900000:=by
   unfold C3 at f;split at f
   ·cases f
   ·split at f
    ·cases f
     rw[yP];omega
    ·cases f
  have U:=s.marked;have G:Mk a.marked h.next v B:=(t.ext w s).same rfl;have W:a.marked.Row g.next 0 [v]:=V.same rfl;have l9:AEi ⟨g.next,0,By⟩ a.marked=.ok v a.marked:=Di W;have O:=G.vals.bl a.marked;have n1:=E.next;have a4:∀b,AE1 v b->b≠g.next:=λb z=>by
   obtain⟨L,a5,r⟩:=QY t z;have:=r.lt w;omega
  obtain⟨j,p1,s2,s9⟩:∃j,ai (call AC (n+3)) (Au e0 0 [pt tb,u,.int .u8 (q:Int)]) h=reM (call AC (n+3)) j a/\J 2 j=.int .u8 (q:Int)/\J 9 j=pt g.next:=by
   unfold ai;simp only[iN,xV,sT,xT,sh,reduceIte,cA0,N,Aq,Az,A1,H,AW,o,AK,AJ,I];exact⟨_,rfl,by simp[AG]⟩
  obtain⟨d,p2,t9,t29,t33⟩:∃d,reM (call AC (n+3)) j a=reA (call AC (n+3)) d a.marked/\J 9 d=pt g.next/\(∀c,AE9 (J 29 d)=.ok c->c<a.marked.next)/\J 33 d=.bool (FE q B):=by
   rw[tY];cases y:B with
   |nil=>
    rw[y]at O;have K:iEq (([]:List Nat).length:Int) 0=IN:=CP rfl;refine(show ∃d,ZB (call AC (n+3)) j a=reA (call AC (n+3)) d a.marked/\J 9 d=pt g.next/\J 29 d=AEl/\J 33 d=.bool IN from ?_).elim λd ⟨P,p,Q,S⟩=>⟨d,P,p,(λc m=>by rw[Q]at m;cases m),S⟩
    unfold ZB;simp only[sT,xT,sh,reduceIte,gD,Aw,AN,AQ,s9,l9,AX,O,AK,AJ,K];exact⟨_,rfl,by simp[AG,s9]⟩
   |cons C B'=>
    rw[<- y];have Z:0<B.length:=by rw[y,xh];omega
    have K:iEq (B.length:Int) 0=IT:=CF (by omega);obtain⟨b,L,hv,_,X,_⟩:=G;have A:B[0]? =BY C:=by rw[y];rfl
    have ix:AFV 1 v (AI AT 0) a.marked=.ok (.pointer (BY ⟨b,0,By⟩)) a.marked:=by
     rw[hv];have:=Cy (h:=a.marked) (n:=B.length) (c:=B.length) (es:=1) (b:=b) (off:=0) (i:=0) (k:=.i64) Z;exact this
    have lx:AEi ⟨b,0,By⟩ a.marked=.ok (.int .u8 (C:Int)) a.marked:=by
     rw[X.AEi (by rw[xa];exact Z),xe,zE,A];rfl
    have c3:iNe (C:Int) (q:Int)=FE q B:=by
     unfold FE;rw[A];by_cases M:C=q
     ·subst M
      rw[B0 rfl,decide_eq_true rfl];rfl
     ·rw[EG (by omega),decide_eq_false (λh=>M (Option.some.inj h))];rfl
    have a3:=X.lt U.wf;refine(show ∃d,ZB (call AC (n+3)) j a=reA (call AC (n+3)) d a.marked/\J 9 d=pt g.next/\J 29 d=pt b/\J 33 d=.bool (FE q B)from ?_).elim λd ⟨P,p,Q,S⟩=>⟨d,P,p,(λc m=>by
     rw[Q]at m;cases m;exact a3),S⟩
    unfold ZB;simp only[sT,xT,sh,reduceIte,gD,Aw,AN,AQ,s9,l9,AX,O,AK,AJ,K,BA,EY,ix,lx,s2,c3];exact⟨_,rfl,by simp[AG,s9]⟩
  have a2:FE q B=IT->1<=B.length:=λh=>by
   cases B with
   |nil=>cases h
   |cons x l=>rw[xh];omega
  have a6:=s.next;obtain⟨e3,h3,r11,r12,p3,u6,u7,u8,y3,D,d1,d2⟩:=tX (F:=call AC (n+3)) (e:=d) U.wf G (by show h.next<=a.next;omega) W a4 (xW _) b8 ln a2 t9 t29 t33;have M:h.next<=a.marked.next:=by show h.next<=a.next;omega
  refine⟨h3,(E.trans U).trans y3,.inl ⟨B,g.next,r11,r12,h.next,v,f,?_,D,by omega,by omega⟩⟩;rw[aC rfl,ag,p1,p2,p3,Av,Eh,u6,u7,u8]
 ·have I:iNe (unC l) 0=IN:=EG m
  obtain⟨g2,a,H,o,s,V,p⟩:=aJ (n:=1) w Q3 rfl (vs:=[AEk]) rfl rfl;have o:AEn 1 (pt g.next) AEk g2=.ok AEl a:=o;refine⟨a,E.trans s,.inr ⟨f,?_⟩⟩;rw[aC rfl,ag];unfold ai;simp only[iN,xV,sT,xT,sh,reduceIte,cA0,N,Aq,Az,A1,H,AW,o,AK,AJ,I,Av,Eh]
end
theorem rn:gaM=ro:=rfl
theorem UQ:d48=YV:=rfl
section
variable {F:AEh}{e:Env}{h h' h0 g:Hp}{T l B:List Nat}{m n k tb r r4 r9 r11 r12 most op:Nat}{lf sq a b c:Int}{u v w:xU}{s:Bool×Nat}
theorem LP(M:Mk h k w l){b:Nat}(e:AE1 w b):k<=b:=by
 obtain⟨f,g,d,_,_,i⟩:=M;obtain⟨j,m,c,a⟩:=e;rw[d]at a;injection a with a
 injection a with a
 injection a with a
 omega
theorem XX{b:Nat}:¬AE1 AEk b:=λ⟨_,_,_,a⟩=>by cases a
theorem Mh(R:h.Row r 0 (CM lf sq op a b c w)):HN 7 (pt r) h=.ok (CQ lf sq op a b c w) h:=by
 rw[Ah];exact(Br R).2.2.2.2.2.2.2
theorem Tw:BG OK.zero [] F e h=.ok (CQ 0 0 0 0 0 0 AEk) h:=by
 rw[CX,fb,Bo];rfl
theorem ny{g0 g1 g2 g3 g4 g5:O}(h0:g0 e=AI AT lf)(d:g1 e=AI AT sq)(h2:g2 e=.int .u8 (op:Int))(f:g3 e=AI AT a)(g:g4 e=AI AT b)(i:g5 e=AI AT c):
  BG OK.zero [(0,1,g0),(1,1,g1),(2,1,g2),(3,1,g3),(4,1,g4),(5,1,g5)] F e h=.ok (CQ lf sq op a b c AEk) h:=by
 rw[CX,fb,Ad (hk:=by rw[h0];rfl),h0,Ad (hk:=by rw[d];rfl),d,Ad (hk:=by rw[h2];rfl),h2,Ad (hk:=by rw[f];rfl),f,Ad (hk:=by rw[g];rfl),g,Ad (hk:=by rw[i];rfl),i];rfl
theorem MD{d:List xU}(e:h.Wf)(R:h.Row r 0 d)(g:d.length=7)(i:256<=r)(j:oneCell w=IN):
  ∃h',AEn 7 (pt r) (CQ lf sq op a b c w) h=.ok AEl h'/\h'.Row r 0 (CM lf sq op a b c w)/\Fx (λb=>b=r) h h':=by
 have f:0+(CM lf sq op a b c w).length<=d.length:=by rw[g];exact xW _
 have k:=R.AEn (n:=7) (off:=0) e i (v:=CQ lf sq op a b c w) rfl f (by show(bif oneCell w then IN else IT)=IN;rw[j];rfl);have wr:=R.AEt e f;rw[EW (show d.length=(CM lf sq op a b c w).length from g)]at wr;exact⟨_,k,wr,Fx.wr e R f rfl⟩
theorem bT:(Ey B s).2.length<=B.length:=by
 unfold Ey;split
 ·exact yH _
 ·split
  ·rename_i b c a
   unfold Hy at a;split at a
   ·cases a
   ·split at a
    ·cases a
     show(AA0 _ (AAo _ B)).length<=_;rw[yP,yX];omega
    ·cases a
  ·exact yH _
theorem lm(a:C3 T l=BY B):B.length<=l.length:=by
 unfold C3 at a;split at a
 ·cases a
 ·split at a
  ·cases a
   rw[yP];omega
  ·cases a
theorem O4(U:h.Wf)(R:h.Row tb 0 (T.map wv))(hT:AFQ T)(c1:h.VR u l)(hC:Oe u)(f:∀x∈l,x<256)(hl:l.length<=900000):
  ∃h' lf sq op a b c w o,h.Ext h'/\call AC (n+5) 48 [pt tb,u] h=.ok (.tuple ⟨[CQ lf sq op a b c w,AI AT (Je T l)]⟩) h'/\oneCell w=IN/\
   (Je T l=0->Ca lf sq op a b c (o:List Nat).length=IN/\h'.VE w (o.map bv)/\(∀x∈o,x<256)/\(op<256/\o.length<=l.length)/\(∃B,C3 T l=BY B/\ZY B lf sq op a b c o)/\∀b,AE1 w b->h.next<=b):=by
 have big:=U.big;have al4:=λ(F:AEh) (e:Env)=>BO (F:=F) (e:=e) U (n:=7) (t:=OR)
 have R4:=Hp.Row.alloc U Ki (show(CM 0 0 0 0 0 0 AEk).length=7 from rfl);have Z:h.Ext (h.push (.cells OR 7 0)):=(Hp.Ext.refl U).push _;have n1:(h.push (.cells OR 7 0)).next=h.next+1:=rfl;generalize h.push (.cells OR 7 0)=h1 at al4 R4 Z n1;obtain⟨h2,y2,b9⟩:=PY (q:=1) (n:=n) Z.wf (R.ext U Z) hT (c1.ext U Z) hC f hl;have W2:=y2.wf;have x2:=Z.trans y2;have a6:=R4.ext Z.wf y2;have n2:=y2.next;rcases b9 with ⟨B,r9,r11,r12,k,v,hu,O,D,d1,d2⟩|⟨hu,O⟩
 ·have O:call AC (n+4) 51 [pt tb,u,.int .u8 1] _=_:=O
  have c0:iNe 0 0=IT:=B0 rfl;obtain⟨p,p1,s4,s6,s7⟩:∃p,YV (call AC (n+4)) (Au e0 0 [pt tb,u]) h=gaM (call AC (n+4)) p h2/\J 4 p=pt h.next/\J 6 p=.func (.func 83) ⟨[]⟩ ⟨[pt r12,pt r9,pt r11]⟩/\J 7 p=.func (.func 85) ⟨[]⟩ ⟨[pt r12,pt r9,pt r11]⟩:=by
   unfold YV;simp only[iN,xV,sT,xT,sh,reduceIte,al4,cA0,O,Aq,Az,A1,Bx,AK,AJ,c0];exact⟨_,rfl,by simp[AG]⟩
  obtain⟨g1,q1,f1,D1,b1,_⟩:=GR (n:=n+2) (most:=1099511627776) W2 D (xW _);obtain⟨g2,q2,f2,D2,b2,_⟩:=GR (n:=n+2) (most:=1099511627776) f1.wf D1 (xW _);obtain⟨g3,q3,f3,D3,b3,_⟩:=GR (n:=n+2) (most:=9) f2.wf D2 (by omega);obtain⟨g4,q4,f4,D4,b4,_⟩:=GR (n:=n+2) (most:=1099511627776) f3.wf D3 (xW _);obtain⟨g5,q5,f5,D5,b5,_⟩:=GR (n:=n+2) (most:=255) f4.wf D4 (by omega);obtain⟨g6,q6,f6,D6,b6,_⟩:=GR (n:=n+2) (most:=1099511627776) f5.wf D5 (xW _);have N:Je T l=if(Ey B (nx B 1099511627776 (nx B 255 (nx B 1099511627776 (nx B 9 (nx B 1099511627776 (nx B 1099511627776 (FE 1 B,1)).2).2).2).2).2).2).1 && Ca (nx B 1099511627776 (FE 1 B,1)).1 (nx B 1099511627776 (nx B 1099511627776 (FE 1 B,1)).2).1 (nx B 9 (nx B 1099511627776 (nx B 1099511627776 (FE 1 B,1)).2).2).1 (nx B 1099511627776 (nx B 9 (nx B 1099511627776 (nx B 1099511627776 (FE 1 B,1)).2).2).2).1 (nx B 255 (nx B 1099511627776 (nx B 9 (nx B 1099511627776 (nx B 1099511627776 (FE 1 B,1)).2).2).2).2).1 (nx B 1099511627776 (nx B 255 (nx B 1099511627776 (nx B 9 (nx B 1099511627776 (nx B 1099511627776 (FE 1 B,1)).2).2).2).2).2).1 (Ey B (nx B 1099511627776 (nx B 255 (nx B 1099511627776 (nx B 9 (nx B 1099511627776 (nx B 1099511627776 (FE 1 B,1)).2).2).2).2).2).2).2.length then 0 else 110:=by
   unfold Je;rw[hu];rfl
  have hS:six B=(((nx B 1099511627776 (FE 1 B,1)).1,(nx B 1099511627776 (nx B 1099511627776 (FE 1 B,1)).2).1,(nx B 9 (nx B 1099511627776 (nx B 1099511627776 (FE 1 B,1)).2).2).1,(nx B 1099511627776 (nx B 9 (nx B 1099511627776 (nx B 1099511627776 (FE 1 B,1)).2).2).2).1,(nx B 255 (nx B 1099511627776 (nx B 9 (nx B 1099511627776 (nx B 1099511627776 (FE 1 B,1)).2).2).2).2).1,(nx B 1099511627776 (nx B 255 (nx B 1099511627776 (nx B 9 (nx B 1099511627776 (nx B 1099511627776 (FE 1 B,1)).2).2).2).2).2).1),(nx B 1099511627776 (nx B 255 (nx B 1099511627776 (nx B 9 (nx B 1099511627776 (nx B 1099511627776 (FE 1 B,1)).2).2).2).2).2).2):=rfl;generalize nx B 1099511627776 (FE 1 B,1)=s at *;generalize nx B 1099511627776 s.2=y at *;generalize nx B 9 y.2=j at *;generalize nx B 1099511627776 j.2=z at *;generalize nx B 255 z.2=A at *;generalize nx B 1099511627776 A.2=i at *;have q1:call AC (n+4) 83 [AI AT 1099511627776,pt r12,pt r9,pt r11] h2=.ok (AI AT (s.1:Int)) g1:=q1;have q2:call AC (n+4) 83 [AI AT 1099511627776,pt r12,pt r9,pt r11] g1=.ok (AI AT (y.1:Int)) g2:=q2;have q3:call AC (n+4) 83 [AI AT 9,pt r12,pt r9,pt r11] g2=.ok (AI AT (j.1:Int)) g3:=q3;have q4:call AC (n+4) 83 [AI AT 1099511627776,pt r12,pt r9,pt r11] g3=.ok (AI AT (z.1:Int)) g4:=q4;have q5:call AC (n+4) 83 [AI AT 255,pt r12,pt r9,pt r11] g4=.ok (AI AT (A.1:Int)) g5:=q5;have q6:call AC (n+4) 83 [AI AT 1099511627776,pt r12,pt r9,pt r11] g5=.ok (AI AT (i.1:Int)) g6:=q6;have a1:=((((f1.trans f2).trans f3).trans f4).trans f5).trans f6;have W6:=a1.wf;have x6:h.Ext g6:=Fx.xtF x2 a1 λb f=>by omega
  have b7:=a1.row W2 a6 (by omega);have cv:Ct .u8 (AI AT (j.1:Int)) g3=.ok (.int .u8 (j.1:Int)) g3:=by rw[Bu,Ff,AAA (by omega)]
  have bd:=λ(F:AEh) (e:Env) (e0:J 24 e=AI AT (s.1:Int)) (p:J 26 e=AI AT (y.1:Int)) (C:J 29 e=.int .u8 (j.1:Int)) (d:J 31 e=AI AT (z.1:Int)) (e4:J 33 e=AI AT (A.1:Int)) (e5:J 35 e=AI AT (i.1:Int))=>ny (F:=F) (h:=g6) e0 p C d e4 e5
  obtain⟨g7,h7,al7,a4,y7,R7,d7⟩:=Jk W6 Ki rfl (vs:=CM s.1 y.1 j.1 z.1 A.1 i.1 AEk) rfl rfl;have a4:AEn 7 (pt g6.next) (CQ s.1 y.1 j.1 z.1 A.1 i.1 AEk) g7=.ok AEl h7:=a4;obtain⟨h8,w,k8,y8,M8⟩:=bR (n:=n+1) y7.wf (D6.ext W6 y7);have k8:call AC (n+4) 85 [pt r12,pt r9,pt r11] h7=.ok (.tuple ⟨[w,.bool (Ey B i.2).1]⟩) h8:=k8;have W8:=y8.wf;have a9:=y7.trans y8;have n6:=x6.next;have c4:=a1.next;have n7:=y7.next;obtain⟨w1,w2⟩:cellsOf w=[w]/\oneCell w=IN:=by
   rcases M8 with ⟨b,el,rfl,_⟩|⟨rfl,_⟩<;>exact⟨rfl,rfl⟩
  obtain⟨G,c3,R9,n9,f9,_⟩:=Ei (v:=w) W8 (R7.ext y7.wf y8) (off:=6) (by show 6<7;omega) (by omega) w1 w2;have R9:G.Row g6.next 0 (CM s.1 y.1 j.1 z.1 A.1 i.1 w):=R9;have V:=f9.wf;have x9:h.Ext G:=Fx.xtF (x6.trans a9) f9 λb f=>by rw[f];exact n6
  have a2:=f9.row W8 (b7.ext W6 a9) (by omega);obtain⟨_,_,_,_,_,_,_,a8⟩:=Br R9;have V9:G.VE w ((Ey B i.2).2.map bv):=by
   rcases M8 with a0|⟨rfl,hn⟩
   ·exact .inl (a0.keep λb el o f r=>f9.row W8 r (by
     have:=LP a0 f;omega)).vals
   ·rw[hn];exact .inl (.inl ⟨rfl,rfl⟩)
  obtain⟨c2,Y,H⟩:=LX (m:=n+1) (AEr:=s.1) (seq:=y.1) (op:=j.1) (a:=z.1) (b:=A.1) (c:=i.1) V (by omega) (λg=>V9.bl g);have Y:call AC (n+4) 12 [CQ s.1 y.1 j.1 z.1 A.1 i.1 w] G=.ok (.bool (Ca s.1 y.1 j.1 z.1 A.1 i.1 (Ey B i.2).2.length)) c2:=Y;obtain⟨C,p2,t4,t9,t11⟩:∃C,gaM (call AC (n+4)) p h2=gaE (call AC (n+4)) C G/\J 4 C=pt h.next/\J 9 C=pt g6.next/\J 11 C=.bool (Ey B i.2).1:=by
   rw[rn];unfold ro;simp only[sT,xT,sh,reduceIte,CU,Cf,AV,A4,yT,AAO,s6,s7,EY,q1,q2,q3,Bi,cv,q4,q5,q6,bd,al7,AW,a4,k8,Aq,Az,A1,AH,AO,xZ,c3];exact⟨_,rfl,by simp[AG,s4]⟩
  have a5:∀b,AE1 w b->h7.next<=b:=λb f=>by
   rcases M8 with a0|⟨rfl,_⟩
   ·exact LP a0 f
   ·exact absurd f XX
  have b8:∀x∈(Ey B i.2).2,x<256:=λx X=>by
   unfold Ey at X;split at X
   ·cases X
   ·split at X
    ·rename_i o q W
     unfold Hy at W;split at W
     ·cases W
     ·split at W
      ·cases W
       exact D.b8 x (zd (zJ X))
      ·cases W
    ·cases X
  have a7:Je T l=110->(∃d hh,gaE (call AC (n+4)) C G=.ret d hh/\J 4 d=pt h.next/\J 5 d=AI AT 110/\h.Ext hh/\hh.Row h.next 0 (CM 0 0 0 0 0 0 AEk))->∃h' lf sq op a b c w o,h.Ext h'/\call AC (n+5) 48 [pt tb,u] h=.ok (.tuple ⟨[CQ lf sq op a b c w,AI AT (Je T l)]⟩) h'/\oneCell w=IN/\
   (Je T l=0->Ca lf sq op a b c (o:List Nat).length=IN/\h'.VE w (o.map bv)/\(∀x∈o,x<256)/\(op<256/\o.length<=l.length)/\(∃B,C3 T l=BY B/\ZY B lf sq op a b c o)/\∀b,AE1 w b->h.next<=b):=λK ⟨d,hh,P,Q,S,r4,r5⟩=>by
   refine⟨hh,0,0,0,0,0,0,AEk,[],r4,?_,rfl,λh0=>by rw[K]at h0;cases h0⟩;rw[UB rfl,UQ,p1,p2,P,Av,Dl (v:=CQ 0 0 0 0 0 0 AEk) (by rw[Q];exact Mh r5),S,K]
  cases ho:(Ey B i.2).1
  ·rw[ho]at t11 N
   obtain⟨E,L,M,I⟩:=MD (lf:=0) (sq:=0) (op:=0) (a:=0) (b:=0) (c:=0) (w:=AEk) V a2 rfl big rfl;have a3:∃d,gaE (call AC (n+4)) C G=.ret d E/\J 4 d=pt h.next/\J 5 d=AI AT 110:=by
    unfold gaE;simp only[sT,xT,sh,reduceIte,gD,BJ,BI,t11,yg,Tw,AW,t4,L];exact⟨_,rfl,by simp[AG,t4]⟩
   obtain⟨d,P,Q,S⟩:=a3;exact a7 (by rw[N];rfl) ⟨d,E,P,Q,S,Fx.xtF x9 I λb f=>by rw[f];exact xW _,M⟩
  ·rw[ho]at t11 N
   cases hr:Ca s.1 y.1 j.1 z.1 A.1 i.1 (Ey B i.2).2.length
   ·rw[hr]at Y N
    obtain⟨E,L,M,I⟩:=MD (lf:=0) (sq:=0) (op:=0) (a:=0) (b:=0) (c:=0) (w:=AEk) H.wf (a2.ext V H) rfl big rfl;have a3:∃d,gaE (call AC (n+4)) C G=.ret d E/\J 4 d=pt h.next/\J 5 d=AI AT 110:=by
     unfold gaE;simp only[sT,xT,sh,reduceIte,gD,BJ,BI,t11,yY,An,Ah,t9,a8,cA0,Y,yg,Tw,AW,t4,L];exact⟨_,rfl,by simp[AG,t4]⟩
    obtain⟨d,P,Q,S⟩:=a3;exact a7 (by rw[N];rfl) ⟨d,E,P,Q,S,Fx.xtF (x9.trans H) I λb f=>by rw[f];exact xW _,M⟩
   ·rw[hr]at Y N
    have b0:=(Br (R9.ext V H)).2.2.2.2.2.2.2;obtain⟨E,L,M,I⟩:=MD (lf:=s.1) (sq:=y.1) (op:=j.1) (a:=z.1) (b:=A.1) (c:=i.1) (w:=w) H.wf (a2.ext V H) rfl big w2;have K:Je T l=0:=by rw[N];rfl
    refine⟨E,s.1,y.1,j.1,z.1,A.1,i.1,w,(Ey B i.2).2,Fx.xtF (x9.trans H) I (λb f=>by rw[f];exact xW _),?_,w2,λ_=>⟨hr,(V9.ext V H).fx H.wf I (λb f K=>by
     have:=a5 b f;omega),b8,⟨by omega,yS bT (lm hu)⟩,⟨B,hu,by unfold ZY;rw[hS];exact⟨rfl,rfl,rfl,rfl,rfl,rfl,rfl⟩⟩,λb f=>by
     have:=a5 b f;omega⟩⟩
    obtain⟨d,P,Q,S⟩:∃d,gaE (call AC (n+4)) C G=.ret d E/\J 4 d=pt h.next/\J 5 d=AI AT 0:=by
     unfold gaE;simp only[sT,xT,sh,reduceIte,gD,BJ,BI,t11,yY,An,Ah,t9,a8,cA0,Y,b0,AW,t4,L];exact⟨_,rfl,by simp[AG,t4]⟩
    rw[UB rfl,UQ,p1,p2,P,Av,Dl (v:=CQ s.1 y.1 j.1 z.1 A.1 i.1 w) (by rw[Q];exact Mh M),S,K]
 ·have O:call AC (n+4) 51 [pt tb,u,.int .u8 1] _=_:=O
  have hc:unC l≠0:=by
   unfold unC;split<;>omega
  have c0:iNe (unC l) 0=IN:=EG hc;have K:Je T l=unC l:=by
   unfold Je;rw[hu]
  obtain⟨E,L,M,I⟩:=MD (lf:=0) (sq:=0) (op:=0) (a:=0) (b:=0) (c:=0) (w:=AEk) W2 a6 rfl big rfl;refine⟨E,0,0,0,0,0,0,AEk,[],Fx.xtF x2 I (λb f=>by rw[f];exact xW _),?_,rfl,λh0=>absurd (K ▸ h0) hc⟩;obtain⟨p,p1,s4,s5⟩:∃p,YV (call AC (n+4)) (Au e0 0 [pt tb,u]) h=.ret p E/\J 4 p=pt h.next/\J 5 p=AI AT (unC l):=by
   unfold YV;simp only[iN,xV,sT,xT,sh,reduceIte,al4,cA0,O,Aq,Az,A1,Bx,AK,AJ,c0,Tw,AW,L];exact⟨_,rfl,by simp[AG]⟩
  rw[UB rfl,UQ,p1,Av,Dl (v:=CQ 0 0 0 0 0 0 AEk) (by rw[s4];exact Mh M),s5,K]
end
def Hp.IS(h:Hp)(v:xU)(xs:List Kt):Prop:=(v=AEk/\xs=[])\/∃a b,v=.slice (BY ⟨a,0,By⟩) xs.length xs.length/\h.Row a b (flI xs)
def AFi(x:Kt):Prop:=nmQ x.a x.b x.c 1=IN/\(x.s=1\/x.s=2)
theorem sV:iyS=BB (AY 0 (A3 iyB)) iyE:=rfl
theorem iB:qX=Wc:=rfl
section
variable {F:AEh}{e:Env}{h h' g:Hp}{m n k r op i:Nat}{lf sq a b c z room:Int}{xs:List Kt}{x:Kt}{v iv bw:xU}{l:List Nat}
theorem Hp.IS.len(o:h.IS v xs)(g:Hp):AFB v g=.ok (AI AT (xs.length:Int)) g:=by
 rcases o with ⟨rfl,rfl⟩|⟨b,a,rfl,_⟩<;>rfl
theorem Hp.IS.ext(o:h.IS v xs)(a:h.Wf)(y:h.Ext h'):h'.IS v xs:=o.imp id λ⟨b,c,d,e⟩=>⟨b,c,d,e.ext a y⟩
theorem Hp.IS.at(o:h.IS v xs)(hi:xs[i]? =BY x):∃b,AFV 4 v (AI AT (i:Int)) h=.ok (.pointer (BY ⟨b,i*4,By⟩)) h/\loadN 4 ⟨b,i*4,By⟩ h=.ok (DF x) h:=by
 have hil:=(yN.1 hi).1;rcases o with ⟨rfl,rfl⟩|⟨b,el,rfl,h2⟩
 ·cases hi
 ·refine⟨b,?_,?_⟩
  ·have:=Cy (h:=h) (n:=xs.length) (c:=xs.length) (es:=4) (b:=b) (off:=0) (i:=i) (k:=.i64) hil
   rwa [xZ]at this
  ·rw[h2.loadN (by rw[ML];omega),Ws xs i x hi];rfl
theorem Hp.IL.is(o:h.IL k v xs):h.IS v xs:=o.imp id λ⟨b,a,c,_⟩=>⟨b,_,a,c⟩
theorem kH(R:h.Row r 0 (Bv x)):h.IS (.slice (BY ⟨r,0,By⟩) 1 1) [x]:=.inr ⟨r,0,rfl,by rw[show flI [x]=Bv x from yF _];exact R⟩
theorem fY(g:h.Wf)(o:AFi x):∃h',call AC (m+3) 88 [DF x] h=.ok (.bool IT) h'/\h.Ext h':=by
 have i:=λ(F:AEh) (e:Env) (t:J 0 e=DF x)=>(show CV (J 0) F e h=.ok (pt h.next) (h.AEg 0 (Bv x))by rw[DN,t,DM g];rfl)
 have r:=(Hp.Ext.refl g).AEg 0 (Bv x);have f:=Hp.Row.new g 0 (Bv x);generalize h.AEg 0 (Bv x)=d at i r f;have l:AEi ⟨h.next,0,By⟩ d=.ok (AI AT x.a) d:=f.AEi (off:=0) (by show 0<4;omega);have n:AEi ⟨h.next,1,By⟩ d=.ok (AI AT x.b) d:=f.AEi (off:=1) (by show 1<4;omega);have p:AEi ⟨h.next,2,By⟩ d=.ok (AI AT x.c) d:=f.AEi (off:=2) (by show 2<4;omega);have q:AEi ⟨h.next,3,By⟩ d=.ok (.int .u8 (x.s:Int)) d:=f.AEi (off:=3) (by show 3<4;omega);have k:call AC (m+2) 37 [AI AT x.a,AI AT x.b,AI AT x.c,AI AT 1] d=.ok (.bool IN) d:=by
  have:=mQ (m:=m) (h:=d) (a:=x.a) (b:=x.b) (c:=x.c) (least:=1);rw[o.1]at this;exact this
 refine⟨d,?_,r⟩;rw[pW rfl];unfold d88;rcases o.2 with hs|hs
 ·have j:iNe (x.s:Int) 1=IT:=B0 (by omega)
  simp only[iN,xV,sT,xT,sh,reduceIte,gD,i,AH,AO,xZ,AN,AQ,l,n,p,q,cA0,EY,k,BJ,BI,yY,AK,AJ,j,lV0]
 ·have j:iNe (x.s:Int) 1=IN:=EG (by omega)
  have s:iNe (x.s:Int) 2=IT:=B0 (by omega);simp only[iN,xV,sT,xT,sh,reduceIte,gD,i,AH,AO,xZ,AN,AQ,l,n,p,q,cA0,EY,k,BJ,BI,yY,AK,AJ,j,s,lV0]
theorem ZV(n:h.Wf)(o:h.IS v xs)(s:∀x∈xs,AFi x)(M:xs.length<=1000):∃h',call AC (m+5) 87 [v,.func (.func 88) #[] #[]] h=.ok (.bool IT) h'/\h.Ext h':=by
 have z:=λg=>o.len g
 obtain⟨d,A,s0,s1,s7,s8⟩:∃d,Wc (call AC (m+3)) (Au e0 0 [v,.func (.func 88) #[] #[]]) h=iyS (call AC (m+3)) d h/\J 0 d=v/\J 1 d=.func (.func 88) #[] #[]/\J 7 d=AI AT (xs.length:Int)/\J 8 d=AI AT ((0:Nat):Int):=by
  unfold Wc;simp only[iN,xV,sT,xT,sh,reduceIte,AX,z];exact⟨_,rfl,by simp[AG]⟩
 have G:∃c h',A3 iyB (call AC (m+3)) d h=.exit 0 c h'/\h.Ext h':=by
  refine Bd (I:=λi c h'=>h.Ext h'/\J 0 c=v/\J 1 c=.func (.func 88) #[] #[]/\J 7 c=AI AT (xs.length:Int)/\J 8 c=AI AT (i:Int)/\i<=xs.length) (Q:=λx=>∃c h',x=.exit 0 c h'/\h.Ext h') xs.length (by omega) (λi c h' ⟨k,t0,t1,t7,t8,L⟩=>?_) ⟨.refl n,s0,s1,s7,s8,yH _⟩;by_cases j:i<xs.length
  ·left
   have f:=EU j;obtain⟨x,p⟩:∃x,xs[i]? =BY x:=⟨_,xc j⟩;obtain⟨b,t,y⟩:=(o.ext n k).at p;obtain⟨e,u,K⟩:=fY (m:=m) k.wf (s x (xy p));have q:=Cc (i:=i) (h:=e) (by omega);have r:JC (call AC (m+3)) (.func (.func 88) #[] #[]) [DF x] h'=.ok (.bool IT) e:=u;obtain⟨a,l,B,C,D,E⟩:∃a,iyB (call AC (m+3)) c h'=.norm a e/\J 0 a=v/\J 1 a=.func (.func 88) #[] #[]/\J 7 a=AI AT (xs.length:Int)/\J 8 a=AI AT ((i+1:Nat):Int):=by
    unfold iyB;simp only[sT,xT,sh,reduceIte,A7,Ap,Bt,Ay,AK,AJ,t8,t7,f,BA,t0,t,An,Ah,y,CU,AV,A4,t1,r,BW,q];exact⟨_,rfl,by simp[AG,t0,t1,t7]⟩
   exact⟨j,a,e,l,k.trans K,B,C,D,E,j⟩
  ·right
   have f:=Cz (show xs.length<=i by omega);obtain⟨a,l⟩:∃a,iyB (call AC (m+3)) c h'=.exit 0 a h':=by
    unfold iyB;simp only[sT,xT,sh,reduceIte,AK,AJ,t8,t7,f];exact⟨_,rfl⟩
   rw[l];exact⟨rfl,a,h',rfl,k⟩
 obtain⟨a,e,F,H⟩:=G;have w:call AC (m+4) 123 [v,.func (.func 88) #[] #[]] h=.ok (AI AT (-1)) e:=by
  rw[gV rfl,iB,A,sV];simp only[A7,Ap,F,A5,Ay];unfold iyE;simp only[sT,xT,sh,reduceIte,lV0]
 have f:iGe (-1) 0=IT:=EX (by omega);refine⟨e,?_,H⟩;rw[pV rfl];unfold d87;simp only[iN,xV,sT,xT,sh,reduceIte,cA0,w,AK,AJ,f,lV0]
structure AFv (h:Hp)(lf sq:Int)(op:Nat)(z:Int)(iv bw:xU)(room:Int)(xs:List Kt)(l:List Nat):Prop where
 hd:hdQ lf sq op=IN
 z0:0<=z/\z<=1000
 is:h.IS iv xs
 nx:xs.length<=50
 ok:∀x∈xs,AFi x
 V:h.AE7 bw (l.map bv)
 nl:l.length<=65536
 rm:0<=room/\room<=65536
 no:z≠0->xs=[]/\l=[]
 i1:oneCell iv=IN
 b1:oneCell bw=IN
theorem Pa(d:h.Wf)(t:AFv h lf sq op z iv bw room xs l):∃h',call AC (m+6) 52 [Be lf sq op z iv bw room] h=.ok (.bool IN) h'/\h.Ext h':=by
 have i:=λ(F:AEh) (e:Env) (O:J 0 e=Be lf sq op z iv bw room)=>(show CV (J 0) F e h=.ok (pt h.next) (h.AEg 0 (B9 lf sq op z iv bw room))by rw[DN,O,DM d];rfl)
 have f:=(Hp.Ext.refl d).AEg 0 (B9 lf sq op z iv bw room);have c:=Hp.Row.new d 0 (B9 lf sq op z iv bw room);generalize h.AEg 0 (B9 lf sq op z iv bw room)=a at i f c;have x:AEi ⟨h.next,0,By⟩ a=.ok (AI AT lf) a:=c.AEi (off:=0) (by show 0<7;omega);have y:AEi ⟨h.next,1,By⟩ a=.ok (AI AT sq) a:=c.AEi (off:=1) (by show 1<7;omega);have A:AEi ⟨h.next,2,By⟩ a=.ok (.int .u8 (op:Int)) a:=c.AEi (off:=2) (by show 2<7;omega);obtain⟨B,C,Q,_⟩:=B7 c;have r:call AC (m+5) 36 [AI AT lf,AI AT sq,.int .u8 (op:Int)] a=.ok (.bool IN) a:=by
  have:=mO (m:=m+3) (h:=a) (AEr:=lf) (seq:=sq) (op:=op);rw[t.hd]at this;exact this
 have s:call AC (m+5) 64 [AI AT z,AI AT 0,AI AT 1000] a=.ok (.bool IN) a:=by
  have:=OO (m:=m+4) (h:=a) (n:=z) (lo:=0) (hi:=1000);rw[show wiQ z 0 1000=IN from decide_eq_true t.z0]at this;exact this
 have M:=t.is.ext d f;have G:=λg=>t.is.len g
 have p:iLe (xs.length:Int) 50=IN:=Gv (by have:=t.nx;omega);obtain⟨b,u,L⟩:=ZV (m:=m) f.wf M t.ok (by have:=t.nx;omega);have K:=f.trans L;have o:=c.ext f.wf L;have D:AEi ⟨h.next,6,By⟩ b=.ok (AI AT room) b:=o.AEi (off:=6) (by show 6<7;omega);obtain⟨H,P,I,_⟩:=B7 o;have E:=(t.V.ext d K).bl b;have q:iLe (l.length:Int) 65536=IN:=Gv (by have:=t.nl;omega);have w:call AC (m+5) 64 [AI AT room,AI AT 0,AI AT 65536] b=.ok (.bool IN) b:=by
  have:=OO (m:=m+4) (h:=b) (n:=room) (lo:=0) (hi:=65536);rw[show wiQ room 0 65536=IN from decide_eq_true t.rm]at this;exact this
 refine⟨b,?_,K⟩;rw[o0 rfl];unfold d52;by_cases k:z=0
 ·have j:iEq z 0=IN:=CP k
  simp only[iN,xV,sT,xT,sh,reduceIte,gD,i,AH,AO,xZ,AN,AQ,x,y,A,cA0,EY,r,B,s,C,AX,G,AK,AJ,p,u,BJ,BI,yg,I,E,q,D,w,H,j,lV0]
 ·obtain⟨rfl,rfl⟩:=t.no k
  have j:iEq z 0=IT:=CF k;have R:=λg=>t.is.len g
  have N:GC .i64 (AI AT ((([]:List Kt).length:Nat):Int)) (AI AT ((([]:List Nat).length:Nat):Int)) b=.ok (AI AT 0) b:=by
   rw[EQ];rfl
  have c4:iEq 0 0=IN:=CP rfl;simp only[iN,xV,sT,xT,sh,reduceIte,gD,i,AH,AO,xZ,AN,AQ,x,y,A,cA0,EY,r,B,s,C,AX,G,AK,AJ,p,u,BJ,BI,yg,I,E,q,D,w,H,j,P,BW,N,c4,lV0]
end
theorem tS:puS=BB (AY 0 (A3 puB)) puE:=rfl
theorem qz:d45=iJ:=rfl
theorem pp:ccT=BB (AY 2 (A3 ccB)) ccE:=rfl
theorem pk:ccM=pn:=rfl
theorem po:ccS=BB (AY 0 (A3 ccA)) ccM:=rfl
theorem rI:d81=iR:=rfl
def Hl(ns:List Nat):List xU:=ns.map λ(a:Nat)=>yy .i64 (a:Int)
theorem lw:BP Ja.zero 2=[AEk,AEk]:=by kernel_rfl
section
variable {F:AEh}{e:Env}{h h' h0 g:Hp}{m n k r i b N:Nat}{u v w u1 u2:xU}{l xs ns la lb:List Nat}
theorem VJ(x0:h0.Ext h)(hk:h0.next<=k)(hk2:k<=h.next)(o:h.AFu k 5 v (xs.map bv))(hx:xs.length+10*ns.length<=900000)(h8:∀x∈xs,x<256)(R:h.Row r 0 (Hl ns))(hr:¬AE1 v r)(hn:∀z∈ns,z<=9223372036854775807):
  ∃(h':Hp) (v':xU) (ys:List Nat),call AC (m+2) 45 [v,.slice (BY ⟨r,0,By⟩) ns.length ns.length] h=.ok v' h'/\h0.Ext h'/\h'.AFu k 5 v' (ys.map bv)/\ys.length<=xs.length+10*ns.length/\(∀x∈ys,x<256)/\h.next<=h'.next/\(∀b el L,¬AE1 v b->h.Row b el L->h'.Row b el L/\¬AE1 v' b)/\ys=xs++ns.flatMap BD:=by
 have ln:AFB (.slice (BY ⟨r,0,By⟩) ns.length ns.length) h=.ok (AI AT (ns.length:Int)) h:=rfl;obtain⟨e1,p1,s0,s7,s8,s9⟩:∃e1,iJ (call AC (m+1)) (Au e0 0 [v,.slice (BY ⟨r,0,By⟩) ns.length ns.length]) h=puS (call AC (m+1)) e1 h/\J 0 e1=v/\J 7 e1=.slice (BY ⟨r,0,By⟩) ns.length ns.length/\J 8 e1=AI AT (ns.length:Int)/\J 9 e1=AI AT ((0:Nat):Int):=by
  unfold iJ;simp only[iN,xV,sT,xT,sh,reduceIte,AX,ln];exact⟨_,rfl,by simp[AG]⟩
 have run:∃(e':Env) (h':Hp) (v':xU) (ys:List Nat),A3 puB (call AC (m+1)) e1 h=.exit 0 e' h'/\J 0 e'=v'/\h0.Ext h'/\h'.AFu k 5 v' (ys.map bv)/\ys.length<=xs.length+10*ns.length/\(∀x∈ys,x<256)/\h.next<=h'.next/\(∀b el L,¬AE1 v b->h.Row b el L->h'.Row b el L/\¬AE1 v' b)/\ys=xs++ns.flatMap BD:=by
  refine Bd (I:=λi e' h'=>∃(v':xU) (ys:List Nat),J 0 e'=v'/\J 7 e'=.slice (BY ⟨r,0,By⟩) ns.length ns.length/\J 8 e'=AI AT (ns.length:Int)/\J 9 e'=AI AT (i:Int)/\i<=ns.length/\h0.Ext h'/\h'.AFu k 5 v' (ys.map bv)/\ys.length<=xs.length+10*i/\(∀x∈ys,x<256)/\h.next<=h'.next/\(∀b el L,¬AE1 v b->h.Row b el L->h'.Row b el L/\¬AE1 v' b)/\ys=xs++(ns.take i).flatMap BD)
   (Q:=λx=>∃(e':Env) (h':Hp) (v':xU) (ys:List Nat),x=.exit 0 e' h'/\J 0 e'=v'/\h0.Ext h'/\h'.AFu k 5 v' (ys.map bv)/\ys.length<=xs.length+10*ns.length/\(∀x∈ys,x<256)/\h.next<=h'.next/\(∀b el L,¬AE1 v b->h.Row b el L->h'.Row b el L/\¬AE1 v' b)/\ys=xs++ns.flatMap BD) ns.length (by omega) (λi e' h' ⟨v',ys,t0,t7,t8,t9,hi,x',o',hy,hy8,hn',fr,he⟩=>?_)
   ⟨v,xs,s0,s7,s8,s9,yH _,x0,o,by omega,h8,xW _,λb el L hb r=>⟨r,hb⟩,(yF _).symm⟩
  by_cases hlt:i<ns.length
  ·left
   have c1:=EU hlt;have hz:ns[i]? =BY ns[i]:=xc hlt;have hzn:=hn _ (AAF hlt);have R':=(fr r 0 _ hr R).1;have ix:AFV 1 (.slice (BY ⟨r,0,By⟩) ns.length ns.length) (AI AT (i:Int)) h'=.ok (.pointer (BY ⟨r,i,By⟩)) h':=by
    have:=Cy (h:=h') (n:=ns.length) (c:=ns.length) (es:=1) (b:=r) (off:=0) (i:=i) (k:=.i64) hlt
    rwa [xZ,zw]at this
   have ld:AEi ⟨r,i,By⟩ h'=.ok (AI AT (ns[i]:Int)) h':=by
    rw[R'.AEi (by unfold Hl;rw[xa];exact hlt)];unfold Hl;rw[xe,zE,hz];rfl
   have cv:Ct .u64 (AI AT (ns[i]:Int)) h'=.ok (.int .u64 (ns[i]:Int)) h':=by rw[Bu,DJ (by omega)]
   obtain⟨h2,v2,k2,x2,o2,n2,fr2⟩:=OM (n:=m) x' hk (yS hk2 hn') o' (by omega) (N:=ns[i]) (by omega);have k2:call AC (m+1) 79 [v',.int .u64 (ns[i]:Int)] h'=.ok v2 h2:=k2;have a3:=Cc (i:=i) (h:=h2) (by omega);have AIc:=G9 (n:=ns[i]) (by omega);obtain⟨e2,q1,q0,q7,q8,q9⟩:∃e2,puB (call AC (m+1)) e' h'=.norm e2 h2/\J 0 e2=v2/\J 7 e2=.slice (BY ⟨r,0,By⟩) ns.length ns.length/\J 8 e2=AI AT (ns.length:Int)/\J 9 e2=AI AT ((i+1:Nat):Int):=by
    unfold puB;simp only[sT,xT,sh,reduceIte,A7,Ap,Bt,Ay,AK,AJ,t9,t8,c1,BA,t7,ix,AN,AQ,ld,Bi,cv,cA0,t0,k2,BW,a3];exact⟨_,rfl,by simp[AG,t7,t8]⟩
   refine⟨hlt,e2,h2,q1,v2,ys++BD ns[i],q0,q7,q8,q9,hlt,x2,.inl o2,by rw[xY];omega,λx hx=>?_,yS hn' n2,λb el L hb r=>?_,by rw[he,yD,AAT,hz,AAg];exact congrArg (λq=>xs++((ns.take i).flatMap BD++q)) (yF _).symm⟩
   ·rcases yO.1 hx with h1|h1
    ·exact hy8 x h1
    ·exact IQ _ x h1
   ·obtain⟨r1,r2⟩:=fr b el L hb r
    exact fr2 b el L r2 r1
  ·right
   have c1:=Cz (show ns.length<=i by omega);obtain⟨e2,q1,q0⟩:∃e2,puB (call AC (m+1)) e' h'=.exit 0 e2 h'/\J 0 e2=v':=by
    unfold puB;simp only[sT,xT,sh,reduceIte,AK,AJ,t9,t8,c1];exact⟨_,rfl,by simp[AG,t0]⟩
   rw[q1];exact⟨rfl,e2,h',v',ys,rfl,q0,x',o',by omega,hy8,hn',fr,by rw[he,ze (by omega)]⟩
 obtain⟨e2,h2,v2,ys,r1,r0,q⟩:=run;refine⟨h2,v2,ys,?_,q⟩;rw[oq rfl,qz,p1,tS];simp only[A7,Ap,r1,A5,Ay];unfold puE;simp only[sT,xT,sh,reduceIte,r0,lV0]
theorem Hp.VE.lenV(a:h.VE u (l.map bv)):lenV u=.ok l.length:=by
 rcases a with a|⟨⟨r,rfl⟩,b⟩
 ·rw[a.lenV,xa]
 ·rw[AAd.1 b];rfl
theorem Hp.VE.src(a:h.VE u (l.map bv))(k:List xU->R):BM h 1 u l.length k=k (l.map bv):=by
 rcases a with a|⟨⟨r,rfl⟩,b⟩
 ·exact a.src (by rw[xa]) k
 ·rw[AAd.1 b];rfl
theorem sP{a:List xU}(f:h.Wf)(e:256<=b)(R:h.Row b 6 a)(c:h.VE u (l.map bv))(d:n+l.length<=a.length):
  DU 1 1 5 (.slice (BY ⟨b,0,By⟩) n a.length) u h=.ok (.slice (BY ⟨b,0,By⟩) (n+l.length) a.length) (h.wr b n (l.map bv)):=by
 unfold DU DL;simp only[c.lenV,Ao,zS,xa];rw[c.src];simp only[As.2 d];have g:Ew ⟨b,0,By⟩ (Nat.mul n 1)=⟨b,n,By⟩:=by
  rw[show Nat.mul n 1=n from zw n];cases n with
  |zero=>rfl
  |succ n=>show(⟨b,Nat.add 0 (Nat.succ n),By⟩:Addr)=_;rw[zS,xZ]
 rw[g,R.store f e (by rw[xa];exact d) (DD l)]
theorem gy{x y:O}(f:x e=AEk)(g:y e=AI AT 0):Dr 5 1 x By (BY y) By F e h=.ok AEk h:=by
 show(match x e with|.slice b n c=>DY e n c By (BY y) By (λl a m=>ES 5 1 b IT l a m h)|_=>.no)=_;rw[f];show Cs e (BY y) 0 0 (λa=>Cs e By 0 a λl=>ES 5 1 By IT l a 0 h)=_;have d:∀K:Nat->R,Cs e (BY y) 0 0 K=K 0:=λK=>by
  show(match Db (y e)with|.ok n=>(bif yI n 0 then K n else .no)|.no=>.no)=_;rw[g];rfl
 rw[d];rfl
theorem i9(i:h.Wf)(z:1<=N/\N<=900000):∃h' b,call AC (m+1) 122 [AEk,AI AT (N:Int)] h=.ok (.slice (BY ⟨b,0,By⟩) 0 N) h'/\h.Ext h'/\h'.Row b 6 ((xx N 0).map bv)/\h.next<=b:=by
 obtain⟨d,B,f,y,g,A⟩:=PV (h0:=h) (k:=h.next) (n:=N) (.refl i) (xW _) (xW _) (xs:=[]) (v:=AEk) (.inl ⟨rfl,rfl⟩) (by omega) (by simp only[yU];omega);rw[yT]at g;rcases g with ⟨_,u⟩|⟨b,rfl,R,s,_⟩
 ·have:=congrArg AAC u
  rw[xa,yn]at this;simp at this;omega
 ·rw[xa,yn]at f
  have j:=λ(F:AEh) (e:Env) (a:J 20 e=AEk) (c:J 1 e=AI AT (N:Int))=>(Lq (F:=F) (h:=h) a c).trans f
  have l:iLt (N:Int) 0=IT:=FI (by omega);have r:∀(F:AEh) (e:Env),J 0 e=AEk->Nk (J 0) F e h=.ok (AI AT 0) h:=λF e t=>by
   unfold Nk;rw[t];rfl
  have w:AFB AEk h=.ok (AI AT 0) h:=rfl;have x:AFB AEk d=.ok (AI AT 0) d:=rfl;have s1:Fp yi .i64 (AI AT 0) (AI AT 0) h=.ok (AI AT 0) h:=by rw[Cn];rfl
  have s2:Fp yi .i64 (AI AT (N:Int)) (AI AT 0) h=.ok (AI AT (N:Int)) h:=by
   have:yi (N:Int) 0=(N:Int):=Int.sub_zero _;rw[Cn,this,Bf (by omega)]
  have o:iGt (N:Int) 0=IN:=GM (by omega);have q:=λ(F:AEh) (e:Env) (a:J 0 e=AEk) (c:J 19 e=AI AT 0)=>gy (F:=F) (h:=h) a c
  have p:=λ(F:AEh) (e:Env) (a:J 22 e=.slice (BY ⟨b,0,By⟩) N N) (c:J 24 e=AI AT 0)=>M5 (F:=F) (h:=d) (el:=5) (m:=0) a c (yH N)
  refine⟨d,b,?_,y,R,s⟩;rw[gU rfl];unfold qW;simp only[iN,xV,sT,xT,sh,reduceIte,A7,Ay,AK,AJ,l,r,AX,w,B6,s1,s2,o,q,j,x,p,lV0]
theorem UM(W:h.Wf)(R:h.Row r 0 [u1,u2])(V1:h.AE7 u1 (la.map bv))(V2:h.VE u2 (lb.map bv))(hl:1<=la.length+lb.length/\la.length+lb.length<=900000):
  ∃h' b,call AC (m+2) 81 [.slice (BY ⟨r,0,By⟩) 2 2] h=.ok (.slice (BY ⟨b,0,By⟩) (la.length+lb.length) (la.length+lb.length)) h'/\h.Ext h'/\h'.Row b 6 ((la++lb).map bv)/\h.next<=b:=by
 have big:=W.big;have ln:∀g:Hp,AFB (.slice (BY ⟨r,0,By⟩) 2 2) g=.ok (AI AT ((2:Nat):Int)) g:=λg=>rfl
 have ix:∀(i:Nat) (g:Hp),i<2->AFV 1 (.slice (BY ⟨r,0,By⟩) 2 2) (AI AT (i:Int)) g=.ok (.pointer (BY ⟨r,i,By⟩)) g:=λi g hi=>by
  have:=Cy (h:=g) (n:=2) (c:=2) (es:=1) (b:=r) (off:=0) (i:=i) (k:=.i64) hi
  rwa [xZ,zw]at this
 have ld:∀g:Hp,g.Row r 0 [u1,u2]->AEi ⟨r,0,By⟩ g=.ok u1 g/\AEi ⟨r,1,By⟩ g=.ok u2 g:=λg Rg=>⟨Rg.AEi (off:=0) (by show 0<2;omega),Rg.AEi (off:=1) (by show 1<2;omega)⟩
 obtain⟨e1,p1,s0,s3,s9,s10,s11⟩:∃e1,iR (call AC (m+1)) (Au e0 0 [.slice (BY ⟨r,0,By⟩) 2 2]) h=ccS (call AC (m+1)) e1 h/\J 0 e1=.slice (BY ⟨r,0,By⟩) 2 2/\J 3 e1=AI AT ((0:Nat):Int)/\J 9 e1=.slice (BY ⟨r,0,By⟩) 2 2/\J 10 e1=AI AT ((2:Nat):Int)/\J 11 e1=AI AT ((0:Nat):Int):=by
  unfold iR;simp only[iN,xV,sT,xT,sh,reduceIte,AX,ln];exact⟨_,rfl,by simp[AG]⟩
 have AK3:∃e',A3 ccA (call AC (m+1)) e1 h=.exit 0 e' h/\J 0 e'=.slice (BY ⟨r,0,By⟩) 2 2/\J 3 e'=AI AT ((la.length+lb.length:Nat):Int):=by
  refine Bd (I:=λi e' h'=>h'=h/\i<=2/\J 0 e'=.slice (BY ⟨r,0,By⟩) 2 2/\J 9 e'=.slice (BY ⟨r,0,By⟩) 2 2/\J 10 e'=AI AT ((2:Nat):Int)/\J 11 e'=AI AT (i:Int)/\J 3 e'=AI AT (((if i=0 then 0 else if i=1 then la.length else la.length+lb.length):Nat):Int))
   (Q:=λx=>∃e',x=.exit 0 e' h/\J 0 e'=.slice (BY ⟨r,0,By⟩) 2 2/\J 3 e'=AI AT ((la.length+lb.length:Nat):Int)) 2 (by omega) (λi e' h' ⟨hh,hi,t0,t9,t10,t11,t3⟩=>?_) ⟨rfl,by omega,s0,s9,s10,s11,s3⟩
  subst hh;by_cases hlt:i<2
  ·left
   have c1:iLt (i:Int) ((2:Nat):Int)=IN:=EU hlt;have a3:=Cc (i:=i) (h:=h') (by omega);obtain⟨l0,l1⟩:=ld h' R;have step:∀(u:xU) (c d:Nat),AEi ⟨r,i,By⟩ h'=.ok u h'->AFB u h'=.ok (AI AT (d:Int)) h'->J 3 e'=AI AT (c:Int)->c+d<=900000->∃e2,ccA (call AC (m+1)) e' h'=.norm e2 h'/\J 0 e2=.slice (BY ⟨r,0,By⟩) 2 2/\J 9 e2=.slice (BY ⟨r,0,By⟩) 2 2/\J 10 e2=AI AT ((2:Nat):Int)/\J 11 e2=AI AT ((i+1:Nat):Int)/\J 3 e2=AI AT ((c+d:Nat):Int):=λu c d lu lv hc hcd=>by
    have a1:GC .i64 (AI AT (c:Int)) (AI AT (d:Int)) h'=.ok (AI AT ((c+d:Nat):Int)) h':=by
     rw[EQ,show(c:Int)+(d:Int)=((c+d:Nat):Int)by omega,Bf (by omega)]
    have c2:iLt ((c+d:Nat):Int) 0=IT:=FI (by omega);unfold ccA;simp only[sT,xT,sh,reduceIte,A7,Ap,Bt,Ay,AK,AJ,t11,t10,c1,BA,t9,ix i h' hlt,AN,AQ,lu,AX,lv,BW,hc,a1,c2,a3];exact⟨_,rfl,by simp[AG,t0,t9,t10]⟩
   have AI5:i=0\/i=1:=by omega
   rcases AI5 with rfl|rfl
   ·obtain⟨e2,q1,q2,q3,q4,q5,q6⟩:=step u1 0 la.length l0 (V1.bl h') t3 (by omega)
    exact⟨hlt,e2,h',q1,rfl,by omega,q2,q3,q4,q5,by rw[q6,xZ];rfl⟩
   ·obtain⟨e2,q1,q2,q3,q4,q5,q6⟩:=step u2 la.length lb.length l1 (V2.bl h') t3 (by omega)
    exact⟨hlt,e2,h',q1,rfl,by omega,q2,q3,q4,q5,q6⟩
  ·right
   obtain rfl:i=2:=by omega
   have c1:iLt ((2:Nat):Int) ((2:Nat):Int)=IT:=Cz (xW 2);obtain⟨e2,q1,q0,q3⟩:∃e2,ccA (call AC (m+1)) e' h'=.exit 0 e2 h'/\J 0 e2=.slice (BY ⟨r,0,By⟩) 2 2/\J 3 e2=AI AT ((la.length+lb.length:Nat):Int):=by
    unfold ccA;simp only[sT,xT,sh,reduceIte,AK,AJ,t11,t10,c1];exact⟨_,rfl,by simp[AG,t0,t3]⟩
   rw[q1];exact⟨rfl,e2,rfl,q0,q3⟩
 obtain⟨e2,r1,u0,u3⟩:=AK3;obtain⟨h1,b,k1,x1,Rb,hb⟩:=i9 (m:=m) (N:=la.length+lb.length) W hl;have W1:=x1.wf;obtain⟨e3,p3,w6,w25,w26,w27⟩:∃e3,ccM (call AC (m+1)) e2 h=ccT (call AC (m+1)) e3 h1/\J 6 e3=.slice (BY ⟨b,0,By⟩) 0 (la.length+lb.length)/\J 25 e3=.slice (BY ⟨r,0,By⟩) 2 2/\J 26 e3=AI AT ((2:Nat):Int)/\J 27 e3=AI AT ((0:Nat):Int):=by
  rw[pk];unfold pn;simp only[sT,xT,sh,reduceIte,cA0,EY,u3,k1,u0,AX,ln];exact⟨_,rfl,by simp[AG]⟩
 have zl:((xx (la.length+lb.length) 0).map bv).length=la.length+lb.length:=by rw[xa,yn]
 have hL0:∀i,i<2->∃(u:xU) (l:List Nat) (L':List xU),u=(if i=0 then u1 else u2)/\l=(if i=0 then la else lb)/\L'=over (if i=0 then(xx (la.length+lb.length) 0).map bv else la.map bv++(xx lb.length 0).map bv) (if i=0 then 0 else la.length) (l.map bv)/\L'=(if i=0 then la.map bv++(xx lb.length 0).map bv else(la++lb).map bv):=λi hi=>by
  have:i=0\/i=1:=by omega
  rcases this with rfl|rfl
  ·refine⟨_,_,_,rfl,rfl,rfl,?_⟩
   simp only[If,over,List.take_zero,yT,xa,xZ];rw[<- List.map_drop,List.drop_replicate,Nat.add_sub_cancel_left]
  ·refine⟨_,_,_,rfl,rfl,rfl,?_⟩
   simp only[No (show ¬(1:Nat)=0 by omega),over,xa];rw[ADl (by rw[xa]),ym (by rw[xY,xa,xa,yn];omega),yF,yZ]
 have AK4:∃e' h',A3 ccB (call AC (m+1)) e3 h1=.exit 2 e' h'/\h.Ext h'/\h'.Row b 6 ((la++lb).map bv)/\J 6 e'=.slice (BY ⟨b,0,By⟩) (la.length+lb.length) (la.length+lb.length):=by
  refine Bd (I:=λi e' h'=>i<=2/\h.Ext h'/\J 25 e'=.slice (BY ⟨r,0,By⟩) 2 2/\J 26 e'=AI AT ((2:Nat):Int)/\J 27 e'=AI AT (i:Int)/\J 6 e'=.slice (BY ⟨b,0,By⟩) (if i=0 then 0 else if i=1 then la.length else la.length+lb.length) (la.length+lb.length)/\h'.Row b 6 (if i=0 then(xx (la.length+lb.length) 0).map bv else if i=1 then la.map bv++(xx lb.length 0).map bv else(la++lb).map bv))
   (Q:=λx=>∃e' h',x=.exit 2 e' h'/\h.Ext h'/\h'.Row b 6 ((la++lb).map bv)/\J 6 e'=.slice (BY ⟨b,0,By⟩) (la.length+lb.length) (la.length+lb.length)) 2 (by omega) (λi e' h' ⟨hi,x',t25,t26,t27,t6,R'⟩=>?_) ⟨by omega,x1,w25,w26,w27,w6,Rb⟩
  by_cases hlt:i<2
  ·left
   have W':=x'.wf;have c1:iLt (i:Int) ((2:Nat):Int)=IN:=EU hlt;obtain⟨l0,l1⟩:=ld h' (R.ext W x');have AI5:i=0\/i=1:=by omega
   have step:∀(u:xU) (l:List Nat) (c:Nat) (L:List xU),AEi ⟨r,i,By⟩ h'=.ok u h'->h'.VE u (l.map bv)->L.length=la.length+lb.length->c+l.length<=L.length->h'.Row b 6 L->J 6 e'=.slice (BY ⟨b,0,By⟩) c (la.length+lb.length)->∃e2 h2,ccB (call AC (m+1)) e' h'=.norm e2 h2/\h.Ext h2/\h2.Row b 6 (over L c (l.map bv))/\J 25 e2=.slice (BY ⟨r,0,By⟩) 2 2/\J 26 e2=AI AT ((2:Nat):Int)/\J 27 e2=AI AT ((i+1:Nat):Int)/\J 6 e2=.slice (BY ⟨b,0,By⟩) (c+l.length) (la.length+lb.length):=λu l c L lu V hL hc RL h6=>by
    have ap:=sP W' (by omega) RL V hc;rw[hL]at ap;have ho:c+(l.map bv).length<=L.length:=by rw[xa];exact hc
    have wr:=RL.AEt W' ho;have xw:=RL.AFC x' hb ho;have a3:=Cc (i:=i) (h:=h'.wr b c (l.map bv)) (by omega);refine(show ∃e2,ccB (call AC (m+1)) e' h'=.norm e2 (h'.wr b c (l.map bv))/\J 25 e2=.slice (BY ⟨r,0,By⟩) 2 2/\J 26 e2=AI AT ((2:Nat):Int)/\J 27 e2=AI AT ((i+1:Nat):Int)/\J 6 e2=.slice (BY ⟨b,0,By⟩) (c+l.length) (la.length+lb.length)from ?_).elim λe2 ⟨q1,q2⟩=>⟨e2,_,q1,xw,wr,q2⟩
    unfold ccB;simp only[sT,xT,sh,reduceIte,A7,Ap,Bt,Ay,AK,AJ,t27,t26,c1,BA,t25,ix i h' hlt,AN,AQ,lu,Bb,h6,ap,BW,a3];exact⟨_,rfl,by simp[AG,t25,t26]⟩
   obtain⟨u,l,L',hu,hl',hL',hL2⟩:=hL0 i hlt;rcases AI5 with rfl|rfl
   ·simp only[If]at hu hl' hL' hL2 R' t6
    subst hu;subst hl';obtain⟨e4,h4,q1,q2,q3,q4,q5,q6,q7⟩:=step u l 0 _ l0 (.inl (V1.ext W x')) zl (by rw[zl];omega) R' t6;refine⟨hlt,e4,h4,q1,by omega,q2,q4,q5,q6,by rw[q7,xZ];rfl,?_⟩;rw[<- hL',hL2]at q3;exact q3
   ·have n1:¬(1:Nat)=0:=by omega
    simp only[No n1]at hu hl' hL' hL2 R' t6;subst hu;subst hl';have hz:(la.map bv++(xx l.length 0).map bv).length=la.length+l.length:=by rw[xY,xa,xa,yn]
    obtain⟨e4,h4,q1,q2,q3,q4,q5,q6,q7⟩:=step u l la.length _ l1 (V2.ext W x') hz (by rw[hz];exact xW _) R' t6;refine⟨hlt,e4,h4,q1,by omega,q2,q4,q5,q6,q7,?_⟩;rw[<- hL',hL2]at q3;exact q3
  ·right
   obtain rfl:i=2:=by omega
   have c1:iLt ((2:Nat):Int) ((2:Nat):Int)=IT:=Cz (xW 2);obtain⟨e4,q1,q6⟩:∃e4,ccB (call AC (m+1)) e' h'=.exit 2 e4 h'/\J 6 e4=.slice (BY ⟨b,0,By⟩) (la.length+lb.length) (la.length+lb.length):=by
    unfold ccB;simp only[sT,xT,sh,reduceIte,AK,AJ,t27,t26,c1];exact⟨_,rfl,by simp[AG,t6]⟩
   rw[q1];exact⟨rfl,e4,h',rfl,x',R',q6⟩
 obtain⟨e4,h4,r4,x4,R4,z6⟩:=AK4;refine⟨h4,b,?_,x4,R4,hb⟩;rw[pU rfl,rI,p1,po];simp only[A7,Ap,r1,A5,Ay];rw[p3,pp];simp only[A7,Ap,r4,A5,Ay];unfold ccE;simp only[sT,xT,sh,reduceIte,z6,lV0]
theorem V8(z:h0.Ext h)(hk:h0.next<=k)(L:k<=h.next)(o:h.AFu k 5 v (xs.map bv))(y:xs.length<=10000)(K:∀x∈xs,x<256)(B:h0.Wf)(p:h0.VE u (l.map bv))(Y:l.length<=65536)(M:∀x∈l,x<256):
  ∃(h':Hp) (w:xU) (ys:List Nat),call AC (m+3) 47 [v,u] h=.ok w h'/\h0.Ext h'/\h'.AE7 w (ys.map bv)/\(∀x∈ys,x<256)/\ys.length<=800000/\ys=xs++(BD l.length++l):=by
 have T:=z.wf;have P:=p.bl h;have H:Ct .u64 (AI AT (l.length:Int)) h=.ok (.int .u64 (l.length:Int)) h:=by rw[Bu,DJ (by omega)]
 obtain⟨a,c,g,i,Q,n1,W⟩:=OM (n:=m+1) z hk L o (by omega) (N:=l.length) (by omega);have g:call AC (m+2) 79 [v,.int .u64 (l.length:Int)] h=.ok c a:=g;have d:=i.wf;have q:=Q.vals;have r:=p.ext B i;obtain⟨C,D,U⟩:=Kb q;obtain⟨E,G,V⟩:=uO r;have S:=G9 (n:=l.length) (by omega);have Z:=Lc l.length;have sl:=λ(F:AEh) (e:Env) (t:J 9 e=c) (s:J 1 e=u)=>(show Ab 2 (BP Ja.zero 2) [(0,1,J 9),(1,1,J 1)] F e a=.ok (.slice (BY ⟨a.next,0,By⟩) 2 2) (a.AEg 0 [c,u])by
  rw[lw,B5,Ad (hk:=by rw[t];exact C),t,D,Ad (hk:=by rw[s];exact E),s,G];simp only[over,yd,xh,yU,AA0,AAo,zp,yT,zK,xV,zg,if_true,Bo,reduceIte];rw[Cm d];rfl)
 have f:=(Hp.Ext.refl d).AEg 0 [c,u];have j:=Hp.Row.new d 0 [c,u];generalize a.AEg 0 [c,u]=X at sl f j;obtain⟨I,b,O,R,A,_⟩:=UM (m:=m) f.wf j (q.ext d f) (r.ext d f) (by rw[xY];omega);refine⟨I,.slice (BY ⟨b,0,By⟩) ((xs++BD l.length).length+l.length) ((xs++BD l.length).length+l.length),(xs++BD l.length)++l,?_,(i.trans f).trans R,.inr ⟨b,0,_,6,_,by rw[xa,show(xs++BD l.length++l).length=(xs++BD l.length).length+l.length from xY],A,by omega,by rw[yk,yz]⟩,λx y=>?_,by rw[xY,xY];omega,yD _ _ _⟩
 ·rw[ox rfl]
  unfold d47;simp only[iN,xV,sT,xT,sh,reduceIte,AX,P,Bi,H,cA0,g,sl,O,lV0]
 ·rcases yO.1 y with a|a
  ·rcases yO.1 a with a|a
   ·exact K x a
   ·exact IQ _ x a
  ·exact M x a
end
theorem tM:ptK=BB (AY 1 ptB) ptI:=rfl
theorem dw:ptL=kh:=rfl
theorem tP:ptS=BB (AY 0 (A3 ptL)) ptE:=rfl
theorem tN:ptM=tO:=rfl
theorem rB:d49=iL:=rfl
theorem l7:BP ty3.zero 6=Hl [0,0,0,0,0,0]:=by kernel_rfl
theorem lz:BP ty3.zero 4=Hl [0,0,0,0]:=by kernel_rfl
def FJ(x:Kt):List Nat:=[x.a.toNat,x.b.toNat,x.c.toNat,x.s].flatMap BD
def FO(lf sq:Int)(op:Nat)(z room:Int)(xs:List Kt)(l:List Nat):List Nat:=([2]++[lf.toNat,sq.toNat,op,z.toNat,room.toNat,xs.length].flatMap BD++xs.flatMap FJ)++(BD l.length++l)
section
variable {F:AEh}{e:Env}{h h' hB g:Hp}{m n k r i b tb op:Nat}{lf sq z room:Int}{v w iv bw:xU}{l ys T:List Nat}{xs:List Kt}{x:Kt}
theorem Hp.AFu.ext{xs:List xU}(o:h.AFu k n v xs)(a:h.Wf)(y:h.Ext h'):h'.AFu k n v xs:=o.imp (λo=>o.ext a y) λ⟨b,l,c,d,e⟩=>⟨b,l,c,d,e.ext a y⟩
theorem Hp.AFu.lt{xs:List xU}(o:h.AFu k n v xs)(d:h.Wf){b:Nat}(f:AE1 v b):b<h.next:=by
 obtain⟨i,j,g,a⟩:=f;rcases o with (⟨c,_⟩|⟨e,c,r,_⟩)|⟨e,l,_,c,r⟩
 ·rw[c]at a;cases a
 ·rw[c]at a
  injection a with a
  injection a with a
  injection a with a
  rw[<- a];exact r.lt d
 ·rw[c]at a
  injection a with a
  injection a with a
  injection a with a
  rw[<- a];exact r.lt d
theorem Zz(n:h.Wf){g1 g2 g3 g4 g5 g6:O}{a b c d f i:Nat}(g:g1 e=AI AT a)(h2:g2 e=AI AT b)(j:g3 e=AI AT c)(k:g4 e=AI AT d)(l:g5 e=AI AT f)(m:g6 e=AI AT i):
  Ab 6 (BP ty3.zero 6) [(0,1,g1),(1,1,g2),(2,1,g3),(3,1,g4),(4,1,g5),(5,1,g6)] F e h=.ok (.slice (BY ⟨h.next,0,By⟩) 6 6) (h.AEg 0 (Hl [a,b,c,d,f,i])):=by
 rw[l7,B5,Ad (hk:=by rw[g];rfl),g,Ad (hk:=by rw[h2];rfl),h2,Ad (hk:=by rw[j];rfl),j,Ad (hk:=by rw[k];rfl),k,Ad (hk:=by rw[l];rfl),l,Ad (hk:=by rw[m];rfl),m];simp only[Hl,AD5,Cj,yd,xh,yU,over,AA0,AAo,zp,yT,zK,xV,zg,if_true,Bo,reduceIte];rw[Cm n];rfl
theorem nw(j:h.Wf){g1 g2 g3 g4:O}{a b c d:Nat}(f:g1 e=AI AT a)(h2:g2 e=AI AT b)(g:g3 e=AI AT c)(i:g4 e=AI AT d):
  Ab 4 (BP ty3.zero 4) [(0,1,g1),(1,1,g2),(2,1,g3),(3,1,g4)] F e h=.ok (.slice (BY ⟨h.next,0,By⟩) 4 4) (h.AEg 0 (Hl [a,b,c,d])):=by
 rw[lz,B5,Ad (hk:=by rw[f];rfl),f,Ad (hk:=by rw[h2];rfl),h2,Ad (hk:=by rw[g];rfl),g,Ad (hk:=by rw[i];rfl),i];simp only[Hl,AD5,Cj,yd,xh,yU,over,AA0,AAo,zp,yT,zK,xV,zg,if_true,Bo,reduceIte];rw[Cm j];rfl
theorem EK{z:Int}(h:0<=z):∃n:Nat,z=(n:Int):=zn h
theorem NS(o:AFi x):∃a b c:Nat,x.a=(a:Int)/\x.b=(b:Int)/\x.c=(c:Int)/\a<=1099511627776/\b<=254/\c<=1099511627776:=by
 have:=o.1;unfold nmQ wiQ at this;simp only[yE,decide_eq_true_eq]at this;obtain⟨a,d⟩:=EK this.1.1.1;obtain⟨b,e⟩:=EK this.1.2.1;obtain⟨c,f⟩:=EK (show 0<=x.c by omega);exact⟨a,b,c,d,e,f,by omega,by omega,by omega⟩
theorem tQ(L:hB.Wf)(p:hB.Ext h)(o:h.AFu hB.next 5 v (ys.map bv))(hy:ys.length<=8000)(S:∀x∈ys,x<256)(I:hB.IS iv xs)(H:∀x∈xs,AFi x)(hi:xs[i]? =BY x)(s6:J 6 e=v)(a0:J 30 e=iv)(a1:J 32 e=AI AT (i:Int)):
  ∃(c:Env) (h':Hp) (v':xU) (q:List Nat),ptB (call AC (m+2)) e h=.norm c h'/\hB.Ext h'/\h'.AFu hB.next 5 v' (q.map bv)/\q.length<=ys.length+40/\(∀x∈q,x<256)/\q=ys++FJ x/\J 6 c=v'/\∀j,j=0\/j=3\/j=30\/j=31\/j=32->J j c=J j e:=by
 have r:=p.wf;obtain⟨b,X,ld⟩:=(I.ext L p).at hi;obtain⟨d,f,g,E,l,G,la,lb,lc⟩:=NS (H x (xy hi));obtain⟨g1,a,M,y,B,k,q1⟩:=aJ (n:=4) r YJ rfl (vs:=Bv x) rfl rfl;have y:AEn 4 (pt h.next) (DF x) g1=.ok AEl a:=y;have s:=B.wf;have Y:AEi ⟨h.next,0,By⟩ a=.ok (AI AT (d:Int)) a:=by rw[<- E];exact k.AEi (off:=0) (by show 0<4;omega)
 have Z:AEi ⟨h.next,1,By⟩ a=.ok (AI AT (f:Int)) a:=by rw[<- l];exact k.AEi (off:=1) (by show 1<4;omega)
 have l2:AEi ⟨h.next,2,By⟩ a=.ok (AI AT (g:Int)) a:=by rw[<- G];exact k.AEi (off:=2) (by show 2<4;omega)
 have l3:AEi ⟨h.next,3,By⟩ a=.ok (.int .u8 (x.s:Int)) a:=k.AEi (off:=3) (by show 3<4;omega);have hs:x.s<=2:=by have:=(H x (xy hi)).2;omega
 have N:Ct .i64 (.int .u8 (x.s:Int)) a=.ok (AI AT (x.s:Int)) a:=by rw[Bu,Bf (by omega)]
 have sl:=λ(F:AEh) (e:Env) (O:J 38 e=AI AT (d:Int)) (P:J 40 e=AI AT (f:Int)) (t:J 42 e=AI AT (g:Int)) (Q:J 45 e=AI AT (x.s:Int))=>nw (F:=F) s O P t Q
 have K:=(Hp.Ext.refl s).AEg 0 (Hl [d,f,g,x.s]);have D:=Hp.Row.new s 0 (Hl [d,f,g,x.s]);generalize a.AEg 0 (Hl [d,f,g,x.s])=R at sl K D;have C:=B.trans K;have n1:=B.next;have n0:=p.next;obtain⟨u,A,a2,w,x3,o3,V,T,_,_,t⟩:=VJ (m:=m) (ns:=[d,f,g,x.s]) (p.trans C) (xW _) (by have:=C.next;omega) (o.ext r C) (by show ys.length+10 * 4<=900000;omega) S D (λl=>by
  have:=o.lt r l;omega) (λz W=>by
   simp only[yC,AAu,or_false]at W;omega)
 have w:call AC (m+2) 45 [v,.slice (BY ⟨a.next,0,By⟩) 4 4] R=.ok A u:=w;refine(show ∃c,ptB (call AC (m+2)) e h=.norm c u/\J 6 c=A/\∀j,j=0\/j=3\/j=30\/j=31\/j=32->J j c=J j e from ?_).elim λc ⟨p1,p2,p3⟩=>⟨c,u,A,a2,p1,x3,o3,V,T,by rw[t];unfold FJ;rw[E,l,G];rfl,p2,p3⟩
 unfold ptB;simp only[sT,xT,sh,reduceIte,BA,a0,a1,X,An,Ah,ld,M,AW,y,AH,AO,xZ,AN,AQ,Y,Z,l2,l3,Bi,N,sl,cA0,s6,w];refine⟨_,rfl,by simp[AG],λj U=>?_⟩;rcases U with rfl|rfl|rfl|rfl|rfl<;>simp only[AG,xT,sh,reduceIte]
theorem kj(E:hB.Wf)(x0:hB.Ext h)(o:h.AFu hB.next 5 v (ys.map bv))(hy:ys.length<=1000)(N:∀x∈ys,x<256)(I:hB.IS iv xs)(P:∀x∈xs,AFi x)(hn:xs.length<=50)(s6:J 6 e=v)(T:J 30 e=iv)(U:J 31 e=AI AT (xs.length:Int))(V:J 32 e=AI AT ((0:Nat):Int)):
  ∃(b:Env) (h':Hp) (v':xU) (c:List Nat),A3 ptL (call AC (m+2)) e h=.exit 0 b h'/\hB.Ext h'/\h'.AFu hB.next 5 v' (c.map bv)/\c.length<=8000/\(∀x∈c,x<256)/\c=ys++xs.flatMap FJ/\J 6 b=v'/\J 0 b=J 0 e/\J 3 b=J 3 e:=by
 refine Bd (I:=λi b h'=>∃(v':xU) (c:List Nat),i<=xs.length/\hB.Ext h'/\h'.AFu hB.next 5 v' (c.map bv)/\c.length<=1000+40*i/\(∀x∈c,x<256)/\c=ys++(xs.take i).flatMap FJ/\J 6 b=v'/\J 32 b=AI AT (i:Int)/\∀a,a=0\/a=3\/a=30\/a=31->J a b=J a e)
  (Q:=λq=>∃(b:Env) (h':Hp) (v':xU) (c:List Nat),q=.exit 0 b h'/\hB.Ext h'/\h'.AFu hB.next 5 v' (c.map bv)/\c.length<=8000/\(∀x∈c,x<256)/\c=ys++xs.flatMap FJ/\J 6 b=v'/\J 0 b=J 0 e/\J 3 b=J 3 e) xs.length (by omega) (λi b h' ⟨v',c,hi,D,y,hl,t,u,t6,t32,j⟩=>?_)
  ⟨v,ys,yH _,x0,o,by omega,N,(yF _).symm,s6,V,λ_ _=>rfl⟩
 have t31:=(j 31 (by omega)).trans U;by_cases l:i<xs.length
 ·left
  have n:=EU l;obtain⟨x,w⟩:∃x,xs[i]? =BY x:=⟨_,xc l⟩;obtain⟨d,p,r,z,A⟩:∃d,ptL (call AC (m+2)) b h'=ptK (call AC (m+2)) d h'/\J 6 d=v'/\J 32 d=AI AT (i:Int)/\∀a,a=0\/a=3\/a=30\/a=31->J a d=J a b:=by
   rw[dw];unfold kh;simp only[sT,xT,sh,reduceIte,AK,AJ,t32,t31,n];refine⟨_,rfl,by simp[AG,t6],by simp[AG,t32],λa f=>?_⟩;rcases f with rfl|rfl|rfl|rfl<;>simp only[AG,xT,sh,reduceIte]
  obtain⟨s,k,B,a0,S,x2,R,a1,O,G,Z,C⟩:=tQ (m:=m) E D y (by omega) t I P w r ((A 30 (by omega)).trans ((j 30 (by omega)).trans T)) z;have Y:=(C 32 (by omega)).trans z;have F:=Cc (i:=i) (h:=k) (by omega);obtain⟨g,H,K,L,M⟩:∃g,ptI (call AC (m+2)) s k=.norm g k/\J 32 g=AI AT ((i+1:Nat):Int)/\J 6 g=B/\∀a,a=0\/a=3\/a=30\/a=31->J a g=J a s:=by
   unfold ptI;simp only[sT,xT,sh,reduceIte,BW,Y,F];refine⟨_,rfl,by simp[AG],by simp[AG,Z],λa f=>?_⟩;rcases f with rfl|rfl|rfl|rfl<;>simp only[AG,xT,sh,reduceIte]
  refine⟨l,g,k,?_,B,a0,l,x2,R,by omega,O,by rw[G,u,yD,AAT,w,AAg];exact congrArg (λq=>ys++((xs.take i).flatMap FJ++q)) (yF _).symm,L,K,λa f=>(M a f).trans ((C a (by omega)).trans ((A a f).trans (j a f)))⟩;rw[p,tM];simp only[A7,Ap,S,Bt,Ay,H]
 ·right
  have n:=Cz (show xs.length<=i by omega);obtain⟨d,p,r,W,X⟩:∃d,ptL (call AC (m+2)) b h'=.exit 0 d h'/\J 6 d=v'/\J 0 d=J 0 b/\J 3 d=J 3 b:=by
   rw[dw];unfold kh;simp only[sT,xT,sh,reduceIte,AK,AJ,t32,t31,n];exact⟨_,rfl,by simp[AG,t6]⟩
  rw[p];exact⟨rfl,d,h',v',c,rfl,D,y,by omega,t,by rw[u,ze (by omega)],r,W.trans (j 0 (by omega)),X.trans (j 3 (by omega))⟩
theorem VK(j:h.Wf)(R:h.Row tb 0 (T.map wv))(hT:AFQ T)(t:AFv h lf sq op z iv bw room xs l)(a4:∀x∈l,x<256):
  ∃h' w k,call AC (m+7) 49 [pt tb,Be lf sq op z iv bw room] h=.ok (.tuple ⟨[w,AI AT 0]⟩) h'/\h.Ext h'/\Mk h' k w (DH T (FO lf sq op z room xs l))/\h.next<=k/\(FO lf sq op z room xs l).length<=800000/\∀x∈FO lf sq op z room xs l,x<256:=by
 have hQ:=t.hd;unfold hdQ wiQ at hQ;simp only[yE,decide_eq_true_eq]at hQ;obtain⟨lf,rfl⟩:=EK (show 0<=lf by omega);obtain⟨sq,rfl⟩:=EK (show 0<=sq by omega);obtain⟨z,rfl⟩:=EK t.z0.1;obtain⟨room,rfl⟩:=EK t.rm.1;have V:=λ(F:AEh) (e:Env) (he:J 1 e=Be lf sq op z iv bw room)=>(show CV (J 1) F e h=.ok (pt h.next) (h.AEg 0 (B9 lf sq op z iv bw room))by rw[DN,he,DM j];rfl)
 have f:=(Hp.Ext.refl j).AEg 0 (B9 lf sq op z iv bw room);have C:=Hp.Row.new j 0 (B9 lf sq op z iv bw room);generalize h.AEg 0 (B9 lf sq op z iv bw room)=G at V f C;have t1:AFv G lf sq op z iv bw room xs l:=⟨t.hd,t.z0,t.is.ext j f,t.nx,t.ok,t.V.ext j f,t.nl,t.rm,t.no,t.i1,t.b1⟩;obtain⟨a,k2,s⟩:=Pa (m:=m) f.wf t1;have d:=s.wf;have N:=f.trans s;have D:=C.ext f.wf s;have ld:loadN 7 ⟨h.next,0,By⟩ G=.ok (Be lf sq op z iv bw room) G:=(B7 C).2.2.2;obtain⟨i,p1,s0,s3⟩:∃i,iL (call AC (m+6)) (Au e0 0 [pt tb,Be lf sq op z iv bw room]) h=ptM (call AC (m+6)) i a/\J 0 i=pt tb/\J 3 i=pt h.next:=by
  unfold iL;simp only[iN,xV,sT,xT,sh,reduceIte,V,An,Ah,ld,cA0,k2,BJ,BI,yY];exact⟨_,rfl,by simp[AG]⟩
 have s2:=λ(F:AEh) (e:Env)=>(show Ab 1 (BP ty5.zero 1) [(0,1,W (.int .u8 2))] F e a=.ok (.slice (BY ⟨a.next,0,By⟩) 1 1) (a.AEg 0 [bv 2])by rw[YG];exact Fk d rfl rfl rfl)
 have B:=(Hp.Ext.refl d).AEg 0 [bv 2];have S:=Hp.Row.new d 0 [bv 2];have n3:(a.AEg 0 [bv 2]).next=a.next+1:=rfl;generalize a.AEg 0 [bv 2]=b at s2 B S n3;have u:=B.wf;have p:=D.ext d B;have l0:AEi ⟨h.next,0,By⟩ b=.ok (AI AT (lf:Int)) b:=p.AEi (off:=0) (by show 0<7;omega);have l1:AEi ⟨h.next,1,By⟩ b=.ok (AI AT (sq:Int)) b:=p.AEi (off:=1) (by show 1<7;omega);have l2:AEi ⟨h.next,2,By⟩ b=.ok (.int .u8 (op:Int)) b:=p.AEi (off:=2) (by show 2<7;omega);have l6:AEi ⟨h.next,6,By⟩ b=.ok (AI AT (room:Int)) b:=p.AEi (off:=6) (by show 6<7;omega);obtain⟨l3,l4,_,_⟩:=B7 p;have ln:=λg=>t.is.len g
 have cv:Ct .i64 (.int .u8 (op:Int)) b=.ok (AI AT (op:Int)) b:=by rw[Bu,Bf (by omega)]
 have sl:=λ(F:AEh) (e:Env) (i:J 14 e=AI AT (lf:Int)) (c:J 16 e=AI AT (sq:Int)) (X:J 19 e=AI AT (op:Int)) (e4:J 21 e=AI AT (z:Int)) (q:J 23 e=AI AT (room:Int)) (r:J 26 e=AI AT (xs.length:Int))=>Zz (F:=F) u i c X e4 q r
 have P:=(Hp.Ext.refl u).AEg 0 (Hl [lf,sq,op,z,room,xs.length]);have U:=Hp.Row.new u 0 (Hl [lf,sq,op,z,room,xs.length]);generalize b.AEg 0 (Hl [lf,sq,op,z,room,xs.length])=Y at sl P U;have a0:=B.trans P;have o4:Y.AFu a.next 5 (.slice (BY ⟨a.next,0,By⟩) 1 1) ([2].map bv):=.inr ⟨a.next,[2],rfl,rfl,S.ext u P⟩;obtain⟨Z,v5,a5,K,O,o5,a3,a1,_,_,q⟩:=VJ (m:=m+4) (ns:=[lf,sq,op,z,room,xs.length]) a0 (xW _) a0.next o4 (by show 1+10 * 6<=900000;omega) (λx hx=>by rw[yG.1 hx];omega) U (λ⟨_,_,_,o⟩=>by
  injection o with o
  injection o with o
  injection o with o
  omega) (λa7 hq=>by
   have hz:=t.z0;have hr:=t.rm;have hn:=t.nx;simp only[yC,AAu,or_false]at hq;omega)
 have K:call AC (m+6) 45 [.slice (BY ⟨a.next,0,By⟩) 1 1,.slice (BY ⟨b.next,0,By⟩) 6 6] Y=.ok v5 Z:=K;have W5:=O.wf;obtain⟨_,m4,_,_⟩:=B7 (D.ext d O);obtain⟨c,p2,t0,t3,t6,t30,t31,t32⟩:∃c,ptM (call AC (m+6)) i a=ptS (call AC (m+6)) c Z/\J 0 c=pt tb/\J 3 c=pt h.next/\J 6 c=v5/\J 30 c=iv/\J 31 c=AI AT (xs.length:Int)/\J 32 c=AI AT ((0:Nat):Int):=by
  rw[tN];unfold tO;simp only[sT,xT,sh,reduceIte,s2,AH,AO,xZ,AN,AQ,s3,l0,l1,l2,Bi,cv,l3,l6,l4,AX,ln,sl,cA0,K,m4];exact⟨_,rfl,by simp[AG,s0,s3]⟩
 have I2:=t1.is.ext f.wf s;obtain⟨X,h6,v6,a8,r6,y,o6,a6,a2,r,u6,u0,u3⟩:=kj (m:=m+4) d O o5 (by have:a5.length<=1+10*6:=a3;omega) a1 I2 t.ok t.nx t6 t30 t31 t32;have W6:=y.wf;obtain⟨_,_,m5,_⟩:=B7 (D.ext d y);obtain⟨h7,w7,a9,L,A,V7,H,I,E⟩:=V8 (m:=m+3) y (xW _) y.next o6 (by omega) a2 d (.inl (t1.V.ext f.wf s)) t.nl a4;have L:call AC (m+6) 47 [v6,bw] h6=.ok w7 h7:=L;obtain⟨h8,w8,M,x8,Q⟩:=MX (n:=m+4) A.wf ((R.ext j N).ext d A) hT V7 H (yS I (by omega));have M:call AC (m+6) 46 [pt tb,w7] h7=.ok w8 h8:=M;refine⟨h8,w8,_,?_,(N.trans A).trans x8,by rw[E,r,q]at Q;unfold FO;exact Q,(N.trans A).next,by rw[E,r,q]at I;exact I,by rw[E,r,q]at H;exact H⟩;rw[oz rfl,rB,p1,p2,tP];simp only[A7,Ap,r6,A5,Ay];unfold ptE;simp only[sT,xT,sh,reduceIte,AH,AO,xZ,AN,AQ,u3,t3,m5,cA0,u6,L,u0,t0,M,Av,CO]
end
def Gb(lf sq:Int)(op:Nat)(a b c:Int)(l:List Nat):List Nat:=([1]++[lf.toNat,sq.toNat,op,a.toNat,b.toNat,c.toNat].flatMap BD)++(BD l.length++l)
section
variable {B r l:List Nat}{p v most op:Nat}{lf sq a b c:Int}
theorem EL(h:B.drop p=BD v++r)(a:v<=most)(b:most<=1099511627776):nx B most (IT,p)=(v,(IT,p+(BD v).length))/\B.drop (p+(BD v).length)=r:=by
 refine⟨?_,by rw[<- ABN,h,ABM]⟩;unfold nx;simp only[h,VZ (v:=v) (show v<18446744073709551616 by omega) r];rw[No (by decide),If a]
theorem Wk(h:B.drop p=BD l.length++l)(c:l.length<=65536)(e:p<=B.length):Ey B (IT,p)=(IN,l):=by
 have d:B.length=p+((BD l.length).length+l.length):=by
  have:=congrArg AAC h;rw[yX,xY]at this;omega
 have a:B.drop (p+(BD l.length).length)=l:=by rw[<- ABN,h,ABM]
 have b:Hy B p=BY (l,p+(BD l.length).length+l.length):=by
  unfold Hy;simp only[h,VZ (v:=l.length) (by omega) l];rw[If (by omega),a,yz]
 unfold Ey;simp only[b];rw[No (by decide),decide_eq_true (by omega)]
theorem Vx(d:Ca lf sq op a b c l.length=IN):(1<=lf/\lf<=1099511627776)/\(1<=sq/\sq<=1099511627776)/\(1<=op/\op<=6)/\(0<=a/\a<=1099511627776)/\(0<=b/\b<=254)/\(0<=c/\c<=1099511627776)/\l.length<=65536:=by
 have e:0<=Dp op:=by
  unfold Dp;split<;>omega
 unfold Ca hdQ nmQ wiQ at d;simp only[yE,decide_eq_true_eq]at d;split at d<;>simp only[decide_eq_true_eq]at d<;>omega
theorem Xq(p:Ca lf sq op a b c l.length=IN):ZY (Gb lf sq op a b c l) lf sq op a b c l/\(Ey (Gb lf sq op a b c l) (six (Gb lf sq op a b c l)).2).1=IN:=by
 obtain⟨x,y,z,A,C,D,n⟩:=Vx p;have e0:(Gb lf sq op a b c l).drop 1=BD lf.toNat++(BD sq.toNat++(BD op++(BD a.toNat++(BD b.toNat++(BD c.toNat++(BD l.length++l)))))):=by
  unfold Gb;simp only[AAM,ACE,yF,yD,AAO,zK,yT,ADF,yk]
 have o:FE 1 (Gb lf sq op a b c l)=IT:=by
  unfold FE Gb;rfl
 have d:=congrArg AAC e0;rw[yX]at d;generalize Gb lf sq op a b c l=B at *;obtain⟨q,g⟩:=EL (most:=1099511627776) e0 (by omega) (by omega);obtain⟨r,h⟩:=EL (most:=1099511627776) g (by omega) (by omega);obtain⟨s,i⟩:=EL (most:=9) h (by omega) (by omega);obtain⟨t,j⟩:=EL (most:=1099511627776) i (by omega) (by omega);obtain⟨u,k⟩:=EL (most:=255) j (by omega) (by omega);obtain⟨w,m⟩:=EL (most:=1099511627776) k (by omega) (by omega);have E:1<=B.length:=by
  cases B with
  |nil=>simp only[xY]at d;have:=Lc lf.toNat;simp at d;omega
  |cons F B=>rw[xh];omega
 have f:=Wk m n (by simp only[xY]at d;omega);have e:six B=((lf.toNat,sq.toNat,op,a.toNat,b.toNat,c.toNat),(IT,1+(BD lf.toNat).length+(BD sq.toNat).length+(BD op).length+(BD a.toNat).length+(BD b.toNat).length+(BD c.toNat).length)):=by
  unfold six;simp only[o,q,r,s,t,u,w]
 refine⟨?_,by rw[e];exact congrArg Prod.fst f⟩;unfold ZY;rw[e,f];exact⟨(zh (by omega)).symm,(zh (by omega)).symm,rfl,(zh (by omega)).symm,(zh (by omega)).symm,(zh (by omega)).symm,rfl⟩
theorem Zl{T:List Nat}(d:Ca lf sq op a b c l.length=IN):Je T (DH T (Gb lf sq op a b c l))=0:=by
 obtain⟨⟨e,f,g,h,i,j,k⟩,m⟩:=Xq d;unfold Je;rw[Es];simp only;rw[<- e,<- f,<- g,<- h,<- i,<- j,<- k,m,d];rfl
end
theorem oJ:BQ 11 [.t (J 2)] d11:=BR (by kernel_rfl) rfl
theorem Z8:BQ 20 [.t (J 4),.t (J 5)] d20:=BR (by kernel_rfl) rfl
theorem oN:BQ 22 [.t (J 4)] d22:=BR (by kernel_rfl) rfl
theorem oO:BQ 23 [.cN (J 4) 7,.t (J 5)] d23:=BR (by kernel_rfl) rfl
theorem oh:BQ 43 [.t (J 4)] d43:=BR (by kernel_rfl) rfl
theorem aY:d20=aZ:=rfl
section
variable {F:AEh}{e:Env}{h h' g:Hp}{T l:List Nat}{m n k tb op:Nat}{lf sq a b c:Int}{u w:xU}
theorem fw(d:∀x∈l,x<256):∀x∈Gb lf sq op a b c l,x<256:=λx hx=>by
 unfold Gb at hx;rcases yO.1 hx with hx|hx
 ·rcases yO.1 hx with hx|hx
  ·rw[yG.1 hx];omega
  ·obtain⟨n,_,e⟩:=ADV.1 hx
   exact IQ _ x e
 ·rcases yO.1 hx with hx|hx
  ·exact IQ _ x hx
  ·exact d x hx
theorem ZA(q:h.Wf)(R:h.Row tb 0 (T.map wv))(hT:AFQ T)(a2:h.VE u (l.map bv))(f:∀x∈l,x<256)(a6:op<256):
  ∃h',h.Ext h'/\((Ca lf sq op a b c l.length=IT/\call AC (m+6) 20 [pt tb,CQ lf sq op a b c u] h=.ok (.tuple ⟨[AEk,AI AT 110]⟩) h')\/
   (Ca lf sq op a b c l.length=IN/\∃w k,call AC (m+6) 20 [pt tb,CQ lf sq op a b c u] h=.ok (.tuple ⟨[w,AI AT 0]⟩) h'/\Mk h' k w (DH T (Gb lf sq op a b c l))/\h.next<=k/\(Gb lf sq op a b c l).length<=800000)):=by
 have E:=λ(F:AEh) (e:Env) (he:J 1 e=CQ lf sq op a b c u)=>E9 (F:=F) q he
 have j:=(Hp.Ext.refl q).AEg 0 (CM lf sq op a b c u);have s:=Hp.Row.new q 0 (CM lf sq op a b c u);generalize h.AEg 0 (CM lf sq op a b c u)=h1 at E j s;have Q:=a2.ext q j;have Z:=(Br s).2.2.2.2.2.2.2;obtain⟨d,p,r⟩:=LX (m:=m+2) (AEr:=lf) (seq:=sq) (op:=op) (a:=a) (b:=b) (c:=c) j.wf a6 (λg=>Q.bl g);have p:call AC (m+5) 12 [CQ lf sq op a b c u] h1=.ok (.bool (Ca lf sq op a b c l.length)) d:=p;have i:=r.wf;have A:=j.trans r;cases H:Ca lf sq op a b c l.length
 ·rw[H]at p
  refine⟨d,A,.inl ⟨rfl,?_⟩⟩;rw[Z8 rfl,aY];unfold aZ;simp only[iN,xV,sT,xT,sh,reduceIte,E,An,Ah,Z,cA0,p,BJ,BI,yg,Av,CO]
 ·rw[H]at p
  obtain⟨g1,g2,g3,g4,g5,g6,g7⟩:=Vx H;obtain⟨lf,rfl⟩:=EK (show 0<=lf by omega);obtain⟨sq,rfl⟩:=EK (show 0<=sq by omega);obtain⟨a,rfl⟩:=EK g4.1;obtain⟨b,rfl⟩:=EK g5.1;obtain⟨c,rfl⟩:=EK g6.1;obtain⟨o,p1,s0,s3⟩:∃o,aZ (call AC (m+5)) (Au e0 0 [pt tb,CQ lf sq op a b c u]) h=paM (call AC (m+5)) o d/\J 0 o=pt tb/\J 3 o=pt h.next:=by
   unfold aZ;simp only[iN,xV,sT,xT,sh,reduceIte,E,An,Ah,Z,cA0,p,BJ,BI,yY];exact⟨_,rfl,by simp[AG]⟩
  have s2:=λ(F:AEh) (e:Env)=>(show Ab 1 (BP ty5.zero 1) [(0,1,W (.int .u8 1))] F e d=.ok (.slice (BY ⟨d.next,0,By⟩) 1 1) (d.AEg 0 [bv 1])by rw[YG];exact Fk i rfl rfl rfl)
  have D:=(Hp.Ext.refl i).AEg 0 [bv 1];have O:=Hp.Row.new i 0 [bv 1];have n3:(d.AEg 0 [bv 1]).next=d.next+1:=rfl;generalize d.AEg 0 [bv 1]=z at s2 D O n3;have t:=D.wf;have a1:=(s.ext j.wf r).ext i D;obtain⟨l0,l1,l2,l3,l4,l5,_,_⟩:=Br a1;have cv:Ct .i64 (.int .u8 (op:Int)) z=.ok (AI AT (op:Int)) z:=by rw[Bu,Bf (by omega)]
  have sl:=λ(F:AEh) (e:Env) (o:J 12 e=AI AT (lf:Int)) (e2:J 14 e=AI AT (sq:Int)) (e3:J 17 e=AI AT (op:Int)) (e4:J 19 e=AI AT (a:Int)) (y:J 21 e=AI AT (b:Int)) (e6:J 23 e=AI AT (c:Int))=>Zz (F:=F) t o e2 e3 e4 y e6
  have M:=(Hp.Ext.refl t).AEg 0 (Hl [lf,sq,op,a,b,c]);have P:=Hp.Row.new t 0 (Hl [lf,sq,op,a,b,c]);generalize z.AEg 0 (Hl [lf,sq,op,a,b,c])=U at sl M P;have a0:=D.trans M;have o4:U.AFu d.next 5 (.slice (BY ⟨d.next,0,By⟩) 1 1) ([1].map bv):=.inr ⟨d.next,[1],rfl,rfl,O.ext t M⟩;obtain⟨V,v5,a7,I,B,o5,a5,a3,_,_,y⟩:=VJ (m:=m+3) (ns:=[lf,sq,op,a,b,c]) a0 (xW _) a0.next o4 (by show 1+10 * 6<=900000;omega) (λx hx=>by rw[yG.1 hx];omega) P (λ⟨_,_,_,f⟩=>by
   injection f with f
   injection f with f
   injection f with f
   omega) (λa8 hq=>by
    simp only[yC,AAu,or_false]at hq;omega)
  have I:call AC (m+5) 45 [.slice (BY ⟨d.next,0,By⟩) 1 1,.slice (BY ⟨z.next,0,By⟩) 6 6] U=.ok v5 V:=I;have W5:=B.wf;obtain⟨_,_,_,_,_,_,m6,_⟩:=Br ((s.ext j.wf r).ext i B);obtain⟨X,w7,a9,K,C,V7,a4,G,S⟩:=V8 (m:=m+2) B (xW _) B.next o5 (by have:a7.length<=1+10*6:=a5;omega) a3 i (Q.ext j.wf r) g7 f;have K:call AC (m+5) 47 [v5,u] V=.ok w7 X:=K;obtain⟨Y,w8,L,x8,N⟩:=MX (n:=m+3) C.wf ((R.ext q A).ext i C) hT V7 a4 (yS G (by omega));have L:call AC (m+5) 46 [pt tb,w7] X=.ok w8 Y:=L;refine⟨Y,(A.trans C).trans x8,.inr ⟨rfl,w8,_,?_,by rw[S,y]at N;unfold Gb;exact N,(A.trans C).next,by rw[S,y]at G;exact G⟩⟩;rw[Z8 rfl,aY,p1];unfold paM;simp only[sT,xT,sh,reduceIte,s2,AH,AO,xZ,AN,AQ,s3,l0,l1,l2,Bi,cv,l3,l4,l5,sl,cA0,I,m6,K,s0,L,Av,CO]
end
theorem ru:gtK=BB (AY 1 gtB) gtI:=rfl
theorem bj:gtL=jA:=rfl
theorem ry:gtS=BB (AY 0 (A3 gtL)) gtE:=rfl
theorem rv:gtM=rx:=rfl
theorem qr:d23=iF:=rfl
section
variable {F:AEh}{e:Env}{h h' h0 hB g:Hp}{T l B tl:List Nat}{m n p k kL tb op r9 r11 r12 rg i most:Nat}{lf sq z room a b c:Int}{u v w iv bw:xU}{xs ys:List Kt}{x:Kt}{s:Bool×Nat}
theorem MP(c:h.Wf)(D:Rdr h r9 r11 r12 k v B s)(j:most<=1099511627776)(o:r11<rg)(h2:r12<rg):
  ∃h',(∀(e:Env) (y:O) (off:Nat),y e=.pointer (BY ⟨rg,off,By⟩)->J 6 e=.func (.func 83) ⟨[]⟩ ⟨[pt r12,pt r9,pt r11]⟩->Fv [y] (B4 (J 6) [W (AI AT (most:Int))]) (call AC (n+2)) e h=.ok (AI AT ((nx B most s).1:Int)) h')/\Fx (λb=>b=r11\/b=r12) h h'/\Rdr h' r9 r11 r12 k v B (nx B most s).2/\h'.mark=h.mark:=by
 have d:Rdr h.quiet r9 r11 r12 k v B s:=D.ext c (Hp.Ext.refl c).quiet;obtain⟨g,m,f,a,_,i⟩:=GR (n:=n) c.quiet d j;refine⟨h.back g,λe y off l s6=>?_,f.back,⟨a.m.same rfl,a.R9.same rfl,a.R11.same rfl,a.R12.same rfl,a.ne,a.vb,a.ok,a.b8,a.ln⟩,rfl⟩;refine Zi ?_ ?_
 ·rw[CU,AV,A4,s6,Cf,EY];exact m
 ·have p:g.high<=max 0 (max r11 r12):=i
  unfold FS;rw[l];show(bif yp rg g.low then _ else bif yp g.high rg then FS e g.low g.high []else IT)=IN;rw[BV.2 (show g.high<rg by omega)];cases yp rg g.low<;>rfl
theorem Rdr.fx{S:Nat->Prop}(D:Rdr h r9 r11 r12 k v B s)(a:h.Wf)(f:Fx S h h')(c:¬S r9)(h2:¬S r11)(d:¬S r12)(e:∀b,AE1 v b->¬S b):Rdr h' r9 r11 r12 k v B s:=
 ⟨D.m.keep λb l j g i=>f.row a i (e b g),f.row a D.R9 c,f.row a D.R11 h2,f.row a D.R12 d,D.ne,D.vb,D.ok,D.b8,D.ln⟩
theorem Hp.IL.AI6{zs:List Kt}(o:h.IL kL v zs)(e:h'.bl=h.bl):h'.IL kL v zs:=o.imp id λ⟨b,a,c,d⟩=>⟨b,a,c.same e,d⟩
theorem sN{zs:List Kt}(r:h0.Wf)(a:h0.Ext h)(I:h.IL kL iv zs)(q:h.Row r9 0 (Bv x))(D:zs.length<=50)(hk:h0.next<=kL)(o:kL<=h.next):
  ∃h' v',DU 4 32 90 iv (.slice (BY ⟨r9,0,By⟩) 1 1) h=.ok v' h'/\Fx (λb=>kL<=b) h h'/\h'.IL kL v' (zs++[x])/\cellsOf v'=[v']/\oneCell v'=IN:=by
 have c:∀K:List xU->R,BM h 4 (.slice (BY ⟨r9,0,By⟩) 1 1) 1 K=K (Bv x):=λK=>q.AGd (es:=4) (off:=0) (n:=1) (by show 0+1*4<=4;omega)
 have big:=a.wf.big;have C:=a.next;rcases I with ⟨l,d⟩|⟨b,l,d,p⟩
 ·obtain⟨k,f,m,g,_,_,j⟩:=Ij (eb:=32) (en:=90) a c rfl rfl rfl (by omega)
  exact⟨k,_,by rw[l];exact f,.of j,by rw[d];exact .inr ⟨_,rfl,g,o⟩,rfl,rfl⟩
 ·have B:=d.lt a.wf
  obtain⟨k,f,m,g,y,⟨_,s,_⟩,j⟩:=LF (eb:=32) (en:=90) a c rfl rfl (by omega) rfl d (ML _) (by omega) (by have:=r.big;omega) (by omega);refine⟨k,_,by rw[l];exact f,⟨by omega,λi u c=>j i u λe=>c (by rw[e];exact p),m.wf,λw z A t=>by
   rw[s,BU];have:=t b p;omega⟩,.inr ⟨_,by rw[xY];rfl,?_,o⟩,rfl,rfl⟩
  rw[Wr];exact g
theorem jG(o:AFi x)(s:xs=x::ys)(q:B.drop p=xs.flatMap FJ++tl):∃a b c:Nat,x.a=(a:Int)/\x.b=(b:Int)/\x.c=(c:Int)/\∃g h i j,nx B 1099511627776 (IT,p)=(a,(IT,g))/\nx B 255 (IT,g)=(b,(IT,h))/\nx B 1099511627776 (IT,h)=(c,(IT,i))/\nx B 9 (IT,i)=(x.s,(IT,j))/\B.drop j=ys.flatMap FJ++tl:=by
 obtain⟨a,b,c,d,e,f,A,C,D⟩:=NS o;have z:x.s<=2:=by have:=o.2;omega
 subst s;have e0:B.drop p=BD a++(BD b++(BD c++(BD x.s++(ys.flatMap FJ++tl)))):=by
  have r:FJ x=BD a++(BD b++(BD c++BD x.s)):=by
   unfold FJ;rw[d,e,f];simp only[AAM,ACE,yF,zL]
  rw[q,AAM,r];simp only[yD]
 obtain⟨t,k⟩:=EL (most:=1099511627776) e0 (by omega) (by omega);obtain⟨u,l⟩:=EL (most:=255) k (by omega) (by omega);obtain⟨w,m⟩:=EL (most:=1099511627776) l (by omega) (by omega);obtain⟨y,n⟩:=EL (most:=9) m (by omega) (by omega);exact⟨a,b,c,d,e,f,_,_,_,_,t,u,w,y,n⟩
theorem ZQ(d:h.Wf)(R:h.Row rg 0 (B9 lf sq op z iv bw room))(a:256<=rg)(f:cellsOf w=[w])(h2:oneCell w=IN):
  ∃h',AEn 1 (.pointer (BY ⟨rg,4,By⟩)) w h=.ok AEl h'/\h'.Row rg 0 (B9 lf sq op z w bw room)/\Fx (λb=>b=rg) h h':=by
 obtain⟨h',g,c,_,e,_⟩:=Ei (v:=w) d R (off:=4) (by show 4<7;omega) a f h2;exact⟨h',g,c,e⟩
theorem rz(Y:h0.Wf)(N:h0.Ext h)(D:Rdr h r9 r11 r12 k v B (IT,p))(hd:B.drop p=xs.flatMap FJ++tl)(hx:xs=x::ys)(o:AFi x)(X:h.Row rg 0 (B9 lf sq op z iv AEk room)){zs:List Kt}(I:h.IL kL iv zs)(hn:zs.length<=50)
  (hr:h0.next<=r11/\h0.next<=r12/\r11<rg/\r12<rg/\rg<kL/\kL<=h.next/\h0.next<=rg/\r9≠rg/\r9<kL/\h0.next<=kL)(hk:∀b,AE1 v b->b≠rg/\b<kL)
  (s6:J 6 e=.func (.func 83) ⟨[]⟩ ⟨[pt r12,pt r9,pt r11]⟩)(s9:J 9 e=pt rg):
  ∃m h' a1 p',gtB (call AC (n+2)) e h=.norm m h'/\h0.Ext h'/\Fx (λb=>b=r11\/b=r12\/b=rg\/kL<=b) h h'/\Rdr h' r9 r11 r12 k v B (IT,p')/\B.drop p'=ys.flatMap FJ++tl/\h'.Row rg 0 (B9 lf sq op z a1 AEk room)/\h'.IL kL a1 (zs++[x])/\(∀j,j=4\/j=6\/j=7\/j=9\/j=36\/j=37->J j m=J j e):=by
 have r:=N.wf;obtain⟨a,b,c,ha,i,hc,p1,p2,p3,p4,q1,q2,q3,q4,a8⟩:=jG o hx hd;obtain⟨n1,n2,E,G,n5,n6,n7,n8,n9,b1⟩:=hr;have K:=(Hp.Ext.refl r).marked;have Rm:=X.ext r K;have b0:AEi ⟨rg,4,By⟩ h.marked=.ok iv h.marked:=Rm.AEi (off:=4) (by show 4<7;omega);have b2:∀{k:C} {F:AEh} {e:Env},Ir (.pointer (BY ⟨rg,4,By⟩)) k F e h.marked=k F e h.marked:=Df (by show rg<h.next;omega);obtain⟨g1,t1,Z,P,m1⟩:=MP (n:=n) (rg:=rg) K.wf (D.ext r K) (xW 1099511627776) E G;rw[q1]at t1 P;have t1:∀e:Env,J 39 e=.pointer (BY ⟨rg,4,By⟩)->J 6 e=.func (.func 83) ⟨[]⟩ ⟨[pt r12,pt r9,pt r11]⟩->Fv [J 39] (B4 (J 6) [W (AI AT 1099511627776)]) (call AC (n+2)) e h.marked=.ok (AI AT (a:Int)) g1:=λe d f=>t1 e (J 39) 4 d f
 obtain⟨g2,t2,f2,Q,m2⟩:=MP (n:=n) (rg:=rg) Z.wf P (show 255<=1099511627776 by omega) E G;rw[q2]at t2 Q;have t2:∀e:Env,J 39 e=.pointer (BY ⟨rg,4,By⟩)->J 6 e=.func (.func 83) ⟨[]⟩ ⟨[pt r12,pt r9,pt r11]⟩->Fv [J 39] (B4 (J 6) [W (AI AT 255)]) (call AC (n+2)) e g1=.ok (AI AT (b:Int)) g2:=λe d f=>t2 e (J 39) 4 d f
 obtain⟨g3,t3,f3,R,m3⟩:=MP (n:=n) (rg:=rg) f2.wf Q (xW 1099511627776) E G;rw[q3]at t3 R;have t3:∀e:Env,J 39 e=.pointer (BY ⟨rg,4,By⟩)->J 6 e=.func (.func 83) ⟨[]⟩ ⟨[pt r12,pt r9,pt r11]⟩->Fv [J 39] (B4 (J 6) [W (AI AT 1099511627776)]) (call AC (n+2)) e g2=.ok (AI AT (c:Int)) g3:=λe d f=>t3 e (J 39) 4 d f
 obtain⟨g4,t4,f4,S,m4⟩:=MP (n:=n) (rg:=rg) f3.wf R (show 9<=1099511627776 by omega) E G;rw[q4]at t4 S;have t4:∀e:Env,J 39 e=.pointer (BY ⟨rg,4,By⟩)->J 6 e=.func (.func 83) ⟨[]⟩ ⟨[pt r12,pt r9,pt r11]⟩->Fv [J 39] (B4 (J 6) [W (AI AT 9)]) (call AC (n+2)) e g3=.ok (AI AT (x.s:Int)) g4:=λe d f=>t4 e (J 39) 4 d f
 have L:=((Z.trans f2).trans f3).trans f4;have s:=L.wf;have a9:g4.mark<=g4.next:=by
  rw[m4,m3,m2,m1];exact L.next
 have hs:x.s<=2:=by have:=o.2;omega
 have cv:Ct .u8 (AI AT (x.s:Int)) g4=.ok (.int .u8 (x.s:Int)) g4:=by rw[Bu,Ff,AAA (by omega)]
 have bd:=λ(F:AEh) (e:Env) (d:J 42 e=AI AT (a:Int)) (f:J 44 e=AI AT (b:Int)) (e3:J 46 e=AI AT (c:Int)) (e4:J 49 e=.int .u8 (x.s:Int))=>Z0 (F:=F) (h:=g4) (x:=x) (by rw[ha];exact d) (by rw[i];exact f) (by rw[hc];exact e3) e4
 have a2:∀(F:AEh) (e:Env),J 50 e=DF x->Ac .AEv (Ab 1 (BP KZ.zero 1) [(0,4,J 50)]) F e g4=.ok (.slice (BY ⟨g4.next,0,By⟩) 1 1) (g4.back (g4.quiet.AEg 0 (Bv x))):=λF e d=>by
  have:=JM (F:=F) (e:=e) s.quiet (g:=J 50) d;exact Cq this ((Hp.Ext.refl s.quiet).AEg _ _) a9
 have O:g4.Ext (g4.back (g4.quiet.AEg 0 (Bv x))):=.back ((Hp.Ext.refl s.quiet).AEg _ _);have U:(g4.back (g4.quiet.AEg 0 (Bv x))).Row g4.next 0 (Bv x):=(Hp.Row.new s.quiet 0 (Bv x)).same rfl;generalize g4.back (g4.quiet.AEg 0 (Bv x))=l at a2 O U;have t:Fx (λb=>b=r11\/b=r12) h l:=((Fx.of K).trans L).trans (.of O);have x5:h0.Ext l:=Fx.xtF N t λb i=>by omega
 have y:=x5.wf;have I5:=I.fx r t λb i=>by omega
 have b4:=t.next;obtain⟨g6,H,a6,a5,I6,c6,o6⟩:=sN (h:=l.quiet) Y (x5.quiet) (I5.ext y (Hp.Ext.refl y).quiet) (U.same rfl) hn b1 (by show kL<=l.next;omega);have q6:∀(F:AEh) (e:Env),J 40 e=iv->J 51 e=.slice (BY ⟨g4.next,0,By⟩) 1 1->Ac .free (Bk 4 32 90 (J 40) (J 51)) F e l=.ok H (l.back g6):=λF e d f=>by
  refine BF ?_;rw[Bb,d,f];exact a6
 have q:=a5.back;have T:=I6.AI6 (h':=l.back g6) rfl;generalize l.back g6=u at q6 q T;have a3:=t.row r X (by omega);have a4:=q.row y a3 (by omega);obtain⟨g7,b3,R7,a7⟩:=ZQ (h:=u.quiet) (w:=H) q.wf.quiet (a4.same rfl) (by have:=Y.big;omega) c6 o6;have q7:∀(F:AEh) (e:Env),J 53 e=.pointer (BY ⟨rg,4,By⟩)->J 52 e=H->Ac .free (AZ 1 (J 53) (J 52)) F e u=.ok AEl (u.back g7):=λF e d f=>by
  refine BF ?_;rw[AW,d,f];exact b3
 have A:=a7.back;have V:=R7.same (h':=u.back g7) rfl;generalize u.back g7=M at q7 A V;have a0:Fx (λb=>b=r11\/b=r12\/b=rg\/kL<=b) h M:=((t.mono λb i=>by omega).trans (q.mono λb i=>by omega)).trans (A.mono λb i=>by omega);refine(show ∃m,gtB (call AC (n+2)) e h=.norm m M/\(∀j,j=4\/j=6\/j=7\/j=9\/j=36\/j=37->J j m=J j e)from ?_).elim λm ⟨r1,r2⟩=>⟨m,M,H,p4,r1,Fx.xtF N a0 (λb i=>by omega),a0,?_,a8,V,T.fx q.wf A (λb i=>by omega),r2⟩
 ·unfold gtB
  simp only[sT,xT,sh,reduceIte,Aw,AH,AO,xZ,s9,ED,b2,DQ,AN,AQ,b0,t1,s6,t2,t3,t4,Bi,cv,bd,a2,q6,q7];refine⟨_,rfl,λj hj=>?_⟩;rcases hj with rfl|rfl|rfl|rfl|rfl|rfl<;>simp only[AG,xT,sh,reduceIte]
 ·exact((S.ext s O).fx y q (by omega) (by omega) (by omega) λb i=>by have:=hk b i;omega).fx q.wf A (by omega) (by omega) (by omega) λb i=>by have:=hk b i;omega
theorem gG{g0 g1 g2 g3 g6:O}(h0:g0 e=AI AT lf)(a:g1 e=AI AT sq)(h2:g2 e=.int .u8 (op:Int))(b:g3 e=AI AT z)(c:g6 e=AI AT room):
  BG F9.zero [(0,1,g0),(1,1,g1),(2,1,g2),(3,1,g3),(6,1,g6)] F e h=.ok (Be lf sq op z AEk AEk room) h:=by
 rw[CX,OP,Ad (hk:=by rw[h0];rfl),h0,Ad (hk:=by rw[a];rfl),a,Ad (hk:=by rw[h2];rfl),h2,Ad (hk:=by rw[b];rfl),b,Ad (hk:=by rw[c];rfl),c];rfl
theorem jB(P:h0.Wf)(A:h0.Ext h)(D:Rdr h r9 r11 r12 k v B (IT,p))(Y:B.drop p=xs.flatMap FJ++tl)(ok:∀x∈xs,AFi x)(hn:xs.length<=50)(F:h.Row rg 0 (B9 lf sq op z AEk AEk room))
  (Z:h0.next<=r11/\h0.next<=r12/\r11<rg/\r12<rg/\h0.next<=rg/\r9≠rg)(hk:∀b,AE1 v b->b≠rg)
  (s6:J 6 e=.func (.func 83) ⟨[]⟩ ⟨[pt r12,pt r9,pt r11]⟩)(s9:J 9 e=pt rg)(a4:J 36 e=AI AT (xs.length:Int))(a5:J 37 e=AI AT ((0:Nat):Int)):
  ∃a h' iv p',A3 gtL (call AC (n+2)) e h=.exit 0 a h'/\h0.Ext h'/\Fx (λb=>b=r11\/b=r12\/b=rg\/h.next<=b) h h'/\Rdr h' r9 r11 r12 k v B (IT,p')/\B.drop p'=tl/\h'.Row rg 0 (B9 lf sq op z iv AEk room)/\h'.IL h.next iv xs/\(∀j,j=4\/j=6\/j=7\/j=9->J j a=J j e):=by
 have o:=A.wf;obtain⟨n1,n2,n3,n4,n5,n6⟩:=Z;have g9:=F.lt o;have g8:=D.R9.lt o;have X:∀b,AE1 v b->b≠rg/\b<h.next:=λb H=>⟨hk b H,by
  obtain⟨el,a7,a2⟩:=QY D.m H;exact a2.lt o⟩
 refine Bd (I:=λi a h'=>∃iv p',i<=xs.length/\h0.Ext h'/\Fx (λb=>b=r11\/b=r12\/b=rg\/h.next<=b) h h'/\Rdr h' r9 r11 r12 k v B (IT,p')/\B.drop p'=(xs.drop i).flatMap FJ++tl/\h'.Row rg 0 (B9 lf sq op z iv AEk room)/\h'.IL h.next iv (xs.take i)/\(∀j,j=4\/j=6\/j=7\/j=9\/j=36->J j a=J j e)/\J 37 a=AI AT (i:Int))
  (Q:=λa1=>∃a h' iv p',a1=.exit 0 a h'/\h0.Ext h'/\Fx (λb=>b=r11\/b=r12\/b=rg\/h.next<=b) h h'/\Rdr h' r9 r11 r12 k v B (IT,p')/\B.drop p'=tl/\h'.Row rg 0 (B9 lf sq op z iv AEk room)/\h'.IL h.next iv xs/\(∀j,j=4\/j=6\/j=7\/j=9->J j a=J j e)) xs.length (by omega) (λi a h' ⟨iv,p',hi,L,t,C,u,E,r,m,t37⟩=>?_)
  ⟨AEk,p,yH _,A,.refl o,D,Y,F,.inl ⟨rfl,rfl⟩,λ_ _=>rfl,a5⟩
 have t36:=(m 36 (by omega)).trans a4;by_cases f:i<xs.length
 ·left
  have s:=EU f;obtain⟨x,w⟩:∃x,xs[i]? =BY x:=⟨_,xc f⟩;obtain⟨d,y,g⟩:∃d,gtL (call AC (n+2)) a h'=gtK (call AC (n+2)) d h'/\∀j,j=4\/j=6\/j=7\/j=9\/j=36\/j=37->J j d=J j a:=by
   rw[bj];unfold jA;simp only[sT,xT,sh,reduceIte,AK,AJ,t37,t36,s];refine⟨_,rfl,λj c=>?_⟩;rcases c with rfl|rfl|rfl|rfl|rfl|rfl<;>simp only[AG,xT,sh,reduceIte]
  have W:=t.next;obtain⟨G,q,a0,p2,r1,x2,T,M,hd2,O,N,K⟩:=rz (n:=n) (ys:=xs.drop (i+1)) P L C u (List.drop_eq_getElem_cons f |>.trans (by rw[<- Option.some.inj ((xc f).symm.trans w)])) (ok x (xy w)) E r (by rw[yP];omega) ⟨n1,n2,n3,n4,g9,W,n5,n6,g8,A.next⟩ X ((g 6 (by omega)).trans ((m 6 (by omega)).trans s6)) ((g 9 (by omega)).trans ((m 9 (by omega)).trans s9));have a6:=(K 37 (by omega)).trans ((g 37 (by omega)).trans t37);have R:=Cc (i:=i) (h:=q) (by omega);obtain⟨l,S,U,V⟩:∃l,gtI (call AC (n+2)) G q=.norm l q/\J 37 l=AI AT ((i+1:Nat):Int)/\∀j,j=4\/j=6\/j=7\/j=9\/j=36->J j l=J j G:=by
   unfold gtI;simp only[sT,xT,sh,reduceIte,BW,a6,R];refine⟨_,rfl,by simp[AG],λj c=>?_⟩;rcases c with rfl|rfl|rfl|rfl|rfl<;>simp only[AG,xT,sh,reduceIte]
  refine⟨f,l,q,?_,a0,p2,f,x2,t.trans T,M,hd2,O,by rw[AAT,w];exact N,λj c=>(V j c).trans ((K j (by omega)).trans ((g j (by omega)).trans (m j c))),U⟩;rw[y,ru];simp only[A7,Ap,r1,Bt,Ay,S]
 ·right
  obtain rfl:i=xs.length:=by omega
  have s:=Cz (xW xs.length);obtain⟨d,y,g⟩:∃d,gtL (call AC (n+2)) a h'=.exit 0 d h'/\∀j,j=4\/j=6\/j=7\/j=9->J j d=J j a:=by
   rw[bj];unfold jA;simp only[sT,xT,sh,reduceIte,AK,AJ,t37,t36,s];refine⟨_,rfl,λj c=>?_⟩;rcases c with rfl|rfl|rfl|rfl<;>simp only[AG,xT,sh,reduceIte]
  rw[y];rw[List.drop_length]at u;rw[yz]at r;exact⟨rfl,d,h',iv,p',rfl,L,t,C,u,E,r,λj c=>(g j c).trans (m j (by omega))⟩
theorem Uc(c:h.Wf)(R:h.Row tb 0 (T.map wv))(hT:AFQ T){kM:Nat}(M:Mk h kM u (DH T (FO lf sq op z room xs l)))(hq:hdQ lf sq op=IN)(hz:0<=z/\z<=1000)(hr:0<=room/\room<=65536)(hx:∀x∈xs,AFi x)(hn:xs.length<=50)(a9:z≠0->xs=[]/\l=[])(hl:l.length<=65536)(f0:(FO lf sq op z room xs l).length<=800000)(h8:∀x∈FO lf sq op z room xs l,x<256):
  ∃h' iv bw,call AC (m+7) 23 [pt tb,u] h=.ok (.tuple ⟨[Be lf sq op z iv bw room,AI AT 0]⟩) h'/\h.Ext h'/\AFv h' lf sq op z iv bw room xs l:=by
 have hQ:=hq;unfold hdQ wiQ at hQ;simp only[yE,decide_eq_true_eq]at hQ;obtain⟨lf,rfl⟩:=EK (show 0<=lf by omega);obtain⟨sq,rfl⟩:=EK (show 0<=sq by omega);obtain⟨z,rfl⟩:=EK hz.1;obtain⟨room,rfl⟩:=EK hr.1;have big:=c.big;have d0:(FO lf sq op z room xs l).drop 1=BD lf++(BD sq++(BD op++(BD z++(BD room++(BD xs.length++(xs.flatMap FJ++(BD l.length++l))))))):=by
  unfold FO;simp only[AAM,ACE,yF,yD,AAO,zK,yT,ADF,yk,zL]
 have a:FE 2 (FO lf sq op z room xs l)=IT:=rfl;have al4:=λ(F:AEh) (e:Env)=>BO (F:=F) (e:=e) c (n:=7) (t:=CY)
 have R4:=Hp.Row.alloc c Dd (show F5.length=7 from rfl);have y:h.Ext (h.push (.cells CY 7 0)):=(Hp.Ext.refl c).push _;have n1:(h.push (.cells CY 7 0)).next=h.next+1:=rfl;generalize h.push (.cells CY 7 0)=h1 at al4 R4 y n1;obtain⟨h2,y2,c1⟩:=PY (q:=2) (n:=m+2) y.wf (R.ext c y) hT (.inl (M.ext c y).vals) (M.ext c y).cap (KK h8) (by rw[Fm];omega);have W2:=y2.wf;have x2:=y.trans y2;rcases c1 with ⟨B',r9,r11,r12,k,v,U,k1,D,d1,d2⟩|⟨U,_⟩
 rotate_left
 ·rw[Es]at U;cases U
 rw[Es]at U;obtain rfl:=Option.some.inj U;rw[a]at D;have k1:call AC (m+6) 51 [pt tb,u,.int .u8 2] h1=_:=k1;generalize hB:FO lf sq op z room xs l=B at *;have c0:iNe 0 0=IT:=B0 rfl;obtain⟨f,p1,s4,s6,s7⟩:∃f,iF (call AC (m+6)) (Au e0 0 [pt tb,u]) h=gtM (call AC (m+6)) f h2/\J 4 f=pt h.next/\J 6 f=.func (.func 83) ⟨[]⟩ ⟨[pt r12,pt r9,pt r11]⟩/\J 7 f=.func (.func 85) ⟨[]⟩ ⟨[pt r12,pt r9,pt r11]⟩:=by
  unfold iF;simp only[iN,xV,sT,xT,sh,reduceIte,al4,cA0,k1,Aq,Az,A1,Bx,AK,AJ,c0];exact⟨_,rfl,by simp[AG]⟩
 have I:∀{most:Nat} {g:Hp} {s:Bool×Nat},g.Wf->Rdr g r9 r11 r12 k v B s->most<=1099511627776->∃h',call AC (m+6) 83 [AI AT (most:Int),pt r12,pt r9,pt r11] g=.ok (AI AT ((nx B most s).1:Int)) h'/\Fx (λb=>b=r11\/b=r12) g h'/\Rdr h' r9 r11 r12 k v B (nx B most s).2:=λc D hm=>by
  obtain⟨h',q1,q2,q3,_⟩:=GR (n:=m+4) c D hm;exact⟨h',q1,q2,q3⟩
 obtain⟨q1,c3⟩:=EL (most:=1099511627776) d0 (by omega) (by omega);obtain⟨q2,c4⟩:=EL (most:=1099511627776) c3 (by omega) (by omega);obtain⟨q3,c5⟩:=EL (most:=9) c4 (by omega) (by omega);obtain⟨q4,c6⟩:=EL (most:=1000) c5 (by omega) (by omega);obtain⟨q5,c7⟩:=EL (most:=65536) c6 (by omega) (by omega);obtain⟨q6,c8⟩:=EL (most:=50) c7 (by omega) (by omega);obtain⟨g1,t1,f1,D1⟩:=I (most:=1099511627776) W2 D (by omega);rw[q1]at t1 D1;obtain⟨g2,t2,f2,D2⟩:=I (most:=1099511627776) f1.wf D1 (by omega);rw[q2]at t2 D2;obtain⟨g3,t3,f3,D3⟩:=I (most:=9) f2.wf D2 (by omega);rw[q3]at t3 D3;obtain⟨g4,t4,f4,D4⟩:=I (most:=1000) f3.wf D3 (by omega);rw[q4]at t4 D4;obtain⟨g5,t5,f5,A⟩:=I (most:=65536) f4.wf D4 (by omega);rw[q5]at t5 A;have X:=(((f1.trans f2).trans f3).trans f4).trans f5;have j:=X.wf;have cv:Ct .u8 (AI AT (op:Int)) g3=.ok (.int .u8 (op:Int)) g3:=by rw[Bu,Ff,AAA (by omega)]
 have bd:=λ(F:AEh) (e:Env) (f:J 24 e=AI AT (lf:Int)) (d:J 26 e=AI AT (sq:Int)) (e3:J 29 e=.int .u8 (op:Int)) (G:J 31 e=AI AT (z:Int)) (e5:J 33 e=AI AT (room:Int))=>gG (F:=F) (h:=g5) f d e3 G e5
 obtain⟨g6,H,al7,a4,y7,R7,d7⟩:=Jk j Dd rfl (vs:=B9 lf sq op z AEk AEk room) rfl rfl;have a4:AEn 7 (pt g5.next) (Be lf sq op z AEk AEk room) g6=.ok AEl H:=a4;have K:h.Ext g5:=Fx.xtF x2 X λb a=>by omega
 have Z:=K.trans y7;obtain⟨a2,t6,Q,D8⟩:=I (most:=50) Z.wf (A.ext j y7) (by omega);rw[q6]at t6 D8;have W8:=Q.wf;have x8:h.Ext a2:=Fx.xtF Z Q λb a=>by omega
 have b2:=A.R11.lt j;have b3:=A.R12.lt j;have e9:=A.R9.lt j;have f7:=X.next;have n2:=y2.next;have a7:=Q.row Z.wf R7 (by omega);have t1:call AC (m+6) 83 [AI AT 1099511627776,pt r12,pt r9,pt r11] h2=.ok (AI AT (lf:Int)) g1:=t1;have t2:call AC (m+6) 83 [AI AT 1099511627776,pt r12,pt r9,pt r11] g1=.ok (AI AT (sq:Int)) g2:=t2;have t3:call AC (m+6) 83 [AI AT 9,pt r12,pt r9,pt r11] g2=.ok (AI AT (op:Int)) g3:=t3;have t4:call AC (m+6) 83 [AI AT 1000,pt r12,pt r9,pt r11] g3=.ok (AI AT (z:Int)) g4:=t4;have t5:call AC (m+6) 83 [AI AT 65536,pt r12,pt r9,pt r11] g4=.ok (AI AT (room:Int)) g5:=t5;have t6:call AC (m+6) 83 [AI AT 50,pt r12,pt r9,pt r11] H=.ok (AI AT (xs.length:Int)) a2:=t6;obtain⟨d,p2,w4,w6,w7,w9,d8,d9⟩:∃d,gtM (call AC (m+6)) f h2=gtS (call AC (m+6)) d a2/\J 4 d=pt h.next/\J 6 d=.func (.func 83) ⟨[]⟩ ⟨[pt r12,pt r9,pt r11]⟩/\J 7 d=.func (.func 85) ⟨[]⟩ ⟨[pt r12,pt r9,pt r11]⟩/\J 9 d=pt g5.next/\J 36 d=AI AT (xs.length:Int)/\J 37 d=AI AT ((0:Nat):Int):=by
  rw[rv];unfold rx;simp only[sT,xT,sh,reduceIte,CU,Cf,AV,A4,yT,AAO,s6,EY,t1,t2,t3,Bi,cv,t4,t5,bd,al7,AW,a4,t6];exact⟨_,rfl,by simp[AG,s4,s6,s7]⟩
 obtain⟨e3,h9,iv,p9,d6,x9,f9,D9,d3,R9,I9,wj⟩:=jB (n:=m+4) c x8 D8 c8 hx hn a7 ⟨by omega,by omega,b2,b3,K.next,by omega⟩ (λb a=>by
  obtain⟨P,a0,r⟩:=QY A.m a;have:=r.lt j;omega) w6 w9 d8 d9
 have O:=f9.wf;have pB:p9<=B.length:=D9.ok rfl;have he:=Wk d3 hl pB;obtain⟨c9,w,Y,L,V⟩:=bR (n:=m+3) O D9;have Y:call AC (m+6) 85 [pt r12,pt r9,pt r11] h9=.ok (.tuple ⟨[w,.bool IN]⟩) c9:=by rw[he]at Y;exact Y
 rw[he]at V;have E:=L.wf;obtain⟨w1,w2⟩:cellsOf w=[w]/\oneCell w=IN:=by
  rcases V with ⟨b,P,rfl,_⟩|⟨rfl,_⟩<;>exact⟨rfl,rfl⟩
 have f6:=a7.lt W8;obtain⟨S,b0,W,e7,o,_⟩:=Ei (v:=w) E (R9.ext O L) (off:=5) (by show 5<7;omega) (by have:=K.next;omega) w1 w2;have W:S.Row g5.next 0 (B9 lf sq op z iv w room):=W;have N:=o.wf;have e6:h.Ext S:=Fx.xtF (x9.trans L) o λb a=>by rw[a];exact K.next
 have n8:=Q.next;have n9:=f9.next;have c2:S.AE7 w (l.map bv):=by
  rcases V with C|⟨rfl,p⟩
  ·exact(C.keep λb P a0 a r=>o.row E r (by
    have:=LP C a;have a3:g5.next<H.next:=d7;omega)).vals
  ·have p:l=[]:=p
   rw[p];exact .inl ⟨rfl,rfl⟩
 have a5:S.IS iv xs:=((I9.ext O L).fx E o λb a=>by
  have a3:g5.next<H.next:=d7;omega).is
 have i1:oneCell iv=IN:=by
  rcases a5 with ⟨rfl,_⟩|⟨b,P,rfl,_⟩<;>rfl
 have t11:AFv S lf sq op z iv w room xs l:=⟨hq,hz,a5,hn,hx,c2,hl,hr,a9,i1,w2⟩;obtain⟨_,_,_,d5⟩:=B7 W;obtain⟨e8,d4,i⟩:=Pa (m:=m) N t11;have b1:=(B7 (W.ext N i)).2.2.2;have b7:=(R4.ext y.wf y2);have b8:=X.row W2 b7 (by omega);have a6:=Q.row Z.wf (b8.ext j y7) (by omega);have b9:=f9.row W8 a6 (by
  have:=a6.lt W8;omega)
 have b4:=o.row E (b9.ext O L) (by omega);obtain⟨a8,b5,a1,b6⟩:=D7 (lf:=lf) (sq:=sq) (op:=op) (err:=z) (iv:=iv) (bw:=w) (room:=room) i.wf (b4.ext N i) rfl (by omega) i1 w2;refine⟨a8,iv,w,?_,Fx.xtF (e6.trans i) a1 (λb a=>by rw[a];exact xW _),⟨hq,hz,?_,hn,hx,?_,hl,hr,a9,i1,w2⟩⟩
 ·obtain⟨G,z1,z2,z3⟩:∃G,gtE (call AC (m+6)) e3 h9=.ret G a8/\J 4 G=pt h.next/\J 5 G=AI AT 0:=by
   have u4:=(wj 4 (by omega)).trans w4;have u7:=(wj 7 (by omega)).trans w7;have u9:=(wj 9 (by omega)).trans w9;unfold gtE;simp only[sT,xT,sh,reduceIte,gD,CU,Cf,A4,yT,u7,Y,Aq,Az,A1,AH,AO,xZ,u9,AW,b0,BJ,BI,yY,An,Ah,d5,cA0,d4,b1,u4,b5];exact⟨_,rfl,by simp[AG,u4]⟩
  rw[oO rfl,qr,p1,p2,ry];simp only[A7,Ap,d6,A5,Ay];rw[z1,Av,Dl (v:=Be lf sq op z iv w room) (by rw[z2];exact Cw b6),z3]
 ·exact((((I9.ext O L).fx E o λb a=>by
   have a3:g5.next<H.next:=d7;omega).ext N i).fx i.wf a1 λb a=>by
   have:=K.next;omega).is
 ·rcases V with C|⟨rfl,p⟩
  ·exact(((C.keep λb P a0 a r=>o.row E r (by
    have:=LP C a;have a3:g5.next<H.next:=d7;omega)).ext N i).keep λb P a0 a r=>a1.row i.wf r (by
    have:=LP C a;have:=K.next;omega)).vals
  ·have p:l=[]:=p
   rw[p];exact .inl ⟨rfl,rfl⟩
end
def AIC(b:Bool)(a:Int):Prop:=(-1<=a/\a<=1099511627776)/\(b=IT->a<0)
structure AI7 (fa:Bool)(h:Hp)(A:At)(T M:List Nat)(cs:List (Nat×List Nat)):Prop where
 row:∃lv fv bad,h.Row A.bs 0 (slL A.bd A.tb lv fv bad IN)
 dk:∃c0,Dk h A.bd A.bm A.bc A.n M c0 cs (-1) IN
 tab:h.Row A.tb 0 (T.map wv)
 tok:AFQ T
 key:AGo cs
 sec:AFz A.n cs
 ne:A.bs≠A.bd/\A.bs≠A.bm/\A.bs≠A.bc/\¬A.D A.tb/\256<=A.bs
 may:fa=IN
section

end
section
variable {ks:List Kt}
def cmK(ks:List Kt)(j:Nat)(a:Kt):List Kt:=ks.set j {a with s:=2}
end
section
variable {h:Hp}{n:Nat}{M M':List Nat}{cs:List (Nat×List Nat)}{kv:xU}{bs:List Bool}
structure Kept (n:Nat)(M:List Nat)(cs:List (Nat×List Nat))(M':List Nat):Prop where
 len:M'.length=64*n
 sct:∀q,(∀x,x/64=q->M'.getD x 0=M.getD x 0)\/∃y∈cs,y.1=q/\∀x,x/64=q->M'.getD x 0=y.2.getD (x % 64) 0
structure KB (h:Hp)(kv:xU)(bs:List Bool):Prop where
 len:∀g:Hp,AFB kv g=.ok (AI AT (bs.length:Int)) g
 get:∀(i:Nat) (b:Bool),bs[i]? =BY b->∀g:Hp,h.Ext g->∃p,AFV 1 kv (AI AT (i:Int)) g=.ok (.pointer (BY p)) g/\AEi p g=.ok (.bool b) g
end
instance (x y:Kt):Decidable (vA x y):=by unfold vA;infer_instance
section

end
def Aft(ks:List Kt)(fr:List Nat)(kd a b c:Int)(l:List Nat)(ks':List Kt):Prop:=
 ks'=ks\/
 (DS kd/\DW ks fr.length a b c l=By/\∃p fr2 k',fr=p::fr2/\k'.core=⟨a,b,c,1,l,p⟩/\ks'=EH (ks++[k']))\/
 ((kd=5\/kd=6)/\∃(j:Nat) (kx:Kt) (P:Kt->Bool),ks[j]? =BY kx/\(kx.a=a/\kx.b=b/\kx.c=c)/\CA a b c ks=IT/\(∀k∈cmK ks j kx,P k=IN->elB a b c k=IN)/\ks'=(cmK ks j kx).filter λk=> !P k)\/
 (kd=7/\∃(j:Nat) (kx:Kt) (P:Kt->Bool),ks[j]? =BY kx/\(kx.a=a/\kx.b=b/\kx.c=c)/\CA a b c ks=IT/\(∀k∈ks,P k=IN->k.p=kx.p)/\ks'=ks.filter λk=> !P k)\/
 (kd=8/\∃P:Kt->Bool,(∀k∈ks,P k=IN->drB a b c k=IN)/\ks'=ks.filter λk=> !P k)
section

end
def AGq(a:Nat)(T M:List Nat)(cs:List (Nat×List Nat))(Q:List Kt->Prop):Prop:=∀b,Kept (3*a) M cs b->∃ks fr,AFb a ks fr/\AGP a T b ks fr/\Q ks
inductive St (h:Hp)(A:At)(np:Nat)(T:List Nat)(Q:List Kt->Prop):Prop
 |up (M:List Nat) (c0:Nat) (arm:Int) (ks:List Kt) (fr:List Nat) (lv fv:xU) (s:Sl h A T M c0 arm ks fr lv fv 0 IT) (iv:AFb np ks fr) (md:AGP np T M ks fr) (hc:Com ks) (a:AIC IN arm) (q:Q ks)
 |over (M:List Nat) (cs:List (Nat×List Nat)) (d:AI7 IN h A T M cs) (g:AGq np T M cs Q)
section

end
def Cg(X Y:List Kt):Prop:=X.map Kt.core=Y.map Kt.core
def OnC(P:Kt->Bool):Prop:=∀a b:Kt,a.core=b.core->P a=P b
section
variable {X Y Z:List Kt}{x y:Kt}{P:Kt->Bool}{f:Kt->Kt}{a b c:Int}
theorem GG:Cg (x::X) (y::Y)↔x.core=y.core/\Cg X Y:=by
 unfold Cg;rw[za,za,List.cons.injEq]
theorem Cg.trans(h:Cg X Y)(h2:Cg Y Z):Cg X Z:=Eq.trans h h2
theorem Cg.symm(h:Cg X Y):Cg Y X:=Eq.symm h
theorem Cg.len(h:Cg X Y):X.length=Y.length:=by
 have:=congrArg AAC h
 rwa [xa,xa]at this
theorem Cg.fil(c:OnC P):∀{X Y:List Kt},Cg X Y->Cg (X.filter P) (Y.filter P)
 |[],[],_=>rfl
 |[],y::Y,a=>by cases a
 |x::X,[],a=>by cases a
 |x::X,y::Y,a=>by
  obtain⟨d,e⟩:=GG.1 a;have f:=c x y d;cases b:P y
  ·rw[zN (by rw[f,b];decide),zN (by rw[b];decide)];exact Cg.fil c e
  ·rw[zM (f.trans b),zM b];exact GG.2 ⟨d,Cg.fil c e⟩
theorem Cg.find(d:OnC P):∀{X Y:List Kt},Cg X Y->(X.find? P).map Kt.core=(Y.find? P).map Kt.core
 |[],[],_=>rfl
 |[],y::Y,a=>by cases a
 |x::X,[],a=>by cases a
 |x::X,y::Y,a=>by
  obtain⟨c,f⟩:=GG.1 a;have e:=d x y c;cases b:P y
  ·rw[ABi (by rw[e,b];decide),ABi (by rw[b];decide)];exact Cg.find d f
  ·rw[ACt (e.trans b),ACt b];exact congrArg BY c
theorem Cg.mp(b:∀x y:Kt,x.core=y.core->(f x).core=(f y).core):∀{X Y:List Kt},Cg X Y->Cg (X.map f) (Y.map f)
 |[],[],_=>rfl
 |[],y::Y,a=>by cases a
 |x::X,[],a=>by cases a
 |x::X,y::Y,a=>by
  obtain⟨c,d⟩:=GG.1 a;exact GG.2 ⟨b x y c,Cg.mp b d⟩
theorem Cg.app{a b:List Kt}(h:Cg X Y)(h2:Cg a b):Cg (X++a) (Y++b):=by
 unfold Cg at *;rw[yZ,yZ,h,h2]
theorem Cg.frE:∀{X Y:List Kt} {fr:List Nat},Cg X Y->Go.Proofs.YtldjiljipddebaaGreat.frE fr X=Go.Proofs.YtldjiljipddebaaGreat.frE fr Y
 |[],[],_,_=>rfl
 |[],y::Y,_,a=>by cases a
 |x::X,[],_,a=>by cases a
 |x::X,y::Y,fr,a=>by
  obtain⟨b,c⟩:=GG.1 a;have d:x.p=y.p:=congrArg Kc.p b;show Go.Proofs.YtldjiljipddebaaGreat.frE (Ec (fr++[x.p])) X=Go.Proofs.YtldjiljipddebaaGreat.frE (Ec (fr++[y.p])) Y;rw[d];exact Cg.frE c
theorem OnC.not(h:OnC P):OnC λk=> !P k:=λx y a=>by show(!P x)= !P y;rw[h x y a]
theorem JU:OnC (BL a b c):=λx y d=>by
 obtain⟨e,f,g,_⟩:=Em d;unfold BL;rw[e,f,g]
theorem wH:OnC (LQ a b):=λx y c=>by
 obtain⟨d,e,g,f,_⟩:=Em c;unfold LQ;rw[d,e,f]
theorem wG:OnC (elB a b c):=λx y d=>by
 obtain⟨e,f,g,_⟩:=Em d;unfold elB;rw[e,f,g]
theorem wF:OnC (drB a b c):=λx y d=>by
 obtain⟨e,f,g,_⟩:=Em d;unfold drB;rw[e,f,g]
def LtC(x y:Kc):Prop:=x.a<y.a\/(x.a=y.a/\(x.b<y.b\/(x.b=y.b/\(x.c<y.c\/(x.c=y.c/\x.p<y.p)))))
def LtK(x y:Kt):Prop:=LtC x.core y.core
theorem Ql{z:Int}{l:List Int}:orZ (z::l)<0↔z<0\/(z=0/\orZ l<0):=by
 have c:orZ (z::l)=if z=0 then orZ l else z:=rfl
 rw[c];split
 ·rename_i b
  exact⟨λa=>.inr ⟨b,a⟩,λa=>a.elim (λa=>by omega) λa=>a.2⟩
 ·rename_i b
  exact⟨.inl,λa=>a.elim id λa=>absurd a.1 b⟩
theorem P8{a b:Int}:DK a b<0↔a<b:=by
 unfold DK;split
 ·omega
 ·split<;>omega
theorem P7{a b:Int}:DK a b=0↔a=b:=by
 unfold DK;split
 ·omega
 ·split<;>omega
theorem Xf:JV x y<0↔LtK x y:=by
 unfold JV LtK LtC;rw[Ql,Ql,Ql,Ql,P8,P8,P8,P8,P7,P7,P7,P7];show x.a<y.a\/x.a=y.a/\(x.b<y.b\/x.b=y.b/\(x.c<y.c\/x.c=y.c/\((x.p:Int)<(y.p:Int)\/(x.p:Int)=(y.p:Int)/\(0:Int)<0)))↔x.a<y.a\/(x.a=y.a/\(x.b<y.b\/(x.b=y.b/\(x.c<y.c\/(x.c=y.c/\x.p<y.p)))));omega
theorem LtC.asym{x y:Kc}(h:LtC x y)(h2:LtC y x):False:=by
 unfold LtC at *;omega
theorem LtK.tot(h:x.key≠y.key):LtK x y\/LtK y x:=by
 have b:¬(x.a=y.a/\x.b=y.b/\x.c=y.c):=λa=>h (by show(x.a,x.b,x.c)=(y.a,y.b,y.c);rw[a.1,a.2.1,a.2.2])
 show(x.a<y.a\/(x.a=y.a/\(x.b<y.b\/(x.b=y.b/\(x.c<y.c\/(x.c=y.c/\x.p<y.p))))))\/(y.a<x.a\/(y.a=x.a/\(y.b<x.b\/(y.b=x.b/\(y.c<x.c\/(y.c=x.c/\y.p<x.p))))));omega
theorem LtK.tr{z:Kt}(h:LtK x y)(h2:LtK y z):LtK x z:=by
 unfold LtK LtC at *;omega
theorem PE:∀{l:List Kt},l.Pairwise (λu v=>LtK v u)->(∀y∈l,x.key≠y.key)->(Iq x l).Pairwise (λu v=>LtK v u)
 |[],_,_=>ACh _ _
 |y::j,d,f=>by
  obtain⟨e,i⟩:=ABu.1 d;rw[LG];split
  ·rename_i c
   refine ABu.2 ⟨λb a=>?_,PE i λb a=>f b (xn _ a)⟩;rcases NT.1 a with rfl|a
   ·exact Xf.1 c
   ·exact e b a
  ·rename_i c
   have g:LtK y x:=(LtK.tot (f y xp)).resolve_left λh=>c (Xf.2 h)
   refine ABu.2 ⟨λb a=>?_,d⟩;rcases yC.1 a with rfl|a
   ·exact g
   ·exact(e b a).tr g
theorem cD{A:List Kt}(h:A.Pairwise LtK)(hk:∀y∈A,x.key≠y.key):(HL A x).Pairwise LtK:=by
 unfold HL;exact AC0.2 (PE (AC0.2 h) λy a=>hk y (List.mem_reverse.1 a))
theorem Xy:∀(B A:List Kt),A.Pairwise LtK->((A++B).map Kt.key).Nodup->(srt A B).Pairwise LtK
 |[],A,a,_=>a
 |x::B,A,a,b=>by
  show(srt (HL A x) B).Pairwise LtK;have e:((HL A x++B).map Kt.key).Perm ((A++x::B).map Kt.key):=(((PI A x).append_right B).trans List.perm_middle.symm).map _;refine Xy B _ (cD a λy d c=>?_) (e.nodup_iff.2 b);rw[yZ,AAU]at b;exact b.2.2 y.key (zI.2 ⟨y,d,rfl⟩) x.key (zI.2 ⟨x,xp,rfl⟩) c.symm
theorem Pe(a:(X.map Kt.key).Nodup):(EH X).Pairwise LtK:=by
 unfold EH;refine Xy _ _ ?_ (by rw[zi];exact a);cases X with
 |nil=>exact .nil
 |cons x b=>exact ACh _ _
theorem ee(e:X.Pairwise LtK)(f:Y.Pairwise LtK)(p:(X.map Kt.core).Perm (Y.map Kt.core)):Cg X Y:=
 AEd (le:=LtC) (λa b _ _ c d=>(c.asym d).elim) (ADO.2 e) (ADO.2 f) p
theorem SL(p:(X.map Kt.core).Perm (Y.map Kt.core))(a:(Y.map Kt.key).Nodup):(X.map Kt.key).Nodup:=by
 rw[jR]at *;exact(p.map vE).nodup_iff.2 a
theorem Cg.key(h:Cg X Y)(a:(Y.map Kt.key).Nodup):(X.map Kt.key).Nodup:=SL (by rw[show X.map Kt.core=Y.map Kt.core from h]) a
theorem eV(p:(X.map Kt.core).Perm (Y.map Kt.core))(b:(Y.map Kt.key).Nodup)(a:Y.Pairwise LtK):Cg (EH X) Y:=
 ee (Pe (SL p b)) a (((F4 X).map _).trans p)
theorem Cg.sort(h:Cg X Y)(a:(Y.map Kt.key).Nodup):Cg (EH X) (EH Y):=
 eV (((show X.map Kt.core=Y.map Kt.core from h) ▸ .refl _:(X.map Kt.core).Perm (Y.map Kt.core)).trans ((F4 Y).map _).symm) (((F4 Y).map Kt.key).nodup_iff.2 a) (Pe a)
end
def cmF(a b c:Int)(k:Kt):Kt:=if BL a b c k=IN then {k with s:=2}else k
def nxt(ks:List Kt)(fr:List Nat)(kd a b c:Int)(l:List Nat):List Kt×List Nat:=
 if 1<=kd/\kd<=4 then(match DW ks fr.length a b c l with
  |some _=>(ks,fr)
  |none=>(EH (ks++[⟨a,b,c,1,l,fr.headD 0,AEk⟩]),fr.tail))
 else if kd=5\/kd=6 then(match Dt ks a b c with
  |some _=>(ks,fr)
  |none=>((ks.map (cmF a b c)).filter λd=> !elB a b c d,frE fr ((ks.map (cmF a b c)).filter (elB a b c))))
 else if kd=7 then(match abE ks a b c with
  |some _=>(ks,fr)
  |none=>(ks.filter λd=> !BL a b c d,frE fr (ks.filter (BL a b c))))
 else if kd=8 then(ks.filter λd=> !drB a b c d,frE fr (drO a b c ks))
 else(ks,fr)
section
variable {T M M':List Nat}{X Y ks ks':List Kt}{fr fr':List Nat}{kd a b c z:Int}{l:List Nat}{n np j:Nat}{x y kx:Kt}{P:Kt->Bool}
theorem Qa(d:((x::ks).map Kt.key).Nodup)(f:BL a b c x=IN):∀z∈ks,BL a b c z=IT:=λz g=>by
 rw[za,zm]at d;cases e:BL a b c z
 ·rfl
 ·exact absurd (zI.2 ⟨z,g,(Gp e).trans (Gp f).symm⟩) d.1
theorem WP:∀{ks:List Kt} {j:Nat} {kx:Kt},(ks.map Kt.key).Nodup->ks[j]? =BY kx->BL a b c kx=IN->cmK ks j kx=ks.map (cmF a b c)
 |[],j,kx,_,d,_=>by cases d
 |x::ks,0,kx,f,d,e=>by
  have g:x=kx:=Option.some.inj d;subst g;show({x with s:=2}:Kt)::ks=cmF a b c x::ks.map (cmF a b c);have h:cmF a b c x={x with s:=2}:=If e;have i:ks.map (cmF a b c)=ks:=(List.map_congr_left λz l=>show cmF a b c z=id z from No (by rw[Qa f e z l];decide)).trans (List.map_id ks);rw[h,i]
 |x::ks,j+1,kx,f,d,e=>by
  have d:ks[j]? =BY kx:=d;have k:BL a b c x=IT:=by
   cases m:BL a b c x
   ·rfl
   ·have:=Qa f m kx (xy d)
    rw[e]at this;cases this
  show x::cmK ks j kx=cmF a b c x::ks.map (cmF a b c);rw[za,zm]at f;rw[WP f.2 d e,show cmF a b c x=x from No (by rw[k];decide)]
theorem WQ:∀{ks:List Kt} {j:Nat} {kx:Kt},(ks.map Kt.key).Nodup->ks[j]? =BY kx->BL a b c kx=IN->ks.take j++ks.drop (j+1)=(ks.filter λk=> !BL a b c k)/\ks.filter (BL a b c)=[kx]
 |[],j,kx,_,d,_=>by cases d
 |x::ks,0,kx,f,d,e=>by
  have l:x=kx:=Option.some.inj d;subst l;have g:=Qa f e;rw[zN (by rw[e];decide),zM e];exact⟨(ADE.2 λz h=>by rw[g z h];rfl).symm,by rw[ACu.2 λz h=>by rw[g z h];decide]⟩
 |x::ks,j+1,kx,f,d,e=>by
  have d:ks[j]? =BY kx:=d;have i:BL a b c x=IT:=by
   cases n:BL a b c x
   ·rfl
   ·have:=Qa f n kx (xy d)
    rw[e]at this;cases this
  rw[za,zm]at f;obtain⟨g,m⟩:=WQ f.2 d e;rw[zM (by rw[i];rfl),zN (by rw[i];decide)];exact⟨congrArg (x:: ·) g,m⟩
theorem J7(h:DS kd):nxt ks fr kd a b c l=(match DW ks fr.length a b c l with
  |some _=>(ks,fr)
  |none=>(EH (ks++[⟨a,b,c,1,l,fr.headD 0,AEk⟩]),fr.tail)):=by
 unfold DS at h;exact If (by omega)
theorem G1(h:kd=5\/kd=6):nxt ks fr kd a b c l=(match Dt ks a b c with
  |some _=>(ks,fr)
  |none=>((ks.map (cmF a b c)).filter λk=> !elB a b c k,frE fr ((ks.map (cmF a b c)).filter (elB a b c)))):=by
 unfold nxt;rw[No (by omega),If h]
theorem LR:nxt ks fr 7 a b c l=(match abE ks a b c with
  |some _=>(ks,fr)
  |none=>(ks.filter λk=> !BL a b c k,frE fr (ks.filter (BL a b c)))):=by
 unfold nxt;rw[No (by omega),No (by omega),If rfl]
theorem LS:nxt ks fr 8 a b c l=(ks.filter λk=> !drB a b c k,frE fr (drO a b c ks)):=by
 unfold nxt;rw[No (by omega),No (by omega),No (by omega),If rfl]
theorem Qc(d:¬DS kd)(g:kd≠5)(h:kd≠6)(e:kd≠7)(f:kd≠8):nxt ks fr kd a b c l=(ks,fr):=by
 unfold DS at d;unfold nxt;rw[No (by omega),No (by omega),No e,No f]
theorem PX(q:Iw ks fr.length kd a b c l z):nxt ks fr kd a b c l=(ks,fr):=by
 rcases q with ⟨n,d⟩|⟨m,d⟩|⟨rfl,d⟩|⟨rfl,d,_⟩|⟨g,h,i,j,k,_⟩
 ·rw[J7 n,d]
 ·rw[G1 m,d]
 ·rw[LR,d]
 ·rw[LS,d]
  have e:ks.filter (drB a b c)=[]:=List.reverse_eq_nil_iff.1 d;rw[ADE.2 λz o=>by
   cases f:drB a b c z
   ·rfl
   ·exact absurd f (ACu.1 e z o)]
  rfl
 ·exact Qc g h i j k
theorem gn(iv:AFb np ks fr)(l:Com ks)(m:ks[j]? =BY kx)(d:BL a b c kx=IN)(f:CA a b c ks=IT):Dt ks a b c=By:=by
 have e:=xy m;obtain⟨g,h,n⟩:=Gm d;have k:=Ju (a:=a) (b:=b) (c:=c) iv.key e (Gp d);unfold Dt;rw[k];show(if kx.s=2 then BY 0 else if CA a b c ks=IN then BY 61 else By)=By;rw[No λi=>by have:=OC l f kx e g h i;omega,No (by rw[f];decide)]
theorem fF(iv:AFb np ks fr)(u:Com ks)(t:Ps T M ks fr kd a b c l M' ks' fr'):Cg ks' (nxt ks fr kd a b c l).1/\fr'=(nxt ks fr kd a b c l).2:=by
 have x:=(F8 iv t).1;rcases t with ⟨w,g,y,o,e,f,m,_⟩|⟨m,j,kx,i,d,n,f,e,_⟩|⟨rfl,j,kx,i,d,n,f,e,_⟩|⟨rfl,f,e,_⟩
 ·rw[J7 w,g]
  subst f e;have r:((ks++[o]).map Kt.key).Nodup:=((F4 (ks++[o])).map Kt.key).nodup_iff.1 x.key;have p:Cg (ks++[o]) (ks++[⟨a,b,c,1,l,y,AEk⟩]):=Cg.app (X:=ks) (Y:=ks) rfl (GG.2 ⟨m,rfl⟩);exact⟨p.sort (p.symm.key r),rfl⟩
 ·have h:BL a b c kx=IN:=Gn (by show(kx.a,kx.b,kx.c)=_;rw[d.1,d.2.1,d.2.2])
  have g:=gn iv u i h n;have k:ks.set j {kx with s:=2}=ks.map (cmF a b c):=WP iv.key i h;rw[G1 m,g,f,e,k];exact⟨rfl,rfl⟩
 ·have h:BL a b c kx=IN:=Gn (by show(kx.a,kx.b,kx.c)=_;rw[d.1,d.2.1,d.2.2])
  have g:abE ks a b c=By:=by
   unfold abE;rw[No (by rw[n];decide),Ju (a:=a) (b:=b) (c:=c) iv.key (xy i) (Gp h)]
  obtain⟨k,q⟩:=WQ iv.key i h;rw[LR,g,f,e,k,q];exact⟨rfl,rfl⟩
 ·rw[LS,f,e]
  exact⟨rfl,rfl⟩
theorem Jt(d:OnC P)(h:Cg X Y):(X.find? P=By/\Y.find? P=By)\/∃x y,X.find? P=BY x/\Y.find? P=BY y/\x.core=y.core:=by
 have a:=h.find d;cases c:X.find? P with
 |none=>
  rw[c]at a;cases b:Y.find? P with
  |none=>exact .inl ⟨rfl,rfl⟩
  |some y=>rw[b]at a;cases a
 |some x=>
  rw[c]at a;cases b:Y.find? P with
  |none=>rw[b]at a;cases a
  |some y=>rw[b]at a;exact .inr ⟨x,y,rfl,rfl,Option.some.inj a⟩
theorem KV(h:Cg X Y):CA a b c X=CA a b c Y:=by
 unfold CA;rcases Jt (wH (a:=a) (b:=b)) h with ⟨d,e⟩|⟨x,y,d,e,f⟩
 ·rw[d,e]
 ·rw[d,e]
  show decide (c<=x.c)=decide (c<=y.c);rw[(Em f).2.2.1]
theorem S1(h:Cg X Y):DW X n a b c l=DW Y n a b c l:=by
 unfold DW;split
 ·rfl
 ·rcases Jt (JU (a:=a) (b:=b) (c:=c)) h with ⟨d,e⟩|⟨x,y,d,e,f⟩
  ·rw[d,e,KV h]
  ·rw[d,e]
   show(if x.l=l then BY 0 else BY 60)=if y.l=l then BY 0 else BY 60
   rw[(Em f).2.2.2.2.1]
theorem RI(h:Cg X Y):Dt X a b c=Dt Y a b c:=by
 unfold Dt;rcases Jt (JU (a:=a) (b:=b) (c:=c)) h with ⟨d,e⟩|⟨x,y,d,e,f⟩
 ·rw[d,e,KV h]
 ·rw[d,e,KV h]
  show(if x.s=2 then BY 0 else if CA a b c Y=IN then BY 61 else By)=if y.s=2 then BY 0 else if CA a b c Y=IN then BY 61 else By
  rw[(Em f).2.2.2.1]
theorem Ze(h:Cg X Y):abE X a b c=abE Y a b c:=by
 unfold abE;rw[KV h];rcases Jt (JU (a:=a) (b:=b) (c:=c)) h with ⟨d,e⟩|⟨x,y,d,e,f⟩<;>rw[d,e]
theorem aM(e:x.core=y.core):(cmF a b c x).core=(cmF a b c y).core:=by
 have j:=JU (a:=a) (b:=b) (c:=c) x y e;obtain⟨d,f,g,k,h,i⟩:=Em e;unfold cmF;rw[j];split
 ·show(⟨x.a,x.b,x.c,2,x.l,x.p⟩:Kc)=⟨y.a,y.b,y.c,2,y.l,y.p⟩
  rw[d,f,g,h,i]
 ·exact e
theorem Cg.rev(h:Cg X Y):Cg X.reverse Y.reverse:=by
 unfold Cg;rw[ADW,ADW,show X.map Kt.core=Y.map Kt.core from h]
theorem kZ{k:Kt}(i:(ks.map Kt.key).Nodup)(d:DW ks n a b c l=By)(hk:k.key=(a,b,c)):((ks++[k]).map Kt.key).Nodup:=by
 have h:ks.find? (BL a b c)=By:=by
  unfold DW at d;split at d
  ·cases d
  ·cases g:ks.find? (BL a b c)with
   |none=>rfl
   |some k=>
    rw[g]at d;have d:(if k.l=l then BY (0:Int)else BY 60)=By:=d;split at d<;>cases d
 rw[yZ,AAU];refine⟨i,zm.2 ⟨AAu,.nil⟩,λx o y e f=>?_⟩;obtain⟨p,j,m⟩:=zI.1 o;have e:y=k.key:=yG.1 e;exact absurd (Gn (by rw[m,f,e,hk])) (AAH.1 h p j)
theorem sy(h:Cg X Y)(n:(Y.map Kt.key).Nodup):Cg (nxt X fr kd a b c l).1 (nxt Y fr kd a b c l).1/\(nxt X fr kd a b c l).2=(nxt Y fr kd a b c l).2:=by
 by_cases f:DS kd
 ·rw[J7 f,J7 f,S1 h]
  cases j:DW Y fr.length a b c l with
  |some m=>exact⟨h,rfl⟩
  |none=>exact⟨(h.app rfl).sort (kZ n j rfl),rfl⟩
 by_cases e:kd=5\/kd=6
 ·rw[G1 e,G1 e,RI h]
  have k:Cg (X.map (cmF a b c)) (Y.map (cmF a b c)):=h.mp λx y d=>aM d
  cases j:Dt Y a b c with
  |some m=>exact⟨h,rfl⟩
  |none=>exact⟨k.fil wG.not,(k.fil wG).frE⟩
 by_cases g:kd=7
 ·subst g
  rw[LR,LR,Ze h];cases j:abE Y a b c with
  |some m=>exact⟨h,rfl⟩
  |none=>exact⟨h.fil JU.not,(h.fil JU).frE⟩
 by_cases i:kd=8
 ·subst i
  rw[LS,LS];exact⟨h.fil wF.not,(h.fil wF).rev.frE⟩
 ·rw[Qc f (λd=>e (.inl d)) (λd=>e (.inr d)) g i,Qc f (λd=>e (.inl d)) (λd=>e (.inr d)) g i]
  exact⟨h,rfl⟩
end
structure Kps (A:At)(T:List Nat)(P:(Nat->Prop)->Hp->Prop):Prop where
 ext:∀{X:Nat->Prop} {h h':Hp},P X h->h.Wf->h.Ext h'->P X h'
 same:∀{X:Nat->Prop} {h h':Hp},P X h->h'.bl=h.bl->P X h'
 more:∀{X:Nat->Prop} {h:Hp} {r:Nat},P X h->h.Wf->h.next<=r->P (λb=>X b\/b=r) h
 less:∀{X S:Nat->Prop} {h:Hp},P X h->(∀b,S b->X b)->P S h
 wr:∀{X:Nat->Prop} {h h':Hp} {r:Nat} {L L':List xU},h.Wf->P X h->X r->h.Row r 0 L->h'.Row r 0 L'->Fx (λb=>b=r) h h'->¬A.D r->A.tb≠r->Odd L->P X h'
 lt:∀{X:Nat->Prop} {h:Hp},P X h->h.Wf->∀b,A.D b->b<h.next
 tab:∀{X:Nat->Prop} {h:Hp},P X h->h.Row A.tb 0 (T.map wv)/\AFQ T/\¬A.D A.tb
section
variable {fa:Bool}{h:Hp}{R:Int->Prop}{X:Nat->Prop}{P:(Nat->Prop)->Hp->Prop}{A:At}{T M:List Nat}{a b c z kd:Int}{ks ks':List Kt}{fr fr' l:List Nat}{cs:List (Nat×List Nat)}
theorem kpU:Kps A T λX h=>UpP R X h A T ks fr:=
 ⟨λa b n=>a.ext b n,λa j=>a.same j,λa b k=>a.more b k,λa g=>a.less g,λb a i d c e f l m=>a.wr b i d c e f l m,λa b=>a.lt b,λa=>a.tab⟩
theorem Kps.ex{p:Type}{P:p->(Nat->Prop)->Hp->Prop}(K:∀i,Kps A T (P i)):Kps A T λX h=>∃i,P i X h:=
 ⟨λ⟨i,a⟩ b o=>⟨i,(K i).ext a b o⟩,λ⟨i,a⟩ k=>⟨i,(K i).same a k⟩,λ⟨i,a⟩ b l=>⟨i,(K i).more a b l⟩,λ⟨i,a⟩ g=>⟨i,(K i).less a g⟩,λb ⟨i,a⟩ j d c e f m n=>⟨i,(K i).wr b a j d c e f m n⟩,λ⟨i,a⟩ b=>(K i).lt a b,λ⟨i,a⟩=>(K i).tab a⟩
theorem Kps.an{p:Prop}(K:Kps A T P):Kps A T λX h=>P X h/\p:=
 ⟨λ⟨a,b⟩ c o=>⟨K.ext a c o,b⟩,λ⟨a,b⟩ k=>⟨K.same a k,b⟩,λ⟨a,b⟩ c l=>⟨K.more a c l,b⟩,λ⟨a,b⟩ i=>⟨K.less a i,b⟩,λc ⟨a,b⟩ j e d f g m n=>⟨K.wr c a j e d f g m n,b⟩,λ⟨a,_⟩ c=>K.lt a c,λ⟨a,_⟩=>K.tab a⟩
def Rs(fa:Bool)(A:At)(T:List Nat)(ks:List Kt)(fr:List Nat)(kd a b c:Int)(l:List Nat)(z:Int)(X:Nat->Prop)(h:Hp):Prop:=
 (∃ks':List Kt,∃fr':List Nat,UpP (AIC fa) X h A T ks' fr'/\Stp T ks fr kd a b c l z ks' fr')\/(∃M:List Nat,∃cs:List (Nat×List Nat),AI7 fa h A T M cs/\(z=15/\AGq 8 T M cs (Aft ks fr kd a b c l)))
end
section
variable {F:AEh}{e:Env}{h h' g:Hp}{S X:Nat->Prop}{P:(Nat->Prop)->Hp->Prop}{Q:Int->(Nat->Prop)->Hp->Prop}{A:At}{T:List Nat}{m n nb op:Nat}{AEr lf sq a b c z err room:Int}{l:List Nat}{v u iv bw:xU}
theorem wz(K:Kps A T P)(s:∀z,Kps A T (Q z))(i:h.Wf)(R:h.Row nb 0 (AE3 A.bd A.tb A.bs AEr))(w:P X h)(hX:∀b,X b->b<h.next)(Z:h.VE u (l.map bv))
  (sl:∀(g:Hp) (Y:Nat->Prop),g.Wf->P Y g->(∀b,Y b->b<g.next)->g.VE u (l.map bv)->∃z x,call AC (m+9) 54 [pt A.bs,AI AT a,AI AT b,AI AT c,u] g=.ok (AI AT z) x/\Fx A.D g x/\Q z Y x):
  ∃z h',call AC (m+10) 29 [pt nb,CQ lf sq op a b c u] h=.ok (Be 0 0 0 z AEk AEk 0) h'/\Fx A.D h h'/\Q z X h':=by
 have M:=λ(F:AEh) (e:Env) (he:J 1 e=CQ lf sq op a b c u)=>E9 (F:=F) i he
 have j:=(Hp.Ext.refl i).AEg 0 (CM lf sq op a b c u);have D:=Hp.Row.new i 0 (CM lf sq op a b c u);have n1:(h.AEg 0 (CM lf sq op a b c u)).next=h.next+1:=rfl;generalize h.AEg 0 (CM lf sq op a b c u)=d at M j D n1;have L:=λ(F:AEh) (e:Env)=>BO (F:=F) (e:=e) j.wf (n:=7) (t:=CY)
 have H:=Hp.Row.alloc j.wf Dd (show F5.length=7 from rfl);have r:d.Ext (d.push (.cells CY 7 0)):=(Hp.Ext.refl j.wf).push _;have n2:(d.push (.cells CY 7 0)).next=d.next+1:=rfl;generalize d.push (.cells CY 7 0)=f at L H r n2;have B:=j.trans r;have U:=K.ext (K.more (K.ext w i j) j.wf (xW d.next)) j.wf r;obtain⟨_,_,_,l3,l4,l5,l6,_⟩:=Br ((D.ext j.wf r).same (h':=f.marked) rfl);obtain⟨_,_,nd,_⟩:=CG ((R.ext i B).same (h':=f.marked) rfl);have C:=B.marked;obtain⟨z,g,k3,f3,V⟩:=sl f.marked.quiet (λb=>X b\/b=d.next) C.quiet.wf (K.same (h':=f.marked.quiet) U rfl) (λb k=>by
  show b<f.next;rcases k with k|k
  ·have:=hX b k
   omega
  ·omega) ((Z.ext i B).same rfl)
 have O:∀e:Env,J 8 e=pt A.bs->J 10 e=AI AT a->J 12 e=AI AT b->J 14 e=AI AT c->J 16 e=u->Ac .free (AS 54 [J 8,J 10,J 12,J 14,J 16]) (call AC (m+9)) e f.marked=.ok (AI AT z) (f.marked.back g):=λe p o e3 e4 e5=>by
  refine BF ?_;rw[BX,AV,AV,AV,AV,AV,A4,p,o,e3,e4,e5];exact k3
 have q:=f3.back;have I:=(s z).same (h':=f.marked.back g) V rfl;generalize f.marked.back g=h3 at O q I;have N:¬A.D d.next:=λk=>by
  have:=K.lt w i _ k;omega
 have E:=q.row C.wf ((H.same (h':=f.marked) rfl)) N;have big:=i.big;obtain⟨y,q4,f4,G⟩:=F6 (lf:=0) (sq:=0) (op:=0) (err:=z) (iv:=AEk) (bw:=AEk) (room:=0) q.wf E rfl (by omega) rfl rfl;have W:=(s z).less (S:=X) ((s z).wr q.wf I (.inr rfl) E G f4 N (λe=>by
  have:=(K.tab w).1.lt i;omega) FN) λb k=>.inl k
 refine⟨z,y,?_,Fx.new C q f4 (by omega),W⟩;have bd:=λ(F:AEh) (e:Env) (p:J 17 e=AI AT z)=>IX (F:=F) (h:=h3) p
 have a1:=λ(F:AEh) (e:Env) (p:J 4 e=pt d.next) (o:J 18 e=Be 0 0 0 z AEk AEk 0)=>q4 F e (J 4) (J 18) p o
 have a0:∃o,d29 (call AC (m+9)) (Au e0 0 [pt nb,CQ lf sq op a b c u]) h=.ret o y/\J 4 o=pt d.next:=by
  unfold d29;simp only[iN,xV,sT,xT,sh,reduceIte,M,L,Aw,Ax,Am,AH,AO,xZ,AN,AQ,nd,l3,l4,l5,l6,O,bd,a1];exact⟨_,rfl,by simp[AG]⟩
 obtain⟨o,r1,r2⟩:=a0;rw[oS rfl,r1,Av,Dj (h':=y) (v:=Be 0 0 0 z AEk AEk 0) (by rw[r2];exact Cw G)]
theorem xA(K:Kps A T P)(r:∀z,Kps A T (Q z))(j:h.Wf)(O:h.Row nb 0 (AE3 A.bd A.tb A.bs AEr))(s:P X h)(hX:∀b,X b->b<h.next)
  (sl:∀(g:Hp) (Y:Nat->Prop),g.Wf->P Y g->(∀b,Y b->b<g.next)->∃z w,call AC (m+9) 55 [pt A.bs,AI AT a,AI AT b,AI AT c] g=.ok (AI AT z) w/\Fx A.D g w/\Q z Y w):
  ∃z h',call AC (m+10) 30 [pt nb,CQ lf sq op a b c u] h=.ok (Be 0 0 0 z AEk AEk 0) h'/\Fx A.D h h'/\Q z X h':=by
 have I:=λ(F:AEh) (e:Env) (he:J 1 e=CQ lf sq op a b c u)=>E9 (F:=F) j he
 have i:=(Hp.Ext.refl j).AEg 0 (CM lf sq op a b c u);have B:=Hp.Row.new j 0 (CM lf sq op a b c u);have n1:(h.AEg 0 (CM lf sq op a b c u)).next=h.next+1:=rfl;generalize h.AEg 0 (CM lf sq op a b c u)=d at I i B n1;have H:=λ(F:AEh) (e:Env)=>BO (F:=F) (e:=e) i.wf (n:=7) (t:=CY)
 have E:=Hp.Row.alloc i.wf Dd (show F5.length=7 from rfl);have q:d.Ext (d.push (.cells CY 7 0)):=(Hp.Ext.refl i.wf).push _;have n2:(d.push (.cells CY 7 0)).next=d.next+1:=rfl;generalize d.push (.cells CY 7 0)=f at H E q n2;have N:=i.trans q;have R:=K.ext (K.more (K.ext s j i) i.wf (xW d.next)) i.wf q;obtain⟨_,_,_,l3,l4,l5,l6,_⟩:=Br ((B.ext i.wf q).same (h':=f.marked) rfl);obtain⟨_,_,nd,_⟩:=CG ((O.ext j N).same (h':=f.marked) rfl);have y:=N.marked;obtain⟨z,g,k3,f3,U⟩:=sl f.marked.quiet (λb=>X b\/b=d.next) y.quiet.wf (K.same (h':=f.marked.quiet) R rfl) (λb k=>by
  show b<f.next;rcases k with k|k
  ·have:=hX b k
   omega
  ·omega)
 have M:∀e:Env,J 8 e=pt A.bs->J 10 e=AI AT a->J 12 e=AI AT b->J 14 e=AI AT c->Ac .free (AS 55 [J 8,J 10,J 12,J 14]) (call AC (m+9)) e f.marked=.ok (AI AT z) (f.marked.back g):=λe o l Z e4=>by
  refine BF ?_;rw[BX,AV,AV,AV,AV,A4,o,l,Z,e4];exact k3
 have p:=f3.back;have G:=(r z).same (h':=f.marked.back g) U rfl;generalize f.marked.back g=h3 at M p G;have L:¬A.D d.next:=λk=>by
  have:=K.lt s j _ k;omega
 have C:=p.row y.wf ((E.same (h':=f.marked) rfl)) L;have big:=j.big;obtain⟨x,q4,f4,D⟩:=F6 (lf:=0) (sq:=0) (op:=0) (err:=z) (iv:=AEk) (bw:=AEk) (room:=0) p.wf C rfl (by omega) rfl rfl;have V:=(r z).less (S:=X) ((r z).wr p.wf G (.inr rfl) C D f4 L (λe=>by
  have:=(K.tab s).1.lt j;omega) FN) λb k=>.inl k
 refine⟨z,x,?_,Fx.new y p f4 (by omega),V⟩;have W:=λ(F:AEh) (e:Env) (o:J 15 e=AI AT z)=>IX (F:=F) (h:=h3) o
 have a1:=λ(F:AEh) (e:Env) (o:J 4 e=pt d.next) (l:J 16 e=Be 0 0 0 z AEk AEk 0)=>q4 F e (J 4) (J 16) o l
 have a0:∃l,d30 (call AC (m+9)) (Au e0 0 [pt nb,CQ lf sq op a b c u]) h=.ret l x/\J 4 l=pt d.next:=by
  unfold d30;simp only[iN,xV,sT,xT,sh,reduceIte,I,H,Aw,Ax,Am,AH,AO,xZ,AN,AQ,nd,l3,l4,l5,l6,M,W,a1];exact⟨_,rfl,by simp[AG]⟩
 obtain⟨l,r1,r2⟩:=a0;rw[oU rfl,r1,Av,Dj (h':=x) (v:=Be 0 0 0 z AEk AEk 0) (by rw[r2];exact Cw D)]
theorem xC(K:Kps A T P)(r:∀z,Kps A T (Q z))(j:h.Wf)(O:h.Row nb 0 (AE3 A.bd A.tb A.bs AEr))(s:P X h)(hX:∀b,X b->b<h.next)
  (sl:∀(g:Hp) (Y:Nat->Prop),g.Wf->P Y g->(∀b,Y b->b<g.next)->∃z w,call AC (m+9) 56 [pt A.bs,AI AT a,AI AT b,AI AT c] g=.ok (AI AT z) w/\Fx A.D g w/\Q z Y w):
  ∃z h',call AC (m+10) 31 [pt nb,CQ lf sq op a b c u] h=.ok (Be 0 0 0 z AEk AEk 0) h'/\Fx A.D h h'/\Q z X h':=by
 have I:=λ(F:AEh) (e:Env) (he:J 1 e=CQ lf sq op a b c u)=>E9 (F:=F) j he
 have i:=(Hp.Ext.refl j).AEg 0 (CM lf sq op a b c u);have B:=Hp.Row.new j 0 (CM lf sq op a b c u);have n1:(h.AEg 0 (CM lf sq op a b c u)).next=h.next+1:=rfl;generalize h.AEg 0 (CM lf sq op a b c u)=d at I i B n1;have H:=λ(F:AEh) (e:Env)=>BO (F:=F) (e:=e) i.wf (n:=7) (t:=CY)
 have E:=Hp.Row.alloc i.wf Dd (show F5.length=7 from rfl);have q:d.Ext (d.push (.cells CY 7 0)):=(Hp.Ext.refl i.wf).push _;have n2:(d.push (.cells CY 7 0)).next=d.next+1:=rfl;generalize d.push (.cells CY 7 0)=f at H E q n2;have N:=i.trans q;have R:=K.ext (K.more (K.ext s j i) i.wf (xW d.next)) i.wf q;obtain⟨_,_,_,l3,l4,l5,l6,_⟩:=Br ((B.ext i.wf q).same (h':=f.marked) rfl);obtain⟨_,_,nd,_⟩:=CG ((O.ext j N).same (h':=f.marked) rfl);have y:=N.marked;obtain⟨z,g,k3,f3,U⟩:=sl f.marked.quiet (λb=>X b\/b=d.next) y.quiet.wf (K.same (h':=f.marked.quiet) R rfl) (λb k=>by
  show b<f.next;rcases k with k|k
  ·have:=hX b k
   omega
  ·omega)
 have M:∀e:Env,J 8 e=pt A.bs->J 10 e=AI AT a->J 12 e=AI AT b->J 14 e=AI AT c->Ac .free (AS 56 [J 8,J 10,J 12,J 14]) (call AC (m+9)) e f.marked=.ok (AI AT z) (f.marked.back g):=λe o l Z e4=>by
  refine BF ?_;rw[BX,AV,AV,AV,AV,A4,o,l,Z,e4];exact k3
 have p:=f3.back;have G:=(r z).same (h':=f.marked.back g) U rfl;generalize f.marked.back g=h3 at M p G;have L:¬A.D d.next:=λk=>by
  have:=K.lt s j _ k;omega
 have C:=p.row y.wf ((E.same (h':=f.marked) rfl)) L;have big:=j.big;obtain⟨x,q4,f4,D⟩:=F6 (lf:=0) (sq:=0) (op:=0) (err:=z) (iv:=AEk) (bw:=AEk) (room:=0) p.wf C rfl (by omega) rfl rfl;have V:=(r z).less (S:=X) ((r z).wr p.wf G (.inr rfl) C D f4 L (λe=>by
  have:=(K.tab s).1.lt j;omega) FN) λb k=>.inl k
 refine⟨z,x,?_,Fx.new y p f4 (by omega),V⟩;have W:=λ(F:AEh) (e:Env) (o:J 15 e=AI AT z)=>IX (F:=F) (h:=h3) o
 have a1:=λ(F:AEh) (e:Env) (o:J 4 e=pt d.next) (l:J 16 e=Be 0 0 0 z AEk AEk 0)=>q4 F e (J 4) (J 16) o l
 have a0:∃l,d31 (call AC (m+9)) (Au e0 0 [pt nb,CQ lf sq op a b c u]) h=.ret l x/\J 4 l=pt d.next:=by
  unfold d31;simp only[iN,xV,sT,xT,sh,reduceIte,I,H,Aw,Ax,Am,AH,AO,xZ,AN,AQ,nd,l3,l4,l5,l6,M,W,a1];exact⟨_,rfl,by simp[AG]⟩
 obtain⟨l,r1,r2⟩:=a0;rw[oV rfl,r1,Av,Dj (h':=x) (v:=Be 0 0 0 z AEk AEk 0) (by rw[r2];exact Cw D)]
theorem xD(K:Kps A T P)(r:∀z,Kps A T (Q z))(j:h.Wf)(O:h.Row nb 0 (AE3 A.bd A.tb A.bs AEr))(s:P X h)(hX:∀b,X b->b<h.next)
  (sl:∀(g:Hp) (Y:Nat->Prop),g.Wf->P Y g->(∀b,Y b->b<g.next)->∃z w,call AC (m+9) 63 [pt A.bs,AI AT a,AI AT b,AI AT c] g=.ok (AI AT z) w/\Fx A.D g w/\Q z Y w):
  ∃z h',call AC (m+10) 34 [pt nb,CQ lf sq op a b c u] h=.ok (Be 0 0 0 z AEk AEk 0) h'/\Fx A.D h h'/\Q z X h':=by
 have I:=λ(F:AEh) (e:Env) (he:J 1 e=CQ lf sq op a b c u)=>E9 (F:=F) j he
 have i:=(Hp.Ext.refl j).AEg 0 (CM lf sq op a b c u);have B:=Hp.Row.new j 0 (CM lf sq op a b c u);have n1:(h.AEg 0 (CM lf sq op a b c u)).next=h.next+1:=rfl;generalize h.AEg 0 (CM lf sq op a b c u)=d at I i B n1;have H:=λ(F:AEh) (e:Env)=>BO (F:=F) (e:=e) i.wf (n:=7) (t:=CY)
 have E:=Hp.Row.alloc i.wf Dd (show F5.length=7 from rfl);have q:d.Ext (d.push (.cells CY 7 0)):=(Hp.Ext.refl i.wf).push _;have n2:(d.push (.cells CY 7 0)).next=d.next+1:=rfl;generalize d.push (.cells CY 7 0)=f at H E q n2;have N:=i.trans q;have R:=K.ext (K.more (K.ext s j i) i.wf (xW d.next)) i.wf q;obtain⟨_,_,_,l3,l4,l5,l6,_⟩:=Br ((B.ext i.wf q).same (h':=f.marked) rfl);obtain⟨_,_,nd,_⟩:=CG ((O.ext j N).same (h':=f.marked) rfl);have y:=N.marked;obtain⟨z,g,k3,f3,U⟩:=sl f.marked.quiet (λb=>X b\/b=d.next) y.quiet.wf (K.same (h':=f.marked.quiet) R rfl) (λb k=>by
  show b<f.next;rcases k with k|k
  ·have:=hX b k
   omega
  ·omega)
 have M:∀e:Env,J 8 e=pt A.bs->J 10 e=AI AT a->J 12 e=AI AT b->J 14 e=AI AT c->Ac .free (AS 63 [J 8,J 10,J 12,J 14]) (call AC (m+9)) e f.marked=.ok (AI AT z) (f.marked.back g):=λe o l Z e4=>by
  refine BF ?_;rw[BX,AV,AV,AV,AV,A4,o,l,Z,e4];exact k3
 have p:=f3.back;have G:=(r z).same (h':=f.marked.back g) U rfl;generalize f.marked.back g=h3 at M p G;have L:¬A.D d.next:=λk=>by
  have:=K.lt s j _ k;omega
 have C:=p.row y.wf ((E.same (h':=f.marked) rfl)) L;have big:=j.big;obtain⟨x,q4,f4,D⟩:=F6 (lf:=0) (sq:=0) (op:=0) (err:=z) (iv:=AEk) (bw:=AEk) (room:=0) p.wf C rfl (by omega) rfl rfl;have V:=(r z).less (S:=X) ((r z).wr p.wf G (.inr rfl) C D f4 L (λe=>by
  have:=(K.tab s).1.lt j;omega) FN) λb k=>.inl k
 refine⟨z,x,?_,Fx.new y p f4 (by omega),V⟩;have W:=λ(F:AEh) (e:Env) (o:J 15 e=AI AT z)=>IX (F:=F) (h:=h3) o
 have a1:=λ(F:AEh) (e:Env) (o:J 4 e=pt d.next) (l:J 16 e=Be 0 0 0 z AEk AEk 0)=>q4 F e (J 4) (J 16) o l
 have a0:∃l,d34 (call AC (m+9)) (Au e0 0 [pt nb,CQ lf sq op a b c u]) h=.ret l x/\J 4 l=pt d.next:=by
  unfold d34;simp only[iN,xV,sT,xT,sh,reduceIte,I,H,Aw,Ax,Am,AH,AO,xZ,AN,AQ,nd,l3,l4,l5,l6,M,W,a1];exact⟨_,rfl,by simp[AG]⟩
 obtain⟨l,r1,r2⟩:=a0;rw[oX rfl,r1,Av,Dj (h':=x) (v:=Be 0 0 0 z AEk AEk 0) (by rw[r2];exact Cw D)]
end
def lO(op:Nat)(l:List Nat):List Nat:=if op=1 then l else []
def DoS(T:List Nat)(ks:List Kt)(fr:List Nat)(op:Nat)(a b c:Int)(l:List Nat)(e:List Kt)(d:List Nat):Prop:=
 ((op=4\/op=5)/\e=ks/\d=fr)\/((op≠4/\op≠5)/\∃f,Stp T ks fr (kdO op) a b c (lO op l) f e d)
section

end
def rgt(x:Ak):Bool:=Ca x.lf x.sq x.op x.a x.b x.c x.l.length
def kdR(op:Nat):Int:=if op=4\/op=5 then 0 else kdO op
structure Nst where
 AEr:Int
 ks:List Kt
 fr:List Nat
def nxK(p:Nst)(x:Ak):Nst:=if rgt x=IN/\p.AEr<=x.lf then⟨x.lf,(nxt p.ks p.fr (kdR x.op) x.a x.b x.c x.l).1,(nxt p.ks p.fr (kdR x.op) x.a x.b x.c x.l).2⟩else p
def AJq(xs:List Ak):Nst:=xs.foldl nxK ⟨0,[],List.range 8⟩
def Nst.Al(p q:Nst):Prop:=p.AEr=q.AEr/\Cg p.ks q.ks/\p.fr=q.fr
section
variable {e:Env}{h:Hp}{T M:List Nat}{r op:Nat}{a b c z:Int}{ks ks':List Kt}{fr fr' l:List Nat}{x:Ak}{p q:Nst}
theorem tA:nxt ks fr (kdO op) a b c (lO op l)=nxt ks fr (kdO op) a b c l:=by
 by_cases d:op=1
 ·subst d;rfl
 ·have e:lO op l=[]:=No d
  rw[e];have h:kdO op=5\/kdO op=7\/kdO op=8:=by
   unfold kdO;rw[No d];split
   ·exact .inl rfl
   ·split
    ·exact .inr (.inl rfl)
    ·exact .inr (.inr rfl)
  rcases h with h|h|h<;>rw[h]
  ·rw[G1 (.inl rfl),G1 (.inl rfl)]
  ·rw[LR,LR]
  ·rw[LS,LS]
theorem X3{kd:Int}(iv:AFb 8 ks fr)(d:Com ks)(s:Stp T ks fr kd a b c l z ks' fr'):Cg ks' (nxt ks fr kd a b c l).1/\fr'=(nxt ks fr kd a b c l).2:=by
 rcases s with ⟨q,rfl,rfl⟩|⟨_,M,f,e⟩
 ·rw[PX q]
  exact⟨rfl,rfl⟩
 ·exact fF iv d e
theorem ic(iv:AFb 8 ks fr)(d:Com ks)(s:DoS T ks fr op a b c l ks' fr'):Cg ks' (nxt ks fr (kdR op) a b c l).1/\fr'=(nxt ks fr (kdR op) a b c l).2:=by
 rcases s with ⟨h,rfl,rfl⟩|⟨⟨f,g⟩,z,s⟩
 ·have e:kdR op=0:=If h
  rw[e,Qc (by unfold DS;omega) (by omega) (by omega) (by omega) (by omega)];exact⟨rfl,rfl⟩
 ·have e:kdR op=kdO op:=No (by omega)
  rw[e,<- tA];exact X3 iv d s
theorem Nst.Al.trans{r:Nst}(h:p.Al q)(h2:q.Al r):p.Al r:=⟨h.1.trans h2.1,h.2.1.trans h2.2.1,h.2.2.trans h2.2.2⟩
theorem sx(h:p.Al q)(g:(q.ks.map Kt.key).Nodup):(nxK p x).Al (nxK q x):=by
 obtain⟨d,e,f⟩:=h;unfold nxK;rw[d,f];split
 ·obtain⟨g1,g2⟩:=sy (fr:=q.fr) (kd:=kdR x.op) (a:=x.a) (b:=x.b) (c:=x.c) (l:=x.l) e g
  exact⟨rfl,g1,g2⟩
 ·exact⟨d,e,f⟩
end
def fnS(op:Nat):Nat:=if op=1 then 54 else if op=2 then 55 else if op=3 then 56 else 63
def SlC(m:Nat)(A:At)(T:List Nat)(ks:List Kt)(fr:List Nat)(n op:Nat)(a b c:Int)(u:xU)(l:List Nat)(Y:Nat->Prop)(g:Hp):Prop:=
 ∃h d,call AC (m+9) (fnS op) (if op=1 then [pt A.bs,AI AT a,AI AT b,AI AT c,u]else [pt A.bs,AI AT a,AI AT b,AI AT c]) g=.ok (AI AT h) d/\Fx A.D g d/\∃f e,UpX Y d A T f e n/\Stp T ks fr (kdO op) a b c (lO op l) h f e
section
variable {h h' h0 g:Hp}{X Y:Nat->Prop}{A:At}{T M:List Nat}{m k n nb op:Nat}{AEr lf sq a b c z:Int}{ks ks':List Kt}{fr fr' l:List Nat}{u iv bw:xU}
theorem mS(a:1<=op)(d:op<=6)(b:op≠4)(c:op≠5):op=1\/op=2\/op=3\/op=6:=by omega
theorem slN(j:h.Wf)(n:A.n=24)(i:UpX X h A T ks fr (k+40))(p:∀b,X b->b<h.next)(o:op=1->h.VE u (l.map bv))(q:∀x∈l,x<256)(r:l.length<=1000)(s:op=1\/op=2\/op=3\/op=6):SlC m A T ks fr k op a b c u l X h:=by
 rcases s with rfl|rfl|rfl|rfl
 ·obtain⟨z,d,ks',fr',e,f,g⟩:=tq (m:=m+1) (k:=k) (a:=a) (b:=b) (c:=c) j n i p (o rfl) q r
  exact⟨z,d,e,f,ks',fr',g⟩
 ·obtain⟨z,d,ks',fr',e,f,g⟩:=tk (m:=m+1) (k:=k) j n i a b c
  exact⟨z,d,e,f,ks',fr',g⟩
 ·obtain⟨z,d,ks',fr',e,f,g⟩:=th (m:=m) (k:=k) j n i a b c
  exact⟨z,d,e,f,ks',fr',g⟩
 ·obtain⟨z,d,ks',fr',e,f,g⟩:=tm (m:=m) (k:=k) j n i a b c
  exact⟨z,d,e,f,ks',fr',g⟩
theorem slQ(f:h.Wf)(D:A.n=24)(o:UpX X h A T ks fr k)(t:op=1->h.VE u (l.map bv))(H:l.length<=1000)(I:op=1\/op=2\/op=3\/op=6)(q:Iw ks fr.length (kdO op) a b c (lO op l) z):SlC m A T ks fr k op a b c u l X h:=by
 obtain⟨⟨M,R,Q,V,S,p,iv,N,F,E⟩,J⟩:=id o;have U:=iv.len;rcases I with rfl|rfl|rfl|rfl
 ·have j:Iw ks fr.length 1 a b c l z:=q
  rcases j with ⟨_,g⟩|⟨d,_⟩|⟨d,_⟩|⟨d,_⟩|⟨d,_⟩
  ·obtain⟨n,i,e⟩:=S2 (m:=m+1) f p (t rfl) H g
   exact⟨z,n,i,.of e,ks,fr,o.ext f e,.inl ⟨q,rfl,rfl⟩⟩
  ·omega
  ·omega
  ·omega
  ·exact absurd (.inl rfl) d
 ·have j:Iw ks fr.length 5 a b c [] z:=q
  rcases j with ⟨d,_⟩|⟨_,g⟩|⟨d,_⟩|⟨d,_⟩|⟨_,d,_⟩
  ·unfold DS at d
   omega
  ·obtain⟨n,i,e⟩:=RJ (m:=m+1) f p g
   exact⟨z,n,i,.of e,ks,fr,o.ext f e,.inl ⟨q,rfl,rfl⟩⟩
  ·omega
  ·omega
  ·omega
 ·have j:Iw ks fr.length 7 a b c [] z:=q
  rcases j with ⟨d,_⟩|⟨d,_⟩|⟨_,g⟩|⟨d,_⟩|⟨_,_,_,d,_⟩
  ·unfold DS at d
   omega
  ·omega
  ·obtain⟨n,i,e⟩:=Zf (m:=m) f p g
   exact⟨z,n,i,.of e,ks,fr,o.ext f e,.inl ⟨q,rfl,rfl⟩⟩
  ·omega
  ·omega
 ·have j:Iw ks fr.length 8 a b c [] z:=q
  rcases j with ⟨d,_⟩|⟨d,_⟩|⟨d,_⟩|⟨_,h0,rfl⟩|⟨_,_,_,_,d,_⟩
  ·unfold DS at d
   omega
  ·omega
  ·omega
  ·obtain⟨C,x,s,L,B,i,y,s2,w⟩:=RQ (m:=m) (k:=k) f p a b c (by omega) (λz g=>by rw[D];exact iv.lt z g) (by rw[h0];exact E)
   have r:Ps T M ks fr 8 a b c [] _ _ _:=.inr (.inr (.inr ⟨rfl,rfl,rfl,rfl⟩));obtain⟨O,G,_⟩:=IO iv N F r;exact⟨0,C,i,y,_,_,⟨⟨_,x,s,L,B,s2,(F8 iv r).1,O,G,w⟩,λP K=>J P (zC.1 K).1⟩,.inr ⟨rfl,M,_,r⟩⟩
  ·omega
theorem ap2(s:h.Wf)(x:A.n=24)(q:h.Row nb 0 (AE3 A.bd A.tb A.bs AEr))(r:UpX X h A T ks fr k)(w:∀b,X b->b<h.next)(B:h.VE u (l.map bv))(E:1<=op)(F:op<=6)(y:n<=k)
  (sl:op=1\/op=2\/op=3\/op=6->∀(g:Hp) (Y:Nat->Prop),g.Wf->UpX Y g A T ks fr k->(∀b,Y b->b<g.next)->(op=1->g.VE u (l.map bv))->SlC m A T ks fr n op a b c u l Y g):
  ∃z iv bw h' ks' fr',call AC (m+10) (fnO op) [pt nb,CQ lf sq op a b c u] h=.ok (Be 0 0 0 z iv bw 0) h'/\Fx A.D h h'/\UpX X h' A T ks' fr' n/\z≠120/\oneCell iv=IN/\oneCell bw=IN/\Rdn T ks fr op a b c l h.next h' z iv bw ks' fr':=by
 have D:op=1\/op=2\/op=3\/op=4\/op=5\/op=6:=by omega
 have t:∀(kd:Int) (l:List Nat) (z:Int),Kps A T λX h=>∃ks' fr',UpX X h A T ks' fr' n/\Stp T ks fr kd a b c l z ks' fr':=λkd l z=>Kps.ex λ_=>Kps.ex λ_=>kpU.an
 rcases D with rfl|rfl|rfl|rfl|rfl|rfl
 ·obtain⟨z,h',j,o,ks',fr',p,d⟩:=wz (m:=m) (lf:=lf) (sq:=sq) (op:=1) (a:=a) (b:=b) (c:=c) (u:=u) (l:=l) (P:=λX h=>UpX X h A T ks fr k) kpU (t 1 l) s q r w B λg Y f e i C=>sl (by omega) g Y f e i λ_=>C
  exact⟨z,_,_,h',ks',fr',j,o,p,Qu d,rfl,rfl,.inl ⟨by omega,by omega,rfl,rfl,_,λ_=>rfl,d⟩⟩
 ·obtain⟨z,h',j,o,ks',fr',p,d⟩:=xA (m:=m) (lf:=lf) (sq:=sq) (op:=2) (a:=a) (b:=b) (c:=c) (u:=u) (P:=λX h=>UpX X h A T ks fr k) kpU (t 5 []) s q r w λg Y f e i=>sl (by omega) g Y f e i λh=>absurd h (by omega)
  exact⟨z,_,_,h',ks',fr',j,o,p,Qu d,rfl,rfl,.inl ⟨by omega,by omega,rfl,rfl,_,λh=>absurd h (by omega),d⟩⟩
 ·obtain⟨z,h',j,o,ks',fr',p,d⟩:=xC (m:=m) (lf:=lf) (sq:=sq) (op:=3) (a:=a) (b:=b) (c:=c) (u:=u) (P:=λX h=>UpX X h A T ks fr k) kpU (t 7 []) s q r w λg Y f e i=>sl (by omega) g Y f e i λh=>absurd h (by omega)
  exact⟨z,_,_,h',ks',fr',j,o,p,Qu d,rfl,rfl,.inl ⟨by omega,by omega,rfl,rfl,_,λh=>absurd h (by omega),d⟩⟩
 ·exact mI (m:=m) s x q (r.le y) (.inl rfl)
 ·exact mI (m:=m) s x q (r.le y) (.inr rfl)
 ·obtain⟨z,h',j,o,ks',fr',p,d⟩:=xD (m:=m) (lf:=lf) (sq:=sq) (op:=6) (a:=a) (b:=b) (c:=c) (u:=u) (P:=λX h=>UpX X h A T ks fr k) kpU (t 8 []) s q r w λg Y f e i=>sl (by omega) g Y f e i λh=>absurd h (by omega)
  exact⟨z,_,_,h',ks',fr',j,o,p,Qu d,rfl,rfl,.inl ⟨by omega,by omega,rfl,rfl,_,λh=>absurd h (by omega),d⟩⟩
end
structure Tl where
 z:Int
 xs:List Kt
 l:List Nat
def zF(ks:List Kt)(n op:Nat)(a b c:Int)(l:List Nat):Int:=if op=1 then(DW ks n a b c l).getD 0 else if op=2 then(Dt ks a b c).getD 0 else if op=3 then(abE ks a b c).getD 0 else 0
def rdF(ks:List Kt)(op:Nat)(a b c:Int):Tl:=if op=5 then⟨0,ks.filter λd=>OT d a b c,[]⟩else if c=0 then⟨0,ks.filter λd=>decide (d.a=a) && decide (d.b=b),[]⟩else match ks.find? (BL a b c)with
 |none=>⟨60,[],[]⟩
 |some e=>⟨0,[e],e.l⟩
def ans(p:Nst)(x:Ak):Tl:=if x.lf<p.AEr then⟨120,[],[]⟩else if x.op=4\/x.op=5 then rdF p.ks x.op x.a x.b x.c else⟨zF p.ks p.fr.length x.op x.a x.b x.c x.l,[],[]⟩
def Tl.Al(t u:Tl):Prop:=t.z=u.z/\Cg t.xs u.xs/\t.l=u.l
section
variable {e:Env}{h g:Hp}{T M:List Nat}{k n op i:Nat}{lf sq a b c z room:Int}{ks ks':List Kt}{fr fr' l l':List Nat}{v iv bw:xU}{p q r:Nst}{x:Ak}{y y':Kt}
theorem wE:OnC λx=>OT x a b c:=λx y e=>by
 obtain⟨d,f,g,_⟩:=Em e;show OT x a b c=OT y a b c;unfold OT;rw[d,f,g]
theorem xE:OnC λx=>decide (x.a=a) && decide (x.b=b):=λx y e=>by
 obtain⟨c,d,_⟩:=Em e;simp only[c,d]
theorem mf(h:p.Al q):(ans p x).Al (ans q x):=by
 obtain⟨e,d,f⟩:=h;unfold ans;rw[e,f];split
 ·exact⟨rfl,rfl,rfl⟩
 ·split
  ·unfold rdF
   split
   ·exact⟨rfl,d.fil wE,rfl⟩
   ·split
    ·exact⟨rfl,d.fil xE,rfl⟩
    ·rcases Jt (JU (a:=x.a) (b:=x.b) (c:=x.c)) d with ⟨g1,g2⟩|⟨y,y',g1,g2,g3⟩
     ·rw[g1,g2]
      exact⟨rfl,rfl,rfl⟩
     ·rw[g1,g2]
      exact⟨rfl,GG.2 ⟨g3,rfl⟩,(Em g3).2.2.2.2.1⟩
  ·unfold zF
   rw[S1 d,RI d,Ze d];exact⟨rfl,rfl,rfl⟩
theorem mT(k:op=1\/op=2\/op=3\/op=6)(i:op=1->l'=l)(s:Stp T ks fr (kdO op) a b c l' z ks' fr'):z=zF ks fr.length op a b c l:=by
 rcases k with rfl|rfl|rfl|rfl
 ·obtain rfl:=i rfl
  show z=(DW ks fr.length a b c l').getD 0;rcases s with ⟨q,_⟩|⟨rfl,M,g,f⟩
  ·rcases q with ⟨_,e⟩|⟨d,_⟩|⟨d,_⟩|⟨d,_⟩|⟨d,_⟩
   ·rw[e];rfl
   ·exact absurd d (by decide)
   ·exact absurd d (by decide)
   ·exact absurd d (by decide)
   ·exact absurd (.inl rfl) d
  ·rcases f with ⟨_,e,_⟩|⟨d,_⟩|⟨d,_⟩|⟨d,_⟩
   ·rw[e];rfl
   ·exact absurd d (by decide)
   ·exact absurd d (by decide)
   ·exact absurd d (by decide)
 ·show z=(Dt ks a b c).getD 0
  rcases s with ⟨q,_⟩|⟨rfl,M,g,f⟩
  ·rcases q with ⟨d,_⟩|⟨_,e⟩|⟨d,_⟩|⟨d,_⟩|⟨_,d,_⟩
   ·exact absurd d (by unfold DS;decide)
   ·rw[e];rfl
   ·exact absurd d (by decide)
   ·exact absurd d (by decide)
   ·exact absurd rfl d
  ·rcases f with ⟨d,_⟩|⟨_,m,h,g1,⟨g2,g3,g4⟩,g5,_⟩|⟨d,_⟩|⟨d,_⟩
   ·exact absurd d (by unfold DS;decide)
   ·unfold Dt
    rw[g5];split
    ·split<;>rfl
    ·rename_i j
     have:=AAH.1 j h (xy g1);unfold BL at this;simp only[g2,g3,g4,decide_true,Bool.and_self,not_true_eq_false]at this
   ·exact absurd d (by decide)
   ·exact absurd d (by decide)
 ·show z=(abE ks a b c).getD 0
  rcases s with ⟨q,_⟩|⟨rfl,M,g,f⟩
  ·rcases q with ⟨d,_⟩|⟨d,_⟩|⟨_,e⟩|⟨d,_⟩|⟨_,_,_,d,_⟩
   ·exact absurd d (by unfold DS;decide)
   ·exact absurd d (by decide)
   ·rw[e];rfl
   ·exact absurd d (by decide)
   ·exact absurd rfl d
  ·rcases f with ⟨d,_⟩|⟨d,_⟩|⟨_,m,h,g1,g2,g5,_⟩|⟨d,_⟩
   ·exact absurd d (by unfold DS;decide)
   ·exact absurd d (by decide)
   ·unfold abE
    rw[g5,No (by decide)];split<;>rfl
   ·exact absurd d (by decide)
 ·show z=0
  rcases s with ⟨q,_⟩|⟨d,_⟩
  ·rcases q with ⟨d,_⟩|⟨d,_⟩|⟨d,_⟩|⟨_,_,d⟩|⟨_,_,_,_,d,_⟩
   ·exact absurd d (by unfold DS;decide)
   ·exact absurd d (by decide)
   ·exact absurd d (by decide)
   ·exact d
   ·exact absurd rfl d
  ·exact d
theorem ZL(iv:AFb 8 ks fr)(s:Stp T ks fr (kdO op) a b c l z ks' fr'):Iw ks' fr'.length (kdO op) a b c l z:=by
 rcases s with ⟨q,rfl,rfl⟩|⟨rfl,M,e,d⟩
 ·exact q
 ·exact(F8 iv d).2
theorem Xo(h:AEz y.a y.b y.c y.s n=IN):AFi y:=by
 unfold AEz at h;rw[decide_eq_true_eq]at h;refine⟨?_,by omega⟩;unfold nmQ wiQ;simp only[yE,decide_eq_true_eq];omega
theorem du(d:DW ks n a b c l=BY z):0<=z/\z<=1000:=by
 unfold DW at d;split at d
 ·cases d;omega
 ·split at d
  ·split at d<;>cases d<;>omega
  ·split at d
   ·cases d;omega
   ·split at d<;>cases d<;>omega
theorem aR(d:Dt ks a b c=BY z):0<=z/\z<=1000:=by
 unfold Dt at d;split at d
 ·split at d
  ·cases d;omega
  ·split at d<;>cases d<;>omega
 ·split at d<;>cases d<;>omega
theorem mc(d:abE ks a b c=BY z):0<=z/\z<=1000:=by
 unfold abE at d;split at d
 ·cases d;omega
 ·split at d<;>cases d<;>omega
theorem uS:0<=zF ks n op a b c l/\zF ks n op a b c l<=1000:=by
 unfold zF;split
 ·cases d:DW ks n a b c l with
  |none=>exact⟨by decide,by decide⟩
  |some z=>exact du d
 ·split
  ·cases d:Dt ks a b c with
   |none=>exact⟨by decide,by decide⟩
   |some z=>exact aR d
  ·split
   ·cases d:abE ks a b c with
    |none=>exact⟨by decide,by decide⟩
    |some z=>exact mc d
   ·omega
theorem Uu(a:hdQ lf sq op=IN)(d:0<=z/\z<=1000)(b:0<=room/\room<=65536):AFv g lf sq op z AEk AEk room [] []:=
 ⟨a,d,.inl ⟨rfl,rfl⟩,yH _,(λx c=>by cases c),.inl ⟨rfl,rfl⟩,yH _,b,λ_=>⟨rfl,rfl⟩,rfl,rfl⟩
theorem Ts{a o n c b:Nat}(h:AE1 (.slice (BY ⟨a,o,By⟩) n c) b):b=a:=by
 obtain⟨_,_,_,h⟩:=h;injection h with h
 injection h with h
 injection h with h
 exact h.symm
theorem bu{k:Nat}{xs:List Kt}(o:g.IL k v xs){b:Nat}(h:AE1 v b):k<=b:=by
 rcases o with ⟨rfl,_⟩|⟨c,rfl,_,a⟩
 ·obtain⟨_,_,_,h⟩:=h;cases h
 ·rw[Ts h];exact a
theorem nu{k:Nat}{xs:List xU}(o:g.BS (λb=>k<=b) v xs){b:Nat}(h:AE1 v b):k<=b:=by
 rcases o with ⟨rfl,_⟩|⟨e,i,c,f,d,rfl,_,_,_,_,a,_⟩
 ·obtain⟨_,_,_,h⟩:=h;cases h
 ·rw[Ts h];exact a
theorem Ge{b k:Nat}(h:AE1 AEk b):k<=b:=absurd h XX
theorem kz(q:Rdn T ks fr op a b c l i g z iv bw ks' fr')(D:1<=op)(E:op<=6)(j:hdQ lf sq op=IN)(B:∀x∈ks,AEz x.a x.b x.c x.s x.l.length=IN/\x.l.length<=100)(L:ks.length<=49)(k:0<=room/\room<=65536)(hi:oneCell iv=IN)(w:oneCell bw=IN):
  ∃t:Tl,t=(if op=4\/op=5 then rdF ks op a b c else⟨zF ks fr.length op a b c l,[],[]⟩)/\t.z=z/\AFv g lf sq op z iv bw room t.xs t.l/\(t.l=[]\/∃y∈ks,t.l=y.l)/\∀b,AE1 iv b\/AE1 bw b->i<=b:=by
 have fil:∀o:Kt->Bool,(ks.filter o).length<=50/\∀x∈ks.filter o,AFi x:=λo=>⟨yS (List.length_filter_le _ _) (by omega),λx A=>Xo (B x (zC.1 A).1).1⟩
 rcases q with ⟨I,J,p,e,l',G,K⟩|⟨_,_,⟨rfl,rfl,e,f⟩|⟨rfl,⟨rfl,rfl,e,f⟩|⟨s,m,rfl,p,e⟩|⟨s,n,m,rfl,⟨r,rfl,R,F⟩,C⟩⟩⟩
 ·subst p e
  have H:=mT (mS D E I J) G K;subst H;exact⟨_,rfl,by rw[No (by omega)],by rw[No (by omega)];exact Uu j uS k,by rw[No (by omega)];exact .inl rfl,λb d=>d.elim Ge Ge⟩
 ·refine⟨_,rfl,?_⟩
  rw[If (.inr rfl)];unfold rdF;rw[If rfl];exact⟨rfl,⟨j,by omega,f.is,(fil _).1,(fil _).2,.inl ⟨e,rfl⟩,yH _,k,λh=>absurd rfl h,hi,w⟩,.inl rfl,λb d=>d.elim (bu f) (by rw[e];exact Ge)⟩
 ·refine⟨_,rfl,?_⟩
  rw[If (.inl rfl)];unfold rdF;rw[No (by decide),If rfl];exact⟨rfl,⟨j,by omega,f.is,(fil _).1,(fil _).2,.inl ⟨e,rfl⟩,yH _,k,λh=>absurd rfl h,hi,w⟩,.inl rfl,λb d=>d.elim (bu f) (by rw[e];exact Ge)⟩
 ·subst p e
  refine⟨_,rfl,?_⟩;rw[If (.inl rfl)];unfold rdF;rw[No (by decide),No s,m];exact⟨rfl,Uu j (by omega) k,.inl rfl,λb d=>d.elim Ge Ge⟩
 ·have u:=List.mem_of_find?_eq_some m
  refine⟨_,rfl,?_⟩;rw[If (.inl rfl)];unfold rdF;rw[No (by decide),No s,m];exact⟨rfl,⟨j,by omega,kH R,by show 1<=50;omega,λx A=>by rw[yG.1 A];exact Xo (B n u).1,C.vs.vals,by have:=(B n u).2;show n.l.length<=65536;omega,k,λh=>absurd rfl h,hi,w⟩,.inr ⟨n,u,rfl⟩,λb d=>d.elim (λd=>by rw[Ts d];exact F) (nu C)⟩
end
def Did(T:List Nat)(p:Nst)(x:Ak)(z:Int)(q:Nst):Prop:=(x.lf<p.AEr/\q=p)\/(p.AEr<=x.lf/\q.AEr=x.lf/\(((x.op=4\/x.op=5)/\q.ks=p.ks/\q.fr=p.fr)\/((x.op=1\/x.op=2\/x.op=3\/x.op=6)/\Stp T p.ks p.fr (kdO x.op) x.a x.b x.c (lO x.op x.l) z q.ks q.fr)))
section
variable {e:Env}{h h' g:Hp}{R R1 R2:Int->Prop}{X Y Y2:Nat->Prop}{A B:At}{T M:List Nat}{m k n nb op:Nat}{AEr AFr lf sq a b c z z2 room:Int}{ks ks' ks1 ks2:List Kt}{fr fr' fr1 fr2 l l':List Nat}{u iv bw:xU}{p q r:Nst}{x:Ak}{y:Kt}
theorem sX(h:op≠1):¬DS (kdO op):=by
 unfold kdO DS;rw[No h];split
 ·decide
 ·split<;>decide
theorem wN(i:op≠1)(s:Stp T ks fr (kdO op) a b c l z ks' fr'):Stp T ks fr (kdO op) a b c l' z ks' fr':=by
 have e:=sX i;rcases s with ⟨q,d,g⟩|⟨d,M,f,t⟩
 ·refine .inl ⟨?_,d,g⟩
  rcases q with ⟨h,_⟩|q|q|q|q
  ·exact absurd h e
  ·exact .inr (.inl q)
  ·exact .inr (.inr (.inl q))
  ·exact .inr (.inr (.inr (.inl q)))
  ·exact .inr (.inr (.inr (.inr q)))
 ·refine .inr ⟨d,M,f,?_⟩
  rcases t with ⟨h,_⟩|t|t|t
  ·exact absurd h e
  ·exact .inr (.inl t)
  ·exact .inr (.inr (.inl t))
  ·exact .inr (.inr (.inr t))
theorem doA(c:h.Wf)(F:A.n=24)(p:h.Row nb 0 (AE3 A.bd A.tb A.bs AEr))(e:UpX X h A T ks fr k)(G:∀b,X b->b<h.next)(U:X nb)(a1:¬A.D nb)(a2:A.tb≠nb)(L:256<=nb)(q:h.VE x.u (x.l.map bv))(b8:∀y∈x.l,y<256)(a5:∀b,AE1 x.u b->b≠nb)(a3:x.op<256)(j:rgt x=IN)(H:n<=k)
  (sl:AEr<=x.lf->x.op=1\/x.op=2\/x.op=3\/x.op=6->∀(g:Hp) (Y:Nat->Prop),g.Wf->UpX Y g A T ks fr k->(∀b,Y b->b<g.next)->(x.op=1->g.VE x.u (x.l.map bv))->SlC m A T ks fr n x.op x.a x.b x.c x.u x.l Y g):
  ∃iv bw h' ks' fr' AFr,call AC (m+12) 9 [pt nb,x.val] h=.ok (.tuple ⟨[Be x.lf x.sq x.op (ans ⟨AEr,ks,fr⟩ x).z iv bw ((fr':List Nat).length:Int),AI AT 0]⟩) h'/\Fx (λb=>A.D b\/b=nb) h h'/\h'.Row nb 0 (AE3 A.bd A.tb A.bs AFr)/\UpX X h' A T ks' fr' n/\
   AFv h' x.lf x.sq x.op (ans ⟨AEr,ks,fr⟩ x).z iv bw (fr'.length:Int) (ans ⟨AEr,ks,fr⟩ x).xs (ans ⟨AEr,ks,fr⟩ x).l/\Did T ⟨AEr,ks,fr⟩ x (ans ⟨AEr,ks,fr⟩ x).z ⟨AFr,ks',fr'⟩/\(∀y∈(ans ⟨AEr,ks,fr⟩ x).l,y<256)/\∀b,AE1 iv b\/AE1 bw b->h.next<=b:=by
 obtain⟨⟨M,c0,b0,lv,fv,o,a6,md,hc,f⟩,hx⟩:=id e;have b1:=a6.len;have I:hdQ x.lf x.sq x.op=IN:=by
  have u:Ca x.lf x.sq x.op x.a x.b x.c x.l.length=IN:=j;unfold Ca at u;simp only[yE]at u;exact u.1.1
 obtain⟨w,o6,_⟩:=LY j;by_cases i:x.lf<AEr
 ·obtain⟨room,s,l,B,a4⟩:=rQ (m:=m+8) c p e G a3 (λg=>q.bl g) j i
  have f:ans ⟨AEr,ks,fr⟩ x=⟨120,[],[]⟩:=If i;rw[a4]at l;rw[f];exact⟨AEk,AEk,s,ks,fr,AEr,l,.of B,p.ext c B,(e.ext c B).le H,Uu I (show(0:Int)<=120/\(120:Int)<=1000 by omega) (by omega),.inl ⟨i,rfl⟩,(λy a=>by cases a),λb W=>W.elim Ge Ge⟩
 ·have t:AEr<=x.lf:=by omega
  obtain⟨z,iv,bw,room,s,ks',fr',l,R,O,C,⟨J,rfl⟩,hi,hw,rd⟩:=rP (m:=m) c F p e G U a1 a2 L q j t λg Y Q N P V g0 K S=>ap2 (m:=m) Q F N P V ((q.ext c K).fx K.wf S a5) w o6 H (sl t)
  obtain⟨⟨_,_,_,_,_,_,a7,_⟩,_⟩:=id C;have a9:=a7.len;obtain⟨a8,ht,J,tr,d,Z⟩:=kz (room:=(fr'.length:Int)) rd w o6 I md.rs (by omega) (by omega) hi hw;have f:ans ⟨AEr,ks,fr⟩ x=a8:=by
   rw[ht];exact No i
  rw[f,J];refine⟨iv,bw,s,ks',fr',x.lf,l,R,O,C,tr,.inr ⟨t,rfl,?_⟩,λy a=>?_,Z⟩
  ·rcases rd with ⟨n4,n5,_,_,l',a0,o⟩|⟨D,E,h|h⟩
   ·refine .inr ⟨mS w o6 n4 n5,?_⟩
    by_cases r:x.op=1
    ·rw[show lO x.op x.l=l' by rw[a0 r];exact If r]
     exact o
    ·exact wN r o
   ·exact .inl ⟨.inr h.1,D,E⟩
   ·exact .inl ⟨.inl h.1,D,E⟩
  ·rcases d with d|⟨kx,hk,d⟩
   ·rw[d]at a;cases a
   ·rw[d]at a
    exact(o.ko kx hk).2.1 y a
theorem iZ(d:Did T p x z q)(e:p.AEr<=x.lf):q.AEr=x.lf/\DoS T p.ks p.fr x.op x.a x.b x.c x.l q.ks q.fr:=by
 rcases d with ⟨c,_⟩|⟨_,a,b⟩
 ·omega
 ·exact⟨a,b.imp id λh=>⟨by omega,z,h.2⟩⟩
theorem bF(f:rgt x=IN)(iv:AFb 8 p.ks p.fr)(e:Com p.ks)(d:Did T p x z q):q.Al (nxK p x):=by
 by_cases a:p.AEr<=x.lf
 ·obtain⟨b,c⟩:=iZ d a
  obtain⟨g1,g2⟩:=ic iv e c;unfold nxK;rw[If ⟨f,a⟩];exact⟨b,g1,g2⟩
 ·unfold nxK
  rw[No λh=>a h.2];rcases d with ⟨_,rfl⟩|⟨h,_⟩
  ·exact⟨rfl,rfl,rfl⟩
  ·exact absurd h a
theorem K3(iv:AFb 8 p.ks p.fr)(d:Did T p x z q)(e:q.AEr<=x.lf)(c:x.op=1\/x.op=2\/x.op=3\/x.op=6):Iw q.ks q.fr.length (kdO x.op) x.a x.b x.c (lO x.op x.l) z:=by
 rcases d with ⟨b,rfl⟩|⟨_,_,⟨h,_⟩|⟨_,a⟩⟩
 ·omega
 ·omega
 ·exact ZL iv a
theorem iY(iv:AFb 8 p.ks p.fr)(d:Did T p x (ans p x).z q):ans q x=ans p x:=by
 by_cases i:p.AEr<=x.lf
 ·have j:=K3 iv d
  rcases d with ⟨k,_⟩|⟨_,b,⟨a,g,m⟩|⟨a,n⟩⟩
  ·omega
  ·unfold ans
   rw[b,g,No (by omega),No (show ¬x.lf<p.AEr by omega),If a,If a]
  ·have c:ans p x=⟨zF p.ks p.fr.length x.op x.a x.b x.c x.l,[],[]⟩:=by
    unfold ans;rw[No (by omega),No (by omega)]
   have e:ans q x=⟨zF q.ks q.fr.length x.op x.a x.b x.c x.l,[],[]⟩:=by
    unfold ans;rw[b,No (by omega),No (by omega)]
   have f:=mT (l:=x.l) (T:=T) (fr:=q.fr) a (λh=>If h) (.inl ⟨j (by omega) a,rfl,rfl⟩);rw[e,<- f,c]
 ·rcases d with ⟨_,rfl⟩|⟨h,_⟩
  ·rfl
  ·exact absurd h i
theorem bG(iv:AFb 8 p.ks p.fr)(k:AFb 8 q.ks q.fr)(h:Com q.ks)(d:Did T p x z q)(f:Did T q x z2 r):r.Al q:=by
 rcases id f with ⟨_,rfl⟩|⟨i,c,a⟩
 ·exact⟨rfl,rfl,rfl⟩
 ·have e:q.AEr=x.lf:=by
   rcases id d with ⟨b,rfl⟩|⟨_,b,_⟩
   ·omega
   ·exact b
  rcases a with ⟨_,a,g⟩|⟨j,l⟩
  ·exact⟨c.trans e.symm,by rw[a];rfl,g⟩
  ·obtain⟨g1,g2⟩:=X3 k h l
   rw[PX (K3 iv d i j)]at g1 g2;exact⟨c.trans e.symm,g1,g2⟩
theorem UpP.beside(l:h.Wf)(a0:UpP R X h A T ks fr)(P:UpP R1 Y h B T ks1 fr1)(Z:UpP R2 Y2 h' B T ks2 fr2)(hB:B.n=24)(N:h.Row nb 0 (AE3 B.bd B.tb B.bs AEr))(W:h'.Row nb 0 (AE3 B.bd B.tb B.bs AFr))(f:Fx (λb=>B.D b\/b=nb) h h')(H:∀b,B.D b\/b=nb->X b/\¬A.D b/\A.tb≠b):UpP R X h' A T ks fr:=by
 obtain⟨⟨M,c0,a1,lv,fv,g,q⟩,O⟩:=a0;obtain⟨⟨V,c1,a2,a6,a4,s1,_⟩,_⟩:=P;obtain⟨⟨M2,c2,a3,a7,a5,s2,_⟩,_⟩:=Z;have key:∀b,B.D b\/b=nb->(∀i F,¬h.Row b i F)\/∃x w s,h.Row b 0 (x::w)/\h'.Row b 0 s/\∀q,x≠AI AT q:=λb o=>by
  rcases o with (rfl|rfl|rfl|rfl)|rfl
  ·exact .inr ⟨_,_,_,s1.row,s2.row,λq h=>by cases h⟩
  ·exact .inr ⟨_,_,_,s1.dk.disk,s2.dk.disk,λq h=>by cases h⟩
  ·have I:=s1.dk.len
   cases G:V with
   |nil=>rw[G,hB]at I;cases I
   |cons x M0=>
    have J:=s1.dk.med;rw[G]at J;exact .inr ⟨_,_,_,J,s2.dk.med,λq h=>by cases h⟩
  ·refine .inl λi F r=>?_
   obtain⟨_,L,_⟩:=r;rw[s1.dk.map]at L;cases L
  ·exact .inr ⟨_,_,_,N,W,λq h=>by cases h⟩
 have p:∀b,A.D b\/b=A.tb->¬(B.D b\/b=nb):=λb o hs=>by
  obtain⟨_,a,d⟩:=H b hs;rcases o with o|rfl
  ·exact a o
  ·exact d rfl
 refine⟨⟨M,c0,a1,lv,fv,⟨f.row l g.row (p _ (.inl (.inl rfl))),g.dk.fr l f (p _ (.inl (.inr (.inl rfl)))) (p _ (.inl (.inr (.inr (.inl rfl))))) (p _ (.inl (.inr (.inr (.inr rfl))))),f.row l g.tab (p _ (.inr rfl)),g.tok,?_,λk D=>⟨?_,(g.ko k D).2⟩,?_,g.ne,g.le⟩,q⟩,O⟩
 ·rcases g.ls with a|⟨b,c,i,K,a,d,j,n,t,C,u⟩
  ·exact .inl a
  ·by_cases e:B.D b\/b=nb
   ·rcases key b e with m|⟨x,w,s,r,S,E⟩
    ·exact absurd j (m _ _)
    ·have e1:=KI j r
     subst e1;cases ks with
     |nil=>exact .inr ⟨b,c,0,s,a,d,S,yH _,rfl,.inr rfl,u⟩
     |cons z U=>
      have m:=congrArg List.head? t;have h9:BY x=BY (AI AT z.a):=by
       rw[show 6*(z::U).length=6*U.length+5+1 by rw[xh];omega,List.take_succ_cons]at m;exact m
      exact absurd (Option.some.inj h9) (E _)
   ·exact .inr ⟨b,c,i,K,a,d,f.row l j e,n,t,C,u⟩
 ·rcases (g.ko k D).1 with a|⟨b,Q,c,i,K,a,d,j,n,t,C,u⟩
  ·exact .inl a
  ·exact .inr ⟨b,Q,c,i,K,a,d,f.row l j λe=>O k D b ⟨Q,_,c,a⟩ (H b e).1,n,t,C,u⟩
 ·rcases g.fs with a|⟨b,i,a,d,j,n⟩
  ·exact .inl a
  ·refine .inr ⟨b,i,a,f.row l d λe=>?_,j,n⟩
   rcases key b e with m|⟨x,w,s,r,S,E⟩
   ·exact absurd d (m _ _)
   ·have hz:x∈ints .i64 (fr.map zZ):=by rw[KI d r];exact xp
    obtain⟨y,_,hy⟩:=zI.1 hz;exact E _ hy.symm
end
theorem te:siK=BB (AY 1 siB) siI:=rfl
theorem eP:siL=lI:=rfl
theorem tf:siS=BB (AY 0 (A3 siL)) siE:=rfl
theorem qy:d43=iI:=rfl
def Kt.c4(x:Kt):Int×Int×Int×Nat:=(x.a,x.b,x.c,x.s)
section
variable {F:AEh}{e:Env}{h h' g:Hp}{l:List Nat}{n k op i:Nat}{lf sq z room:Int}{iv iv2 bw bw2:xU}{xs ys:List Kt}{x y:Kt}
theorem oC(h:x.c4=y.c4):DF x=DF y:=by
 unfold Kt.c4 at h;injection h with a h
 injection h with b h
 injection h with c d
 unfold DF Bv;rw[a,b,c,d]
theorem cB(o:AFi x):Tm x:=by
 obtain⟨a,b,c,d,e,f,g,h,i⟩:=NS o;have:=o.2;unfold Tm bz;omega
theorem ur(h:Cg xs ys):xs.map Kt.c4=ys.map Kt.c4:=by
 have:=congrArg (AD5 λ(k:Kc)=>((k.a,k.b,k.c,k.s):Int×Int×Int×Nat)) h;rw[ACs,ACs]at this;exact this
theorem ZG(j:h.Wf)(q:h.IS iv xs)(r:h.IS iv2 ys)(s:xs.map Kt.c4=ys.map Kt.c4)(ok:∀x∈xs,AFi x)(W:xs.length<=1000):∃h',call AC (n+1) 43 [iv,iv2] h=.ok (.bool IN) h'/\h.Ext h':=by
 have C:ys.length=xs.length:=by
  have:=congrArg AAC s;rw[xa,xa]at this;exact this.symm
 have o:=λg=>q.len g
 have K:∀g,AFB iv2 g=.ok (AI AT (xs.length:Int)) g:=λg=>by rw[<- C];exact r.len g
 have A:iNe (xs.length:Int) (xs.length:Int)=IT:=B0 rfl;obtain⟨c,L,s0,s1,s5⟩:∃c,iI (call AC n) (Au e0 0 [iv,iv2]) h=siS (call AC n) c h/\J 0 c=iv/\J 1 c=iv2/\J 5 c=AI AT ((0:Nat):Int):=by
  unfold iI;simp only[iN,xV,sT,xT,sh,reduceIte,AX,o,K,AK,AJ,A];exact⟨_,rfl,by simp[AG]⟩
 have R:∃b h',A3 siL (call AC n) c h=.exit 0 b h'/\h.Ext h':=by
  refine Bd (I:=λi b h'=>i<=xs.length/\h.Ext h'/\J 0 b=iv/\J 1 b=iv2/\J 5 b=AI AT (i:Int)) (Q:=λM=>∃b h',M=.exit 0 b h'/\h.Ext h') xs.length (by omega) (λi b h' ⟨V,w,t0,t1,t5⟩=>?_) ⟨yH _,.refl j,s0,s1,s5⟩;by_cases f:i<xs.length
  ·left
   have k:=EU f;obtain⟨x,m⟩:∃x,xs[i]? =BY x:=⟨_,xc f⟩;obtain⟨y,t⟩:∃y,ys[i]? =BY y:=⟨_,xc (by omega)⟩;have D:x.c4=y.c4:=by
    have:=congrArg (λl=>l[i]?) s;simp only[zE,m,t,Option.map_some]at this;exact Option.some.inj this
   have p:=w.marked;obtain⟨T,E,H⟩:=(q.ext j p).at m;obtain⟨U,G,u⟩:=(r.ext j p).at t;rw[<- oC D]at u;have eq:=λ(F:AEh) (e:Env) (c:J 20 e=DF x) (a:J 24 e=DF x)=>rU (F:=F) (h:=h'.marked) (cB (ok x (xy m))) c a
   have z:=Cc (i:=i) (h:=h'.marked) (by omega);obtain⟨a,d,N,O,P⟩:∃a,siL (call AC n) b h'=.norm a h'.marked/\J 0 a=iv/\J 1 a=iv2/\J 5 a=AI AT ((i+1:Nat):Int):=by
    rw[eP];unfold lI;simp only[sT,xT,sh,reduceIte,AX,t0,o,AK,AJ,t5,k];rw[te];unfold siB siI;simp only[sT,xT,sh,reduceIte,A7,Ap,Aw,BA,t0,t1,t5,E,G,An,Ah,H,u,eq,Bt,Ay,BW,z];exact⟨_,rfl,by simp[AG,t0,t1]⟩
   exact⟨f,a,_,d,f,p,N,O,P⟩
  ·right
   obtain rfl:i=xs.length:=by omega
   have k:=Cz (xW xs.length);obtain⟨a,d⟩:∃a,siL (call AC n) b h'=.exit 0 a h':=by
    rw[eP];unfold lI;simp only[sT,xT,sh,reduceIte,AX,t0,o,AK,AJ,t5,k];exact⟨_,rfl⟩
   rw[d];exact⟨rfl,a,h',rfl,w⟩
 obtain⟨a,B,d,S⟩:=R;refine⟨B,?_,S⟩;rw[oh rfl,qy,L,tf];simp only[A7,Ap,d,A5,Ay];unfold siE;simp only[sT,xT,sh,reduceIte,lV0]
theorem Lv(b:h.Wf)(w:h.IS iv xs)(y:h.IS iv2 ys)(S:xs.map Kt.c4=ys.map Kt.c4)(ok:∀x∈xs,AFi x)(T:xs.length<=1000)(A:h.AE7 bw (l.map bv))(B:h.AE7 bw2 (l.map bv))(Q:∀x∈l,x<256):∃h',call AC (n+2) 22 [Be lf sq op z iv bw room,Be lf sq op z iv2 bw2 room] h=.ok (.bool IN) h'/\h.Ext h':=by
 have t:=λ(F:AEh) (e:Env) (q:J 0 e=Be lf sq op z iv bw room)=>(show CV (J 0) F e h=.ok (pt h.next) (h.AEg 0 (B9 lf sq op z iv bw room))by rw[DN,q,DM b];rfl)
 have d:=(Hp.Ext.refl b).AEg 0 (B9 lf sq op z iv bw room);have s:=Hp.Row.new b 0 (B9 lf sq op z iv bw room);generalize h.AEg 0 (B9 lf sq op z iv bw room)=m at t d s;have u:=λ(F:AEh) (e:Env) (q:J 1 e=Be lf sq op z iv2 bw2 room)=>(show CV (J 1) F e m=.ok (pt m.next) (m.AEg 0 (B9 lf sq op z iv2 bw2 room))by rw[DN,q,DM d.wf];rfl)
 have r:=(Hp.Ext.refl d.wf).AEg 0 (B9 lf sq op z iv2 bw2 room);have i:=Hp.Row.new d.wf 0 (B9 lf sq op z iv2 bw2 room);generalize m.AEg 0 (B9 lf sq op z iv2 bw2 room)=X at u r i;have f:=d.trans r;have c:=f.wf;have k:=s.ext d.wf r;have o:∀{j:Nat} {iv bw:xU} {g:Hp},g.Row j 0 (B9 lf sq op z iv bw room)->AEi ⟨j,0,By⟩ g=.ok (AI AT lf) g/\AEi ⟨j,1,By⟩ g=.ok (AI AT sq) g/\AEi ⟨j,2,By⟩ g=.ok (.int .u8 (op:Int)) g/\AEi ⟨j,6,By⟩ g=.ok (AI AT room) g:=λR=>⟨R.AEi (off:=0) (by show 0<7;omega),R.AEi (off:=1) (by show 1<7;omega),R.AEi (off:=2) (by show 2<7;omega),R.AEi (off:=6) (by show 6<7;omega)⟩
 obtain⟨C,D,E,_⟩:=o k;obtain⟨G,H,_⟩:=B7 k;obtain⟨L,M,N,_⟩:=o i;obtain⟨O,b4,_⟩:=B7 i;obtain⟨p,U,a⟩:=ZG (n:=n) c (w.ext b f) (y.ext b f) S ok T;have W:=a.wf;obtain⟨_,_,I,_⟩:=B7 (k.ext c a);obtain⟨_,_,b5,_⟩:=B7 (i.ext c a);have V:call AC (n+1) 50 [bw,bw2] p=.ok (.bool IN) p:=tZ (n:=n) ((A.ext b f).ext c a) (.inl ((B.ext b f).ext c a)) Q;obtain⟨_,_,_,K⟩:=o (k.ext c a);obtain⟨_,_,_,b6⟩:=o (i.ext c a);have P:∀z:Int,iEq z z=IN:=λz=>CP rfl
 refine⟨p,?_,f.trans a⟩;rw[oN rfl];unfold d22;simp only[iN,xV,sT,xT,sh,reduceIte,gD,t,u,AH,AO,xZ,AN,AQ,C,L,D,M,E,N,G,O,AK,AJ,P,H,b4,cA0,U,I,b5,V,K,b6,lV0]
end
theorem sC:haD=sD:=rfl
theorem aa:d21=ae:=rfl
section
variable {e:Env}{h h' hB g:Hp}{X:Nat->Prop}{A:At}{T M:List Nat}{m n k nb op kM:Nat}{AEr z:Int}{ks ks':List Kt}{fr fr' l:List Nat}{u w iv bw:xU}{x:Ak}
theorem Yi(t:h.Wf)(j:h.Row nb 0 (AE3 A.bd A.tb A.bs AEr))(o:UpX X h A T ks fr k):∃h' c,call AC (m+13) 21 [pt nb,AEk] h=.ok (.tuple ⟨[AEk,AI AT c]⟩) h'/\c≠0/\h.Ext h':=by
 have E:call AC (m+12) 27 [pt nb] h=.ok (AI AT 0) h:=Uv (m:=m+9) j o;obtain⟨s,C,L⟩:=o.tab;obtain⟨_,F,_,_⟩:=CG j;have y:iNe 0 0=IT:=B0 rfl;obtain⟨p,f,g,op,b,d,c,w,I,r,a,G,K⟩:=O4 (n:=m+7) (l:=[]) t s C (.inl (.inl ⟨rfl,rfl⟩)) (λM n c e=>by cases e;exact xW _) (λx D=>by cases D) (yH _);have B:Je T []=11:=rfl;rw[B]at a;have a:call AC (m+12) 48 [pt A.tb,AEk] h=.ok (.tuple ⟨[CQ f g op b d c w,AI AT 11]⟩) p:=a;obtain⟨g3,q,u,i,H,J,N⟩:=Jk r.wf Ki rfl (vs:=CM f g op b d c w) rfl (by show(bif oneCell w then IN else IT)=IN;rw[G];rfl);have i:AEn 7 (pt p.next) (CQ f g op b d c w) g3=.ok AEl q:=i;have z:iNe 11 0=IN:=EG (by omega);refine⟨q,11,?_,by omega,r.trans H⟩;rw[Z9 rfl,aa];unfold ae;simp only[iN,xV,sT,xT,sh,reduceIte,cA0,E,AK,AJ,y,Ax,Am,AH,AO,xZ,AN,AQ,F,a,Aq,Az,A1,u,AW,i,z,Av,CO]
theorem jC(z:h.Wf)(Z:A.n=24)(t:h.Row nb 0 (AE3 A.bd A.tb A.bs AEr))(F:UpX X h A T ks fr (k+40))(hX:∀b,X b->b<h.next)(a5:X nb)(a7:¬A.D nb)(a8:A.tb≠nb)(a0:256<=nb)(I:rgt x=IN)(a9:x.op<256)(b8:∀y∈x.l,y<256)(hl:x.l.length<=1000)(M:Mk h kM u (DH T (Gb x.lf x.sq x.op x.a x.b x.c x.l)))(b9:(Gb x.lf x.sq x.op x.a x.b x.c x.l).length<=800000):
  ∃w h' ks' fr' l q,call AC (m+13) 21 [pt nb,u] h=.ok (.tuple ⟨[w,AI AT 0]⟩) h'/\Fx (λb=>A.D b\/b=nb) h h'/\h'.Row nb 0 (AE3 A.bd A.tb A.bs l)/\UpX X h' A T ks' fr' k/\Did T ⟨AEr,ks,fr⟩ x (ans ⟨AEr,ks,fr⟩ x).z ⟨l,ks',fr'⟩/\
   Mk h' q w (DH T (FO x.lf x.sq x.op (ans ⟨AEr,ks,fr⟩ x).z (fr'.length:Int) (ans ⟨AEr,ks,fr⟩ x).xs (ans ⟨AEr,ks,fr⟩ x).l))/\h.next<=q/\(FO x.lf x.sq x.op (ans ⟨AEr,ks,fr⟩ x).z (fr'.length:Int) (ans ⟨AEr,ks,fr⟩ x).xs (ans ⟨AEr,ks,fr⟩ x).l).length<=800000/\(∀y∈FO x.lf x.sq x.op (ans ⟨AEr,ks,fr⟩ x).z (fr'.length:Int) (ans ⟨AEr,ks,fr⟩ x).xs (ans ⟨AEr,ks,fr⟩ x).l,y<256)/\∃g iv bw,AFv g x.lf x.sq x.op (ans ⟨AEr,ks,fr⟩ x).z iv bw (fr'.length:Int) (ans ⟨AEr,ks,fr⟩ x).xs (ans ⟨AEr,ks,fr⟩ x).l:=by
 have k1:call AC (m+12) 27 [pt nb] h=.ok (AI AT 0) h:=Uv (m:=m+9) t F;obtain⟨Rt,hT,c2⟩:=F.tab;obtain⟨_,n1,_,_⟩:=CG t;have Y:iNe 0 0=IT:=B0 rfl;obtain⟨B,lf,sq,op,b5,b,b6,w,b3,y2,C,ow,hq⟩:=O4 (n:=m+7) z Rt hT (.inl M.vals) M.cap (KK (fw b8)) (by rw[Fm];omega);have hE:Je T (DH T (Gb x.lf x.sq x.op x.a x.b x.c x.l))=0:=Zl I;obtain⟨_,Vw,w8,_,⟨b2,hB,q1,q2,q3,q4,q5,D,q7⟩,fresh⟩:=hq hE;rw[Es]at hB;obtain rfl:=Option.some.inj hB;obtain⟨⟨f1,f2,f3,f4,f5,f6,f7⟩,_⟩:=Xq I;obtain rfl:=q1.trans f1.symm;obtain rfl:=q2.trans f2.symm;obtain rfl:=q3.trans f3.symm;obtain rfl:=q4.trans f4.symm;obtain rfl:=q5.trans f5.symm;obtain rfl:=D.trans f6.symm;obtain rfl:=q7.trans f7.symm;rw[hE]at C;have C:call AC (m+12) 48 [pt A.tb,u] h=.ok (.tuple ⟨[CQ x.lf x.sq x.op x.a x.b x.c w,AI AT 0]⟩) B:=C;have W:=y2.wf;obtain⟨g3,o,a3,N,P,R7,q3⟩:=Jk W Ki rfl (vs:=CM x.lf x.sq x.op x.a x.b x.c w) rfl (by show(bif oneCell w then IN else IT)=IN;rw[ow];rfl);have N:AEn 7 (pt B.next) (CQ x.lf x.sq x.op x.a x.b x.c w) g3=.ok AEl o:=N;have W3:=P.wf;have r:=y2.trans P;obtain⟨_,_,_,_,_,_,_,b1⟩:=Br R7;have c1:=t.lt z;obtain⟨iv,bw,i,ks',fr',l,K,G,U,V,t4,d4,b84,_⟩:=doA (m:=m) (k:=k+40) (n:=k) (x:=⟨x.lf,x.sq,x.op,x.a,x.b,x.c,w,x.l⟩) W3 Z (t.ext z r) (F.ext z r) (λb H=>Nat.lt_of_lt_of_le (hX b H) r.next) a5 a7 a8 a0 (Vw.ext W P) b8 (λb H=>by
  have:=fresh b H;omega) a9 I (by omega) λ_ ho g b4 Wg Ug hY Vg=>slN (m:=m) Wg Z Ug hY Vg b8 hl ho
 have K:call AC (m+12) 9 [pt nb,CQ x.lf x.sq x.op x.a x.b x.c w] o=.ok (.tuple ⟨[Be x.lf x.sq x.op (ans ⟨AEr,ks,fr⟩ x).z iv bw (fr'.length:Int),AI AT 0]⟩) i:=K;have t4:AFv i x.lf x.sq x.op (ans ⟨AEr,ks,fr⟩ x).z iv bw (fr'.length:Int) (ans ⟨AEr,ks,fr⟩ x).xs (ans ⟨AEr,ks,fr⟩ x).l:=t4;have b84:∀y∈(ans ⟨AEr,ks,fr⟩ x).l,y<256:=b84;have d4:Did T ⟨AEr,ks,fr⟩ x (ans ⟨AEr,ks,fr⟩ x).z ⟨l,ks',fr'⟩:=d4;generalize ans ⟨AEr,ks,fr⟩ x=c at *;have d:=G.wf;obtain⟨g5,a,al5,O,R,R9,q5⟩:=Jk d Dd rfl (vs:=B9 x.lf x.sq x.op c.z iv bw (fr'.length:Int)) rfl (KX t4.i1 t4.b1);have O:AEn 7 (pt i.next) (Be x.lf x.sq x.op c.z iv bw (fr'.length:Int)) g5=.ok AEl a:=O;have W5:=R.wf;have a1:=(U.ext d R).same (h':=a.marked) rfl;have xm:=R.marked;obtain⟨_,m1,_,_⟩:=CG a1;have b0:loadN 7 ⟨i.next,0,By⟩ a.marked=.ok (Be x.lf x.sq x.op c.z iv bw (fr'.length:Int)) a.marked:=(B7 (R9.same (h':=a.marked) rfl)).2.2.2;obtain⟨a2,_,_⟩:=V.tab;have s:i.Ext a.marked.quiet:=xm.quiet;have t5:AFv a.marked.quiet x.lf x.sq x.op c.z iv bw (fr'.length:Int) c.xs c.l:=⟨t4.hd,t4.z0,t4.is.ext d s,t4.nx,t4.ok,t4.V.ext d s,t4.nl,t4.rm,t4.no,t4.i1,t4.b1⟩;obtain⟨p,E,q,L,x6,M6,b7,a6,a4⟩:=VK (m:=m+5) s.wf (a2.ext d s) hT t5 b84;have L:call AC (m+12) 49 [pt A.tb,Be x.lf x.sq x.op c.z iv bw (fr'.length:Int)] a.marked.quiet=.ok (.tuple ⟨[E,AI AT 0]⟩) p:=L;have D:∀e:Env,J 39 e=pt A.tb->J 40 e=Be x.lf x.sq x.op c.z iv bw (fr'.length:Int)->Ac .free (AS 49 [J 39,J 40]) (call AC (m+12)) e a.marked=.ok (.tuple ⟨[E,AI AT 0]⟩) (a.marked.back p):=λe f j=>by
  refine BF ?_;rw[BX,AV,AV,A4,f,j];exact L
 have y7:a.marked.Ext (a.marked.back p):=.back x6;have S:Mk (a.marked.back p) q E _:=M6.same rfl;generalize a.marked.back p=h7 at D y7 S;have Q:=xm.trans y7;refine⟨E,h7,ks',fr',l,q,?_,((Fx.of r).trans G).trans (.of Q),U.ext d Q,V.ext d Q,d4,S,?_,a6,a4,_,_,_,t4⟩
 ·obtain⟨f,p1,s0,s7⟩:∃f,ae (call AC (m+12)) (Au e0 0 [pt nb,u]) h=haD (call AC (m+12)) f o/\J 0 f=pt nb/\J 7 f=pt B.next:=by
   unfold ae;simp only[iN,xV,sT,xT,sh,reduceIte,cA0,k1,AK,AJ,Y,Ax,Am,AH,AO,xZ,AN,AQ,n1,C,Aq,Az,A1,a3,AW,N];exact⟨_,rfl,by simp[AG]⟩
  obtain⟨j,p2,t0,t9⟩:∃j,haD (call AC (m+12)) f o=haM (call AC (m+12)) j a/\J 0 j=pt nb/\J 9 j=pt i.next:=by
   rw[sC];unfold sD;simp only[sT,xT,sh,reduceIte,An,Ah,s7,b1,cA0,s0,K,Aq,Az,A1,al5,AW,O,AK,AJ,Y];exact⟨_,rfl,by simp[AG,s0]⟩
  rw[Z9 rfl,aa,p1,p2];unfold haM;simp only[sT,xT,sh,reduceIte,Aw,Ax,t0,Am,AH,AO,xZ,AN,AQ,m1,An,Ah,t9,b0,D,Aq,Az,A1,Av,CO]
 ·have h1:=r.next
  have B:=G.next;have o:i.next<=a.marked.quiet.next:=s.next;omega
end
def AK9(X:Nat->Prop)(h:Hp)(A:At)(T:List Nat)(B:List Kt)(fr:List Nat)(kd a b c:Int)(l:List Nat)(f:Bool):Prop:=
 (f=IT/\UpP (AIC IN) X h A T B fr)\/(f=IN/\∃d e,AI7 IN h A T d e/\AGq 8 T d e (Aft B fr kd a b c l))
section

end
structure Kq (h h':Hp):Prop where
 row:∀b el L,el≠38->h.Row b el L->h'.Row b el L
 map:∀b es c,h.bl.get b=.map es c->h'.bl.get b=.map es c
section

end
end
end Go.Proofs.YtldjiljipddebaaGreat
