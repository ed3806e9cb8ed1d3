/-
  Part ZN of what Lawru stands on: printed by program, names and spaces cut.
-/
import Derived.Test.YtedbmmfebjfibaaGreatZM
open Nat renaming reduceEqDiff→AI,reduceLT→AT,reduceAdd→By,le_refl→IN,zero_add→sh,succ→vD,ble→vJ,zero_le→vi,le_trans→vw,eq_zero_or_pos→vy,mul_comm→wj,add_zero→xM,reduceLeDiff→AAl
open Go renaming Value→BY
open List renaming length_append→IT,length_map→If,mem_cons_self→vG,mem_cons_of_mem→vH,length_cons→vI,mem_singleton→vM,mem_of_getElem?→vN,append_nil→vR,mem_cons→vS,mem_append_right→vV,append_assoc→vX,mem_append→va,getElem?_append_right→ve,mem_append_left→vk,length_take→vp,eq_nil_of_length_eq_zero→vz,map_append→v8,length_nil→wB,length_drop→wG,range→wI,nil_append→wL,drop_zero→wM,drop_of_length_le→wR,length_singleton→wU,take_length→wh,take_append_drop→xA,range_succ→xU,reverse_append→xY,singleton_append→yI,reverse_reverse→yP,filter_append→yV,map_eq_nil_iff→yY,cons_append→zK,length_reverse→zm,take_append_of_le_length→zz,mem_reverse→AAA,reverse_cons→AAK,length_range→AAL,append_eq→ABB,drop→ACP,take→ACp
open Int renaming sub→wA,ofNat→wC
open Bool renaming not_true→wQ,not_false→wm
open Classical renaming propDecidable→wV,choose→ACt,choose_spec→AC6
open Go.Value renaming int→wb
set_option linter.unusedVariables false
set_option linter.unusedSimpArgs false
namespace Go.Proofs.YtedbmmfebjfibaaGreat
noncomputable section
open Go
set_option maxRecDepth 100000
structure Kc where
 a:Int
 b:Int
 c:Int
 s:Nat
 l:List Nat
 p:Nat
def Kt.core(k:Kt):Kc:=⟨k.a,k.b,k.c,k.s,k.l,k.p⟩
def lkN(T M:List Nat)(p:Nat):Option (List Nat):=match wV (∃ ns,G3 T M p ns)with
 |.isTrue h=>some (ACt h)
 |.isFalse _=>none
def EB(T M:List Nat)(p:Nat):Bool:=match wV ((¬ ∃ ns,G3 T M p ns)∧((∃ x∈sec M (3*p),x≠0)∨∃ ns,K3 T (sec M (3*p)) ns∧at6 ns 4≤100))with
 |.isTrue _=>true
 |.isFalse _=>false
theorem Qb{T M:List Nat}{p:Nat}{ns:List Nat}(h:G3 T M p ns):lkN T M p=some ns:=by
 unfold lkN;split
 ·rename_i h' _
  rw[H7 (AC6 h').1 h.1]
 ·rename_i h' _;exact absurd ⟨ns,h⟩ h'
theorem Qa{T M:List Nat}{p:Nat}(h:¬ ∃ ns,G3 T M p ns):lkN T M p=none:=by
 unfold lkN;split
 ·rename_i h' _;exact absurd h' h
 ·rfl
theorem HQ{T M:List Nat}{p:Nat}:EB T M p=true↔((¬ ∃ ns,G3 T M p ns)∧((∃ x∈sec M (3*p),x≠0)∨∃ ns,K3 T (sec M (3*p)) ns∧at6 ns 4≤100)):=by
 unfold EB;split
 ·rename_i h _;exact⟨fun _=>h,fun _=>rfl⟩
 ·rename_i h _;exact⟨fun e=>(by cases e),fun e=>absurd e h⟩
def Yx(M:List Nat)(p:Nat)(ns:List Nat):Kc:=⟨at6 ns 1,at6 ns 2,at6 ns 3,at6 ns 0,dat M p (at6 ns 4),p⟩
def kcs(T M:List Nat)(i:Nat):List Kc:=(wI i).filterMap fun p=>(lkN T M p).map (Yx M p)
def AEg(T M:List Nat)(i:Nat):List Nat:=(wI i).filter (EB T M)
def mrk(T M:List Nat)(i:Nat):List Nat:=(wI i).filter fun p=>(lkN T M p).isSome || EB T M p
theorem QQ(T M:List Nat)(i:Nat):kcs T M (i+1)=kcs T M i++(match lkN T M i with|some ns=>[Yx M i ns]|none=>[]):=by
 unfold kcs;rw[xU,List.filterMap_append];cases h:lkN T M i<;>simp[h]
theorem Jr(T M:List Nat)(i:Nat):AEg T M (i+1)=AEg T M i++(if EB T M i=true then [i]else []):=by
 unfold AEg;rw[xU,yV];cases h:EB T M i<;>simp[h]
theorem MW(T M:List Nat)(i:Nat):mrk T M (i+1)=mrk T M i++(if((lkN T M i).isSome || EB T M i)=true then [i]else []):=by
 unfold mrk;rw[xU,yV];cases h:((lkN T M i).isSome || EB T M i)<;>simp[h]
theorem Dg(i:Nat)(f:Nat→Bool):((wI i).filter f).length≤i:=by
 have:=List.length_filter_le f (wI i)
 rwa [AAL]at this
theorem HL(a b:List Nat):ints .i64 ((a++b).map wC)=ints .i64 (a.map wC)++ints .i64 (b.map wC):=by unfold ints;rw[v8,v8]
theorem oB:BO ty3.zero 1=[.int .i64 0]:=by kernel_rfl
section
variable {F:ADS}{e:Env}{h g g':Hp}{T M:List Nat}{bs r9 k1 bd bm bc tb n i m c0:Nat}{v mv:BY}{ks:List Kt}{arm:Int}
theorem EV(W:h.Wf){x:O}{z:Int}(hx:x e=.int .i64 z):Ak 1 (BO ty3.zero 1) [(0,1,x)] F e h=.ok (.slice (some ⟨h.next,0,none⟩) 1 1) (h.ADR 0 [.int .i64 z]):=by
 rw[oB];exact H6 W hx rfl rfl
theorem Hp.KO.nb{k b el:Nat}{L:List BY}(o:h.KO k v ks)(r:h.Row b el L)(he:el≠84):¬ ADv v b:=fun⟨off,nn,c,e1⟩=>by
 rcases o with ⟨h1,h2⟩|⟨b',h1,h2,h3,h4⟩
 ·rw[h1]at e1;cases e1
 ·rw[h1]at e1
  injection e1 with e1 _ _
  injection e1 with e1
  injection e1 with e1 _ _
  rw[e1]at h2;exact Dn r h2 he rfl
theorem Hp.Own.nb{k b el en:Nat}{xs L:List BY}(o:h.Own k en v xs)(r:h.Row b el L)(he:el≠en+1):¬ ADv v b:=fun⟨off,nn,c,e1⟩=>by
 rcases o with ⟨h1,h2⟩|⟨b',h1,h2,h3,h4⟩
 ·rw[h1]at e1;cases e1
 ·rw[h1]at e1
  injection e1 with e1 _ _
  injection e1 with e1
  injection e1 with e1 _ _
  rw[e1]at h2;exact Dn r h2 he rfl
structure O1 (h g:Hp)(T M:List Nat)(bs r9 k1 bd tb i:Nat)(v mv:BY)(ks:List Kt):Prop where
 x:h.Ext g
 row:g.Row bs 0 (slL bd tb ADj ADj (AEg T M i).length false)
 rb:g.Row r9 0 [pt bs]
 ko:g.KO k1 v ks
 cs:ks.map Kt.core=kcs T M i
 ok:∀ k∈ks,AFm g (fun b=>r9<b) k
 ms:g.Own k1 3 mv (ints .i64 ((mrk T M i).map wC))
 le:k1≤g.next
theorem O1.ext(o:O1 h g T M bs r9 k1 bd tb i v mv ks)(x:g.Ext g'):O1 h g' T M bs r9 k1 bd tb i v mv ks:=
 have W:=o.x.wf
 ⟨o.x.trans x,o.row.ext W x,o.rb.ext W x,o.ko.ext W x,o.cs,fun k hk=>⟨(o.ok k hk).1.ext W x,(o.ok k hk).2⟩,o.ms.ext W x,vw o.le x.next⟩
theorem Uu:nI=BK (Ad 1 (Ay LA)) nH:=rfl
theorem X9:d16=cZ:=rfl
theorem mi(o:O1 h g T M bs r9 k1 bd tb i v mv ks):ks.length≤i:=by
 have h1:=congrArg List.length o.cs;rw[If]at h1;rw[h1];unfold kcs;have:=List.length_filterMap_le (fun p=>(lkN T M p).map (Yx M p)) (wI i)
 rwa [AAL]at this
theorem Zm(W:h.Wf)(d:Dk h bd bm bc n M c0 [] arm false)(Rt:h.Row tb 0 (T.map wv))(hT:AEM T)(o:O1 h g T M bs r9 k1 bd tb i v mv ks)(hbs:h.next≤bs∧bs<r9∧r9<k1)(hi:i<n/3)
  (t8:AB 9 e=pt r9)(t10:AB 10 e=v)(t11:AB 11 e=mv)(t51:AB 51 e=.int .i64 ((n/3:Nat):Int))(t52:AB 52 e=.int .i64 (i:Int)):
  ∃ e' g' v' mv' ks',LA (call AD (m+6)) e g=.norm e' g'∧O1 h g' T M bs r9 k1 bd tb (i+1) v' mv' ks'∧AB 10 e'=v'∧AB 11 e'=mv'∧AB 52 e'=.int .i64 ((i+1:Nat):Int)∧∀ j,j=0∨j=1∨j=2∨j=8∨j=9∨j=51→AB j e'=AB j e:=by
 have hn:=d.n1;have W1:=o.x.wf;have hhk:h.next≤k1:=by omega
 have c1:iLt (i:Int) ((n/3:Nat):Int)=true:=Es hi;have l9:=Cw o.rb;obtain⟨h1,x1,LK⟩:=dq (m:=m+1) W1 o.row (Rt.ext W o.x) hT (d.ext W o.x) (p:=i) (by omega);have al:=fun (F:ADS) (e:Env)=>Bm (F:=F) (e:=e) x1.wf (n:=6) (t:=Dl)
 have Ra:=Hp.Row.alloc x1.wf Gr (show(AV K0).length=6 from rfl);have y2:h1.Ext (h1.push (.cells Dl 6 0)):=(Hp.Ext.refl x1.wf).push _;have n2:(h1.push (.cells Dl 6 0)).next=h1.next+1:=rfl;generalize h1.push (.cells Dl 6 0)=h2 at al Ra y2 n2;have c0':iNe 0 0=false:=CV rfl;have hx1:=x1.next;rcases LK with ⟨ns,u,hH,hk,hu⟩|⟨hH,bad,hk,AFg⟩
 ·
  have hN:=Qb hH;have AGt:=Q6 hH.1;have hB:EB T M i=false:=by
   cases hb:EB T M i
   ·rfl
   ·exact absurd ⟨ns,hH⟩ (HQ.1 hb).1
  have u1:=hu.vs.one;obtain⟨st,_,y3,R3,n3⟩:=Mp x1.wf y2 (IN _) Ra rfl (k:=⟨at6 ns 1,at6 ns 2,at6 ns 3,at6 ns 0,dat M i (at6 ns 4),i,u⟩) u1.2.1;generalize hX:(⟨at6 ns 1,at6 ns 2,at6 ns 3,at6 ns 0,dat M i (at6 ns 4),i,u⟩:Kt)=X at hk st y3 R3 n3;generalize h2.wr h1.next 0 (AV X)=h3 at st y3 R3 n3;have o3:=o.ext (x1.trans y3);have hXu:X.u=u:=by rw[← hX]
  obtain⟨_,_,_,_,_,_,ld,_⟩:=Bq R3;have sl:=fun (F:ADS) (e:Env) (he:AB 70 e=ktV X)=>MP (F:=F) o3.x.wf he
  obtain⟨h5,v5,k5,x5,q5,n5,f5⟩:=Sr o3.x hhk o3.le o3.ko (x:=X) (by rw[hXu];exact u1.2.1) (by have:=mi o;omega);have f5':∀ b el L,el≠84→h3.Row b el L→h5.Row b el L:=fun b el L he r=>f5 b el L (o3.ko.nb r he) r
  have hlen:(dat M i (at6 ns 4)).length=at6 ns 4:=I4 d.len (by have:=hH.2.1;omega);have okX:AFm h5 (fun b=>r9<b) X:=by
   rw[← hX];refine⟨((hu.ext x1.wf y3).mono fun b hb=>by have hb:g.next≤b:=hb;have:=o.le;omega).keep fun b el L hb he r=>f5' b el L (by omega) r,YP d.byt _ _,by rw[hlen];exact hH.2.1,?_,?_,by show i<65536;omega⟩
   ·obtain⟨_,_,_,h4⟩:=AGt
    unfold ADc at h4;have:=of_decide_eq_true h4;exact this.2.2.2.2.2.2.1
   ·obtain⟨_,_,_,h4⟩:=AGt
    unfold ADc at h4 ⊢;have:=of_decide_eq_true h4;refine decide_eq_true ⟨this.1,this.2.1,this.2.2.1,this.2.2.2.1,this.2.2.2.2.1,this.2.2.2.2.2.1,this.2.2.2.2.2.2.1,?_⟩;show(dat M i (at6 ns 4)).length≤65536;rw[hlen];have:=hH.2.1;omega
  have o5:O1 h h5 T M bs r9 k1 bd tb i v5 mv (ks++[X])→True:=fun _=>trivial
  have mk5:h5.Own k1 3 mv (ints .i64 ((mrk T M i).map wC)):=by
   rcases o3.ms with h1'|⟨b,h1',h2',h3',h4'⟩
   ·exact .inl h1'
   ·exact .inr ⟨b,h1',f5' b _ _ (by omega) h2',h3',h4'⟩
  obtain⟨h6,mv6,k6,x6,m6,n6,f6⟩:∃ g' mv',DQ 1 8 3 mv (.slice (some ⟨h5.next,0,none⟩) 1 1) (h5.ADR 0 [.int .i64 (i:Int)])=.ok mv' g'∧h.Ext g'∧g'.Own k1 3 mv' (ints .i64 ((mrk T M i++[i]).map wC))∧h5.next≤g'.next∧(∀ b el L,el≠4→h5.Row b el L→g'.Row b el L):=by
   obtain⟨g',mv',a1,a2,a3,a4,a5⟩:=JT (eb:=8) (en:=3) (kd:=.i64) (n:=(i:Int)) x5 hhk (by have:=o3.le;omega) mk5 (by
    have:=Dg i (fun p=>(lkN T M p).isSome || EB T M p);have:(mrk T M i).length≤i:=this;have:(ints .i64 ((mrk T M i).map wC)).length≤i:=by unfold ints;rw[If,If];exact this
    omega)
   exact⟨g',mv',a1,a2,by rw[HL];exact a3,by omega,fun b el L he r=>(a5 b el L (mk5.nb r he) r).1⟩
  have f56:∀ b el L,el≠84→el≠4→h3.Row b el L→h6.Row b el L:=fun b el L h1 h2 r=>f6 b el L h2 (f5' b el L h1 r)
  have is:=fun (F:ADS) (e:Env) (he:AB 12 e=.int .i64 (i:Int))=>EV (F:=F) x5.wf he
  have a3:=CH (i:=i) (h:=h6) (by omega);have hrun:∃ e2,LA (call AD (m+6)) e g=.norm e2 h6∧AB 10 e2=v5∧AB 11 e2=mv6∧AB 52 e2=.int .i64 ((i+1:Nat):Int)∧∀ j,j=0∨j=1∨j=2∨j=8∨j=9∨j=51→AB j e2=AB j e:=by
   unfold LA;simp only[sT,AT,AI,reduceIte,gD,AM,AK,t52,t51,c1,AN,AQ,t8,l9,cA0,hk,BL,BR,Ba,C5,GY,al,Aa,st,c0',Aw,Ar,ld,sl,BG,t10,k5,is,t11,k6,BF,a3];refine⟨_,rfl,by simp[AF],by simp[AF],by simp[AF],fun j hj=>?_⟩;rcases hj with rfl|rfl|rfl|rfl|rfl|rfl<;>simp only[AF,AT,AI,reduceIte]
  obtain⟨e2,r1,r2,r3,r4,r5⟩:=hrun;refine⟨e2,h6,v5,mv6,ks++[X],r1,⟨x6,?_,f56 _ _ _ (by omega) (by omega) o3.rb,q5.keep fun b el L hb r=>?_,?_,fun k hk=>?_,?_,by have:=o3.le;omega⟩,r2,r3,r4,r5⟩
  ·rw[Jr,hB,if_neg (by decide),vR]
   exact f56 _ _ _ (by omega) (by omega) o3.row
  ·obtain⟨off,nn,c,e1⟩:=hb
   rcases q5 with ⟨e2,_⟩|⟨b',e2,r',_⟩
   ·rw[e2]at e1;cases e1
   ·rw[e2]at e1
    injection e1 with e1 _ _
    injection e1 with e1
    injection e1 with e1 _ _
    rw[← e1]at r ⊢;refine f6 _ _ _ ?_ r;intro h4;rw[h4]at r;exact Dn r r' (by omega) rfl
  ·rw[v8,o.cs,QQ,hN,← hX];rfl
  ·rcases va.1 hk with hk|hk
   ·exact⟨((o3.ok k hk).1.keep fun b el L hb he r=>f56 b el L (by omega) (by omega) r),(o3.ok k hk).2⟩
   ·rw[vM.1 hk]
    exact⟨okX.1.keep fun b el L hb he r=>f6 b el L (by omega) r,okX.2⟩
  ·rw[MW,hN,if_pos (by rfl)];exact m6
 ·
  have hN:=Qa hH;obtain⟨st,_,y3,R3,n3⟩:=Mp x1.wf y2 (IN _) Ra rfl (k:=K0) rfl;generalize h2.wr h1.next 0 (AV K0)=h3 at st y3 R3 n3;have o3:=o.ext (x1.trans y3);have hcs:ks.map Kt.core=kcs T M (i+1):=by rw[QQ,hN,vR];exact o.cs
  cases hbd:bad with
  |false=>
   rw[hbd]at hk AFg;have hB:EB T M i=false:=by
    cases hb:EB T M i
    ·rfl
    ·have:=AFg.2 (HQ.1 hb).2;cases this
   have a3:=CH (i:=i) (h:=h3) (by omega);have hrun:∃ e2,LA (call AD (m+6)) e g=.norm e2 h3∧AB 10 e2=v∧AB 11 e2=mv∧AB 52 e2=.int .i64 ((i+1:Nat):Int)∧∀ j,j=0∨j=1∨j=2∨j=8∨j=9∨j=51→AB j e2=AB j e:=by
    unfold LA;simp only[sT,AT,AI,reduceIte,gD,AM,AK,t52,t51,c1,AN,AQ,t8,l9,cA0,hk,BL,BR,Ba,C5,GY,al,Aa,st,c0',BF,a3];refine⟨_,rfl,by simp[AF,t10],by simp[AF,t11],by simp[AF],fun j hj=>?_⟩;rcases hj with rfl|rfl|rfl|rfl|rfl|rfl<;>simp only[AF,AT,AI,reduceIte]
   obtain⟨e2,r1,r2,r3,r4,r5⟩:=hrun;refine⟨e2,h3,v,mv,ks,r1,⟨o3.x,?_,o3.rb,o3.ko,hcs,o3.ok,?_,o3.le⟩,r2,r3,r4,r5⟩
   ·rw[Jr,hB,if_neg (by decide),vR];exact o3.row
   ·rw[MW,hN,hB,if_neg (by decide),vR];exact o3.ms
  |true=>
   rw[hbd]at hk AFg;have hB:EB T M i=true:=HQ.2 ⟨hH,AFg.1 rfl⟩;have ADg:256≤bs:=by have:=W.big;omega
   obtain⟨_,_,_,_,_,l5,_⟩:=A7 o3.row;have hbl:(AEg T M i).length≤i:=Dg i _;have ad:FH .i64 (.int .i64 ((AEg T M i).length:Int)) (.int .i64 1) h3=.ok (.int .i64 (((AEg T M i).length+1:Nat):Int)) h3:=CH (by omega);have st5:ADl 1 (.pointer (some ⟨bs,5,none⟩)) (.int .i64 (((AEg T M i).length+1:Nat):Int)) h3=.ok ADV (h3.wr bs 5 [.int .i64 (((AEg T M i).length+1:Nat):Int)]):=o3.row.ADl (n:=1) (off:=5) o3.x.wf ADg (v:=.int .i64 (((AEg T M i).length+1:Nat):Int)) rfl (by show 5+1≤7;omega) rfl;have ho5:5+[wb .i64 (((AEg T M i).length+1:Nat):Int)].length≤(slL bd tb ADj ADj (AEg T M i).length false).length:=by show 5+1≤7;omega
   have R5:=o3.row.ADm o3.x.wf ho5;have x5:=o3.row.AD5 o3.x hbs.1 ho5;have n5:=o3.row.AD9 ho5;have f5:∀ b el L,b≠bs→h3.Row b el L→(h3.wr bs 5 [.int .i64 (((AEg T M i).length+1:Nat):Int)]).Row b el L:=fun b el L hb r=>o3.row.AEd o3.x.wf ho5 r hb
   have hov:over (slL bd tb ADj ADj (AEg T M i).length false) 5 [.int .i64 (((AEg T M i).length+1:Nat):Int)]=slL bd tb ADj ADj ((AEg T M i).length+1) false:=rfl;rw[hov]at R5;generalize h3.wr bs 5 [.int .i64 (((AEg T M i).length+1:Nat):Int)]=h5 at st5 R5 x5 n5 f5;have mk5:h5.Own k1 3 mv (ints .i64 ((mrk T M i).map wC)):=by
    rcases o3.ms with h1'|⟨b,h1',h2',h3',h4'⟩
    ·exact .inl h1'
    ·exact .inr ⟨b,h1',f5 b _ _ (by omega) h2',h3',h4'⟩
   obtain⟨h6,mv6,k6,x6,m6,n6,f6⟩:∃ g' mv',DQ 1 8 3 mv (.slice (some ⟨h5.next,0,none⟩) 1 1) (h5.ADR 0 [.int .i64 (i:Int)])=.ok mv' g'∧h.Ext g'∧g'.Own k1 3 mv' (ints .i64 ((mrk T M i++[i]).map wC))∧h5.next≤g'.next∧(∀ b el L,el≠4→h5.Row b el L→g'.Row b el L):=by
    obtain⟨g',mv',a1,a2,a3,a4,a5⟩:=JT (eb:=8) (en:=3) (kd:=.i64) (n:=(i:Int)) x5 hhk (by have:=o3.le;omega) mk5 (by
     have:=Dg i (fun p=>(lkN T M p).isSome || EB T M p);have:(mrk T M i).length≤i:=this;have:(ints .i64 ((mrk T M i).map wC)).length≤i:=by unfold ints;rw[If,If];exact this
     omega)
    exact⟨g',mv',a1,a2,by rw[HL];exact a3,by omega,fun b el L he r=>(a5 b el L (mk5.nb r he) r).1⟩
   have f56:∀ b el L,b≠bs→el≠4→h3.Row b el L→h6.Row b el L:=fun b el L h1 h2 r=>f6 b el L h2 (f5 b el L h1 r)
   have is:=fun (F:ADS) (e:Env) (he:AB 12 e=.int .i64 (i:Int))=>EV (F:=F) x5.wf he
   have a3:=CH (i:=i) (h:=h6) (by omega);have l9':=Cw o3.rb;have hrun:∃ e2,LA (call AD (m+6)) e g=.norm e2 h6∧AB 10 e2=v∧AB 11 e2=mv6∧AB 52 e2=.int .i64 ((i+1:Nat):Int)∧∀ j,j=0∨j=1∨j=2∨j=8∨j=9∨j=51→AB j e2=AB j e:=by
    unfold LA;simp only[sT,AT,AI,reduceIte,gD,AM,AK,t52,t51,c1,AN,AQ,t8,l9,l9',cA0,hk,BL,BR,Ba,C5,GY,al,Aa,st,c0',Ao,Ae,AJ,AO,sh,l5,BF,ad,st5,is,BG,t11,k6,a3];refine⟨_,rfl,by simp[AF,t10],by simp[AF],by simp[AF],fun j hj=>?_⟩;rcases hj with rfl|rfl|rfl|rfl|rfl|rfl<;>simp only[AF,AT,AI,reduceIte]
   obtain⟨e2,r1,r2,r3,r4,r5⟩:=hrun;refine⟨e2,h6,v,mv6,ks,r1,⟨x6,?_,f56 _ _ _ (by omega) (by omega) o3.rb,?_,hcs,fun k hk=>⟨((o3.ok k hk).1.keep fun b el L hb he r=>f56 b el L (by have hb:r9<b:=hb;omega) (by omega) r),(o3.ok k hk).2⟩,?_,by have:=o3.le;omega⟩,r2,r3,r4,r5⟩
   ·rw[Jr,hB,if_pos rfl,IT]
    exact f6 _ _ _ (by omega) R5
   ·rcases o3.ko with h1'|⟨b,h1',h2',h3',h4'⟩
    ·exact .inl h1'
    ·exact .inr ⟨b,h1',f56 b _ _ (by omega) (by omega) h2',h3',h4'⟩
   ·rw[MW,hN,hB,if_pos (show((none:Option (List Nat)).isSome || true)=true from rfl)];exact m6
end
end
noncomputable section
open Go
set_option maxRecDepth 100000
section
variable {F:ADS}{e:Env}{h g g' h0:Hp}{bs r9 k1 bd tb n i m bad k:Nat}{v mv lv fv:BY}{ks:List Kt}{S:Nat→Prop}{ov:Bool}
theorem Sd(W:g.Wf){L:List BY}(R:g.Row bs 0 L){off:Nat}(ho:off<L.length)(ADg:256≤bs)(h1:cellsOf v=[v])(h2:oneCell v=true):
  ∃ g',(∀ (F:ADS) (e:Env) (x y:O),x e=.pointer (some ⟨bs,off,none⟩)→y e=v→Al .free (Au 1 x y) F e g=.ok ADV g')∧g'.Row bs 0 (over L off [v])∧g'.next=g.next∧g'.mark=g.mark∧Fx (fun b=>b=bs) g g'∧∀ h0:Hp,h0.Ext g→h0.next≤bs→h0.Ext g':=by
 have Rq:g.quiet.Row bs 0 L:=R.same rfl;have hoo:off+[v].length≤L.length:=ho;have ha:Bd [v]=true:=by
  show(bif oneCell v then true else false)=true;rw[h2];rfl
 have st:=Rq.ADl (n:=1) (off:=off) (v:=v) W.quiet ADg (by rw[h1];rfl) (by rw[h1];exact hoo) (by rw[h1];exact ha);rw[h1]at st;have wr:=Rq.ADm W.quiet hoo;have fx:=Fx.wr (S:=fun b=>b=bs) W.quiet Rq hoo rfl;have wx:=fun (h0:Hp) (x:h0.Ext g.quiet) (hb:h0.next≤bs)=>Rq.AD5 x hb hoo
 have wn:=Rq.AD9 hoo;generalize g.quiet.wr bs off [v]=q at st wr fx wx wn;refine⟨g.back q,fun F e x y hx hy=>BQ (by rw[Aa,hx,hy];exact st),wr.same rfl,wn,rfl,(fx.from (h:=g) rfl rfl).same rfl rfl,fun h0 x hb=>x.AEc (wx h0 x.quiet hb)⟩
theorem DK(W:g.Wf){L:List BY}(R:g.Row bs 0 L){off:Nat}(ho:off<L.length)(ADg:256≤bs)(h1:cellsOf v=[v])(h2:oneCell v=true):
  ∃ g',ADl 1 (.pointer (some ⟨bs,off,none⟩)) v g=.ok ADV g'∧g'.Row bs 0 (over L off [v])∧g'.next=g.next∧Fx (fun b=>b=bs) g g'∧∀ h0:Hp,h0.Ext g→h0.next≤bs→h0.Ext g':=by
 have hoo:off+[v].length≤L.length:=ho;have ha:Bd [v]=true:=by
  show(bif oneCell v then true else false)=true;rw[h2];rfl
 have st:=R.ADl (n:=1) (off:=off) (v:=v) W ADg (by rw[h1];rfl) (by rw[h1];exact hoo) (by rw[h1];exact ha);rw[h1]at st;exact⟨_,st,R.ADm W hoo,R.AD9 hoo,Fx.wr (S:=fun b=>b=bs) W R hoo rfl,fun h0 x hb=>R.AD5 x hb hoo⟩
theorem fY(x0:h0.Ext h)(hk:h0.next≤k)(hk2:k≤h.next){xs:List BY}(o:h.Own k 3 v xs){bw:Nat}{z:Int}(Rw:h.Row bw 0 [.int .i64 z])(hl:xs.length≤1000000):
  ∃ h' v',(∀ (F:ADS) (e:Env) (x y:O),x e=v→y e=.slice (some ⟨bw,0,none⟩) 1 1→NA x (Bi 1 8 3 x y) F e h=.ok v' h')∧h0.Ext h'∧h'.Own k 3 v' (xs++[.int .i64 z])∧h.next<h'.next∧h'.mark=h.mark∧(∀ b el L,¬ ADv v b→h.Row b el L→h'.Row b el L)∧(∀ b,ADv v' b→b=h.next):=by
 have W:=x0.wf;have cl:h.quiet.Cl (ADv v) 3 v xs:=by
  rcases o with ⟨h1,h2⟩|⟨b,h1,h2,h3,h4⟩
  ·exact .inl ⟨h1,h2⟩
  ·exact .inr ⟨b,4,h1,h2.same rfl,.inl rfl,⟨0,_,_,h1⟩,h4⟩
 have kb:∀ b,ADv v b→h0.next≤b:=fun b hb=>by
  obtain⟨off,n,c,e1⟩:=hb;rcases o with ⟨h1,h2⟩|⟨b',h1,h2,h3,h4⟩
  ·rw[h1]at e1;cases e1
  ·rw[h1]at e1
   injection e1 with e1 _ _
   injection e1 with e1
   injection e1 with e1 _ _
   omega
 obtain⟨h5,b5,a1,a2,a3,a4,a5,a6,a7,a8,a9⟩:=Xv (eb:=8) (en:=3) x0.quiet cl kb (Rw.same (h':=h.quiet) rfl) rfl hl (by omega);have a4:b5=h.next:=a4;have a5:h5.next=h.next+1:=a5;have ADg:=W.big;refine⟨h.back h5,.slice (some ⟨b5,0,none⟩) (xs.length+1) (xs.length+1),fun F e x y hx hy=>Te hx hy a1 (a9 rfl rfl h rfl),x0.AEc a2,.inr ⟨b5,by rw[IT];rfl,a3.same rfl,by omega,by omega⟩,by show h.next<h5.next;omega,rfl,fun b el L hb r=>(a7 b el L hb (r.same rfl)).same rfl,fun b ⟨off,nn,c,e1⟩=>?_⟩;injection e1 with e1 _ _
 injection e1 with e1
 injection e1 with e1 _ _
 omega
theorem mC(W:h.Wf){rp:Nat}{p:Nat}(Rp:h.Row rp 0 [.int .i64 (p:Int)])(x:Kt):∃ h',call AD (m+1) 62 [ktV x,pt rp] h=.ok (.bool (decide (x.p=p))) h'∧h.Ext h':=by
 have bx:=fun (F:ADS) (e:Env) (he:AB 0 e=ktV x)=>HP (F:=F) W he
 have x1:=(Hp.Ext.refl W).ADR 0 (AV x);have R:=Hp.Row.new W 0 (AV x);generalize h.ADR 0 (AV x)=h1 at bx x1 R;obtain⟨_,_,_,_,_,l5,_⟩:=Bq R;have lp:=Cw (Rp.ext W x1);have c1:iEq (x.p:Int) (p:Int)=decide (x.p=p):=by
  by_cases h3:x.p=p
  ·rw[decide_eq_true h3];exact DM (by omega)
  ·rw[decide_eq_false h3];exact DL (by omega)
 refine⟨h1,?_,x1⟩;rw[kY rfl];unfold d62;simp only[iN,By,sT,AT,AI,reduceIte,bx,AJ,AO,sh,AN,AQ,l5,lp,AM,AK,c1,lV0]
theorem Vk(W:h.Wf)(R:h.Row bs 0 (slL bd tb lv fv bad ov))(Rb:h.Row r9 0 [pt bs])(K:h.KS S lv ks)(hl:ks.length≤100000){p:Nat}:
  ∃ h',call AD (m+4) 60 [.int .i64 (p:Int),pt r9] h=.ok (.bool (ks.any fun x=>decide (x.p=p))) h'∧h.Ext h':=by
 have b1:=fun (F:ADS) (e:Env) (he:AB 0 e=.int .i64 (p:Int))=>Ht (F:=F) W he
 have x1:=(Hp.Ext.refl W).ADR 0 [.int .i64 (p:Int)];have R1:=Hp.Row.new W 0 [.int .i64 (p:Int)];generalize h.ADR 0 [.int .i64 (p:Int)]=h1 at b1 x1 R1;have lb:=Cw (Rb.ext W x1);obtain⟨_,_,_,l3,_⟩:=A7 (R.ext W x1);obtain⟨h2,k2,x2⟩:=Ol (m:=m+1) (g:=62) (caps:=[pt h.next]) (P:=fun x=>decide (x.p=p)) x1.wf (K.ext W x1) hl fun g xg y hy=>mC (m:=m) xg.wf (R1.ext x1.wf xg) y
 refine⟨h2,?_,x1.trans x2⟩;rw[kW rfl];unfold d60;simp only[iN,By,sT,AT,AI,reduceIte,b1,AN,AQ,lb,Ao,Ae,AJ,AO,sh,l3,DY,AW,Az,BV,k2,lV0]
theorem Uv:nJ=BK (Ad 4 (Ay LB)) fR:=rfl
theorem Us:nH=Ut:=rfl
def AEl(ks:List Kt)(i:Nat):List Nat:=(wI i).filter fun p=> !(ks.any fun x=>decide (x.p=p))
def AE4(ks:List Kt)(mk:List Nat)(i:Nat):List Nat:=(wI i).filter fun p=> !(ks.any fun x=>decide (x.p=p)) && decide (p∈mk)
theorem IX(ks:List Kt)(i:Nat):AEl ks (i+1)=AEl ks i++(if(ks.any fun x=>decide (x.p=i))=true then []else [i]):=by
 unfold AEl;rw[xU,yV];cases h:(ks.any fun x=>decide (x.p=i))<;>simp[h]
theorem KR(ks:List Kt)(mk:List Nat)(i:Nat):AE4 ks mk (i+1)=AE4 ks mk i++(if(ks.any fun x=>decide (x.p=i))=true then []else if i∈mk then [i]else []):=by
 unfold AE4;rw[xU,yV];cases h:(ks.any fun x=>decide (x.p=i))<;>by_cases h2:i∈mk<;>simp[h,h2]
structure O2 (h g:Hp)(mk:List Nat)(bs r9 k1 bd tb i bad:Nat)(w mv fv ou:BY)(ks:List Kt):Prop where
 x:h.Ext g
 row:g.Row bs 0 (slL bd tb w fv bad false)
 rb:g.Row r9 0 [pt bs]
 ko:g.KO k1 w ks
 ok:∀ k∈ks,AFm g (fun b=>r9<b) k
 fs:g.Own k1 3 fv (ints .i64 ((AEl ks i).map wC))
 os:g.Own k1 3 ou (ints .i64 ((AE4 ks mk i).map wC))
 ms:g.Own k1 3 mv (ints .i64 (mk.map wC))
 ap:∀ b,(ADv fv b→¬ ADv ou b∧¬ ADv mv b)∧(ADv ou b→¬ ADv mv b)
 le:k1≤g.next
theorem O2.ext{mk:List Nat}{w ou:BY}(o:O2 h g mk bs r9 k1 bd tb i bad w mv fv ou ks)(x:g.Ext g'):O2 h g' mk bs r9 k1 bd tb i bad w mv fv ou ks:=
 have W:=o.x.wf
 ⟨o.x.trans x,o.row.ext W x,o.rb.ext W x,o.ko.ext W x,fun k hk=>⟨(o.ok k hk).1.ext W x,(o.ok k hk).2⟩,o.fs.ext W x,o.os.ext W x,o.ms.ext W x,o.ap,vw o.le x.next⟩
theorem Hp.Own.lt'{en:Nat}{xs:List BY}(o:h.Own k en v xs)(W:h.Wf){b:Nat}(hb:ADv v b):b<h.next:=by
 obtain⟨off,n,c,e1⟩:=hb;rcases o with ⟨h1,h2⟩|⟨b',h1,h2,h3,h4⟩
 ·rw[h1]at e1;cases e1
 ·have:=h2.lt W
  rw[h1]at e1;injection e1 with e1 _ _
  injection e1 with e1
  injection e1 with e1 _ _
  omega
theorem Hp.Own.rw_{en:Nat}{xs:List BY}(o:h.Own k en v xs){b:Nat}(hb:ADv v b):h.Row b (en+1) xs:=by
 obtain⟨off,n,c,e1⟩:=hb;rcases o with ⟨h1,h2⟩|⟨b',h1,h2,h3,h4⟩
 ·rw[h1]at e1;cases e1
 ·rw[h1]at e1
  injection e1 with e1 _ _
  injection e1 with e1
  injection e1 with e1 _ _
  rw[← e1];exact h2
theorem Zn{mk:List Nat}{w ou:BY}(W:h.Wf)(o:O2 h g mk bs r9 k1 bd tb i bad w mv fv ou ks)(hbs:h.next≤bs∧bs<r9∧r9<k1){nn:Nat}(hi:i<nn)(hnn:nn≤30000)(hks:ks.length≤30000)(hmk:mk.length≤30000)
  (t9:AB 9 e=pt r9)(t11:AB 11 e=mv)(t17:AB 17 e=.func (.func 60) ⟨[]⟩ ⟨[pt r9]⟩)(t18:AB 18 e=ou)(Rn:AB 102 e=.int .i64 (nn:Int))(PI:AB 103 e=.int .i64 (i:Int)):
  ∃ e' g' fv' ou',LB (call AD (m+6)) e g=.norm e' g'∧O2 h g' mk bs r9 k1 bd tb (i+1) bad w mv fv' ou' ks∧AB 18 e'=ou'∧AB 103 e'=.int .i64 ((i+1:Nat):Int)∧∀ j,j=0∨j=1∨j=2∨j=9∨j=11∨j=17∨j=102→AB j e'=AB j e:=by
 have W1:=o.x.wf;have hhk:h.next≤k1:=by omega
 have ADg:256≤bs:=by have:=W.big;omega
 have c1:iLt (i:Int) (nn:Int)=true:=Es hi;obtain⟨h1,k1c,x1⟩:=Vk (m:=m+2) W1 o.row o.rb o.ko.lst (by omega) (p:=i);have o1:=o.ext x1;cases hc:(ks.any fun x=>decide (x.p=i))with
 |true=>
  rw[hc]at k1c;have a3:=CH (i:=i) (h:=h1) (by omega);have hrun:∃ e2,LB (call AD (m+6)) e g=.norm e2 h1∧AB 18 e2=ou∧AB 103 e2=.int .i64 ((i+1:Nat):Int)∧∀ j,j=0∨j=1∨j=2∨j=9∨j=11∨j=17∨j=102→AB j e2=AB j e:=by
   unfold LB;simp only[sT,AT,AI,reduceIte,AM,AK,PI,Rn,c1,CR,t17,B9,AW,Az,wL,yI,k1c,Bj,Bh,wQ,BF,a3];refine⟨_,rfl,by simp[AF,t18],by simp[AF],fun j hj=>?_⟩;rcases hj with rfl|rfl|rfl|rfl|rfl|rfl|rfl<;>simp only[AF,AT,AI,reduceIte]
  obtain⟨e2,r1,r2,r3,r4⟩:=hrun;refine⟨e2,h1,fv,ou,r1,⟨o1.x,o1.row,o1.rb,o1.ko,o1.ok,?_,?_,o1.ms,o1.ap,o1.le⟩,r2,r3,r4⟩
  ·rw[IX,hc,if_pos rfl,vR];exact o1.fs
  ·rw[KR,hc,if_pos rfl,vR];exact o1.os
 |false=>
  rw[hc]at k1c;have xm:=o1.x.marked;have om:=o1.ext (Hp.Ext.refl o1.x.wf).marked;have lb:=Cw om.rb;obtain⟨_,_,_,_,l4,_⟩:=A7 om.row;have qs:∀ (F:ADS) (e:Env),AB 19 e=.int .i64 (i:Int)→Al .ADk (Ak 1 (BO ty3.zero 1) [(0,1,AB 19)]) F e h1.marked=.ok (.slice (some ⟨h1.next,0,none⟩) 1 1) (h1.marked.back (h1.marked.quiet.ADR 0 [.int .i64 (i:Int)])):=fun F e he=>DF (EV xm.wf.quiet he) ((Hp.Ext.refl xm.wf.quiet).ADR _ _) (IN _)
  have y2:h1.marked.Ext (h1.marked.back (h1.marked.quiet.ADR 0 [.int .i64 (i:Int)])):=.back ((Hp.Ext.refl xm.wf.quiet).ADR _ _);have Rw:(h1.marked.back (h1.marked.quiet.ADR 0 [.int .i64 (i:Int)])).Row h1.next 0 [.int .i64 (i:Int)]:=(Hp.Row.new xm.wf.quiet 0 [.int .i64 (i:Int)]).same rfl;generalize h1.marked.back (h1.marked.quiet.ADR 0 [.int .i64 (i:Int)])=h2 at qs y2 Rw;have o2:=om.ext y2;have ck:∀ (K:C) (F:ADS) (e:Env),AB 114 e=fv→AB 9 e=pt r9→C3 (AB 114) [AB 9] K F e h2=K F e h2:=fun K F e a1 a2=>by
   rcases o2.fs with ⟨h1',_⟩|⟨b',h1',h2',h3',_⟩
   ·exact cD (b:=0) a1 (.inl h1') a2 (.inl h1')
   ·exact cD (b:=b') a1 (.inr ⟨_,_,_,h1'⟩) a2 (.inr (by omega))
  have hfl:(AEl ks i).length≤i:=Dg i _;have hol:(AE4 ks mk i).length≤i:=Dg i _;obtain⟨h3,fv3,k3,x3,fs3,n3,_,kp3,nb3⟩:=fY o2.x hhk o2.le o2.fs Rw (by unfold ints;rw[If,If];omega);have AJ9:fv3=fv3:=rfl;have AGa:=kp3 _ _ _ (o2.fs.nb o2.row (by omega)) o2.row;have nC:cellsOf fv3=[fv3]∧oneCell fv3=true:=by
   rcases fs3 with ⟨h1,_⟩|⟨b,h1,_⟩<;>rw[h1]<;>exact⟨rfl,rfl⟩
  obtain⟨h4,k4,AGb,n4,_,fx4,e4⟩:=Sd x3.wf AGa (off:=4) (show 4<7 by omega) ADg nC.1 nC.2;have x4:=e4 h x3 hbs.1;have kp4:∀ b el L,b≠bs→h3.Row b el L→h4.Row b el L:=fun b el L hb r=>fx4.row x3.wf r hb
  have AGu:∀ b el L,b≠bs→¬ ADv fv b→h2.Row b el L→h4.Row b el L:=fun b el L h1 h2 r=>kp4 b el L h1 (kp3 b el L h2 r)
  have AGb:h4.Row bs 0 (slL bd tb w fv3 bad false):=AGb;have ow:∀ {u:BY} {xs:List BY},h2.Own k1 3 u xs→(∀ b,ADv u b→¬ ADv fv b)→h4.Own k1 3 u xs:=fun o hd=>by
   rcases o with h1'|⟨b,h1',h2',h3',h4'⟩
   ·exact .inl h1'
   ·exact .inr ⟨b,h1',AGu b _ _ (by omega) (hd b ⟨0,_,_,h1'⟩) h2',h3',h4'⟩
  have fs4:h4.Own k1 3 fv3 (ints .i64 ((AEl ks i).map wC)++[.int .i64 (i:Int)]):=by
   rcases fs3 with h1'|⟨b,h1',h2',h3',h4'⟩
   ·exact .inl h1'
   ·exact .inr ⟨b,h1',kp4 b _ _ (by omega) h2',h3',h4'⟩
  have os4:=ow o2.os fun b hb hf=>((o2.ap b).1 hf).1 hb
  have ms4:=ow o2.ms fun b hb hf=>((o2.ap b).1 hf).2 hb
  have ko4:h4.KO k1 w ks:=by
   rcases o2.ko with h1'|⟨b,h1',h2',h3',h4'⟩
   ·exact .inl h1'
   ·exact .inr ⟨b,h1',AGu b _ _ (by omega) (o2.fs.nb h2' (by omega)) h2',h3',h4'⟩
  have rb4:=AGu _ _ _ (by omega) (o2.fs.nb o2.rb (by omega)) o2.rb;have ok4:∀ k∈ks,AFm h4 (fun b=>r9<b) k:=fun k hk=>⟨(o2.ok k hk).1.keep fun b el L hb he r=>AGu b el L (by have hb:r9<b:=hb;omega) (o2.fs.nb r (by omega)) r,(o2.ok k hk).2⟩
  have ap4:∀ b,(ADv fv3 b→¬ ADv ou b∧¬ ADv mv b)∧(ADv ou b→¬ ADv mv b):=fun b=>⟨fun hb=>by
   have e1:=nb3 b hb;exact⟨fun h=>by have:=o2.os.lt' o2.x.wf h;omega,fun h=>by have:=o2.ms.lt' o2.x.wf h;omega⟩,(o2.ap b).2⟩
  have k5:=Pi (n:=m+4) (x:=(i:Int)) ms4.vals (by rw[If];omega);have hmem:decide ((i:Int)∈mk.map wC)=decide (i∈mk):=by
   rw[decide_eq_decide,List.mem_map];constructor
   ·rintro⟨a,ha,he⟩
    have:a=i:=wC.inj he;rw[← this];exact ha
   ·exact fun h=>⟨i,h,rfl⟩
  rw[hmem]at k5;have k5:call AD (m+6) 63 [mv,.int .i64 (i:Int)] h4=.ok (.bool (decide (i∈mk))) h4:=k5;by_cases him:i∈mk
  ·rw[decide_eq_true him]at k5
   have is:=fun (F:ADS) (e:Env) (he:AB 19 e=.int .i64 (i:Int))=>EV (F:=F) x4.wf he
   obtain⟨h6,ou6,k6,x6,os6,n6,f6⟩:=JT (eb:=8) (en:=3) (kd:=.i64) (n:=(i:Int)) x4 hhk (by have:=o2.le;omega) os4 (by unfold ints;rw[If,If];omega);have a3:=CH (i:=i) (h:=h6) (by omega);have hrun:∃ e2,LB (call AD (m+6)) e g=.norm e2 h6∧AB 18 e2=ou6∧AB 103 e2=.int .i64 ((i+1:Nat):Int)∧∀ j,j=0∨j=1∨j=2∨j=9∨j=11∨j=17∨j=102→AB j e2=AB j e:=by
    unfold LB;simp only[sT,AT,AI,reduceIte,AM,AK,PI,Rn,c1,CR,t17,B9,AW,Az,wL,yI,k1c,Bj,Bh,wm,A3,AN,AQ,t9,lb,Ao,Ae,AJ,AO,sh,l4,qs];rw[ck _ _ _ (by simp[AF]) (by simp[AF,t9])];simp only[sT,AT,AI,reduceIte];rw[k3 _ _ _ _ (by simp[AF]) (by simp[AF])];simp only[sT,AT,AI,reduceIte,Ao,Ae,AJ,AO,sh];rw[k4 _ _ _ _ (by simp[AF]) (by simp[AF])];simp only[sT,AT,AI,reduceIte,cA0,t11,k5,is,BG,t18,k6,PI,BF,a3];refine⟨_,rfl,by simp[AF],by simp[AF],fun j hj=>?_⟩;rcases hj with rfl|rfl|rfl|rfl|rfl|rfl|rfl<;>simp only[AF,AT,AI,reduceIte]
   obtain⟨e2,r1,r2,r3,r4⟩:=hrun;have kp6:∀ b el L,¬ ADv ou b→h4.Row b el L→h6.Row b el L:=fun b el L hb r=>(f6 b el L hb r).1
   refine⟨e2,h6,fv3,ou6,r1,⟨x6,kp6 _ _ _ (os4.nb AGb (by omega)) AGb,kp6 _ _ _ (os4.nb rb4 (by omega)) rb4,?_,fun k hk=>⟨(ok4 k hk).1.keep fun b el L hb he r=>kp6 b el L (os4.nb r (by omega)) r,(ok4 k hk).2⟩,?_,?_,?_,fun b=>⟨fun hb=>⟨fun h=>?_,((ap4 b).1 hb).2⟩,fun hb hm=>?_⟩,by have:=o2.le;omega⟩,r2,r3,r4⟩
   ·rcases ko4 with h1'|⟨b,h1',h2',h3',h4'⟩
    ·exact .inl h1'
    ·exact .inr ⟨b,h1',kp6 b _ _ (os4.nb h2' (by omega)) h2',h3',h4'⟩
   ·rw[IX,hc,if_neg (by decide),HL]
    rcases fs4 with h1'|⟨b,h1',h2',h3',h4'⟩
    ·exact .inl h1'
    ·exact .inr ⟨b,h1',kp6 b _ _ ((ap4 b).1 ⟨0,_,_,h1'⟩).1 h2',h3',h4'⟩
   ·rw[KR,hc,if_neg (by decide),if_pos him,HL];exact os6
   ·rcases ms4 with h1'|⟨b,h1',h2',h3',h4'⟩
    ·exact .inl h1'
    ·exact .inr ⟨b,h1',kp6 b _ _ (fun hb=>(ap4 b).2 hb ⟨0,_,_,h1'⟩) h2',h3',h4'⟩
   ·exact(f6 b _ _ ((ap4 b).1 hb).1 (fs4.rw_ hb)).2 h
   ·exact(f6 b _ _ (fun ho=>(ap4 b).2 ho hm) (ms4.rw_ hm)).2 hb
  ·rw[decide_eq_false him]at k5
   have a3:=CH (i:=i) (h:=h4) (by omega);have hrun:∃ e2,LB (call AD (m+6)) e g=.norm e2 h4∧AB 18 e2=ou∧AB 103 e2=.int .i64 ((i+1:Nat):Int)∧∀ j,j=0∨j=1∨j=2∨j=9∨j=11∨j=17∨j=102→AB j e2=AB j e:=by
    unfold LB;simp only[sT,AT,AI,reduceIte,AM,AK,PI,Rn,c1,CR,t17,B9,AW,Az,wL,yI,k1c,Bj,Bh,wm,A3,AN,AQ,t9,lb,Ao,Ae,AJ,AO,sh,l4,qs];rw[ck _ _ _ (by simp[AF]) (by simp[AF,t9])];simp only[sT,AT,AI,reduceIte];rw[k3 _ _ _ _ (by simp[AF]) (by simp[AF])];simp only[sT,AT,AI,reduceIte,Ao,Ae,AJ,AO,sh];rw[k4 _ _ _ _ (by simp[AF]) (by simp[AF])];simp only[sT,AT,AI,reduceIte,cA0,t11,k5,PI,BF,a3];refine⟨_,rfl,by simp[AF,t18],by simp[AF],fun j hj=>?_⟩;rcases hj with rfl|rfl|rfl|rfl|rfl|rfl|rfl<;>simp only[AF,AT,AI,reduceIte]
   obtain⟨e2,r1,r2,r3,r4⟩:=hrun;refine⟨e2,h4,fv3,ou,r1,⟨x4,AGb,rb4,ko4,ok4,?_,?_,ms4,ap4,by have:=o2.le;omega⟩,r2,r3,r4⟩
   ·rw[IX,hc,if_neg (by decide),HL];exact fs4
   ·rw[KR,hc,if_neg (by decide),if_neg him,vR];exact os4
end
end
noncomputable section
open Go
set_option maxRecDepth 100000
theorem oE:ax.zero=[.pointer none,.pointer none,.int .i64 0,.slice none 0 0,.slice none 0 0,.int .i64 0,.bool false]:=by kernel_rfl
theorem gZ:Bx .mt 0 [.pointer none]=some tD:=by kernel_rfl
section
variable {F:ADS}{e:Env}{h:Hp}{n:Nat}
theorem bp{g1 g2 g3:O}{a b:Nat}(h1:g1 e=pt a)(h2:g2 e=pt b)(h3:g3 e=.int .i64 100):Bs ax.zero [(0,1,g1),(1,1,g2),(2,1,g3)] F e h=.ok (.agg ⟨slL a b ADj ADj 0 false⟩) h:=by
 rw[EZ,oE,BD (hk:=by rw[h1];rfl),h1,BD (hk:=by rw[h2];rfl),h2,BD (hk:=by rw[h3];rfl),h3];simp only[show ∀ a,cellsOf (pt a)=[pt a]from fun _=>rfl,Dc,wU,vI,wB,over,ACp,ACP,ABB,wL,zK,By,AAl,if_true,CP,reduceIte];rfl
theorem tJ{n:Nat}(hn:n≤1000000):OR .i64 (.int .i64 (n:Int)) (.int .i64 3) h=.ok (.int .i64 ((n/3:Nat):Int)) h:=by
 have:((n:Nat):Int).tdiv 3=((n/3:Nat):Int):=rfl;rw[I5 (by omega),this,BW (by omega)]
end
end
noncomputable section
open Go
set_option maxRecDepth 100000
theorem au:LE.k=.ptr 80:=by kernel_rfl
theorem VJ:TW.k=.slice 3:=by kernel_rfl
theorem av:XA.k=.slice 83:=by kernel_rfl
def ADa(T:List Nat)(a b c:Int)(s:Nat)(l:List Nat):List Nat:=EM T (K7 (B7 a.toNat b.toNat c.toNat s l.length (B5 T l)))
theorem Da{a b c:Int}{s n:Nat}(h:ADc a b c s n=true):0≤a∧a≤1099511627776∧0≤b∧b<255∧1≤c∧c≤1099511627776∧(s=1∨s=2)∧n≤65536:=of_decide_eq_true h
theorem Dd{T:List Nat}{a b c:Int}{s:Nat}{l:List Nat}(h:ADc a b c s l.length=true):(ADa T a b c s l).length=64:=by
 obtain⟨h1,h2,h3,h4,h5,h6,h7,h8⟩:=Da h;unfold ADa K7;rw[H9,Mh];have:=Np (a:=a.toNat) (b:=b.toNat) (c:=c.toNat) (s:=s) (m:=l.length) (t:=B5 T l) (by omega) (by omega) (by omega) (by omega) h8 (IC T l);omega
theorem MF{T:List Nat}{a b c:Int}{s:Nat}{l:List Nat}:∀ x∈ADa T a b c s l,x<256:=RR (Uy N9)
theorem Pb{l:List Nat}(h:l.length=64):Cm l 0=l:=by
 unfold Cm;rw[Nat.mul_zero,wM,List.take_of_length_le (by omega),h];exact vR l
def F1(p:Nat)(l:List Nat):List AD6:=(wI ((l.length+63)/64)).map (fun j=>AD6.w (p*3+1+j) (Cm l j))++[.f]
def DP(p:Nat)(H:List Nat):List AD6:=[.w (p*3) H,.f]
theorem Hb:∀ (ds:List AD6) (M:List Nat) (cs:List (Nat×List Nat)),(BN M cs (ds++[.f])).2=[]
 |[],M,cs=>rfl
 |.w i l::ds,M,cs=>Hb ds _ _
 |.f::ds,M,cs=>Hb ds _ _
theorem fQ{n p:Nat}{l:List Nat}(hp:3*p+3≤n)(hl:1≤l.length∧l.length≤100)(hb:∀ x∈l,x<256){H:List Nat}(hH:H.length=64)(hHb:∀ x∈H,x<256):DO n [] (F1 p l++DP p H):=by
 have hk:(l.length+63)/64=1∨(l.length+63)/64=2:=by omega
 unfold F1 DP;rcases hk with hk|hk<;>rw[hk]
 ·exact⟨fun x hx=>(by cases hx),by show p*3+1+0<n;omega,CO _ _,Iy hb _,by simp,by simp,fun x hx=>(by cases hx),by omega,hH,hHb,by simp,by simp,trivial⟩
 ·refine⟨fun x hx=>(by cases hx),by show p*3+1+0<n;omega,CO _ _,Iy hb _,fun x hx=>?_,by show p*3+1+1<n;omega,CO _ _,Iy hb _,by simp,by simp,fun x hx=>(by cases hx),by omega,hH,hHb,by simp,by simp,trivial⟩
  have:=vM.1 hx;rw[this];show p*3+1+0≠p*3+1+1;omega
theorem Ur{n p:Nat}(hp:3*p+3≤n){H:List Nat}(hH:H.length=64)(hHb:∀ x∈H,x<256):DO n [] (DP p H):=⟨fun x hx=>(by cases hx),by omega,hH,hHb,by simp,by simp,trivial⟩
def DI(T M:List Nat)(p:Nat)(l H:List Nat):List Nat:=(BN M [] (F1 p l++DP p H)).1
def D6(M:List Nat)(p:Nat)(H:List Nat):List Nat:=(BN M [] (DP p H)).1
section
variable {F:ADS}{e:Env}{h h' h0:Hp}{S:Nat→Prop}{A:At}{T M:List Nat}{c0 bad m k p:Nat}{arm:Int}{ks:List Kt}{fr:List Nat}{v lv fv:BY}{ov:Bool}
theorem M1(R:h.Row A.bs 0 (slL A.bd A.tb lv fv bad false)):call AD (m+1) 38 [pt A.bs] h=.ok (.int .i64 0) h:=by
 obtain⟨l0,_,_,_,_,_,l6⟩:=A7 R;have n1:∀ e:Env,AB 0 e=pt A.bs→oEq LE.k false (AB 0) (kV (.pointer none)) (call AD m) e h=.ok (.bool false) h:=fun e he=>Gf au he
 have n2:∀ e:Env,AB 10 e=pt A.bd→oEq TV.k false (AB 10) (kV (.pointer none)) (call AD m) e h=.ok (.bool false) h:=fun e he=>Gf aq he
 rw[Xb rfl];unfold d38;simp only[iN,By,sT,AT,AI,reduceIte,gD,n1,Ao,Ae,AJ,AO,sh,AN,AQ,l0,n2,l6,lV0]
theorem lT{n:Nat}{h:Hp}(W:h.Wf){u:BY}{xs:List BY}(V:h.ADo u xs)(ha:Bd xs=true)(hl:xs.length≤1000000):
  ∃ h' v,call AD (n+1) 48 [u] h=.ok v h'∧h.Ext h'∧h'.WI (fun b=>h.next≤b) v xs:=by
 rcases V with ⟨rfl,rfl⟩|⟨b,off,c,el,L,h1,h2,h3,h4⟩
 ·have ne:∀ e:Env,AB 0 e=.slice none 0 0→oEq TW.k false (AB 0) (kV (.slice none 0 0)) (call AD n) e h=.ok (.bool true) h:=fun e he=>JP (t:=0) VJ he
  refine⟨h,ADj,?_,.refl W,.inl ⟨rfl,rfl⟩⟩;rw[Jx rfl];unfold d48;simp only[iN,By,sT,AT,AI,reduceIte,ne,lV0]
 ·have V:h.ADo u xs:=.inr ⟨b,off,c,el,L,h1,h2,h3,h4⟩
  have x1:=(Hp.Ext.refl W).ADR 0 [];have R:=Hp.Row.new W 0 [];have es:=fun (e:Env) (t:List BY)=>J3 (F:=call AD n) (e:=e) (t:=t) W
  have n1:(h.ADR 0 []).next=h.next+1:=rfl;generalize h.ADR 0 []=g at x1 R es n1;have ne:∀ e:Env,AB 0 e=u→oEq TW.k false (AB 0) (kV (.slice none 0 0)) (call AD n) e h=.ok (.bool false) h:=fun e he=>JO (t:=0) VJ (he.trans h1)
  have V1:=V.ext W x1;have big:=W.big;rcases vy xs.length with hz|hz
  ·obtain rfl:xs=[]:=vz hz
   have ap:DQ 1 8 3 (.slice (some ⟨h.next,0,none⟩) 0 0) u g=.ok (.slice (some ⟨h.next,0,none⟩) 0 0) (g.wr h.next 0 []):=HU x1.wf big R (fun k=>V1.src rfl k) V1.lenV;have R2:=R.ADm x1.wf (off:=0) (vs:=[]) (IN _);refine⟨_,.slice (some ⟨h.next,0,none⟩) 0 0,?_,R.AD5 x1 (IN _) (off:=0) (vs:=[]) (IN _),.inr ⟨h.next,0,rfl,R2,.inr rfl,IN _⟩⟩;rw[Jx rfl];unfold d48;simp only[iN,By,sT,AT,AI,reduceIte,ne,es,BG,ap,lV0]
  ·obtain⟨h2,a1,a2,a3,a4,a5⟩:=ET (eb:=8) (en:=3) x1 R (es:=1) (fun k=>V1.src rfl k) V1.lenV (by omega) hz ha (by omega)
   refine⟨h2,_,?_,a2,.inr ⟨g.next,3+1,rfl,a3,.inl rfl,by omega⟩⟩;rw[Jx rfl];unfold d48;simp only[iN,By,sT,AT,AI,reduceIte,ne,es,BG,a1,lV0]
theorem SS(W:h.Wf)(K:h.KS S v ks)(hu:∀ k∈ks,oneCell k.u=true)(h0:ks=[]→v=.slice none 0 0)(hl:ks.length≤10000):
  ∃ h' w,call AD (m+1) 49 [v] h=.ok w h'∧h.Ext h'∧h'.KO h.next w ks:=by
 rcases K with ⟨rfl,rfl⟩|⟨b,c,el,L,h1,hcc,h2,hL,ht,hel,h3⟩
 ·have ne:∀ e:Env,AB 0 e=.slice none 0 0→oEq XA.k false (AB 0) (kV (.slice none 0 0)) (call AD m) e h=.ok (.bool true) h:=fun e he=>JP (t:=0) av he
  refine⟨h,ADj,?_,.refl W,.inl ⟨rfl,rfl⟩⟩;rw[SQ rfl];unfold d49;simp only[iN,By,sT,AT,AI,reduceIte,ne,lV0]
 ·have hpos:0<ks.length:=by
   rcases vy ks.length with hz|hz
   ·have:=h0 (vz hz)
    rw[this]at h1;cases h1
   ·exact hz
  have x1:=(Hp.Ext.refl W).ADR 0 [];have R:=Hp.Row.new W 0 [];have es:=fun (e:Env) (t:List BY)=>J3 (F:=call AD m) (e:=e) (t:=t) W
  have n1:(h.ADR 0 []).next=h.next+1:=rfl;generalize h.ADR 0 []=g at x1 R es n1;have ne:∀ e:Env,AB 0 e=v→oEq XA.k false (AB 0) (kV (.slice none 0 0)) (call AD m) e h=.ok (.bool false) h:=fun e he=>JO (t:=0) av (he.trans h1)
  have R1:=h2.ext W x1;have ha:Bd (flK ks)=true:=by
   clear h1 h2 R1 hl hpos h0 hcc hL ht
   induction ks with
   |nil=>rfl
   |cons k l ih=>
    refine O4 fun x hx=>?_
    obtain⟨y,hy,hxy⟩:=List.mem_flatMap.1 hx;have huy:=hu y hy;have hxy:x∈[wb .i64 y.a,.int .i64 y.b,.int .i64 y.c,.int .u8 (y.s:Int),y.u,.int .i64 (y.p:Int)]:=hxy;simp only[vS,List.mem_nil_iff,or_false]at hxy;rcases hxy with rfl|rfl|rfl|rfl|rfl|rfl
    all_goals first|exact huy|rfl
  have big:=W.big;obtain⟨h2',a1,a2,a3,a4,a5⟩:=ET (eb:=64) (en:=83) (u:=v) (cs:=flK ks) (n:=ks.length) x1 R (es:=6) (fun K=>by
   have e1:=R1.AFi (es:=6) (off:=0) (n:=ks.length) (sl:=ks.length) (c:=c) (k:=K) (by omega);rw[h1,e1,wM,wj ks.length 6,ht]) (by rw[h1];rfl) (by rw[CI];omega) hpos ha (by omega)
  refine⟨h2',_,?_,a2,.inr ⟨g.next,rfl,a3,by omega,by omega⟩⟩;rw[SQ rfl];unfold d49;simp only[iN,By,sT,AT,AI,reduceIte,ne,es,BG,a1,lV0]
def Hp.KN(h:Hp)(k:Nat)(v:BY)(ks:List Kt):Prop:=h.KO k v ks∨(ks=[]∧∃ b,v=.slice (some ⟨b,0,none⟩) 0 0∧h.Row b 0 []∧k≤b∧256≤b)
theorem To(W:h.Wf)(K:h.KS S v ks)(hu:∀ k∈ks,oneCell k.u=true)(hl:ks.length≤10000):
  ∃ h' w,call AD (m+1) 49 [v] h=.ok w h'∧h.Ext h'∧h'.KN h.next w ks:=by
 have K0:=K;rcases K with ⟨rfl,rfl⟩|⟨b,c,el,L,h1,hcc,h2,hL,ht,hel,h3⟩
 ·obtain⟨h',w,a,b,c⟩:=SS (m:=m) W K0 hu (fun _=>rfl) hl
  exact⟨h',w,a,b,.inl c⟩
 ·rcases vy ks.length with hz|hz
  ·obtain rfl:ks=[]:=vz hz
   have x1:=(Hp.Ext.refl W).ADR 0 [];have R:=Hp.Row.new W 0 [];have es:=fun (e:Env) (t:List BY)=>J3 (F:=call AD m) (e:=e) (t:=t) W
   generalize h.ADR 0 []=g at x1 R es;have ne:∀ e:Env,AB 0 e=v→oEq XA.k false (AB 0) (kV (.slice none 0 0)) (call AD m) e h=.ok (.bool false) h:=fun e he=>JO (t:=0) av (he.trans h1)
   have R1:=h2.ext W x1;have ap:DQ 6 64 83 (.slice (some ⟨h.next,0,none⟩) 0 0) v g=.ok (.slice (some ⟨h.next,0,none⟩) 0 0) (g.wr h.next 0 []):=HU x1.wf W.big R (fun K=>by
    have e1:=R1.AFi (es:=6) (off:=0) (n:=0) (sl:=0) (c:=c) (k:=K) (by omega);rw[h1];exact e1) (by rw[h1];rfl)
   have R2:=R.ADm x1.wf (off:=0) (vs:=[]) (IN _);refine⟨_,.slice (some ⟨h.next,0,none⟩) 0 0,?_,R.AD5 x1 (IN _) (off:=0) (vs:=[]) (IN _),.inr ⟨rfl,h.next,rfl,R2,IN _,W.big⟩⟩;rw[SQ rfl];unfold d49;simp only[iN,By,sT,AT,AI,reduceIte,ne,es,BG,ap,lV0]
  ·obtain⟨h',w,a,b,c⟩:=SS (m:=m) W K0 hu (fun h=>by rw[h]at hz;exact absurd hz (Nat.lt_irrefl 0)) hl
   exact⟨h',w,a,b,.inl c⟩
theorem cI{xs:List BY}{z:BY}(o:h.WI S v (z::xs)):∃ w,h.ADo w xs∧∀ (F:ADS) (e:Env) (x:O),x e=v→Dp 3 1 x (some (kV (.int .i64 1))) none none F e h=.ok w h:=by
 rcases o with ⟨_,h2⟩|⟨b,el,hv,Rb,hel,_⟩
 ·cases h2
 ·have hl:(z::xs).length=xs.length+1:=rfl
  have key:∀ (F:ADS) (e:Env) (x:O),x e=v→Dp 3 1 x (some (kV (.int .i64 1))) none none F e h=Bg (some ⟨b,0,none⟩) 1 1 (xs.length+1) (xs.length+1) h:=fun F e x hx=>by
   show(match x e with|.slice a n c=>DG e n c (some (kV (.int .i64 1))) none none (fun l hh m=>D7 3 1 a false l hh m h)|_=>.no)=_;rw[hx,hv,hl];show(bif vJ 1 (xs.length+1)then D7 3 1 (some ⟨b,0,none⟩) false 1 (xs.length+1) (xs.length+1) h else .no)=_;rw[Ab.2 (show 1≤xs.length+1 by omega)];show(bif En 3 (some ⟨b,0,none⟩) h then Bg (some ⟨b,0,none⟩) 1 1 (xs.length+1) (xs.length+1) h else .no)=_;have:En 3 (some ⟨b,0,none⟩) h=true:=by
    obtain⟨cc,hcc,_⟩:=Rb.rowOf;unfold En;simp only[hcc];rcases hel with rfl|rfl<;>rfl
   rw[this];rfl
  cases xs with
  |nil=>
   refine⟨.slice (some ⟨b,0,none⟩) 0 0,.inr ⟨b,0,0,el,_,rfl,Rb,vi _,rfl⟩,fun F e x hx=>?_⟩;rw[key F e x hx];rfl
  |cons y ys=>
   refine⟨.slice (some ⟨b,1,none⟩) (ys.length+1) (ys.length+1),.inr ⟨b,1,ys.length+1,el,_,rfl,Rb,?_,?_⟩,fun F e x hx=>?_⟩
   ·show 1+(ys.length+1)≤ys.length+1+1
    omega
   ·show((z::y::ys).drop 1).take (y::ys).length=y::ys
    exact wh
   ·rw[key F e x hx]
    show Bg (some ⟨b,0,none⟩) 1 1 (ys.length+1+1) (ys.length+1+1) h=_;unfold Bg;simp only[AZ];have e1:Nat.beq (ys.length+1+1) 1=false:=rfl;have e2:Nat.sub (ys.length+1+1) 1=ys.length+1:=rfl;simp only[e1,e2]
theorem Iq{g1 g2 g3 g5:O}{a b c:Int}{u:BY}(h1:g1 e=.int .i64 a)(h2:g2 e=.int .i64 b)(h3:g3 e=.int .i64 c)(h5:g5 e=u)(hc:cellsOf u=[u])(hk:known u=true):
  Bs G1.zero [(0,1,g1),(1,1,g2),(2,1,g3),(3,1,kV (.int .u8 1)),(4,1,g5)] F e h=.ok (Bz a b c 1 u) h:=by
 rw[EZ,Ta,BD (hk:=by rw[h1];rfl),h1,BD (hk:=by rw[h2];rfl),h2,BD (hk:=by rw[h3];rfl),h3,BD,BD (hk:=by rw[h5];exact hk),h5,hc];simp only[HN,Dc,wU,vI,wB,Aq,over,ACp,ACP,ABB,wL,zK,By,AAl,if_true,CP,reduceIte];rfl
theorem Sl.bsx{ks':List Kt}{fr':List Nat}{lv' fv':BY}{AHW:Nat}{ov':Bool}(s:Sl h A T M c0 arm ks fr lv fv bad ov)(W:h.Wf)(x:Fx (fun b=>b=A.bs) h h')(row:h'.Row A.bs 0 (slL A.bd A.tb lv' fv' AHW ov'))(ls:h'.KS (fun b=>¬ A.D b) lv' ks')(ko:∀ k∈ks',AFm h' (fun b=>¬ A.D b) k)
  (fs:h'.WI (fun b=>¬ A.D b) fv' (ints .i64 (fr'.map wC)))(le:ks'.length≤1000∧fr'.length≤1000∧AHW≤1000∧∀ p∈fr',3*p+3≤A.n):Sl h' A T M c0 arm ks' fr' lv' fv' AHW ov':=
 ⟨row,s.dk.fr W x (fun h=>s.ne.1 h.symm) (fun h=>s.ne.2.1 h.symm) (fun h=>s.ne.2.2.1 h.symm),x.row W s.tab (fun h=>s.ne.2.2.2.1 (.inl h)),s.tok,ls,ko,fs,s.ne,le⟩
end
end
noncomputable section
open Go
set_option maxRecDepth 100000
theorem OW:∀ (ks:List Kt) (j:Nat) (x:Kt),j<ks.length→over (flK ks) (6*j) (AV x)=flK (ks.set j x)
 |[],j,x,h=>by cases h
 |k::ks,0,x,h=>by
  show over (AV k++flK ks) 0 (AV x)=AV x++flK ks;exact Mg rfl
 |k::ks,j+1,x,h=>by
  have ih:=OW ks j x (by simpa using h);show over (AV k++flK ks) (6*(j+1)) (AV x)=AV k++flK (ks.set j x);rw[← ih];unfold over;have e1:6*(j+1)=(AV k).length+6*j:=by show _=6+_;omega
  have e2:6*(j+1)+(AV x).length=(AV k).length+(6*j+(AV x).length):=by rw[e1];omega
  rw[e2,List.drop_length_add_append,e1,List.take_length_add_append,vX,vX,vX]
def Ia(x:Kt):List Kt→List Kt
 |[]=>[x]
 |y::r=>if HX x y<0 then y::Ia x r else x::y::r
def Ib(A:List Kt)(x:Kt):List Kt:=(Ia x A.reverse).reverse
def srt:List Kt→List Kt→List Kt
 |A,[]=>A
 |A,x::B=>srt (Ib A x) B
theorem Nc(x y:Kt)(r:List Kt):Ia x (y::r)=if HX x y<0 then y::Ia x r else x::y::r:=rfl
theorem QJ(x:Kt):∀ l:List Kt,(Ia x l).length=l.length+1
 |[]=>rfl
 |y::r=>by
  unfold Ia;split
  ·rw[vI,QJ x r,vI]
  ·rfl
theorem MJ(A:List Kt)(x:Kt):(Ib A x).length=A.length+1:=by
 unfold Ib;rw[zm,QJ,zm]
theorem QK{x z:Kt}:∀ {l:List Kt},z∈Ia x l↔z=x∨z∈l
 |[]=>by simp[Ia]
 |y::r=>by
  unfold Ia;split
  ·rw[vS,QK,vS]
   constructor
   ·rintro (h|h|h)
    ·exact .inr (.inl h)
    ·exact .inl h
    ·exact .inr (.inr h)
   ·rintro (h|h|h)
    ·exact .inr (.inl h)
    ·exact .inl h
    ·exact .inr (.inr h)
  ·exact vS
theorem QM{A:List Kt}{x z:Kt}:z∈Ib A x↔z=x∨z∈A:=by
 unfold Ib;rw[AAA,QK,AAA]
theorem Nd{x:Kt}:∀ {R Q:List Kt},(∀ y∈R,HX x y<0)→Ia x (R++Q)=R++Ia x Q
 |[],Q,_=>rfl
 |y::R,Q,h=>by
  rw[zK,Nc,if_pos (h y vG),Nd fun z hz=>h z (vH _ hz)];rfl
theorem UX{x:Kt}{P Q:List Kt}(hQ:∀ y∈Q,HX x y<0)(hP:P=[]∨∃ P' y,P=P'++[y]∧¬ HX x y<0):Ib (P++Q) x=P++x::Q:=by
 unfold Ib;rw[xY,Nd fun y hy=>hQ y (AAA.1 hy)];have e:Ia x P.reverse=x::P.reverse:=by
  rcases hP with rfl|⟨P',y,rfl,hy⟩
  ·rfl
  ·rw[xY]
   show Ia x (y::P'.reverse)=_;unfold Ia;rw[if_neg hy];rfl
 rw[e,xY,AAK,yP,yP,vX];rfl
theorem Jd{α:Type}{x y:α}:∀ {P R:List α},(P++x::R).set P.length y=P++y::R
 |[],R=>rfl
 |z::P,R=>by
  show z::(P++x::R).set P.length y=_;rw[Jd];rfl
theorem Nt{l Z vs:List BY}{o:Nat}(h:o+vs.length≤l.length):over (l++Z) o vs=over l o vs++Z:=by
 unfold over;rw[zz (by omega),List.drop_append_of_le_length h,vX,vX,vX]
theorem Fs{α:Type}{x:α}{P R:List α}:(P++x::R)[P.length]? =some x:=by
 rw[ve (IN _),Nat.sub_self];rfl
theorem JQ{α:Type}{x y:α}{P R:List α}:(P++y::x::R)[P.length+1]? =some x:=by
 rw[ve (by omega),show P.length+1 - P.length=1 by omega];rfl
section
variable {F:ADS}{e:Env}{h h':Hp}{S:Nat→Prop}{bl n c:Nat}{ks:List Kt}{Z:List BY}
theorem PC(R:h.Row bl 84 (flK ks++Z))(hn:n=ks.length)(hc:ks.length≤c):h.KS (fun b=>b=bl) (.slice (some ⟨bl,0,none⟩) n c) ks:=by
 subst hn;exact .inr ⟨bl,c,84,_,rfl,hc,R,by rw[IT,CI];omega,by rw[zz (by rw[CI];omega),← CI,wh],.inl rfl,rfl⟩
theorem Y3(W:h.Wf)(R:h.Row bl 84 (flK ks++Z))(ADg:256≤bl){j:Nat}(hj:j<ks.length){x:Kt}(hu:oneCell x.u=true):
  ∃ h',(∀ (F:ADS) (e:Env) (g g':O),g e=.pointer (some ⟨bl,6*j,none⟩)→g' e=ktV x→Al .free (Au 6 g g') F e h=.ok ADV h')∧Fx (fun b=>b=bl) h h'∧h'.Row bl 84 (flK (ks.set j x)++Z)∧h'.next=h.next∧h'.mark=h.mark:=by
 have Rq:h.quiet.Row bl 84 (flK ks++Z):=R.same rfl;have AHX:6*j+(AV x).length≤(flK ks).length:=by rw[CI];show 6*j+6≤_;omega
 have hoo:6*j+(AV x).length≤(flK ks++Z).length:=by rw[IT];omega
 have st:=Rq.ADl (n:=6) (off:=6 * j) (v:=ktV x) W.quiet ADg rfl hoo (GW hu);have wr:=Rq.ADm W.quiet hoo;rw[Nt AHX,OW ks j x hj]at wr;have fx:=Fx.wr (S:=fun b=>b=bl) W.quiet Rq hoo rfl;have wn:=Rq.AD9 hoo;have st:ADl 6 (.pointer (some ⟨bl,6 * j,none⟩)) (ktV x) h.quiet=.ok ADV (h.quiet.wr bl (6 * j) (AV x)):=st;generalize h.quiet.wr bl (6 * j) (AV x)=q at st wr fx wn;exact⟨h.back q,fun F e g g' e1 e2=>BQ (by rw[Aa,e1,e2];exact st),(fx.from (h:=h) rfl rfl).same rfl rfl,wr.same rfl,wn,rfl⟩
theorem Sk:jnB=WC:=rfl
theorem gL(W:h.Wf){P R:List Kt}{x y:Kt}(hks:ks=P++y::x::R)(Rw:h.Row bl 84 (flK ks++Z))(ADg:256≤bl)(hn:n=ks.length)(hc:ks.length≤c)(hl:ks.length≤100000)(ux:oneCell x.u=true)(uy:oneCell y.u=true)
  (s0:AB 0 e=.slice (some ⟨bl,0,none⟩) n c)(s9:AB 9 e=.int .i64 ((P.length+1:Nat):Int)):
  ∃ e' h',swB F e h=.norm e' h'∧Fx (fun b=>b=bl) h h'∧h'.Row bl 84 (flK (P++x::y::R)++Z)∧∀ j,j=0∨j=1∨j=2∨j=3∨j=8∨j=9→AB j e'=AB j e:=by
 have lk:ks.length=P.length+1+1+R.length:=by rw[hks,IT,vI,vI];omega
 have K:=PC (Rw.same (h':=h.marked) rfl) hn hc;obtain⟨b,rfl,ix,ld,_⟩:=K.at (i:=P.length+1) (k:=x) (by rw[hks];exact JQ);obtain⟨b',hb',iy,ldy,_⟩:=K.at (i:=P.length) (k:=y) (by rw[hks];exact Fs);have hb':b'=b:=hb';subst hb';have a1:Fc wA .i64 (.int .i64 ((P.length+1:Nat):Int)) (.int .i64 1) h.marked=.ok (.int .i64 (P.length:Int)) h.marked:=by
  have:wA ((P.length+1:Nat):Int) 1=(P.length:Int):=by
   show((P.length+1:Nat):Int) - 1=_;omega
  rw[CZ,this,BW (by omega)]
 obtain⟨h1,q1,f1,R1,n1,mk1⟩:=Y3 (j:=P.length+1) W.marked (Rw.same (h':=h.marked) rfl) ADg (by omega) uy;have e1:ks.set (P.length+1) y=P++y::y::R:=by
  rw[hks,show P++y::x::R=(P++[y])++x::R by simp,show P.length+1=(P++[y]).length by simp,Jd];simp
 rw[e1]at R1;have ix1:AEP 6 (.slice (some ⟨b',0,none⟩) n c) (.int .i64 (P.length:Int)) h1=.ok (.pointer (some ⟨b',6*P.length,none⟩)) h1:=by
  have:=DD (h:=h1) (n:=n) (c:=c) (es:=6) (b:=b') (off:=0) (i:=P.length) (k:=.i64) (by omega)
  rwa [sh,wj]at this
 obtain⟨h2,q2,f2,R2,n2,mk2⟩:=Y3 (j:=P.length) f1.wf R1 ADg (by rw[IT];simp) ux;rw[Jd]at R2;have fm:Fx (fun b=>b=b') h h1:=f1.from (h:=h) rfl rfl;have hrun:∃ e',swB F e h=.norm e' h2∧∀ j,j=0∨j=1∨j=2∨j=3∨j=8∨j=9→AB j e'=AB j e:=by
  have q1':∀ (F:ADS) (e:Env),AB 51 e=.pointer (some ⟨b',6*(P.length+1),none⟩)→AB 46 e=ktV y→Al .free (Au 6 (AB 51) (AB 46)) F e h.marked=.ok ADV h1:=fun F e a b=>q1 F e _ _ a b
  have q2':∀ (F:ADS) (e:Env),AB 52 e=.pointer (some ⟨b',6*P.length,none⟩)→AB 50 e=ktV x→Al .free (Au 6 (AB 52) (AB 50)) F e h1=.ok ADV h2:=fun F e a b=>q2 F e _ _ a b
  unfold swB;simp only[sT,AT,AI,reduceIte,A3,Br,s9,a1,A1,s0,iy,Aw,Ar,ldy,ix,ld,q1',ix1,q2'];refine⟨_,rfl,fun j hj=>?_⟩;rcases hj with rfl|rfl|rfl|rfl|rfl|rfl<;>simp only[AF,AT,AI,reduceIte]
 obtain⟨e',r1,r2⟩:=hrun;exact⟨e',h2,r1,fm.trans f2,R2,r2⟩
end
end
noncomputable section
open Go
set_option maxRecDepth 100000
theorem VC{α:Type}(P:List α):P=[]∨∃ P' y,P=P'++[y]:=by
 rcases h:P.reverse with _|⟨y,r⟩
 ·exact .inl (List.reverse_eq_nil_iff.1 h)
 ·refine .inr ⟨r.reverse,y,?_⟩
  rw[← yP P,h,AAK]
section
variable {e:Env}{h h':Hp}{bl n c m:Nat}{ks:List Kt}{Z:List BY}
theorem Ys(W:h.Wf){A B:List Kt}{x:Kt}(Rw:h.Row bl 84 (flK (A++x::B)++Z))(ADg:256≤bl)(hn:n=(A++x::B).length)(hc:n≤c)(hl:n≤1000)(hu:∀ k∈A++x::B,oneCell k.u=true)
  (s0:AB 0 e=.slice (some ⟨bl,0,none⟩) n c)(s1:AB 1 e=.int .i64 0)(s3:AB 3 e=.func (.func 51) ⟨[]⟩ ⟨[]⟩)(s9:AB 9 e=.int .i64 (A.length:Int)):
  ∃ e' h',Ay jnB (call AD (m+3)) e h=.exit 2 e' h'∧Fx (fun b=>b=bl) h h'∧h'.Row bl 84 (flK (Ib A x++B)++Z)∧∀ j,j=0∨j=1∨j=2∨j=3∨j=8→AB j e'=AB j e:=by
 have hln:(A++x::B).length=A.length+1+B.length:=by rw[IT,vI];omega
 refine BU (I:=fun i e' g=>∃ P Q,A=P++Q∧P.length+i=A.length∧Fx (fun b=>b=bl) h g∧g.Row bl 84 (flK (P++x::(Q++B))++Z)∧(∀ y∈Q,HX x y<0)∧AB 9 e'=.int .i64 (P.length:Int)∧∀ j,j=0∨j=1∨j=2∨j=3∨j=8→AB j e'=AB j e)
  (Q:=fun r=>∃ e' h',r=.exit 2 e' h'∧Fx (fun b=>b=bl) h h'∧h'.Row bl 84 (flK (Ib A x++B)++Z)∧∀ j,j=0∨j=1∨j=2∨j=3∨j=8→AB j e'=AB j e) (A.length+1) (by omega) (fun i e' g ⟨P,Q,hA,hP,fx,R,hQ,t9,ts⟩=>?_) ⟨A,[],by rw[vR],rfl,.refl W,Rw,fun y hy=>(by cases hy),s9,fun _ _=>rfl⟩
 have W':=fx.wf;have t0:=(ts 0 (by omega)).trans s0;have t1:=(ts 1 (by omega)).trans s1;have t3:=(ts 3 (by omega)).trans s3;rcases VC P with rfl|⟨P',y,rfl⟩
 ·right
  have c1:iGt ((([]:List Kt).length:Nat):Int) 0=false:=Eq (by decide);have hrun:∃ e2,jnB (call AD (m+3)) e' g=.exit 2 e2 g.marked∧∀ j,j=0∨j=1∨j=2∨j=3∨j=8→AB j e2=AB j e':=by
   rw[Sk];unfold WC;simp only[sT,AT,AI,reduceIte,gD,A3,AM,AK,t9,t1,c1];refine⟨_,rfl,fun j hj=>?_⟩;rcases hj with rfl|rfl|rfl|rfl|rfl<;>simp only[AF,AT,AI,reduceIte]
  obtain⟨e2,r1,r2⟩:=hrun;rw[r1];refine⟨rfl,e2,_,rfl,fx.same rfl rfl,?_,fun j hj=>(r2 j hj).trans (ts j hj)⟩;have:=UX (x:=x) (P:=[]) (Q:=Q) hQ (.inl rfl);rw[hA,this];have e5:([]++x::Q)++B=[]++x::(Q++B):=rfl;rw[e5];exact R.same rfl
 ·have lP:(P'++[y]).length=P'.length+1:=by simp
  rw[lP]at hP t9;have lA:A.length=P'.length+1+Q.length:=by rw[hA,IT,lP]
  have eR:(P'++[y])++x::(Q++B)=P'++y::x::(Q++B):=by simp
  rw[eR]at R;have lL:(P'++y::x::(Q++B)).length=n:=by
   rw[hn,hln,lA];simp only[IT,vI];omega
  have ux:oneCell x.u=true:=hu x (vV _ vG);have uy:oneCell y.u=true:=hu y (vk _ (by rw[hA];exact vk _ (vV _ vG)));have K:=PC (n:=n) (c:=c) (R.same (h':=g.marked) rfl) lL.symm (by omega);obtain⟨b,hb,ix,ld,_⟩:=K.at (i:=P'.length+1) (k:=x) JQ;obtain⟨b',hb',iy,ldy,_⟩:=K.at (i:=P'.length) (k:=y) Fs;have c1:iGt ((P'.length+1:Nat):Int) 0=true:=FM (by omega);have a1:∀ g:Hp,Fc wA .i64 (.int .i64 ((P'.length+1:Nat):Int)) (.int .i64 1) g=.ok (.int .i64 (P'.length:Int)) g:=fun g=>by
   have:wA ((P'.length+1:Nat):Int) 1=(P'.length:Int):=by
    show((P'.length+1:Nat):Int) - 1=_;omega
   rw[CZ,this,BW (by omega)]
  obtain⟨h2,k2,x2⟩:=Zq (m:=m) W'.marked.quiet x y;have q2:∀ e:Env,AB 22 e=.func (.func 51) ⟨[]⟩ ⟨[]⟩→AB 26 e=ktV x→AB 31 e=ktV y→Al .free (EY (AB 22) [AB 26,AB 31]) (call AD (m+3)) e g.marked=.ok (.int .i64 (HX x y)) (g.marked.back h2):=fun e e1 e2 e3=>by
   refine BQ ?_;rw[CR,AW,AW,Az,e1,e2,e3];exact k2
  have y2:g.Ext (g.marked.back h2):=(Hp.Ext.refl W').marked.trans (.back x2);generalize g.marked.back h2=h3 at q2 y2;have R3:=R.ext W' y2;by_cases hc:HX x y<0
  ·left
   have c2:iLt (HX x y) 0=true:=MH hc;have sw:∀ e2:Env,AB 0 e2=.slice (some ⟨bl,0,none⟩) n c→AB 9 e2=.int .i64 ((P'.length+1:Nat):Int)→∃ e3 h4,swB (call AD (m+3)) e2 h3=.norm e3 h4∧Fx (fun b=>b=bl) h3 h4∧h4.Row bl 84 (flK (P'++x::y::(Q++B))++Z)∧∀ j,j=0∨j=1∨j=2∨j=3∨j=8∨j=9→AB j e3=AB j e2:=fun e2 a b=>gL y2.wf rfl R3 ADg lL.symm (by omega) (by omega) ux uy a b
   have hrun:∃ e3 h4,jnB (call AD (m+3)) e' g=.norm e3 h4∧Fx (fun b=>b=bl) h3 h4∧h4.Row bl 84 (flK (P'++x::y::(Q++B))++Z)∧AB 9 e3=.int .i64 (P'.length:Int)∧∀ j,j=0∨j=1∨j=2∨j=3∨j=8→AB j e3=AB j e':=by
    rw[Sk];unfold WC;simp only[sT,AT,AI,reduceIte,gD,A3,AM,AK,t9,t1,c1,t3,t0,A1,ix,Aw,Ar,ld,Br,a1,iy,ldy,q2,c2,BE,Ax];obtain⟨e3,h4,r1,f4,R4,r2⟩:=sw (Env.set 34 (.bool true) (Env.set 33 (.bool true) (Env.set 32 (.int .i64 (HX x y)) (Env.set 31 (ktV y) (Env.set 30 (.pointer (some ⟨b',6*P'.length,none⟩)) (Env.set 29 (.int .i64 (P'.length:Int)) (Env.set 28 (.int .i64 ((P'.length+1:Nat):Int)) (Env.set 27 (.slice (some ⟨bl,0,none⟩) n c) (Env.set 26 (ktV x) (Env.set 25 (.pointer (some ⟨b,6*(P'.length+1),none⟩)) (Env.set 24 (.int .i64 ((P'.length+1:Nat):Int)) (Env.set 23 (.slice (some ⟨bl,0,none⟩) n c) (Env.set 22 (.func (.func 51) ⟨[]⟩ ⟨[]⟩) (Env.set 20 (.bool true) e')))))))))))))) (by simp[AF,t0]) (by simp[AF,t9]);have u9:AB 9 e3=.int .i64 ((P'.length+1:Nat):Int):=(r2 9 (by omega)).trans (by simp[AF,t9]);rw[r1];simp only[DR,BA,sT,AT,AI,reduceIte,Br,u9,a1];refine⟨_,_,rfl,f4,R4,by simp[AF],fun j hj=>?_⟩;have:=r2 j (by omega);rcases hj with rfl|rfl|rfl|rfl|rfl<;>simp only[AF,AT,AI,reduceIte]at this ⊢<;>exact this
   obtain⟨e3,h4,r1,f4,R4,r9,r2⟩:=hrun;refine⟨by omega,e3,h4,r1,P',y::Q,by rw[hA];simp,by omega,(fx.trans (.of y2)).trans f4,R4,fun z hz=>?_,r9,fun j hj=>(r2 j hj).trans (ts j hj)⟩;rcases vS.1 hz with rfl|hz
   ·exact hc
   ·exact hQ z hz
  ·right
   have c2:iLt (HX x y) 0=false:=HI (by omega);have hrun:∃ e3,jnB (call AD (m+3)) e' g=.exit 2 e3 h3∧∀ j,j=0∨j=1∨j=2∨j=3∨j=8→AB j e3=AB j e':=by
    rw[Sk];unfold WC;simp only[sT,AT,AI,reduceIte,gD,A3,AM,AK,t9,t1,c1,t3,t0,A1,ix,Aw,Ar,ld,Br,a1,iy,ldy,q2,c2];refine⟨_,rfl,fun j hj=>?_⟩;rcases hj with rfl|rfl|rfl|rfl|rfl<;>simp only[AF,AT,AI,reduceIte]
   obtain⟨e3,r1,r2⟩:=hrun;rw[r1];refine⟨rfl,e3,h3,rfl,fx.trans (.of y2),?_,fun j hj=>(r2 j hj).trans (ts j hj)⟩;rw[hA,UX hQ (.inr ⟨P',y,rfl,hc⟩),vX,vX];exact R3
theorem Zr(W:h.Wf){ks:List Kt}(Rw:h.Row bl 84 (flK ks++Z))(ADg:256≤bl)(hn:n=ks.length)(hc:n≤c)(hl:n≤1000)(hu:∀ k∈ks,oneCell k.u=true):
  ∃ h',call AD (m+4) 97 [.slice (some ⟨bl,0,none⟩) n c,.int .i64 0,.int .i64 (n:Int),.func (.func 51) ⟨[]⟩ ⟨[]⟩] h=.ok ADV h'∧Fx (fun b=>b=bl) h h'∧h'.Row bl 84 (flK (srt (ks.take 1) (ks.drop 1))++Z):=by
 have run:∀ e1:Env,AB 0 e1=.slice (some ⟨bl,0,none⟩) n c→AB 1 e1=.int .i64 0→AB 2 e1=.int .i64 (n:Int)→AB 3 e1=.func (.func 51) ⟨[]⟩ ⟨[]⟩→AB 8 e1=.int .i64 ((1:Nat):Int)→∃ e' h',Ay jsB (call AD (m+3)) e1 h=.exit 0 e' h'∧Fx (fun b=>b=bl) h h'∧h'.Row bl 84 (flK (srt (ks.take 1) (ks.drop 1))++Z):=fun e1 s0 s1 s2 s3 s8=>by
  refine BU (I:=fun i e' g=>∃ A B,A.length+B.length=ks.length∧(A.length=i+1∨(B=[]∧A.length≤i+1))∧srt A B=srt (ks.take 1) (ks.drop 1)∧(∀ k∈A++B,oneCell k.u=true)∧Fx (fun b=>b=bl) h g∧g.Row bl 84 (flK (A++B)++Z)∧AB 0 e'=.slice (some ⟨bl,0,none⟩) n c∧AB 1 e'=.int .i64 0∧AB 2 e'=.int .i64 (n:Int)∧AB 3 e'=.func (.func 51) ⟨[]⟩ ⟨[]⟩∧AB 8 e'=.int .i64 ((i+1:Nat):Int))
   (Q:=fun x=>∃ e' h',x=.exit 0 e' h'∧Fx (fun b=>b=bl) h h'∧h'.Row bl 84 (flK (srt (ks.take 1) (ks.drop 1))++Z)) n (by omega) (fun i e' g ⟨A,B,hAB,hAi,hsr,hu',fx,R,t0,t1,t2,t3,t8⟩=>?_) ⟨ks.take 1,ks.drop 1,by rw[vp,wG];omega,?_,rfl,by rw[xA];exact hu,.refl W,by rw[xA];exact Rw,s0,s1,s2,s3,s8⟩
  ·have W':=fx.wf
   cases B with
   |nil=>
    right;have hA:A.length=n:=by simp only[wB]at hAB;omega
    have c1:iLt ((i+1:Nat):Int) (n:Int)=false:=DE (by omega);have hrun:∃ e3,jsB (call AD (m+3)) e' g=.exit 0 e3 g:=by
     rw[Ok];unfold WD;simp only[sT,AT,AI,reduceIte,AM,AK,t8,t2,c1];exact⟨_,rfl⟩
    obtain⟨e3,r1⟩:=hrun;rw[r1];refine⟨rfl,e3,g,rfl,fx,?_⟩;rw[← hsr];rw[vR]at R;exact R
   |cons x B=>
    left;rw[vI]at hAB;have hA:A.length=i+1:=by
     rcases hAi with h1|⟨h1,_⟩
     ·exact h1
     ·cases h1
    have c1:iLt ((i+1:Nat):Int) (n:Int)=true:=Es (by omega);obtain⟨e2,h2,i1,f2,R2,i2⟩:=Ys (m:=m) (e:=Env.set 9 (.int .i64 ((i+1:Nat):Int)) (Env.set 14 (.bool true) e')) W' R ADg (by rw[IT,vI];omega) hc hl hu' (by simp[AF,t0]) (by simp[AF,t1]) (by simp[AF,t3]) (by simp only[AF,AT,AI,reduceIte,hA]);have g0:=i2 0 (by omega);have g1:=i2 1 (by omega);have g2:=i2 2 (by omega);have g3:=i2 3 (by omega);have g8:=i2 8 (by omega);simp only[AF,AT,AI,reduceIte,t0]at g0;simp only[AF,AT,AI,reduceIte,t1]at g1;simp only[AF,AT,AI,reduceIte,t2]at g2;simp only[AF,AT,AI,reduceIte,t3]at g3;simp only[AF,AT,AI,reduceIte,t8]at g8;have a3:FH .i64 (.int .i64 ((i+1:Nat):Int)) (.int .i64 1) h2=.ok (.int .i64 ((i+1+1:Nat):Int)) h2:=CH (by omega);have hrun:∃ e3,jsB (call AD (m+3)) e' g=.norm e3 h2∧AB 0 e3=.slice (some ⟨bl,0,none⟩) n c∧AB 1 e3=.int .i64 0∧AB 2 e3=.int .i64 (n:Int)∧AB 3 e3=.func (.func 51) ⟨[]⟩ ⟨[]⟩∧AB 8 e3=.int .i64 ((i+1+1:Nat):Int):=by
     rw[Ok];unfold WD;simp only[sT,AT,AI,reduceIte,AM,AK,t8,t2,c1,i1,g8,BF,a3];exact⟨_,rfl,by simp[AF,g0,g1,g2,g3]⟩
    obtain⟨e3,r1,r2,r3,r4,r5,r6⟩:=hrun;refine⟨by omega,e3,h2,r1,Ib A x,B,by rw[MJ];omega,.inl (by rw[MJ];omega),hsr,fun k hk=>?_,fx.trans f2,R2,r2,r3,r4,r5,r6⟩;rcases va.1 hk with h1|h1
    ·rcases QM.1 h1 with rfl|h1
     ·exact hu' _ (vV _ vG)
     ·exact hu' k (vk _ h1)
    ·exact hu' k (vV _ (vH _ h1))
  ·cases ks with
   |nil=>exact .inr ⟨rfl,vi _⟩
   |cons k ks=>exact .inl rfl
 have a1:FH .i64 (.int .i64 0) (.int .i64 1) h=.ok (.int .i64 ((1:Nat):Int)) h:=CH (i:=0) (by omega);obtain⟨e2,h2,r1,x2⟩:=run (Env.set 8 (.int .i64 ((1:Nat):Int)) (Env.set 11 (.int .i64 ((1:Nat):Int)) (AS e0 0 [.slice (some ⟨bl,0,none⟩) n c,.int .i64 0,.int .i64 (n:Int),.func (.func 51) ⟨[]⟩ ⟨[]⟩]))) (by simp only[iN,By,AF,AT,AI,reduceIte]) (by simp only[iN,By,AF,AT,AI,reduceIte]) (by simp only[iN,By,AF,AT,AI,reduceIte]) (by simp only[iN,By,AF,AT,AI,reduceIte]) (by simp[AF]);simp only[iN,By]at r1;refine⟨h2,?_,x2⟩;rw[Xr rfl,YO];unfold cx;simp only[iN,By,sT,AT,AI,reduceIte,BF,a1,r1,DX,DV]
def Ch(ks:List Kt):List Kt:=srt (ks.take 1) (ks.drop 1)
theorem Rh(W:h.Wf){ks:List Kt}(Rw:h.Row bl 84 (flK ks++Z))(ADg:256≤bl)(hn:n=ks.length)(hc:n≤c)(hl:n≤12)(hu:∀ k∈ks,oneCell k.u=true):
  ∃ h',call AD (m+6) 50 [.slice (some ⟨bl,0,none⟩) n c,.func (.func 51) ⟨[]⟩ ⟨[]⟩] h=.ok ADV h'∧Fx (fun b=>b=bl) h h'∧h'.Row bl 84 (flK (Ch ks)++Z):=by
 obtain⟨h2,k2,x2,R2⟩:=Zr (m:=m) W Rw ADg hn hc (by omega) hu;obtain⟨k,kb⟩:=OL (m:=m+3) (h:=h) (n:=n) (by omega);have cv:DH .u64 (.int .i64 (n:Int)) h=.ok (.int .u64 (n:Int)) h:=by rw[CU,EI (by omega)]
 have a1:Fc wA .i64 (.int .i64 (n:Int)) (.int .i64 0) h=.ok (.int .i64 (n:Int)) h:=by
  have:wA (n:Int) 0=(n:Int):=Int.sub_zero _;rw[CZ,this,BW (by omega)]
 have c1:iLe (n:Int) 12=true:=Kk (by omega);have pd:call AD (m+5) 77 [.slice (some ⟨bl,0,none⟩) n c,.int .i64 0,.int .i64 (n:Int),.int .i64 (k:Int),.func (.func 51) ⟨[]⟩ ⟨[]⟩] h=.ok ADV h2:=by
  have hb:∃ e2,pdB (call AD (m+4)) (Env.set 11 (.bool true) (Env.set 10 (.bool true) (AS e0 0 [.slice (some ⟨bl,0,none⟩) n c,.int .i64 0,.int .i64 (n:Int),.int .i64 (k:Int),.func (.func 51) ⟨[]⟩ ⟨[]⟩]))) h=.ret e2 h2:=by
   rw[Zw];unfold fb;simp only[iN,By,sT,AT,AI,reduceIte,Br,a1,AM,AK,c1,cA0,k2];exact⟨_,rfl⟩
  obtain⟨e2,r1⟩:=hb;have r1:=MS r1;simp only[iN,By]at r1;rw[Xm rfl,YL];unfold co;simp only[iN,By,sT,AT,AI,reduceIte,r1,Be,DV]
 refine⟨h2,?_,x2,R2⟩;rw[Xe rfl];unfold d50;simp only[iN,By,sT,AT,AI,reduceIte,Af,FO,B8,cv,cA0,kb,pd,DX,DV]
end
end
noncomputable section
open Go
set_option maxRecDepth 100000
theorem Z0:prB=fe:=rfl
theorem GX:d11=Lw:=rfl
section
variable {F:ADS}{e:Env}{h h' h0:Hp}{S:Nat→Prop}{A:At}{T M:List Nat}{c0 bad k:Nat}{arm:Int}{ks:List Kt}{fr:List Nat}{v lv fv:BY}{ov:Bool}
def VcI(h:Hp)(k:Nat)(v:BY)(l:List Nat):Prop:=(v=ADj∧l=[])∨Mk h k v l
theorem VcI.vals{k:Nat}{v:BY}{l:List Nat}(o:VcI h k v l):h.ADo v (l.map bv):=by
 rcases o with ⟨h1,h2⟩|o
 ·exact .inl ⟨h1,by rw[h2];rfl⟩
 ·exact o.vals
theorem VcI.ext{k:Nat}{v:BY}{l:List Nat}(o:VcI h k v l)(W:h.Wf)(x:h.Ext h'):VcI h' k v l:=by
 rcases o with o|o
 ·exact .inl o
 ·exact .inr (o.ext W x)
theorem VcI.same{k:Nat}{v:BY}{l:List Nat}(o:VcI h k v l)(hb:h'.bl=h.bl):VcI h' k v l:=by
 rcases o with o|o
 ·exact .inl o
 ·exact .inr (o.same hb)
theorem VcI.one{k:Nat}{v:BY}{l:List Nat}(o:VcI h k v l):cellsOf v=[v]∧oneCell v=true∧known v=true:=by
 rcases o with ⟨h1,_⟩|⟨b,el,h1,_⟩<;>rw[h1]<;>exact⟨rfl,rfl,rfl⟩
def Hp.VE(h:Hp)(u:BY)(xs:List BY):Prop:=h.ADo u xs∨((∃ r,u=.chan (some r))∧xs=[])
theorem Hp.VE.bl{u:BY}{l:List Nat}(V:h.VE u (l.map bv))(g:Hp):AEL u g=.ok (.int .i64 (l.length:Int)) g:=by
 rcases V with V|⟨⟨r,rfl⟩,h2⟩
 ·exact V.bl g
 ·rw[yY.1 h2];rfl
theorem Hp.VE.ext{u:BY}{xs:List BY}(V:h.VE u xs)(W:h.Wf)(x:h.Ext h'):h'.VE u xs:=V.imp (fun V=>V.ext W x) id
theorem Hp.VE.vals{u:BY}{xs:List BY}(V:h.VE u xs)(hl:0<xs.length):h.ADo u xs:=by
 rcases V with V|⟨_,h2⟩
 ·exact V
 ·rw[h2]at hl;cases hl
theorem NL{n:Nat}(W:h.Wf){u:BY}{l:List Nat}(V:h.VE u (l.map bv))(hl:l.length≤900000):∃ h' v,call AD (n+1) 39 [u] h=.ok v h'∧h.Ext h'∧VcI h' h.next v l:=by
 rcases V with V|⟨⟨r,rfl⟩,h2⟩
 case inr=>
  obtain rfl:=yY.1 h2;have x1:=(Hp.Ext.refl W).ADR 0 [];have R:=Hp.Row.new W 0 [];have es:=fun (e:Env) (t:List BY)=>J3 (F:=call AD n) (e:=e) (t:=t) W
  generalize h.ADR 0 []=g at x1 R es;have ne:∀ e:Env,AB 0 e=.chan (some r)→oEq LD.k false (AB 0) (kV (.slice none 0 0)) (call AD n) e h=.ok (.bool false) h:=fun e he=>by
   rw[ai];show(match eqV (.slice 5) (AB 0 e) (.slice none 0 0)with|some r=>okB (false != r) h|none=>.no)=_;rw[he];exact F7
  have big:=W.big;have ap:DQ 1 1 5 (.slice (some ⟨h.next,0,none⟩) 0 0) (.chan (some r)) g=.ok (.slice (some ⟨h.next,0,none⟩) 0 0) (g.wr h.next 0 []):=HU x1.wf big R (fun k=>rfl) rfl;have R2:=R.ADm x1.wf (off:=0) (vs:=[]) (IN _);refine⟨_,.slice (some ⟨h.next,0,none⟩) 0 0,?_,R.AD5 x1 (IN _) (off:=0) (vs:=[]) (IN _),.inr ⟨h.next,0,rfl,.inl rfl,R2,IN _⟩⟩;rw[IO rfl];unfold d39;simp only[iN,By,sT,AT,AI,reduceIte,ne,es,BG,ap,lV0]
 have V0:=V;rcases V with ⟨rfl,h2⟩|⟨b,off,c,el,L,h1,_⟩
 ·have ne:∀ e:Env,AB 0 e=.slice none 0 0→oEq LD.k false (AB 0) (kV (.slice none 0 0)) (call AD n) e h=.ok (.bool true) h:=fun e he=>JP (t:=0) ai he
  refine⟨h,ADj,?_,.refl W,.inl ⟨rfl,yY.1 h2⟩⟩;rw[IO rfl];unfold d39;simp only[iN,By,sT,AT,AI,reduceIte,ne,lV0]
 ·rw[If]at h1
  rw[h1]at V0 ⊢;obtain⟨h',v,a,b,c⟩:=Pc (n:=n) W V0 hl;exact⟨h',v,a,b,.inr c⟩
theorem Hp.KN.same{k:Nat}{v:BY}{ks:List Kt}(o:h.KN k v ks)(hb:h'.bl=h.bl):h'.KN k v ks:=by
 rcases o with o|⟨h1,b,h2,h3,h4⟩
 ·exact .inl (o.same hb)
 ·exact .inr ⟨h1,b,h2,h3.same hb,h4⟩
theorem db(x0:h0.Ext h)(hk:h0.next≤k)(hk2:k≤h.next)(o:h.KN k v ks){x:Kt}(hu:oneCell x.u=true)(hl:ks.length≤100000):
  ∃ h' v',DQ 6 64 83 v (.slice (some ⟨h.next,0,none⟩) 1 1) (h.ADR 0 (AV x))=.ok v' h'∧h0.Ext h'∧h'.KO k v' (ks++[x])∧h.next≤h'.next:=by
 rcases o with o|⟨rfl,b,rfl,r,hb,ADg⟩
 ·obtain⟨h',v',a1,a2,a3,a4,_⟩:=Sr x0 hk hk2 o hu hl
  exact⟨h',v',a1,a2,a3,a4⟩
 ·have W:=x0.wf
  have x1:=x0.ADR 0 (AV x);have y1:=(Hp.Ext.refl W).ADR 0 (AV x);have Rw:=Hp.Row.new W 0 (AV x);have n1:(h.ADR 0 (AV x)).next=h.next+1:=rfl;have r1:=r.ext W y1;generalize h.ADR 0 (AV x)=h1 at x1 y1 Rw n1 r1;have hs:∀ K:List BY→R,BH h1 6 (.slice (some ⟨h.next,0,none⟩) 1 1) 1 K=K (AV x):=fun K=>Rw.AFi (es:=6) (off:=0) (n:=1) (by show 0+1 * 6≤6;omega)
  obtain⟨h5,a1,a2,a3,a4,_⟩:=ET (eb:=64) (en:=83) x1 r1 hs rfl rfl (by omega) (GW hu) (by omega);refine⟨h5,_,a1,a2,.inr ⟨h1.next,rfl,?_,by omega,by have:=W.big;omega⟩,by omega⟩;show h5.Row h1.next 84 (AV x++[]);rw[vR];exact a3
theorem Fx.fresh{S:Nat→Prop}{h h1 h2:Hp}{b:Nat}(a:Fx S h h1)(x:Fx (fun i=>i=b) h1 h2)(hb:h.next≤b):Fx S h h2:=
 ⟨vw a.next x.next,fun i hi hs=>by
  have:=a.next;rw[x.get i (by omega) (by omega),a.get i hi hs],x.wf,fun L q1 q2 q3=>x.low L (a.low L q1 q2 q3) (vw q2 a.next) fun i hi=>by rw[hi];omega⟩
theorem VF{z:Kt}:∀ {B A:List Kt},z∈srt A B↔z∈A∨z∈B
 |[],A=>by simp[srt]
 |x::B,A=>by
  show z∈srt (Ib A x) B↔_;rw[VF,QM,vS];constructor
  ·rintro ((h|h)|h)
   ·exact .inr (.inl h)
   ·exact .inl h
   ·exact .inr (.inr h)
  ·rintro (h|h|h)
   ·exact .inl (.inr h)
   ·exact .inl (.inl h)
   ·exact .inr h
theorem VD:∀ (B A:List Kt),(srt A B).length=A.length+B.length
 |[],A=>rfl
 |x::B,A=>by
  show(srt (Ib A x) B).length=_;rw[VD,MJ,vI];omega
theorem FG{z:Kt}{ks:List Kt}:z∈Ch ks↔z∈ks:=by
 unfold Ch;rw[VF,← va,xA]
theorem IA(ks:List Kt):(Ch ks).length=ks.length:=by
 unfold Ch;rw[VD,vp,wG];omega
theorem Sl.lst{ks':List Kt}{bl:Nat}{L0:List BY}(s:Sl h A T M c0 arm ks fr lv fv bad ov)(W:h.Wf)(x:Fx (fun b=>b=bl) h h')(nbl:¬ A.D bl)(Rl:h.Row bl 84 L0)(ls:h'.KS (fun b=>¬ A.D b) lv ks')(hm:∀ k∈ks',k∈ks)(hn:ks'.length=ks.length):Sl h' A T M c0 arm ks' fr lv fv bad ov:=by
 have kp:∀ b el L,b≠bl→h.Row b el L→h'.Row b el L:=fun b el L hb r=>x.row W r hb
 have nb:∀ b el L,(el=0∨el=6∨el=4)→h.Row b el L→b≠bl:=fun b el L he r=>Dn r Rl (by omega)
 refine⟨kp _ _ _ (nb _ _ _ (.inl rfl) s.row) s.row,s.dk.fr W x (nb _ _ _ (.inl rfl) s.dk.disk) (nb _ _ _ (.inl rfl) s.dk.med) (fun h=>(JZ Rl s.dk.map) h.symm),kp _ _ _ (nb _ _ _ (.inl rfl) s.tab) s.tab,s.tok,ls,fun y hy=>⟨(s.ko y (hm y hy)).1.keep fun b el L hb he r=>kp b el L (nb b el L (by omega) r) r,(s.ko y (hm y hy)).2⟩,?_,s.ne,by rw[hn];exact s.le⟩;rcases s.fs with h1|⟨b,el,h1,h2,h3,h4⟩
 ·exact .inl h1
 ·exact .inr ⟨b,el,h1,kp _ _ _ (nb b el _ (by omega) h2) h2,h3,h4⟩
end
end
noncomputable section
open Go
set_option maxRecDepth 100000
theorem lU:cmS=BK (Ad 1 (Ay cmL)) cmE:=rfl
theorem Xw:cmB=cE:=rfl
theorem IU:d12=M7:=rfl
section

end
end
noncomputable section
open Go
set_option maxRecDepth 100000
theorem aj:LD.k=.slice 5:=by kernel_rfl
theorem lS{n:Nat}{h:Hp}(W:h.Wf){u:BY}{xs:List BY}(V:h.ADo u xs)(ha:Bd xs=true)(hl:xs.length≤1000000):
  ∃ h' v,call AD (n+1) 39 [u] h=.ok v h'∧h.Ext h'∧h'.Cl (fun b=>h.next≤b∧b<h'.next) 5 v xs:=by
 rcases V with ⟨rfl,rfl⟩|⟨b,off,c,el,L,h1,h2,h3,h4⟩
 ·have ne:∀ e:Env,AB 0 e=.slice none 0 0→oEq LD.k false (AB 0) (kV (.slice none 0 0)) (call AD n) e h=.ok (.bool true) h:=fun e he=>JP (t:=0) aj he
  refine⟨h,ADj,?_,.refl W,.inl ⟨rfl,rfl⟩⟩;rw[IO rfl];unfold d39;simp only[iN,By,sT,AT,AI,reduceIte,ne,lV0]
 ·have V:h.ADo u xs:=.inr ⟨b,off,c,el,L,h1,h2,h3,h4⟩
  have x1:=(Hp.Ext.refl W).ADR 0 [];have R:=Hp.Row.new W 0 [];have es:=fun (e:Env) (t:List BY)=>J3 (F:=call AD n) (e:=e) (t:=t) W
  have n1:(h.ADR 0 []).next=h.next+1:=rfl;generalize h.ADR 0 []=g at x1 R es n1;have ne:∀ e:Env,AB 0 e=u→oEq LD.k false (AB 0) (kV (.slice none 0 0)) (call AD n) e h=.ok (.bool false) h:=fun e he=>JO (t:=0) aj (he.trans h1)
  have V1:=V.ext W x1;have big:=W.big;rcases vy xs.length with hz|hz
  ·obtain rfl:xs=[]:=vz hz
   have ap:DQ 1 1 5 (.slice (some ⟨h.next,0,none⟩) 0 0) u g=.ok (.slice (some ⟨h.next,0,none⟩) 0 0) (g.wr h.next 0 []):=HU x1.wf big R (fun k=>V1.src rfl k) V1.lenV;have R2:=R.ADm x1.wf (off:=0) (vs:=[]) (IN _);refine⟨_,.slice (some ⟨h.next,0,none⟩) 0 0,?_,R.AD5 x1 (IN _) (off:=0) (vs:=[]) (IN _),.inr ⟨h.next,0,rfl,R2,.inr ⟨rfl,rfl⟩,⟨IN _,?_⟩,big⟩⟩
   ·rw[IO rfl]
    unfold d39;simp only[iN,By,sT,AT,AI,reduceIte,ne,es,BG,ap,lV0]
   ·have:=R.AD9 (off:=0) (vs:=[]) (IN _)
    omega
  ·obtain⟨h2,a1,a2,a3,a4,a5⟩:=ET (eb:=1) (en:=5) x1 R (es:=1) (fun k=>V1.src rfl k) V1.lenV (by omega) hz ha (by omega)
   refine⟨h2,_,?_,a2,.inr ⟨g.next,5+1,rfl,a3,.inl rfl,⟨by omega,by omega⟩,by omega⟩⟩;rw[IO rfl];unfold d39;simp only[iN,By,sT,AT,AI,reduceIte,ne,es,BG,a1,lV0]
theorem Yg:eqS=BK (Ad 0 (Ay ebB)) eqE:=rfl
theorem SW:d42=YB:=rfl
section
variable {F:ADS}{e:Env}{h h':Hp}{S:Nat→Prop}{A:At}{bad m k p:Nat}{v lv fv:BY}{ov:Bool}
theorem Vt(W:h.Wf){u v:BY}{a b:List Nat}(U:h.ADo u (a.map bv))(V:h.VE v (b.map bv))(hl:a.length≤900000):∃ h',call AD (m+1) 42 [u,v] h=.ok (.bool (decide (a=b))) h'∧h.Ext h':=by
 have Ul:=U.bl h;have Vl:=V.bl h;by_cases hab:a.length=b.length
 ·have c1:iNe (a.length:Int) (b.length:Int)=false:=by rw[HJ,hab];simp
  have pre:∃ e1,YB (call AD m) (AS e0 0 [u,v]) h=eqS (call AD m) e1 h∧AB 0 e1=u∧AB 1 e1=v∧AB 12 e1=.int .i64 (a.length:Int)∧AB 13 e1=.int .i64 ((0:Nat):Int):=by
   unfold YB;simp only[iN,By,sT,AT,AI,reduceIte,Af,Ul,Vl,AM,AK,c1];exact⟨_,rfl,by simp[AF]⟩
  obtain⟨e1,p1,s0,s1,s12,s13⟩:=pre;have run:(∃ e' h',Ay ebB (call AD m) e1 h=.exit 0 e' h'∧h.Ext h'∧a=b)∨(∃ e' h',Ay ebB (call AD m) e1 h=.ret e' h'∧h.Ext h'∧a≠b∧AB 4 e'=.bool false):=by
   refine BU (I:=fun i e' h'=>h.Ext h'∧AB 0 e'=u∧AB 1 e'=v∧AB 12 e'=.int .i64 (a.length:Int)∧AB 13 e'=.int .i64 (i:Int)∧i≤a.length∧(a=b↔a.drop i=b.drop i))
    (Q:=fun x=>(∃ e' h',x=.exit 0 e' h'∧h.Ext h'∧a=b)∨(∃ e' h',x=.ret e' h'∧h.Ext h'∧a≠b∧AB 4 e'=.bool false)) a.length (by omega) (fun i e' h' ⟨x',t0,t1,t12,t13,hi,hr⟩=>?_) ⟨.refl W,s0,s1,s12,s13,vi _,by simp⟩
   by_cases hlt:i<a.length
   ·have xm:=x'.marked
    obtain⟨p,g1,g2⟩:=Ir (U.ext W xm) hlt;obtain⟨q,g3,g4⟩:=Ir ((V.ext W xm).vals (by rw[If];omega)) (i:=i) (by omega);rw[GB hlt,GB (l:=b) (by omega)]at hr;generalize a.getD i 0=c at g2 hr;generalize b.getD i 0=d at g4 hr;have c1:=Es hlt;by_cases hcd:c=d
    ·left
     subst hcd;have c2:iNe (c:Int) (c:Int)=false:=by rw[HJ];simp
     have a3:=CH (i:=i) (h:=h'.marked) (by omega);have hrun:∃ e2,ebB (call AD m) e' h'=.norm e2 h'.marked∧AB 0 e2=u∧AB 1 e2=v∧AB 12 e2=.int .i64 (a.length:Int)∧AB 13 e2=.int .i64 ((i+1:Nat):Int):=by
      unfold ebB;simp only[sT,AT,AI,reduceIte,AM,AK,t13,t12,c1,A3,A1,t0,g1,AN,g2,t1,g3,g4,c2,BF,a3];exact⟨_,rfl,by simp[AF,t0,t1,t12]⟩
     obtain⟨e2,r1,r2,r3,r4,r5⟩:=hrun;refine⟨hlt,e2,h'.marked,r1,xm,r2,r3,r4,r5,hlt,hr.trans ?_⟩;simp
    ·right
     have c2:iNe (c:Int) (d:Int)=true:=by rw[HJ];simp;omega
     have hrun:∃ e2,ebB (call AD m) e' h'=.ret e2 h'.marked∧AB 4 e2=.bool false:=by
      unfold ebB;simp only[sT,AT,AI,reduceIte,AM,AK,t13,t12,c1,A3,A1,t0,g1,AN,g2,t1,g3,g4,c2];exact⟨_,rfl,by simp[AF]⟩
     obtain⟨e2,r1,r2⟩:=hrun;rw[r1];refine⟨rfl,.inr ⟨e2,h'.marked,rfl,xm,fun h=>hcd ?_,r2⟩⟩;have:=hr.1 h;injection this
   ·right
    have c1:=DE (show a.length≤i by omega);have hrun:∃ e2,ebB (call AD m) e' h'=.exit 0 e2 h':=by
     unfold ebB;simp only[sT,AT,AI,reduceIte,AM,AK,t13,t12,c1];exact⟨_,rfl⟩
    obtain⟨e2,r1⟩:=hrun;rw[r1];refine⟨rfl,.inl ⟨e2,h',rfl,x',hr.2 ?_⟩⟩;rw[wR (by omega),wR (by omega)]
  rcases run with ⟨e2,h2,r1,x2,r2⟩|⟨e2,h2,r1,x2,r2,r3⟩
  ·refine⟨h2,?_,x2⟩
   rw[SP rfl,SW,p1,Yg,decide_eq_true r2];simp only[BE,Ax,r1,A2,BA];unfold eqE;simp only[sT,AT,AI,reduceIte,lV0]
  ·refine⟨h2,?_,x2⟩
   rw[SP rfl,SW,p1,Yg,decide_eq_false r2];simp only[BE,Ax,r1,B0,CY,lV0,r3]
 ·have c1:iNe (a.length:Int) (b.length:Int)=true:=by rw[HJ];simp;omega
  refine⟨h,?_,.refl W⟩;rw[SP rfl,SW,decide_eq_false (fun h=>hab (by rw[h]))];unfold YB;simp only[iN,By,sT,AT,AI,reduceIte,Af,Ul,Vl,AM,AK,c1,lV0]
theorem Vv{e:Env}{h h':Hp}{g:O}{n:Nat}{v:BY}(hv:Oq n (g e) h=.ok v h'):E0 [.cN g n] e h=.ok v h:=by
 have h1:Gh e h (.cN g n)=.ok v h':=hv;show(match Gh e h (.cN g n)with|.ok v _=>ADf v fun v=>LJ h [v]|.no=>.no)=_;rw[h1];simp only[BC];rfl
theorem Hp.Cl.bs0{h:Hp}{S:Nat→Prop}{v:BY}{xs:List BY}(o:h.Cl S 5 v xs):h.BS S v xs:=by
 rcases o with h1|⟨b,el,h1,h2,h3,h4,h5⟩
 ·exact .inl h1
 ·exact .inr ⟨b,0,_,el,xs,h1,IN _,h2,by omega,by rw[wM,wh],h4,h3.elim (fun h=>.inr h) (fun h=>.inl h.1)⟩
theorem fV(W:h.Wf){x:Kt}(U:h.ADo x.u (x.l.map bv))(hl:x.l.length≤1000):∃ h' v',call AD (m+2) 65 [ktV x] h=.ok (Bz x.a x.b x.c x.s v') h'∧h.Ext h'∧oneCell v'=true∧h'.BS (fun b=>h.next≤b) v' (x.l.map bv):=by
 have bx:=fun (F:ADS) (e:Env) (he:AB 0 e=ktV x)=>HP (F:=F) W he
 have x1:=(Hp.Ext.refl W).ADR 0 (AV x);have R1:=Hp.Row.new W 0 (AV x);have n1:(h.ADR 0 (AV x)).next=h.next+1:=rfl;generalize h.ADR 0 (AV x)=h1 at bx x1 R1 n1;have al:=fun (F:ADS) (e:Env)=>Bm (F:=F) (e:=e) x1.wf (n:=5) (t:=Cc)
 have Ra:=Hp.Row.alloc x1.wf Ei (show(Aq 0 0 0 0 ADj).length=5 from rfl);have y2:h1.Ext (h1.push (.cells Cc 5 0)):=(Hp.Ext.refl x1.wf).push _;have n2:(h1.push (.cells Cc 5 0)).next=h1.next+1:=rfl;generalize h1.push (.cells Cc 5 0)=h2 at al Ra y2 n2;have x2:=x1.trans y2;have R2:=R1.ext x1.wf y2;obtain⟨_,_,_,_,l4,_⟩:=Bq R2;obtain⟨h3,v',k3,y3,c3⟩:=lS (n:=m) x2.wf (U.ext W x2) (Ct _) (by rw[If];omega);have onv:cellsOf v'=[v']∧oneCell v'=true:=⟨c3.vs.one.1,c3.vs.one.2.1⟩;have R3:=R2.ext x2.wf y3;have Ra3:=Ra.ext y2.wf y3;have big:=W.big;obtain⟨h4,st4,R4,n4,f4,e4⟩:=DK y3.wf R3 (off:=4) (show 4<6 by omega) big onv.1 onv.2;have x3:=x2.trans y3;have x4:=e4 h x3 (IN _);have R4:h4.Row h.next 0 (AV ⟨x.a,x.b,x.c,x.s,x.l,x.p,v'⟩):=R4;obtain⟨_,_,_,_,_,_,_,ld⟩:=Bq R4;have Ra4:=f4.row y3.wf Ra3 (by omega);obtain⟨st5,ld5,x5,R5,n5⟩:=KU W x4 (by omega) Ra4 rfl (a:=x.a) (b:=x.b) (c:=x.c) (s:=x.s) (u:=v') onv.2;have f5:=Fx.wr (S:=fun b=>b=h1.next) f4.wf Ra4 (vs:=Aq x.a x.b x.c x.s v') (off:=0) (IN _) rfl;generalize h4.wr h1.next 0 (Aq x.a x.b x.c x.s v')=h5 at st5 ld5 x5 R5 f5;have vs5:h5.BS (fun b=>h.next≤b) v' (x.l.map bv):=(c3.bs0.keep fun b el L hb _ r=>f5.row f4.wf (f4.row y3.wf r (by omega)) (by omega)).mono fun b hb=>by omega
 refine⟨h5,v',?_,x5,onv.2,vs5⟩;have k3:call AD (m+1) 39 [x.u] h2=.ok v' h3:=k3;have hrun:∃ e2,d65 (call AD (m+1)) (AS e0 0 [ktV x]) h=.ret e2 h5∧AB 2 e2=pt h1.next:=by
  unfold d65;simp only[iN,By,sT,AT,AI,reduceIte,bx,al,AJ,AO,sh,xM,AN,AQ,l4,cA0,k3,Aa,st4,Aw,Ar,ld,st5];exact⟨_,rfl,by simp[AF]⟩
 obtain⟨e2,r1,r2⟩:=hrun;rw[kj rfl,r1,Be,Vv (h':=h5) (v:=Bz x.a x.b x.c x.s v') (by rw[r2,Ar];exact ld5)]
theorem qp{g:O}{b:Nat}(hg:g e=pt b):oEq LE.k false g (kV (.pointer none)) F e h=.ok (.bool false) h:=Gf au hg
theorem bh(R:h.Row A.bs 0 (slL A.bd A.tb lv fv bad ov)):call AD (m+1) 19 [pt A.bs] h=.ok (.int .i64 (bad:Int)) h:=by
 obtain⟨_,_,_,_,_,l5,_⟩:=A7 R;have p1:∀ (F:ADS) (e:Env) (g:Hp),AB 0 e=pt A.bs→oEq LE.k false (AB 0) (kV (.pointer none)) F e g=.ok (.bool false) g:=fun F e g he=>qp he
 rw[kA rfl];unfold d19;simp only[iN,By,sT,AT,AI,reduceIte,p1,Ao,Ae,AJ,AO,sh,AN,AQ,l5,lV0]
end
end
noncomputable section
open Go
set_option maxRecDepth 100000
section
variable {F:ADS}{e:Env}{h h' h0:Hp}{S:Nat→Prop}{A:At}{T M:List Nat}{bad m k p:Nat}{ks:List Kt}{v lv fv:BY}{ov:Bool}
def vB(T M:List Nat)(k:Kt):Prop:=∃ ns,G3 T M k.p ns∧(at6 ns 1:Int)=k.a∧(at6 ns 2:Int)=k.b∧(at6 ns 3:Int)=k.c∧at6 ns 0=k.s∧dat M k.p (at6 ns 4)=k.l
theorem iK:aaS=BK (Ad 0 (Ay aaB)) aaE:=rfl
theorem lg:d21=cd:=rfl
theorem gV:BO G1.zero 1=Aq 0 0 0 0 ADj:=by kernel_rfl
theorem aQ(W:h.Wf){g:O}{a b c:Int}{s:Nat}{u:BY}(hg:g e=Bz a b c s u):Ak 1 (BO G1.zero 1) [(0,5,g)] F e h=.ok (.slice (some ⟨h.next,0,none⟩) 1 1) (h.ADR 0 (Aq a b c s u)):=by
 rw[gV,Ce,BD (hk:=by rw[hg];rfl),hg,show cellsOf (Bz a b c s u)=Aq a b c s u from rfl,if_pos (show(Aq a b c s u).length=5 from rfl),if_pos (show 0+5≤(Aq 0 0 0 0 ADj).length from IN _),CP,Cv W];rfl
def Jz(k:Kt):List BY:=Aq k.a k.b k.c k.s k.u
def flS(L:List Kt):List BY:=L.flatMap Jz
theorem OX:∀ L:List Kt,(flS L).length=L.length*5
 |[]=>rfl
 |k::l=>by
  show(Jz k++flS l).length=_;rw[IT,OX l,vI];show 5+l.length*5=_;omega
theorem dN(a b:List Kt):flS (a++b)=flS a++flS b:=List.flatMap_append
def Hp.AL(h:Hp)(k:Nat)(v:BY)(ks:List Kt):Prop:=(v=ADj∧ks=[])∨∃ b L,v=.slice (some ⟨b,0,none⟩) ks.length ks.length∧h.Row b 44 (flS L)∧L.map Kt.core=ks.map Kt.core∧k≤b∧∀ x∈L,h.BS (fun b=>k≤b) x.u (x.l.map bv)
theorem bT(W:h.Wf)(Rs:h.Row A.bs 0 (slL A.bd A.tb lv fv bad ov))(K:h.KS S lv ks)(hk:∀ k∈ks,h.ADo k.u (k.l.map bv)∧k.l.length≤1000∧oneCell k.u=true)(hl:ks.length≤1000):
  ∃ h' v,call AD (m+4) 21 [pt A.bs] h=.ok v h'∧h.Ext h'∧h'.AL h.next v ks:=by
 have p1:∀ (F:ADS) (e:Env) (g:Hp),AB 0 e=pt A.bs→oEq LE.k false (AB 0) (kV (.pointer none)) F e g=.ok (.bool false) g:=fun F e g he=>qp he
 obtain⟨_,_,_,l3,_⟩:=A7 Rs;have ln:=K.len h;have pre:∃ e1,cd (call AD (m+3)) (AS e0 0 [pt A.bs]) h=aaS (call AD (m+3)) e1 h∧AB 3 e1=ADj∧AB 11 e1=lv∧AB 12 e1=.int .i64 (ks.length:Int)∧AB 13 e1=.int .i64 ((0:Nat):Int):=by
  unfold cd;simp only[iN,By,sT,AT,AI,reduceIte,p1,Ao,Ae,AJ,AO,sh,AN,AQ,l3,Af,ln];exact⟨_,rfl,by simp[AF]⟩
 obtain⟨e1,q1,s3,s11,s12,s13⟩:=pre;have run:∃ e' h' v,Ay aaB (call AD (m+3)) e1 h=.exit 0 e' h'∧h.Ext h'∧AB 3 e'=v∧h'.AL h.next v ks:=by
  refine BU (I:=fun i e' h'=>∃ v,h.Ext h'∧AB 3 e'=v∧AB 11 e'=lv∧AB 12 e'=.int .i64 (ks.length:Int)∧AB 13 e'=.int .i64 (i:Int)∧i≤ks.length∧h'.AL h.next v (ks.take i))
   (Q:=fun x=>∃ e' h' v,x=.exit 0 e' h'∧h.Ext h'∧AB 3 e'=v∧h'.AL h.next v ks) ks.length (by omega) (fun i e' h' ⟨v,x',t3,t11,t12,t13,hi,hv⟩=>?_) ⟨_,.refl W,s3,s11,s12,s13,vi _,.inl ⟨rfl,rfl⟩⟩
  have W':=x'.wf;by_cases hlt:i<ks.length
  ·left
   have c1:=Es hlt;obtain⟨x,hx⟩:∃ x,ks[i]? =some x:=⟨_,List.getElem?_eq_getElem hlt⟩;obtain⟨U,ul,ou⟩:=hk x (vN hx);obtain⟨bb,_,ix,ld,_⟩:=(K.ext W x').at hx;have al:=fun (F:ADS) (e:Env)=>Bm (F:=F) (e:=e) W' (n:=6) (t:=Dl)
   have Ra:=Hp.Row.alloc W' Gr (show(AV K0).length=6 from rfl);have y1:h'.Ext (h'.push (.cells Dl 6 0)):=(Hp.Ext.refl W').push _;generalize h'.push (.cells Dl 6 0)=h1 at al Ra y1;obtain⟨st,ld2,y2,R5,n2⟩:=Mp W' y1 (IN _) Ra rfl (k:=x) ou;generalize h1.wr h'.next 0 (AV x)=h2 at st ld2 y2 R5 n2;have x2:=x'.trans y2;obtain⟨h3,v',k3,y3,ov',vv'⟩:=fV (m:=m+1) x2.wf (U.ext W x2) ul;have x3:=x2.trans y3;have sl:=fun (F:ADS) (e:Env) (he:AB 19 e=Bz x.a x.b x.c x.s v')=>aQ (F:=F) x3.wf he
   have x4:=x3.ADR 0 (Aq x.a x.b x.c x.s v');have y4:=(Hp.Ext.refl x3.wf).ADR 0 (Aq x.a x.b x.c x.s v');have Rw:=Hp.Row.new x3.wf 0 (Aq x.a x.b x.c x.s v');generalize h3.ADR 0 (Aq x.a x.b x.c x.s v')=h4 at sl x4 y4 Rw;have hs:∀ K:List BY→R,BH h4 5 (.slice (some ⟨h3.next,0,none⟩) 1 1) 1 K=K (Aq x.a x.b x.c x.s v'):=fun K=>Rw.AFi (es:=5) (off:=0) (n:=1) (by show 0+1 * 5≤5;omega)
   have ha:Bd (Aq x.a x.b x.c x.s v')=true:=by
    show(bif oneCell v' then true else false)=true;rw[ov'];rfl
   have big:=W.big;have htk:ks.take (i+1)=ks.take i++[x]:=by rw[List.take_add_one,hx];rfl
   have hil:(ks.take i).length=i:=by rw[vp];omega
   have vn:h4.BS (fun b=>h.next≤b) v' (x.l.map bv):=(vv'.ext x3.wf y4).mono fun b hb=>by have:=x2.next;omega
   have app:∃ h5 b5 L5,DQ 5 56 43 v (.slice (some ⟨h3.next,0,none⟩) 1 1) h4=.ok (.slice (some ⟨b5,0,none⟩) (i+1) (i+1)) h5∧h.Ext h5∧h5.Row b5 44 (flS L5)∧L5.map Kt.core=(ks.take (i+1)).map Kt.core∧h.next≤b5∧∀ y∈L5,h5.BS (fun b=>h.next≤b) y.u (y.l.map bv):=by
    rcases hv with ⟨hv,h0⟩|⟨b,L,hv,r,hL,hb,hvs⟩
    ·have h0:i=0:=by rw[h0]at hil;exact hil.symm
     obtain⟨h5,a1,a2,a3,a4,_,a6⟩:=Ou (eb:=56) (en:=43) x4 hs rfl rfl ha (by omega);exact⟨h5,_,[{x with u:=v'}],by rw[hv,h0];exact a1,a2,a3,by rw[htk,h0];rfl,x4.next,fun y hy=>by rw[vM.1 hy];exact vn.ext x4.wf a6⟩
    ·rw[hil]at hv
     have hLl:L.length=i:=by rw[← If (f:=Kt.core),hL,If,hil]
     have r4:=((r.ext W' y2).ext x2.wf y3).ext x3.wf y4;obtain⟨h5,a1,a2,a3,_,_,a6⟩:=MD (eb:=56) (en:=43) (n:=i) x4 hs rfl rfl (by omega) ha r4 (by rw[OX,hLl]) hb (by omega) (by omega);refine⟨h5,_,L++[{x with u:=v'}],by rw[hv];exact a1,a2,by rw[dN];exact a3,by rw[htk,v8,v8,hL];rfl,x4.next,fun y hy=>?_⟩;have kp:∀ y:Kt,h4.BS (fun b=>h.next≤b) y.u (y.l.map bv)→h5.BS (fun b=>h.next≤b) y.u (y.l.map bv):=fun y o=>by
      rcases o with h1|⟨b6,off,c,el,L6,q1,q2,q3,q4,q5,q6,q7⟩
      ·exact .inl h1
      ·exact .inr ⟨b6,off,c,el,L6,q1,q2,a6 b6 el L6 (Dn q3 r4 (by omega)) q3,q4,q5,q6,q7⟩
     rcases va.1 hy with h1|h1
     ·exact kp y ((((hvs y h1).ext W' y2).ext x2.wf y3).ext x3.wf y4)
     ·rw[vM.1 h1];exact kp _ vn
   obtain⟨h5,b5,L5,k5,x5,R5',hL5,hb5,AJB⟩:=app;have a3:=CH (i:=i) (h:=h5) (by omega);have hrun:∃ e2,aaB (call AD (m+3)) e' h'=.norm e2 h5∧AB 3 e2=.slice (some ⟨b5,0,none⟩) (i+1) (i+1)∧AB 11 e2=lv∧AB 12 e2=.int .i64 (ks.length:Int)∧AB 13 e2=.int .i64 ((i+1:Nat):Int):=by
    unfold aaB;simp only[sT,AT,AI,reduceIte,AM,AK,t13,t12,c1,A1,t11,ix,Aw,Ar,ld,al,Aa,st,ld2,cA0,k3,sl,BG,t3,k5,BF,a3];exact⟨_,rfl,by simp[AF,t11,t12]⟩
   obtain⟨e2,r1,r2,r3,r4,r5⟩:=hrun;exact⟨hlt,e2,h5,r1,_,x5,r2,r3,r4,r5,by omega,.inr ⟨b5,L5,by rw[htk,IT,hil];rfl,R5',hL5,hb5,AJB⟩⟩
  ·right
   have hie:i=ks.length:=by omega
   have c1:=DE (show ks.length≤i by omega);have hrun:∃ e2,aaB (call AD (m+3)) e' h'=.exit 0 e2 h'∧AB 3 e2=v:=by
    unfold aaB;simp only[sT,AT,AI,reduceIte,AM,AK,t13,t12,c1];exact⟨_,rfl,by simp[AF,t3]⟩
   obtain⟨e2,r1,r2⟩:=hrun;rw[r1];rw[hie,wh]at hv;exact⟨rfl,e2,h',v,rfl,x',r2,hv⟩
 obtain⟨e2,h2,v,r1,x2,r2,hv⟩:=run;have key:call AD (m+4) 21 [pt A.bs] h=.ok v h2:=by
  rw[kB rfl,lg,q1,iK];simp only[BE,Ax,r1,A2,BA];unfold aaE;simp only[sT,AT,AI,reduceIte,r2,lV0]
 exact⟨h2,v,key,x2,hv⟩
end
end
noncomputable section
open Go
set_option maxRecDepth 100000
def Ev(ks:List Kt)(n:Nat)(a b c:Int)(l:List Nat):Option Int:=
 if ADc a b c 1 l.length=false∨100<l.length then some 2
 else match ks.find? (CN a b c)with
  |some k=>if k.l=l then some 0 else some 60
  |none=>if Bp a b c ks=true then some 61 else if n=0 then some 62 else none
section
variable {F:ADS}{e:Env}{h h':Hp}{A:At}{T M:List Nat}{c0 bad m:Nat}{arm:Int}{ks:List Kt}{fr:List Nat}{lv fv:BY}
theorem Z5(W:h.Wf)(s:Sl h A T M c0 arm ks fr lv fv bad false){a b c:Int}{l:List Nat}{u:BY}(V:h.VE u (l.map bv))(hl:l.length≤1000){z:Int}(hz:Ev ks fr.length a b c l=some z):
  ∃ h',call AD (m+8) 11 [pt A.bs,.int .i64 a,.int .i64 b,.int .i64 c,u] h=.ok (.int .i64 z) h'∧h.Ext h':=by
 have hkl:=s.le.1;have c00:iNe 0 0=false:=CV rfl;have k0:=M1 (m:=m+6) s.row;obtain⟨h1,vc,k1,x1,mk1⟩:=NL (n:=m+6) W V (by omega);have oc:=mk1.one;have bl:=fun (F:ADS) (e:Env) (e1:AB 1 e=.int .i64 a) (e2:AB 2 e=.int .i64 b) (e3:AB 3 e=.int .i64 c) (e4:AB 28 e=vc)=>Iq (F:=F) (h:=h1) (g1:=AB 1) (g2:=AB 2) (g3:=AB 3) (g5:=AB 28) e1 e2 e3 e4 oc.1 oc.2.2
 have al:=fun (F:ADS) (e:Env)=>Bm (F:=F) (e:=e) x1.wf (n:=5) (t:=Cc)
 have Ra:=Hp.Row.alloc x1.wf Ei (show(Aq 0 0 0 0 ADj).length=5 from rfl);have y2:h1.Ext (h1.push (.cells Cc 5 0)):=(Hp.Ext.refl x1.wf).push _;generalize h1.push (.cells Cc 5 0)=h2 at al Ra y2;obtain⟨st,_,y3,R12,n3⟩:=KU x1.wf y2 (IN _) Ra rfl (a:=a) (b:=b) (c:=c) (s:=1) (u:=vc) oc.2.1;generalize h2.wr h1.next 0 (Aq a b c 1 vc)=h3 at st y3 R12 n3;have x3:=x1.trans y3;obtain⟨_,_,_,_,_,AFn⟩:=Bc R12;have lnc:∀ g,AEL vc g=.ok (.int .i64 (l.length:Int)) g:=fun g=>mk1.vals.bl g
 have k4:=JY (n:=m+6) x3.wf (a:=a) (b:=b) (c:=c) (s:=1) (u:=vc) lnc;have y4:=(Hp.Ext.refl x3.wf).ADR 0 (Aq a b c 1 vc);generalize h3.ADR 0 (Aq a b c 1 vc)=h4 at k4 y4;have x4:=x3.trans y4;have lnu:∀ g:Hp,AEL u g=.ok (.int .i64 (l.length:Int)) g:=fun g=>V.bl g
 obtain⟨_,_,l2,_⟩:=A7 (s.row.ext W x4);have s4:=s.ext W x4;unfold Ev at hz;by_cases hr:ADc a b c 1 l.length=false
 ·rw[if_pos (.inl hr)]at hz
  cases hz;rw[hr]at k4;refine⟨h4,?_,x4⟩;rw[GT rfl,GX];unfold Lw;simp only[iN,By,sT,AT,AI,reduceIte,gD,cA0,k0,AM,AK,c00,k1,bl,al,Aa,st,Aw,Ar,AFn,k4,Bj,Bh,wm,lV0]
 ·have hr':ADc a b c 1 l.length=true:=by
   cases hq:ADc a b c 1 l.length
   ·exact absurd hq hr
   ·rfl
  rw[hr']at k4;by_cases AFD:100<l.length
  ·rw[if_pos (.inr AFD)]at hz
   cases hz;have c1:iGt (l.length:Int) 100=true:=FM (by omega);refine⟨h4,?_,x4⟩;rw[GT rfl,GX];unfold Lw;simp only[iN,By,sT,AT,AI,reduceIte,gD,cA0,k0,AM,AK,c00,k1,bl,al,Aa,st,Aw,Ar,AFn,k4,Bj,Bh,wQ,Af,lnu,Ao,Ae,AJ,AO,sh,AN,AQ,l2,c1,lV0]
  ·rw[if_neg (by
    rintro (h|h)
    ·exact hr h
    ·exact AFD h)]at hz
   have c1:iGt (l.length:Int) 100=false:=Eq (by omega);obtain⟨h5,k5,x5⟩:=Hs (m:=m+4) x4.wf s4.row s4.ls.ks (by omega) a b c;have x45:=x4.trans x5;have s5:=s.ext W x45;rcases EU (CN a b c) ks 0 with ⟨e1,e2⟩|⟨j,kx,e1,e2,e3⟩
   ·rw[e2]at k5
    rw[e1]at hz;simp only at hz;have c2:iGe (-1) 0=false:=FL (by omega);obtain⟨h6,k6,x6⟩:=GN (m:=m+3) x45.wf s5.row s5.ls.ks (by omega) a b c;have x46:=x45.trans x6;have s6:=s.ext W x46;cases hst:Bp a b c ks with
    |true=>
     rw[hst]at k6 hz;cases hz;refine⟨h6,?_,x46⟩;rw[GT rfl,GX];unfold Lw;simp only[iN,By,sT,AT,AI,reduceIte,gD,cA0,k0,AM,AK,c00,k1,bl,al,Aa,st,Aw,Ar,AFn,k4,Bj,Bh,wQ,Af,lnu,Ao,Ae,AJ,AO,sh,AN,AQ,l2,c1,k5,c2,k6,BE,Ax,B0,CY,lV0]
    |false=>
     rw[hst]at k6 hz;rw[if_neg (by decide)]at hz;by_cases hf:fr.length=0
     ·rw[if_pos hf]at hz
      cases hz;obtain⟨_,_,_,_,l4,_⟩:=A7 s6.row;have lnf:=s6.fs.vals.len;have hil:(ints .i64 (fr.map wC)).length=fr.length:=by unfold ints;rw[If,If]
      rw[hil,hf]at lnf;have c3:iEq ((0:Nat):Int) 0=true:=DM rfl;refine⟨h6,?_,x46⟩;rw[GT rfl,GX];unfold Lw;simp only[iN,By,sT,AT,AI,reduceIte,gD,cA0,k0,AM,AK,c00,k1,bl,al,Aa,st,Aw,Ar,AFn,k4,Bj,Bh,wQ,Af,lnu,Ao,Ae,AJ,AO,sh,AN,AQ,l2,c1,k5,c2,k6,l4,lnf,c3,BE,Ax,B0,CY,lV0]
     ·rw[if_neg hf]at hz;cases hz
   ·rw[e3,sh]at k5
    rw[e1]at hz;simp only at hz;have c2:iGe (j:Int) 0=true:=HG (by omega);obtain⟨_,_,_,l3,_⟩:=A7 s5.row;obtain⟨bb,_,ix,_,lde⟩:=s5.ls.ks.at e2;have lu:=lde 4 kx.u rfl;have hkm:=vN e2;obtain⟨h6,k6,x6⟩:=Vt (m:=m+6) x45.wf ((s5.ko kx hkm).1.vs.vals) (V.ext W x45) (by have:=(s5.ko kx hkm).2.2.1;omega);have k6:call AD (m+7) 42 [kx.u,u] h5=.ok (.bool (decide (kx.l=l))) h6:=k6;refine⟨h6,?_,x45.trans x6⟩;by_cases hkl:kx.l=l
    ·rw[if_pos hkl]at hz
     cases hz;rw[decide_eq_true hkl]at k6;rw[GT rfl,GX];unfold Lw;simp only[iN,By,sT,AT,AI,reduceIte,gD,cA0,k0,AM,AK,c00,k1,bl,al,Aa,st,Aw,Ar,AFn,k4,Bj,Bh,wQ,Af,lnu,Ao,Ae,AJ,AO,sh,AN,AQ,l2,c1,k5,c2,l3,A1,ix,lu,xM,k6,lV0]
    ·rw[if_neg hkl]at hz
     cases hz;rw[decide_eq_false hkl]at k6;rw[GT rfl,GX];unfold Lw;simp only[iN,By,sT,AT,AI,reduceIte,gD,cA0,k0,AM,AK,c00,k1,bl,al,Aa,st,Aw,Ar,AFn,k4,Bj,Bh,wQ,Af,lnu,Ao,Ae,AJ,AO,sh,AN,AQ,l2,c1,k5,c2,l3,A1,ix,lu,xM,k6,lV0]
end
end
noncomputable section
open Go
set_option maxRecDepth 100000
theorem kE{n:Nat}{args:List BY}{h:Hp}(hl:vJ (A8 args) 160=true):call AD (vD n) 28 args h=A4 [.t (AB 2)] (d28 (call AD n) (AS e0 0 args) h):=by
 have hb:AD.get 28=some b28:=by kernel_rfl
 rw[Ah hb];have hd:b28=⟨[.t (AB 2)],d28⟩:=by kernel_rfl
 rw[hd,AX hl]
theorem km{n:Nat}{args:List BY}{h:Hp}(hl:vJ (A8 args) 160=true):call AD (vD n) 67 args h=A4 [.t (AB 2)] (d67 (call AD n) (AS e0 0 args) h):=by
 have hb:AD.get 67=some b67:=by kernel_rfl
 rw[Ah hb];have hd:b67=⟨[.t (AB 2)],d67⟩:=by kernel_rfl
 rw[hd,AX hl]
theorem lG{n:Nat}{args:List BY}{h:Hp}(hl:vJ (A8 args) 160=true):call AD (vD n) 82 args h=A4 [] (d82 (call AD n) (AS e0 0 args) h):=by
 have hb:AD.get 82=some b82:=by kernel_rfl
 rw[Ah hb];have hd:b82=⟨[],d82⟩:=by kernel_rfl
 rw[hd,AX hl]
theorem bu{n:Nat}{args:List BY}{h:Hp}(hl:vJ (A8 args) 160=true):call AD (vD n) 108 args h=A4 [] (cQ (call AD n) (AS e0 0 args) h):=by
 have hb:AD.get 108=some VW:=by kernel_rfl
 rw[Ah hb];have hd:VW=⟨[],cQ⟩:=by kernel_rfl
 rw[hd,AX hl]
theorem cA{n:Nat}{args:List BY}{h:Hp}(hl:vJ (A8 args) 160=true):call AD (vD n) 119 args h=A4 [] (cW (call AD n) (AS e0 0 args) h):=by
 have hb:AD.get 119=some Vb:=by kernel_rfl
 rw[Ah hb];have hd:Vb=⟨[],cW⟩:=by kernel_rfl
 rw[hd,AX hl]
theorem cB{n:Nat}{args:List BY}{h:Hp}(hl:vJ (A8 args) 160=true):call AD (vD n) 125 args h=A4 [.t (AB 4)] (cY (call AD n) (AS e0 0 args) h):=by
 have hb:AD.get 125=some Vd:=by kernel_rfl
 rw[Ah hb];have hd:Vd=⟨[.t (AB 4)],cY⟩:=by kernel_rfl
 rw[hd,AX hl]
end
end Go.Proofs.YtedbmmfebjfibaaGreat
