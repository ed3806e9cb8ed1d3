/-
  Part ZN of what Lawke stands on: printed by program, names and spaces cut.
-/
import Derived.Test.YtedbmmfebjfibaaGreatZM
open Go.Value renaming int→AI
open Go.IntKind renaming i64→AT
open Nat renaming reduceEqDiff→BY,reduceLT→By,reduceAdd→IS,le_refl→IT,zero_add→vk,succ→vo,ble→vx,zero_le→wP,le_trans→wd,eq_zero_or_pos→wg,mul_comm→xr,add_zero→yc,reduceLeDiff→ABR
open Go renaming Value→IN
open List renaming length_append→No,length_map→OF,mem_cons_self→vp,mem_cons_of_mem→vr,length_cons→vw,mem_of_getElem?→vy,mem_singleton→v7,mem_cons→wA,append_nil→wF,append_assoc→wG,mem_append_right→wI,mem_append→wK,getElem?_append_right→wQ,length_take→wT,mem_append_left→wU,map_append→wa,eq_nil_of_length_eq_zero→wh,length_nil→wl,range→wm,length_drop→xC,nil_append→xE,drop_zero→xF,drop_of_length_le→xL,length_singleton→xR,take_length→xn,take_append_drop→xz,range_succ→ye,reverse_append→yh,map_eq_nil_iff→yi,filter_append→yr,singleton_append→zJ,reverse_reverse→zO,cons_append→zy,length_reverse→AAb,take_append_of_le_length→AAo,mem_reverse→AAp,reverse_cons→AAz,length_range→AA0,append_eq→ABt,drop→AC7,take→ADX
open Int renaming sub→wi,ofNat→wj
open Bool renaming not_true→xJ,not_false→yA
open Classical renaming propDecidable→xS,choose→ADb,choose_spec→ADp
open Go.Value renaming int→xY
set_option linter.unusedVariables false
set_option linter.unusedSimpArgs false
namespace Go.Proofs.YtedbmmfebjfibaaGreat
noncomputable section
open Go
set_option maxRecDepth 100000
structure Kc where
 a:Int
 b:Int
 c:Int
 s:Nat
 l:List Nat
 p:Nat
def Kt.core(k:Kt):Kc:=⟨k.a,k.b,k.c,k.s,k.l,k.p⟩
def lkN(T M:List Nat)(p:Nat):Option (List Nat):=match xS (∃ ns,HP T M p ns)with
 |.isTrue h=>some (ADb h)
 |.isFalse _=>none
def EO(T M:List Nat)(p:Nat):Bool:=match xS ((¬ ∃ ns,HP T M p ns)/\((∃ x∈sec M (3*p),x≠0)\/∃ ns,Ld T (sec M (3*p)) ns/\at6 ns 4<=100))with
 |.isTrue _=>true
 |.isFalse _=>false
theorem Rk{T M:List Nat}{p:Nat}{ns:List Nat}(h:HP T M p ns):lkN T M p=some ns:=by
 unfold lkN;split
 ·rename_i h' _
  rw[Ia (ADp h').1 h.1]
 ·rename_i h' _;exact absurd ⟨ns,h⟩ h'
theorem Rj{T M:List Nat}{p:Nat}(h:¬ ∃ ns,HP T M p ns):lkN T M p=none:=by
 unfold lkN;split
 ·rename_i h' _;exact absurd h' h
 ·rfl
theorem Hs{T M:List Nat}{p:Nat}:EO T M p=true↔((¬ ∃ ns,HP T M p ns)/\((∃ x∈sec M (3*p),x≠0)\/∃ ns,Ld T (sec M (3*p)) ns/\at6 ns 4<=100)):=by
 unfold EO;split
 ·rename_i h _;exact⟨fun _=>h,fun _=>rfl⟩
 ·rename_i h _;exact⟨fun e=>(by cases e),fun e=>absurd e h⟩
def bD(M:List Nat)(p:Nat)(ns:List Nat):Kc:=⟨at6 ns 1,at6 ns 2,at6 ns 3,at6 ns 0,dat M p (at6 ns 4),p⟩
def kcs(T M:List Nat)(i:Nat):List Kc:=(wm i).filterMap fun p=>(lkN T M p).map (bD M p)
def AFR(T M:List Nat)(i:Nat):List Nat:=(wm i).filter (EO T M)
def mrk(T M:List Nat)(i:Nat):List Nat:=(wm i).filter fun p=>(lkN T M p).isSome || EO T M p
theorem RT(T M:List Nat)(i:Nat):kcs T M (i+1)=kcs T M i++(match lkN T M i with|some ns=>[bD M i ns]|none=>[]):=by
 unfold kcs;rw[ye,List.filterMap_append];cases h:lkN T M i<;>simp[h]
theorem KJ(T M:List Nat)(i:Nat):AFR T M (i+1)=AFR T M i++(if EO T M i=true then [i]else []):=by
 unfold AFR;rw[ye,yr];cases h:EO T M i<;>simp[h]
theorem NH(T M:List Nat)(i:Nat):mrk T M (i+1)=mrk T M i++(if((lkN T M i).isSome || EO T M i)=true then [i]else []):=by
 unfold mrk;rw[ye,yr];cases h:((lkN T M i).isSome || EO T M i)<;>simp[h]
theorem Dp(i:Nat)(f:Nat->Bool):((wm i).filter f).length<=i:=by
 have:=List.length_filter_le f (wm i)
 rwa [AA0]at this
theorem Hm(a b:List Nat):ints .i64 ((a++b).map wj)=ints .i64 (a.map wj)++ints .i64 (b.map wj):=by unfold ints;rw[wa,wa]
theorem rY:BQ ty3.zero 1=[AI AT 0]:=by kernel_rfl
section
variable {F:AEB}{e:Env}{h g g':Hp}{T M:List Nat}{bs r9 k1 bd bm bc tb n i m c0:Nat}{v mv:IN}{ks:List Kt}{arm:Int}
theorem Eg(W:h.Wf){x:O}{z:Int}(hx:x e=AI AT z):Aj 1 (BQ ty3.zero 1) [(0,1,x)] F e h=.ok (.slice (some ⟨h.next,0,none⟩) 1 1) (h.AEA 0 [AI AT z]):=by
 rw[rY];exact IZ W hx rfl rfl
theorem Hp.KO.nb{k b el:Nat}{L:List IN}(o:h.KO k v ks)(r:h.Row b el L)(he:el≠84):¬ AEe v b:=fun⟨off,nn,c,e1⟩=>by
 rcases o with ⟨h1,h2⟩|⟨b',h1,h2,h3,h4⟩
 ·rw[h1]at e1;cases e1
 ·rw[h1]at e1
  injection e1 with e1 _ _
  injection e1 with e1
  injection e1 with e1 _ _
  rw[e1]at h2;exact Cp r h2 he rfl
theorem Hp.Own.nb{k b el en:Nat}{xs L:List IN}(o:h.Own k en v xs)(r:h.Row b el L)(he:el≠en+1):¬ AEe v b:=fun⟨off,nn,c,e1⟩=>by
 rcases o with ⟨h1,h2⟩|⟨b',h1,h2,h3,h4⟩
 ·rw[h1]at e1;cases e1
 ·rw[h1]at e1
  injection e1 with e1 _ _
  injection e1 with e1
  injection e1 with e1 _ _
  rw[e1]at h2;exact Cp r h2 he rfl
structure O1 (h g:Hp)(T M:List Nat)(bs r9 k1 bd tb i:Nat)(v mv:IN)(ks:List Kt):Prop where
 x:h.Ext g
 row:g.Row bs 0 (slL bd tb AEP AEP (AFR T M i).length false)
 rb:g.Row r9 0 [pt bs]
 ko:g.KO k1 v ks
 cs:ks.map Kt.core=kcs T M i
 ok:∀ k∈ks,AGZ g (fun b=>r9<b) k
 ms:g.Own k1 3 mv (ints .i64 ((mrk T M i).map wj))
 le:k1<=g.next
theorem O1.ext(o:O1 h g T M bs r9 k1 bd tb i v mv ks)(x:g.Ext g'):O1 h g' T M bs r9 k1 bd tb i v mv ks:=
 have W:=o.x.wf
 ⟨o.x.trans x,o.row.ext W x,o.rb.ext W x,o.ko.ext W x,o.cs,fun k hk=>⟨(o.ok k hk).1.ext W x,(o.ok k hk).2⟩,o.ms.ext W x,wd o.le x.next⟩
theorem Wj:qv=BI (AY 1 (Aw Ll)) qu:=rfl
theorem Zw:d16=fu:=rfl
theorem qa(o:O1 h g T M bs r9 k1 bd tb i v mv ks):ks.length<=i:=by
 have h1:=congrArg List.length o.cs;rw[OF]at h1;rw[h1];unfold kcs;have:=List.length_filterMap_le (fun p=>(lkN T M p).map (bD M p)) (wm i)
 rwa [AA0]at this
theorem cd(W:h.Wf)(d:Dk h bd bm bc n M c0 [] arm false)(Rt:h.Row tb 0 (T.map wv))(hT:AE1 T)(o:O1 h g T M bs r9 k1 bd tb i v mv ks)(hbs:h.next<=bs/\bs<r9/\r9<k1)(hi:i<n/3)
  (t8:J 9 e=pt r9)(t10:J 10 e=v)(t11:J 11 e=mv)(t51:J 51 e=AI AT ((n/3:Nat):Int))(t52:J 52 e=AI AT (i:Int)):
  ∃ e' g' v' mv' ks',Ll (call AC (m+6)) e g=.norm e' g'/\O1 h g' T M bs r9 k1 bd tb (i+1) v' mv' ks'/\J 10 e'=v'/\J 11 e'=mv'/\J 52 e'=AI AT ((i+1:Nat):Int)/\∀ j,j=0\/j=1\/j=2\/j=8\/j=9\/j=51->J j e'=J j e:=by
 have hn:=d.n1;have W1:=o.x.wf;have hhk:h.next<=k1:=by omega
 have c1:iLt (i:Int) ((n/3:Nat):Int)=true:=EF hi;have l9:=DB o.rb;obtain⟨h1,x1,LK⟩:=iB (m:=m+1) W1 o.row (Rt.ext W o.x) hT (d.ext W o.x) (p:=i) (by omega);have al:=fun (F:AEB) (e:Env)=>Bx (F:=F) (e:=e) x1.wf (n:=6) (t:=Du)
 have Ra:=Hp.Row.alloc x1.wf HE (show(AU K0).length=6 from rfl);have y2:h1.Ext (h1.push (.cells Du 6 0)):=(Hp.Ext.refl x1.wf).push _;have n2:(h1.push (.cells Du 6 0)).next=h1.next+1:=rfl;generalize h1.push (.cells Du 6 0)=h2 at al Ra y2 n2;have c0':iNe 0 0=false:=CY rfl;have hx1:=x1.next;rcases LK with ⟨ns,u,hH,hk,hu⟩|⟨hH,bad,hk,AGS⟩
 ·
  have hN:=Rk hH;have AHg:=SZ hH.1;have hB:EO T M i=false:=by
   cases hb:EO T M i
   ·rfl
   ·exact absurd ⟨ns,hH⟩ (Hs.1 hb).1
  have u1:=hu.vs.one;obtain⟨st,_,y3,R3,n3⟩:=Nf x1.wf y2 (IT _) Ra rfl (k:=⟨at6 ns 1,at6 ns 2,at6 ns 3,at6 ns 0,dat M i (at6 ns 4),i,u⟩) u1.2.1;generalize hX:(⟨at6 ns 1,at6 ns 2,at6 ns 3,at6 ns 0,dat M i (at6 ns 4),i,u⟩:Kt)=X at hk st y3 R3 n3;generalize h2.wr h1.next 0 (AU X)=h3 at st y3 R3 n3;have o3:=o.ext (x1.trans y3);have hXu:X.u=u:=by rw[<- hX]
  obtain⟨_,_,_,_,_,_,ld,_⟩:=Bt R3;have sl:=fun (F:AEB) (e:Env) (he:J 70 e=ktV X)=>NA (F:=F) o3.x.wf he
  obtain⟨h5,v5,k5,x5,q5,n5,f5⟩:=US o3.x hhk o3.le o3.ko (x:=X) (by rw[hXu];exact u1.2.1) (by have:=qa o;omega);have f5':∀ b el L,el≠84->h3.Row b el L->h5.Row b el L:=fun b el L he r=>f5 b el L (o3.ko.nb r he) r
  have hlen:(dat M i (at6 ns 4)).length=at6 ns 4:=JT d.len (by have:=hH.2.1;omega);have okX:AGZ h5 (fun b=>r9<b) X:=by
   rw[<- hX];refine⟨((hu.ext x1.wf y3).mono fun b hb=>by have hb:g.next<=b:=hb;have:=o.le;omega).keep fun b el L hb he r=>f5' b el L (by omega) r,aD d.byt _ _,by rw[hlen];exact hH.2.1,?_,?_,by show i<65536;omega⟩
   ·obtain⟨_,_,_,h4⟩:=AHg
    unfold AEN at h4;have:=of_decide_eq_true h4;exact this.2.2.2.2.2.2.1
   ·obtain⟨_,_,_,h4⟩:=AHg
    unfold AEN at h4 ⊢;have:=of_decide_eq_true h4;refine decide_eq_true ⟨this.1,this.2.1,this.2.2.1,this.2.2.2.1,this.2.2.2.2.1,this.2.2.2.2.2.1,this.2.2.2.2.2.2.1,?_⟩;show(dat M i (at6 ns 4)).length<=65536;rw[hlen];have:=hH.2.1;omega
  have o5:O1 h h5 T M bs r9 k1 bd tb i v5 mv (ks++[X])->True:=fun _=>trivial
  have mk5:h5.Own k1 3 mv (ints .i64 ((mrk T M i).map wj)):=by
   rcases o3.ms with h1'|⟨b,h1',h2',h3',h4'⟩
   ·exact .inl h1'
   ·exact .inr ⟨b,h1',f5' b _ _ (by omega) h2',h3',h4'⟩
  obtain⟨h6,mv6,k6,x6,m6,n6,f6⟩:∃ g' mv',DQ 1 8 3 mv (.slice (some ⟨h5.next,0,none⟩) 1 1) (h5.AEA 0 [AI AT (i:Int)])=.ok mv' g'/\h.Ext g'/\g'.Own k1 3 mv' (ints .i64 ((mrk T M i++[i]).map wj))/\h5.next<=g'.next/\(∀ b el L,el≠4->h5.Row b el L->g'.Row b el L):=by
   obtain⟨g',mv',a1,a2,a3,a4,a5⟩:=Jv (eb:=8) (en:=3) (kd:=.i64) (n:=(i:Int)) x5 hhk (by have:=o3.le;omega) mk5 (by
    have:=Dp i (fun p=>(lkN T M p).isSome || EO T M p);have:(mrk T M i).length<=i:=this;have:(ints .i64 ((mrk T M i).map wj)).length<=i:=by unfold ints;rw[OF,OF];exact this
    omega)
   exact⟨g',mv',a1,a2,by rw[Hm];exact a3,by omega,fun b el L he r=>(a5 b el L (mk5.nb r he) r).1⟩
  have f56:∀ b el L,el≠84->el≠4->h3.Row b el L->h6.Row b el L:=fun b el L h1 h2 r=>f6 b el L h2 (f5' b el L h1 r)
  have is:=fun (F:AEB) (e:Env) (he:J 12 e=AI AT (i:Int))=>Eg (F:=F) x5.wf he
  have a3:=CF (i:=i) (h:=h6) (by omega);have hrun:∃ e2,Ll (call AC (m+6)) e g=.norm e2 h6/\J 10 e2=v5/\J 11 e2=mv6/\J 52 e2=AI AT ((i+1:Nat):Int)/\∀ j,j=0\/j=1\/j=2\/j=8\/j=9\/j=51->J j e2=J j e:=by
   unfold Ll;simp only[sT,By,BY,reduceIte,gD,AJ,AH,t52,t51,c1,AK,AO,t8,l9,cA0,hk,BK,BW,BZ,C3,Gr,al,Ab,st,c0',Aq,As,ld,sl,BF,t10,k5,is,t11,k6,BG,a3];refine⟨_,rfl,by simp[AD],by simp[AD],by simp[AD],fun j hj=>?_⟩;rcases hj with rfl|rfl|rfl|rfl|rfl|rfl<;>simp only[AD,By,BY,reduceIte]
  obtain⟨e2,r1,r2,r3,r4,r5⟩:=hrun;refine⟨e2,h6,v5,mv6,ks++[X],r1,⟨x6,?_,f56 _ _ _ (by omega) (by omega) o3.rb,q5.keep fun b el L hb r=>?_,?_,fun k hk=>?_,?_,by have:=o3.le;omega⟩,r2,r3,r4,r5⟩
  ·rw[KJ,hB,if_neg (by decide),wF]
   exact f56 _ _ _ (by omega) (by omega) o3.row
  ·obtain⟨off,nn,c,e1⟩:=hb
   rcases q5 with ⟨e2,_⟩|⟨b',e2,r',_⟩
   ·rw[e2]at e1;cases e1
   ·rw[e2]at e1
    injection e1 with e1 _ _
    injection e1 with e1
    injection e1 with e1 _ _
    rw[<- e1]at r ⊢;refine f6 _ _ _ ?_ r;intro h4;rw[h4]at r;exact Cp r r' (by omega) rfl
  ·rw[wa,o.cs,RT,hN,<- hX];rfl
  ·rcases wK.1 hk with hk|hk
   ·exact⟨((o3.ok k hk).1.keep fun b el L hb he r=>f56 b el L (by omega) (by omega) r),(o3.ok k hk).2⟩
   ·rw[v7.1 hk]
    exact⟨okX.1.keep fun b el L hb he r=>f6 b el L (by omega) r,okX.2⟩
  ·rw[NH,hN,if_pos (by rfl)];exact m6
 ·
  have hN:=Rj hH;obtain⟨st,_,y3,R3,n3⟩:=Nf x1.wf y2 (IT _) Ra rfl (k:=K0) rfl;generalize h2.wr h1.next 0 (AU K0)=h3 at st y3 R3 n3;have o3:=o.ext (x1.trans y3);have hcs:ks.map Kt.core=kcs T M (i+1):=by rw[RT,hN,wF];exact o.cs
  cases hbd:bad with
  |false=>
   rw[hbd]at hk AGS;have hB:EO T M i=false:=by
    cases hb:EO T M i
    ·rfl
    ·have:=AGS.2 (Hs.1 hb).2;cases this
   have a3:=CF (i:=i) (h:=h3) (by omega);have hrun:∃ e2,Ll (call AC (m+6)) e g=.norm e2 h3/\J 10 e2=v/\J 11 e2=mv/\J 52 e2=AI AT ((i+1:Nat):Int)/\∀ j,j=0\/j=1\/j=2\/j=8\/j=9\/j=51->J j e2=J j e:=by
    unfold Ll;simp only[sT,By,BY,reduceIte,gD,AJ,AH,t52,t51,c1,AK,AO,t8,l9,cA0,hk,BK,BW,BZ,C3,Gr,al,Ab,st,c0',BG,a3];refine⟨_,rfl,by simp[AD,t10],by simp[AD,t11],by simp[AD],fun j hj=>?_⟩;rcases hj with rfl|rfl|rfl|rfl|rfl|rfl<;>simp only[AD,By,BY,reduceIte]
   obtain⟨e2,r1,r2,r3,r4,r5⟩:=hrun;refine⟨e2,h3,v,mv,ks,r1,⟨o3.x,?_,o3.rb,o3.ko,hcs,o3.ok,?_,o3.le⟩,r2,r3,r4,r5⟩
   ·rw[KJ,hB,if_neg (by decide),wF];exact o3.row
   ·rw[NH,hN,hB,if_neg (by decide),wF];exact o3.ms
  |true=>
   rw[hbd]at hk AGS;have hB:EO T M i=true:=Hs.2 ⟨hH,AGS.1 rfl⟩;have AEO:256<=bs:=by have:=W.big;omega
   obtain⟨_,_,_,_,_,l5,_⟩:=A7 o3.row;have hbl:(AFR T M i).length<=i:=Dp i _;have ad:Fs .i64 (AI AT ((AFR T M i).length:Int)) (AI AT 1) h3=.ok (AI AT (((AFR T M i).length+1:Nat):Int)) h3:=CF (by omega);have st5:AER 1 (.pointer (some ⟨bs,5,none⟩)) (AI AT (((AFR T M i).length+1:Nat):Int)) h3=.ok AEE (h3.wr bs 5 [AI AT (((AFR T M i).length+1:Nat):Int)]):=o3.row.AER (n:=1) (off:=5) o3.x.wf AEO (v:=AI AT (((AFR T M i).length+1:Nat):Int)) rfl (by show 5+1<=7;omega) rfl;have ho5:5+[xY .i64 (((AFR T M i).length+1:Nat):Int)].length<=(slL bd tb AEP AEP (AFR T M i).length false).length:=by show 5+1<=7;omega
   have R5:=o3.row.AET o3.x.wf ho5;have x5:=o3.row.AEi o3.x hbs.1 ho5;have n5:=o3.row.AEt ho5;have f5:∀ b el L,b≠bs->h3.Row b el L->(h3.wr bs 5 [AI AT (((AFR T M i).length+1:Nat):Int)]).Row b el L:=fun b el L hb r=>o3.row.AFM o3.x.wf ho5 r hb
   have hov:over (slL bd tb AEP AEP (AFR T M i).length false) 5 [AI AT (((AFR T M i).length+1:Nat):Int)]=slL bd tb AEP AEP ((AFR T M i).length+1) false:=rfl;rw[hov]at R5;generalize h3.wr bs 5 [AI AT (((AFR T M i).length+1:Nat):Int)]=h5 at st5 R5 x5 n5 f5;have mk5:h5.Own k1 3 mv (ints .i64 ((mrk T M i).map wj)):=by
    rcases o3.ms with h1'|⟨b,h1',h2',h3',h4'⟩
    ·exact .inl h1'
    ·exact .inr ⟨b,h1',f5 b _ _ (by omega) h2',h3',h4'⟩
   obtain⟨h6,mv6,k6,x6,m6,n6,f6⟩:∃ g' mv',DQ 1 8 3 mv (.slice (some ⟨h5.next,0,none⟩) 1 1) (h5.AEA 0 [AI AT (i:Int)])=.ok mv' g'/\h.Ext g'/\g'.Own k1 3 mv' (ints .i64 ((mrk T M i++[i]).map wj))/\h5.next<=g'.next/\(∀ b el L,el≠4->h5.Row b el L->g'.Row b el L):=by
    obtain⟨g',mv',a1,a2,a3,a4,a5⟩:=Jv (eb:=8) (en:=3) (kd:=.i64) (n:=(i:Int)) x5 hhk (by have:=o3.le;omega) mk5 (by
     have:=Dp i (fun p=>(lkN T M p).isSome || EO T M p);have:(mrk T M i).length<=i:=this;have:(ints .i64 ((mrk T M i).map wj)).length<=i:=by unfold ints;rw[OF,OF];exact this
     omega)
    exact⟨g',mv',a1,a2,by rw[Hm];exact a3,by omega,fun b el L he r=>(a5 b el L (mk5.nb r he) r).1⟩
   have f56:∀ b el L,b≠bs->el≠4->h3.Row b el L->h6.Row b el L:=fun b el L h1 h2 r=>f6 b el L h2 (f5 b el L h1 r)
   have is:=fun (F:AEB) (e:Env) (he:J 12 e=AI AT (i:Int))=>Eg (F:=F) x5.wf he
   have a3:=CF (i:=i) (h:=h6) (by omega);have l9':=DB o3.rb;have hrun:∃ e2,Ll (call AC (m+6)) e g=.norm e2 h6/\J 10 e2=v/\J 11 e2=mv6/\J 52 e2=AI AT ((i+1:Nat):Int)/\∀ j,j=0\/j=1\/j=2\/j=8\/j=9\/j=51->J j e2=J j e:=by
    unfold Ll;simp only[sT,By,BY,reduceIte,gD,AJ,AH,t52,t51,c1,AK,AO,t8,l9,l9',cA0,hk,BK,BW,BZ,C3,Gr,al,Ab,st,c0',Ao,Ad,AG,AM,vk,l5,BG,ad,st5,is,BF,t11,k6,a3];refine⟨_,rfl,by simp[AD,t10],by simp[AD],by simp[AD],fun j hj=>?_⟩;rcases hj with rfl|rfl|rfl|rfl|rfl|rfl<;>simp only[AD,By,BY,reduceIte]
   obtain⟨e2,r1,r2,r3,r4,r5⟩:=hrun;refine⟨e2,h6,v,mv6,ks,r1,⟨x6,?_,f56 _ _ _ (by omega) (by omega) o3.rb,?_,hcs,fun k hk=>⟨((o3.ok k hk).1.keep fun b el L hb he r=>f56 b el L (by have hb:r9<b:=hb;omega) (by omega) r),(o3.ok k hk).2⟩,?_,by have:=o3.le;omega⟩,r2,r3,r4,r5⟩
   ·rw[KJ,hB,if_pos rfl,No]
    exact f6 _ _ _ (by omega) R5
   ·rcases o3.ko with h1'|⟨b,h1',h2',h3',h4'⟩
    ·exact .inl h1'
    ·exact .inr ⟨b,h1',f56 b _ _ (by omega) (by omega) h2',h3',h4'⟩
   ·rw[NH,hN,hB,if_pos (show((none:Option (List Nat)).isSome || true)=true from rfl)];exact m6
end
end
noncomputable section
open Go
set_option maxRecDepth 100000
section
variable {F:AEB}{e:Env}{h g g' h0:Hp}{bs r9 k1 bd tb n i m bad k:Nat}{v mv lv fv:IN}{ks:List Kt}{S:Nat->Prop}{ov:Bool}
theorem UG(W:g.Wf){L:List IN}(R:g.Row bs 0 L){off:Nat}(ho:off<L.length)(AEO:256<=bs)(h1:cellsOf v=[v])(h2:oneCell v=true):
  ∃ g',(∀ (F:AEB) (e:Env) (x y:O),x e=.pointer (some ⟨bs,off,none⟩)->y e=v->Al .free (Av 1 x y) F e g=.ok AEE g')/\g'.Row bs 0 (over L off [v])/\g'.next=g.next/\g'.mark=g.mark/\Fx (fun b=>b=bs) g g'/\∀ h0:Hp,h0.Ext g->h0.next<=bs->h0.Ext g':=by
 have Rq:g.quiet.Row bs 0 L:=R.same rfl;have hoo:off+[v].length<=L.length:=ho;have ha:Bc [v]=true:=by
  show(bif oneCell v then true else false)=true;rw[h2];rfl
 have st:=Rq.AER (n:=1) (off:=off) (v:=v) W.quiet AEO (by rw[h1];rfl) (by rw[h1];exact hoo) (by rw[h1];exact ha);rw[h1]at st;have wr:=Rq.AET W.quiet hoo;have fx:=Fx.wr (S:=fun b=>b=bs) W.quiet Rq hoo rfl;have wx:=fun (h0:Hp) (x:h0.Ext g.quiet) (hb:h0.next<=bs)=>Rq.AEi x hb hoo
 have wn:=Rq.AEt hoo;generalize g.quiet.wr bs off [v]=q at st wr fx wx wn;refine⟨g.back q,fun F e x y hx hy=>BO (by rw[Ab,hx,hy];exact st),wr.same rfl,wn,rfl,(fx.from (h:=g) rfl rfl).same rfl rfl,fun h0 x hb=>x.AFK (wx h0 x.quiet hb)⟩
theorem D0(W:g.Wf){L:List IN}(R:g.Row bs 0 L){off:Nat}(ho:off<L.length)(AEO:256<=bs)(h1:cellsOf v=[v])(h2:oneCell v=true):
  ∃ g',AER 1 (.pointer (some ⟨bs,off,none⟩)) v g=.ok AEE g'/\g'.Row bs 0 (over L off [v])/\g'.next=g.next/\Fx (fun b=>b=bs) g g'/\∀ h0:Hp,h0.Ext g->h0.next<=bs->h0.Ext g':=by
 have hoo:off+[v].length<=L.length:=ho;have ha:Bc [v]=true:=by
  show(bif oneCell v then true else false)=true;rw[h2];rfl
 have st:=R.AER (n:=1) (off:=off) (v:=v) W AEO (by rw[h1];rfl) (by rw[h1];exact hoo) (by rw[h1];exact ha);rw[h1]at st;exact⟨_,st,R.AET W hoo,R.AEt hoo,Fx.wr (S:=fun b=>b=bs) W R hoo rfl,fun h0 x hb=>R.AEi x hb hoo⟩
theorem jQ(x0:h0.Ext h)(hk:h0.next<=k)(hk2:k<=h.next){xs:List IN}(o:h.Own k 3 v xs){bw:Nat}{z:Int}(Rw:h.Row bw 0 [AI AT z])(hl:xs.length<=1000000):
  ∃ h' v',(∀ (F:AEB) (e:Env) (x y:O),x e=v->y e=.slice (some ⟨bw,0,none⟩) 1 1->Nx x (Bk 1 8 3 x y) F e h=.ok v' h')/\h0.Ext h'/\h'.Own k 3 v' (xs++[AI AT z])/\h.next<h'.next/\h'.mark=h.mark/\(∀ b el L,¬ AEe v b->h.Row b el L->h'.Row b el L)/\(∀ b,AEe v' b->b=h.next):=by
 have W:=x0.wf;have cl:h.quiet.Cl (AEe v) 3 v xs:=by
  rcases o with ⟨h1,h2⟩|⟨b,h1,h2,h3,h4⟩
  ·exact .inl ⟨h1,h2⟩
  ·exact .inr ⟨b,4,h1,h2.same rfl,.inl rfl,⟨0,_,_,h1⟩,h4⟩
 have kb:∀ b,AEe v b->h0.next<=b:=fun b hb=>by
  obtain⟨off,n,c,e1⟩:=hb;rcases o with ⟨h1,h2⟩|⟨b',h1,h2,h3,h4⟩
  ·rw[h1]at e1;cases e1
  ·rw[h1]at e1
   injection e1 with e1 _ _
   injection e1 with e1
   injection e1 with e1 _ _
   omega
 obtain⟨h5,b5,a1,a2,a3,a4,a5,a6,a7,a8,a9⟩:=Zf (eb:=8) (en:=3) x0.quiet cl kb (Rw.same (h':=h.quiet) rfl) rfl hl (by omega);have a4:b5=h.next:=a4;have a5:h5.next=h.next+1:=a5;have AEO:=W.big;refine⟨h.back h5,.slice (some ⟨b5,0,none⟩) (xs.length+1) (xs.length+1),fun F e x y hx hy=>VP hx hy a1 (a9 rfl rfl h rfl),x0.AFK a2,.inr ⟨b5,by rw[No];rfl,a3.same rfl,by omega,by omega⟩,by show h.next<h5.next;omega,rfl,fun b el L hb r=>(a7 b el L hb (r.same rfl)).same rfl,fun b ⟨off,nn,c,e1⟩=>?_⟩;injection e1 with e1 _ _
 injection e1 with e1
 injection e1 with e1 _ _
 omega
theorem pX(W:h.Wf){rp:Nat}{p:Nat}(Rp:h.Row rp 0 [AI AT (p:Int)])(x:Kt):∃ h',call AC (m+1) 62 [ktV x,pt rp] h=.ok (.bool (decide (x.p=p))) h'/\h.Ext h':=by
 have bx:=fun (F:AEB) (e:Env) (he:J 0 e=ktV x)=>Hr (F:=F) W he
 have x1:=(Hp.Ext.refl W).AEA 0 (AU x);have R:=Hp.Row.new W 0 (AU x);generalize h.AEA 0 (AU x)=h1 at bx x1 R;obtain⟨_,_,_,_,_,l5,_⟩:=Bt R;have lp:=DB (Rp.ext W x1);have c1:iEq (x.p:Int) (p:Int)=decide (x.p=p):=by
  by_cases h3:x.p=p
  ·rw[decide_eq_true h3];exact Ci (by omega)
  ·rw[decide_eq_false h3];exact Bj (by omega)
 refine⟨h1,?_,x1⟩;rw[oJ rfl];unfold d62;simp only[iN,IS,sT,By,BY,reduceIte,bx,AG,AM,vk,AK,AO,l5,lp,AJ,AH,c1,lV0]
theorem Xj(W:h.Wf)(R:h.Row bs 0 (slL bd tb lv fv bad ov))(Rb:h.Row r9 0 [pt bs])(K:h.KS S lv ks)(hl:ks.length<=100000){p:Nat}:
  ∃ h',call AC (m+4) 60 [AI AT (p:Int),pt r9] h=.ok (.bool (ks.any fun x=>decide (x.p=p))) h'/\h.Ext h':=by
 have b1:=fun (F:AEB) (e:Env) (he:J 0 e=AI AT (p:Int))=>IO (F:=F) W he
 have x1:=(Hp.Ext.refl W).AEA 0 [AI AT (p:Int)];have R1:=Hp.Row.new W 0 [AI AT (p:Int)];generalize h.AEA 0 [AI AT (p:Int)]=h1 at b1 x1 R1;have lb:=DB (Rb.ext W x1);obtain⟨_,_,_,l3,_⟩:=A7 (R.ext W x1);obtain⟨h2,k2,x2⟩:=Pr (m:=m+1) (g:=62) (caps:=[pt h.next]) (P:=fun x=>decide (x.p=p)) x1.wf (K.ext W x1) hl fun g xg y hy=>pX (m:=m) xg.wf (R1.ext x1.wf xg) y
 refine⟨h2,?_,x1.trans x2⟩;rw[oH rfl];unfold d60;simp only[iN,IS,sT,By,BY,reduceIte,b1,AK,AO,lb,Ao,Ad,AG,AM,vk,l3,Df,AV,A1,Ba,k2,lV0]
theorem Wk:qx=BI (AY 4 (Aw Lm)) jK:=rfl
theorem We:qu=Wi:=rfl
def AFS(ks:List Kt)(i:Nat):List Nat:=(wm i).filter fun p=> !(ks.any fun x=>decide (x.p=p))
def AFW(ks:List Kt)(mk:List Nat)(i:Nat):List Nat:=(wm i).filter fun p=> !(ks.any fun x=>decide (x.p=p)) && decide (p∈mk)
theorem I4(ks:List Kt)(i:Nat):AFS ks (i+1)=AFS ks i++(if(ks.any fun x=>decide (x.p=i))=true then []else [i]):=by
 unfold AFS;rw[ye,yr];cases h:(ks.any fun x=>decide (x.p=i))<;>simp[h]
theorem LA(ks:List Kt)(mk:List Nat)(i:Nat):AFW ks mk (i+1)=AFW ks mk i++(if(ks.any fun x=>decide (x.p=i))=true then []else if i∈mk then [i]else []):=by
 unfold AFW;rw[ye,yr];cases h:(ks.any fun x=>decide (x.p=i))<;>by_cases h2:i∈mk<;>simp[h,h2]
structure O2 (h g:Hp)(mk:List Nat)(bs r9 k1 bd tb i bad:Nat)(w mv fv ou:IN)(ks:List Kt):Prop where
 x:h.Ext g
 row:g.Row bs 0 (slL bd tb w fv bad false)
 rb:g.Row r9 0 [pt bs]
 ko:g.KO k1 w ks
 ok:∀ k∈ks,AGZ g (fun b=>r9<b) k
 fs:g.Own k1 3 fv (ints .i64 ((AFS ks i).map wj))
 os:g.Own k1 3 ou (ints .i64 ((AFW ks mk i).map wj))
 ms:g.Own k1 3 mv (ints .i64 (mk.map wj))
 ap:∀ b,(AEe fv b->¬ AEe ou b/\¬ AEe mv b)/\(AEe ou b->¬ AEe mv b)
 le:k1<=g.next
theorem O2.ext{mk:List Nat}{w ou:IN}(o:O2 h g mk bs r9 k1 bd tb i bad w mv fv ou ks)(x:g.Ext g'):O2 h g' mk bs r9 k1 bd tb i bad w mv fv ou ks:=
 have W:=o.x.wf
 ⟨o.x.trans x,o.row.ext W x,o.rb.ext W x,o.ko.ext W x,fun k hk=>⟨(o.ok k hk).1.ext W x,(o.ok k hk).2⟩,o.fs.ext W x,o.os.ext W x,o.ms.ext W x,o.ap,wd o.le x.next⟩
theorem Hp.Own.lt'{en:Nat}{xs:List IN}(o:h.Own k en v xs)(W:h.Wf){b:Nat}(hb:AEe v b):b<h.next:=by
 obtain⟨off,n,c,e1⟩:=hb;rcases o with ⟨h1,h2⟩|⟨b',h1,h2,h3,h4⟩
 ·rw[h1]at e1;cases e1
 ·have:=h2.lt W
  rw[h1]at e1;injection e1 with e1 _ _
  injection e1 with e1
  injection e1 with e1 _ _
  omega
theorem Hp.Own.rw_{en:Nat}{xs:List IN}(o:h.Own k en v xs){b:Nat}(hb:AEe v b):h.Row b (en+1) xs:=by
 obtain⟨off,n,c,e1⟩:=hb;rcases o with ⟨h1,h2⟩|⟨b',h1,h2,h3,h4⟩
 ·rw[h1]at e1;cases e1
 ·rw[h1]at e1
  injection e1 with e1 _ _
  injection e1 with e1
  injection e1 with e1 _ _
  rw[<- e1];exact h2
theorem ce{mk:List Nat}{w ou:IN}(W:h.Wf)(o:O2 h g mk bs r9 k1 bd tb i bad w mv fv ou ks)(hbs:h.next<=bs/\bs<r9/\r9<k1){nn:Nat}(hi:i<nn)(hnn:nn<=30000)(hks:ks.length<=30000)(hmk:mk.length<=30000)
  (t9:J 9 e=pt r9)(t11:J 11 e=mv)(t17:J 17 e=.func (.func 60) ⟨[]⟩ ⟨[pt r9]⟩)(t18:J 18 e=ou)(TJ:J 102 e=AI AT (nn:Int))(QQ:J 103 e=AI AT (i:Int)):
  ∃ e' g' fv' ou',Lm (call AC (m+6)) e g=.norm e' g'/\O2 h g' mk bs r9 k1 bd tb (i+1) bad w mv fv' ou' ks/\J 18 e'=ou'/\J 103 e'=AI AT ((i+1:Nat):Int)/\∀ j,j=0\/j=1\/j=2\/j=9\/j=11\/j=17\/j=102->J j e'=J j e:=by
 have W1:=o.x.wf;have hhk:h.next<=k1:=by omega
 have AEO:256<=bs:=by have:=W.big;omega
 have c1:iLt (i:Int) (nn:Int)=true:=EF hi;obtain⟨h1,k1c,x1⟩:=Xj (m:=m+2) W1 o.row o.rb o.ko.lst (by omega) (p:=i);have o1:=o.ext x1;cases hc:(ks.any fun x=>decide (x.p=i))with
 |true=>
  rw[hc]at k1c;have a3:=CF (i:=i) (h:=h1) (by omega);have hrun:∃ e2,Lm (call AC (m+6)) e g=.norm e2 h1/\J 18 e2=ou/\J 103 e2=AI AT ((i+1:Nat):Int)/\∀ j,j=0\/j=1\/j=2\/j=9\/j=11\/j=17\/j=102->J j e2=J j e:=by
   unfold Lm;simp only[sT,By,BY,reduceIte,AJ,AH,QQ,TJ,c1,Ca,t17,CI,AV,A1,xE,zJ,k1c,Bi,Bh,xJ,BG,a3];refine⟨_,rfl,by simp[AD,t18],by simp[AD],fun j hj=>?_⟩;rcases hj with rfl|rfl|rfl|rfl|rfl|rfl|rfl<;>simp only[AD,By,BY,reduceIte]
  obtain⟨e2,r1,r2,r3,r4⟩:=hrun;refine⟨e2,h1,fv,ou,r1,⟨o1.x,o1.row,o1.rb,o1.ko,o1.ok,?_,?_,o1.ms,o1.ap,o1.le⟩,r2,r3,r4⟩
  ·rw[I4,hc,if_pos rfl,wF];exact o1.fs
  ·rw[LA,hc,if_pos rfl,wF];exact o1.os
 |false=>
  rw[hc]at k1c;have xm:=o1.x.marked;have om:=o1.ext (Hp.Ext.refl o1.x.wf).marked;have lb:=DB om.rb;obtain⟨_,_,_,_,l4,_⟩:=A7 om.row;have qs:∀ (F:AEB) (e:Env),J 19 e=AI AT (i:Int)->Al .AEV (Aj 1 (BQ ty3.zero 1) [(0,1,J 19)]) F e h1.marked=.ok (.slice (some ⟨h1.next,0,none⟩) 1 1) (h1.marked.back (h1.marked.quiet.AEA 0 [AI AT (i:Int)])):=fun F e he=>DP (Eg xm.wf.quiet he) ((Hp.Ext.refl xm.wf.quiet).AEA _ _) (IT _)
  have y2:h1.marked.Ext (h1.marked.back (h1.marked.quiet.AEA 0 [AI AT (i:Int)])):=.back ((Hp.Ext.refl xm.wf.quiet).AEA _ _);have Rw:(h1.marked.back (h1.marked.quiet.AEA 0 [AI AT (i:Int)])).Row h1.next 0 [AI AT (i:Int)]:=(Hp.Row.new xm.wf.quiet 0 [AI AT (i:Int)]).same rfl;generalize h1.marked.back (h1.marked.quiet.AEA 0 [AI AT (i:Int)])=h2 at qs y2 Rw;have o2:=om.ext y2;have ck:∀ (K:C) (F:AEB) (e:Env),J 114 e=fv->J 9 e=pt r9->DI (J 114) [J 9] K F e h2=K F e h2:=fun K F e a1 a2=>by
   rcases o2.fs with ⟨h1',_⟩|⟨b',h1',h2',h3',_⟩
   ·exact fQ (b:=0) a1 (.inl h1') a2 (.inl h1')
   ·exact fQ (b:=b') a1 (.inr ⟨_,_,_,h1'⟩) a2 (.inr (by omega))
  have hfl:(AFS ks i).length<=i:=Dp i _;have hol:(AFW ks mk i).length<=i:=Dp i _;obtain⟨h3,fv3,k3,x3,fs3,n3,_,kp3,nb3⟩:=jQ o2.x hhk o2.le o2.fs Rw (by unfold ints;rw[OF,OF];omega);have AKu:fv3=fv3:=rfl;have AHO:=kp3 _ _ _ (o2.fs.nb o2.row (by omega)) o2.row;have cZ:cellsOf fv3=[fv3]/\oneCell fv3=true:=by
   rcases fs3 with ⟨h1,_⟩|⟨b,h1,_⟩<;>rw[h1]<;>exact⟨rfl,rfl⟩
  obtain⟨h4,k4,AHP,n4,_,fx4,e4⟩:=UG x3.wf AHO (off:=4) (show 4<7 by omega) AEO cZ.1 cZ.2;have x4:=e4 h x3 hbs.1;have kp4:∀ b el L,b≠bs->h3.Row b el L->h4.Row b el L:=fun b el L hb r=>fx4.row x3.wf r hb
  have AHh:∀ b el L,b≠bs->¬ AEe fv b->h2.Row b el L->h4.Row b el L:=fun b el L h1 h2 r=>kp4 b el L h1 (kp3 b el L h2 r)
  have AHP:h4.Row bs 0 (slL bd tb w fv3 bad false):=AHP;have ow:∀ {u:IN} {xs:List IN},h2.Own k1 3 u xs->(∀ b,AEe u b->¬ AEe fv b)->h4.Own k1 3 u xs:=fun o hd=>by
   rcases o with h1'|⟨b,h1',h2',h3',h4'⟩
   ·exact .inl h1'
   ·exact .inr ⟨b,h1',AHh b _ _ (by omega) (hd b ⟨0,_,_,h1'⟩) h2',h3',h4'⟩
  have fs4:h4.Own k1 3 fv3 (ints .i64 ((AFS ks i).map wj)++[AI AT (i:Int)]):=by
   rcases fs3 with h1'|⟨b,h1',h2',h3',h4'⟩
   ·exact .inl h1'
   ·exact .inr ⟨b,h1',kp4 b _ _ (by omega) h2',h3',h4'⟩
  have os4:=ow o2.os fun b hb hf=>((o2.ap b).1 hf).1 hb
  have ms4:=ow o2.ms fun b hb hf=>((o2.ap b).1 hf).2 hb
  have ko4:h4.KO k1 w ks:=by
   rcases o2.ko with h1'|⟨b,h1',h2',h3',h4'⟩
   ·exact .inl h1'
   ·exact .inr ⟨b,h1',AHh b _ _ (by omega) (o2.fs.nb h2' (by omega)) h2',h3',h4'⟩
  have rb4:=AHh _ _ _ (by omega) (o2.fs.nb o2.rb (by omega)) o2.rb;have ok4:∀ k∈ks,AGZ h4 (fun b=>r9<b) k:=fun k hk=>⟨(o2.ok k hk).1.keep fun b el L hb he r=>AHh b el L (by have hb:r9<b:=hb;omega) (o2.fs.nb r (by omega)) r,(o2.ok k hk).2⟩
  have ap4:∀ b,(AEe fv3 b->¬ AEe ou b/\¬ AEe mv b)/\(AEe ou b->¬ AEe mv b):=fun b=>⟨fun hb=>by
   have e1:=nb3 b hb;exact⟨fun h=>by have:=o2.os.lt' o2.x.wf h;omega,fun h=>by have:=o2.ms.lt' o2.x.wf h;omega⟩,(o2.ap b).2⟩
  have k5:=Qs (n:=m+4) (x:=(i:Int)) ms4.vals (by rw[OF];omega);have hmem:decide ((i:Int)∈mk.map wj)=decide (i∈mk):=by
   rw[decide_eq_decide,List.mem_map];constructor
   ·rintro⟨a,ha,he⟩
    have:a=i:=wj.inj he;rw[<- this];exact ha
   ·exact fun h=>⟨i,h,rfl⟩
  rw[hmem]at k5;have k5:call AC (m+6) 63 [mv,AI AT (i:Int)] h4=.ok (.bool (decide (i∈mk))) h4:=k5;by_cases him:i∈mk
  ·rw[decide_eq_true him]at k5
   have is:=fun (F:AEB) (e:Env) (he:J 19 e=AI AT (i:Int))=>Eg (F:=F) x4.wf he
   obtain⟨h6,ou6,k6,x6,os6,n6,f6⟩:=Jv (eb:=8) (en:=3) (kd:=.i64) (n:=(i:Int)) x4 hhk (by have:=o2.le;omega) os4 (by unfold ints;rw[OF,OF];omega);have a3:=CF (i:=i) (h:=h6) (by omega);have hrun:∃ e2,Lm (call AC (m+6)) e g=.norm e2 h6/\J 18 e2=ou6/\J 103 e2=AI AT ((i+1:Nat):Int)/\∀ j,j=0\/j=1\/j=2\/j=9\/j=11\/j=17\/j=102->J j e2=J j e:=by
    unfold Lm;simp only[sT,By,BY,reduceIte,AJ,AH,QQ,TJ,c1,Ca,t17,CI,AV,A1,xE,zJ,k1c,Bi,Bh,yA,A3,AK,AO,t9,lb,Ao,Ad,AG,AM,vk,l4,qs];rw[ck _ _ _ (by simp[AD]) (by simp[AD,t9])];simp only[sT,By,BY,reduceIte];rw[k3 _ _ _ _ (by simp[AD]) (by simp[AD])];simp only[sT,By,BY,reduceIte,Ao,Ad,AG,AM,vk];rw[k4 _ _ _ _ (by simp[AD]) (by simp[AD])];simp only[sT,By,BY,reduceIte,cA0,t11,k5,is,BF,t18,k6,QQ,BG,a3];refine⟨_,rfl,by simp[AD],by simp[AD],fun j hj=>?_⟩;rcases hj with rfl|rfl|rfl|rfl|rfl|rfl|rfl<;>simp only[AD,By,BY,reduceIte]
   obtain⟨e2,r1,r2,r3,r4⟩:=hrun;have kp6:∀ b el L,¬ AEe ou b->h4.Row b el L->h6.Row b el L:=fun b el L hb r=>(f6 b el L hb r).1
   refine⟨e2,h6,fv3,ou6,r1,⟨x6,kp6 _ _ _ (os4.nb AHP (by omega)) AHP,kp6 _ _ _ (os4.nb rb4 (by omega)) rb4,?_,fun k hk=>⟨(ok4 k hk).1.keep fun b el L hb he r=>kp6 b el L (os4.nb r (by omega)) r,(ok4 k hk).2⟩,?_,?_,?_,fun b=>⟨fun hb=>⟨fun h=>?_,((ap4 b).1 hb).2⟩,fun hb hm=>?_⟩,by have:=o2.le;omega⟩,r2,r3,r4⟩
   ·rcases ko4 with h1'|⟨b,h1',h2',h3',h4'⟩
    ·exact .inl h1'
    ·exact .inr ⟨b,h1',kp6 b _ _ (os4.nb h2' (by omega)) h2',h3',h4'⟩
   ·rw[I4,hc,if_neg (by decide),Hm]
    rcases fs4 with h1'|⟨b,h1',h2',h3',h4'⟩
    ·exact .inl h1'
    ·exact .inr ⟨b,h1',kp6 b _ _ ((ap4 b).1 ⟨0,_,_,h1'⟩).1 h2',h3',h4'⟩
   ·rw[LA,hc,if_neg (by decide),if_pos him,Hm];exact os6
   ·rcases ms4 with h1'|⟨b,h1',h2',h3',h4'⟩
    ·exact .inl h1'
    ·exact .inr ⟨b,h1',kp6 b _ _ (fun hb=>(ap4 b).2 hb ⟨0,_,_,h1'⟩) h2',h3',h4'⟩
   ·exact(f6 b _ _ ((ap4 b).1 hb).1 (fs4.rw_ hb)).2 h
   ·exact(f6 b _ _ (fun ho=>(ap4 b).2 ho hm) (ms4.rw_ hm)).2 hb
  ·rw[decide_eq_false him]at k5
   have a3:=CF (i:=i) (h:=h4) (by omega);have hrun:∃ e2,Lm (call AC (m+6)) e g=.norm e2 h4/\J 18 e2=ou/\J 103 e2=AI AT ((i+1:Nat):Int)/\∀ j,j=0\/j=1\/j=2\/j=9\/j=11\/j=17\/j=102->J j e2=J j e:=by
    unfold Lm;simp only[sT,By,BY,reduceIte,AJ,AH,QQ,TJ,c1,Ca,t17,CI,AV,A1,xE,zJ,k1c,Bi,Bh,yA,A3,AK,AO,t9,lb,Ao,Ad,AG,AM,vk,l4,qs];rw[ck _ _ _ (by simp[AD]) (by simp[AD,t9])];simp only[sT,By,BY,reduceIte];rw[k3 _ _ _ _ (by simp[AD]) (by simp[AD])];simp only[sT,By,BY,reduceIte,Ao,Ad,AG,AM,vk];rw[k4 _ _ _ _ (by simp[AD]) (by simp[AD])];simp only[sT,By,BY,reduceIte,cA0,t11,k5,QQ,BG,a3];refine⟨_,rfl,by simp[AD,t18],by simp[AD],fun j hj=>?_⟩;rcases hj with rfl|rfl|rfl|rfl|rfl|rfl|rfl<;>simp only[AD,By,BY,reduceIte]
   obtain⟨e2,r1,r2,r3,r4⟩:=hrun;refine⟨e2,h4,fv3,ou,r1,⟨x4,AHP,rb4,ko4,ok4,?_,?_,ms4,ap4,by have:=o2.le;omega⟩,r2,r3,r4⟩
   ·rw[I4,hc,if_neg (by decide),Hm];exact fs4
   ·rw[LA,hc,if_neg (by decide),if_neg him,wF];exact os4
end
end
noncomputable section
open Go
set_option maxRecDepth 100000
theorem rc:d8.zero=[.pointer none,.pointer none,AI AT 0,.slice none 0 0,.slice none 0 0,AI AT 0,.bool false]:=by kernel_rfl
theorem kB:B3 .mt 0 [.pointer none]=some vG:=by kernel_rfl
section
variable {F:AEB}{e:Env}{h:Hp}{n:Nat}
theorem fF{g1 g2 g3:O}{a b:Nat}(h1:g1 e=pt a)(h2:g2 e=pt b)(h3:g3 e=AI AT 100):B5 d8.zero [(0,1,g1),(1,1,g2),(2,1,g3)] F e h=.ok (.agg ⟨slL a b AEP AEP 0 false⟩) h:=by
 rw[Ej,rc,BE (hk:=by rw[h1];rfl),h1,BE (hk:=by rw[h2];rfl),h2,BE (hk:=by rw[h3];rfl),h3];simp only[show ∀ a,cellsOf (pt a)=[pt a]from fun _=>rfl,Dl,xR,vw,wl,over,ADX,AC7,ABt,xE,zy,IS,ABR,if_true,CO,reduceIte];rfl
theorem vP{n:Nat}(hn:n<=1000000):UA .i64 (AI AT (n:Int)) (AI AT 3) h=.ok (AI AT ((n/3:Nat):Int)) h:=by
 have:((n:Nat):Int).tdiv 3=((n/3:Nat):Int):=rfl;rw[Lu (by omega),this,Bb (by omega)]
end
end
noncomputable section
open Go
set_option maxRecDepth 100000
theorem XI:JH.k=.ptr 80:=by kernel_rfl
theorem XJ:VA.k=.slice 3:=by kernel_rfl
theorem d6:Yr.k=.slice 83:=by kernel_rfl
def AEJ(T:List Nat)(a b c:Int)(s:Nat)(l:List Nat):List Nat:=EY T (Li (CE a.toNat b.toNat c.toNat s l.length (B9 T l)))
theorem Dh{a b c:Int}{s n:Nat}(h:AEN a b c s n=true):0<=a/\a<=1099511627776/\0<=b/\b<255/\1<=c/\c<=1099511627776/\(s=1\/s=2)/\n<=65536:=of_decide_eq_true h
theorem Dm{T:List Nat}{a b c:Int}{s:Nat}{l:List Nat}(h:AEN a b c s l.length=true):(AEJ T a b c s l).length=64:=by
 obtain⟨h1,h2,h3,h4,h5,h6,h7,h8⟩:=Dh h;unfold AEJ Li;rw[Ic,NX];have:=Oj (a:=a.toNat) (b:=b.toNat) (c:=c.toNat) (s:=s) (m:=l.length) (t:=B9 T l) (by omega) (by omega) (by omega) (by omega) h8 (Ih T l);omega
theorem Mw{T:List Nat}{a b c:Int}{s:Nat}{l:List Nat}:∀ x∈AEJ T a b c s l,x<256:=S0 (Wr PB)
theorem Qk{l:List Nat}(h:l.length=64):Ct l 0=l:=by
 unfold Ct;rw[Nat.mul_zero,xF,List.take_of_length_le (by omega),h];exact wF l
def GH(p:Nat)(l:List Nat):List AEp:=(wm ((l.length+63)/64)).map (fun j=>AEp.w (p*3+1+j) (Ct l j))++[.f]
def DY(p:Nat)(H:List Nat):List AEp:=[.w (p*3) H,.f]
theorem H4:∀ (ds:List AEp) (M:List Nat) (cs:List (Nat×List Nat)),(BP M cs (ds++[.f])).2=[]
 |[],M,cs=>rfl
 |.w i l::ds,M,cs=>H4 ds _ _
 |.f::ds,M,cs=>H4 ds _ _
theorem jJ{n p:Nat}{l:List Nat}(hp:3*p+3<=n)(hl:1<=l.length/\l.length<=100)(hb:∀ x∈l,x<256){H:List Nat}(hH:H.length=64)(hHb:∀ x∈H,x<256):DW n [] (GH p l++DY p H):=by
 have hk:(l.length+63)/64=1\/(l.length+63)/64=2:=by omega
 unfold GH DY;rcases hk with hk|hk<;>rw[hk]
 ·exact⟨fun x hx=>(by cases hx),by show p*3+1+0<n;omega,CW _ _,JQ hb _,by simp,by simp,fun x hx=>(by cases hx),by omega,hH,hHb,by simp,by simp,trivial⟩
 ·refine⟨fun x hx=>(by cases hx),by show p*3+1+0<n;omega,CW _ _,JQ hb _,fun x hx=>?_,by show p*3+1+1<n;omega,CW _ _,JQ hb _,by simp,by simp,fun x hx=>(by cases hx),by omega,hH,hHb,by simp,by simp,trivial⟩
  have:=v7.1 hx;rw[this];show p*3+1+0≠p*3+1+1;omega
theorem Wd{n p:Nat}(hp:3*p+3<=n){H:List Nat}(hH:H.length=64)(hHb:∀ x∈H,x<256):DW n [] (DY p H):=⟨fun x hx=>(by cases hx),by omega,hH,hHb,by simp,by simp,trivial⟩
def DT(T M:List Nat)(p:Nat)(l H:List Nat):List Nat:=(BP M [] (GH p l++DY p H)).1
def EK(M:List Nat)(p:Nat)(H:List Nat):List Nat:=(BP M [] (DY p H)).1
section
variable {F:AEB}{e:Env}{h h' h0:Hp}{S:Nat->Prop}{A:At}{T M:List Nat}{c0 bad m k p:Nat}{arm:Int}{ks:List Kt}{fr:List Nat}{v lv fv:IN}{ov:Bool}
theorem Ns(R:h.Row A.bs 0 (slL A.bd A.tb lv fv bad false)):call AC (m+1) 38 [pt A.bs] h=.ok (AI AT 0) h:=by
 obtain⟨l0,_,_,_,_,_,l6⟩:=A7 R;have n1:∀ e:Env,J 0 e=pt A.bs->oEq JH.k false (J 0) (kV (.pointer none)) (call AC m) e h=.ok (.bool false) h:=fun e he=>G1 XI he
 have n2:∀ e:Env,J 10 e=pt A.bd->oEq U9.k false (J 10) (kV (.pointer none)) (call AC m) e h=.ok (.bool false) h:=fun e he=>G1 dw he
 rw[ZN rfl];unfold d38;simp only[iN,IS,sT,By,BY,reduceIte,gD,n1,Ao,Ad,AG,AM,vk,AK,AO,l0,n2,l6,lV0]
theorem oy{n:Nat}{h:Hp}(W:h.Wf){u:IN}{xs:List IN}(V:h.AEb u xs)(ha:Bc xs=true)(hl:xs.length<=1000000):
  ∃ h' v,call AC (n+1) 48 [u] h=.ok v h'/\h.Ext h'/\h'.WI (fun b=>h.next<=b) v xs:=by
 rcases V with ⟨rfl,rfl⟩|⟨b,off,c,el,L,h1,h2,h3,h4⟩
 ·have ne:∀ e:Env,J 0 e=.slice none 0 0->oEq VA.k false (J 0) (kV (.slice none 0 0)) (call AC n) e h=.ok (.bool true) h:=fun e he=>Jo (t:=0) XJ he
  refine⟨h,AEP,?_,.refl W,.inl ⟨rfl,rfl⟩⟩;rw[KT rfl];unfold d48;simp only[iN,IS,sT,By,BY,reduceIte,ne,lV0]
 ·have V:h.AEb u xs:=.inr ⟨b,off,c,el,L,h1,h2,h3,h4⟩
  have x1:=(Hp.Ext.refl W).AEA 0 [];have R:=Hp.Row.new W 0 [];have es:=fun (e:Env) (t:List IN)=>Kf (F:=call AC n) (e:=e) (t:=t) W
  have n1:(h.AEA 0 []).next=h.next+1:=rfl;generalize h.AEA 0 []=g at x1 R es n1;have ne:∀ e:Env,J 0 e=u->oEq VA.k false (J 0) (kV (.slice none 0 0)) (call AC n) e h=.ok (.bool false) h:=fun e he=>Jn (t:=0) XJ (he.trans h1)
  have V1:=V.ext W x1;have big:=W.big;rcases wg xs.length with hz|hz
  ·obtain rfl:xs=[]:=wh hz
   have ap:DQ 1 8 3 (.slice (some ⟨h.next,0,none⟩) 0 0) u g=.ok (.slice (some ⟨h.next,0,none⟩) 0 0) (g.wr h.next 0 []):=Hv x1.wf big R (fun k=>V1.src rfl k) V1.lenV;have R2:=R.AET x1.wf (off:=0) (vs:=[]) (IT _);refine⟨_,.slice (some ⟨h.next,0,none⟩) 0 0,?_,R.AEi x1 (IT _) (off:=0) (vs:=[]) (IT _),.inr ⟨h.next,0,rfl,R2,.inr rfl,IT _⟩⟩;rw[KT rfl];unfold d48;simp only[iN,IS,sT,By,BY,reduceIte,ne,es,BF,ap,lV0]
  ·obtain⟨h2,a1,a2,a3,a4,a5⟩:=Ee (eb:=8) (en:=3) x1 R (es:=1) (fun k=>V1.src rfl k) V1.lenV (by omega) hz ha (by omega)
   refine⟨h2,_,?_,a2,.inr ⟨g.next,3+1,rfl,a3,.inl rfl,by omega⟩⟩;rw[KT rfl];unfold d48;simp only[iN,IS,sT,By,BY,reduceIte,ne,es,BF,a1,lV0]
theorem Tt(W:h.Wf)(K:h.KS S v ks)(hu:∀ k∈ks,oneCell k.u=true)(h0:ks=[]->v=.slice none 0 0)(hl:ks.length<=10000):
  ∃ h' w,call AC (m+1) 49 [v] h=.ok w h'/\h.Ext h'/\h'.KO h.next w ks:=by
 rcases K with ⟨rfl,rfl⟩|⟨b,c,el,L,h1,hcc,h2,hL,ht,hel,h3⟩
 ·have ne:∀ e:Env,J 0 e=.slice none 0 0->oEq Yr.k false (J 0) (kV (.slice none 0 0)) (call AC m) e h=.ok (.bool true) h:=fun e he=>Jo (t:=0) d6 he
  refine⟨h,AEP,?_,.refl W,.inl ⟨rfl,rfl⟩⟩;rw[Tp rfl];unfold d49;simp only[iN,IS,sT,By,BY,reduceIte,ne,lV0]
 ·have hpos:0<ks.length:=by
   rcases wg ks.length with hz|hz
   ·have:=h0 (wh hz)
    rw[this]at h1;cases h1
   ·exact hz
  have x1:=(Hp.Ext.refl W).AEA 0 [];have R:=Hp.Row.new W 0 [];have es:=fun (e:Env) (t:List IN)=>Kf (F:=call AC m) (e:=e) (t:=t) W
  have n1:(h.AEA 0 []).next=h.next+1:=rfl;generalize h.AEA 0 []=g at x1 R es n1;have ne:∀ e:Env,J 0 e=v->oEq Yr.k false (J 0) (kV (.slice none 0 0)) (call AC m) e h=.ok (.bool false) h:=fun e he=>Jn (t:=0) d6 (he.trans h1)
  have R1:=h2.ext W x1;have ha:Bc (flK ks)=true:=by
   clear h1 h2 R1 hl hpos h0 hcc hL ht
   induction ks with
   |nil=>rfl
   |cons k l ih=>
    refine QA fun x hx=>?_
    obtain⟨y,hy,hxy⟩:=List.mem_flatMap.1 hx;have huy:=hu y hy;have hxy:x∈[xY .i64 y.a,AI AT y.b,AI AT y.c,.int .u8 (y.s:Int),y.u,AI AT (y.p:Int)]:=hxy;simp only[wA,List.mem_nil_iff,or_false]at hxy;rcases hxy with rfl|rfl|rfl|rfl|rfl|rfl
    all_goals first|exact huy|rfl
  have big:=W.big;obtain⟨h2',a1,a2,a3,a4,a5⟩:=Ee (eb:=64) (en:=83) (u:=v) (cs:=flK ks) (n:=ks.length) x1 R (es:=6) (fun K=>by
   have e1:=R1.AGM (es:=6) (off:=0) (n:=ks.length) (sl:=ks.length) (c:=c) (k:=K) (by omega);rw[h1,e1,xF,xr ks.length 6,ht]) (by rw[h1];rfl) (by rw[CQ];omega) hpos ha (by omega)
  refine⟨h2',_,?_,a2,.inr ⟨g.next,rfl,a3,by omega,by omega⟩⟩;rw[Tp rfl];unfold d49;simp only[iN,IS,sT,By,BY,reduceIte,ne,es,BF,a1,lV0]
def Hp.KN(h:Hp)(k:Nat)(v:IN)(ks:List Kt):Prop:=h.KO k v ks\/(ks=[]/\∃ b,v=.slice (some ⟨b,0,none⟩) 0 0/\h.Row b 0 []/\k<=b/\256<=b)
theorem Va(W:h.Wf)(K:h.KS S v ks)(hu:∀ k∈ks,oneCell k.u=true)(hl:ks.length<=10000):
  ∃ h' w,call AC (m+1) 49 [v] h=.ok w h'/\h.Ext h'/\h'.KN h.next w ks:=by
 have K0:=K;rcases K with ⟨rfl,rfl⟩|⟨b,c,el,L,h1,hcc,h2,hL,ht,hel,h3⟩
 ·obtain⟨h',w,a,b,c⟩:=Tt (m:=m) W K0 hu (fun _=>rfl) hl
  exact⟨h',w,a,b,.inl c⟩
 ·rcases wg ks.length with hz|hz
  ·obtain rfl:ks=[]:=wh hz
   have x1:=(Hp.Ext.refl W).AEA 0 [];have R:=Hp.Row.new W 0 [];have es:=fun (e:Env) (t:List IN)=>Kf (F:=call AC m) (e:=e) (t:=t) W
   generalize h.AEA 0 []=g at x1 R es;have ne:∀ e:Env,J 0 e=v->oEq Yr.k false (J 0) (kV (.slice none 0 0)) (call AC m) e h=.ok (.bool false) h:=fun e he=>Jn (t:=0) d6 (he.trans h1)
   have R1:=h2.ext W x1;have ap:DQ 6 64 83 (.slice (some ⟨h.next,0,none⟩) 0 0) v g=.ok (.slice (some ⟨h.next,0,none⟩) 0 0) (g.wr h.next 0 []):=Hv x1.wf W.big R (fun K=>by
    have e1:=R1.AGM (es:=6) (off:=0) (n:=0) (sl:=0) (c:=c) (k:=K) (by omega);rw[h1];exact e1) (by rw[h1];rfl)
   have R2:=R.AET x1.wf (off:=0) (vs:=[]) (IT _);refine⟨_,.slice (some ⟨h.next,0,none⟩) 0 0,?_,R.AEi x1 (IT _) (off:=0) (vs:=[]) (IT _),.inr ⟨rfl,h.next,rfl,R2,IT _,W.big⟩⟩;rw[Tp rfl];unfold d49;simp only[iN,IS,sT,By,BY,reduceIte,ne,es,BF,ap,lV0]
  ·obtain⟨h',w,a,b,c⟩:=Tt (m:=m) W K0 hu (fun h=>by rw[h]at hz;exact absurd hz (Nat.lt_irrefl 0)) hl
   exact⟨h',w,a,b,.inl c⟩
theorem fV{xs:List IN}{z:IN}(o:h.WI S v (z::xs)):∃ w,h.AEb w xs/\∀ (F:AEB) (e:Env) (x:O),x e=v->D5 3 1 x (some (kV (AI AT 1))) none none F e h=.ok w h:=by
 rcases o with ⟨_,h2⟩|⟨b,el,hv,Rb,hel,_⟩
 ·cases h2
 ·have hl:(z::xs).length=xs.length+1:=rfl
  have key:∀ (F:AEB) (e:Env) (x:O),x e=v->D5 3 1 x (some (kV (AI AT 1))) none none F e h=Bn (some ⟨b,0,none⟩) 1 1 (xs.length+1) (xs.length+1) h:=fun F e x hx=>by
   show(match x e with|.slice a n c=>DR e n c (some (kV (AI AT 1))) none none (fun l hh m=>EL 3 1 a false l hh m h)|_=>.no)=_;rw[hx,hv,hl];show(bif vx 1 (xs.length+1)then EL 3 1 (some ⟨b,0,none⟩) false 1 (xs.length+1) (xs.length+1) h else .no)=_;rw[Ac.2 (show 1<=xs.length+1 by omega)];show(bif E0 3 (some ⟨b,0,none⟩) h then Bn (some ⟨b,0,none⟩) 1 1 (xs.length+1) (xs.length+1) h else .no)=_;have:E0 3 (some ⟨b,0,none⟩) h=true:=by
    obtain⟨cc,hcc,_⟩:=Rb.rowOf;unfold E0;simp only[hcc];rcases hel with rfl|rfl<;>rfl
   rw[this];rfl
  cases xs with
  |nil=>
   refine⟨.slice (some ⟨b,0,none⟩) 0 0,.inr ⟨b,0,0,el,_,rfl,Rb,wP _,rfl⟩,fun F e x hx=>?_⟩;rw[key F e x hx];rfl
  |cons y ys=>
   refine⟨.slice (some ⟨b,1,none⟩) (ys.length+1) (ys.length+1),.inr ⟨b,1,ys.length+1,el,_,rfl,Rb,?_,?_⟩,fun F e x hx=>?_⟩
   ·show 1+(ys.length+1)<=ys.length+1+1
    omega
   ·show((z::y::ys).drop 1).take (y::ys).length=y::ys
    exact xn
   ·rw[key F e x hx]
    show Bn (some ⟨b,0,none⟩) 1 1 (ys.length+1+1) (ys.length+1+1) h=_;unfold Bn;simp only[AZ];have e1:Nat.beq (ys.length+1+1) 1=false:=rfl;have e2:Nat.sub (ys.length+1+1) 1=ys.length+1:=rfl;simp only[e1,e2]
theorem Qi{g1 g2 g3 g5:O}{a b c:Int}{u:IN}(h1:g1 e=AI AT a)(h2:g2 e=AI AT b)(h3:g3 e=AI AT c)(h5:g5 e=u)(hc:cellsOf u=[u])(hk:known u=true):
  B5 Il.zero [(0,1,g1),(1,1,g2),(2,1,g3),(3,1,kV (.int .u8 1)),(4,1,g5)] F e h=.ok (Bv a b c 1 u) h:=by
 rw[Ej,VD,BE (hk:=by rw[h1];rfl),h1,BE (hk:=by rw[h2];rfl),h2,BE (hk:=by rw[h3];rfl),h3,BE,BE (hk:=by rw[h5];exact hk),h5,hc];simp only[Ho,Dl,xR,vw,wl,A4,over,ADX,AC7,ABt,xE,zy,IS,ABR,if_true,CO,reduceIte];rfl
theorem Sl.bsx{ks':List Kt}{fr':List Nat}{lv' fv':IN}{AIJ:Nat}{ov':Bool}(s:Sl h A T M c0 arm ks fr lv fv bad ov)(W:h.Wf)(x:Fx (fun b=>b=A.bs) h h')(row:h'.Row A.bs 0 (slL A.bd A.tb lv' fv' AIJ ov'))(ls:h'.KS (fun b=>¬ A.D b) lv' ks')(ko:∀ k∈ks',AGZ h' (fun b=>¬ A.D b) k)
  (fs:h'.WI (fun b=>¬ A.D b) fv' (ints .i64 (fr'.map wj)))(le:ks'.length<=1000/\fr'.length<=1000/\AIJ<=1000/\∀ p∈fr',3*p+3<=A.n):Sl h' A T M c0 arm ks' fr' lv' fv' AIJ ov':=
 ⟨row,s.dk.fr W x (fun h=>s.ne.1 h.symm) (fun h=>s.ne.2.1 h.symm) (fun h=>s.ne.2.2.1 h.symm),x.row W s.tab (fun h=>s.ne.2.2.2.1 (.inl h)),s.tok,ls,ko,fs,s.ne,le⟩
end
end
noncomputable section
open Go
set_option maxRecDepth 100000
theorem Pa:∀ (ks:List Kt) (j:Nat) (x:Kt),j<ks.length->over (flK ks) (6*j) (AU x)=flK (ks.set j x)
 |[],j,x,h=>by cases h
 |k::ks,0,x,h=>by
  show over (AU k++flK ks) 0 (AU x)=AU x++flK ks;exact NW rfl
 |k::ks,j+1,x,h=>by
  have ih:=Pa ks j x (by simpa using h);show over (AU k++flK ks) (6*(j+1)) (AU x)=AU k++flK (ks.set j x);rw[<- ih];unfold over;have e1:6*(j+1)=(AU k).length+6*j:=by show _=6+_;omega
  have e2:6*(j+1)+(AU x).length=(AU k).length+(6*j+(AU x).length):=by rw[e1];omega
  rw[e2,List.drop_length_add_append,e1,List.take_length_add_append,wG,wG,wG]
def Ik(x:Kt):List Kt->List Kt
 |[]=>[x]
 |y::r=>if Gz x y<0 then y::Ik x r else x::y::r
def Gs(A:List Kt)(x:Kt):List Kt:=(Ik x A.reverse).reverse
def srt:List Kt->List Kt->List Kt
 |A,[]=>A
 |A,x::B=>srt (Gs A x) B
theorem Km(x y:Kt)(r:List Kt):Ik x (y::r)=if Gz x y<0 then y::Ik x r else x::y::r:=rfl
theorem RO(x:Kt):∀ l:List Kt,(Ik x l).length=l.length+1
 |[]=>rfl
 |y::r=>by
  unfold Ik;split
  ·rw[vw,RO x r,vw]
  ·rfl
theorem M0(A:List Kt)(x:Kt):(Gs A x).length=A.length+1:=by
 unfold Gs;rw[AAb,RO,AAb]
theorem Mz{x z:Kt}:∀ {l:List Kt},z∈Ik x l↔z=x\/z∈l
 |[]=>by simp[Ik]
 |y::r=>by
  unfold Ik;split
  ·rw[wA,Mz,wA]
   constructor
   ·rintro (h|h|h)
    ·exact .inr (.inl h)
    ·exact .inl h
    ·exact .inr (.inr h)
   ·rintro (h|h|h)
    ·exact .inr (.inl h)
    ·exact .inl h
    ·exact .inr (.inr h)
  ·exact wA
theorem RP{A:List Kt}{x z:Kt}:z∈Gs A x↔z=x\/z∈A:=by
 unfold Gs;rw[AAp,Mz,AAp]
theorem OX{x:Kt}:∀ {R Q:List Kt},(∀ y∈R,Gz x y<0)->Ik x (R++Q)=R++Ik x Q
 |[],Q,_=>rfl
 |y::R,Q,h=>by
  rw[zy,Km,if_pos (h y vp),OX fun z hz=>h z (vr _ hz)];rfl
theorem WM{x:Kt}{P Q:List Kt}(hQ:∀ y∈Q,Gz x y<0)(hP:P=[]\/∃ P' y,P=P'++[y]/\¬ Gz x y<0):Gs (P++Q) x=P++x::Q:=by
 unfold Gs;rw[yh,OX fun y hy=>hQ y (AAp.1 hy)];have e:Ik x P.reverse=x::P.reverse:=by
  rcases hP with rfl|⟨P',y,rfl,hy⟩
  ·rfl
  ·rw[yh]
   show Ik x (y::P'.reverse)=_;unfold Ik;rw[if_neg hy];rfl
 rw[e,yh,AAz,zO,zO,wG];rfl
theorem J5{α:Type}{x y:α}:∀ {P R:List α},(P++x::R).set P.length y=P++y::R
 |[],R=>rfl
 |z::P,R=>by
  show z::(P++x::R).set P.length y=_;rw[J5];rfl
theorem Oo{l Z vs:List IN}{o:Nat}(h:o+vs.length<=l.length):over (l++Z) o vs=over l o vs++Z:=by
 unfold over;rw[AAo (by omega),List.drop_append_of_le_length h,wG,wG,wG]
theorem F9{α:Type}{x:α}{P R:List α}:(P++x::R)[P.length]? =some x:=by
 rw[wQ (IT _),Nat.sub_self];rfl
theorem Jp{α:Type}{x y:α}{P R:List α}:(P++y::x::R)[P.length+1]? =some x:=by
 rw[wQ (by omega),show P.length+1 - P.length=1 by omega];rfl
section
variable {F:AEB}{e:Env}{h h':Hp}{S:Nat->Prop}{bl n c:Nat}{ks:List Kt}{Z:List IN}
theorem QK(R:h.Row bl 84 (flK ks++Z))(hn:n=ks.length)(hc:ks.length<=c):h.KS (fun b=>b=bl) (.slice (some ⟨bl,0,none⟩) n c) ks:=by
 subst hn;exact .inr ⟨bl,c,84,_,rfl,hc,R,by rw[No,CQ];omega,by rw[AAo (by rw[CQ];omega),<- CQ,xn],.inl rfl,rfl⟩
theorem bN(W:h.Wf)(R:h.Row bl 84 (flK ks++Z))(AEO:256<=bl){j:Nat}(hj:j<ks.length){x:Kt}(hu:oneCell x.u=true):
  ∃ h',(∀ (F:AEB) (e:Env) (g g':O),g e=.pointer (some ⟨bl,6*j,none⟩)->g' e=ktV x->Al .free (Av 6 g g') F e h=.ok AEE h')/\Fx (fun b=>b=bl) h h'/\h'.Row bl 84 (flK (ks.set j x)++Z)/\h'.next=h.next/\h'.mark=h.mark:=by
 have Rq:h.quiet.Row bl 84 (flK ks++Z):=R.same rfl;have AIK:6*j+(AU x).length<=(flK ks).length:=by rw[CQ];show 6*j+6<=_;omega
 have hoo:6*j+(AU x).length<=(flK ks++Z).length:=by rw[No];omega
 have st:=Rq.AER (n:=6) (off:=6 * j) (v:=ktV x) W.quiet AEO rfl hoo (Gn hu);have wr:=Rq.AET W.quiet hoo;rw[Oo AIK,Pa ks j x hj]at wr;have fx:=Fx.wr (S:=fun b=>b=bl) W.quiet Rq hoo rfl;have wn:=Rq.AEt hoo;have st:AER 6 (.pointer (some ⟨bl,6 * j,none⟩)) (ktV x) h.quiet=.ok AEE (h.quiet.wr bl (6 * j) (AU x)):=st;generalize h.quiet.wr bl (6 * j) (AU x)=q at st wr fx wn;exact⟨h.back q,fun F e g g' e1 e2=>BO (by rw[Ab,e1,e2];exact st),(fx.from (h:=h) rfl rfl).same rfl rfl,wr.same rfl,wn,rfl⟩
theorem UM:jnB=X3:=rfl
theorem jm(W:h.Wf){P R:List Kt}{x y:Kt}(hks:ks=P++y::x::R)(Rw:h.Row bl 84 (flK ks++Z))(AEO:256<=bl)(hn:n=ks.length)(hc:ks.length<=c)(hl:ks.length<=100000)(ux:oneCell x.u=true)(uy:oneCell y.u=true)
  (s0:J 0 e=.slice (some ⟨bl,0,none⟩) n c)(s9:J 9 e=AI AT ((P.length+1:Nat):Int)):
  ∃ e' h',swB F e h=.norm e' h'/\Fx (fun b=>b=bl) h h'/\h'.Row bl 84 (flK (P++x::y::R)++Z)/\∀ j,j=0\/j=1\/j=2\/j=3\/j=8\/j=9->J j e'=J j e:=by
 have lk:ks.length=P.length+1+1+R.length:=by rw[hks,No,vw,vw];omega
 have K:=QK (Rw.same (h':=h.marked) rfl) hn hc;obtain⟨b,rfl,ix,ld,_⟩:=K.at (i:=P.length+1) (k:=x) (by rw[hks];exact Jp);obtain⟨b',hb',iy,ldy,_⟩:=K.at (i:=P.length) (k:=y) (by rw[hks];exact F9);have hb':b'=b:=hb';subst hb';have a1:Ft wi .i64 (AI AT ((P.length+1:Nat):Int)) (AI AT 1) h.marked=.ok (AI AT (P.length:Int)) h.marked:=by
  have:wi ((P.length+1:Nat):Int) 1=(P.length:Int):=by
   show((P.length+1:Nat):Int) - 1=_;omega
  rw[CV,this,Bb (by omega)]
 obtain⟨h1,q1,f1,R1,n1,mk1⟩:=bN (j:=P.length+1) W.marked (Rw.same (h':=h.marked) rfl) AEO (by omega) uy;have e1:ks.set (P.length+1) y=P++y::y::R:=by
  rw[hks,show P++y::x::R=(P++[y])++x::R by simp,show P.length+1=(P++[y]).length by simp,J5];simp
 rw[e1]at R1;have ix1:AE0 6 (.slice (some ⟨b',0,none⟩) n c) (AI AT (P.length:Int)) h1=.ok (.pointer (some ⟨b',6*P.length,none⟩)) h1:=by
  have:=Cy (h:=h1) (n:=n) (c:=c) (es:=6) (b:=b') (off:=0) (i:=P.length) (k:=.i64) (by omega)
  rwa [vk,xr]at this
 obtain⟨h2,q2,f2,R2,n2,mk2⟩:=bN (j:=P.length) f1.wf R1 AEO (by rw[No];simp) ux;rw[J5]at R2;have fm:Fx (fun b=>b=b') h h1:=f1.from (h:=h) rfl rfl;have hrun:∃ e',swB F e h=.norm e' h2/\∀ j,j=0\/j=1\/j=2\/j=3\/j=8\/j=9->J j e'=J j e:=by
  have q1':∀ (F:AEB) (e:Env),J 51 e=.pointer (some ⟨b',6*(P.length+1),none⟩)->J 46 e=ktV y->Al .free (Av 6 (J 51) (J 46)) F e h.marked=.ok AEE h1:=fun F e a b=>q1 F e _ _ a b
  have q2':∀ (F:AEB) (e:Env),J 52 e=.pointer (some ⟨b',6*P.length,none⟩)->J 50 e=ktV x->Al .free (Av 6 (J 52) (J 50)) F e h1=.ok AEE h2:=fun F e a b=>q2 F e _ _ a b
  unfold swB;simp only[sT,By,BY,reduceIte,A3,Bu,s9,a1,Ay,s0,iy,Aq,As,ldy,ix,ld,q1',ix1,q2'];refine⟨_,rfl,fun j hj=>?_⟩;rcases hj with rfl|rfl|rfl|rfl|rfl|rfl<;>simp only[AD,By,BY,reduceIte]
 obtain⟨e',r1,r2⟩:=hrun;exact⟨e',h2,r1,fm.trans f2,R2,r2⟩
end
end
noncomputable section
open Go
set_option maxRecDepth 100000
theorem XA{α:Type}(P:List α):P=[]\/∃ P' y,P=P'++[y]:=by
 rcases h:P.reverse with _|⟨y,r⟩
 ·exact .inl (List.reverse_eq_nil_iff.1 h)
 ·refine .inr ⟨r.reverse,y,?_⟩
  rw[<- zO P,h,AAz]
section
variable {e:Env}{h h':Hp}{bl n c m:Nat}{ks:List Kt}{Z:List IN}
theorem au(W:h.Wf){A B:List Kt}{x:Kt}(Rw:h.Row bl 84 (flK (A++x::B)++Z))(AEO:256<=bl)(hn:n=(A++x::B).length)(hc:n<=c)(hl:n<=1000)(hu:∀ k∈A++x::B,oneCell k.u=true)
  (s0:J 0 e=.slice (some ⟨bl,0,none⟩) n c)(s1:J 1 e=AI AT 0)(s3:J 3 e=.func (.func 51) ⟨[]⟩ ⟨[]⟩)(s9:J 9 e=AI AT (A.length:Int)):
  ∃ e' h',Aw jnB (call AC (m+3)) e h=.exit 2 e' h'/\Fx (fun b=>b=bl) h h'/\h'.Row bl 84 (flK (Gs A x++B)++Z)/\∀ j,j=0\/j=1\/j=2\/j=3\/j=8->J j e'=J j e:=by
 have hln:(A++x::B).length=A.length+1+B.length:=by rw[No,vw];omega
 refine BU (I:=fun i e' g=>∃ P Q,A=P++Q/\P.length+i=A.length/\Fx (fun b=>b=bl) h g/\g.Row bl 84 (flK (P++x::(Q++B))++Z)/\(∀ y∈Q,Gz x y<0)/\J 9 e'=AI AT (P.length:Int)/\∀ j,j=0\/j=1\/j=2\/j=3\/j=8->J j e'=J j e)
  (Q:=fun r=>∃ e' h',r=.exit 2 e' h'/\Fx (fun b=>b=bl) h h'/\h'.Row bl 84 (flK (Gs A x++B)++Z)/\∀ j,j=0\/j=1\/j=2\/j=3\/j=8->J j e'=J j e) (A.length+1) (by omega) (fun i e' g ⟨P,Q,hA,hP,fx,R,hQ,t9,ts⟩=>?_) ⟨A,[],by rw[wF],rfl,.refl W,Rw,fun y hy=>(by cases hy),s9,fun _ _=>rfl⟩
 have W':=fx.wf;have t0:=(ts 0 (by omega)).trans s0;have t1:=(ts 1 (by omega)).trans s1;have t3:=(ts 3 (by omega)).trans s3;rcases XA P with rfl|⟨P',y,rfl⟩
 ·right
  have c1:iGt ((([]:List Kt).length:Nat):Int) 0=false:=Fa (by decide);have hrun:∃ e2,jnB (call AC (m+3)) e' g=.exit 2 e2 g.marked/\∀ j,j=0\/j=1\/j=2\/j=3\/j=8->J j e2=J j e':=by
   rw[UM];unfold X3;simp only[sT,By,BY,reduceIte,gD,A3,AJ,AH,t9,t1,c1];refine⟨_,rfl,fun j hj=>?_⟩;rcases hj with rfl|rfl|rfl|rfl|rfl<;>simp only[AD,By,BY,reduceIte]
  obtain⟨e2,r1,r2⟩:=hrun;rw[r1];refine⟨rfl,e2,_,rfl,fx.same rfl rfl,?_,fun j hj=>(r2 j hj).trans (ts j hj)⟩;have:=WM (x:=x) (P:=[]) (Q:=Q) hQ (.inl rfl);rw[hA,this];have e5:([]++x::Q)++B=[]++x::(Q++B):=rfl;rw[e5];exact R.same rfl
 ·have lP:(P'++[y]).length=P'.length+1:=by simp
  rw[lP]at hP t9;have lA:A.length=P'.length+1+Q.length:=by rw[hA,No,lP]
  have eR:(P'++[y])++x::(Q++B)=P'++y::x::(Q++B):=by simp
  rw[eR]at R;have lL:(P'++y::x::(Q++B)).length=n:=by
   rw[hn,hln,lA];simp only[No,vw];omega
  have ux:oneCell x.u=true:=hu x (wI _ vp);have uy:oneCell y.u=true:=hu y (wU _ (by rw[hA];exact wU _ (wI _ vp)));have K:=QK (n:=n) (c:=c) (R.same (h':=g.marked) rfl) lL.symm (by omega);obtain⟨b,hb,ix,ld,_⟩:=K.at (i:=P'.length+1) (k:=x) Jp;obtain⟨b',hb',iy,ldy,_⟩:=K.at (i:=P'.length) (k:=y) F9;have c1:iGt ((P'.length+1:Nat):Int) 0=true:=GV (by omega);have a1:∀ g:Hp,Ft wi .i64 (AI AT ((P'.length+1:Nat):Int)) (AI AT 1) g=.ok (AI AT (P'.length:Int)) g:=fun g=>by
   have:wi ((P'.length+1:Nat):Int) 1=(P'.length:Int):=by
    show((P'.length+1:Nat):Int) - 1=_;omega
   rw[CV,this,Bb (by omega)]
  obtain⟨h2,k2,x2⟩:=cg (m:=m) W'.marked.quiet x y;have q2:∀ e:Env,J 22 e=.func (.func 51) ⟨[]⟩ ⟨[]⟩->J 26 e=ktV x->J 31 e=ktV y->Al .free (Ei (J 22) [J 26,J 31]) (call AC (m+3)) e g.marked=.ok (AI AT (Gz x y)) (g.marked.back h2):=fun e e1 e2 e3=>by
   refine BO ?_;rw[Ca,AV,AV,A1,e1,e2,e3];exact k2
  have y2:g.Ext (g.marked.back h2):=(Hp.Ext.refl W').marked.trans (.back x2);generalize g.marked.back h2=h3 at q2 y2;have R3:=R.ext W' y2;by_cases hc:Gz x y<0
  ·left
   have c2:iLt (Gz x y) 0=true:=LQ hc;have sw:∀ e2:Env,J 0 e2=.slice (some ⟨bl,0,none⟩) n c->J 9 e2=AI AT ((P'.length+1:Nat):Int)->∃ e3 h4,swB (call AC (m+3)) e2 h3=.norm e3 h4/\Fx (fun b=>b=bl) h3 h4/\h4.Row bl 84 (flK (P'++x::y::(Q++B))++Z)/\∀ j,j=0\/j=1\/j=2\/j=3\/j=8\/j=9->J j e3=J j e2:=fun e2 a b=>jm y2.wf rfl R3 AEO lL.symm (by omega) (by omega) ux uy a b
   have hrun:∃ e3 h4,jnB (call AC (m+3)) e' g=.norm e3 h4/\Fx (fun b=>b=bl) h3 h4/\h4.Row bl 84 (flK (P'++x::y::(Q++B))++Z)/\J 9 e3=AI AT (P'.length:Int)/\∀ j,j=0\/j=1\/j=2\/j=3\/j=8->J j e3=J j e':=by
    rw[UM];unfold X3;simp only[sT,By,BY,reduceIte,gD,A3,AJ,AH,t9,t1,c1,t3,t0,Ay,ix,Aq,As,ld,Bu,a1,iy,ldy,q2,c2,BB,Ap];obtain⟨e3,h4,r1,f4,R4,r2⟩:=sw (Env.set 34 (.bool true) (Env.set 33 (.bool true) (Env.set 32 (AI AT (Gz x y)) (Env.set 31 (ktV y) (Env.set 30 (.pointer (some ⟨b',6*P'.length,none⟩)) (Env.set 29 (AI AT (P'.length:Int)) (Env.set 28 (AI AT ((P'.length+1:Nat):Int)) (Env.set 27 (.slice (some ⟨bl,0,none⟩) n c) (Env.set 26 (ktV x) (Env.set 25 (.pointer (some ⟨b,6*(P'.length+1),none⟩)) (Env.set 24 (AI AT ((P'.length+1:Nat):Int)) (Env.set 23 (.slice (some ⟨bl,0,none⟩) n c) (Env.set 22 (.func (.func 51) ⟨[]⟩ ⟨[]⟩) (Env.set 20 (.bool true) e')))))))))))))) (by simp[AD,t0]) (by simp[AD,t9]);have u9:J 9 e3=AI AT ((P'.length+1:Nat):Int):=(r2 9 (by omega)).trans (by simp[AD,t9]);rw[r1];simp only[D9,A8,sT,By,BY,reduceIte,Bu,u9,a1];refine⟨_,_,rfl,f4,R4,by simp[AD],fun j hj=>?_⟩;have:=r2 j (by omega);rcases hj with rfl|rfl|rfl|rfl|rfl<;>simp only[AD,By,BY,reduceIte]at this ⊢<;>exact this
   obtain⟨e3,h4,r1,f4,R4,r9,r2⟩:=hrun;refine⟨by omega,e3,h4,r1,P',y::Q,by rw[hA];simp,by omega,(fx.trans (.of y2)).trans f4,R4,fun z hz=>?_,r9,fun j hj=>(r2 j hj).trans (ts j hj)⟩;rcases wA.1 hz with rfl|hz
   ·exact hc
   ·exact hQ z hz
  ·right
   have c2:iLt (Gz x y) 0=false:=HL (by omega);have hrun:∃ e3,jnB (call AC (m+3)) e' g=.exit 2 e3 h3/\∀ j,j=0\/j=1\/j=2\/j=3\/j=8->J j e3=J j e':=by
    rw[UM];unfold X3;simp only[sT,By,BY,reduceIte,gD,A3,AJ,AH,t9,t1,c1,t3,t0,Ay,ix,Aq,As,ld,Bu,a1,iy,ldy,q2,c2];refine⟨_,rfl,fun j hj=>?_⟩;rcases hj with rfl|rfl|rfl|rfl|rfl<;>simp only[AD,By,BY,reduceIte]
   obtain⟨e3,r1,r2⟩:=hrun;rw[r1];refine⟨rfl,e3,h3,rfl,fx.trans (.of y2),?_,fun j hj=>(r2 j hj).trans (ts j hj)⟩;rw[hA,WM hQ (.inr ⟨P',y,rfl,hc⟩),wG,wG];exact R3
theorem ch(W:h.Wf){ks:List Kt}(Rw:h.Row bl 84 (flK ks++Z))(AEO:256<=bl)(hn:n=ks.length)(hc:n<=c)(hl:n<=1000)(hu:∀ k∈ks,oneCell k.u=true):
  ∃ h',call AC (m+4) 97 [.slice (some ⟨bl,0,none⟩) n c,AI AT 0,AI AT (n:Int),.func (.func 51) ⟨[]⟩ ⟨[]⟩] h=.ok AEE h'/\Fx (fun b=>b=bl) h h'/\h'.Row bl 84 (flK (srt (ks.take 1) (ks.drop 1))++Z):=by
 have run:∀ e1:Env,J 0 e1=.slice (some ⟨bl,0,none⟩) n c->J 1 e1=AI AT 0->J 2 e1=AI AT (n:Int)->J 3 e1=.func (.func 51) ⟨[]⟩ ⟨[]⟩->J 8 e1=AI AT ((1:Nat):Int)->∃ e' h',Aw jsB (call AC (m+3)) e1 h=.exit 0 e' h'/\Fx (fun b=>b=bl) h h'/\h'.Row bl 84 (flK (srt (ks.take 1) (ks.drop 1))++Z):=fun e1 s0 s1 s2 s3 s8=>by
  refine BU (I:=fun i e' g=>∃ A B,A.length+B.length=ks.length/\(A.length=i+1\/(B=[]/\A.length<=i+1))/\srt A B=srt (ks.take 1) (ks.drop 1)/\(∀ k∈A++B,oneCell k.u=true)/\Fx (fun b=>b=bl) h g/\g.Row bl 84 (flK (A++B)++Z)/\J 0 e'=.slice (some ⟨bl,0,none⟩) n c/\J 1 e'=AI AT 0/\J 2 e'=AI AT (n:Int)/\J 3 e'=.func (.func 51) ⟨[]⟩ ⟨[]⟩/\J 8 e'=AI AT ((i+1:Nat):Int))
   (Q:=fun x=>∃ e' h',x=.exit 0 e' h'/\Fx (fun b=>b=bl) h h'/\h'.Row bl 84 (flK (srt (ks.take 1) (ks.drop 1))++Z)) n (by omega) (fun i e' g ⟨A,B,hAB,hAi,hsr,hu',fx,R,t0,t1,t2,t3,t8⟩=>?_) ⟨ks.take 1,ks.drop 1,by rw[wT,xC];omega,?_,rfl,by rw[xz];exact hu,.refl W,by rw[xz];exact Rw,s0,s1,s2,s3,s8⟩
  ·have W':=fx.wf
   cases B with
   |nil=>
    right;have hA:A.length=n:=by simp only[wl]at hAB;omega
    have c1:iLt ((i+1:Nat):Int) (n:Int)=false:=Cz (by omega);have hrun:∃ e3,jsB (call AC (m+3)) e' g=.exit 0 e3 g:=by
     rw[Pq];unfold X4;simp only[sT,By,BY,reduceIte,AJ,AH,t8,t2,c1];exact⟨_,rfl⟩
    obtain⟨e3,r1⟩:=hrun;rw[r1];refine⟨rfl,e3,g,rfl,fx,?_⟩;rw[<- hsr];rw[wF]at R;exact R
   |cons x B=>
    left;rw[vw]at hAB;have hA:A.length=i+1:=by
     rcases hAi with h1|⟨h1,_⟩
     ·exact h1
     ·cases h1
    have c1:iLt ((i+1:Nat):Int) (n:Int)=true:=EF (by omega);obtain⟨e2,h2,i1,f2,R2,i2⟩:=au (m:=m) (e:=Env.set 9 (AI AT ((i+1:Nat):Int)) (Env.set 14 (.bool true) e')) W' R AEO (by rw[No,vw];omega) hc hl hu' (by simp[AD,t0]) (by simp[AD,t1]) (by simp[AD,t3]) (by simp only[AD,By,BY,reduceIte,hA]);have g0:=i2 0 (by omega);have g1:=i2 1 (by omega);have g2:=i2 2 (by omega);have g3:=i2 3 (by omega);have g8:=i2 8 (by omega);simp only[AD,By,BY,reduceIte,t0]at g0;simp only[AD,By,BY,reduceIte,t1]at g1;simp only[AD,By,BY,reduceIte,t2]at g2;simp only[AD,By,BY,reduceIte,t3]at g3;simp only[AD,By,BY,reduceIte,t8]at g8;have a3:Fs .i64 (AI AT ((i+1:Nat):Int)) (AI AT 1) h2=.ok (AI AT ((i+1+1:Nat):Int)) h2:=CF (by omega);have hrun:∃ e3,jsB (call AC (m+3)) e' g=.norm e3 h2/\J 0 e3=.slice (some ⟨bl,0,none⟩) n c/\J 1 e3=AI AT 0/\J 2 e3=AI AT (n:Int)/\J 3 e3=.func (.func 51) ⟨[]⟩ ⟨[]⟩/\J 8 e3=AI AT ((i+1+1:Nat):Int):=by
     rw[Pq];unfold X4;simp only[sT,By,BY,reduceIte,AJ,AH,t8,t2,c1,i1,g8,BG,a3];exact⟨_,rfl,by simp[AD,g0,g1,g2,g3]⟩
    obtain⟨e3,r1,r2,r3,r4,r5,r6⟩:=hrun;refine⟨by omega,e3,h2,r1,Gs A x,B,by rw[M0];omega,.inl (by rw[M0];omega),hsr,fun k hk=>?_,fx.trans f2,R2,r2,r3,r4,r5,r6⟩;rcases wK.1 hk with h1|h1
    ·rcases RP.1 h1 with rfl|h1
     ·exact hu' _ (wI _ vp)
     ·exact hu' k (wU _ h1)
    ·exact hu' k (wI _ (vr _ h1))
  ·cases ks with
   |nil=>exact .inr ⟨rfl,wP _⟩
   |cons k ks=>exact .inl rfl
 have a1:Fs .i64 (AI AT 0) (AI AT 1) h=.ok (AI AT ((1:Nat):Int)) h:=CF (i:=0) (by omega);obtain⟨e2,h2,r1,x2⟩:=run (Env.set 8 (AI AT ((1:Nat):Int)) (Env.set 11 (AI AT ((1:Nat):Int)) (AQ e0 0 [.slice (some ⟨bl,0,none⟩) n c,AI AT 0,AI AT (n:Int),.func (.func 51) ⟨[]⟩ ⟨[]⟩]))) (by simp only[iN,IS,AD,By,BY,reduceIte]) (by simp only[iN,IS,AD,By,BY,reduceIte]) (by simp only[iN,IS,AD,By,BY,reduceIte]) (by simp only[iN,IS,AD,By,BY,reduceIte]) (by simp[AD]);simp only[iN,IS]at r1;refine⟨h2,?_,x2⟩;rw[Zc rfl,aC];unfold gM;simp only[iN,IS,sT,By,BY,reduceIte,BG,a1,r1,De,Dc]
def Bq(ks:List Kt):List Kt:=srt (ks.take 1) (ks.drop 1)
theorem TA(W:h.Wf){ks:List Kt}(Rw:h.Row bl 84 (flK ks++Z))(AEO:256<=bl)(hn:n=ks.length)(hc:n<=c)(hl:n<=12)(hu:∀ k∈ks,oneCell k.u=true):
  ∃ h',call AC (m+6) 50 [.slice (some ⟨bl,0,none⟩) n c,.func (.func 51) ⟨[]⟩ ⟨[]⟩] h=.ok AEE h'/\Fx (fun b=>b=bl) h h'/\h'.Row bl 84 (flK (Bq ks)++Z):=by
 obtain⟨h2,k2,x2,R2⟩:=ch (m:=m) W Rw AEO hn hc (by omega) hu;obtain⟨k,kb⟩:=PM (m:=m+3) (h:=h) (n:=n) (by omega);have cv:DS .u64 (AI AT (n:Int)) h=.ok (.int .u64 (n:Int)) h:=by rw[Cd,EV (by omega)]
 have a1:Ft wi .i64 (AI AT (n:Int)) (AI AT 0) h=.ok (AI AT (n:Int)) h:=by
  have:wi (n:Int) 0=(n:Int):=Int.sub_zero _;rw[CV,this,Bb (by omega)]
 have c1:iLe (n:Int) 12=true:=LP (by omega);have pd:call AC (m+5) 77 [.slice (some ⟨bl,0,none⟩) n c,AI AT 0,AI AT (n:Int),AI AT (k:Int),.func (.func 51) ⟨[]⟩ ⟨[]⟩] h=.ok AEE h2:=by
  have hb:∃ e2,pdB (call AC (m+4)) (Env.set 11 (.bool true) (Env.set 10 (.bool true) (AQ e0 0 [.slice (some ⟨bl,0,none⟩) n c,AI AT 0,AI AT (n:Int),AI AT (k:Int),.func (.func 51) ⟨[]⟩ ⟨[]⟩]))) h=.ret e2 h2:=by
   rw[cr];unfold jS;simp only[iN,IS,sT,By,BY,reduceIte,Bu,a1,AJ,AH,c1,cA0,k2];exact⟨_,rfl⟩
  obtain⟨e2,r1⟩:=hb;have r1:=ND r1;simp only[iN,IS]at r1;rw[ZX rfl,Z9];unfold gH;simp only[iN,IS,sT,By,BY,reduceIte,r1,Bg,Dc]
 refine⟨h2,?_,x2,R2⟩;rw[ZQ rfl];unfold d50;simp only[iN,IS,sT,By,BY,reduceIte,AX,Dv,CH,cv,cA0,kb,pd,De,Dc]
end
end
noncomputable section
open Go
set_option maxRecDepth 100000
theorem cy:prB=jV:=rfl
theorem Hb:d11=Nu:=rfl
section
variable {F:AEB}{e:Env}{h h' h0:Hp}{S:Nat->Prop}{A:At}{T M:List Nat}{c0 bad k:Nat}{arm:Int}{ks:List Kt}{fr:List Nat}{v lv fv:IN}{ov:Bool}
def VcI(h:Hp)(k:Nat)(v:IN)(l:List Nat):Prop:=(v=AEP/\l=[])\/Mk h k v l
theorem VcI.vals{k:Nat}{v:IN}{l:List Nat}(o:VcI h k v l):h.AEb v (l.map bv):=by
 rcases o with ⟨h1,h2⟩|o
 ·exact .inl ⟨h1,by rw[h2];rfl⟩
 ·exact o.vals
theorem VcI.ext{k:Nat}{v:IN}{l:List Nat}(o:VcI h k v l)(W:h.Wf)(x:h.Ext h'):VcI h' k v l:=by
 rcases o with o|o
 ·exact .inl o
 ·exact .inr (o.ext W x)
theorem VcI.same{k:Nat}{v:IN}{l:List Nat}(o:VcI h k v l)(hb:h'.bl=h.bl):VcI h' k v l:=by
 rcases o with o|o
 ·exact .inl o
 ·exact .inr (o.same hb)
theorem VcI.one{k:Nat}{v:IN}{l:List Nat}(o:VcI h k v l):cellsOf v=[v]/\oneCell v=true/\known v=true:=by
 rcases o with ⟨h1,_⟩|⟨b,el,h1,_⟩<;>rw[h1]<;>exact⟨rfl,rfl,rfl⟩
def Hp.VE(h:Hp)(u:IN)(xs:List IN):Prop:=h.AEb u xs\/((∃ r,u=.chan (some r))/\xs=[])
theorem Hp.VE.bl{u:IN}{l:List Nat}(V:h.VE u (l.map bv))(g:Hp):AE5 u g=.ok (AI AT (l.length:Int)) g:=by
 rcases V with V|⟨⟨r,rfl⟩,h2⟩
 ·exact V.bl g
 ·rw[yi.1 h2];rfl
theorem Hp.VE.ext{u:IN}{xs:List IN}(V:h.VE u xs)(W:h.Wf)(x:h.Ext h'):h'.VE u xs:=V.imp (fun V=>V.ext W x) id
theorem Hp.VE.vals{u:IN}{xs:List IN}(V:h.VE u xs)(hl:0<xs.length):h.AEb u xs:=by
 rcases V with V|⟨_,h2⟩
 ·exact V
 ·rw[h2]at hl;cases hl
theorem OB{n:Nat}(W:h.Wf){u:IN}{l:List Nat}(V:h.VE u (l.map bv))(hl:l.length<=900000):∃ h' v,call AC (n+1) 39 [u] h=.ok v h'/\h.Ext h'/\VcI h' h.next v l:=by
 rcases V with V|⟨⟨r,rfl⟩,h2⟩
 case inr=>
  obtain rfl:=yi.1 h2;have x1:=(Hp.Ext.refl W).AEA 0 [];have R:=Hp.Row.new W 0 [];have es:=fun (e:Env) (t:List IN)=>Kf (F:=call AC n) (e:=e) (t:=t) W
  generalize h.AEA 0 []=g at x1 R es;have ne:∀ e:Env,J 0 e=.chan (some r)->oEq Lo.k false (J 0) (kV (.slice none 0 0)) (call AC n) e h=.ok (.bool false) h:=fun e he=>by
   rw[dr];show(match eqV (.slice 5) (J 0 e) (.slice none 0 0)with|some r=>okB (false != r) h|none=>.no)=_;rw[he];exact Ff
  have big:=W.big;have ap:DQ 1 1 5 (.slice (some ⟨h.next,0,none⟩) 0 0) (.chan (some r)) g=.ok (.slice (some ⟨h.next,0,none⟩) 0 0) (g.wr h.next 0 []):=Hv x1.wf big R (fun k=>rfl) rfl;have R2:=R.AET x1.wf (off:=0) (vs:=[]) (IT _);refine⟨_,.slice (some ⟨h.next,0,none⟩) 0 0,?_,R.AEi x1 (IT _) (off:=0) (vs:=[]) (IT _),.inr ⟨h.next,0,rfl,.inl rfl,R2,IT _⟩⟩;rw[Iv rfl];unfold d39;simp only[iN,IS,sT,By,BY,reduceIte,ne,es,BF,ap,lV0]
 have V0:=V;rcases V with ⟨rfl,h2⟩|⟨b,off,c,el,L,h1,_⟩
 ·have ne:∀ e:Env,J 0 e=.slice none 0 0->oEq Lo.k false (J 0) (kV (.slice none 0 0)) (call AC n) e h=.ok (.bool true) h:=fun e he=>Jo (t:=0) dr he
  refine⟨h,AEP,?_,.refl W,.inl ⟨rfl,yi.1 h2⟩⟩;rw[Iv rfl];unfold d39;simp only[iN,IS,sT,By,BY,reduceIte,ne,lV0]
 ·rw[OF]at h1
  rw[h1]at V0 ⊢;obtain⟨h',v,a,b,c⟩:=Ql (n:=n) W V0 hl;exact⟨h',v,a,b,.inr c⟩
theorem Hp.KN.same{k:Nat}{v:IN}{ks:List Kt}(o:h.KN k v ks)(hb:h'.bl=h.bl):h'.KN k v ks:=by
 rcases o with o|⟨h1,b,h2,h3,h4⟩
 ·exact .inl (o.same hb)
 ·exact .inr ⟨h1,b,h2,h3.same hb,h4⟩
theorem gv(x0:h0.Ext h)(hk:h0.next<=k)(hk2:k<=h.next)(o:h.KN k v ks){x:Kt}(hu:oneCell x.u=true)(hl:ks.length<=100000):
  ∃ h' v',DQ 6 64 83 v (.slice (some ⟨h.next,0,none⟩) 1 1) (h.AEA 0 (AU x))=.ok v' h'/\h0.Ext h'/\h'.KO k v' (ks++[x])/\h.next<=h'.next:=by
 rcases o with o|⟨rfl,b,rfl,r,hb,AEO⟩
 ·obtain⟨h',v',a1,a2,a3,a4,_⟩:=US x0 hk hk2 o hu hl
  exact⟨h',v',a1,a2,a3,a4⟩
 ·have W:=x0.wf
  have x1:=x0.AEA 0 (AU x);have y1:=(Hp.Ext.refl W).AEA 0 (AU x);have Rw:=Hp.Row.new W 0 (AU x);have n1:(h.AEA 0 (AU x)).next=h.next+1:=rfl;have r1:=r.ext W y1;generalize h.AEA 0 (AU x)=h1 at x1 y1 Rw n1 r1;have hs:∀ K:List IN->R,BJ h1 6 (.slice (some ⟨h.next,0,none⟩) 1 1) 1 K=K (AU x):=fun K=>Rw.AGM (es:=6) (off:=0) (n:=1) (by show 0+1 * 6<=6;omega)
  obtain⟨h5,a1,a2,a3,a4,_⟩:=Ee (eb:=64) (en:=83) x1 r1 hs rfl rfl (by omega) (Gn hu) (by omega);refine⟨h5,_,a1,a2,.inr ⟨h1.next,rfl,?_,by omega,by have:=W.big;omega⟩,by omega⟩;show h5.Row h1.next 84 (AU x++[]);rw[wF];exact a3
theorem Fx.fresh{S:Nat->Prop}{h h1 h2:Hp}{b:Nat}(a:Fx S h h1)(x:Fx (fun i=>i=b) h1 h2)(hb:h.next<=b):Fx S h h2:=
 ⟨wd a.next x.next,fun i hi hs=>by
  have:=a.next;rw[x.get i (by omega) (by omega),a.get i hi hs],x.wf,fun L q1 q2 q3=>x.low L (a.low L q1 q2 q3) (wd q2 a.next) fun i hi=>by rw[hi];omega⟩
theorem XD{z:Kt}:∀ {B A:List Kt},z∈srt A B↔z∈A\/z∈B
 |[],A=>by simp[srt]
 |x::B,A=>by
  show z∈srt (Gs A x) B↔_;rw[XD,RP,wA];constructor
  ·rintro ((h|h)|h)
   ·exact .inr (.inl h)
   ·exact .inl h
   ·exact .inr (.inr h)
  ·rintro (h|h|h)
   ·exact .inl (.inr h)
   ·exact .inl (.inl h)
   ·exact .inr h
theorem XC:∀ (B A:List Kt),(srt A B).length=A.length+B.length
 |[],A=>rfl
 |x::B,A=>by
  show(srt (Gs A x) B).length=_;rw[XC,M0,vw];omega
theorem Ep{z:Kt}{ks:List Kt}:z∈Bq ks↔z∈ks:=by
 unfold Bq;rw[XD,<- wK,xz]
theorem Ie(ks:List Kt):(Bq ks).length=ks.length:=by
 unfold Bq;rw[XC,wT,xC];omega
theorem Sl.lst{ks':List Kt}{bl:Nat}{L0:List IN}(s:Sl h A T M c0 arm ks fr lv fv bad ov)(W:h.Wf)(x:Fx (fun b=>b=bl) h h')(nbl:¬ A.D bl)(Rl:h.Row bl 84 L0)(ls:h'.KS (fun b=>¬ A.D b) lv ks')(hm:∀ k∈ks',k∈ks)(hn:ks'.length=ks.length):Sl h' A T M c0 arm ks' fr lv fv bad ov:=by
 have kp:∀ b el L,b≠bl->h.Row b el L->h'.Row b el L:=fun b el L hb r=>x.row W r hb
 have nb:∀ b el L,(el=0\/el=6\/el=4)->h.Row b el L->b≠bl:=fun b el L he r=>Cp r Rl (by omega)
 refine⟨kp _ _ _ (nb _ _ _ (.inl rfl) s.row) s.row,s.dk.fr W x (nb _ _ _ (.inl rfl) s.dk.disk) (nb _ _ _ (.inl rfl) s.dk.med) (fun h=>(G6 Rl s.dk.map) h.symm),kp _ _ _ (nb _ _ _ (.inl rfl) s.tab) s.tab,s.tok,ls,fun y hy=>⟨(s.ko y (hm y hy)).1.keep fun b el L hb he r=>kp b el L (nb b el L (by omega) r) r,(s.ko y (hm y hy)).2⟩,?_,s.ne,by rw[hn];exact s.le⟩;rcases s.fs with h1|⟨b,el,h1,h2,h3,h4⟩
 ·exact .inl h1
 ·exact .inr ⟨b,el,h1,kp _ _ _ (nb b el _ (by omega) h2) h2,h3,h4⟩
end
end
noncomputable section
open Go
set_option maxRecDepth 100000
theorem oz:cmS=BI (AY 1 (Aw cmL)) cmE:=rfl
theorem Zg:cmB=fR:=rfl
theorem KZ:d12=PV:=rfl
section

end
end
noncomputable section
open Go
set_option maxRecDepth 100000
theorem du:Lo.k=.slice 5:=by kernel_rfl
theorem ox{n:Nat}{h:Hp}(W:h.Wf){u:IN}{xs:List IN}(V:h.AEb u xs)(ha:Bc xs=true)(hl:xs.length<=1000000):
  ∃ h' v,call AC (n+1) 39 [u] h=.ok v h'/\h.Ext h'/\h'.Cl (fun b=>h.next<=b/\b<h'.next) 5 v xs:=by
 rcases V with ⟨rfl,rfl⟩|⟨b,off,c,el,L,h1,h2,h3,h4⟩
 ·have ne:∀ e:Env,J 0 e=.slice none 0 0->oEq Lo.k false (J 0) (kV (.slice none 0 0)) (call AC n) e h=.ok (.bool true) h:=fun e he=>Jo (t:=0) du he
  refine⟨h,AEP,?_,.refl W,.inl ⟨rfl,rfl⟩⟩;rw[Iv rfl];unfold d39;simp only[iN,IS,sT,By,BY,reduceIte,ne,lV0]
 ·have V:h.AEb u xs:=.inr ⟨b,off,c,el,L,h1,h2,h3,h4⟩
  have x1:=(Hp.Ext.refl W).AEA 0 [];have R:=Hp.Row.new W 0 [];have es:=fun (e:Env) (t:List IN)=>Kf (F:=call AC n) (e:=e) (t:=t) W
  have n1:(h.AEA 0 []).next=h.next+1:=rfl;generalize h.AEA 0 []=g at x1 R es n1;have ne:∀ e:Env,J 0 e=u->oEq Lo.k false (J 0) (kV (.slice none 0 0)) (call AC n) e h=.ok (.bool false) h:=fun e he=>Jn (t:=0) du (he.trans h1)
  have V1:=V.ext W x1;have big:=W.big;rcases wg xs.length with hz|hz
  ·obtain rfl:xs=[]:=wh hz
   have ap:DQ 1 1 5 (.slice (some ⟨h.next,0,none⟩) 0 0) u g=.ok (.slice (some ⟨h.next,0,none⟩) 0 0) (g.wr h.next 0 []):=Hv x1.wf big R (fun k=>V1.src rfl k) V1.lenV;have R2:=R.AET x1.wf (off:=0) (vs:=[]) (IT _);refine⟨_,.slice (some ⟨h.next,0,none⟩) 0 0,?_,R.AEi x1 (IT _) (off:=0) (vs:=[]) (IT _),.inr ⟨h.next,0,rfl,R2,.inr ⟨rfl,rfl⟩,⟨IT _,?_⟩,big⟩⟩
   ·rw[Iv rfl]
    unfold d39;simp only[iN,IS,sT,By,BY,reduceIte,ne,es,BF,ap,lV0]
   ·have:=R.AEt (off:=0) (vs:=[]) (IT _)
    omega
  ·obtain⟨h2,a1,a2,a3,a4,a5⟩:=Ee (eb:=1) (en:=5) x1 R (es:=1) (fun k=>V1.src rfl k) V1.lenV (by omega) hz ha (by omega)
   refine⟨h2,_,?_,a2,.inr ⟨g.next,5+1,rfl,a3,.inl rfl,⟨by omega,by omega⟩,by omega⟩⟩;rw[Iv rfl];unfold d39;simp only[iN,IS,sT,By,BY,reduceIte,ne,es,BF,a1,lV0]
theorem aV:eqS=BI (AY 0 (Aw ebB)) eqE:=rfl
theorem Ty:d42=Z0:=rfl
section
variable {F:AEB}{e:Env}{h h':Hp}{S:Nat->Prop}{A:At}{bad m k p:Nat}{fr:List Nat}{v lv fv:IN}{ov:Bool}
theorem Xq(W:h.Wf){u v:IN}{a b:List Nat}(AKz:h.AEb u (a.map bv))(V:h.VE v (b.map bv))(hl:a.length<=900000):∃ h',call AC (m+1) 42 [u,v] h=.ok (.bool (decide (a=b))) h'/\h.Ext h':=by
 have Ul:=AKz.bl h;have Vl:=V.bl h;by_cases hab:a.length=b.length
 ·have c1:iNe (a.length:Int) (b.length:Int)=false:=by rw[Hl,hab];simp
  have pre:∃ e1,Z0 (call AC m) (AQ e0 0 [u,v]) h=eqS (call AC m) e1 h/\J 0 e1=u/\J 1 e1=v/\J 12 e1=AI AT (a.length:Int)/\J 13 e1=AI AT ((0:Nat):Int):=by
   unfold Z0;simp only[iN,IS,sT,By,BY,reduceIte,AX,Ul,Vl,AJ,AH,c1];exact⟨_,rfl,by simp[AD]⟩
  obtain⟨e1,p1,s0,s1,s12,s13⟩:=pre;have run:(∃ e' h',Aw ebB (call AC m) e1 h=.exit 0 e' h'/\h.Ext h'/\a=b)\/(∃ e' h',Aw ebB (call AC m) e1 h=.ret e' h'/\h.Ext h'/\a≠b/\J 4 e'=.bool false):=by
   refine BU (I:=fun i e' h'=>h.Ext h'/\J 0 e'=u/\J 1 e'=v/\J 12 e'=AI AT (a.length:Int)/\J 13 e'=AI AT (i:Int)/\i<=a.length/\(a=b↔a.drop i=b.drop i))
    (Q:=fun x=>(∃ e' h',x=.exit 0 e' h'/\h.Ext h'/\a=b)\/(∃ e' h',x=.ret e' h'/\h.Ext h'/\a≠b/\J 4 e'=.bool false)) a.length (by omega) (fun i e' h' ⟨x',t0,t1,t12,t13,hi,hr⟩=>?_) ⟨.refl W,s0,s1,s12,s13,wP _,by simp⟩
   by_cases hlt:i<a.length
   ·have xm:=x'.marked
    obtain⟨p,g1,g2⟩:=JL (AKz.ext W xm) hlt;obtain⟨q,g3,g4⟩:=JL ((V.ext W xm).vals (by rw[OF];omega)) (i:=i) (by omega);rw[GP hlt,GP (l:=b) (by omega)]at hr;generalize a.getD i 0=c at g2 hr;generalize b.getD i 0=d at g4 hr;have c1:=EF hlt;by_cases hcd:c=d
    ·left
     subst hcd;have c2:iNe (c:Int) (c:Int)=false:=by rw[Hl];simp
     have a3:=CF (i:=i) (h:=h'.marked) (by omega);have hrun:∃ e2,ebB (call AC m) e' h'=.norm e2 h'.marked/\J 0 e2=u/\J 1 e2=v/\J 12 e2=AI AT (a.length:Int)/\J 13 e2=AI AT ((i+1:Nat):Int):=by
      unfold ebB;simp only[sT,By,BY,reduceIte,AJ,AH,t13,t12,c1,A3,Ay,t0,g1,AK,g2,t1,g3,g4,c2,BG,a3];exact⟨_,rfl,by simp[AD,t0,t1,t12]⟩
     obtain⟨e2,r1,r2,r3,r4,r5⟩:=hrun;refine⟨hlt,e2,h'.marked,r1,xm,r2,r3,r4,r5,hlt,hr.trans ?_⟩;simp
    ·right
     have c2:iNe (c:Int) (d:Int)=true:=by rw[Hl];simp;omega
     have hrun:∃ e2,ebB (call AC m) e' h'=.ret e2 h'.marked/\J 4 e2=.bool false:=by
      unfold ebB;simp only[sT,By,BY,reduceIte,AJ,AH,t13,t12,c1,A3,Ay,t0,g1,AK,g2,t1,g3,g4,c2];exact⟨_,rfl,by simp[AD]⟩
     obtain⟨e2,r1,r2⟩:=hrun;rw[r1];refine⟨rfl,.inr ⟨e2,h'.marked,rfl,xm,fun h=>hcd ?_,r2⟩⟩;have:=hr.1 h;injection this
   ·right
    have c1:=Cz (show a.length<=i by omega);have hrun:∃ e2,ebB (call AC m) e' h'=.exit 0 e2 h':=by
     unfold ebB;simp only[sT,By,BY,reduceIte,AJ,AH,t13,t12,c1];exact⟨_,rfl⟩
    obtain⟨e2,r1⟩:=hrun;rw[r1];refine⟨rfl,.inl ⟨e2,h',rfl,x',hr.2 ?_⟩⟩;rw[xL (by omega),xL (by omega)]
  rcases run with ⟨e2,h2,r1,x2,r2⟩|⟨e2,h2,r1,x2,r2,r3⟩
  ·refine⟨h2,?_,x2⟩
   rw[To rfl,Ty,p1,aV,decide_eq_true r2];simp only[BB,Ap,r1,Az,A8];unfold eqE;simp only[sT,By,BY,reduceIte,lV0]
  ·refine⟨h2,?_,x2⟩
   rw[To rfl,Ty,p1,aV,decide_eq_false r2];simp only[BB,Ap,r1,Bz,CU,lV0,r3]
 ·have c1:iNe (a.length:Int) (b.length:Int)=true:=by rw[Hl];simp;omega
  refine⟨h,?_,.refl W⟩;rw[To rfl,Ty,decide_eq_false (fun h=>hab (by rw[h]))];unfold Z0;simp only[iN,IS,sT,By,BY,reduceIte,AX,Ul,Vl,AJ,AH,c1,lV0]
theorem Xs{e:Env}{h h':Hp}{g:O}{n:Nat}{v:IN}(hv:Kv n (g e) h=.ok v h'):FF [.cN g n] e h=.ok v h:=by
 have h1:G4 e h (.cN g n)=.ok v h':=hv;show(match G4 e h (.cN g n)with|.ok v _=>AEQ v fun v=>Lx h [v]|.no=>.no)=_;rw[h1];simp only[BH];rfl
theorem Hp.Cl.bs0{h:Hp}{S:Nat->Prop}{v:IN}{xs:List IN}(o:h.Cl S 5 v xs):h.BS S v xs:=by
 rcases o with h1|⟨b,el,h1,h2,h3,h4,h5⟩
 ·exact .inl h1
 ·exact .inr ⟨b,0,_,el,xs,h1,IT _,h2,by omega,by rw[xF,xn],h4,h3.elim (fun h=>.inr h) (fun h=>.inl h.1)⟩
theorem jO(W:h.Wf){x:Kt}(AKz:h.AEb x.u (x.l.map bv))(hl:x.l.length<=1000):∃ h' v',call AC (m+2) 65 [ktV x] h=.ok (Bv x.a x.b x.c x.s v') h'/\h.Ext h'/\oneCell v'=true/\h'.BS (fun b=>h.next<=b) v' (x.l.map bv):=by
 have bx:=fun (F:AEB) (e:Env) (he:J 0 e=ktV x)=>Hr (F:=F) W he
 have x1:=(Hp.Ext.refl W).AEA 0 (AU x);have R1:=Hp.Row.new W 0 (AU x);have n1:(h.AEA 0 (AU x)).next=h.next+1:=rfl;generalize h.AEA 0 (AU x)=h1 at bx x1 R1 n1;have al:=fun (F:AEB) (e:Env)=>Bx (F:=F) (e:=e) x1.wf (n:=5) (t:=Dz)
 have Ra:=Hp.Row.alloc x1.wf Ij (show(A4 0 0 0 0 AEP).length=5 from rfl);have y2:h1.Ext (h1.push (.cells Dz 5 0)):=(Hp.Ext.refl x1.wf).push _;have n2:(h1.push (.cells Dz 5 0)).next=h1.next+1:=rfl;generalize h1.push (.cells Dz 5 0)=h2 at al Ra y2 n2;have x2:=x1.trans y2;have R2:=R1.ext x1.wf y2;obtain⟨_,_,_,_,l4,_⟩:=Bt R2;obtain⟨h3,v',k3,y3,c3⟩:=ox (n:=m) x2.wf (AKz.ext W x2) (C6 _) (by rw[OF];omega);have onv:cellsOf v'=[v']/\oneCell v'=true:=⟨c3.vs.one.1,c3.vs.one.2.1⟩;have R3:=R2.ext x2.wf y3;have Ra3:=Ra.ext y2.wf y3;have big:=W.big;obtain⟨h4,st4,R4,n4,f4,e4⟩:=D0 y3.wf R3 (off:=4) (show 4<6 by omega) big onv.1 onv.2;have x3:=x2.trans y3;have x4:=e4 h x3 (IT _);have R4:h4.Row h.next 0 (AU ⟨x.a,x.b,x.c,x.s,x.l,x.p,v'⟩):=R4;obtain⟨_,_,_,_,_,_,_,ld⟩:=Bt R4;have Ra4:=f4.row y3.wf Ra3 (by omega);obtain⟨st5,ld5,x5,R5,n5⟩:=QH W x4 (by omega) Ra4 rfl (a:=x.a) (b:=x.b) (c:=x.c) (s:=x.s) (u:=v') onv.2;have f5:=Fx.wr (S:=fun b=>b=h1.next) f4.wf Ra4 (vs:=A4 x.a x.b x.c x.s v') (off:=0) (IT _) rfl;generalize h4.wr h1.next 0 (A4 x.a x.b x.c x.s v')=h5 at st5 ld5 x5 R5 f5;have vs5:h5.BS (fun b=>h.next<=b) v' (x.l.map bv):=(c3.bs0.keep fun b el L hb _ r=>f5.row f4.wf (f4.row y3.wf r (by omega)) (by omega)).mono fun b hb=>by omega
 refine⟨h5,v',?_,x5,onv.2,vs5⟩;have k3:call AC (m+1) 39 [x.u] h2=.ok v' h3:=k3;have hrun:∃ e2,d65 (call AC (m+1)) (AQ e0 0 [ktV x]) h=.ret e2 h5/\J 2 e2=pt h1.next:=by
  unfold d65;simp only[iN,IS,sT,By,BY,reduceIte,bx,al,AG,AM,vk,yc,AK,AO,l4,cA0,k3,Ab,st4,Aq,As,ld,st5];exact⟨_,rfl,by simp[AD]⟩
 obtain⟨e2,r1,r2⟩:=hrun;rw[oM rfl,r1,Bg,Xs (h':=h5) (v:=Bv x.a x.b x.c x.s v') (by rw[r2,As];exact ld5)]
theorem rC{g:O}{b:Nat}(hg:g e=pt b):oEq JH.k false g (kV (.pointer none)) F e h=.ok (.bool false) h:=G1 XI hg
theorem ex(R:h.Row A.bs 0 (slL A.bd A.tb lv fv bad ov)):call AC (m+1) 19 [pt A.bs] h=.ok (AI AT (bad:Int)) h:=by
 obtain⟨_,_,_,_,_,l5,_⟩:=A7 R;have p1:∀ (F:AEB) (e:Env) (g:Hp),J 0 e=pt A.bs->oEq JH.k false (J 0) (kV (.pointer none)) F e g=.ok (.bool false) g:=fun F e g he=>rC he
 rw[nT rfl];unfold d19;simp only[iN,IS,sT,By,BY,reduceIte,p1,Ao,Ad,AG,AM,vk,AK,AO,l5,lV0]
theorem ja(R:h.Row A.bs 0 (slL A.bd A.tb lv fv bad ov))(V:h.AEb fv (ints .i64 (fr.map wj))):call AC (m+1) 20 [pt A.bs] h=.ok (AI AT (fr.length:Int)) h:=by
 obtain⟨_,_,_,_,l4,_⟩:=A7 R;have p1:∀ (F:AEB) (e:Env) (g:Hp),J 0 e=pt A.bs->oEq JH.k false (J 0) (kV (.pointer none)) F e g=.ok (.bool false) g:=fun F e g he=>rC he
 have ln:=V.len;rw[show(ints .i64 (fr.map wj)).length=fr.length by unfold ints;rw[OF,OF]]at ln;rw[nU rfl];unfold d20;simp only[iN,IS,sT,By,BY,reduceIte,p1,Ao,Ad,AG,AM,vk,AK,AO,l4,AX,ln,lV0]
end
end
noncomputable section
open Go
set_option maxRecDepth 100000
section
variable {F:AEB}{e:Env}{h h' h0:Hp}{S:Nat->Prop}{A:At}{T M:List Nat}{bad m k p:Nat}{ks:List Kt}{v lv fv:IN}{ov:Bool}
def vf(T M:List Nat)(k:Kt):Prop:=∃ ns,HP T M k.p ns/\(at6 ns 1:Int)=k.a/\(at6 ns 2:Int)=k.b/\(at6 ns 3:Int)=k.c/\at6 ns 0=k.s/\dat M k.p (at6 ns 4)=k.l
theorem lB:aaS=BI (AY 0 (Aw aaB)) aaE:=rfl
theorem pG:d21=fy:=rfl
theorem jy:BQ Il.zero 1=A4 0 0 0 0 AEP:=by kernel_rfl
theorem dT(W:h.Wf){g:O}{a b c:Int}{s:Nat}{u:IN}(hg:g e=Bv a b c s u):Aj 1 (BQ Il.zero 1) [(0,5,g)] F e h=.ok (.slice (some ⟨h.next,0,none⟩) 1 1) (h.AEA 0 (A4 a b c s u)):=by
 rw[jy,CT,BE (hk:=by rw[hg];rfl),hg,show cellsOf (Bv a b c s u)=A4 a b c s u from rfl,if_pos (show(A4 a b c s u).length=5 from rfl),if_pos (show 0+5<=(A4 0 0 0 0 AEP).length from IT _),CO,Cw W];rfl
def KV(k:Kt):List IN:=A4 k.a k.b k.c k.s k.u
def flS(L:List Kt):List IN:=L.flatMap KV
theorem Pc:∀ L:List Kt,(flS L).length=L.length*5
 |[]=>rfl
 |k::l=>by
  show(KV k++flS l).length=_;rw[No,Pc l,vw];show 5+l.length*5=_;omega
theorem ga(a b:List Kt):flS (a++b)=flS a++flS b:=List.flatMap_append
def Hp.AL(h:Hp)(k:Nat)(v:IN)(ks:List Kt):Prop:=(v=AEP/\ks=[])\/∃ b L,v=.slice (some ⟨b,0,none⟩) ks.length ks.length/\h.Row b 44 (flS L)/\L.map Kt.core=ks.map Kt.core/\k<=b/\∀ x∈L,h.BS (fun b=>k<=b) x.u (x.l.map bv)
theorem PK(W:h.Wf)(Rs:h.Row A.bs 0 (slL A.bd A.tb lv fv bad ov))(K:h.KS S lv ks)(hk:∀ k∈ks,h.AEb k.u (k.l.map bv)/\k.l.length<=1000/\oneCell k.u=true)(hl:ks.length<=1000):
  ∃ h' v,call AC (m+4) 21 [pt A.bs] h=.ok v h'/\h.Ext h'/\h'.AL h.next v ks:=by
 have p1:∀ (F:AEB) (e:Env) (g:Hp),J 0 e=pt A.bs->oEq JH.k false (J 0) (kV (.pointer none)) F e g=.ok (.bool false) g:=fun F e g he=>rC he
 obtain⟨_,_,_,l3,_⟩:=A7 Rs;have ln:=K.len h;have pre:∃ e1,fy (call AC (m+3)) (AQ e0 0 [pt A.bs]) h=aaS (call AC (m+3)) e1 h/\J 3 e1=AEP/\J 11 e1=lv/\J 12 e1=AI AT (ks.length:Int)/\J 13 e1=AI AT ((0:Nat):Int):=by
  unfold fy;simp only[iN,IS,sT,By,BY,reduceIte,p1,Ao,Ad,AG,AM,vk,AK,AO,l3,AX,ln];exact⟨_,rfl,by simp[AD]⟩
 obtain⟨e1,q1,s3,s11,s12,s13⟩:=pre;have run:∃ e' h' v,Aw aaB (call AC (m+3)) e1 h=.exit 0 e' h'/\h.Ext h'/\J 3 e'=v/\h'.AL h.next v ks:=by
  refine BU (I:=fun i e' h'=>∃ v,h.Ext h'/\J 3 e'=v/\J 11 e'=lv/\J 12 e'=AI AT (ks.length:Int)/\J 13 e'=AI AT (i:Int)/\i<=ks.length/\h'.AL h.next v (ks.take i))
   (Q:=fun x=>∃ e' h' v,x=.exit 0 e' h'/\h.Ext h'/\J 3 e'=v/\h'.AL h.next v ks) ks.length (by omega) (fun i e' h' ⟨v,x',t3,t11,t12,t13,hi,hv⟩=>?_) ⟨_,.refl W,s3,s11,s12,s13,wP _,.inl ⟨rfl,rfl⟩⟩
  have W':=x'.wf;by_cases hlt:i<ks.length
  ·left
   have c1:=EF hlt;obtain⟨x,hx⟩:∃ x,ks[i]? =some x:=⟨_,List.getElem?_eq_getElem hlt⟩;obtain⟨AKz,ul,ou⟩:=hk x (vy hx);obtain⟨bb,_,ix,ld,_⟩:=(K.ext W x').at hx;have al:=fun (F:AEB) (e:Env)=>Bx (F:=F) (e:=e) W' (n:=6) (t:=Du)
   have Ra:=Hp.Row.alloc W' HE (show(AU K0).length=6 from rfl);have y1:h'.Ext (h'.push (.cells Du 6 0)):=(Hp.Ext.refl W').push _;generalize h'.push (.cells Du 6 0)=h1 at al Ra y1;obtain⟨st,ld2,y2,R5,n2⟩:=Nf W' y1 (IT _) Ra rfl (k:=x) ou;generalize h1.wr h'.next 0 (AU x)=h2 at st ld2 y2 R5 n2;have x2:=x'.trans y2;obtain⟨h3,v',k3,y3,ov',vv'⟩:=jO (m:=m+1) x2.wf (AKz.ext W x2) ul;have x3:=x2.trans y3;have sl:=fun (F:AEB) (e:Env) (he:J 19 e=Bv x.a x.b x.c x.s v')=>dT (F:=F) x3.wf he
   have x4:=x3.AEA 0 (A4 x.a x.b x.c x.s v');have y4:=(Hp.Ext.refl x3.wf).AEA 0 (A4 x.a x.b x.c x.s v');have Rw:=Hp.Row.new x3.wf 0 (A4 x.a x.b x.c x.s v');generalize h3.AEA 0 (A4 x.a x.b x.c x.s v')=h4 at sl x4 y4 Rw;have hs:∀ K:List IN->R,BJ h4 5 (.slice (some ⟨h3.next,0,none⟩) 1 1) 1 K=K (A4 x.a x.b x.c x.s v'):=fun K=>Rw.AGM (es:=5) (off:=0) (n:=1) (by show 0+1 * 5<=5;omega)
   have ha:Bc (A4 x.a x.b x.c x.s v')=true:=by
    show(bif oneCell v' then true else false)=true;rw[ov'];rfl
   have big:=W.big;have htk:ks.take (i+1)=ks.take i++[x]:=by rw[List.take_add_one,hx];rfl
   have hil:(ks.take i).length=i:=by rw[wT];omega
   have vn:h4.BS (fun b=>h.next<=b) v' (x.l.map bv):=(vv'.ext x3.wf y4).mono fun b hb=>by have:=x2.next;omega
   have app:∃ h5 b5 L5,DQ 5 56 43 v (.slice (some ⟨h3.next,0,none⟩) 1 1) h4=.ok (.slice (some ⟨b5,0,none⟩) (i+1) (i+1)) h5/\h.Ext h5/\h5.Row b5 44 (flS L5)/\L5.map Kt.core=(ks.take (i+1)).map Kt.core/\h.next<=b5/\∀ y∈L5,h5.BS (fun b=>h.next<=b) y.u (y.l.map bv):=by
    rcases hv with ⟨hv,h0⟩|⟨b,L,hv,r,hL,hb,hvs⟩
    ·have h0:i=0:=by rw[h0]at hil;exact hil.symm
     obtain⟨h5,a1,a2,a3,a4,_,a6⟩:=L2 (eb:=56) (en:=43) x4 hs rfl rfl ha (by omega);exact⟨h5,_,[{x with u:=v'}],by rw[hv,h0];exact a1,a2,a3,by rw[htk,h0];rfl,x4.next,fun y hy=>by rw[v7.1 hy];exact vn.ext x4.wf a6⟩
    ·rw[hil]at hv
     have hLl:L.length=i:=by rw[<- OF (f:=Kt.core),hL,OF,hil]
     have r4:=((r.ext W' y2).ext x2.wf y3).ext x3.wf y4;obtain⟨h5,a1,a2,a3,_,_,a6⟩:=Mu (eb:=56) (en:=43) (n:=i) x4 hs rfl rfl (by omega) ha r4 (by rw[Pc,hLl]) hb (by omega) (by omega);refine⟨h5,_,L++[{x with u:=v'}],by rw[hv];exact a1,a2,by rw[ga];exact a3,by rw[htk,wa,wa,hL];rfl,x4.next,fun y hy=>?_⟩;have kp:∀ y:Kt,h4.BS (fun b=>h.next<=b) y.u (y.l.map bv)->h5.BS (fun b=>h.next<=b) y.u (y.l.map bv):=fun y o=>by
      rcases o with h1|⟨b6,off,c,el,L6,q1,q2,q3,q4,q5,q6,q7⟩
      ·exact .inl h1
      ·exact .inr ⟨b6,off,c,el,L6,q1,q2,a6 b6 el L6 (Cp q3 r4 (by omega)) q3,q4,q5,q6,q7⟩
     rcases wK.1 hy with h1|h1
     ·exact kp y ((((hvs y h1).ext W' y2).ext x2.wf y3).ext x3.wf y4)
     ·rw[v7.1 h1];exact kp _ vn
   obtain⟨h5,b5,L5,k5,x5,R5',hL5,hb5,AJ3⟩:=app;have a3:=CF (i:=i) (h:=h5) (by omega);have hrun:∃ e2,aaB (call AC (m+3)) e' h'=.norm e2 h5/\J 3 e2=.slice (some ⟨b5,0,none⟩) (i+1) (i+1)/\J 11 e2=lv/\J 12 e2=AI AT (ks.length:Int)/\J 13 e2=AI AT ((i+1:Nat):Int):=by
    unfold aaB;simp only[sT,By,BY,reduceIte,AJ,AH,t13,t12,c1,Ay,t11,ix,Aq,As,ld,al,Ab,st,ld2,cA0,k3,sl,BF,t3,k5,BG,a3];exact⟨_,rfl,by simp[AD,t11,t12]⟩
   obtain⟨e2,r1,r2,r3,r4,r5⟩:=hrun;exact⟨hlt,e2,h5,r1,_,x5,r2,r3,r4,r5,by omega,.inr ⟨b5,L5,by rw[htk,No,hil];rfl,R5',hL5,hb5,AJ3⟩⟩
  ·right
   have hie:i=ks.length:=by omega
   have c1:=Cz (show ks.length<=i by omega);have hrun:∃ e2,aaB (call AC (m+3)) e' h'=.exit 0 e2 h'/\J 3 e2=v:=by
    unfold aaB;simp only[sT,By,BY,reduceIte,AJ,AH,t13,t12,c1];exact⟨_,rfl,by simp[AD,t3]⟩
   obtain⟨e2,r1,r2⟩:=hrun;rw[r1];rw[hie,xn]at hv;exact⟨rfl,e2,h',v,rfl,x',r2,hv⟩
 obtain⟨e2,h2,v,r1,x2,r2,hv⟩:=run;have key:call AC (m+4) 21 [pt A.bs] h=.ok v h2:=by
  rw[nV rfl,pG,q1,lB];simp only[BB,Ap,r1,Az,A8];unfold aaE;simp only[sT,By,BY,reduceIte,r2,lV0]
 exact⟨h2,v,key,x2,hv⟩
end
end
noncomputable section
open Go
set_option maxRecDepth 100000
def DX(ks:List Kt)(n:Nat)(a b c:Int)(l:List Nat):Option Int:=
 if AEN a b c 1 l.length=false\/100<l.length then some 2
 else match ks.find? (BN a b c)with
  |some k=>if k.l=l then some 0 else some 60
  |none=>if Bm a b c ks=true then some 61 else if n=0 then some 62 else none
section
variable {F:AEB}{e:Env}{h h':Hp}{A:At}{T M:List Nat}{c0 bad m:Nat}{arm:Int}{ks:List Kt}{fr:List Nat}{lv fv:IN}
theorem dB(W:h.Wf)(s:Sl h A T M c0 arm ks fr lv fv bad false){a b c:Int}{l:List Nat}{u:IN}(V:h.VE u (l.map bv))(hl:l.length<=1000){z:Int}(hz:DX ks fr.length a b c l=some z):
  ∃ h',call AC (m+8) 11 [pt A.bs,AI AT a,AI AT b,AI AT c,u] h=.ok (AI AT z) h'/\h.Ext h':=by
 have hkl:=s.le.1;have c00:iNe 0 0=false:=CY rfl;have k0:=Ns (m:=m+6) s.row;obtain⟨h1,vc,k1,x1,mk1⟩:=OB (n:=m+6) W V (by omega);have oc:=mk1.one;have bl:=fun (F:AEB) (e:Env) (e1:J 1 e=AI AT a) (e2:J 2 e=AI AT b) (e3:J 3 e=AI AT c) (e4:J 28 e=vc)=>Qi (F:=F) (h:=h1) (g1:=J 1) (g2:=J 2) (g3:=J 3) (g5:=J 28) e1 e2 e3 e4 oc.1 oc.2.2
 have al:=fun (F:AEB) (e:Env)=>Bx (F:=F) (e:=e) x1.wf (n:=5) (t:=Dz)
 have Ra:=Hp.Row.alloc x1.wf Ij (show(A4 0 0 0 0 AEP).length=5 from rfl);have y2:h1.Ext (h1.push (.cells Dz 5 0)):=(Hp.Ext.refl x1.wf).push _;generalize h1.push (.cells Dz 5 0)=h2 at al Ra y2;obtain⟨st,_,y3,R12,n3⟩:=QH x1.wf y2 (IT _) Ra rfl (a:=a) (b:=b) (c:=c) (s:=1) (u:=vc) oc.2.1;generalize h2.wr h1.next 0 (A4 a b c 1 vc)=h3 at st y3 R12 n3;have x3:=x1.trans y3;obtain⟨_,_,_,_,_,AGa⟩:=CC R12;have lnc:∀ g,AE5 vc g=.ok (AI AT (l.length:Int)) g:=fun g=>mk1.vals.bl g
 have k4:=Jz (n:=m+6) x3.wf (a:=a) (b:=b) (c:=c) (s:=1) (u:=vc) lnc;have y4:=(Hp.Ext.refl x3.wf).AEA 0 (A4 a b c 1 vc);generalize h3.AEA 0 (A4 a b c 1 vc)=h4 at k4 y4;have x4:=x3.trans y4;have lnu:∀ g:Hp,AE5 u g=.ok (AI AT (l.length:Int)) g:=fun g=>V.bl g
 obtain⟨_,_,l2,_⟩:=A7 (s.row.ext W x4);have s4:=s.ext W x4;unfold DX at hz;by_cases hr:AEN a b c 1 l.length=false
 ·rw[if_pos (.inl hr)]at hz
  cases hz;rw[hr]at k4;refine⟨h4,?_,x4⟩;rw[HZ rfl,Hb];unfold Nu;simp only[iN,IS,sT,By,BY,reduceIte,gD,cA0,k0,AJ,AH,c00,k1,bl,al,Ab,st,Aq,As,AGa,k4,Bi,Bh,yA,lV0]
 ·have hr':AEN a b c 1 l.length=true:=by
   cases hq:AEN a b c 1 l.length
   ·exact absurd hq hr
   ·rfl
  rw[hr']at k4;by_cases AFy:100<l.length
  ·rw[if_pos (.inr AFy)]at hz
   cases hz;have c1:iGt (l.length:Int) 100=true:=GV (by omega);refine⟨h4,?_,x4⟩;rw[HZ rfl,Hb];unfold Nu;simp only[iN,IS,sT,By,BY,reduceIte,gD,cA0,k0,AJ,AH,c00,k1,bl,al,Ab,st,Aq,As,AGa,k4,Bi,Bh,xJ,AX,lnu,Ao,Ad,AG,AM,vk,AK,AO,l2,c1,lV0]
  ·rw[if_neg (by
    rintro (h|h)
    ·exact hr h
    ·exact AFy h)]at hz
   have c1:iGt (l.length:Int) 100=false:=Fa (by omega);obtain⟨h5,k5,x5⟩:=IM (m:=m+4) x4.wf s4.row s4.ls.ks (by omega) a b c;have x45:=x4.trans x5;have s5:=s.ext W x45;rcases Ef (BN a b c) ks 0 with ⟨e1,e2⟩|⟨j,kx,e1,e2,e3⟩
   ·rw[e2]at k5
    rw[e1]at hz;simp only at hz;have c2:iGe (-1) 0=false:=FZ (by omega);obtain⟨h6,k6,x6⟩:=Gg (m:=m+3) x45.wf s5.row s5.ls.ks (by omega) a b c;have x46:=x45.trans x6;have s6:=s.ext W x46;cases hst:Bm a b c ks with
    |true=>
     rw[hst]at k6 hz;cases hz;refine⟨h6,?_,x46⟩;rw[HZ rfl,Hb];unfold Nu;simp only[iN,IS,sT,By,BY,reduceIte,gD,cA0,k0,AJ,AH,c00,k1,bl,al,Ab,st,Aq,As,AGa,k4,Bi,Bh,xJ,AX,lnu,Ao,Ad,AG,AM,vk,AK,AO,l2,c1,k5,c2,k6,BB,Ap,Bz,CU,lV0]
    |false=>
     rw[hst]at k6 hz;rw[if_neg (by decide)]at hz;by_cases hf:fr.length=0
     ·rw[if_pos hf]at hz
      cases hz;obtain⟨_,_,_,_,l4,_⟩:=A7 s6.row;have lnf:=s6.fs.vals.len;have hil:(ints .i64 (fr.map wj)).length=fr.length:=by unfold ints;rw[OF,OF]
      rw[hil,hf]at lnf;have c3:iEq ((0:Nat):Int) 0=true:=Ci rfl;refine⟨h6,?_,x46⟩;rw[HZ rfl,Hb];unfold Nu;simp only[iN,IS,sT,By,BY,reduceIte,gD,cA0,k0,AJ,AH,c00,k1,bl,al,Ab,st,Aq,As,AGa,k4,Bi,Bh,xJ,AX,lnu,Ao,Ad,AG,AM,vk,AK,AO,l2,c1,k5,c2,k6,l4,lnf,c3,BB,Ap,Bz,CU,lV0]
     ·rw[if_neg hf]at hz;cases hz
   ·rw[e3,vk]at k5
    rw[e1]at hz;simp only at hz;have c2:iGe (j:Int) 0=true:=Hi (by omega);obtain⟨_,_,_,l3,_⟩:=A7 s5.row;obtain⟨bb,_,ix,_,lde⟩:=s5.ls.ks.at e2;have lu:=lde 4 kx.u rfl;have hkm:=vy e2;obtain⟨h6,k6,x6⟩:=Xq (m:=m+6) x45.wf ((s5.ko kx hkm).1.vs.vals) (V.ext W x45) (by have:=(s5.ko kx hkm).2.2.1;omega);have k6:call AC (m+7) 42 [kx.u,u] h5=.ok (.bool (decide (kx.l=l))) h6:=k6;refine⟨h6,?_,x45.trans x6⟩;by_cases hkl:kx.l=l
    ·rw[if_pos hkl]at hz
     cases hz;rw[decide_eq_true hkl]at k6;rw[HZ rfl,Hb];unfold Nu;simp only[iN,IS,sT,By,BY,reduceIte,gD,cA0,k0,AJ,AH,c00,k1,bl,al,Ab,st,Aq,As,AGa,k4,Bi,Bh,xJ,AX,lnu,Ao,Ad,AG,AM,vk,AK,AO,l2,c1,k5,c2,l3,Ay,ix,lu,yc,k6,lV0]
    ·rw[if_neg hkl]at hz
     cases hz;rw[decide_eq_false hkl]at k6;rw[HZ rfl,Hb];unfold Nu;simp only[iN,IS,sT,By,BY,reduceIte,gD,cA0,k0,AJ,AH,c00,k1,bl,al,Ab,st,Aq,As,AGa,k4,Bi,Bh,xJ,AX,lnu,Ao,Ad,AG,AM,vk,AK,AO,l2,c1,k5,c2,l3,Ay,ix,lu,yc,k6,lV0]
end
end
noncomputable section
open Go
set_option maxRecDepth 100000
theorem nZ{n:Nat}{args:List IN}{h:Hp}(hl:vx (BA args) 160=true):call AC (vo n) 28 args h=A5 [.t (J 2)] (d28 (call AC n) (AQ e0 0 args) h):=by
 have hb:AC.get 28=some b28:=by kernel_rfl
 rw[Ae hb];have hd:b28=⟨[.t (J 2)],d28⟩:=by kernel_rfl
 rw[hd,AW hl]
theorem oN{n:Nat}{args:List IN}{h:Hp}(hl:vx (BA args) 160=true):call AC (vo n) 67 args h=A5 [.t (J 2)] (d67 (call AC n) (AQ e0 0 args) h):=by
 have hb:AC.get 67=some b67:=by kernel_rfl
 rw[Ae hb];have hd:b67=⟨[.t (J 2)],d67⟩:=by kernel_rfl
 rw[hd,AW hl]
theorem oX{n:Nat}{args:List IN}{h:Hp}(hl:vx (BA args) 160=true):call AC (vo n) 82 args h=A5 [] (d82 (call AC n) (AQ e0 0 args) h):=by
 have hb:AC.get 82=some b82:=by kernel_rfl
 rw[Ae hb];have hd:b82=⟨[],d82⟩:=by kernel_rfl
 rw[hd,AW hl]
theorem fJ{n:Nat}{args:List IN}{h:Hp}(hl:vx (BA args) 160=true):call AC (vo n) 108 args h=A5 [] (fd (call AC n) (AQ e0 0 args) h):=by
 have hb:AC.get 108=some XW:=by kernel_rfl
 rw[Ae hb];have hd:XW=⟨[],fd⟩:=by kernel_rfl
 rw[hd,AW hl]
theorem fM{n:Nat}{args:List IN}{h:Hp}(hl:vx (BA args) 160=true):call AC (vo n) 119 args h=A5 [] (fl (call AC n) (AQ e0 0 args) h):=by
 have hb:AC.get 119=some Xb:=by kernel_rfl
 rw[Ae hb];have hd:Xb=⟨[],fl⟩:=by kernel_rfl
 rw[hd,AW hl]
theorem fN{n:Nat}{args:List IN}{h:Hp}(hl:vx (BA args) 160=true):call AC (vo n) 125 args h=A5 [.t (J 4)] (fq (call AC n) (AQ e0 0 args) h):=by
 have hb:AC.get 125=some Xc:=by kernel_rfl
 rw[Ae hb];have hd:Xc=⟨[.t (J 4)],fq⟩:=by kernel_rfl
 rw[hd,AW hl]
end
end Go.Proofs.YtedbmmfebjfibaaGreat
