/-
  Part ZN of what Lawnr stands on: printed by program, names and spaces cut.
-/
import Derived.Test.YtbjadbhkogcfeaaGreatZM
open Go.Value renaming int→AI
open Go.IntKind renaming i64→AT
open Nat renaming reduceEqDiff→BY,reduceLT→By,reduceAdd→IS,le_refl→IT,zero_add→If,zero_le→yK,le_trans→yP,eq_zero_or_pos→yd,mul_comm→zT,reduceLeDiff→zr
open Go renaming Value→IN,IntKind→xy
open List renaming length_append→No,length_map→OF,getElem?_eq_getElem→sh,getD_eq_getElem?_getD→xV,length_cons→xY,mem_cons_of_mem→xZ,mem_cons_self→xa,append_nil→xx,mem_cons→xz,mem_singleton→yE,append_assoc→yF,getElem?_append_right→yJ,mem_append→yL,length_take→yM,mem_append_right→yR,length_nil→yS,nil_append→yU,mem_append_left→yX,map_append→yc,length_singleton→yg,drop_zero→yv,range→zB,eq_nil_of_length_eq_zero→zE,take_length→zK,take_append_drop→zN,cons_append→zb,range_succ→zh,take_of_length_le→zq,reverse_append→AAE,append_eq→AAH,filter_append→AAJ,singleton_append→AAU,reverse_reverse→AAa,length_reverse→AAj,drop→ABR,take→ABY,take_append_of_le_length→ABe,mem_reverse→ABh,length_range→ABr,reverse_cons→ACu
open Int renaming sub→yZ,ofNat→zA
open Go.Value renaming int→ye
open Bool renaming not_false→yh
open Classical renaming propDecidable→AAf,choose→ADo,choose_spec→ADy
set_option linter.unusedVariables false
set_option linter.unusedSimpArgs false
namespace Go.Proofs.YtbjadbhkogcfeaaGreat
noncomputable section
open Go
set_option maxRecDepth 100000
theorem QU{k:xy}{Z:List Int}:(ints k Z).length=Z.length:=OF ..
theorem gk{k:xy}{Z:List Int}{i:Nat}(hi:i<Z.length):(ints k Z).getD i AED=.int k (Z.getD i 0):=by
 unfold ints;rw[xV,List.getElem?_map,xV,sh hi];rfl
theorem Hp.AEX.int{h:Hp}{k:xy}{u:IN}{Z:List Int}(V:h.AEX u (ints k Z)){i:Nat}(hi:i<Z.length):∃ a,AE2 1 u (AI AT (i:Int)) h=.ok (.pointer (some a)) h/\Hd (.pointer (some a)) h=.ok (.int k (Z.getD i 0)) h:=by
 obtain⟨a,g1,g2⟩:=V.at (i:=i) (by rw[QU];exact hi);rw[gk hi]at g2;exact⟨a,g1,g2⟩
theorem Hp.AEX.AJu{h:Hp}{k:xy}{u:IN}{Z:List Int}(V:h.AEX u (ints k Z)):AEs u h=.ok (AI AT (Z.length:Int)) h:=by
 have:=V.len;rwa [QU]at this
def Il(x:Int):Nat->List Int->Int
 |_,[]=> -1
 |i,z::l=>if x=z then(i:Int)else Il x (i+1) l
theorem Us(x:Int):∀ (zs:List Int) (i:Nat),(x∉zs/\Il x i zs= -1)\/(x∈zs/\∃ k,k<zs.length/\Il x i zs=((i+k:Nat):Int)/\zs.getD k 0=x)
 |[],i=>.inl ⟨fun h=>(by cases h),rfl⟩
 |z::l,i=>by
  unfold Il;by_cases h:x=z
  ·rw[if_pos h]
   exact .inr ⟨by rw[h];exact xa,0,Nat.succ_pos _,rfl,h.symm⟩
  ·rw[if_neg h]
   rcases Us x l (i+1)with ⟨h1,h2⟩|⟨h1,k,h2,h3,h4⟩
   ·refine .inl ⟨fun hx=>?_,h2⟩
    rcases xz.1 hx with hx|hx
    ·exact h hx
    ·exact h1 hx
   ·exact .inr ⟨xZ _ h1,k+1,Nat.succ_lt_succ h2,by rw[h3];congr 1;omega,h4⟩
theorem gi(x:Int)(zs:List Int):(0<=Il x 0 zs)↔x∈zs:=by
 rcases Us x zs 0 with ⟨h1,h2⟩|⟨h1,k,_,h3,_⟩
 ·rw[h2];exact⟨fun h=>by omega,fun h=>absurd h h1⟩
 ·rw[h3];exact⟨fun _=>h1,fun _=>by omega⟩
theorem gh(x:Int)(zs:List Int):iGe (Il x 0 zs) 0=decide (x∈zs):=by
 rw[Ol,decide_eq_decide];exact gi x zs
theorem rB:ixS=BI (Ab 0 (A3 ixB)) ixE:=rfl
theorem fV:fU=UP:=rfl
theorem gn{F:AEA}{h:Hp}{u:IN}{zs:List Int}{x:Int}(V:h.AEX u (ints .i64 zs))(hl:zs.length<900000){e:Env}(s0:J 0 e=u)(s1:J 1 e=AI AT x)(s7:J 7 e=AI AT (zs.length:Int))(s8:J 8 e=AI AT 0):
  (∃ e',A3 ixB F e h=.exit 0 e' h/\Il x 0 zs= -1)\/(∃ e',A3 ixB F e h=.ret e' h/\J 4 e'=AI AT (Il x 0 zs)):=by
 refine Bd (I:=fun i e' h'=>h'=h/\J 0 e'=u/\J 1 e'=AI AT x/\J 7 e'=AI AT (zs.length:Int)/\J 8 e'=AI AT (i:Int)/\i<=zs.length/\Il x 0 zs=Il x i (zs.drop i))
  (Q:=fun y=>(∃ e',y=.exit 0 e' h/\Il x 0 zs= -1)\/(∃ e',y=.ret e' h/\J 4 e'=AI AT (Il x 0 zs))) zs.length (by omega) (fun i e' h' ⟨hh,t0,t1,t7,t8,hi,hr⟩=>?_)
  ⟨rfl,s0,s1,s7,s8,yK _,rfl⟩
 subst hh;by_cases hlt:i<zs.length
 ·obtain⟨a,g1,g2⟩:=V.int hlt
  have hd:zs.drop i=zs.getD i 0::zs.drop (i+1):=by
   rw[List.drop_eq_getElem_cons hlt,xV,sh hlt];rfl
  rw[hd]at hr;generalize zs.getD i 0=z at g2 hr;have hr:Il x 0 zs=if x=z then(i:Int)else Il x (i+1) (zs.drop (i+1)):=hr
  have c1:iLt (i:Int) (zs.length:Int)=true:=by rw[DC];simp;omega
  by_cases hx:x=z
  ·right
   have c2:iEq x z=true:=by rw[DY];simpa using hx
   have hrun:∃ e2,ixB F e' h'=.ret e2 h'/\J 4 e2=AI AT (i:Int):=by
    unfold ixB;simp only[sT,By,BY,reduceIte,AK,AJ,t8,t7,c1,A9,t0,g1,AN,g2,t1,c2];exact⟨_,rfl,by simp[AG]⟩
   obtain⟨e2,r1,r2⟩:=hrun;rw[r1];refine⟨rfl,.inr ⟨e2,rfl,?_⟩⟩;rw[r2,hr,if_pos hx]
  ·left
   have c2:iEq x z=false:=by rw[DY];simpa using hx
   have a3:Fg .i64 (AI AT (i:Int)) (AI AT 1) h'=.ok (AI AT ((i+1:Nat):Int)) h':=by
    have:(i:Int)+1=((i+1:Nat):Int):=by omega
    rw[Ep,this,Bn (by omega)]
   have hrun:∃ e2,ixB F e' h'=.norm e2 h'/\J 0 e2=u/\J 1 e2=AI AT x/\J 7 e2=AI AT (zs.length:Int)/\J 8 e2=AI AT ((i+1:Nat):Int):=by
    unfold ixB;simp only[sT,By,BY,reduceIte,AK,AJ,t8,t7,c1,A9,t0,g1,AN,g2,t1,c2,BM,a3];exact⟨_,rfl,by simp[AG,t0,t1,t7]⟩
   obtain⟨e2,r1,r2,r3,r4,r5⟩:=hrun;rw[if_neg hx]at hr;exact⟨hlt,e2,h',r1,rfl,r2,r3,r4,r5,hlt,hr⟩
 ·right
  have c1:iLt (i:Int) (zs.length:Int)=false:=by rw[DC];simp;omega
  have hrun:∃ e2,ixB F e' h'=.exit 0 e2 h':=by
   unfold ixB;simp only[sT,By,BY,reduceIte,AK,AJ,t8,t7,c1];exact⟨_,rfl⟩
  obtain⟨e2,r1⟩:=hrun;rw[r1];refine⟨rfl,.inl ⟨e2,rfl,?_⟩⟩;rw[hr,List.drop_of_length_le (by omega)];rfl
theorem Zp{n:Nat}{h:Hp}{u:IN}{zs:List Int}{x:Int}(V:h.AEX u (ints .i64 zs))(hl:zs.length<900000):call AC (n+1) 121 [u,AI AT x] h=.ok (AI AT (Il x 0 zs)) h:=by
 have pre:∃ e1,UP (call AC n) (AS e0 0 [u,AI AT x]) h=ixS (call AC n) e1 h/\J 0 e1=u/\J 1 e1=AI AT x/\J 7 e1=AI AT (zs.length:Int)/\J 8 e1=AI AT 0:=by
  unfold UP;simp only[iN,IS,Gc,Gm,Dz,Gl,HY,AG,By,BY,reduceIte,Af,V.AJu];exact⟨_,rfl,by simp[AG]⟩
 obtain⟨e1,p1,p0,pp1,p7,p8⟩:=pre;rw[eG rfl,fV,p1,rB];rcases gn (F:=call AC n) V hl p0 pp1 p7 p8 with ⟨e2,q1,q2⟩|⟨e2,q1,q2⟩
 ·simp only[BJ,Ay,q1,A7,BA]
  unfold ixE;simp only[sT,By,BY,reduceIte,lV0,q2]
 ·simp only[BJ,Ay,q1,CM,C8,lV0,q2]
theorem Pu{n:Nat}{h:Hp}{u:IN}{zs:List Int}{x:Int}(V:h.AEX u (ints .i64 zs))(hl:zs.length<900000):call AC (n+2) 80 [u,AI AT x] h=.ok (.bool (decide (x∈zs))) h:=by
 have k1:=Zp (n:=n) (x:=x) V hl;rw[pJ rfl];unfold d80;simp only[iN,IS,sT,By,BY,reduceIte,cA0,k1,AK,AJ,gh,lV0]
section
variable {F:AEA}{e:Env}{h h' h0:Hp}{S:Nat->Prop}{m k:Nat}{ks:List Kt}{v:IN}
def Hp.KO(h:Hp)(k:Nat)(v:IN)(ks:List Kt):Prop:=(v=.slice none 0 0/\ks=[])\/∃ b,v=.slice (some ⟨b,0,none⟩) ks.length ks.length/\h.Row b 124 (flK ks)/\k<=b/\256<=b
theorem Hp.KO.lst(o:h.KO k v ks):h.KS (fun b=>k<=b) v ks:=by
 rcases o with h1|⟨b,h1,h2,h3,h4⟩
 ·exact .inl h1
 ·exact .inr ⟨b,_,_,_,h1,IT _,h2,by rw[CX];omega,by rw[<- CX,zK],.inl rfl,h3⟩
theorem Hp.KO.keep(o:h.KO k v ks)(hk:∀ b el L,AEc v b->h.Row b el L->h'.Row b el L):h'.KO k v ks:=by
 rcases o with h1|⟨b,h1,h2,h3,h4⟩
 ·exact .inl h1
 ·exact .inr ⟨b,h1,hk b _ _ ⟨0,_,_,h1⟩ h2,h3,h4⟩
theorem Hp.KO.ext(o:h.KO k v ks)(W:h.Wf)(x:h.Ext h'):h'.KO k v ks:=o.keep fun _ _ _ _ r=>r.ext W x
theorem Hp.KO.same(o:h.KO k v ks)(hb:h'.bl=h.bl):h'.KO k v ks:=o.keep fun _ _ _ _ r=>r.same hb
theorem Hp.KO.blk(o:h.KO k v ks)(W:h.Wf){b:Nat}(hb:AEc v b):k<=b/\b<h.next:=by
 obtain⟨off,n,c,e1⟩:=hb;rcases o with ⟨h1,h2⟩|⟨b',h1,h2,h3,h4⟩
 ·rw[h1]at e1;cases e1
 ·have:=h2.lt W
  rw[h1]at e1;injection e1 with e1 _ _
  injection e1 with e1
  injection e1 with e1 _ _
  omega
theorem WF:Bc Dj.zero 1=AY K0:=by kernel_rfl
theorem MU(W:h.Wf){g:O}{x:Kt}(hg:g e=ktV x):Ar 1 (Bc Dj.zero 1) [(0,6,g)] F e h=.ok (.slice (some ⟨h.next,0,none⟩) 1 1) (h.AD9 0 (AY x)):=by
 rw[WF,CO,As (hk:=by rw[hg];rfl),hg,show cellsOf (ktV x)=AY x from rfl,if_pos (show(AY x).length=6 from rfl),if_pos (show 0+6<=(AY K0).length from IT _),Bu,C4 W];rfl
theorem Ge{x:Kt}(hu:oneCell x.u=true):Ba (AY x)=true:=by
 show(bif oneCell x.u then true else false)=true;rw[hu];rfl
theorem Su(x0:h0.Ext h)(hk:h0.next<=k)(hk2:k<=h.next)(o:h.KO k v ks){x:Kt}(hu:oneCell x.u=true)(hl:ks.length<=100000):
  ∃ h' v',DP 6 64 123 v (.slice (some ⟨h.next,0,none⟩) 1 1) (h.AD9 0 (AY x))=.ok v' h'/\h0.Ext h'/\h'.KO k v' (ks++[x])/\h.next<=h'.next/\∀ b el L,¬ AEc v b->h.Row b el L->h'.Row b el L:=by
 have W:=x0.wf;have x1:=x0.AD9 0 (AY x);have y1:=(Hp.Ext.refl W).AD9 0 (AY x);have Rw:=Hp.Row.new W 0 (AY x);have n1:(h.AD9 0 (AY x)).next=h.next+1:=rfl;have o1:=o.ext W y1;generalize h.AD9 0 (AY x)=h1 at x1 y1 Rw n1 o1;have hs:∀ K:List IN->R,BP h1 6 (.slice (some ⟨h.next,0,none⟩) 1 1) 1 K=K (AY x):=fun K=>Rw.AGB (es:=6) (off:=0) (n:=1) (by show 0+1 * 6<=6;omega)
 have ha:=Ge hu;rcases o1 with ⟨rfl,rfl⟩|⟨b,rfl,r,hb,AEK⟩
 ·obtain⟨h5,a1,a2,a3,a4,_,a6⟩:=JW (eb:=64) (en:=123) x1 hs rfl rfl ha (by omega)
  refine⟨h5,_,a1,a2,.inr ⟨h1.next,rfl,?_,by omega,by have:=W.big;omega⟩,by omega,fun b el L _ r=>(r.ext W y1).ext x1.wf a6⟩;show h5.Row h1.next 124 (AY x++[]);rw[xx];exact a3
 ·obtain⟨h5,a1,a2,a3,a4,_,a6⟩:=JR (eb:=64) (en:=123) (n:=ks.length) x1 hs rfl rfl (by omega) ha r (by rw[CX];omega) (by omega) AEK (by omega)
  refine⟨h5,_,a1,a2,.inr ⟨h1.next,by rw[No];rfl,?_,by omega,by have:=W.big;omega⟩,by omega,fun b' el L hne r'=>a6 b' el L (fun e=>hne ⟨0,ks.length,ks.length,by rw[e]⟩) (r'.ext W y1)⟩;rw[JN,show flK [x]=AY x from xx _];exact a3
def ql(x y:Kt):Prop:=y.a=x.a/\y.b=x.b/\y.p≠x.p/\y.s=2/\(x.c<y.c\/y.c=x.c/\x.s=1)
def wU(x y:Kt):Prop:=y.a=x.a/\y.b=x.b/\y.c=x.c/\y.s=x.s
theorem IV(a b:Int):(iEq a b=true/\a=b)\/(iEq a b=false/\a≠b):=by
 by_cases h:a=b
 ·exact .inl ⟨CL h,h⟩
 ·exact .inr ⟨B6 h,h⟩
theorem qj:hiB=qk:=rfl
theorem fP:fO=UM:=rfl
theorem qR(W:h.Wf){r5:Nat}{x y:Kt}(R5:h.Row r5 0 (AY x))(hn:¬ ql x y):∃ h',call AC (m+1) 118 [ktV y,pt r5] h=.ok (.bool false) h'/\h.Ext h':=by
 have bx:=fun (F:AEA) (e:Env) (he:J 0 e=ktV y)=>Hb (F:=F) W he
 have x1:=(Hp.Ext.refl W).AD9 0 (AY y);have R:=Hp.Row.new W 0 (AY y);generalize h.AD9 0 (AY y)=h1 at bx x1 R;obtain⟨l0,l1,l2,l3,_,l5,_⟩:=Bw R;obtain⟨k0,k1,k2,k3,_,k5,_⟩:=Bw (R5.ext W x1);have st1:∃ e1 B,UM (call AC m) (AS e0 0 [ktV y,pt r5]) h=hiB (call AC m) e1 h1/\J 1 e1=pt r5/\J 2 e1=pt h.next/\J 4 e1=.bool B/\(B=true->y.a=x.a/\y.b=x.b):=by
  unfold UM;rcases IV y.a x.a with ⟨c1,e1⟩|⟨c1,e1⟩
  ·rcases IV y.b x.b with ⟨c2,e2⟩|⟨c2,e2⟩
   ·simp only[iN,IS,sT,By,BY,reduceIte,gD,bx,AH,AO,If,AN,AP,l0,l1,l2,l3,l5,k0,k1,k2,k3,k5,AK,AJ,c1,c2]
    exact⟨_,true,rfl,by simp[AG],by simp[AG],by simp[AG],fun _=>⟨e1,e2⟩⟩
   ·simp only[iN,IS,sT,By,BY,reduceIte,gD,bx,AH,AO,If,AN,AP,l0,l1,l2,l3,l5,k0,k1,k2,k3,k5,AK,AJ,c1,c2]
    exact⟨_,false,rfl,by simp[AG],by simp[AG],by simp[AG],fun h=>by cases h⟩
  ·simp only[iN,IS,sT,By,BY,reduceIte,gD,bx,AH,AO,If,AN,AP,l0,l1,l2,l3,l5,k0,k1,k2,k3,k5,AK,AJ,c1]
   exact⟨_,false,rfl,by simp[AG],by simp[AG],by simp[AG],fun h=>by cases h⟩
 obtain⟨e1,B1,p1,t1,t2,t4,h1B⟩:=st1;have st2:∃ e2 B,hiB (call AC m) e1 h1=hiC (call AC m) e2 h1/\J 1 e2=pt r5/\J 2 e2=pt h.next/\J 4 e2=.bool B1/\J 5 e2=.bool B/\(B=true->x.c<y.c\/y.c=x.c/\x.s=1):=by
  rw[qj];unfold qk;by_cases g1:x.c<y.c
  ·have c1:iGt y.c x.c=true:=HB g1
   simp only[sT,By,BY,reduceIte,gD,t1,t2,AH,AO,If,AN,AP,l0,l1,l2,l3,l5,k0,k1,k2,k3,k5,AK,AJ,c1];exact⟨_,true,rfl,by simp[AG,t1],by simp[AG,t2],by simp[AG,t4],by simp[AG],fun _=>.inl g1⟩
  ·have c1:iGt y.c x.c=false:=Ft g1
   rcases IV y.c x.c with ⟨c2,e2⟩|⟨c2,e2⟩
   ·rcases IV (x.s:Int) 1 with ⟨c3,e3⟩|⟨c3,e3⟩
    ·simp only[sT,By,BY,reduceIte,gD,t1,t2,AH,AO,If,AN,AP,l0,l1,l2,l3,l5,k0,k1,k2,k3,k5,AK,AJ,c1,c2,c3]
     exact⟨_,true,rfl,by simp[AG,t1],by simp[AG,t2],by simp[AG,t4],by simp[AG],fun _=>.inr ⟨e2,by omega⟩⟩
    ·simp only[sT,By,BY,reduceIte,gD,t1,t2,AH,AO,If,AN,AP,l0,l1,l2,l3,l5,k0,k1,k2,k3,k5,AK,AJ,c1,c2,c3]
     exact⟨_,false,rfl,by simp[AG,t1],by simp[AG,t2],by simp[AG,t4],by simp[AG],fun h=>by cases h⟩
   ·simp only[sT,By,BY,reduceIte,gD,t1,t2,AH,AO,If,AN,AP,l0,l1,l2,l3,l5,k0,k1,k2,k3,k5,AK,AJ,c1,c2]
    exact⟨_,false,rfl,by simp[AG,t1],by simp[AG,t2],by simp[AG,t4],by simp[AG],fun h=>by cases h⟩
 obtain⟨e2,B2,p2,u1,u2,u4,u5,h2B⟩:=st2;have st3:∃ e3,hiC (call AC m) e2 h1=.ret e3 h1/\J 3 e3=.bool false:=by
  unfold hiC;cases B1 with
  |false=>
   simp only[sT,By,BY,reduceIte,gD,u4];exact⟨_,rfl,by simp[AG]⟩
  |true=>
   by_cases e3:y.p=x.p
   ·have c3:iNe (y.p:Int) (x.p:Int)=false:=CN (by rw[e3])
    simp only[sT,By,BY,reduceIte,gD,u4,u1,u2,AH,AO,If,AN,AP,l0,l1,l2,l3,l5,k0,k1,k2,k3,k5,AK,AJ,c3];exact⟨_,rfl,by simp[AG]⟩
   ·have c3:iNe (y.p:Int) (x.p:Int)=true:=Fv (by omega)
    rcases IV (y.s:Int) 2 with ⟨c4,e4⟩|⟨c4,e4⟩
    ·cases B2 with
     |true=>exact absurd ⟨(h1B rfl).1,(h1B rfl).2,e3,by omega,h2B rfl⟩ hn
     |false=>
      simp only[sT,By,BY,reduceIte,gD,u4,u1,u2,u5,AH,AO,If,AN,AP,l0,l1,l2,l3,l5,k0,k1,k2,k3,k5,AK,AJ,c3,c4];exact⟨_,rfl,by simp[AG]⟩
    ·simp only[sT,By,BY,reduceIte,gD,u4,u1,u2,AH,AO,If,AN,AP,l0,l1,l2,l3,l5,k0,k1,k2,k3,k5,AK,AJ,c3,c4]
     exact⟨_,rfl,by simp[AG]⟩
 obtain⟨e3,p3,p4⟩:=st3;refine⟨h1,?_,x1⟩;rw[eE rfl,fP,p1,p2,p3];simp only[lV0,p4]
theorem qS(W:h.Wf){r5:Nat}{x y:Kt}(R5:h.Row r5 0 (AY x))(hn:¬ wU x y):∃ h',call AC (m+1) 119 [ktV y,pt r5] h=.ok (.bool false) h'/\h.Ext h':=by
 have bx:=fun (F:AEA) (e:Env) (he:J 0 e=ktV y)=>Hb (F:=F) W he
 have x1:=(Hp.Ext.refl W).AD9 0 (AY y);have R:=Hp.Row.new W 0 (AY y);generalize h.AD9 0 (AY y)=h1 at bx x1 R;obtain⟨l0,l1,l2,l3,_,l5,_⟩:=Bw R;obtain⟨k0,k1,k2,k3,_,k5,_⟩:=Bw (R5.ext W x1);refine⟨h1,?_,x1⟩;rw[eF rfl];unfold fQ;rcases IV y.a x.a with ⟨c1,e1⟩|⟨c1,e1⟩
 ·rcases IV y.b x.b with ⟨c2,e2⟩|⟨c2,e2⟩
  ·rcases IV y.c x.c with ⟨c3,e3⟩|⟨c3,e3⟩
   ·rcases IV (y.s:Int) (x.s:Int)with ⟨c4,e4⟩|⟨c4,e4⟩
    ·exact absurd ⟨e1,e2,e3,by omega⟩ hn
    ·simp only[iN,IS,sT,By,BY,reduceIte,gD,bx,AH,AO,If,AN,AP,l0,l1,l2,l3,l5,k0,k1,k2,k3,k5,AK,AJ,c1,c2,c3,c4,lV0]
   ·simp only[iN,IS,sT,By,BY,reduceIte,gD,bx,AH,AO,If,AN,AP,l0,l1,l2,l3,l5,k0,k1,k2,k3,k5,AK,AJ,c1,c2,c3,lV0]
  ·simp only[iN,IS,sT,By,BY,reduceIte,gD,bx,AH,AO,If,AN,AP,l0,l1,l2,l3,l5,k0,k1,k2,k3,k5,AK,AJ,c1,c2,lV0]
 ·simp only[iN,IS,sT,By,BY,reduceIte,gD,bx,AH,AO,If,AN,AP,l0,l1,l2,l3,l5,k0,k1,k2,k3,k5,AK,AJ,c1,lV0]
theorem YU{P:Kt->Bool}(h:∀ k∈ks,P k=false):ks.any P=false:=by
 induction ks with
 |nil=>rfl
 |cons k l ih=>rw[List.any_cons,h k xa,ih fun x hx=>h x (xZ _ hx)];rfl
theorem rC(K:h.KS S v ks){i:Nat}(hi:i<ks.length):∃ w,h.KS S w (ks.take i)/\∀ (F:AEA) (e:Env) (x y:O),x e=v->y e=AI AT (i:Int)->EB 123 6 x none (some y) none F e h=.ok w h:=by
 rcases K with ⟨rfl,rfl⟩|⟨b,c,el,L,rfl,h2,h3,h4,h5,h6,h7⟩
 ·cases hi
 ·have ht:(ks.take i).length=i:=by rw[yM];omega
  refine⟨.slice (some ⟨b,0,none⟩) i c,.inr ⟨b,c,el,L,by rw[ht],by rw[ht];omega,h3,by rw[ht];omega,?_,h6,h7⟩,fun F e x y hx hy=>?_⟩
  ·have e1:flK (ks.take i)=(flK ks).take (6*i):=by
    conv=>rhs;rw[<- zN i ks,JN]
    rw[List.take_left' (by rw[CX,ht])]
   rw[ht,e1,<- h5,List.take_take,Nat.min_eq_left (by omega)]
  ·show(match x e with|.slice a n c=>Dc e n c none (some y) none (fun l hh m=>EL 123 6 a false l hh m h)|_=>.no)=_
   rw[hx];show(match DZ (y e)with|.ok n=>(bif Nat.ble n c then EL 123 6 (some ⟨b,0,none⟩) false 0 n c h else .no)|.no=>.no)=_;rw[hy,DH];simp only;rw[Au.2 (show i<=c by omega)];show Br (some ⟨b,0,none⟩) 6 0 i c h=_;unfold Br;simp only[Ap];cases c with
   |zero=>rfl
   |succ c=>rfl
theorem ph:coS=BI (Ab 0 (A3 coB)) coE:=rfl
theorem qB:d76=gL:=rfl
theorem Pw(W:h.Wf)(K:h.KS S v ks)(hl:ks.length<=1000)(hu:∀ k∈ks,oneCell k.u=true)(hh:∀ x∈ks,∀ y∈ks,¬ ql x y)(ht:∀ (i j:Nat) (x y:Kt),ks[i]? =some x->ks[j]? =some y->j<i->¬ wU x y):
  ∃ h' w,call AC (m+4) 76 [v] h=.ok w h'/\h.Ext h'/\h'.KO h.next w ks/\(ks=[]->w=.slice none 0 0):=by
 have ln:=K.len h;have pre:∃ e1,gL (call AC (m+3)) (AS e0 0 [v]) h=coS (call AC (m+3)) e1 h/\J 0 e1=v/\J 3 e1=.slice none 0 0/\J 8 e1=v/\J 9 e1=AI AT (ks.length:Int)/\J 10 e1=AI AT ((0:Nat):Int):=by
  unfold gL;simp only[iN,IS,sT,By,BY,reduceIte,Af,ln];exact⟨_,rfl,by simp[AG]⟩
 obtain⟨e1,p1,s0,s3,s8,s9,s10⟩:=pre;have run:∃ e' h' w,A3 coB (call AC (m+3)) e1 h=.exit 0 e' h'/\h.Ext h'/\h'.KO h.next w ks/\J 3 e'=w/\(ks=[]->w=.slice none 0 0):=by
  refine Bd (I:=fun i e' h'=>∃ w,h.Ext h'/\h'.KO h.next w (ks.take i)/\J 0 e'=v/\J 3 e'=w/\J 8 e'=v/\J 9 e'=AI AT (ks.length:Int)/\J 10 e'=AI AT (i:Int)/\i<=ks.length/\(i=0->w=.slice none 0 0))
   (Q:=fun x=>∃ e' h' w,x=.exit 0 e' h'/\h.Ext h'/\h'.KO h.next w ks/\J 3 e'=w/\(ks=[]->w=.slice none 0 0)) ks.length (by omega) (fun i e' h' ⟨w,x',o',t0,t3,t8,t9,t10,hi,hz⟩=>?_) ⟨_,.refl W,.inl ⟨rfl,rfl⟩,s0,s3,s8,s9,s10,yK _,fun _=>rfl⟩
  have W':=x'.wf;by_cases hlt:i<ks.length
  ·left
   have c1:=EW hlt;obtain⟨x,hx⟩:∃ x,ks[i]? =some x:=⟨_,sh hlt⟩;have hxm:=List.mem_of_getElem? hx;obtain⟨b,_,ix,ld,_⟩:=(K.ext W x').at hx;have al:=fun (F:AEA) (e:Env)=>BQ (F:=F) (e:=e) W' (n:=6) (t:=CR)
   have Ra:=Hp.Row.alloc W' E9 (show(AY K0).length=6 from rfl);have y1:h'.Ext (h'.push (.cells CR 6 0)):=(Hp.Ext.refl W').push _;have n1:(h'.push (.cells CR 6 0)).next=h'.next+1:=rfl;generalize h'.push (.cells CR 6 0)=h1 at al Ra y1 n1;obtain⟨st,_,y2,R5,n2⟩:=Kf W' y1 (IT _) Ra rfl (k:=x) (hu x hxm);generalize h1.wr h'.next 0 (AY x)=h2 at st y2 R5 n2;have x2:=x'.trans y2;obtain⟨h3,k3,x3⟩:=O0 (m:=m+1) (g:=118) (caps:=[pt h'.next]) (P:=fun _=>false) x2.wf (K.ext W x2) (by omega) fun g xg y hy=>by
    exact qR (m:=m) xg.wf (R5.ext x2.wf xg) (hh x hxm y hy)
   rw[YU fun _ _=>rfl]at k3;have x23:=x2.trans x3;obtain⟨w',Kc,ct⟩:=rC (K.ext W x23) hlt;obtain⟨h4,k4,x4⟩:=O0 (m:=m+1) (g:=119) (caps:=[pt h'.next]) (P:=fun _=>false) x23.wf Kc (by rw[yM];omega) fun g xg y hy=>by
    obtain⟨j,hj⟩:=List.mem_iff_getElem?.1 hy;have hji:j<i:=by
     have:=(List.getElem?_eq_some_iff.1 hj).1;rw[yM]at this;omega
    rw[List.getElem?_take,if_pos hji]at hj;exact qS (m:=m) xg.wf ((R5.ext x2.wf x3).ext x23.wf xg) (ht i j x y hx hj hji)
   rw[YU fun _ _=>rfl]at k4;have x24:=x23.trans x4;have y24:=(y2.trans x3).trans x4;have R54:=(R5.ext x2.wf x3).ext x23.wf x4;obtain⟨_,_,_,_,_,_,ld5,_⟩:=Bw R54;have sl:=fun (F:AEA) (e:Env) (he:J 30 e=ktV x)=>MU (F:=F) x24.wf he
   obtain⟨h5,w5,k5,x5,o5,n5,_⟩:=Su x24 (IT _) x24.next (o'.ext W' y24) (hu x hxm) (by rw[yM];omega);have er:ks.take (i+1)=ks.take i++[x]:=by rw[List.take_add_one,hx];rfl
   rw[<- er]at o5;have a3:=CI (i:=i) (h:=h5) (by omega);have hrun:∃ e2,coB (call AC (m+3)) e' h'=.norm e2 h5/\J 0 e2=v/\J 3 e2=w5/\J 8 e2=v/\J 9 e2=AI AT (ks.length:Int)/\J 10 e2=AI AT ((i+1:Nat):Int):=by
    unfold coB;simp only[sT,By,BY,reduceIte,AK,AJ,t10,t9,c1,A9,t8,ix,Av,Am,ld,al,AX,st,Df,AV,A2,BO,t0,k3,BZ,BX,yh];rw[SK (by omega)];simp only[sT,By,BY,reduceIte,gD,t0];rw[ct _ _ _ _ (by simp[AG]) (by simp[AG])];simp only[sT,By,BY,reduceIte,gD,AV,A2,BO,k4,BZ,BX,yh,Av,Am,ld5,sl,BN,t3,k5,BM,a3,t10];exact⟨_,rfl,by simp[AG,t0,t8,t9]⟩
   obtain⟨e2,r1,r2,r3,r4,r5,r6⟩:=hrun;exact⟨hlt,e2,h5,r1,w5,x5,o5,r2,r3,r4,r5,r6,by omega,fun h=>absurd h (Nat.succ_ne_zero i)⟩
  ·right
   have c1:=DD (show ks.length<=i by omega);have hrun:∃ e2,coB (call AC (m+3)) e' h'=.exit 0 e2 h'/\J 3 e2=w:=by
    unfold coB;simp only[sT,By,BY,reduceIte,AK,AJ,t10,t9,c1];exact⟨_,rfl,by simp[AG,t3]⟩
   obtain⟨e2,r1,r2⟩:=hrun;rw[r1];rw[zq (by omega)]at o';exact⟨rfl,e2,h',w,rfl,x',o',r2,fun h=>hz (by rw[h]at hi;exact Nat.le_zero.1 hi)⟩
 obtain⟨e2,h2,w,r1,x2,o2,r2,r3⟩:=run;refine⟨h2,w,?_,x2,o2,r3⟩;rw[pF rfl,qB,p1,ph];simp only[BJ,Ay,r1,A7,BA];unfold coE;simp only[sT,By,BY,reduceIte,r2,lV0]
end
end
noncomputable section
open Go
set_option maxRecDepth 100000
structure Kc where
 a:Int
 b:Int
 c:Int
 s:Nat
 l:List Nat
 p:Nat
def Kt.core(k:Kt):Kc:=⟨k.a,k.b,k.c,k.s,k.l,k.p⟩
def lkN(T M:List Nat)(p:Nat):Option (List Nat):=match AAf (∃ ns,G4 T M p ns)with
 |.isTrue h=>some (ADo h)
 |.isFalse _=>none
def EO(T M:List Nat)(p:Nat):Bool:=match AAf ((¬ ∃ ns,G4 T M p ns)/\((∃ x∈sec M (3*p),x≠0)\/∃ ns,LC T (sec M (3*p)) ns/\at6 ns 4<=100))with
 |.isTrue _=>true
 |.isFalse _=>false
theorem Qf{T M:List Nat}{p:Nat}{ns:List Nat}(h:G4 T M p ns):lkN T M p=some ns:=by
 unfold lkN;split
 ·rename_i h' _
  rw[GT (ADy h').1 h.1]
 ·rename_i h' _;exact absurd ⟨ns,h⟩ h'
theorem Qe{T M:List Nat}{p:Nat}(h:¬ ∃ ns,G4 T M p ns):lkN T M p=none:=by
 unfold lkN;split
 ·rename_i h' _;exact absurd h' h
 ·rfl
theorem Hc{T M:List Nat}{p:Nat}:EO T M p=true↔((¬ ∃ ns,G4 T M p ns)/\((∃ x∈sec M (3*p),x≠0)\/∃ ns,LC T (sec M (3*p)) ns/\at6 ns 4<=100)):=by
 unfold EO;split
 ·rename_i h _;exact⟨fun _=>h,fun _=>rfl⟩
 ·rename_i h _;exact⟨fun e=>(by cases e),fun e=>absurd e h⟩
def XY(M:List Nat)(p:Nat)(ns:List Nat):Kc:=⟨at6 ns 1,at6 ns 2,at6 ns 3,at6 ns 0,dat M p (at6 ns 4),p⟩
def kcs(T M:List Nat)(i:Nat):List Kc:=(zB i).filterMap fun p=>(lkN T M p).map (XY M p)
def AFK(T M:List Nat)(i:Nat):List Nat:=(zB i).filter (EO T M)
def mrk(T M:List Nat)(i:Nat):List Nat:=(zB i).filter fun p=>(lkN T M p).isSome || EO T M p
theorem QW(T M:List Nat)(i:Nat):kcs T M (i+1)=kcs T M i++(match lkN T M i with|some ns=>[XY M i ns]|none=>[]):=by
 unfold kcs;rw[zh,List.filterMap_append];cases h:lkN T M i<;>simp[h]
theorem J4(T M:List Nat)(i:Nat):AFK T M (i+1)=AFK T M i++(if EO T M i=true then [i]else []):=by
 unfold AFK;rw[zh,AAJ];cases h:EO T M i<;>simp[h]
theorem Mb(T M:List Nat)(i:Nat):mrk T M (i+1)=mrk T M i++(if((lkN T M i).isSome || EO T M i)=true then [i]else []):=by
 unfold mrk;rw[zh,AAJ];cases h:((lkN T M i).isSome || EO T M i)<;>simp[h]
theorem Dq(i:Nat)(f:Nat->Bool):((zB i).filter f).length<=i:=by
 have:=List.length_filter_le f (zB i)
 rwa [ABr]at this
theorem HV(a b:List Nat):ints .i64 ((a++b).map zA)=ints .i64 (a.map zA)++ints .i64 (b.map zA):=by unfold ints;rw[yc,yc]
theorem sk:Bc ty3.zero 1=[AI AT 0]:=by kernel_rfl
section
variable {F:AEA}{e:Env}{h g g':Hp}{T M:List Nat}{bs r9 k1 bd bm bc tb n i m c0:Nat}{v mv:IN}{ks:List Kt}{arm:Int}
theorem Ej(W:h.Wf){x:O}{z:Int}(hx:x e=AI AT z):Ar 1 (Bc ty3.zero 1) [(0,1,x)] F e h=.ok (.slice (some ⟨h.next,0,none⟩) 1 1) (h.AD9 0 [AI AT z]):=by
 rw[sk];exact ID W hx rfl rfl
theorem Hp.KO.nb{k b el:Nat}{L:List IN}(o:h.KO k v ks)(r:h.Row b el L)(he:el≠124):¬ AEc v b:=fun⟨off,nn,c,e1⟩=>by
 rcases o with ⟨h1,h2⟩|⟨b',h1,h2,h3,h4⟩
 ·rw[h1]at e1;cases e1
 ·rw[h1]at e1
  injection e1 with e1 _ _
  injection e1 with e1
  injection e1 with e1 _ _
  rw[e1]at h2;exact D6 r h2 he rfl
theorem Hp.Own.nb{k b el en:Nat}{xs L:List IN}(o:h.Own k en v xs)(r:h.Row b el L)(he:el≠en+1):¬ AEc v b:=fun⟨off,nn,c,e1⟩=>by
 rcases o with ⟨h1,h2⟩|⟨b',h1,h2,h3,h4⟩
 ·rw[h1]at e1;cases e1
 ·rw[h1]at e1
  injection e1 with e1 _ _
  injection e1 with e1
  injection e1 with e1 _ _
  rw[e1]at h2;exact D6 r h2 he rfl
structure O1 (h g:Hp)(T M:List Nat)(bs r9 k1 bd tb i:Nat)(v mv:IN)(ks:List Kt):Prop where
 x:h.Ext g
 row:g.Row bs 0 (slL bd tb AEF AEF (AFK T M i).length false)
 rb:g.Row r9 0 [pt bs]
 ko:g.KO k1 v ks
 cs:ks.map Kt.core=kcs T M i
 ok:∀ k∈ks,AGR g (fun b=>r9<b) k
 ms:g.Own k1 3 mv (ints .i64 ((mrk T M i).map zA))
 le:k1<=g.next
theorem O1.ext(o:O1 h g T M bs r9 k1 bd tb i v mv ks)(x:g.Ext g'):O1 h g' T M bs r9 k1 bd tb i v mv ks:=
 have W:=o.x.wf
 ⟨o.x.trans x,o.row.ext W x,o.rb.ext W x,o.ko.ext W x,o.cs,fun k hk=>⟨(o.ok k hk).1.ext W x,(o.ok k hk).2⟩,o.ms.ext W x,yP o.le x.next⟩
theorem jF:rX=BI (Ab 1 (A3 LL)) rV:=rfl
theorem pu:d47=gH:=rfl
theorem rD(o:O1 h g T M bs r9 k1 bd tb i v mv ks):ks.length<=i:=by
 have h1:=congrArg List.length o.cs;rw[OF]at h1;rw[h1];unfold kcs;have:=List.length_filterMap_le (fun p=>(lkN T M p).map (XY M p)) (zB i)
 rwa [ABr]at this
theorem aY(W:h.Wf)(d:Dk h bd bm bc n M c0 [] arm false)(Rt:h.Row tb 0 (T.map wv))(hT:AE4 T)(o:O1 h g T M bs r9 k1 bd tb i v mv ks)(hbs:h.next<=bs/\bs<r9/\r9<k1)(hi:i<n/3)
  (t8:J 9 e=pt r9)(t10:J 10 e=v)(t11:J 11 e=mv)(t51:J 51 e=AI AT ((n/3:Nat):Int))(t52:J 52 e=AI AT (i:Int)):
  ∃ e' g' v' mv' ks',LL (call AC (m+6)) e g=.norm e' g'/\O1 h g' T M bs r9 k1 bd tb (i+1) v' mv' ks'/\J 10 e'=v'/\J 11 e'=mv'/\J 52 e'=AI AT ((i+1:Nat):Int)/\∀ j,j=0\/j=1\/j=2\/j=8\/j=9\/j=51->J j e'=J j e:=by
 have hn:=d.n1;have W1:=o.x.wf;have hhk:h.next<=k1:=by omega
 have c1:iLt (i:Int) ((n/3:Nat):Int)=true:=EW hi;have l9:=DI o.rb;obtain⟨h1,x1,LK⟩:=VA (m:=m+1) W1 o.row (Rt.ext W o.x) hT (d.ext W o.x) (p:=i) (by omega);have al:=fun (F:AEA) (e:Env)=>BQ (F:=F) (e:=e) x1.wf (n:=6) (t:=CR)
 have Ra:=Hp.Row.alloc x1.wf E9 (show(AY K0).length=6 from rfl);have y2:h1.Ext (h1.push (.cells CR 6 0)):=(Hp.Ext.refl x1.wf).push _;have n2:(h1.push (.cells CR 6 0)).next=h1.next+1:=rfl;generalize h1.push (.cells CR 6 0)=h2 at al Ra y2 n2;have c0':iNe 0 0=false:=CN rfl;have hx1:=x1.next;rcases LK with ⟨ns,u,hH,hk,hu⟩|⟨hH,bad,hk,AGD⟩
 ·
  have hN:=Qf hH;have AHY:=Q5 hH.1;have hB:EO T M i=false:=by
   cases hb:EO T M i
   ·rfl
   ·exact absurd ⟨ns,hH⟩ (Hc.1 hb).1
  have u1:=hu.vs.one;obtain⟨st,_,y3,R3,n3⟩:=Kf x1.wf y2 (IT _) Ra rfl (k:=⟨at6 ns 1,at6 ns 2,at6 ns 3,at6 ns 0,dat M i (at6 ns 4),i,u⟩) u1.2.1;generalize hX:(⟨at6 ns 1,at6 ns 2,at6 ns 3,at6 ns 0,dat M i (at6 ns 4),i,u⟩:Kt)=X at hk st y3 R3 n3;generalize h2.wr h1.next 0 (AY X)=h3 at st y3 R3 n3;have o3:=o.ext (x1.trans y3);have hXu:X.u=u:=by rw[<- hX]
  obtain⟨_,_,_,_,_,_,ld,_⟩:=Bw R3;have sl:=fun (F:AEA) (e:Env) (he:J 70 e=ktV X)=>MU (F:=F) o3.x.wf he
  obtain⟨h5,v5,k5,x5,q5,n5,f5⟩:=Su o3.x hhk o3.le o3.ko (x:=X) (by rw[hXu];exact u1.2.1) (by have:=rD o;omega);have f5':∀ b el L,el≠124->h3.Row b el L->h5.Row b el L:=fun b el L he r=>f5 b el L (o3.ko.nb r he) r
  have hlen:(dat M i (at6 ns 4)).length=at6 ns 4:=JE d.len (by have:=hH.2.1;omega);have okX:AGR h5 (fun b=>r9<b) X:=by
   rw[<- hX];refine⟨((hu.ext x1.wf y3).mono fun b hb=>by have hb:g.next<=b:=hb;have:=o.le;omega).keep fun b el L hb he r=>f5' b el L (by omega) r,ZK d.byt _ _,by rw[hlen];exact hH.2.1,?_,?_,by show i<65536;omega⟩
   ·obtain⟨_,_,_,h4⟩:=AHY
    unfold AEP at h4;have:=of_decide_eq_true h4;exact this.2.2.2.2.2.2.1
   ·obtain⟨_,_,_,h4⟩:=AHY
    unfold AEP at h4 ⊢;have:=of_decide_eq_true h4;refine decide_eq_true ⟨this.1,this.2.1,this.2.2.1,this.2.2.2.1,this.2.2.2.2.1,this.2.2.2.2.2.1,this.2.2.2.2.2.2.1,?_⟩;show(dat M i (at6 ns 4)).length<=65536;rw[hlen];have:=hH.2.1;omega
  have o5:O1 h h5 T M bs r9 k1 bd tb i v5 mv (ks++[X])->True:=fun _=>trivial
  have mk5:h5.Own k1 3 mv (ints .i64 ((mrk T M i).map zA)):=by
   rcases o3.ms with h1'|⟨b,h1',h2',h3',h4'⟩
   ·exact .inl h1'
   ·exact .inr ⟨b,h1',f5' b _ _ (by omega) h2',h3',h4'⟩
  obtain⟨h6,mv6,k6,x6,m6,n6,f6⟩:∃ g' mv',DP 1 8 3 mv (.slice (some ⟨h5.next,0,none⟩) 1 1) (h5.AD9 0 [AI AT (i:Int)])=.ok mv' g'/\h.Ext g'/\g'.Own k1 3 mv' (ints .i64 ((mrk T M i++[i]).map zA))/\h5.next<=g'.next/\(∀ b el L,el≠4->h5.Row b el L->g'.Row b el L):=by
   obtain⟨g',mv',a1,a2,a3,a4,a5⟩:=Jf (eb:=8) (en:=3) (kd:=.i64) (n:=(i:Int)) x5 hhk (by have:=o3.le;omega) mk5 (by
    have:=Dq i (fun p=>(lkN T M p).isSome || EO T M p);have:(mrk T M i).length<=i:=this;have:(ints .i64 ((mrk T M i).map zA)).length<=i:=by unfold ints;rw[OF,OF];exact this
    omega)
   exact⟨g',mv',a1,a2,by rw[HV];exact a3,by omega,fun b el L he r=>(a5 b el L (mk5.nb r he) r).1⟩
  have f56:∀ b el L,el≠124->el≠4->h3.Row b el L->h6.Row b el L:=fun b el L h1 h2 r=>f6 b el L h2 (f5' b el L h1 r)
  have is:=fun (F:AEA) (e:Env) (he:J 12 e=AI AT (i:Int))=>Ej (F:=F) x5.wf he
  have a3:=CI (i:=i) (h:=h6) (by omega);have hrun:∃ e2,LL (call AC (m+6)) e g=.norm e2 h6/\J 10 e2=v5/\J 11 e2=mv6/\J 52 e2=AI AT ((i+1:Nat):Int)/\∀ j,j=0\/j=1\/j=2\/j=8\/j=9\/j=51->J j e2=J j e:=by
   unfold LL;simp only[sT,By,BY,reduceIte,gD,AK,AJ,t52,t51,c1,AN,AP,t8,l9,cA0,hk,A8,BB,BH,Cv,Ee,al,AX,st,c0',Av,Am,ld,sl,BN,t10,k5,is,t11,k6,BM,a3];refine⟨_,rfl,by simp[AG],by simp[AG],by simp[AG],fun j hj=>?_⟩;rcases hj with rfl|rfl|rfl|rfl|rfl|rfl<;>simp only[AG,By,BY,reduceIte]
  obtain⟨e2,r1,r2,r3,r4,r5⟩:=hrun;refine⟨e2,h6,v5,mv6,ks++[X],r1,⟨x6,?_,f56 _ _ _ (by omega) (by omega) o3.rb,q5.keep fun b el L hb r=>?_,?_,fun k hk=>?_,?_,by have:=o3.le;omega⟩,r2,r3,r4,r5⟩
  ·rw[J4,hB,if_neg (by decide),xx]
   exact f56 _ _ _ (by omega) (by omega) o3.row
  ·obtain⟨off,nn,c,e1⟩:=hb
   rcases q5 with ⟨e2,_⟩|⟨b',e2,r',_⟩
   ·rw[e2]at e1;cases e1
   ·rw[e2]at e1
    injection e1 with e1 _ _
    injection e1 with e1
    injection e1 with e1 _ _
    rw[<- e1]at r ⊢;refine f6 _ _ _ ?_ r;intro h4;rw[h4]at r;exact D6 r r' (by omega) rfl
  ·rw[yc,o.cs,QW,hN,<- hX];rfl
  ·rcases yL.1 hk with hk|hk
   ·exact⟨((o3.ok k hk).1.keep fun b el L hb he r=>f56 b el L (by omega) (by omega) r),(o3.ok k hk).2⟩
   ·rw[yE.1 hk]
    exact⟨okX.1.keep fun b el L hb he r=>f6 b el L (by omega) r,okX.2⟩
  ·rw[Mb,hN,if_pos (by rfl)];exact m6
 ·
  have hN:=Qe hH;obtain⟨st,_,y3,R3,n3⟩:=Kf x1.wf y2 (IT _) Ra rfl (k:=K0) rfl;generalize h2.wr h1.next 0 (AY K0)=h3 at st y3 R3 n3;have o3:=o.ext (x1.trans y3);have hcs:ks.map Kt.core=kcs T M (i+1):=by rw[QW,hN,xx];exact o.cs
  cases hbd:bad with
  |false=>
   rw[hbd]at hk AGD;have hB:EO T M i=false:=by
    cases hb:EO T M i
    ·rfl
    ·have:=AGD.2 (Hc.1 hb).2;cases this
   have a3:=CI (i:=i) (h:=h3) (by omega);have hrun:∃ e2,LL (call AC (m+6)) e g=.norm e2 h3/\J 10 e2=v/\J 11 e2=mv/\J 52 e2=AI AT ((i+1:Nat):Int)/\∀ j,j=0\/j=1\/j=2\/j=8\/j=9\/j=51->J j e2=J j e:=by
    unfold LL;simp only[sT,By,BY,reduceIte,gD,AK,AJ,t52,t51,c1,AN,AP,t8,l9,cA0,hk,A8,BB,BH,Cv,Ee,al,AX,st,c0',BM,a3];refine⟨_,rfl,by simp[AG,t10],by simp[AG,t11],by simp[AG],fun j hj=>?_⟩;rcases hj with rfl|rfl|rfl|rfl|rfl|rfl<;>simp only[AG,By,BY,reduceIte]
   obtain⟨e2,r1,r2,r3,r4,r5⟩:=hrun;refine⟨e2,h3,v,mv,ks,r1,⟨o3.x,?_,o3.rb,o3.ko,hcs,o3.ok,?_,o3.le⟩,r2,r3,r4,r5⟩
   ·rw[J4,hB,if_neg (by decide),xx];exact o3.row
   ·rw[Mb,hN,hB,if_neg (by decide),xx];exact o3.ms
  |true=>
   rw[hbd]at hk AGD;have hB:EO T M i=true:=Hc.2 ⟨hH,AGD.1 rfl⟩;have AEK:256<=bs:=by have:=W.big;omega
   obtain⟨_,_,_,_,_,l5,_⟩:=BD o3.row;have hbl:(AFK T M i).length<=i:=Dq i _;have ad:Fg .i64 (AI AT ((AFK T M i).length:Int)) (AI AT 1) h3=.ok (AI AT (((AFK T M i).length+1:Nat):Int)) h3:=CI (by omega);have st5:AEH 1 (.pointer (some ⟨bs,5,none⟩)) (AI AT (((AFK T M i).length+1:Nat):Int)) h3=.ok AED (h3.wr bs 5 [AI AT (((AFK T M i).length+1:Nat):Int)]):=o3.row.AEH (n:=1) (off:=5) o3.x.wf AEK (v:=AI AT (((AFK T M i).length+1:Nat):Int)) rfl (by show 5+1<=7;omega) rfl;have ho5:5+[ye .i64 (((AFK T M i).length+1:Nat):Int)].length<=(slL bd tb AEF AEF (AFK T M i).length false).length:=by show 5+1<=7;omega
   have R5:=o3.row.AEM o3.x.wf ho5;have x5:=o3.row.AEe o3.x hbs.1 ho5;have n5:=o3.row.AEo ho5;have f5:∀ b el L,b≠bs->h3.Row b el L->(h3.wr bs 5 [AI AT (((AFK T M i).length+1:Nat):Int)]).Row b el L:=fun b el L hb r=>o3.row.AFI o3.x.wf ho5 r hb
   have hov:over (slL bd tb AEF AEF (AFK T M i).length false) 5 [AI AT (((AFK T M i).length+1:Nat):Int)]=slL bd tb AEF AEF ((AFK T M i).length+1) false:=rfl;rw[hov]at R5;generalize h3.wr bs 5 [AI AT (((AFK T M i).length+1:Nat):Int)]=h5 at st5 R5 x5 n5 f5;have mk5:h5.Own k1 3 mv (ints .i64 ((mrk T M i).map zA)):=by
    rcases o3.ms with h1'|⟨b,h1',h2',h3',h4'⟩
    ·exact .inl h1'
    ·exact .inr ⟨b,h1',f5 b _ _ (by omega) h2',h3',h4'⟩
   obtain⟨h6,mv6,k6,x6,m6,n6,f6⟩:∃ g' mv',DP 1 8 3 mv (.slice (some ⟨h5.next,0,none⟩) 1 1) (h5.AD9 0 [AI AT (i:Int)])=.ok mv' g'/\h.Ext g'/\g'.Own k1 3 mv' (ints .i64 ((mrk T M i++[i]).map zA))/\h5.next<=g'.next/\(∀ b el L,el≠4->h5.Row b el L->g'.Row b el L):=by
    obtain⟨g',mv',a1,a2,a3,a4,a5⟩:=Jf (eb:=8) (en:=3) (kd:=.i64) (n:=(i:Int)) x5 hhk (by have:=o3.le;omega) mk5 (by
     have:=Dq i (fun p=>(lkN T M p).isSome || EO T M p);have:(mrk T M i).length<=i:=this;have:(ints .i64 ((mrk T M i).map zA)).length<=i:=by unfold ints;rw[OF,OF];exact this
     omega)
    exact⟨g',mv',a1,a2,by rw[HV];exact a3,by omega,fun b el L he r=>(a5 b el L (mk5.nb r he) r).1⟩
   have f56:∀ b el L,b≠bs->el≠4->h3.Row b el L->h6.Row b el L:=fun b el L h1 h2 r=>f6 b el L h2 (f5 b el L h1 r)
   have is:=fun (F:AEA) (e:Env) (he:J 12 e=AI AT (i:Int))=>Ej (F:=F) x5.wf he
   have a3:=CI (i:=i) (h:=h6) (by omega);have l9':=DI o3.rb;have hrun:∃ e2,LL (call AC (m+6)) e g=.norm e2 h6/\J 10 e2=v/\J 11 e2=mv6/\J 52 e2=AI AT ((i+1:Nat):Int)/\∀ j,j=0\/j=1\/j=2\/j=8\/j=9\/j=51->J j e2=J j e:=by
    unfold LL;simp only[sT,By,BY,reduceIte,gD,AK,AJ,t52,t51,c1,AN,AP,t8,l9,l9',cA0,hk,A8,BB,BH,Cv,Ee,al,AX,st,c0',Ax,Al,AH,AO,If,l5,BM,ad,st5,is,BN,t11,k6,a3];refine⟨_,rfl,by simp[AG,t10],by simp[AG],by simp[AG],fun j hj=>?_⟩;rcases hj with rfl|rfl|rfl|rfl|rfl|rfl<;>simp only[AG,By,BY,reduceIte]
   obtain⟨e2,r1,r2,r3,r4,r5⟩:=hrun;refine⟨e2,h6,v,mv6,ks,r1,⟨x6,?_,f56 _ _ _ (by omega) (by omega) o3.rb,?_,hcs,fun k hk=>⟨((o3.ok k hk).1.keep fun b el L hb he r=>f56 b el L (by have hb:r9<b:=hb;omega) (by omega) r),(o3.ok k hk).2⟩,?_,by have:=o3.le;omega⟩,r2,r3,r4,r5⟩
   ·rw[J4,hB,if_pos rfl,No]
    exact f6 _ _ _ (by omega) R5
   ·rcases o3.ko with h1'|⟨b,h1',h2',h3',h4'⟩
    ·exact .inl h1'
    ·exact .inr ⟨b,h1',f56 b _ _ (by omega) (by omega) h2',h3',h4'⟩
   ·rw[Mb,hN,hB,if_pos (show((none:Option (List Nat)).isSome || true)=true from rfl)];exact m6
end
end
noncomputable section
open Go
set_option maxRecDepth 100000
section
variable {F:AEA}{e:Env}{h g g' h0:Hp}{bs r9 k1 bd tb n i m bad k:Nat}{v mv lv fv:IN}{ks:List Kt}{S:Nat->Prop}{ov:Bool}
theorem MI(W:g.Wf){L:List IN}(R:g.Row bs 0 L){off:Nat}(ho:off<L.length)(AEK:256<=bs)(h1:cellsOf v=[v])(h2:oneCell v=true):
  ∃ g',(∀ (F:AEA) (e:Env) (x y:O),x e=.pointer (some ⟨bs,off,none⟩)->y e=v->Ae .free (Ah 1 x y) F e g=.ok AED g')/\g'.Row bs 0 (over L off [v])/\g'.next=g.next/\g'.mark=g.mark/\Fx (fun b=>b=bs) g g'/\∀ h0:Hp,h0.Ext g->h0.next<=bs->h0.Ext g':=by
 have Rq:g.quiet.Row bs 0 L:=R.same rfl;have hoo:off+[v].length<=L.length:=ho;have ha:Ba [v]=true:=by
  show(bif oneCell v then true else false)=true;rw[h2];rfl
 have st:=Rq.AEH (n:=1) (off:=off) (v:=v) W.quiet AEK (by rw[h1];rfl) (by rw[h1];exact hoo) (by rw[h1];exact ha);rw[h1]at st;have wr:=Rq.AEM W.quiet hoo;have fx:=Fx.wr (S:=fun b=>b=bs) W.quiet Rq hoo rfl;have wx:=fun (h0:Hp) (x:h0.Ext g.quiet) (hb:h0.next<=bs)=>Rq.AEe x hb hoo
 have wn:=Rq.AEo hoo;generalize g.quiet.wr bs off [v]=q at st wr fx wx wn;refine⟨g.back q,fun F e x y hx hy=>BL (by rw[AX,hx,hy];exact st),wr.same rfl,wn,rfl,(fx.from (h:=g) rfl rfl).same rfl rfl,fun h0 x hb=>x.AFF (wx h0 x.quiet hb)⟩
theorem FG(W:g.Wf){L:List IN}(R:g.Row bs 0 L){off:Nat}(ho:off<L.length)(AEK:256<=bs)(h1:cellsOf v=[v])(h2:oneCell v=true):
  ∃ g',AEH 1 (.pointer (some ⟨bs,off,none⟩)) v g=.ok AED g'/\g'.Row bs 0 (over L off [v])/\g'.next=g.next/\Fx (fun b=>b=bs) g g'/\∀ h0:Hp,h0.Ext g->h0.next<=bs->h0.Ext g':=by
 have hoo:off+[v].length<=L.length:=ho;have ha:Ba [v]=true:=by
  show(bif oneCell v then true else false)=true;rw[h2];rfl
 have st:=R.AEH (n:=1) (off:=off) (v:=v) W AEK (by rw[h1];rfl) (by rw[h1];exact hoo) (by rw[h1];exact ha);rw[h1]at st;exact⟨_,st,R.AEM W hoo,R.AEo hoo,Fx.wr (S:=fun b=>b=bs) W R hoo rfl,fun h0 x hb=>R.AEe x hb hoo⟩
theorem jK(x0:h0.Ext h)(hk:h0.next<=k)(hk2:k<=h.next){xs:List IN}(o:h.Own k 3 v xs){bw:Nat}{z:Int}(Rw:h.Row bw 0 [AI AT z])(hl:xs.length<=1000000):
  ∃ h' v',(∀ (F:AEA) (e:Env) (x y:O),x e=v->y e=.slice (some ⟨bw,0,none⟩) 1 1->Ja x (Bo 1 8 3 x y) F e h=.ok v' h')/\h0.Ext h'/\h'.Own k 3 v' (xs++[AI AT z])/\h.next<h'.next/\h'.mark=h.mark/\(∀ b el L,¬ AEc v b->h.Row b el L->h'.Row b el L)/\(∀ b,AEc v' b->b=h.next):=by
 have W:=x0.wf;have cl:h.quiet.Cl (AEc v) 3 v xs:=by
  rcases o with ⟨h1,h2⟩|⟨b,h1,h2,h3,h4⟩
  ·exact .inl ⟨h1,h2⟩
  ·exact .inr ⟨b,4,h1,h2.same rfl,.inl rfl,⟨0,_,_,h1⟩,h4⟩
 have kb:∀ b,AEc v b->h0.next<=b:=fun b hb=>by
  obtain⟨off,n,c,e1⟩:=hb;rcases o with ⟨h1,h2⟩|⟨b',h1,h2,h3,h4⟩
  ·rw[h1]at e1;cases e1
  ·rw[h1]at e1
   injection e1 with e1 _ _
   injection e1 with e1
   injection e1 with e1 _ _
   omega
 obtain⟨h5,b5,a1,a2,a3,a4,a5,a6,a7,a8,a9⟩:=Y0 (eb:=8) (en:=3) x0.quiet cl kb (Rw.same (h':=h.quiet) rfl) rfl hl (by omega);have a4:b5=h.next:=a4;have a5:h5.next=h.next+1:=a5;have AEK:=W.big;refine⟨h.back h5,.slice (some ⟨b5,0,none⟩) (xs.length+1) (xs.length+1),fun F e x y hx hy=>Tm hx hy a1 (a9 rfl rfl h rfl),x0.AFF a2,.inr ⟨b5,by rw[No];rfl,a3.same rfl,by omega,by omega⟩,by show h.next<h5.next;omega,rfl,fun b el L hb r=>(a7 b el L hb (r.same rfl)).same rfl,fun b ⟨off,nn,c,e1⟩=>?_⟩;injection e1 with e1 _ _
 injection e1 with e1
 injection e1 with e1 _ _
 omega
theorem qP(W:h.Wf){rp:Nat}{p:Nat}(Rp:h.Row rp 0 [AI AT (p:Int)])(x:Kt):∃ h',call AC (m+1) 79 [ktV x,pt rp] h=.ok (.bool (decide (x.p=p))) h'/\h.Ext h':=by
 have bx:=fun (F:AEA) (e:Env) (he:J 0 e=ktV x)=>Hb (F:=F) W he
 have x1:=(Hp.Ext.refl W).AD9 0 (AY x);have R:=Hp.Row.new W 0 (AY x);generalize h.AD9 0 (AY x)=h1 at bx x1 R;obtain⟨_,_,_,_,_,l5,_⟩:=Bw R;have lp:=DI (Rp.ext W x1);have c1:iEq (x.p:Int) (p:Int)=decide (x.p=p):=by
  by_cases h3:x.p=p
  ·rw[decide_eq_true h3];exact CL (by omega)
  ·rw[decide_eq_false h3];exact B6 (by omega)
 refine⟨h1,?_,x1⟩;rw[pI rfl];unfold d79;simp only[iN,IS,sT,By,BY,reduceIte,bx,AH,AO,If,AN,AP,l5,lp,AK,AJ,c1,lV0]
theorem XG(W:h.Wf)(R:h.Row bs 0 (slL bd tb lv fv bad ov))(Rb:h.Row r9 0 [pt bs])(K:h.KS S lv ks)(hl:ks.length<=100000){p:Nat}:
  ∃ h',call AC (m+4) 77 [AI AT (p:Int),pt r9] h=.ok (.bool (ks.any fun x=>decide (x.p=p))) h'/\h.Ext h':=by
 have b1:=fun (F:AEA) (e:Env) (he:J 0 e=AI AT (p:Int))=>H5 (F:=F) W he
 have x1:=(Hp.Ext.refl W).AD9 0 [AI AT (p:Int)];have R1:=Hp.Row.new W 0 [AI AT (p:Int)];generalize h.AD9 0 [AI AT (p:Int)]=h1 at b1 x1 R1;have lb:=DI (Rb.ext W x1);obtain⟨_,_,_,l3,_⟩:=BD (R.ext W x1);obtain⟨h2,k2,x2⟩:=O0 (m:=m+1) (g:=79) (caps:=[pt h.next]) (P:=fun x=>decide (x.p=p)) x1.wf (K.ext W x1) hl fun g xg y hy=>qP (m:=m) xg.wf (R1.ext x1.wf xg) y
 refine⟨h2,?_,x1.trans x2⟩;rw[pG rfl];unfold d77;simp only[iN,IS,sT,By,BY,reduceIte,b1,AN,AP,lb,Ax,Al,AH,AO,If,l3,Df,AV,A2,BO,k2,lV0]
theorem jG:rY=BI (Ab 4 (A3 LM)) rW:=rfl
theorem jE:rV=VQ:=rfl
def AFR(ks:List Kt)(i:Nat):List Nat:=(zB i).filter fun p=> !(ks.any fun x=>decide (x.p=p))
def AGF(ks:List Kt)(mk:List Nat)(i:Nat):List Nat:=(zB i).filter fun p=> !(ks.any fun x=>decide (x.p=p)) && decide (p∈mk)
theorem Ik(ks:List Kt)(i:Nat):AFR ks (i+1)=AFR ks i++(if(ks.any fun x=>decide (x.p=i))=true then []else [i]):=by
 unfold AFR;rw[zh,AAJ];cases h:(ks.any fun x=>decide (x.p=i))<;>simp[h]
theorem Ke(ks:List Kt)(mk:List Nat)(i:Nat):AGF ks mk (i+1)=AGF ks mk i++(if(ks.any fun x=>decide (x.p=i))=true then []else if i∈mk then [i]else []):=by
 unfold AGF;rw[zh,AAJ];cases h:(ks.any fun x=>decide (x.p=i))<;>by_cases h2:i∈mk<;>simp[h,h2]
structure O2 (h g:Hp)(mk:List Nat)(bs r9 k1 bd tb i bad:Nat)(w mv fv ou:IN)(ks:List Kt):Prop where
 x:h.Ext g
 row:g.Row bs 0 (slL bd tb w fv bad false)
 rb:g.Row r9 0 [pt bs]
 ko:g.KO k1 w ks
 ok:∀ k∈ks,AGR g (fun b=>r9<b) k
 fs:g.Own k1 3 fv (ints .i64 ((AFR ks i).map zA))
 os:g.Own k1 3 ou (ints .i64 ((AGF ks mk i).map zA))
 ms:g.Own k1 3 mv (ints .i64 (mk.map zA))
 ap:∀ b,(AEc fv b->¬ AEc ou b/\¬ AEc mv b)/\(AEc ou b->¬ AEc mv b)
 le:k1<=g.next
theorem O2.ext{mk:List Nat}{w ou:IN}(o:O2 h g mk bs r9 k1 bd tb i bad w mv fv ou ks)(x:g.Ext g'):O2 h g' mk bs r9 k1 bd tb i bad w mv fv ou ks:=
 have W:=o.x.wf
 ⟨o.x.trans x,o.row.ext W x,o.rb.ext W x,o.ko.ext W x,fun k hk=>⟨(o.ok k hk).1.ext W x,(o.ok k hk).2⟩,o.fs.ext W x,o.os.ext W x,o.ms.ext W x,o.ap,yP o.le x.next⟩
theorem Hp.Own.lt'{en:Nat}{xs:List IN}(o:h.Own k en v xs)(W:h.Wf){b:Nat}(hb:AEc v b):b<h.next:=by
 obtain⟨off,n,c,e1⟩:=hb;rcases o with ⟨h1,h2⟩|⟨b',h1,h2,h3,h4⟩
 ·rw[h1]at e1;cases e1
 ·have:=h2.lt W
  rw[h1]at e1;injection e1 with e1 _ _
  injection e1 with e1
  injection e1 with e1 _ _
  omega
theorem Hp.Own.rw_{en:Nat}{xs:List IN}(o:h.Own k en v xs){b:Nat}(hb:AEc v b):h.Row b (en+1) xs:=by
 obtain⟨off,n,c,e1⟩:=hb;rcases o with ⟨h1,h2⟩|⟨b',h1,h2,h3,h4⟩
 ·rw[h1]at e1;cases e1
 ·rw[h1]at e1
  injection e1 with e1 _ _
  injection e1 with e1
  injection e1 with e1 _ _
  rw[<- e1];exact h2
theorem aZ{mk:List Nat}{w ou:IN}(W:h.Wf)(o:O2 h g mk bs r9 k1 bd tb i bad w mv fv ou ks)(hbs:h.next<=bs/\bs<r9/\r9<k1){nn:Nat}(hi:i<nn)(hnn:nn<=30000)(hks:ks.length<=30000)(hmk:mk.length<=30000)
  (t9:J 9 e=pt r9)(t11:J 11 e=mv)(t17:J 17 e=.func (.func 77) ⟨[]⟩ ⟨[pt r9]⟩)(t18:J 18 e=ou)(Re:J 102 e=AI AT (nn:Int))(PR:J 103 e=AI AT (i:Int)):
  ∃ e' g' fv' ou',LM (call AC (m+6)) e g=.norm e' g'/\O2 h g' mk bs r9 k1 bd tb (i+1) bad w mv fv' ou' ks/\J 18 e'=ou'/\J 103 e'=AI AT ((i+1:Nat):Int)/\∀ j,j=0\/j=1\/j=2\/j=9\/j=11\/j=17\/j=102->J j e'=J j e:=by
 have W1:=o.x.wf;have hhk:h.next<=k1:=by omega
 have AEK:256<=bs:=by have:=W.big;omega
 have c1:iLt (i:Int) (nn:Int)=true:=EW hi;obtain⟨h1,k1c,x1⟩:=XG (m:=m+2) W1 o.row o.rb o.ko.lst (by omega) (p:=i);have o1:=o.ext x1;cases hc:(ks.any fun x=>decide (x.p=i))with
 |true=>
  rw[hc]at k1c;have a3:=CI (i:=i) (h:=h1) (by omega);have hrun:∃ e2,LM (call AC (m+6)) e g=.norm e2 h1/\J 18 e2=ou/\J 103 e2=AI AT ((i+1:Nat):Int)/\∀ j,j=0\/j=1\/j=2\/j=9\/j=11\/j=17\/j=102->J j e2=J j e:=by
   unfold LM;simp only[sT,By,BY,reduceIte,AK,AJ,PR,Re,c1,CV,t17,Co,AV,A2,yU,AAU,k1c,BZ,BX,Bool.not_true,BM,a3];refine⟨_,rfl,by simp[AG,t18],by simp[AG],fun j hj=>?_⟩;rcases hj with rfl|rfl|rfl|rfl|rfl|rfl|rfl<;>simp only[AG,By,BY,reduceIte]
  obtain⟨e2,r1,r2,r3,r4⟩:=hrun;refine⟨e2,h1,fv,ou,r1,⟨o1.x,o1.row,o1.rb,o1.ko,o1.ok,?_,?_,o1.ms,o1.ap,o1.le⟩,r2,r3,r4⟩
  ·rw[Ik,hc,if_pos rfl,xx];exact o1.fs
  ·rw[Ke,hc,if_pos rfl,xx];exact o1.os
 |false=>
  rw[hc]at k1c;have xm:=o1.x.marked;have om:=o1.ext (Hp.Ext.refl o1.x.wf).marked;have lb:=DI om.rb;obtain⟨_,_,_,_,l4,_⟩:=BD om.row;have qs:∀ (F:AEA) (e:Env),J 19 e=AI AT (i:Int)->Ae .AER (Ar 1 (Bc ty3.zero 1) [(0,1,J 19)]) F e h1.marked=.ok (.slice (some ⟨h1.next,0,none⟩) 1 1) (h1.marked.back (h1.marked.quiet.AD9 0 [AI AT (i:Int)])):=fun F e he=>Ck (Ej xm.wf.quiet he) ((Hp.Ext.refl xm.wf.quiet).AD9 _ _) (IT _)
  have y2:h1.marked.Ext (h1.marked.back (h1.marked.quiet.AD9 0 [AI AT (i:Int)])):=.back ((Hp.Ext.refl xm.wf.quiet).AD9 _ _);have Rw:(h1.marked.back (h1.marked.quiet.AD9 0 [AI AT (i:Int)])).Row h1.next 0 [AI AT (i:Int)]:=(Hp.Row.new xm.wf.quiet 0 [AI AT (i:Int)]).same rfl;generalize h1.marked.back (h1.marked.quiet.AD9 0 [AI AT (i:Int)])=h2 at qs y2 Rw;have o2:=om.ext y2;have ck:∀ (K:C) (F:AEA) (e:Env),J 114 e=fv->J 9 e=pt r9->Ci (J 114) [J 9] K F e h2=K F e h2:=fun K F e a1 a2=>by
   rcases o2.fs with ⟨h1',_⟩|⟨b',h1',h2',h3',_⟩
   ·exact eY (b:=0) a1 (.inl h1') a2 (.inl h1')
   ·exact eY (b:=b') a1 (.inr ⟨_,_,_,h1'⟩) a2 (.inr (by omega))
  have hfl:(AFR ks i).length<=i:=Dq i _;have hol:(AGF ks mk i).length<=i:=Dq i _;obtain⟨h3,fv3,k3,x3,fs3,n3,_,kp3,nb3⟩:=jK o2.x hhk o2.le o2.fs Rw (by unfold ints;rw[OF,OF];omega);have AKq:fv3=fv3:=rfl;have AHF:=kp3 _ _ _ (o2.fs.nb o2.row (by omega)) o2.row;have jD:cellsOf fv3=[fv3]/\oneCell fv3=true:=by
   rcases fs3 with ⟨h1,_⟩|⟨b,h1,_⟩<;>rw[h1]<;>exact⟨rfl,rfl⟩
  obtain⟨h4,k4,AHG,n4,_,fx4,e4⟩:=MI x3.wf AHF (off:=4) (show 4<7 by omega) AEK jD.1 jD.2;have x4:=e4 h x3 hbs.1;have kp4:∀ b el L,b≠bs->h3.Row b el L->h4.Row b el L:=fun b el L hb r=>fx4.row x3.wf r hb
  have AHZ:∀ b el L,b≠bs->¬ AEc fv b->h2.Row b el L->h4.Row b el L:=fun b el L h1 h2 r=>kp4 b el L h1 (kp3 b el L h2 r)
  have AHG:h4.Row bs 0 (slL bd tb w fv3 bad false):=AHG;have ow:∀ {u:IN} {xs:List IN},h2.Own k1 3 u xs->(∀ b,AEc u b->¬ AEc fv b)->h4.Own k1 3 u xs:=fun o hd=>by
   rcases o with h1'|⟨b,h1',h2',h3',h4'⟩
   ·exact .inl h1'
   ·exact .inr ⟨b,h1',AHZ b _ _ (by omega) (hd b ⟨0,_,_,h1'⟩) h2',h3',h4'⟩
  have fs4:h4.Own k1 3 fv3 (ints .i64 ((AFR ks i).map zA)++[AI AT (i:Int)]):=by
   rcases fs3 with h1'|⟨b,h1',h2',h3',h4'⟩
   ·exact .inl h1'
   ·exact .inr ⟨b,h1',kp4 b _ _ (by omega) h2',h3',h4'⟩
  have os4:=ow o2.os fun b hb hf=>((o2.ap b).1 hf).1 hb
  have ms4:=ow o2.ms fun b hb hf=>((o2.ap b).1 hf).2 hb
  have ko4:h4.KO k1 w ks:=by
   rcases o2.ko with h1'|⟨b,h1',h2',h3',h4'⟩
   ·exact .inl h1'
   ·exact .inr ⟨b,h1',AHZ b _ _ (by omega) (o2.fs.nb h2' (by omega)) h2',h3',h4'⟩
  have rb4:=AHZ _ _ _ (by omega) (o2.fs.nb o2.rb (by omega)) o2.rb;have ok4:∀ k∈ks,AGR h4 (fun b=>r9<b) k:=fun k hk=>⟨(o2.ok k hk).1.keep fun b el L hb he r=>AHZ b el L (by have hb:r9<b:=hb;omega) (o2.fs.nb r (by omega)) r,(o2.ok k hk).2⟩
  have ap4:∀ b,(AEc fv3 b->¬ AEc ou b/\¬ AEc mv b)/\(AEc ou b->¬ AEc mv b):=fun b=>⟨fun hb=>by
   have e1:=nb3 b hb;exact⟨fun h=>by have:=o2.os.lt' o2.x.wf h;omega,fun h=>by have:=o2.ms.lt' o2.x.wf h;omega⟩,(o2.ap b).2⟩
  have k5:=Pu (n:=m+4) (x:=(i:Int)) ms4.vals (by rw[OF];omega);have hmem:decide ((i:Int)∈mk.map zA)=decide (i∈mk):=by
   rw[decide_eq_decide,List.mem_map];constructor
   ·rintro⟨a,ha,he⟩
    have:a=i:=zA.inj he;rw[<- this];exact ha
   ·exact fun h=>⟨i,h,rfl⟩
  rw[hmem]at k5;have k5:call AC (m+6) 80 [mv,AI AT (i:Int)] h4=.ok (.bool (decide (i∈mk))) h4:=k5;by_cases him:i∈mk
  ·rw[decide_eq_true him]at k5
   have is:=fun (F:AEA) (e:Env) (he:J 19 e=AI AT (i:Int))=>Ej (F:=F) x4.wf he
   obtain⟨h6,ou6,k6,x6,os6,n6,f6⟩:=Jf (eb:=8) (en:=3) (kd:=.i64) (n:=(i:Int)) x4 hhk (by have:=o2.le;omega) os4 (by unfold ints;rw[OF,OF];omega);have a3:=CI (i:=i) (h:=h6) (by omega);have hrun:∃ e2,LM (call AC (m+6)) e g=.norm e2 h6/\J 18 e2=ou6/\J 103 e2=AI AT ((i+1:Nat):Int)/\∀ j,j=0\/j=1\/j=2\/j=9\/j=11\/j=17\/j=102->J j e2=J j e:=by
    unfold LM;simp only[sT,By,BY,reduceIte,AK,AJ,PR,Re,c1,CV,t17,Co,AV,A2,yU,AAU,k1c,BZ,BX,yh,A0,AN,AP,t9,lb,Ax,Al,AH,AO,If,l4,qs];rw[ck _ _ _ (by simp[AG]) (by simp[AG,t9])];simp only[sT,By,BY,reduceIte];rw[k3 _ _ _ _ (by simp[AG]) (by simp[AG])];simp only[sT,By,BY,reduceIte,Ax,Al,AH,AO,If];rw[k4 _ _ _ _ (by simp[AG]) (by simp[AG])];simp only[sT,By,BY,reduceIte,cA0,t11,k5,is,BN,t18,k6,PR,BM,a3];refine⟨_,rfl,by simp[AG],by simp[AG],fun j hj=>?_⟩;rcases hj with rfl|rfl|rfl|rfl|rfl|rfl|rfl<;>simp only[AG,By,BY,reduceIte]
   obtain⟨e2,r1,r2,r3,r4⟩:=hrun;have kp6:∀ b el L,¬ AEc ou b->h4.Row b el L->h6.Row b el L:=fun b el L hb r=>(f6 b el L hb r).1
   refine⟨e2,h6,fv3,ou6,r1,⟨x6,kp6 _ _ _ (os4.nb AHG (by omega)) AHG,kp6 _ _ _ (os4.nb rb4 (by omega)) rb4,?_,fun k hk=>⟨(ok4 k hk).1.keep fun b el L hb he r=>kp6 b el L (os4.nb r (by omega)) r,(ok4 k hk).2⟩,?_,?_,?_,fun b=>⟨fun hb=>⟨fun h=>?_,((ap4 b).1 hb).2⟩,fun hb hm=>?_⟩,by have:=o2.le;omega⟩,r2,r3,r4⟩
   ·rcases ko4 with h1'|⟨b,h1',h2',h3',h4'⟩
    ·exact .inl h1'
    ·exact .inr ⟨b,h1',kp6 b _ _ (os4.nb h2' (by omega)) h2',h3',h4'⟩
   ·rw[Ik,hc,if_neg (by decide),HV]
    rcases fs4 with h1'|⟨b,h1',h2',h3',h4'⟩
    ·exact .inl h1'
    ·exact .inr ⟨b,h1',kp6 b _ _ ((ap4 b).1 ⟨0,_,_,h1'⟩).1 h2',h3',h4'⟩
   ·rw[Ke,hc,if_neg (by decide),if_pos him,HV];exact os6
   ·rcases ms4 with h1'|⟨b,h1',h2',h3',h4'⟩
    ·exact .inl h1'
    ·exact .inr ⟨b,h1',kp6 b _ _ (fun hb=>(ap4 b).2 hb ⟨0,_,_,h1'⟩) h2',h3',h4'⟩
   ·exact(f6 b _ _ ((ap4 b).1 hb).1 (fs4.rw_ hb)).2 h
   ·exact(f6 b _ _ (fun ho=>(ap4 b).2 ho hm) (ms4.rw_ hm)).2 hb
  ·rw[decide_eq_false him]at k5
   have a3:=CI (i:=i) (h:=h4) (by omega);have hrun:∃ e2,LM (call AC (m+6)) e g=.norm e2 h4/\J 18 e2=ou/\J 103 e2=AI AT ((i+1:Nat):Int)/\∀ j,j=0\/j=1\/j=2\/j=9\/j=11\/j=17\/j=102->J j e2=J j e:=by
    unfold LM;simp only[sT,By,BY,reduceIte,AK,AJ,PR,Re,c1,CV,t17,Co,AV,A2,yU,AAU,k1c,BZ,BX,yh,A0,AN,AP,t9,lb,Ax,Al,AH,AO,If,l4,qs];rw[ck _ _ _ (by simp[AG]) (by simp[AG,t9])];simp only[sT,By,BY,reduceIte];rw[k3 _ _ _ _ (by simp[AG]) (by simp[AG])];simp only[sT,By,BY,reduceIte,Ax,Al,AH,AO,If];rw[k4 _ _ _ _ (by simp[AG]) (by simp[AG])];simp only[sT,By,BY,reduceIte,cA0,t11,k5,PR,BM,a3];refine⟨_,rfl,by simp[AG,t18],by simp[AG],fun j hj=>?_⟩;rcases hj with rfl|rfl|rfl|rfl|rfl|rfl|rfl<;>simp only[AG,By,BY,reduceIte]
   obtain⟨e2,r1,r2,r3,r4⟩:=hrun;refine⟨e2,h4,fv3,ou,r1,⟨x4,AHG,rb4,ko4,ok4,?_,?_,ms4,ap4,by have:=o2.le;omega⟩,r2,r3,r4⟩
   ·rw[Ik,hc,if_neg (by decide),HV];exact fs4
   ·rw[Ke,hc,if_neg (by decide),if_neg him,xx];exact os4
end
end
noncomputable section
open Go
set_option maxRecDepth 100000
theorem su:Ri.zero=[.pointer none,.pointer none,AI AT 0,.slice none 0 0,.slice none 0 0,AI AT 0,.bool false]:=by kernel_rfl
theorem kI:Bt .mt 0 [.pointer none]=some wi:=by kernel_rfl
section
variable {F:AEA}{e:Env}{h:Hp}{n:Nat}
theorem dq{g1 g2 g3:O}{a b:Nat}(h1:g1 e=pt a)(h2:g2 e=pt b)(h3:g3 e=AI AT 100):BC Ri.zero [(0,1,g1),(1,1,g2),(2,1,g3)] F e h=.ok (.agg ⟨slL a b AEF AEF 0 false⟩) h:=by
 rw[CQ,su,As (hk:=by rw[h1];rfl),h1,As (hk:=by rw[h2];rfl),h2,As (hk:=by rw[h3];rfl),h3];simp only[show ∀ a,cellsOf (pt a)=[pt a]from fun _=>rfl,Cq,yg,xY,yS,over,ABY,ABR,AAH,yU,zb,IS,zr,if_true,Bu,reduceIte];rfl
theorem xD{n:Nat}(hn:n<=1000000):SY .i64 (AI AT (n:Int)) (AI AT 3) h=.ok (AI AT ((n/3:Nat):Int)) h:=by
 have:((n:Nat):Int).tdiv 3=((n/3:Nat):Int):=rfl;rw[LV (by omega),this,Bn (by omega)]
end
end
noncomputable section
open Go
set_option maxRecDepth 100000
theorem V6:Hq.k=.ptr 121:=by kernel_rfl
theorem V9:TU.k=.slice 3:=by kernel_rfl
theorem TR:OL.k=.slice 123:=by kernel_rfl
def AEb(T:List Nat)(a b c:Int)(s:Nat)(l:List Nat):List Nat:=Ea T (LG (CJ a.toNat b.toNat c.toNat s l.length (CD T l)))
theorem EF{a b c:Int}{s n:Nat}(h:AEP a b c s n=true):0<=a/\a<=1099511627776/\0<=b/\b<255/\1<=c/\c<=1099511627776/\(s=1\/s=2)/\n<=65536:=of_decide_eq_true h
theorem GO{T:List Nat}{a b c:Int}{s:Nat}{l:List Nat}(h:AEP a b c s l.length=true):(AEb T a b c s l).length=64:=by
 obtain⟨h1,h2,h3,h4,h5,h6,h7,h8⟩:=EF h;unfold AEb LG;rw[IF,Mo];have:=N4 (a:=a.toNat) (b:=b.toNat) (c:=c.toNat) (s:=s) (m:=l.length) (t:=CD T l) (by omega) (by omega) (by omega) (by omega) h8 (II T l);omega
theorem MM{T:List Nat}{a b c:Int}{s:Nat}{l:List Nat}:∀ x∈AEb T a b c s l,x<256:=RO (VX OM)
theorem Pq{l:List Nat}(h:l.length=64):Cy l 0=l:=by
 unfold Cy;rw[Nat.mul_zero,yv,zq (by omega),h];exact xx l
def Jw(p:Nat)(l:List Nat):List AEz:=(zB ((l.length+63)/64)).map (fun j=>AEz.w (p*3+1+j) (Cy l j))++[.f]
def F9(p:Nat)(H:List Nat):List AEz:=[.w (p*3) H,.f]
theorem My:∀ (ds:List AEz) (M:List Nat) (cs:List (Nat×List Nat)),(GV M cs (ds++[.f])).2=[]
 |[],M,cs=>rfl
 |.w i l::ds,M,cs=>My ds _ _
 |.f::ds,M,cs=>My ds _ _
theorem jC{n p:Nat}{l:List Nat}(hp:3*p+3<=n)(hl:1<=l.length/\l.length<=100)(hb:∀ x∈l,x<256){H:List Nat}(hH:H.length=64)(hHb:∀ x∈H,x<256):FI n [] (Jw p l++F9 p H):=by
 have hk:(l.length+63)/64=1\/(l.length+63)/64=2:=by omega
 unfold Jw F9;rcases hk with hk|hk<;>rw[hk]
 ·exact⟨fun x hx=>(by cases hx),by show p*3+1+0<n;omega,Cr _ _,L2 hb _,by simp,by simp,fun x hx=>(by cases hx),by omega,hH,hHb,by simp,by simp,trivial⟩
 ·refine⟨fun x hx=>(by cases hx),by show p*3+1+0<n;omega,Cr _ _,L2 hb _,fun x hx=>?_,by show p*3+1+1<n;omega,Cr _ _,L2 hb _,by simp,by simp,fun x hx=>(by cases hx),by omega,hH,hHb,by simp,by simp,trivial⟩
  have:=yE.1 hx;rw[this];show p*3+1+0≠p*3+1+1;omega
theorem VP{n p:Nat}(hp:3*p+3<=n){H:List Nat}(hH:H.length=64)(hHb:∀ x∈H,x<256):FI n [] (F9 p H):=⟨fun x hx=>(by cases hx),by omega,hH,hHb,by simp,by simp,trivial⟩
def Dw(T M:List Nat)(p:Nat)(l H:List Nat):List Nat:=(GV M [] (Jw p l++F9 p H)).1
def G7(M:List Nat)(p:Nat)(H:List Nat):List Nat:=(GV M [] (F9 p H)).1
section
variable {F:AEA}{e:Env}{h h' h0:Hp}{S:Nat->Prop}{A:At}{T M:List Nat}{c0 bad m k p:Nat}{arm:Int}{ks:List Kt}{fr:List Nat}{v lv fv:IN}{ov:Bool}
theorem NC(R:h.Row A.bs 0 (slL A.bd A.tb lv fv bad false)):call AC (m+1) 92 [pt A.bs] h=.ok (AI AT 0) h:=by
 obtain⟨l0,_,_,_,_,_,l6⟩:=BD R;have n1:∀ e:Env,J 0 e=pt A.bs->oEq Hq.k false (J 0) (kV (.pointer none)) (call AC m) e h=.ok (.bool false) h:=fun e he=>F2 V6 he
 have n2:∀ e:Env,J 10 e=pt A.bd->oEq YG.k false (J 10) (kV (.pointer none)) (call AC m) e h=.ok (.bool false) h:=fun e he=>F2 ll he
 rw[pM rfl];unfold d92;simp only[iN,IS,sT,By,BY,reduceIte,gD,n1,Ax,Al,AH,AO,If,AN,AP,l0,n2,l6,lV0]
theorem pU{n:Nat}{h:Hp}(W:h.Wf){u:IN}{xs:List IN}(V:h.AEX u xs)(ha:Ba xs=true)(hl:xs.length<=1000000):
  ∃ h' v,call AC (n+1) 102 [u] h=.ok v h'/\h.Ext h'/\h'.WI (fun b=>h.next<=b) v xs:=by
 rcases V with ⟨rfl,rfl⟩|⟨b,off,c,el,L,h1,h2,h3,h4⟩
 ·have ne:∀ e:Env,J 0 e=.slice none 0 0->oEq TU.k false (J 0) (kV (.slice none 0 0)) (call AC n) e h=.ok (.bool true) h:=fun e he=>JY (t:=0) V9 he
  refine⟨h,AEF,?_,.refl W,.inl ⟨rfl,rfl⟩⟩;rw[Hw rfl];unfold OY;simp only[iN,IS,sT,By,BY,reduceIte,ne,lV0]
 ·have V:h.AEX u xs:=.inr ⟨b,off,c,el,L,h1,h2,h3,h4⟩
  have x1:=(Hp.Ext.refl W).AD9 0 [];have R:=Hp.Row.new W 0 [];have es:=fun (e:Env) (t:List IN)=>KE (F:=call AC n) (e:=e) (t:=t) W
  have n1:(h.AD9 0 []).next=h.next+1:=rfl;generalize h.AD9 0 []=g at x1 R es n1;have ne:∀ e:Env,J 0 e=u->oEq TU.k false (J 0) (kV (.slice none 0 0)) (call AC n) e h=.ok (.bool false) h:=fun e he=>JX (t:=0) V9 (he.trans h1)
  have V1:=V.ext W x1;have big:=W.big;rcases yd xs.length with hz|hz
  ·obtain rfl:xs=[]:=zE hz
   have ap:DP 1 8 3 (.slice (some ⟨h.next,0,none⟩) 0 0) u g=.ok (.slice (some ⟨h.next,0,none⟩) 0 0) (g.wr h.next 0 []):=Hg x1.wf big R (fun k=>V1.src rfl k) V1.lenV;have R2:=R.AEM x1.wf (off:=0) (vs:=[]) (IT _);refine⟨_,.slice (some ⟨h.next,0,none⟩) 0 0,?_,R.AEe x1 (IT _) (off:=0) (vs:=[]) (IT _),.inr ⟨h.next,0,rfl,R2,.inr rfl,IT _⟩⟩;rw[Hw rfl];unfold OY;simp only[iN,IS,sT,By,BY,reduceIte,ne,es,BN,ap,lV0]
  ·obtain⟨h2,a1,a2,a3,a4,a5⟩:=Ei (eb:=8) (en:=3) x1 R (es:=1) (fun k=>V1.src rfl k) V1.lenV (by omega) hz ha (by omega)
   refine⟨h2,_,?_,a2,.inr ⟨g.next,3+1,rfl,a3,.inl rfl,by omega⟩⟩;rw[Hw rfl];unfold OY;simp only[iN,IS,sT,By,BY,reduceIte,ne,es,BN,a1,lV0]
theorem SS(W:h.Wf)(K:h.KS S v ks)(hu:∀ k∈ks,oneCell k.u=true)(h0:ks=[]->v=.slice none 0 0)(hl:ks.length<=10000):
  ∃ h' w,call AC (m+1) 103 [v] h=.ok w h'/\h.Ext h'/\h'.KO h.next w ks:=by
 rcases K with ⟨rfl,rfl⟩|⟨b,c,el,L,h1,hcc,h2,hL,ht,hel,h3⟩
 ·have ne:∀ e:Env,J 0 e=.slice none 0 0->oEq OL.k false (J 0) (kV (.slice none 0 0)) (call AC m) e h=.ok (.bool true) h:=fun e he=>JY (t:=0) TR he
  refine⟨h,AEF,?_,.refl W,.inl ⟨rfl,rfl⟩⟩;rw[OV rfl];unfold XI;simp only[iN,IS,sT,By,BY,reduceIte,ne,lV0]
 ·have hpos:0<ks.length:=by
   rcases yd ks.length with hz|hz
   ·have:=h0 (zE hz)
    rw[this]at h1;cases h1
   ·exact hz
  have x1:=(Hp.Ext.refl W).AD9 0 [];have R:=Hp.Row.new W 0 [];have es:=fun (e:Env) (t:List IN)=>KE (F:=call AC m) (e:=e) (t:=t) W
  have n1:(h.AD9 0 []).next=h.next+1:=rfl;generalize h.AD9 0 []=g at x1 R es n1;have ne:∀ e:Env,J 0 e=v->oEq OL.k false (J 0) (kV (.slice none 0 0)) (call AC m) e h=.ok (.bool false) h:=fun e he=>JX (t:=0) TR (he.trans h1)
  have R1:=h2.ext W x1;have ha:Ba (flK ks)=true:=by
   clear h1 h2 R1 hl hpos h0 hcc hL ht
   induction ks with
   |nil=>rfl
   |cons k l ih=>
    refine PE fun x hx=>?_
    obtain⟨y,hy,hxy⟩:=List.mem_flatMap.1 hx;have huy:=hu y hy;have hxy:x∈[ye .i64 y.a,AI AT y.b,AI AT y.c,.int .u8 (y.s:Int),y.u,AI AT (y.p:Int)]:=hxy;simp only[xz,List.mem_nil_iff,or_false]at hxy;rcases hxy with rfl|rfl|rfl|rfl|rfl|rfl
    all_goals first|exact huy|rfl
  have big:=W.big;obtain⟨h2',a1,a2,a3,a4,a5⟩:=Ei (eb:=64) (en:=123) (u:=v) (cs:=flK ks) (n:=ks.length) x1 R (es:=6) (fun K=>by
   have e1:=R1.AGB (es:=6) (off:=0) (n:=ks.length) (sl:=ks.length) (c:=c) (k:=K) (by omega);rw[h1,e1,yv,zT ks.length 6,ht]) (by rw[h1];rfl) (by rw[CX];omega) hpos ha (by omega)
  refine⟨h2',_,?_,a2,.inr ⟨g.next,rfl,a3,by omega,by omega⟩⟩;rw[OV rfl];unfold XI;simp only[iN,IS,sT,By,BY,reduceIte,ne,es,BN,a1,lV0]
def Hp.KN(h:Hp)(k:Nat)(v:IN)(ks:List Kt):Prop:=h.KO k v ks\/(ks=[]/\∃ b,v=.slice (some ⟨b,0,none⟩) 0 0/\h.Row b 0 []/\k<=b/\256<=b)
theorem UD(W:h.Wf)(K:h.KS S v ks)(hu:∀ k∈ks,oneCell k.u=true)(hl:ks.length<=10000):
  ∃ h' w,call AC (m+1) 103 [v] h=.ok w h'/\h.Ext h'/\h'.KN h.next w ks:=by
 have K0:=K;rcases K with ⟨rfl,rfl⟩|⟨b,c,el,L,h1,hcc,h2,hL,ht,hel,h3⟩
 ·obtain⟨h',w,a,b,c⟩:=SS (m:=m) W K0 hu (fun _=>rfl) hl
  exact⟨h',w,a,b,.inl c⟩
 ·rcases yd ks.length with hz|hz
  ·obtain rfl:ks=[]:=zE hz
   have x1:=(Hp.Ext.refl W).AD9 0 [];have R:=Hp.Row.new W 0 [];have es:=fun (e:Env) (t:List IN)=>KE (F:=call AC m) (e:=e) (t:=t) W
   generalize h.AD9 0 []=g at x1 R es;have ne:∀ e:Env,J 0 e=v->oEq OL.k false (J 0) (kV (.slice none 0 0)) (call AC m) e h=.ok (.bool false) h:=fun e he=>JX (t:=0) TR (he.trans h1)
   have R1:=h2.ext W x1;have ap:DP 6 64 123 (.slice (some ⟨h.next,0,none⟩) 0 0) v g=.ok (.slice (some ⟨h.next,0,none⟩) 0 0) (g.wr h.next 0 []):=Hg x1.wf W.big R (fun K=>by
    have e1:=R1.AGB (es:=6) (off:=0) (n:=0) (sl:=0) (c:=c) (k:=K) (by omega);rw[h1];exact e1) (by rw[h1];rfl)
   have R2:=R.AEM x1.wf (off:=0) (vs:=[]) (IT _);refine⟨_,.slice (some ⟨h.next,0,none⟩) 0 0,?_,R.AEe x1 (IT _) (off:=0) (vs:=[]) (IT _),.inr ⟨rfl,h.next,rfl,R2,IT _,W.big⟩⟩;rw[OV rfl];unfold XI;simp only[iN,IS,sT,By,BY,reduceIte,ne,es,BN,ap,lV0]
  ·obtain⟨h',w,a,b,c⟩:=SS (m:=m) W K0 hu (fun h=>by rw[h]at hz;exact absurd hz (Nat.lt_irrefl 0)) hl
   exact⟨h',w,a,b,.inl c⟩
theorem ee{xs:List IN}{z:IN}(o:h.WI S v (z::xs)):∃ w,h.AEX w xs/\∀ (F:AEA) (e:Env) (x:O),x e=v->EB 3 1 x (some (kV (AI AT 1))) none none F e h=.ok w h:=by
 rcases o with ⟨_,h2⟩|⟨b,el,hv,Rb,hel,_⟩
 ·cases h2
 ·have hl:(z::xs).length=xs.length+1:=rfl
  have key:∀ (F:AEA) (e:Env) (x:O),x e=v->EB 3 1 x (some (kV (AI AT 1))) none none F e h=Br (some ⟨b,0,none⟩) 1 1 (xs.length+1) (xs.length+1) h:=fun F e x hx=>by
   show(match x e with|.slice a n c=>Dc e n c (some (kV (AI AT 1))) none none (fun l hh m=>EL 3 1 a false l hh m h)|_=>.no)=_;rw[hx,hv,hl];show(bif Nat.ble 1 (xs.length+1)then EL 3 1 (some ⟨b,0,none⟩) false 1 (xs.length+1) (xs.length+1) h else .no)=_;rw[Au.2 (show 1<=xs.length+1 by omega)];show(bif Ez 3 (some ⟨b,0,none⟩) h then Br (some ⟨b,0,none⟩) 1 1 (xs.length+1) (xs.length+1) h else .no)=_;have:Ez 3 (some ⟨b,0,none⟩) h=true:=by
    obtain⟨cc,hcc,_⟩:=Rb.rowOf;unfold Ez;simp only[hcc];rcases hel with rfl|rfl<;>rfl
   rw[this];rfl
  cases xs with
  |nil=>
   refine⟨.slice (some ⟨b,0,none⟩) 0 0,.inr ⟨b,0,0,el,_,rfl,Rb,yK _,rfl⟩,fun F e x hx=>?_⟩;rw[key F e x hx];rfl
  |cons y ys=>
   refine⟨.slice (some ⟨b,1,none⟩) (ys.length+1) (ys.length+1),.inr ⟨b,1,ys.length+1,el,_,rfl,Rb,?_,?_⟩,fun F e x hx=>?_⟩
   ·show 1+(ys.length+1)<=ys.length+1+1
    omega
   ·show((z::y::ys).drop 1).take (y::ys).length=y::ys
    exact zK
   ·rw[key F e x hx]
    show Br (some ⟨b,0,none⟩) 1 1 (ys.length+1+1) (ys.length+1+1) h=_;unfold Br;simp only[Ap];have e1:Nat.beq (ys.length+1+1) 1=false:=rfl;have e2:Nat.sub (ys.length+1+1) 1=ys.length+1:=rfl;simp only[e1,e2]
theorem Po{g1 g2 g3 g5:O}{a b c:Int}{u:IN}(h1:g1 e=AI AT a)(h2:g2 e=AI AT b)(h3:g3 e=AI AT c)(h5:g5 e=u)(hc:cellsOf u=[u])(hk:known u=true):
  BC IO.zero [(0,1,g1),(1,1,g2),(2,1,g3),(3,1,kV (.int .u8 1)),(4,1,g5)] F e h=.ok (Bk a b c 1 u) h:=by
 rw[CQ,TY,As (hk:=by rw[h1];rfl),h1,As (hk:=by rw[h2];rfl),h2,As (hk:=by rw[h3];rfl),h3,As,As (hk:=by rw[h5];exact hk),h5,hc];simp only[HY,Cq,yg,xY,yS,A4,over,ABY,ABR,AAH,yU,zb,IS,zr,if_true,Bu,reduceIte];rfl
theorem Sl.bsx{ks':List Kt}{fr':List Nat}{lv' fv':IN}{AIE:Nat}{ov':Bool}(s:Sl h A T M c0 arm ks fr lv fv bad ov)(W:h.Wf)(x:Fx (fun b=>b=A.bs) h h')(row:h'.Row A.bs 0 (slL A.bd A.tb lv' fv' AIE ov'))(ls:h'.KS (fun b=>¬ A.D b) lv' ks')(ko:∀ k∈ks',AGR h' (fun b=>¬ A.D b) k)
  (fs:h'.WI (fun b=>¬ A.D b) fv' (ints .i64 (fr'.map zA)))(le:ks'.length<=1000/\fr'.length<=1000/\AIE<=1000/\∀ p∈fr',3*p+3<=A.n):Sl h' A T M c0 arm ks' fr' lv' fv' AIE ov':=
 ⟨row,s.dk.fr W x (fun h=>s.ne.1 h.symm) (fun h=>s.ne.2.1 h.symm) (fun h=>s.ne.2.2.1 h.symm),x.row W s.tab (fun h=>s.ne.2.2.2.1 (.inl h)),s.tok,ls,ko,fs,s.ne,le⟩
end
end
noncomputable section
open Go
set_option maxRecDepth 100000
theorem Oh:∀ (ks:List Kt) (j:Nat) (x:Kt),j<ks.length->over (flK ks) (6*j) (AY x)=flK (ks.set j x)
 |[],j,x,h=>by cases h
 |k::ks,0,x,h=>by
  show over (AY k++flK ks) 0 (AY x)=AY x++flK ks;exact Mn rfl
 |k::ks,j+1,x,h=>by
  have ih:=Oh ks j x (by simpa using h);show over (AY k++flK ks) (6*(j+1)) (AY x)=AY k++flK (ks.set j x);rw[<- ih];unfold over;have e1:6*(j+1)=(AY k).length+6*j:=by show _=6+_;omega
  have e2:6*(j+1)+(AY x).length=(AY k).length+(6*j+(AY x).length):=by rw[e1];omega
  rw[e2,List.drop_length_add_append,e1,List.take_length_add_append,yF,yF,yF]
def IK(x:Kt):List Kt->List Kt
 |[]=>[x]
 |y::r=>if Gp x y<0 then y::IK x r else x::y::r
def Gg(A:List Kt)(x:Kt):List Kt:=(IK x A.reverse).reverse
def srt:List Kt->List Kt->List Kt
 |A,[]=>A
 |A,x::B=>srt (Gg A x) B
theorem KP(x y:Kt)(r:List Kt):IK x (y::r)=if Gp x y<0 then y::IK x r else x::y::r:=rfl
theorem QS(x:Kt):∀ l:List Kt,(IK x l).length=l.length+1
 |[]=>rfl
 |y::r=>by
  unfold IK;split
  ·rw[xY,QS x r,xY]
  ·rfl
theorem MQ(A:List Kt)(x:Kt):(Gg A x).length=A.length+1:=by
 unfold Gg;rw[AAj,QS,AAj]
theorem MP{x z:Kt}:∀ {l:List Kt},z∈IK x l↔z=x\/z∈l
 |[]=>by simp[IK]
 |y::r=>by
  unfold IK;split
  ·rw[xz,MP,xz]
   constructor
   ·rintro (h|h|h)
    ·exact .inr (.inl h)
    ·exact .inl h
    ·exact .inr (.inr h)
   ·rintro (h|h|h)
    ·exact .inr (.inl h)
    ·exact .inl h
    ·exact .inr (.inr h)
  ·exact xz
theorem QT{A:List Kt}{x z:Kt}:z∈Gg A x↔z=x\/z∈A:=by
 unfold Gg;rw[ABh,MP,ABh]
theorem Nu{x:Kt}:∀ {R Q:List Kt},(∀ y∈R,Gp x y<0)->IK x (R++Q)=R++IK x Q
 |[],Q,_=>rfl
 |y::R,Q,h=>by
  rw[zb,KP,if_pos (h y xa),Nu fun z hz=>h z (xZ _ hz)];rfl
theorem Uw{x:Kt}{P Q:List Kt}(hQ:∀ y∈Q,Gp x y<0)(hP:P=[]\/∃ P' y,P=P'++[y]/\¬ Gp x y<0):Gg (P++Q) x=P++x::Q:=by
 unfold Gg;rw[AAE,Nu fun y hy=>hQ y (ABh.1 hy)];have e:IK x P.reverse=x::P.reverse:=by
  rcases hP with rfl|⟨P',y,rfl,hy⟩
  ·rfl
  ·rw[AAE]
   show IK x (y::P'.reverse)=_;unfold IK;rw[if_neg hy];rfl
 rw[e,AAE,ACu,AAa,AAa,yF];rfl
theorem Jn{α:Type}{x y:α}:∀ {P R:List α},(P++x::R).set P.length y=P++y::R
 |[],R=>rfl
 |z::P,R=>by
  show z::(P++x::R).set P.length y=_;rw[Jn];rfl
theorem N9{l Z vs:List IN}{o:Nat}(h:o+vs.length<=l.length):over (l++Z) o vs=over l o vs++Z:=by
 unfold over;rw[ABe (by omega),List.drop_append_of_le_length h,yF,yF,yF]
theorem F0{α:Type}{x:α}{P R:List α}:(P++x::R)[P.length]? =some x:=by
 rw[yJ (IT _),Nat.sub_self];rfl
theorem JZ{α:Type}{x y:α}{P R:List α}:(P++y::x::R)[P.length+1]? =some x:=by
 rw[yJ (by omega),show P.length+1 - P.length=1 by omega];rfl
section
variable {F:AEA}{e:Env}{h h':Hp}{S:Nat->Prop}{bl n c:Nat}{ks:List Kt}{Z:List IN}
theorem PM(R:h.Row bl 124 (flK ks++Z))(hn:n=ks.length)(hc:ks.length<=c):h.KS (fun b=>b=bl) (.slice (some ⟨bl,0,none⟩) n c) ks:=by
 subst hn;exact .inr ⟨bl,c,_,_,rfl,hc,R,by rw[No,CX];omega,by rw[ABe (by rw[CX];omega),<- CX,zK],.inl rfl,rfl⟩
theorem Zz(W:h.Wf)(R:h.Row bl 124 (flK ks++Z))(AEK:256<=bl){j:Nat}(hj:j<ks.length){x:Kt}(hu:oneCell x.u=true):
  ∃ h',(∀ (F:AEA) (e:Env) (g g':O),g e=.pointer (some ⟨bl,6*j,none⟩)->g' e=ktV x->Ae .free (Ah 6 g g') F e h=.ok AED h')/\Fx (fun b=>b=bl) h h'/\h'.Row bl 124 (flK (ks.set j x)++Z)/\h'.next=h.next/\h'.mark=h.mark:=by
 have Rq:h.quiet.Row bl 124 (flK ks++Z):=R.same rfl;have AIF:6*j+(AY x).length<=(flK ks).length:=by rw[CX];show 6*j+6<=_;omega
 have hoo:6*j+(AY x).length<=(flK ks++Z).length:=by rw[No];omega
 have st:=Rq.AEH (n:=6) (off:=6 * j) (v:=ktV x) W.quiet AEK rfl hoo (Ge hu);have wr:=Rq.AEM W.quiet hoo;rw[N9 AIF,Oh ks j x hj]at wr;have fx:=Fx.wr (S:=fun b=>b=bl) W.quiet Rq hoo rfl;have wn:=Rq.AEo hoo;have st:AEH 6 (.pointer (some ⟨bl,6 * j,none⟩)) (ktV x) h.quiet=.ok AED (h.quiet.wr bl (6 * j) (AY x)):=st;generalize h.quiet.wr bl (6 * j) (AY x)=q at st wr fx wn;exact⟨h.back q,fun F e g g' e1 e2=>BL (by rw[AX,e1,e2];exact st),(fx.from (h:=h) rfl rfl).same rfl rfl,wr.same rfl,wn,rfl⟩
theorem So:jnB=XW:=rfl
theorem jt(W:h.Wf){P R:List Kt}{x y:Kt}(hks:ks=P++y::x::R)(Rw:h.Row bl 124 (flK ks++Z))(AEK:256<=bl)(hn:n=ks.length)(hc:ks.length<=c)(hl:ks.length<=100000)(ux:oneCell x.u=true)(uy:oneCell y.u=true)
  (s0:J 0 e=.slice (some ⟨bl,0,none⟩) n c)(s9:J 9 e=AI AT ((P.length+1:Nat):Int)):
  ∃ e' h',swB F e h=.norm e' h'/\Fx (fun b=>b=bl) h h'/\h'.Row bl 124 (flK (P++x::y::R)++Z)/\∀ j,j=0\/j=1\/j=2\/j=3\/j=8\/j=9->J j e'=J j e:=by
 have lk:ks.length=P.length+1+1+R.length:=by rw[hks,No,xY,xY];omega
 have K:=PM (Rw.same (h':=h.marked) rfl) hn hc;obtain⟨b,rfl,ix,ld,_⟩:=K.at (i:=P.length+1) (k:=x) (by rw[hks];exact JZ);obtain⟨b',hb',iy,ldy,_⟩:=K.at (i:=P.length) (k:=y) (by rw[hks];exact F0);have hb':b'=b:=hb';subst hb';have a1:GA yZ .i64 (AI AT ((P.length+1:Nat):Int)) (AI AT 1) h.marked=.ok (AI AT (P.length:Int)) h.marked:=by
  have:yZ ((P.length+1:Nat):Int) 1=(P.length:Int):=by
   show((P.length+1:Nat):Int) - 1=_;omega
  rw[Cm,this,Bn (by omega)]
 obtain⟨h1,q1,f1,R1,n1,mk1⟩:=Zz (j:=P.length+1) W.marked (Rw.same (h':=h.marked) rfl) AEK (by omega) uy;have e1:ks.set (P.length+1) y=P++y::y::R:=by
  rw[hks,show P++y::x::R=(P++[y])++x::R by simp,show P.length+1=(P++[y]).length by simp,Jn];simp
 rw[e1]at R1;have ix1:AE2 6 (.slice (some ⟨b',0,none⟩) n c) (AI AT (P.length:Int)) h1=.ok (.pointer (some ⟨b',6*P.length,none⟩)) h1:=by
  have:=C6 (h:=h1) (n:=n) (c:=c) (es:=6) (b:=b') (off:=0) (i:=P.length) (k:=.i64) (by omega)
  rwa [If,zT]at this
 obtain⟨h2,q2,f2,R2,n2,mk2⟩:=Zz (j:=P.length) f1.wf R1 AEK (by rw[No];simp) ux;rw[Jn]at R2;have fm:Fx (fun b=>b=b') h h1:=f1.from (h:=h) rfl rfl;have hrun:∃ e',swB F e h=.norm e' h2/\∀ j,j=0\/j=1\/j=2\/j=3\/j=8\/j=9->J j e'=J j e:=by
  have q1':∀ (F:AEA) (e:Env),J 51 e=.pointer (some ⟨b',6*(P.length+1),none⟩)->J 46 e=ktV y->Ae .free (Ah 6 (J 51) (J 46)) F e h.marked=.ok AED h1:=fun F e a b=>q1 F e _ _ a b
  have q2':∀ (F:AEA) (e:Env),J 52 e=.pointer (some ⟨b',6*P.length,none⟩)->J 50 e=ktV x->Ae .free (Ah 6 (J 52) (J 50)) F e h1=.ok AED h2:=fun F e a b=>q2 F e _ _ a b
  unfold swB;simp only[sT,By,BY,reduceIte,A0,B4,s9,a1,A9,s0,iy,Av,Am,ldy,ix,ld,q1',ix1,q2'];refine⟨_,rfl,fun j hj=>?_⟩;rcases hj with rfl|rfl|rfl|rfl|rfl|rfl<;>simp only[AG,By,BY,reduceIte]
 obtain⟨e',r1,r2⟩:=hrun;exact⟨e',h2,r1,fm.trans f2,R2,r2⟩
end
end
noncomputable section
open Go
set_option maxRecDepth 100000
theorem Vq{α:Type}(P:List α):P=[]\/∃ P' y,P=P'++[y]:=by
 rcases h:P.reverse with _|⟨y,r⟩
 ·exact .inl (List.reverse_eq_nil_iff.1 h)
 ·refine .inr ⟨r.reverse,y,?_⟩
  rw[<- AAa P,h,ACu]
section
variable {e:Env}{h h':Hp}{bl n c m:Nat}{ks:List Kt}{Z:List IN}
theorem Zq(W:h.Wf){A B:List Kt}{x:Kt}(Rw:h.Row bl 124 (flK (A++x::B)++Z))(AEK:256<=bl)(hn:n=(A++x::B).length)(hc:n<=c)(hl:n<=1000)(hu:∀ k∈A++x::B,oneCell k.u=true)
  (s0:J 0 e=.slice (some ⟨bl,0,none⟩) n c)(s1:J 1 e=AI AT 0)(s3:J 3 e=.func (.func 75) ⟨[]⟩ ⟨[]⟩)(s9:J 9 e=AI AT (A.length:Int)):
  ∃ e' h',A3 jnB (call AC (m+3)) e h=.exit 2 e' h'/\Fx (fun b=>b=bl) h h'/\h'.Row bl 124 (flK (Gg A x++B)++Z)/\∀ j,j=0\/j=1\/j=2\/j=3\/j=8->J j e'=J j e:=by
 have hln:(A++x::B).length=A.length+1+B.length:=by rw[No,xY];omega
 refine Bd (I:=fun i e' g=>∃ P Q,A=P++Q/\P.length+i=A.length/\Fx (fun b=>b=bl) h g/\g.Row bl 124 (flK (P++x::(Q++B))++Z)/\(∀ y∈Q,Gp x y<0)/\J 9 e'=AI AT (P.length:Int)/\∀ j,j=0\/j=1\/j=2\/j=3\/j=8->J j e'=J j e)
  (Q:=fun r=>∃ e' h',r=.exit 2 e' h'/\Fx (fun b=>b=bl) h h'/\h'.Row bl 124 (flK (Gg A x++B)++Z)/\∀ j,j=0\/j=1\/j=2\/j=3\/j=8->J j e'=J j e) (A.length+1) (by omega) (fun i e' g ⟨P,Q,hA,hP,fx,R,hQ,t9,ts⟩=>?_) ⟨A,[],by rw[xx],rfl,.refl W,Rw,fun y hy=>(by cases hy),s9,fun _ _=>rfl⟩
 have W':=fx.wf;have t0:=(ts 0 (by omega)).trans s0;have t1:=(ts 1 (by omega)).trans s1;have t3:=(ts 3 (by omega)).trans s3;rcases Vq P with rfl|⟨P',y,rfl⟩
 ·right
  have c1:iGt ((([]:List Kt).length:Nat):Int) 0=false:=Ft (by decide);have hrun:∃ e2,jnB (call AC (m+3)) e' g=.exit 2 e2 g.marked/\∀ j,j=0\/j=1\/j=2\/j=3\/j=8->J j e2=J j e':=by
   rw[So];unfold XW;simp only[sT,By,BY,reduceIte,gD,A0,AK,AJ,t9,t1,c1];refine⟨_,rfl,fun j hj=>?_⟩;rcases hj with rfl|rfl|rfl|rfl|rfl<;>simp only[AG,By,BY,reduceIte]
  obtain⟨e2,r1,r2⟩:=hrun;rw[r1];refine⟨rfl,e2,_,rfl,fx.same rfl rfl,?_,fun j hj=>(r2 j hj).trans (ts j hj)⟩;have:=Uw (x:=x) (P:=[]) (Q:=Q) hQ (.inl rfl);rw[hA,this];have e5:([]++x::Q)++B=[]++x::(Q++B):=rfl;rw[e5];exact R.same rfl
 ·have lP:(P'++[y]).length=P'.length+1:=by simp
  rw[lP]at hP t9;have lA:A.length=P'.length+1+Q.length:=by rw[hA,No,lP]
  have eR:(P'++[y])++x::(Q++B)=P'++y::x::(Q++B):=by simp
  rw[eR]at R;have lL:(P'++y::x::(Q++B)).length=n:=by
   rw[hn,hln,lA];simp only[No,xY];omega
  have ux:oneCell x.u=true:=hu x (yR _ xa);have uy:oneCell y.u=true:=hu y (yX _ (by rw[hA];exact yX _ (yR _ xa)));have K:=PM (n:=n) (c:=c) (R.same (h':=g.marked) rfl) lL.symm (by omega);obtain⟨b,hb,ix,ld,_⟩:=K.at (i:=P'.length+1) (k:=x) JZ;obtain⟨b',hb',iy,ldy,_⟩:=K.at (i:=P'.length) (k:=y) F0;have c1:iGt ((P'.length+1:Nat):Int) 0=true:=HB (by omega);have a1:∀ g:Hp,GA yZ .i64 (AI AT ((P'.length+1:Nat):Int)) (AI AT 1) g=.ok (AI AT (P'.length:Int)) g:=fun g=>by
   have:yZ ((P'.length+1:Nat):Int) 1=(P'.length:Int):=by
    show((P'.length+1:Nat):Int) - 1=_;omega
   rw[Cm,this,Bn (by omega)]
  obtain⟨h2,k2,x2⟩:=ag (m:=m) W'.marked.quiet x y;have q2:∀ e:Env,J 22 e=.func (.func 75) ⟨[]⟩ ⟨[]⟩->J 26 e=ktV x->J 31 e=ktV y->Ae .free (EA (J 22) [J 26,J 31]) (call AC (m+3)) e g.marked=.ok (AI AT (Gp x y)) (g.marked.back h2):=fun e e1 e2 e3=>by
   refine BL ?_;rw[CV,AV,AV,A2,e1,e2,e3];exact k2
  have y2:g.Ext (g.marked.back h2):=(Hp.Ext.refl W').marked.trans (.back x2);generalize g.marked.back h2=h3 at q2 y2;have R3:=R.ext W' y2;by_cases hc:Gp x y<0
  ·left
   have c2:iLt (Gp x y) 0=true:=HT hc;have sw:∀ e2:Env,J 0 e2=.slice (some ⟨bl,0,none⟩) n c->J 9 e2=AI AT ((P'.length+1:Nat):Int)->∃ e3 h4,swB (call AC (m+3)) e2 h3=.norm e3 h4/\Fx (fun b=>b=bl) h3 h4/\h4.Row bl 124 (flK (P'++x::y::(Q++B))++Z)/\∀ j,j=0\/j=1\/j=2\/j=3\/j=8\/j=9->J j e3=J j e2:=fun e2 a b=>jt y2.wf rfl R3 AEK lL.symm (by omega) (by omega) ux uy a b
   have hrun:∃ e3 h4,jnB (call AC (m+3)) e' g=.norm e3 h4/\Fx (fun b=>b=bl) h3 h4/\h4.Row bl 124 (flK (P'++x::y::(Q++B))++Z)/\J 9 e3=AI AT (P'.length:Int)/\∀ j,j=0\/j=1\/j=2\/j=3\/j=8->J j e3=J j e':=by
    rw[So];unfold XW;simp only[sT,By,BY,reduceIte,gD,A0,AK,AJ,t9,t1,c1,t3,t0,A9,ix,Av,Am,ld,B4,a1,iy,ldy,q2,c2,BJ,Ay];obtain⟨e3,h4,r1,f4,R4,r2⟩:=sw (Env.set 34 (.bool true) (Env.set 33 (.bool true) (Env.set 32 (AI AT (Gp x y)) (Env.set 31 (ktV y) (Env.set 30 (.pointer (some ⟨b',6*P'.length,none⟩)) (Env.set 29 (AI AT (P'.length:Int)) (Env.set 28 (AI AT ((P'.length+1:Nat):Int)) (Env.set 27 (.slice (some ⟨bl,0,none⟩) n c) (Env.set 26 (ktV x) (Env.set 25 (.pointer (some ⟨b,6*(P'.length+1),none⟩)) (Env.set 24 (AI AT ((P'.length+1:Nat):Int)) (Env.set 23 (.slice (some ⟨bl,0,none⟩) n c) (Env.set 22 (.func (.func 75) ⟨[]⟩ ⟨[]⟩) (Env.set 20 (.bool true) e')))))))))))))) (by simp[AG,t0]) (by simp[AG,t9]);have u9:J 9 e3=AI AT ((P'.length+1:Nat):Int):=(r2 9 (by omega)).trans (by simp[AG,t9]);rw[r1];simp only[Ca,BA,sT,By,BY,reduceIte,B4,u9,a1];refine⟨_,_,rfl,f4,R4,by simp[AG],fun j hj=>?_⟩;have:=r2 j (by omega);rcases hj with rfl|rfl|rfl|rfl|rfl<;>simp only[AG,By,BY,reduceIte]at this ⊢<;>exact this
   obtain⟨e3,h4,r1,f4,R4,r9,r2⟩:=hrun;refine⟨by omega,e3,h4,r1,P',y::Q,by rw[hA];simp,by omega,(fx.trans (.of y2)).trans f4,R4,fun z hz=>?_,r9,fun j hj=>(r2 j hj).trans (ts j hj)⟩;rcases xz.1 hz with rfl|hz
   ·exact hc
   ·exact hQ z hz
  ·right
   have c2:iLt (Gp x y) 0=false:=Fu (by omega);have hrun:∃ e3,jnB (call AC (m+3)) e' g=.exit 2 e3 h3/\∀ j,j=0\/j=1\/j=2\/j=3\/j=8->J j e3=J j e':=by
    rw[So];unfold XW;simp only[sT,By,BY,reduceIte,gD,A0,AK,AJ,t9,t1,c1,t3,t0,A9,ix,Av,Am,ld,B4,a1,iy,ldy,q2,c2];refine⟨_,rfl,fun j hj=>?_⟩;rcases hj with rfl|rfl|rfl|rfl|rfl<;>simp only[AG,By,BY,reduceIte]
   obtain⟨e3,r1,r2⟩:=hrun;rw[r1];refine⟨rfl,e3,h3,rfl,fx.trans (.of y2),?_,fun j hj=>(r2 j hj).trans (ts j hj)⟩;rw[hA,Uw hQ (.inr ⟨P',y,rfl,hc⟩),yF,yF];exact R3
theorem aj(W:h.Wf){ks:List Kt}(Rw:h.Row bl 124 (flK ks++Z))(AEK:256<=bl)(hn:n=ks.length)(hc:n<=c)(hl:n<=1000)(hu:∀ k∈ks,oneCell k.u=true):
  ∃ h',call AC (m+4) 136 [.slice (some ⟨bl,0,none⟩) n c,AI AT 0,AI AT (n:Int),.func (.func 75) ⟨[]⟩ ⟨[]⟩] h=.ok AED h'/\Fx (fun b=>b=bl) h h'/\h'.Row bl 124 (flK (srt (ks.take 1) (ks.drop 1))++Z):=by
 have run:∀ e1:Env,J 0 e1=.slice (some ⟨bl,0,none⟩) n c->J 1 e1=AI AT 0->J 2 e1=AI AT (n:Int)->J 3 e1=.func (.func 75) ⟨[]⟩ ⟨[]⟩->J 8 e1=AI AT ((1:Nat):Int)->∃ e' h',A3 jsB (call AC (m+3)) e1 h=.exit 0 e' h'/\Fx (fun b=>b=bl) h h'/\h'.Row bl 124 (flK (srt (ks.take 1) (ks.drop 1))++Z):=fun e1 s0 s1 s2 s3 s8=>by
  refine Bd (I:=fun i e' g=>∃ A B,A.length+B.length=ks.length/\(A.length=i+1\/(B=[]/\A.length<=i+1))/\srt A B=srt (ks.take 1) (ks.drop 1)/\(∀ k∈A++B,oneCell k.u=true)/\Fx (fun b=>b=bl) h g/\g.Row bl 124 (flK (A++B)++Z)/\J 0 e'=.slice (some ⟨bl,0,none⟩) n c/\J 1 e'=AI AT 0/\J 2 e'=AI AT (n:Int)/\J 3 e'=.func (.func 75) ⟨[]⟩ ⟨[]⟩/\J 8 e'=AI AT ((i+1:Nat):Int))
   (Q:=fun x=>∃ e' h',x=.exit 0 e' h'/\Fx (fun b=>b=bl) h h'/\h'.Row bl 124 (flK (srt (ks.take 1) (ks.drop 1))++Z)) n (by omega) (fun i e' g ⟨A,B,hAB,hAi,hsr,hu',fx,R,t0,t1,t2,t3,t8⟩=>?_) ⟨ks.take 1,ks.drop 1,by rw[yM,List.length_drop];omega,?_,rfl,by rw[zN];exact hu,.refl W,by rw[zN];exact Rw,s0,s1,s2,s3,s8⟩
  ·have W':=fx.wf
   cases B with
   |nil=>
    right;have hA:A.length=n:=by simp only[yS]at hAB;omega
    have c1:iLt ((i+1:Nat):Int) (n:Int)=false:=DD (by omega);have hrun:∃ e3,jsB (call AC (m+3)) e' g=.exit 0 e3 g:=by
     rw[Oz];unfold XX;simp only[sT,By,BY,reduceIte,AK,AJ,t8,t2,c1];exact⟨_,rfl⟩
    obtain⟨e3,r1⟩:=hrun;rw[r1];refine⟨rfl,e3,g,rfl,fx,?_⟩;rw[<- hsr];rw[xx]at R;exact R
   |cons x B=>
    left;rw[xY]at hAB;have hA:A.length=i+1:=by
     rcases hAi with h1|⟨h1,_⟩
     ·exact h1
     ·cases h1
    have c1:iLt ((i+1:Nat):Int) (n:Int)=true:=EW (by omega);obtain⟨e2,h2,i1,f2,R2,i2⟩:=Zq (m:=m) (e:=Env.set 9 (AI AT ((i+1:Nat):Int)) (Env.set 14 (.bool true) e')) W' R AEK (by rw[No,xY];omega) hc hl hu' (by simp[AG,t0]) (by simp[AG,t1]) (by simp[AG,t3]) (by simp only[AG,By,BY,reduceIte,hA]);have g0:=i2 0 (by omega);have g1:=i2 1 (by omega);have g2:=i2 2 (by omega);have g3:=i2 3 (by omega);have g8:=i2 8 (by omega);simp only[AG,By,BY,reduceIte,t0]at g0;simp only[AG,By,BY,reduceIte,t1]at g1;simp only[AG,By,BY,reduceIte,t2]at g2;simp only[AG,By,BY,reduceIte,t3]at g3;simp only[AG,By,BY,reduceIte,t8]at g8;have a3:Fg .i64 (AI AT ((i+1:Nat):Int)) (AI AT 1) h2=.ok (AI AT ((i+1+1:Nat):Int)) h2:=CI (by omega);have hrun:∃ e3,jsB (call AC (m+3)) e' g=.norm e3 h2/\J 0 e3=.slice (some ⟨bl,0,none⟩) n c/\J 1 e3=AI AT 0/\J 2 e3=AI AT (n:Int)/\J 3 e3=.func (.func 75) ⟨[]⟩ ⟨[]⟩/\J 8 e3=AI AT ((i+1+1:Nat):Int):=by
     rw[Oz];unfold XX;simp only[sT,By,BY,reduceIte,AK,AJ,t8,t2,c1,i1,g8,BM,a3];exact⟨_,rfl,by simp[AG,g0,g1,g2,g3]⟩
    obtain⟨e3,r1,r2,r3,r4,r5,r6⟩:=hrun;refine⟨by omega,e3,h2,r1,Gg A x,B,by rw[MQ];omega,.inl (by rw[MQ];omega),hsr,fun k hk=>?_,fx.trans f2,R2,r2,r3,r4,r5,r6⟩;rcases yL.1 hk with h1|h1
    ·rcases QT.1 h1 with rfl|h1
     ·exact hu' _ (yR _ xa)
     ·exact hu' k (yX _ h1)
    ·exact hu' k (yR _ (xZ _ h1))
  ·cases ks with
   |nil=>exact .inr ⟨rfl,yK _⟩
   |cons k ks=>exact .inl rfl
 have a1:Fg .i64 (AI AT 0) (AI AT 1) h=.ok (AI AT ((1:Nat):Int)) h:=CI (i:=0) (by omega);obtain⟨e2,h2,r1,x2⟩:=run (Env.set 8 (AI AT ((1:Nat):Int)) (Env.set 11 (AI AT ((1:Nat):Int)) (AS e0 0 [.slice (some ⟨bl,0,none⟩) n c,AI AT 0,AI AT (n:Int),.func (.func 75) ⟨[]⟩ ⟨[]⟩]))) (by simp only[iN,IS,AG,By,BY,reduceIte]) (by simp only[iN,IS,AG,By,BY,reduceIte]) (by simp only[iN,IS,AG,By,BY,reduceIte]) (by simp only[iN,IS,AG,By,BY,reduceIte]) (by simp[AG]);simp only[iN,IS]at r1;refine⟨h2,?_,x2⟩;rw[Ty rfl,UR];unfold US;simp only[iN,IS,sT,By,BY,reduceIte,BM,a1,r1,D9,Dx]
def Ds(ks:List Kt):List Kt:=srt (ks.take 1) (ks.drop 1)
theorem RW(W:h.Wf){ks:List Kt}(Rw:h.Row bl 124 (flK ks++Z))(AEK:256<=bl)(hn:n=ks.length)(hc:n<=c)(hl:n<=12)(hu:∀ k∈ks,oneCell k.u=true):
  ∃ h',call AC (m+6) 74 [.slice (some ⟨bl,0,none⟩) n c,.func (.func 75) ⟨[]⟩ ⟨[]⟩] h=.ok AED h'/\Fx (fun b=>b=bl) h h'/\h'.Row bl 124 (flK (Ds ks)++Z):=by
 obtain⟨h2,k2,x2,R2⟩:=aj (m:=m) W Rw AEK hn hc (by omega) hu;obtain⟨k,kb⟩:=OS (m:=m+3) (h:=h) (n:=n) (by omega);have cv:Dr .u64 (AI AT (n:Int)) h=.ok (.int .u64 (n:Int)) h:=by rw[C5,EV (by omega)]
 have a1:GA yZ .i64 (AI AT (n:Int)) (AI AT 0) h=.ok (AI AT (n:Int)) h:=by
  have:yZ (n:Int) 0=(n:Int):=Int.sub_zero _;rw[Cm,this,Bn (by omega)]
 have c1:iLe (n:Int) 12=true:=HS (by omega);have pd:call AC (m+5) 114 [.slice (some ⟨bl,0,none⟩) n c,AI AT 0,AI AT (n:Int),AI AT (k:Int),.func (.func 75) ⟨[]⟩ ⟨[]⟩] h=.ok AED h2:=by
  have hb:∃ e2,pdB (call AC (m+4)) (Env.set 11 (.bool true) (Env.set 10 (.bool true) (AS e0 0 [.slice (some ⟨bl,0,none⟩) n c,AI AT 0,AI AT (n:Int),AI AT (k:Int),.func (.func 75) ⟨[]⟩ ⟨[]⟩]))) h=.ret e2 h2:=by
   rw[av];unfold jM;simp only[iN,IS,sT,By,BY,reduceIte,B4,a1,AK,AJ,c1,cA0,k2];exact⟨_,rfl⟩
  obtain⟨e2,r1⟩:=hb;have r1:=MX r1;simp only[iN,IS]at r1;rw[Tv rfl,UI];unfold UJ;simp only[iN,IS,sT,By,BY,reduceIte,r1,BG,Dx]
 refine⟨h2,?_,x2,R2⟩;rw[Yt rfl];unfold d74;simp only[iN,IS,sT,By,BY,reduceIte,Af,Dy,Cd,cv,cA0,kb,pd,D9,Dx]
end
end
end Go.Proofs.YtbjadbhkogcfeaaGreat
