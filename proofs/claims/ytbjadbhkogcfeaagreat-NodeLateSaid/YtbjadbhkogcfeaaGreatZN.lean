/-
  Part ZN of what Lawlt stands on: printed by program, names and spaces cut.
-/
import Derived.Test.YtbjadbhkogcfeaaGreatZM
open Go.Value renaming int→AI
open Go.IntKind renaming i64→AT
open Nat renaming reduceEqDiff→BY,reduceLT→By,reduceAdd→IS,le_refl→IT,zero_add→If,zero_le→zL,le_trans→zO,eq_zero_or_pos→za,mul_comm→AAP,reduceLeDiff→AA5
open Go renaming Value→IN,IntKind→yy
open List renaming length_append→No,length_map→OF,getElem?_eq_getElem→sh,getD_eq_getElem?_getD→yf,length_cons→yh,mem_cons_of_mem→yj,mem_cons_self→yk,mem_cons→yv,append_nil→yw,mem_singleton→zB,append_assoc→zC,mem_append_right→zE,getElem?_append_right→zI,length_take→zJ,mem_append→zK,mem_append_left→zR,length_nil→zS,nil_append→zU,map_append→zb,eq_nil_of_length_eq_zero→zc,length_singleton→zh,drop_zero→zr,range→zu,take_length→AAF,take_append_drop→AAY,range_succ→AAf,cons_append→AAl,take_of_length_le→AAo,reverse_append→AAx,filter_append→AA3,singleton_append→ABE,reverse_reverse→ABM,append_eq→ABN,length_reverse→ABW,take_append_of_le_length→ACY,mem_reverse→ACa,length_range→ACm,drop→ACo,take→ACw,reverse_cons→ADz
open Int renaming sub→zX,ofNat→zY
open Go.Value renaming int→zd
open Bool renaming not_false→zg
open Classical renaming propDecidable→ABR,choose→AFE,choose_spec→AFQ
set_option linter.unusedVariables false
set_option linter.unusedSimpArgs false
namespace Go.Proofs.YtbjadbhkogcfeaaGreat
noncomputable section
open Go
set_option maxRecDepth 100000
theorem Qk{k:yy}{Z:List Int}:(ints k Z).length=Z.length:=OF ..
theorem ie{k:yy}{Z:List Int}{i:Nat}(hi:i<Z.length):(ints k Z).getD i AFl=.int k (Z.getD i 0):=by
 unfold ints;rw[yf,List.getElem?_map,yf,sh hi];rfl
theorem Hp.AF5.int{h:Hp}{k:yy}{u:IN}{Z:List Int}(V:h.AF5 u (ints k Z)){i:Nat}(hi:i<Z.length):∃ a,AGa 1 u (AI AT (i:Int)) h=.ok (.pointer (some a)) h/\Hn (.pointer (some a)) h=.ok (.int k (Z.getD i 0)) h:=by
 obtain⟨a,g1,g2⟩:=V.at (i:=i) (by rw[Qk];exact hi);rw[ie hi]at g2;exact⟨a,g1,g2⟩
theorem Hp.AF5.ALN{h:Hp}{k:yy}{u:IN}{Z:List Int}(V:h.AF5 u (ints k Z)):AGQ u h=.ok (AI AT (Z.length:Int)) h:=by
 have:=V.len;rwa [Qk]at this
def Iz(x:Int):Nat->List Int->Int
 |_,[]=> -1
 |i,z::l=>if x=z then(i:Int)else Iz x (i+1) l
theorem VR(x:Int):∀ (zs:List Int) (i:Nat),(x∉zs/\Iz x i zs= -1)\/(x∈zs/\∃ k,k<zs.length/\Iz x i zs=((i+k:Nat):Int)/\zs.getD k 0=x)
 |[],i=>.inl ⟨fun h=>(by cases h),rfl⟩
 |z::l,i=>by
  unfold Iz;by_cases h:x=z
  ·rw[if_pos h]
   exact .inr ⟨by rw[h];exact yk,0,Nat.succ_pos _,rfl,h.symm⟩
  ·rw[if_neg h]
   rcases VR x l (i+1)with ⟨h1,h2⟩|⟨h1,k,h2,h3,h4⟩
   ·refine .inl ⟨fun hx=>?_,h2⟩
    rcases yv.1 hx with hx|hx
    ·exact h hx
    ·exact h1 hx
   ·exact .inr ⟨yj _ h1,k+1,Nat.succ_lt_succ h2,by rw[h3];congr 1;omega,h4⟩
theorem ia(x:Int)(zs:List Int):(0<=Iz x 0 zs)↔x∈zs:=by
 rcases VR x zs 0 with ⟨h1,h2⟩|⟨h1,k,_,h3,_⟩
 ·rw[h2];exact⟨fun h=>by omega,fun h=>absurd h h1⟩
 ·rw[h3];exact⟨fun _=>h1,fun _=>by omega⟩
theorem iZ(x:Int)(zs:List Int):iGe (Iz x 0 zs) 0=decide (x∈zs):=by
 rw[O4,decide_eq_decide];exact ia x zs
theorem rk:ixS=BL (Ae 0 (A9 ixB)) ixE:=rfl
theorem gU:gT=Uo:=rfl
theorem ii{F:AFi}{h:Hp}{u:IN}{zs:List Int}{x:Int}(V:h.AF5 u (ints .i64 zs))(hl:zs.length<900000){e:Env}(s0:J 0 e=u)(s1:J 1 e=AI AT x)(s7:J 7 e=AI AT (zs.length:Int))(s8:J 8 e=AI AT 0):
  (∃ e',A9 ixB F e h=.exit 0 e' h/\Iz x 0 zs= -1)\/(∃ e',A9 ixB F e h=.ret e' h/\J 4 e'=AI AT (Iz x 0 zs)):=by
 refine Bh (I:=fun i e' h'=>h'=h/\J 0 e'=u/\J 1 e'=AI AT x/\J 7 e'=AI AT (zs.length:Int)/\J 8 e'=AI AT (i:Int)/\i<=zs.length/\Iz x 0 zs=Iz x i (zs.drop i))
  (Q:=fun y=>(∃ e',y=.exit 0 e' h/\Iz x 0 zs= -1)\/(∃ e',y=.ret e' h/\J 4 e'=AI AT (Iz x 0 zs))) zs.length (by omega) (fun i e' h' ⟨hh,t0,t1,t7,t8,hi,hr⟩=>?_)
  ⟨rfl,s0,s1,s7,s8,zL _,rfl⟩
 subst hh;by_cases hlt:i<zs.length
 ·obtain⟨a,g1,g2⟩:=V.int hlt
  have hd:zs.drop i=zs.getD i 0::zs.drop (i+1):=by
   rw[List.drop_eq_getElem_cons hlt,yf,sh hlt];rfl
  rw[hd]at hr;generalize zs.getD i 0=z at g2 hr;have hr:Iz x 0 zs=if x=z then(i:Int)else Iz x (i+1) (zs.drop (i+1)):=hr
  have c1:iLt (i:Int) (zs.length:Int)=true:=by rw[DF];simp;omega
  by_cases hx:x=z
  ·right
   have c2:iEq x z=true:=by rw[Dc];simpa using hx
   have hrun:∃ e2,ixB F e' h'=.ret e2 h'/\J 4 e2=AI AT (i:Int):=by
    unfold ixB;simp only[sT,By,BY,reduceIte,AK,AJ,t8,t7,c1,BB,t0,g1,AM,g2,t1,c2];exact⟨_,rfl,by simp[AG]⟩
   obtain⟨e2,r1,r2⟩:=hrun;rw[r1];refine⟨rfl,.inr ⟨e2,rfl,?_⟩⟩;rw[r2,hr,if_pos hx]
  ·left
   have c2:iEq x z=false:=by rw[Dc];simpa using hx
   have a3:Ez .i64 (AI AT (i:Int)) (AI AT 1) h'=.ok (AI AT ((i+1:Nat):Int)) h':=by
    have:(i:Int)+1=((i+1:Nat):Int):=by omega
    rw[Dq,this,Bf (by omega)]
   have hrun:∃ e2,ixB F e' h'=.norm e2 h'/\J 0 e2=u/\J 1 e2=AI AT x/\J 7 e2=AI AT (zs.length:Int)/\J 8 e2=AI AT ((i+1:Nat):Int):=by
    unfold ixB;simp only[sT,By,BY,reduceIte,AK,AJ,t8,t7,c1,BB,t0,g1,AM,g2,t1,c2,BM,a3];exact⟨_,rfl,by simp[AG,t0,t1,t7]⟩
   obtain⟨e2,r1,r2,r3,r4,r5⟩:=hrun;rw[if_neg hx]at hr;exact⟨hlt,e2,h',r1,rfl,r2,r3,r4,r5,hlt,hr⟩
 ·right
  have c1:iLt (i:Int) (zs.length:Int)=false:=by rw[DF];simp;omega
  have hrun:∃ e2,ixB F e' h'=.exit 0 e2 h':=by
   unfold ixB;simp only[sT,By,BY,reduceIte,AK,AJ,t8,t7,c1];exact⟨_,rfl⟩
  obtain⟨e2,r1⟩:=hrun;rw[r1];refine⟨rfl,.inl ⟨e2,rfl,?_⟩⟩;rw[hr,List.drop_of_length_le (by omega)];rfl
theorem aP{n:Nat}{h:Hp}{u:IN}{zs:List Int}{x:Int}(V:h.AF5 u (ints .i64 zs))(hl:zs.length<900000):call AC (n+1) 121 [u,AI AT x] h=.ok (AI AT (Iz x 0 zs)) h:=by
 have pre:∃ e1,Uo (call AC n) (AS e0 0 [u,AI AT x]) h=ixS (call AC n) e1 h/\J 0 e1=u/\J 1 e1=AI AT x/\J 7 e1=AI AT (zs.length:Int)/\J 8 e1=AI AT 0:=by
  unfold Uo;simp only[iN,IS,Gn,Gw,D9,Gv,Fd,AG,By,BY,reduceIte,Ah,V.ALN];exact⟨_,rfl,by simp[AG]⟩
 obtain⟨e1,p1,p0,pp1,p7,p8⟩:=pre;rw[fJ rfl,gU,p1,rk];rcases ii (F:=call AC n) V hl p0 pp1 p7 p8 with ⟨e2,q1,q2⟩|⟨e2,q1,q2⟩
 ·simp only[BJ,Az,q1,BD,BA]
  unfold ixE;simp only[sT,By,BY,reduceIte,lV0,q2]
 ·simp only[BJ,Az,q1,CQ,DC,lV0,q2]
theorem QC{n:Nat}{h:Hp}{u:IN}{zs:List Int}{x:Int}(V:h.AF5 u (ints .i64 zs))(hl:zs.length<900000):call AC (n+2) 80 [u,AI AT x] h=.ok (.bool (decide (x∈zs))) h:=by
 have k1:=aP (n:=n) (x:=x) V hl;rw[qB rfl];unfold d80;simp only[iN,IS,sT,By,BY,reduceIte,cA0,k1,AK,AJ,iZ,lV0]
section
variable {F:AFi}{e:Env}{h h' h0:Hp}{S:Nat->Prop}{m k:Nat}{ks:List Kt}{v:IN}
def Hp.KO(h:Hp)(k:Nat)(v:IN)(ks:List Kt):Prop:=(v=.slice none 0 0/\ks=[])\/∃ b,v=.slice (some ⟨b,0,none⟩) ks.length ks.length/\h.Row b 124 (flK ks)/\k<=b/\256<=b
theorem Hp.KO.lst(o:h.KO k v ks):h.KS (fun b=>k<=b) v ks:=by
 rcases o with h1|⟨b,h1,h2,h3,h4⟩
 ·exact .inl h1
 ·exact .inr ⟨b,_,_,_,h1,IT _,h2,by rw[Cd];omega,by rw[<- Cd,AAF],.inl rfl,h3⟩
theorem Hp.KO.keep(o:h.KO k v ks)(hk:∀ b el L,AGA v b->h.Row b el L->h'.Row b el L):h'.KO k v ks:=by
 rcases o with h1|⟨b,h1,h2,h3,h4⟩
 ·exact .inl h1
 ·exact .inr ⟨b,h1,hk b _ _ ⟨0,_,_,h1⟩ h2,h3,h4⟩
theorem Hp.KO.ext(o:h.KO k v ks)(W:h.Wf)(x:h.Ext h'):h'.KO k v ks:=o.keep fun _ _ _ _ r=>r.ext W x
theorem Hp.KO.same(o:h.KO k v ks)(hb:h'.bl=h.bl):h'.KO k v ks:=o.keep fun _ _ _ _ r=>r.same hb
theorem Hp.KO.blk(o:h.KO k v ks)(W:h.Wf){b:Nat}(hb:AGA v b):k<=b/\b<h.next:=by
 obtain⟨off,n,c,e1⟩:=hb;rcases o with ⟨h1,h2⟩|⟨b',h1,h2,h3,h4⟩
 ·rw[h1]at e1;cases e1
 ·have:=h2.lt W
  rw[h1]at e1;injection e1 with e1 _ _
  injection e1 with e1
  injection e1 with e1 _ _
  omega
theorem WY:Bb Dn.zero 1=AZ K0:=by kernel_rfl
theorem Mp(W:h.Wf){g:O}{x:Kt}(hg:g e=ktV x):As 1 (Bb Dn.zero 1) [(0,6,g)] F e h=.ok (.slice (some ⟨h.next,0,none⟩) 1 1) (h.AFh 0 (AZ x)):=by
 rw[WY,CR,Af (hk:=by rw[hg];rfl),hg,show cellsOf (ktV x)=AZ x from rfl,if_pos (show(AZ x).length=6 from rfl),if_pos (show 0+6<=(AZ K0).length from IT _),Bs,C9 W];rfl
theorem Gq{x:Kt}(hu:oneCell x.u=true):Bc (AZ x)=true:=by
 show(bif oneCell x.u then true else false)=true;rw[hu];rfl
theorem TJ(x0:h0.Ext h)(hk:h0.next<=k)(hk2:k<=h.next)(o:h.KO k v ks){x:Kt}(hu:oneCell x.u=true)(hl:ks.length<=100000):
  ∃ h' v',DU 6 64 123 v (.slice (some ⟨h.next,0,none⟩) 1 1) (h.AFh 0 (AZ x))=.ok v' h'/\h0.Ext h'/\h'.KO k v' (ks++[x])/\h.next<=h'.next/\∀ b el L,¬ AGA v b->h.Row b el L->h'.Row b el L:=by
 have W:=x0.wf;have x1:=x0.AFh 0 (AZ x);have y1:=(Hp.Ext.refl W).AFh 0 (AZ x);have Rw:=Hp.Row.new W 0 (AZ x);have n1:(h.AFh 0 (AZ x)).next=h.next+1:=rfl;have o1:=o.ext W y1;generalize h.AFh 0 (AZ x)=h1 at x1 y1 Rw n1 o1;have hs:∀ K:List IN->R,BP h1 6 (.slice (some ⟨h.next,0,none⟩) 1 1) 1 K=K (AZ x):=fun K=>Rw.AHh (es:=6) (off:=0) (n:=1) (by show 0+1 * 6<=6;omega)
 have ha:=Gq hu;rcases o1 with ⟨rfl,rfl⟩|⟨b,rfl,r,hb,AFs⟩
 ·obtain⟨h5,a1,a2,a3,a4,_,a6⟩:=Jm (eb:=64) (en:=123) x1 hs rfl rfl ha (by omega)
  refine⟨h5,_,a1,a2,.inr ⟨h1.next,rfl,?_,by omega,by have:=W.big;omega⟩,by omega,fun b el L _ r=>(r.ext W y1).ext x1.wf a6⟩;show h5.Row h1.next 124 (AZ x++[]);rw[yw];exact a3
 ·obtain⟨h5,a1,a2,a3,a4,_,a6⟩:=Je (eb:=64) (en:=123) (n:=ks.length) x1 hs rfl rfl (by omega) ha r (by rw[Cd];omega) (by omega) AFs (by omega)
  refine⟨h5,_,a1,a2,.inr ⟨h1.next,by rw[No];rfl,?_,by omega,by have:=W.big;omega⟩,by omega,fun b' el L hne r'=>a6 b' el L (fun e=>hne ⟨0,ks.length,ks.length,by rw[e]⟩) (r'.ext W y1)⟩;rw[Ja,show flK [x]=AZ x from yw _];exact a3
def rT(x y:Kt):Prop:=y.a=x.a/\y.b=x.b/\y.p≠x.p/\y.s=2/\(x.c<y.c\/y.c=x.c/\x.s=1)
def xe(x y:Kt):Prop:=y.a=x.a/\y.b=x.b/\y.c=x.c/\y.s=x.s
theorem Ih(a b:Int):(iEq a b=true/\a=b)\/(iEq a b=false/\a≠b):=by
 by_cases h:a=b
 ·exact .inl ⟨Cb h,h⟩
 ·exact .inr ⟨B6 h,h⟩
theorem rR:hiB=rS:=rfl
theorem gP:gO=Uk:=rfl
theorem rC(W:h.Wf){r5:Nat}{x y:Kt}(R5:h.Row r5 0 (AZ x))(hn:¬ rT x y):∃ h',call AC (m+1) 118 [ktV y,pt r5] h=.ok (.bool false) h'/\h.Ext h':=by
 have bx:=fun (F:AFi) (e:Env) (he:J 0 e=ktV y)=>Hl (F:=F) W he
 have x1:=(Hp.Ext.refl W).AFh 0 (AZ y);have R:=Hp.Row.new W 0 (AZ y);generalize h.AFh 0 (AZ y)=h1 at bx x1 R;obtain⟨l0,l1,l2,l3,_,l5,_⟩:=Bw R;obtain⟨k0,k1,k2,k3,_,k5,_⟩:=Bw (R5.ext W x1);have st1:∃ e1 B,Uk (call AC m) (AS e0 0 [ktV y,pt r5]) h=hiB (call AC m) e1 h1/\J 1 e1=pt r5/\J 2 e1=pt h.next/\J 4 e1=.bool B/\(B=true->y.a=x.a/\y.b=x.b):=by
  unfold Uk;rcases Ih y.a x.a with ⟨c1,e1⟩|⟨c1,e1⟩
  ·rcases Ih y.b x.b with ⟨c2,e2⟩|⟨c2,e2⟩
   ·simp only[iN,IS,sT,By,BY,reduceIte,gD,bx,AH,AN,If,AM,AP,l0,l1,l2,l3,l5,k0,k1,k2,k3,k5,AK,AJ,c1,c2]
    exact⟨_,true,rfl,by simp[AG],by simp[AG],by simp[AG],fun _=>⟨e1,e2⟩⟩
   ·simp only[iN,IS,sT,By,BY,reduceIte,gD,bx,AH,AN,If,AM,AP,l0,l1,l2,l3,l5,k0,k1,k2,k3,k5,AK,AJ,c1,c2]
    exact⟨_,false,rfl,by simp[AG],by simp[AG],by simp[AG],fun h=>by cases h⟩
  ·simp only[iN,IS,sT,By,BY,reduceIte,gD,bx,AH,AN,If,AM,AP,l0,l1,l2,l3,l5,k0,k1,k2,k3,k5,AK,AJ,c1]
   exact⟨_,false,rfl,by simp[AG],by simp[AG],by simp[AG],fun h=>by cases h⟩
 obtain⟨e1,B1,p1,t1,t2,t4,h1B⟩:=st1;have st2:∃ e2 B,hiB (call AC m) e1 h1=hiC (call AC m) e2 h1/\J 1 e2=pt r5/\J 2 e2=pt h.next/\J 4 e2=.bool B1/\J 5 e2=.bool B/\(B=true->x.c<y.c\/y.c=x.c/\x.s=1):=by
  rw[rR];unfold rS;by_cases g1:x.c<y.c
  ·have c1:iGt y.c x.c=true:=GZ g1
   simp only[sT,By,BY,reduceIte,gD,t1,t2,AH,AN,If,AM,AP,l0,l1,l2,l3,l5,k0,k1,k2,k3,k5,AK,AJ,c1];exact⟨_,true,rfl,by simp[AG,t1],by simp[AG,t2],by simp[AG,t4],by simp[AG],fun _=>.inl g1⟩
  ·have c1:iGt y.c x.c=false:=Fa g1
   rcases Ih y.c x.c with ⟨c2,e2⟩|⟨c2,e2⟩
   ·rcases Ih (x.s:Int) 1 with ⟨c3,e3⟩|⟨c3,e3⟩
    ·simp only[sT,By,BY,reduceIte,gD,t1,t2,AH,AN,If,AM,AP,l0,l1,l2,l3,l5,k0,k1,k2,k3,k5,AK,AJ,c1,c2,c3]
     exact⟨_,true,rfl,by simp[AG,t1],by simp[AG,t2],by simp[AG,t4],by simp[AG],fun _=>.inr ⟨e2,by omega⟩⟩
    ·simp only[sT,By,BY,reduceIte,gD,t1,t2,AH,AN,If,AM,AP,l0,l1,l2,l3,l5,k0,k1,k2,k3,k5,AK,AJ,c1,c2,c3]
     exact⟨_,false,rfl,by simp[AG,t1],by simp[AG,t2],by simp[AG,t4],by simp[AG],fun h=>by cases h⟩
   ·simp only[sT,By,BY,reduceIte,gD,t1,t2,AH,AN,If,AM,AP,l0,l1,l2,l3,l5,k0,k1,k2,k3,k5,AK,AJ,c1,c2]
    exact⟨_,false,rfl,by simp[AG,t1],by simp[AG,t2],by simp[AG,t4],by simp[AG],fun h=>by cases h⟩
 obtain⟨e2,B2,p2,u1,u2,u4,u5,h2B⟩:=st2;have st3:∃ e3,hiC (call AC m) e2 h1=.ret e3 h1/\J 3 e3=.bool false:=by
  unfold hiC;cases B1 with
  |false=>
   simp only[sT,By,BY,reduceIte,gD,u4];exact⟨_,rfl,by simp[AG]⟩
  |true=>
   by_cases e3:y.p=x.p
   ·have c3:iNe (y.p:Int) (x.p:Int)=false:=CH (by rw[e3])
    simp only[sT,By,BY,reduceIte,gD,u4,u1,u2,AH,AN,If,AM,AP,l0,l1,l2,l3,l5,k0,k1,k2,k3,k5,AK,AJ,c3];exact⟨_,rfl,by simp[AG]⟩
   ·have c3:iNe (y.p:Int) (x.p:Int)=true:=F8 (by omega)
    rcases Ih (y.s:Int) 2 with ⟨c4,e4⟩|⟨c4,e4⟩
    ·cases B2 with
     |true=>exact absurd ⟨(h1B rfl).1,(h1B rfl).2,e3,by omega,h2B rfl⟩ hn
     |false=>
      simp only[sT,By,BY,reduceIte,gD,u4,u1,u2,u5,AH,AN,If,AM,AP,l0,l1,l2,l3,l5,k0,k1,k2,k3,k5,AK,AJ,c3,c4];exact⟨_,rfl,by simp[AG]⟩
    ·simp only[sT,By,BY,reduceIte,gD,u4,u1,u2,AH,AN,If,AM,AP,l0,l1,l2,l3,l5,k0,k1,k2,k3,k5,AK,AJ,c3,c4]
     exact⟨_,rfl,by simp[AG]⟩
 obtain⟨e3,p3,p4⟩:=st3;refine⟨h1,?_,x1⟩;rw[fH rfl,gP,p1,p2,p3];simp only[lV0,p4]
theorem rD(W:h.Wf){r5:Nat}{x y:Kt}(R5:h.Row r5 0 (AZ x))(hn:¬ xe x y):∃ h',call AC (m+1) 119 [ktV y,pt r5] h=.ok (.bool false) h'/\h.Ext h':=by
 have bx:=fun (F:AFi) (e:Env) (he:J 0 e=ktV y)=>Hl (F:=F) W he
 have x1:=(Hp.Ext.refl W).AFh 0 (AZ y);have R:=Hp.Row.new W 0 (AZ y);generalize h.AFh 0 (AZ y)=h1 at bx x1 R;obtain⟨l0,l1,l2,l3,_,l5,_⟩:=Bw R;obtain⟨k0,k1,k2,k3,_,k5,_⟩:=Bw (R5.ext W x1);refine⟨h1,?_,x1⟩;rw[fI rfl];unfold gQ;rcases Ih y.a x.a with ⟨c1,e1⟩|⟨c1,e1⟩
 ·rcases Ih y.b x.b with ⟨c2,e2⟩|⟨c2,e2⟩
  ·rcases Ih y.c x.c with ⟨c3,e3⟩|⟨c3,e3⟩
   ·rcases Ih (y.s:Int) (x.s:Int)with ⟨c4,e4⟩|⟨c4,e4⟩
    ·exact absurd ⟨e1,e2,e3,by omega⟩ hn
    ·simp only[iN,IS,sT,By,BY,reduceIte,gD,bx,AH,AN,If,AM,AP,l0,l1,l2,l3,l5,k0,k1,k2,k3,k5,AK,AJ,c1,c2,c3,c4,lV0]
   ·simp only[iN,IS,sT,By,BY,reduceIte,gD,bx,AH,AN,If,AM,AP,l0,l1,l2,l3,l5,k0,k1,k2,k3,k5,AK,AJ,c1,c2,c3,lV0]
  ·simp only[iN,IS,sT,By,BY,reduceIte,gD,bx,AH,AN,If,AM,AP,l0,l1,l2,l3,l5,k0,k1,k2,k3,k5,AK,AJ,c1,c2,lV0]
 ·simp only[iN,IS,sT,By,BY,reduceIte,gD,bx,AH,AN,If,AM,AP,l0,l1,l2,l3,l5,k0,k1,k2,k3,k5,AK,AJ,c1,lV0]
theorem Y3{P:Kt->Bool}(h:∀ k∈ks,P k=false):ks.any P=false:=by
 induction ks with
 |nil=>rfl
 |cons k l ih=>rw[List.any_cons,h k yk,ih fun x hx=>h x (yj _ hx)];rfl
theorem rl(K:h.KS S v ks){i:Nat}(hi:i<ks.length):∃ w,h.KS S w (ks.take i)/\∀ (F:AFi) (e:Env) (x y:O),x e=v->y e=AI AT (i:Int)->EJ 123 6 x none (some y) none F e h=.ok w h:=by
 rcases K with ⟨rfl,rfl⟩|⟨b,c,el,L,rfl,h2,h3,h4,h5,h6,h7⟩
 ·cases hi
 ·have ht:(ks.take i).length=i:=by rw[zJ];omega
  refine⟨.slice (some ⟨b,0,none⟩) i c,.inr ⟨b,c,el,L,by rw[ht],by rw[ht];omega,h3,by rw[ht];omega,?_,h6,h7⟩,fun F e x y hx hy=>?_⟩
  ·have e1:flK (ks.take i)=(flK ks).take (6*i):=by
    conv=>rhs;rw[<- AAY i ks,Ja]
    rw[List.take_left' (by rw[Cd,ht])]
   rw[ht,e1,<- h5,List.take_take,Nat.min_eq_left (by omega)]
  ·show(match x e with|.slice a n c=>Dh e n c none (some y) none (fun l hh m=>ET 123 6 a false l hh m h)|_=>.no)=_
   rw[hx];show(match De (y e)with|.ok n=>(bif Nat.ble n c then ET 123 6 (some ⟨b,0,none⟩) false 0 n c h else .no)|.no=>.no)=_;rw[hy,DI];simp only;rw[Av.2 (show i<=c by omega)];show Br (some ⟨b,0,none⟩) 6 0 i c h=_;unfold Br;simp only[Ao];cases c with
   |zero=>rfl
   |succ c=>rfl
theorem qT:coS=BL (Ae 0 (A9 coB)) coE:=rfl
theorem qn:d76=iB:=rfl
theorem QE(W:h.Wf)(K:h.KS S v ks)(hl:ks.length<=1000)(hu:∀ k∈ks,oneCell k.u=true)(hh:∀ x∈ks,∀ y∈ks,¬ rT x y)(ht:∀ (i j:Nat) (x y:Kt),ks[i]? =some x->ks[j]? =some y->j<i->¬ xe x y):
  ∃ h' w,call AC (m+4) 76 [v] h=.ok w h'/\h.Ext h'/\h'.KO h.next w ks/\(ks=[]->w=.slice none 0 0):=by
 have ln:=K.len h;have pre:∃ e1,iB (call AC (m+3)) (AS e0 0 [v]) h=coS (call AC (m+3)) e1 h/\J 0 e1=v/\J 3 e1=.slice none 0 0/\J 8 e1=v/\J 9 e1=AI AT (ks.length:Int)/\J 10 e1=AI AT ((0:Nat):Int):=by
  unfold iB;simp only[iN,IS,sT,By,BY,reduceIte,Ah,ln];exact⟨_,rfl,by simp[AG]⟩
 obtain⟨e1,p1,s0,s3,s8,s9,s10⟩:=pre;have run:∃ e' h' w,A9 coB (call AC (m+3)) e1 h=.exit 0 e' h'/\h.Ext h'/\h'.KO h.next w ks/\J 3 e'=w/\(ks=[]->w=.slice none 0 0):=by
  refine Bh (I:=fun i e' h'=>∃ w,h.Ext h'/\h'.KO h.next w (ks.take i)/\J 0 e'=v/\J 3 e'=w/\J 8 e'=v/\J 9 e'=AI AT (ks.length:Int)/\J 10 e'=AI AT (i:Int)/\i<=ks.length/\(i=0->w=.slice none 0 0))
   (Q:=fun x=>∃ e' h' w,x=.exit 0 e' h'/\h.Ext h'/\h'.KO h.next w ks/\J 3 e'=w/\(ks=[]->w=.slice none 0 0)) ks.length (by omega) (fun i e' h' ⟨w,x',o',t0,t3,t8,t9,t10,hi,hz⟩=>?_) ⟨_,.refl W,.inl ⟨rfl,rfl⟩,s0,s3,s8,s9,s10,zL _,fun _=>rfl⟩
  have W':=x'.wf;by_cases hlt:i<ks.length
  ·left
   have c1:=E9 hlt;obtain⟨x,hx⟩:∃ x,ks[i]? =some x:=⟨_,sh hlt⟩;have hxm:=List.mem_of_getElem? hx;obtain⟨b,_,ix,ld,_⟩:=(K.ext W x').at hx;have al:=fun (F:AFi) (e:Env)=>BW (F:=F) (e:=e) W' (n:=6) (t:=CU)
   have Ra:=Hp.Row.alloc W' FF (show(AZ K0).length=6 from rfl);have y1:h'.Ext (h'.push (.cells CU 6 0)):=(Hp.Ext.refl W').push _;have n1:(h'.push (.cells CU 6 0)).next=h'.next+1:=rfl;generalize h'.push (.cells CU 6 0)=h1 at al Ra y1 n1;obtain⟨st,_,y2,R5,n2⟩:=K7 W' y1 (IT _) Ra rfl (k:=x) (hu x hxm);generalize h1.wr h'.next 0 (AZ x)=h2 at st y2 R5 n2;have x2:=x'.trans y2;obtain⟨h3,k3,x3⟩:=PG (m:=m+1) (g:=118) (caps:=[pt h'.next]) (P:=fun _=>false) x2.wf (K.ext W x2) (by omega) fun g xg y hy=>by
    exact rC (m:=m) xg.wf (R5.ext x2.wf xg) (hh x hxm y hy)
   rw[Y3 fun _ _=>rfl]at k3;have x23:=x2.trans x3;obtain⟨w',Kc,ct⟩:=rl (K.ext W x23) hlt;obtain⟨h4,k4,x4⟩:=PG (m:=m+1) (g:=119) (caps:=[pt h'.next]) (P:=fun _=>false) x23.wf Kc (by rw[zJ];omega) fun g xg y hy=>by
    obtain⟨j,hj⟩:=List.mem_iff_getElem?.1 hy;have hji:j<i:=by
     have:=(List.getElem?_eq_some_iff.1 hj).1;rw[zJ]at this;omega
    rw[List.getElem?_take,if_pos hji]at hj;exact rD (m:=m) xg.wf ((R5.ext x2.wf x3).ext x23.wf xg) (ht i j x y hx hj hji)
   rw[Y3 fun _ _=>rfl]at k4;have x24:=x23.trans x4;have y24:=(y2.trans x3).trans x4;have R54:=(R5.ext x2.wf x3).ext x23.wf x4;obtain⟨_,_,_,_,_,_,ld5,_⟩:=Bw R54;have sl:=fun (F:AFi) (e:Env) (he:J 30 e=ktV x)=>Mp (F:=F) x24.wf he
   obtain⟨h5,w5,k5,x5,o5,n5,_⟩:=TJ x24 (IT _) x24.next (o'.ext W' y24) (hu x hxm) (by rw[zJ];omega);have er:ks.take (i+1)=ks.take i++[x]:=by rw[List.take_add_one,hx];rfl
   rw[<- er]at o5;have a3:=Cc (i:=i) (h:=h5) (by omega);have hrun:∃ e2,coB (call AC (m+3)) e' h'=.norm e2 h5/\J 0 e2=v/\J 3 e2=w5/\J 8 e2=v/\J 9 e2=AI AT (ks.length:Int)/\J 10 e2=AI AT ((i+1:Nat):Int):=by
    unfold coB;simp only[sT,By,BY,reduceIte,AK,AJ,t10,t9,c1,BB,t8,ix,Au,Am,ld,al,AX,st,DX,AV,A3,BR,t0,k3,Be,Bd,zg];rw[Sj (by omega)];simp only[sT,By,BY,reduceIte,gD,t0];rw[ct _ _ _ _ (by simp[AG]) (by simp[AG])];simp only[sT,By,BY,reduceIte,gD,AV,A3,BR,k4,Be,Bd,zg,Au,Am,ld5,sl,BN,t3,k5,BM,a3,t10];exact⟨_,rfl,by simp[AG,t0,t8,t9]⟩
   obtain⟨e2,r1,r2,r3,r4,r5,r6⟩:=hrun;exact⟨hlt,e2,h5,r1,w5,x5,o5,r2,r3,r4,r5,r6,by omega,fun h=>absurd h (Nat.succ_ne_zero i)⟩
  ·right
   have c1:=DJ (show ks.length<=i by omega);have hrun:∃ e2,coB (call AC (m+3)) e' h'=.exit 0 e2 h'/\J 3 e2=w:=by
    unfold coB;simp only[sT,By,BY,reduceIte,AK,AJ,t10,t9,c1];exact⟨_,rfl,by simp[AG,t3]⟩
   obtain⟨e2,r1,r2⟩:=hrun;rw[r1];rw[AAo (by omega)]at o';exact⟨rfl,e2,h',w,rfl,x',o',r2,fun h=>hz (by rw[h]at hi;exact Nat.le_zero.1 hi)⟩
 obtain⟨e2,h2,w,r1,x2,o2,r2,r3⟩:=run;refine⟨h2,w,?_,x2,o2,r3⟩;rw[px rfl,qn,p1,qT];simp only[BJ,Az,r1,BD,BA];unfold coE;simp only[sT,By,BY,reduceIte,r2,lV0]
end
end
noncomputable section
open Go
set_option maxRecDepth 100000
structure Kc where
 a:Int
 b:Int
 c:Int
 s:Nat
 l:List Nat
 p:Nat
def Kt.core(k:Kt):Kc:=⟨k.a,k.b,k.c,k.s,k.l,k.p⟩
def lkN(T M:List Nat)(p:Nat):Option (List Nat):=match ABR (∃ ns,HF T M p ns)with
 |.isTrue h=>some (AFE h)
 |.isFalse _=>none
def EW(T M:List Nat)(p:Nat):Bool:=match ABR ((¬ ∃ ns,HF T M p ns)/\((∃ x∈sec M (3*p),x≠0)\/∃ ns,LY T (sec M (3*p)) ns/\at6 ns 4<=100))with
 |.isTrue _=>true
 |.isFalse _=>false
theorem Qz{T M:List Nat}{p:Nat}{ns:List Nat}(h:HF T M p ns):lkN T M p=some ns:=by
 unfold lkN;split
 ·rename_i h' _
  rw[Ge (AFQ h').1 h.1]
 ·rename_i h' _;exact absurd ⟨ns,h⟩ h'
theorem Qy{T M:List Nat}{p:Nat}(h:¬ ∃ ns,HF T M p ns):lkN T M p=none:=by
 unfold lkN;split
 ·rename_i h' _;exact absurd h' h
 ·rfl
theorem Hm{T M:List Nat}{p:Nat}:EW T M p=true↔((¬ ∃ ns,HF T M p ns)/\((∃ x∈sec M (3*p),x≠0)\/∃ ns,LY T (sec M (3*p)) ns/\at6 ns 4<=100)):=by
 unfold EW;split
 ·rename_i h _;exact⟨fun _=>h,fun _=>rfl⟩
 ·rename_i h _;exact⟨fun e=>(by cases e),fun e=>absurd e h⟩
def Xy(M:List Nat)(p:Nat)(ns:List Nat):Kc:=⟨at6 ns 1,at6 ns 2,at6 ns 3,at6 ns 0,dat M p (at6 ns 4),p⟩
def kcs(T M:List Nat)(i:Nat):List Kc:=(zu i).filterMap fun p=>(lkN T M p).map (Xy M p)
def AGs(T M:List Nat)(i:Nat):List Nat:=(zu i).filter (EW T M)
def mrk(T M:List Nat)(i:Nat):List Nat:=(zu i).filter fun p=>(lkN T M p).isSome || EW T M p
theorem Qn(T M:List Nat)(i:Nat):kcs T M (i+1)=kcs T M i++(match lkN T M i with|some ns=>[Xy M i ns]|none=>[]):=by
 unfold kcs;rw[AAf,List.filterMap_append];cases h:lkN T M i<;>simp[h]
theorem KR(T M:List Nat)(i:Nat):AGs T M (i+1)=AGs T M i++(if EW T M i=true then [i]else []):=by
 unfold AGs;rw[AAf,AA3];cases h:EW T M i<;>simp[h]
theorem Mv(T M:List Nat)(i:Nat):mrk T M (i+1)=mrk T M i++(if((lkN T M i).isSome || EW T M i)=true then [i]else []):=by
 unfold mrk;rw[AAf,AA3];cases h:((lkN T M i).isSome || EW T M i)<;>simp[h]
theorem Dx(i:Nat)(f:Nat->Bool):((zu i).filter f).length<=i:=by
 have:=List.length_filter_le f (zu i)
 rwa [ACm]at this
theorem Hg(a b:List Nat):ints .i64 ((a++b).map zY)=ints .i64 (a.map zY)++ints .i64 (b.map zY):=by unfold ints;rw[zb,zb]
theorem tg:Bb ty3.zero 1=[AI AT 0]:=by kernel_rfl
section
variable {F:AFi}{e:Env}{h g g':Hp}{T M:List Nat}{bs r9 k1 bd bm bc tb n i m c0:Nat}{v mv:IN}{ks:List Kt}{arm:Int}
theorem Eq(W:h.Wf){x:O}{z:Int}(hx:x e=AI AT z):As 1 (Bb ty3.zero 1) [(0,1,x)] F e h=.ok (.slice (some ⟨h.next,0,none⟩) 1 1) (h.AFh 0 [AI AT z]):=by
 rw[tg];exact IQ W hx rfl rfl
theorem Hp.KO.nb{k b el:Nat}{L:List IN}(o:h.KO k v ks)(r:h.Row b el L)(he:el≠124):¬ AGA v b:=fun⟨off,nn,c,e1⟩=>by
 rcases o with ⟨h1,h2⟩|⟨b',h1,h2,h3,h4⟩
 ·rw[h1]at e1;cases e1
 ·rw[h1]at e1
  injection e1 with e1 _ _
  injection e1 with e1
  injection e1 with e1 _ _
  rw[e1]at h2;exact EE r h2 he rfl
theorem Hp.Own.nb{k b el en:Nat}{xs L:List IN}(o:h.Own k en v xs)(r:h.Row b el L)(he:el≠en+1):¬ AGA v b:=fun⟨off,nn,c,e1⟩=>by
 rcases o with ⟨h1,h2⟩|⟨b',h1,h2,h3,h4⟩
 ·rw[h1]at e1;cases e1
 ·rw[h1]at e1
  injection e1 with e1 _ _
  injection e1 with e1
  injection e1 with e1 _ _
  rw[e1]at h2;exact EE r h2 he rfl
structure O1 (h g:Hp)(T M:List Nat)(bs r9 k1 bd tb i:Nat)(v mv:IN)(ks:List Kt):Prop where
 x:h.Ext g
 row:g.Row bs 0 (slL bd tb AFn AFn (AGs T M i).length false)
 rb:g.Row r9 0 [pt bs]
 ko:g.KO k1 v ks
 cs:ks.map Kt.core=kcs T M i
 ok:∀ k∈ks,AHy g (fun b=>r9<b) k
 ms:g.Own k1 3 mv (ints .i64 ((mrk T M i).map zY))
 le:k1<=g.next
theorem O1.ext(o:O1 h g T M bs r9 k1 bd tb i v mv ks)(x:g.Ext g'):O1 h g' T M bs r9 k1 bd tb i v mv ks:=
 have W:=o.x.wf
 ⟨o.x.trans x,o.row.ext W x,o.rb.ext W x,o.ko.ext W x,o.cs,fun k hk=>⟨(o.ok k hk).1.ext W x,(o.ok k hk).2⟩,o.ms.ext W x,zO o.le x.next⟩
theorem jv:sv=BL (Ae 1 (A9 Lf)) so:=rfl
theorem qe:d47=gz:=rfl
theorem rm(o:O1 h g T M bs r9 k1 bd tb i v mv ks):ks.length<=i:=by
 have h1:=congrArg List.length o.cs;rw[OF]at h1;rw[h1];unfold kcs;have:=List.length_filterMap_le (fun p=>(lkN T M p).map (Xy M p)) (zu i)
 rwa [ACm]at this
theorem bi(W:h.Wf)(d:Dk h bd bm bc n M c0 [] arm false)(Rt:h.Row tb 0 (T.map wv))(hT:AGc T)(o:O1 h g T M bs r9 k1 bd tb i v mv ks)(hbs:h.next<=bs/\bs<r9/\r9<k1)(hi:i<n/3)
  (t8:J 9 e=pt r9)(t10:J 10 e=v)(t11:J 11 e=mv)(t51:J 51 e=AI AT ((n/3:Nat):Int))(t52:J 52 e=AI AT (i:Int)):
  ∃ e' g' v' mv' ks',Lf (call AC (m+6)) e g=.norm e' g'/\O1 h g' T M bs r9 k1 bd tb (i+1) v' mv' ks'/\J 10 e'=v'/\J 11 e'=mv'/\J 52 e'=AI AT ((i+1:Nat):Int)/\∀ j,j=0\/j=1\/j=2\/j=8\/j=9\/j=51->J j e'=J j e:=by
 have hn:=d.n1;have W1:=o.x.wf;have hhk:h.next<=k1:=by omega
 have c1:iLt (i:Int) ((n/3:Nat):Int)=true:=E9 hi;have l9:=DK o.rb;obtain⟨h1,x1,LK⟩:=Vf (m:=m+1) W1 o.row (Rt.ext W o.x) hT (d.ext W o.x) (p:=i) (by omega);have al:=fun (F:AFi) (e:Env)=>BW (F:=F) (e:=e) x1.wf (n:=6) (t:=CU)
 have Ra:=Hp.Row.alloc x1.wf FF (show(AZ K0).length=6 from rfl);have y2:h1.Ext (h1.push (.cells CU 6 0)):=(Hp.Ext.refl x1.wf).push _;have n2:(h1.push (.cells CU 6 0)).next=h1.next+1:=rfl;generalize h1.push (.cells CU 6 0)=h2 at al Ra y2 n2;have c0':iNe 0 0=false:=CH rfl;have hx1:=x1.next;rcases LK with ⟨ns,u,hH,hk,hu⟩|⟨hH,bad,hk,AHj⟩
 ·
  have hN:=Qz hH;have AI5:=RO hH.1;have hB:EW T M i=false:=by
   cases hb:EW T M i
   ·rfl
   ·exact absurd ⟨ns,hH⟩ (Hm.1 hb).1
  have u1:=hu.vs.one;obtain⟨st,_,y3,R3,n3⟩:=K7 x1.wf y2 (IT _) Ra rfl (k:=⟨at6 ns 1,at6 ns 2,at6 ns 3,at6 ns 0,dat M i (at6 ns 4),i,u⟩) u1.2.1;generalize hX:(⟨at6 ns 1,at6 ns 2,at6 ns 3,at6 ns 0,dat M i (at6 ns 4),i,u⟩:Kt)=X at hk st y3 R3 n3;generalize h2.wr h1.next 0 (AZ X)=h3 at st y3 R3 n3;have o3:=o.ext (x1.trans y3);have hXu:X.u=u:=by rw[<- hX]
  obtain⟨_,_,_,_,_,_,ld,_⟩:=Bw R3;have sl:=fun (F:AFi) (e:Env) (he:J 70 e=ktV X)=>Mp (F:=F) o3.x.wf he
  obtain⟨h5,v5,k5,x5,q5,n5,f5⟩:=TJ o3.x hhk o3.le o3.ko (x:=X) (by rw[hXu];exact u1.2.1) (by have:=rm o;omega);have f5':∀ b el L,el≠124->h3.Row b el L->h5.Row b el L:=fun b el L he r=>f5 b el L (o3.ko.nb r he) r
  have hlen:(dat M i (at6 ns 4)).length=at6 ns 4:=JR d.len (by have:=hH.2.1;omega);have okX:AHy h5 (fun b=>r9<b) X:=by
   rw[<- hX];refine⟨((hu.ext x1.wf y3).mono fun b hb=>by have hb:g.next<=b:=hb;have:=o.le;omega).keep fun b el L hb he r=>f5' b el L (by omega) r,Zu d.byt _ _,by rw[hlen];exact hH.2.1,?_,?_,by show i<65536;omega⟩
   ·obtain⟨_,_,_,h4⟩:=AI5
    unfold AFx at h4;have:=of_decide_eq_true h4;exact this.2.2.2.2.2.2.1
   ·obtain⟨_,_,_,h4⟩:=AI5
    unfold AFx at h4 ⊢;have:=of_decide_eq_true h4;refine decide_eq_true ⟨this.1,this.2.1,this.2.2.1,this.2.2.2.1,this.2.2.2.2.1,this.2.2.2.2.2.1,this.2.2.2.2.2.2.1,?_⟩;show(dat M i (at6 ns 4)).length<=65536;rw[hlen];have:=hH.2.1;omega
  have o5:O1 h h5 T M bs r9 k1 bd tb i v5 mv (ks++[X])->True:=fun _=>trivial
  have mk5:h5.Own k1 3 mv (ints .i64 ((mrk T M i).map zY)):=by
   rcases o3.ms with h1'|⟨b,h1',h2',h3',h4'⟩
   ·exact .inl h1'
   ·exact .inr ⟨b,h1',f5' b _ _ (by omega) h2',h3',h4'⟩
  obtain⟨h6,mv6,k6,x6,m6,n6,f6⟩:∃ g' mv',DU 1 8 3 mv (.slice (some ⟨h5.next,0,none⟩) 1 1) (h5.AFh 0 [AI AT (i:Int)])=.ok mv' g'/\h.Ext g'/\g'.Own k1 3 mv' (ints .i64 ((mrk T M i++[i]).map zY))/\h5.next<=g'.next/\(∀ b el L,el≠4->h5.Row b el L->g'.Row b el L):=by
   obtain⟨g',mv',a1,a2,a3,a4,a5⟩:=Jw (eb:=8) (en:=3) (kd:=.i64) (n:=(i:Int)) x5 hhk (by have:=o3.le;omega) mk5 (by
    have:=Dx i (fun p=>(lkN T M p).isSome || EW T M p);have:(mrk T M i).length<=i:=this;have:(ints .i64 ((mrk T M i).map zY)).length<=i:=by unfold ints;rw[OF,OF];exact this
    omega)
   exact⟨g',mv',a1,a2,by rw[Hg];exact a3,by omega,fun b el L he r=>(a5 b el L (mk5.nb r he) r).1⟩
  have f56:∀ b el L,el≠124->el≠4->h3.Row b el L->h6.Row b el L:=fun b el L h1 h2 r=>f6 b el L h2 (f5' b el L h1 r)
  have is:=fun (F:AFi) (e:Env) (he:J 12 e=AI AT (i:Int))=>Eq (F:=F) x5.wf he
  have a3:=Cc (i:=i) (h:=h6) (by omega);have hrun:∃ e2,Lf (call AC (m+6)) e g=.norm e2 h6/\J 10 e2=v5/\J 11 e2=mv6/\J 52 e2=AI AT ((i+1:Nat):Int)/\∀ j,j=0\/j=1\/j=2\/j=8\/j=9\/j=51->J j e2=J j e:=by
   unfold Lf;simp only[sT,By,BY,reduceIte,gD,AK,AJ,t52,t51,c1,AM,AP,t8,l9,cA0,hk,A7,BC,BE,Cx,El,al,AX,st,c0',Au,Am,ld,sl,BN,t10,k5,is,t11,k6,BM,a3];refine⟨_,rfl,by simp[AG],by simp[AG],by simp[AG],fun j hj=>?_⟩;rcases hj with rfl|rfl|rfl|rfl|rfl|rfl<;>simp only[AG,By,BY,reduceIte]
  obtain⟨e2,r1,r2,r3,r4,r5⟩:=hrun;refine⟨e2,h6,v5,mv6,ks++[X],r1,⟨x6,?_,f56 _ _ _ (by omega) (by omega) o3.rb,q5.keep fun b el L hb r=>?_,?_,fun k hk=>?_,?_,by have:=o3.le;omega⟩,r2,r3,r4,r5⟩
  ·rw[KR,hB,if_neg (by decide),yw]
   exact f56 _ _ _ (by omega) (by omega) o3.row
  ·obtain⟨off,nn,c,e1⟩:=hb
   rcases q5 with ⟨e2,_⟩|⟨b',e2,r',_⟩
   ·rw[e2]at e1;cases e1
   ·rw[e2]at e1
    injection e1 with e1 _ _
    injection e1 with e1
    injection e1 with e1 _ _
    rw[<- e1]at r ⊢;refine f6 _ _ _ ?_ r;intro h4;rw[h4]at r;exact EE r r' (by omega) rfl
  ·rw[zb,o.cs,Qn,hN,<- hX];rfl
  ·rcases zK.1 hk with hk|hk
   ·exact⟨((o3.ok k hk).1.keep fun b el L hb he r=>f56 b el L (by omega) (by omega) r),(o3.ok k hk).2⟩
   ·rw[zB.1 hk]
    exact⟨okX.1.keep fun b el L hb he r=>f6 b el L (by omega) r,okX.2⟩
  ·rw[Mv,hN,if_pos (by rfl)];exact m6
 ·
  have hN:=Qy hH;obtain⟨st,_,y3,R3,n3⟩:=K7 x1.wf y2 (IT _) Ra rfl (k:=K0) rfl;generalize h2.wr h1.next 0 (AZ K0)=h3 at st y3 R3 n3;have o3:=o.ext (x1.trans y3);have hcs:ks.map Kt.core=kcs T M (i+1):=by rw[Qn,hN,yw];exact o.cs
  cases hbd:bad with
  |false=>
   rw[hbd]at hk AHj;have hB:EW T M i=false:=by
    cases hb:EW T M i
    ·rfl
    ·have:=AHj.2 (Hm.1 hb).2;cases this
   have a3:=Cc (i:=i) (h:=h3) (by omega);have hrun:∃ e2,Lf (call AC (m+6)) e g=.norm e2 h3/\J 10 e2=v/\J 11 e2=mv/\J 52 e2=AI AT ((i+1:Nat):Int)/\∀ j,j=0\/j=1\/j=2\/j=8\/j=9\/j=51->J j e2=J j e:=by
    unfold Lf;simp only[sT,By,BY,reduceIte,gD,AK,AJ,t52,t51,c1,AM,AP,t8,l9,cA0,hk,A7,BC,BE,Cx,El,al,AX,st,c0',BM,a3];refine⟨_,rfl,by simp[AG,t10],by simp[AG,t11],by simp[AG],fun j hj=>?_⟩;rcases hj with rfl|rfl|rfl|rfl|rfl|rfl<;>simp only[AG,By,BY,reduceIte]
   obtain⟨e2,r1,r2,r3,r4,r5⟩:=hrun;refine⟨e2,h3,v,mv,ks,r1,⟨o3.x,?_,o3.rb,o3.ko,hcs,o3.ok,?_,o3.le⟩,r2,r3,r4,r5⟩
   ·rw[KR,hB,if_neg (by decide),yw];exact o3.row
   ·rw[Mv,hN,hB,if_neg (by decide),yw];exact o3.ms
  |true=>
   rw[hbd]at hk AHj;have hB:EW T M i=true:=Hm.2 ⟨hH,AHj.1 rfl⟩;have AFs:256<=bs:=by have:=W.big;omega
   obtain⟨_,_,_,_,_,l5,_⟩:=BG o3.row;have hbl:(AGs T M i).length<=i:=Dx i _;have ad:Ez .i64 (AI AT ((AGs T M i).length:Int)) (AI AT 1) h3=.ok (AI AT (((AGs T M i).length+1:Nat):Int)) h3:=Cc (by omega);have st5:AFr 1 (.pointer (some ⟨bs,5,none⟩)) (AI AT (((AGs T M i).length+1:Nat):Int)) h3=.ok AFl (h3.wr bs 5 [AI AT (((AGs T M i).length+1:Nat):Int)]):=o3.row.AFr (n:=1) (off:=5) o3.x.wf AFs (v:=AI AT (((AGs T M i).length+1:Nat):Int)) rfl (by show 5+1<=7;omega) rfl;have ho5:5+[zd .i64 (((AGs T M i).length+1:Nat):Int)].length<=(slL bd tb AFn AFn (AGs T M i).length false).length:=by show 5+1<=7;omega
   have R5:=o3.row.AFu o3.x.wf ho5;have x5:=o3.row.AGE o3.x hbs.1 ho5;have n5:=o3.row.AGN ho5;have f5:∀ b el L,b≠bs->h3.Row b el L->(h3.wr bs 5 [AI AT (((AGs T M i).length+1:Nat):Int)]).Row b el L:=fun b el L hb r=>o3.row.AGr o3.x.wf ho5 r hb
   have hov:over (slL bd tb AFn AFn (AGs T M i).length false) 5 [AI AT (((AGs T M i).length+1:Nat):Int)]=slL bd tb AFn AFn ((AGs T M i).length+1) false:=rfl;rw[hov]at R5;generalize h3.wr bs 5 [AI AT (((AGs T M i).length+1:Nat):Int)]=h5 at st5 R5 x5 n5 f5;have mk5:h5.Own k1 3 mv (ints .i64 ((mrk T M i).map zY)):=by
    rcases o3.ms with h1'|⟨b,h1',h2',h3',h4'⟩
    ·exact .inl h1'
    ·exact .inr ⟨b,h1',f5 b _ _ (by omega) h2',h3',h4'⟩
   obtain⟨h6,mv6,k6,x6,m6,n6,f6⟩:∃ g' mv',DU 1 8 3 mv (.slice (some ⟨h5.next,0,none⟩) 1 1) (h5.AFh 0 [AI AT (i:Int)])=.ok mv' g'/\h.Ext g'/\g'.Own k1 3 mv' (ints .i64 ((mrk T M i++[i]).map zY))/\h5.next<=g'.next/\(∀ b el L,el≠4->h5.Row b el L->g'.Row b el L):=by
    obtain⟨g',mv',a1,a2,a3,a4,a5⟩:=Jw (eb:=8) (en:=3) (kd:=.i64) (n:=(i:Int)) x5 hhk (by have:=o3.le;omega) mk5 (by
     have:=Dx i (fun p=>(lkN T M p).isSome || EW T M p);have:(mrk T M i).length<=i:=this;have:(ints .i64 ((mrk T M i).map zY)).length<=i:=by unfold ints;rw[OF,OF];exact this
     omega)
    exact⟨g',mv',a1,a2,by rw[Hg];exact a3,by omega,fun b el L he r=>(a5 b el L (mk5.nb r he) r).1⟩
   have f56:∀ b el L,b≠bs->el≠4->h3.Row b el L->h6.Row b el L:=fun b el L h1 h2 r=>f6 b el L h2 (f5 b el L h1 r)
   have is:=fun (F:AFi) (e:Env) (he:J 12 e=AI AT (i:Int))=>Eq (F:=F) x5.wf he
   have a3:=Cc (i:=i) (h:=h6) (by omega);have l9':=DK o3.rb;have hrun:∃ e2,Lf (call AC (m+6)) e g=.norm e2 h6/\J 10 e2=v/\J 11 e2=mv6/\J 52 e2=AI AT ((i+1:Nat):Int)/\∀ j,j=0\/j=1\/j=2\/j=8\/j=9\/j=51->J j e2=J j e:=by
    unfold Lf;simp only[sT,By,BY,reduceIte,gD,AK,AJ,t52,t51,c1,AM,AP,t8,l9,l9',cA0,hk,A7,BC,BE,Cx,El,al,AX,st,c0',Ax,Al,AH,AN,If,l5,BM,ad,st5,is,BN,t11,k6,a3];refine⟨_,rfl,by simp[AG,t10],by simp[AG],by simp[AG],fun j hj=>?_⟩;rcases hj with rfl|rfl|rfl|rfl|rfl|rfl<;>simp only[AG,By,BY,reduceIte]
   obtain⟨e2,r1,r2,r3,r4,r5⟩:=hrun;refine⟨e2,h6,v,mv6,ks,r1,⟨x6,?_,f56 _ _ _ (by omega) (by omega) o3.rb,?_,hcs,fun k hk=>⟨((o3.ok k hk).1.keep fun b el L hb he r=>f56 b el L (by have hb:r9<b:=hb;omega) (by omega) r),(o3.ok k hk).2⟩,?_,by have:=o3.le;omega⟩,r2,r3,r4,r5⟩
   ·rw[KR,hB,if_pos rfl,No]
    exact f6 _ _ _ (by omega) R5
   ·rcases o3.ko with h1'|⟨b,h1',h2',h3',h4'⟩
    ·exact .inl h1'
    ·exact .inr ⟨b,h1',f56 b _ _ (by omega) (by omega) h2',h3',h4'⟩
   ·rw[Mv,hN,hB,if_pos (show((none:Option (List Nat)).isSome || true)=true from rfl)];exact m6
end
end
noncomputable section
open Go
set_option maxRecDepth 100000
section
variable {F:AFi}{e:Env}{h g g' h0:Hp}{bs r9 k1 bd tb n i m bad k:Nat}{v mv lv fv:IN}{ks:List Kt}{S:Nat->Prop}{ov:Bool}
theorem Mc(W:g.Wf){L:List IN}(R:g.Row bs 0 L){off:Nat}(ho:off<L.length)(AFs:256<=bs)(h1:cellsOf v=[v])(h2:oneCell v=true):
  ∃ g',(∀ (F:AFi) (e:Env) (x y:O),x e=.pointer (some ⟨bs,off,none⟩)->y e=v->Ad .free (Ac 1 x y) F e g=.ok AFl g')/\g'.Row bs 0 (over L off [v])/\g'.next=g.next/\g'.mark=g.mark/\Fx (fun b=>b=bs) g g'/\∀ h0:Hp,h0.Ext g->h0.next<=bs->h0.Ext g':=by
 have Rq:g.quiet.Row bs 0 L:=R.same rfl;have hoo:off+[v].length<=L.length:=ho;have ha:Bc [v]=true:=by
  show(bif oneCell v then true else false)=true;rw[h2];rfl
 have st:=Rq.AFr (n:=1) (off:=off) (v:=v) W.quiet AFs (by rw[h1];rfl) (by rw[h1];exact hoo) (by rw[h1];exact ha);rw[h1]at st;have wr:=Rq.AFu W.quiet hoo;have fx:=Fx.wr (S:=fun b=>b=bs) W.quiet Rq hoo rfl;have wx:=fun (h0:Hp) (x:h0.Ext g.quiet) (hb:h0.next<=bs)=>Rq.AGE x hb hoo
 have wn:=Rq.AGN hoo;generalize g.quiet.wr bs off [v]=q at st wr fx wx wn;refine⟨g.back q,fun F e x y hx hy=>BO (by rw[AX,hx,hy];exact st),wr.same rfl,wn,rfl,(fx.from (h:=g) rfl rfl).same rfl rfl,fun h0 x hb=>x.AGo (wx h0 x.quiet hb)⟩
theorem Dt(W:g.Wf){L:List IN}(R:g.Row bs 0 L){off:Nat}(ho:off<L.length)(AFs:256<=bs)(h1:cellsOf v=[v])(h2:oneCell v=true):
  ∃ g',AFr 1 (.pointer (some ⟨bs,off,none⟩)) v g=.ok AFl g'/\g'.Row bs 0 (over L off [v])/\g'.next=g.next/\Fx (fun b=>b=bs) g g'/\∀ h0:Hp,h0.Ext g->h0.next<=bs->h0.Ext g':=by
 have hoo:off+[v].length<=L.length:=ho;have ha:Bc [v]=true:=by
  show(bif oneCell v then true else false)=true;rw[h2];rfl
 have st:=R.AFr (n:=1) (off:=off) (v:=v) W AFs (by rw[h1];rfl) (by rw[h1];exact hoo) (by rw[h1];exact ha);rw[h1]at st;exact⟨_,st,R.AFu W hoo,R.AGN hoo,Fx.wr (S:=fun b=>b=bs) W R hoo rfl,fun h0 x hb=>R.AGE x hb hoo⟩
theorem j0(x0:h0.Ext h)(hk:h0.next<=k)(hk2:k<=h.next){xs:List IN}(o:h.Own k 3 v xs){bw:Nat}{z:Int}(Rw:h.Row bw 0 [AI AT z])(hl:xs.length<=1000000):
  ∃ h' v',(∀ (F:AFi) (e:Env) (x y:O),x e=v->y e=.slice (some ⟨bw,0,none⟩) 1 1->Jr x (Bp 1 8 3 x y) F e h=.ok v' h')/\h0.Ext h'/\h'.Own k 3 v' (xs++[AI AT z])/\h.next<h'.next/\h'.mark=h.mark/\(∀ b el L,¬ AGA v b->h.Row b el L->h'.Row b el L)/\(∀ b,AGA v' b->b=h.next):=by
 have W:=x0.wf;have cl:h.quiet.Cl (AGA v) 3 v xs:=by
  rcases o with ⟨h1,h2⟩|⟨b,h1,h2,h3,h4⟩
  ·exact .inl ⟨h1,h2⟩
  ·exact .inr ⟨b,4,h1,h2.same rfl,.inl rfl,⟨0,_,_,h1⟩,h4⟩
 have kb:∀ b,AGA v b->h0.next<=b:=fun b hb=>by
  obtain⟨off,n,c,e1⟩:=hb;rcases o with ⟨h1,h2⟩|⟨b',h1,h2,h3,h4⟩
  ·rw[h1]at e1;cases e1
  ·rw[h1]at e1
   injection e1 with e1 _ _
   injection e1 with e1
   injection e1 with e1 _ _
   omega
 obtain⟨h5,b5,a1,a2,a3,a4,a5,a6,a7,a8,a9⟩:=ZZ (eb:=8) (en:=3) x0.quiet cl kb (Rw.same (h':=h.quiet) rfl) rfl hl (by omega);have a4:b5=h.next:=a4;have a5:h5.next=h.next+1:=a5;have AFs:=W.big;refine⟨h.back h5,.slice (some ⟨b5,0,none⟩) (xs.length+1) (xs.length+1),fun F e x y hx hy=>UL hx hy a1 (a9 rfl rfl h rfl),x0.AGo a2,.inr ⟨b5,by rw[No];rfl,a3.same rfl,by omega,by omega⟩,by show h.next<h5.next;omega,rfl,fun b el L hb r=>(a7 b el L hb (r.same rfl)).same rfl,fun b ⟨off,nn,c,e1⟩=>?_⟩;injection e1 with e1 _ _
 injection e1 with e1
 injection e1 with e1 _ _
 omega
theorem rA(W:h.Wf){rp:Nat}{p:Nat}(Rp:h.Row rp 0 [AI AT (p:Int)])(x:Kt):∃ h',call AC (m+1) 79 [ktV x,pt rp] h=.ok (.bool (decide (x.p=p))) h'/\h.Ext h':=by
 have bx:=fun (F:AFi) (e:Env) (he:J 0 e=ktV x)=>Hl (F:=F) W he
 have x1:=(Hp.Ext.refl W).AFh 0 (AZ x);have R:=Hp.Row.new W 0 (AZ x);generalize h.AFh 0 (AZ x)=h1 at bx x1 R;obtain⟨_,_,_,_,_,l5,_⟩:=Bw R;have lp:=DK (Rp.ext W x1);have c1:iEq (x.p:Int) (p:Int)=decide (x.p=p):=by
  by_cases h3:x.p=p
  ·rw[decide_eq_true h3];exact Cb (by omega)
  ·rw[decide_eq_false h3];exact B6 (by omega)
 refine⟨h1,?_,x1⟩;rw[qA rfl];unfold d79;simp only[iN,IS,sT,By,BY,reduceIte,bx,AH,AN,If,AM,AP,l5,lp,AK,AJ,c1,lV0]
theorem Xb(W:h.Wf)(R:h.Row bs 0 (slL bd tb lv fv bad ov))(Rb:h.Row r9 0 [pt bs])(K:h.KS S lv ks)(hl:ks.length<=100000){p:Nat}:
  ∃ h',call AC (m+4) 77 [AI AT (p:Int),pt r9] h=.ok (.bool (ks.any fun x=>decide (x.p=p))) h'/\h.Ext h':=by
 have b1:=fun (F:AFi) (e:Env) (he:J 0 e=AI AT (p:Int))=>IG (F:=F) W he
 have x1:=(Hp.Ext.refl W).AFh 0 [AI AT (p:Int)];have R1:=Hp.Row.new W 0 [AI AT (p:Int)];generalize h.AFh 0 [AI AT (p:Int)]=h1 at b1 x1 R1;have lb:=DK (Rb.ext W x1);obtain⟨_,_,_,l3,_⟩:=BG (R.ext W x1);obtain⟨h2,k2,x2⟩:=PG (m:=m+1) (g:=79) (caps:=[pt h.next]) (P:=fun x=>decide (x.p=p)) x1.wf (K.ext W x1) hl fun g xg y hy=>rA (m:=m) xg.wf (R1.ext x1.wf xg) y
 refine⟨h2,?_,x1.trans x2⟩;rw[py rfl];unfold d77;simp only[iN,IS,sT,By,BY,reduceIte,b1,AM,AP,lb,Ax,Al,AH,AN,If,l3,DX,AV,A3,BR,k2,lV0]
theorem jw:sx=BL (Ae 4 (A9 Lg)) su:=rfl
theorem ju:so=Vx:=rfl
def AGh(ks:List Kt)(i:Nat):List Nat:=(zu i).filter fun p=> !(ks.any fun x=>decide (x.p=p))
def AHl(ks:List Kt)(mk:List Nat)(i:Nat):List Nat:=(zu i).filter fun p=> !(ks.any fun x=>decide (x.p=p)) && decide (p∈mk)
theorem Iy(ks:List Kt)(i:Nat):AGh ks (i+1)=AGh ks i++(if(ks.any fun x=>decide (x.p=i))=true then []else [i]):=by
 unfold AGh;rw[AAf,AA3];cases h:(ks.any fun x=>decide (x.p=i))<;>simp[h]
theorem K6(ks:List Kt)(mk:List Nat)(i:Nat):AHl ks mk (i+1)=AHl ks mk i++(if(ks.any fun x=>decide (x.p=i))=true then []else if i∈mk then [i]else []):=by
 unfold AHl;rw[AAf,AA3];cases h:(ks.any fun x=>decide (x.p=i))<;>by_cases h2:i∈mk<;>simp[h,h2]
structure O2 (h g:Hp)(mk:List Nat)(bs r9 k1 bd tb i bad:Nat)(w mv fv ou:IN)(ks:List Kt):Prop where
 x:h.Ext g
 row:g.Row bs 0 (slL bd tb w fv bad false)
 rb:g.Row r9 0 [pt bs]
 ko:g.KO k1 w ks
 ok:∀ k∈ks,AHy g (fun b=>r9<b) k
 fs:g.Own k1 3 fv (ints .i64 ((AGh ks i).map zY))
 os:g.Own k1 3 ou (ints .i64 ((AHl ks mk i).map zY))
 ms:g.Own k1 3 mv (ints .i64 (mk.map zY))
 ap:∀ b,(AGA fv b->¬ AGA ou b/\¬ AGA mv b)/\(AGA ou b->¬ AGA mv b)
 le:k1<=g.next
theorem O2.ext{mk:List Nat}{w ou:IN}(o:O2 h g mk bs r9 k1 bd tb i bad w mv fv ou ks)(x:g.Ext g'):O2 h g' mk bs r9 k1 bd tb i bad w mv fv ou ks:=
 have W:=o.x.wf
 ⟨o.x.trans x,o.row.ext W x,o.rb.ext W x,o.ko.ext W x,fun k hk=>⟨(o.ok k hk).1.ext W x,(o.ok k hk).2⟩,o.fs.ext W x,o.os.ext W x,o.ms.ext W x,o.ap,zO o.le x.next⟩
theorem Hp.Own.lt'{en:Nat}{xs:List IN}(o:h.Own k en v xs)(W:h.Wf){b:Nat}(hb:AGA v b):b<h.next:=by
 obtain⟨off,n,c,e1⟩:=hb;rcases o with ⟨h1,h2⟩|⟨b',h1,h2,h3,h4⟩
 ·rw[h1]at e1;cases e1
 ·have:=h2.lt W
  rw[h1]at e1;injection e1 with e1 _ _
  injection e1 with e1
  injection e1 with e1 _ _
  omega
theorem Hp.Own.rw_{en:Nat}{xs:List IN}(o:h.Own k en v xs){b:Nat}(hb:AGA v b):h.Row b (en+1) xs:=by
 obtain⟨off,n,c,e1⟩:=hb;rcases o with ⟨h1,h2⟩|⟨b',h1,h2,h3,h4⟩
 ·rw[h1]at e1;cases e1
 ·rw[h1]at e1
  injection e1 with e1 _ _
  injection e1 with e1
  injection e1 with e1 _ _
  rw[<- e1];exact h2
theorem bj{mk:List Nat}{w ou:IN}(W:h.Wf)(o:O2 h g mk bs r9 k1 bd tb i bad w mv fv ou ks)(hbs:h.next<=bs/\bs<r9/\r9<k1){nn:Nat}(hi:i<nn)(hnn:nn<=30000)(hks:ks.length<=30000)(hmk:mk.length<=30000)
  (t9:J 9 e=pt r9)(t11:J 11 e=mv)(t17:J 17 e=.func (.func 77) ⟨[]⟩ ⟨[pt r9]⟩)(t18:J 18 e=ou)(SN:J 102 e=AI AT (nn:Int))(Pc:J 103 e=AI AT (i:Int)):
  ∃ e' g' fv' ou',Lg (call AC (m+6)) e g=.norm e' g'/\O2 h g' mk bs r9 k1 bd tb (i+1) bad w mv fv' ou' ks/\J 18 e'=ou'/\J 103 e'=AI AT ((i+1:Nat):Int)/\∀ j,j=0\/j=1\/j=2\/j=9\/j=11\/j=17\/j=102->J j e'=J j e:=by
 have W1:=o.x.wf;have hhk:h.next<=k1:=by omega
 have AFs:256<=bs:=by have:=W.big;omega
 have c1:iLt (i:Int) (nn:Int)=true:=E9 hi;obtain⟨h1,k1c,x1⟩:=Xb (m:=m+2) W1 o.row o.rb o.ko.lst (by omega) (p:=i);have o1:=o.ext x1;cases hc:(ks.any fun x=>decide (x.p=i))with
 |true=>
  rw[hc]at k1c;have a3:=Cc (i:=i) (h:=h1) (by omega);have hrun:∃ e2,Lg (call AC (m+6)) e g=.norm e2 h1/\J 18 e2=ou/\J 103 e2=AI AT ((i+1:Nat):Int)/\∀ j,j=0\/j=1\/j=2\/j=9\/j=11\/j=17\/j=102->J j e2=J j e:=by
   unfold Lg;simp only[sT,By,BY,reduceIte,AK,AJ,Pc,SN,c1,Ca,t17,Cr,AV,A3,zU,ABE,k1c,Be,Bd,Bool.not_true,BM,a3];refine⟨_,rfl,by simp[AG,t18],by simp[AG],fun j hj=>?_⟩;rcases hj with rfl|rfl|rfl|rfl|rfl|rfl|rfl<;>simp only[AG,By,BY,reduceIte]
  obtain⟨e2,r1,r2,r3,r4⟩:=hrun;refine⟨e2,h1,fv,ou,r1,⟨o1.x,o1.row,o1.rb,o1.ko,o1.ok,?_,?_,o1.ms,o1.ap,o1.le⟩,r2,r3,r4⟩
  ·rw[Iy,hc,if_pos rfl,yw];exact o1.fs
  ·rw[K6,hc,if_pos rfl,yw];exact o1.os
 |false=>
  rw[hc]at k1c;have xm:=o1.x.marked;have om:=o1.ext (Hp.Ext.refl o1.x.wf).marked;have lb:=DK om.rb;obtain⟨_,_,_,_,l4,_⟩:=BG om.row;have qs:∀ (F:AFi) (e:Env),J 19 e=AI AT (i:Int)->Ad .AFz (As 1 (Bb ty3.zero 1) [(0,1,J 19)]) F e h1.marked=.ok (.slice (some ⟨h1.next,0,none⟩) 1 1) (h1.marked.back (h1.marked.quiet.AFh 0 [AI AT (i:Int)])):=fun F e he=>Cp (Eq xm.wf.quiet he) ((Hp.Ext.refl xm.wf.quiet).AFh _ _) (IT _)
  have y2:h1.marked.Ext (h1.marked.back (h1.marked.quiet.AFh 0 [AI AT (i:Int)])):=.back ((Hp.Ext.refl xm.wf.quiet).AFh _ _);have Rw:(h1.marked.back (h1.marked.quiet.AFh 0 [AI AT (i:Int)])).Row h1.next 0 [AI AT (i:Int)]:=(Hp.Row.new xm.wf.quiet 0 [AI AT (i:Int)]).same rfl;generalize h1.marked.back (h1.marked.quiet.AFh 0 [AI AT (i:Int)])=h2 at qs y2 Rw;have o2:=om.ext y2;have ck:∀ (K:C) (F:AFi) (e:Env),J 114 e=fv->J 9 e=pt r9->Cn (J 114) [J 9] K F e h2=K F e h2:=fun K F e a1 a2=>by
   rcases o2.fs with ⟨h1',_⟩|⟨b',h1',h2',h3',_⟩
   ·exact fe (b:=0) a1 (.inl h1') a2 (.inl h1')
   ·exact fe (b:=b') a1 (.inr ⟨_,_,_,h1'⟩) a2 (.inr (by omega))
  have hfl:(AGh ks i).length<=i:=Dx i _;have hol:(AHl ks mk i).length<=i:=Dx i _;obtain⟨h3,fv3,k3,x3,fs3,n3,_,kp3,nb3⟩:=j0 o2.x hhk o2.le o2.fs Rw (by unfold ints;rw[OF,OF];omega);have AMJ:fv3=fv3:=rfl;have AIl:=kp3 _ _ _ (o2.fs.nb o2.row (by omega)) o2.row;have jt:cellsOf fv3=[fv3]/\oneCell fv3=true:=by
   rcases fs3 with ⟨h1,_⟩|⟨b,h1,_⟩<;>rw[h1]<;>exact⟨rfl,rfl⟩
  obtain⟨h4,k4,AIm,n4,_,fx4,e4⟩:=Mc x3.wf AIl (off:=4) (show 4<7 by omega) AFs jt.1 jt.2;have x4:=e4 h x3 hbs.1;have kp4:∀ b el L,b≠bs->h3.Row b el L->h4.Row b el L:=fun b el L hb r=>fx4.row x3.wf r hb
  have AI6:∀ b el L,b≠bs->¬ AGA fv b->h2.Row b el L->h4.Row b el L:=fun b el L h1 h2 r=>kp4 b el L h1 (kp3 b el L h2 r)
  have AIm:h4.Row bs 0 (slL bd tb w fv3 bad false):=AIm;have ow:∀ {u:IN} {xs:List IN},h2.Own k1 3 u xs->(∀ b,AGA u b->¬ AGA fv b)->h4.Own k1 3 u xs:=fun o hd=>by
   rcases o with h1'|⟨b,h1',h2',h3',h4'⟩
   ·exact .inl h1'
   ·exact .inr ⟨b,h1',AI6 b _ _ (by omega) (hd b ⟨0,_,_,h1'⟩) h2',h3',h4'⟩
  have fs4:h4.Own k1 3 fv3 (ints .i64 ((AGh ks i).map zY)++[AI AT (i:Int)]):=by
   rcases fs3 with h1'|⟨b,h1',h2',h3',h4'⟩
   ·exact .inl h1'
   ·exact .inr ⟨b,h1',kp4 b _ _ (by omega) h2',h3',h4'⟩
  have os4:=ow o2.os fun b hb hf=>((o2.ap b).1 hf).1 hb
  have ms4:=ow o2.ms fun b hb hf=>((o2.ap b).1 hf).2 hb
  have ko4:h4.KO k1 w ks:=by
   rcases o2.ko with h1'|⟨b,h1',h2',h3',h4'⟩
   ·exact .inl h1'
   ·exact .inr ⟨b,h1',AI6 b _ _ (by omega) (o2.fs.nb h2' (by omega)) h2',h3',h4'⟩
  have rb4:=AI6 _ _ _ (by omega) (o2.fs.nb o2.rb (by omega)) o2.rb;have ok4:∀ k∈ks,AHy h4 (fun b=>r9<b) k:=fun k hk=>⟨(o2.ok k hk).1.keep fun b el L hb he r=>AI6 b el L (by have hb:r9<b:=hb;omega) (o2.fs.nb r (by omega)) r,(o2.ok k hk).2⟩
  have ap4:∀ b,(AGA fv3 b->¬ AGA ou b/\¬ AGA mv b)/\(AGA ou b->¬ AGA mv b):=fun b=>⟨fun hb=>by
   have e1:=nb3 b hb;exact⟨fun h=>by have:=o2.os.lt' o2.x.wf h;omega,fun h=>by have:=o2.ms.lt' o2.x.wf h;omega⟩,(o2.ap b).2⟩
  have k5:=QC (n:=m+4) (x:=(i:Int)) ms4.vals (by rw[OF];omega);have hmem:decide ((i:Int)∈mk.map zY)=decide (i∈mk):=by
   rw[decide_eq_decide,List.mem_map];constructor
   ·rintro⟨a,ha,he⟩
    have:a=i:=zY.inj he;rw[<- this];exact ha
   ·exact fun h=>⟨i,h,rfl⟩
  rw[hmem]at k5;have k5:call AC (m+6) 80 [mv,AI AT (i:Int)] h4=.ok (.bool (decide (i∈mk))) h4:=k5;by_cases him:i∈mk
  ·rw[decide_eq_true him]at k5
   have is:=fun (F:AFi) (e:Env) (he:J 19 e=AI AT (i:Int))=>Eq (F:=F) x4.wf he
   obtain⟨h6,ou6,k6,x6,os6,n6,f6⟩:=Jw (eb:=8) (en:=3) (kd:=.i64) (n:=(i:Int)) x4 hhk (by have:=o2.le;omega) os4 (by unfold ints;rw[OF,OF];omega);have a3:=Cc (i:=i) (h:=h6) (by omega);have hrun:∃ e2,Lg (call AC (m+6)) e g=.norm e2 h6/\J 18 e2=ou6/\J 103 e2=AI AT ((i+1:Nat):Int)/\∀ j,j=0\/j=1\/j=2\/j=9\/j=11\/j=17\/j=102->J j e2=J j e:=by
    unfold Lg;simp only[sT,By,BY,reduceIte,AK,AJ,Pc,SN,c1,Ca,t17,Cr,AV,A3,zU,ABE,k1c,Be,Bd,zg,A1,AM,AP,t9,lb,Ax,Al,AH,AN,If,l4,qs];rw[ck _ _ _ (by simp[AG]) (by simp[AG,t9])];simp only[sT,By,BY,reduceIte];rw[k3 _ _ _ _ (by simp[AG]) (by simp[AG])];simp only[sT,By,BY,reduceIte,Ax,Al,AH,AN,If];rw[k4 _ _ _ _ (by simp[AG]) (by simp[AG])];simp only[sT,By,BY,reduceIte,cA0,t11,k5,is,BN,t18,k6,Pc,BM,a3];refine⟨_,rfl,by simp[AG],by simp[AG],fun j hj=>?_⟩;rcases hj with rfl|rfl|rfl|rfl|rfl|rfl|rfl<;>simp only[AG,By,BY,reduceIte]
   obtain⟨e2,r1,r2,r3,r4⟩:=hrun;have kp6:∀ b el L,¬ AGA ou b->h4.Row b el L->h6.Row b el L:=fun b el L hb r=>(f6 b el L hb r).1
   refine⟨e2,h6,fv3,ou6,r1,⟨x6,kp6 _ _ _ (os4.nb AIm (by omega)) AIm,kp6 _ _ _ (os4.nb rb4 (by omega)) rb4,?_,fun k hk=>⟨(ok4 k hk).1.keep fun b el L hb he r=>kp6 b el L (os4.nb r (by omega)) r,(ok4 k hk).2⟩,?_,?_,?_,fun b=>⟨fun hb=>⟨fun h=>?_,((ap4 b).1 hb).2⟩,fun hb hm=>?_⟩,by have:=o2.le;omega⟩,r2,r3,r4⟩
   ·rcases ko4 with h1'|⟨b,h1',h2',h3',h4'⟩
    ·exact .inl h1'
    ·exact .inr ⟨b,h1',kp6 b _ _ (os4.nb h2' (by omega)) h2',h3',h4'⟩
   ·rw[Iy,hc,if_neg (by decide),Hg]
    rcases fs4 with h1'|⟨b,h1',h2',h3',h4'⟩
    ·exact .inl h1'
    ·exact .inr ⟨b,h1',kp6 b _ _ ((ap4 b).1 ⟨0,_,_,h1'⟩).1 h2',h3',h4'⟩
   ·rw[K6,hc,if_neg (by decide),if_pos him,Hg];exact os6
   ·rcases ms4 with h1'|⟨b,h1',h2',h3',h4'⟩
    ·exact .inl h1'
    ·exact .inr ⟨b,h1',kp6 b _ _ (fun hb=>(ap4 b).2 hb ⟨0,_,_,h1'⟩) h2',h3',h4'⟩
   ·exact(f6 b _ _ ((ap4 b).1 hb).1 (fs4.rw_ hb)).2 h
   ·exact(f6 b _ _ (fun ho=>(ap4 b).2 ho hm) (ms4.rw_ hm)).2 hb
  ·rw[decide_eq_false him]at k5
   have a3:=Cc (i:=i) (h:=h4) (by omega);have hrun:∃ e2,Lg (call AC (m+6)) e g=.norm e2 h4/\J 18 e2=ou/\J 103 e2=AI AT ((i+1:Nat):Int)/\∀ j,j=0\/j=1\/j=2\/j=9\/j=11\/j=17\/j=102->J j e2=J j e:=by
    unfold Lg;simp only[sT,By,BY,reduceIte,AK,AJ,Pc,SN,c1,Ca,t17,Cr,AV,A3,zU,ABE,k1c,Be,Bd,zg,A1,AM,AP,t9,lb,Ax,Al,AH,AN,If,l4,qs];rw[ck _ _ _ (by simp[AG]) (by simp[AG,t9])];simp only[sT,By,BY,reduceIte];rw[k3 _ _ _ _ (by simp[AG]) (by simp[AG])];simp only[sT,By,BY,reduceIte,Ax,Al,AH,AN,If];rw[k4 _ _ _ _ (by simp[AG]) (by simp[AG])];simp only[sT,By,BY,reduceIte,cA0,t11,k5,Pc,BM,a3];refine⟨_,rfl,by simp[AG,t18],by simp[AG],fun j hj=>?_⟩;rcases hj with rfl|rfl|rfl|rfl|rfl|rfl|rfl<;>simp only[AG,By,BY,reduceIte]
   obtain⟨e2,r1,r2,r3,r4⟩:=hrun;refine⟨e2,h4,fv3,ou,r1,⟨x4,AIm,rb4,ko4,ok4,?_,?_,ms4,ap4,by have:=o2.le;omega⟩,r2,r3,r4⟩
   ·rw[Iy,hc,if_neg (by decide),Hg];exact fs4
   ·rw[K6,hc,if_neg (by decide),if_neg him,yw];exact os4
end
end
noncomputable section
open Go
set_option maxRecDepth 100000
theorem tu:SP.zero=[.pointer none,.pointer none,AI AT 0,.slice none 0 0,.slice none 0 0,AI AT 0,.bool false]:=by kernel_rfl
theorem lJ:Bt .mt 0 [.pointer none]=some yD:=by kernel_rfl
section
variable {F:AFi}{e:Env}{h:Hp}{n:Nat}
theorem ee{g1 g2 g3:O}{a b:Nat}(h1:g1 e=pt a)(h2:g2 e=pt b)(h3:g3 e=AI AT 100):BK SP.zero [(0,1,g1),(1,1,g2),(2,1,g3)] F e h=.ok (.agg ⟨slL a b AFn AFn 0 false⟩) h:=by
 rw[CS,tu,Af (hk:=by rw[h1];rfl),h1,Af (hk:=by rw[h2];rfl),h2,Af (hk:=by rw[h3];rfl),h3];simp only[show ∀ a,cellsOf (pt a)=[pt a]from fun _=>rfl,Ch,zh,yh,zS,over,ACw,ACo,ABN,zU,AAl,IS,AA5,if_true,Bs,reduceIte];rfl
theorem yK{n:Nat}(hn:n<=1000000):Sx .i64 (AI AT (n:Int)) (AI AT 3) h=.ok (AI AT ((n/3:Nat):Int)) h:=by
 have:((n:Nat):Int).tdiv 3=((n/3:Nat):Int):=rfl;rw[Lp (by omega),this,Bf (by omega)]
end
end
noncomputable section
open Go
set_option maxRecDepth 100000
theorem WS:Hz.k=.ptr 121:=by kernel_rfl
theorem WT:Tu.k=.slice 3:=by kernel_rfl
theorem Tt:Oc.k=.slice 123:=by kernel_rfl
def AF8(T:List Nat)(a b c:Int)(s:Nat)(l:List Nat):List Nat:=Eg T (Lb (CN a.toNat b.toNat c.toNat s l.length (CE T l)))
theorem EL{a b c:Int}{s n:Nat}(h:AFx a b c s n=true):0<=a/\a<=1099511627776/\0<=b/\b<255/\1<=c/\c<=1099511627776/\(s=1\/s=2)/\n<=65536:=of_decide_eq_true h
theorem GY{T:List Nat}{a b c:Int}{s:Nat}{l:List Nat}(h:AFx a b c s l.length=true):(AF8 T a b c s l).length=64:=by
 obtain⟨h1,h2,h3,h4,h5,h6,h7,h8⟩:=EL h;unfold AF8 Lb;rw[IU,M7];have:=ON (a:=a.toNat) (b:=b.toNat) (c:=c.toNat) (s:=s) (m:=l.length) (t:=CE T l) (by omega) (by omega) (by omega) (by omega) h8 (IX T l);omega
theorem Mg{T:List Nat}{a b c:Int}{s:Nat}{l:List Nat}:∀ x∈AF8 T a b c s l,x<256:=Rx (V7 Od)
theorem P7{l:List Nat}(h:l.length=64):C4 l 0=l:=by
 unfold C4;rw[Nat.mul_zero,zr,AAo (by omega),h];exact yw l
def KG(p:Nat)(l:List Nat):List AGY:=(zu ((l.length+63)/64)).map (fun j=>AGY.w (p*3+1+j) (C4 l j))++[.f]
def GK(p:Nat)(H:List Nat):List AGY:=[.w (p*3) H,.f]
theorem NH:∀ (ds:List AGY) (M:List Nat) (cs:List (Nat×List Nat)),(Gg M cs (ds++[.f])).2=[]
 |[],M,cs=>rfl
 |.w i l::ds,M,cs=>NH ds _ _
 |.f::ds,M,cs=>NH ds _ _
theorem js{n p:Nat}{l:List Nat}(hp:3*p+3<=n)(hl:1<=l.length/\l.length<=100)(hb:∀ x∈l,x<256){H:List Nat}(hH:H.length=64)(hHb:∀ x∈H,x<256):FN n [] (KG p l++GK p H):=by
 have hk:(l.length+63)/64=1\/(l.length+63)/64=2:=by omega
 unfold KG GK;rcases hk with hk|hk<;>rw[hk]
 ·exact⟨fun x hx=>(by cases hx),by show p*3+1+0<n;omega,Cs _ _,MQ hb _,by simp,by simp,fun x hx=>(by cases hx),by omega,hH,hHb,by simp,by simp,trivial⟩
 ·refine⟨fun x hx=>(by cases hx),by show p*3+1+0<n;omega,Cs _ _,MQ hb _,fun x hx=>?_,by show p*3+1+1<n;omega,Cs _ _,MQ hb _,by simp,by simp,fun x hx=>(by cases hx),by omega,hH,hHb,by simp,by simp,trivial⟩
  have:=zB.1 hx;rw[this];show p*3+1+0≠p*3+1+1;omega
theorem Vv{n p:Nat}(hp:3*p+3<=n){H:List Nat}(hH:H.length=64)(hHb:∀ x∈H,x<256):FN n [] (GK p H):=⟨fun x hx=>(by cases hx),by omega,hH,hHb,by simp,by simp,trivial⟩
def D5(T M:List Nat)(p:Nat)(l H:List Nat):List Nat:=(Gg M [] (KG p l++GK p H)).1
def HI(M:List Nat)(p:Nat)(H:List Nat):List Nat:=(Gg M [] (GK p H)).1
section
variable {F:AFi}{e:Env}{h h' h0:Hp}{S:Nat->Prop}{A:At}{T M:List Nat}{c0 bad m k p:Nat}{arm:Int}{ks:List Kt}{fr:List Nat}{v lv fv:IN}{ov:Bool}
theorem NU(R:h.Row A.bs 0 (slL A.bd A.tb lv fv bad false)):call AC (m+1) 92 [pt A.bs] h=.ok (AI AT 0) h:=by
 obtain⟨l0,_,_,_,_,_,l6⟩:=BG R;have n1:∀ e:Env,J 0 e=pt A.bs->oEq Hz.k false (J 0) (kV (.pointer none)) (call AC m) e h=.ok (.bool false) h:=fun e he=>Gz WS he
 have n2:∀ e:Env,J 10 e=pt A.bd->oEq Yo.k false (J 10) (kV (.pointer none)) (call AC m) e h=.ok (.bool false) h:=fun e he=>Gz mW he
 rw[qE rfl];unfold d92;simp only[iN,IS,sT,By,BY,reduceIte,gD,n1,Ax,Al,AH,AN,If,AM,AP,l0,n2,l6,lV0]
theorem qM{n:Nat}{h:Hp}(W:h.Wf){u:IN}{xs:List IN}(V:h.AF5 u xs)(ha:Bc xs=true)(hl:xs.length<=1000000):
  ∃ h' v,call AC (n+1) 102 [u] h=.ok v h'/\h.Ext h'/\h'.WI (fun b=>h.next<=b) v xs:=by
 rcases V with ⟨rfl,rfl⟩|⟨b,off,c,el,L,h1,h2,h3,h4⟩
 ·have ne:∀ e:Env,J 0 e=.slice none 0 0->oEq Tu.k false (J 0) (kV (.slice none 0 0)) (call AC n) e h=.ok (.bool true) h:=fun e he=>Jo (t:=0) WT he
  refine⟨h,AFn,?_,.refl W,.inl ⟨rfl,rfl⟩⟩;rw[H7 rfl];unfold On;simp only[iN,IS,sT,By,BY,reduceIte,ne,lV0]
 ·have V:h.AF5 u xs:=.inr ⟨b,off,c,el,L,h1,h2,h3,h4⟩
  have x1:=(Hp.Ext.refl W).AFh 0 [];have R:=Hp.Row.new W 0 [];have es:=fun (e:Env) (t:List IN)=>Kg (F:=call AC n) (e:=e) (t:=t) W
  have n1:(h.AFh 0 []).next=h.next+1:=rfl;generalize h.AFh 0 []=g at x1 R es n1;have ne:∀ e:Env,J 0 e=u->oEq Tu.k false (J 0) (kV (.slice none 0 0)) (call AC n) e h=.ok (.bool false) h:=fun e he=>Jn (t:=0) WT (he.trans h1)
  have V1:=V.ext W x1;have big:=W.big;rcases za xs.length with hz|hz
  ·obtain rfl:xs=[]:=zc hz
   have ap:DU 1 8 3 (.slice (some ⟨h.next,0,none⟩) 0 0) u g=.ok (.slice (some ⟨h.next,0,none⟩) 0 0) (g.wr h.next 0 []):=Hr x1.wf big R (fun k=>V1.src rfl k) V1.lenV;have R2:=R.AFu x1.wf (off:=0) (vs:=[]) (IT _);refine⟨_,.slice (some ⟨h.next,0,none⟩) 0 0,?_,R.AGE x1 (IT _) (off:=0) (vs:=[]) (IT _),.inr ⟨h.next,0,rfl,R2,.inr rfl,IT _⟩⟩;rw[H7 rfl];unfold On;simp only[iN,IS,sT,By,BY,reduceIte,ne,es,BN,ap,lV0]
  ·obtain⟨h2,a1,a2,a3,a4,a5⟩:=Ep (eb:=8) (en:=3) x1 R (es:=1) (fun k=>V1.src rfl k) V1.lenV (by omega) hz ha (by omega)
   refine⟨h2,_,?_,a2,.inr ⟨g.next,3+1,rfl,a3,.inl rfl,by omega⟩⟩;rw[H7 rfl];unfold On;simp only[iN,IS,sT,By,BY,reduceIte,ne,es,BN,a1,lV0]
theorem Sr(W:h.Wf)(K:h.KS S v ks)(hu:∀ k∈ks,oneCell k.u=true)(h0:ks=[]->v=.slice none 0 0)(hl:ks.length<=10000):
  ∃ h' w,call AC (m+1) 103 [v] h=.ok w h'/\h.Ext h'/\h'.KO h.next w ks:=by
 rcases K with ⟨rfl,rfl⟩|⟨b,c,el,L,h1,hcc,h2,hL,ht,hel,h3⟩
 ·have ne:∀ e:Env,J 0 e=.slice none 0 0->oEq Oc.k false (J 0) (kV (.slice none 0 0)) (call AC m) e h=.ok (.bool true) h:=fun e he=>Jo (t:=0) Tt he
  refine⟨h,AFn,?_,.refl W,.inl ⟨rfl,rfl⟩⟩;rw[Om rfl];unfold Xe;simp only[iN,IS,sT,By,BY,reduceIte,ne,lV0]
 ·have hpos:0<ks.length:=by
   rcases za ks.length with hz|hz
   ·have:=h0 (zc hz)
    rw[this]at h1;cases h1
   ·exact hz
  have x1:=(Hp.Ext.refl W).AFh 0 [];have R:=Hp.Row.new W 0 [];have es:=fun (e:Env) (t:List IN)=>Kg (F:=call AC m) (e:=e) (t:=t) W
  have n1:(h.AFh 0 []).next=h.next+1:=rfl;generalize h.AFh 0 []=g at x1 R es n1;have ne:∀ e:Env,J 0 e=v->oEq Oc.k false (J 0) (kV (.slice none 0 0)) (call AC m) e h=.ok (.bool false) h:=fun e he=>Jn (t:=0) Tt (he.trans h1)
  have R1:=h2.ext W x1;have ha:Bc (flK ks)=true:=by
   clear h1 h2 R1 hl hpos h0 hcc hL ht
   induction ks with
   |nil=>rfl
   |cons k l ih=>
    refine PR fun x hx=>?_
    obtain⟨y,hy,hxy⟩:=List.mem_flatMap.1 hx;have huy:=hu y hy;have hxy:x∈[zd .i64 y.a,AI AT y.b,AI AT y.c,.int .u8 (y.s:Int),y.u,AI AT (y.p:Int)]:=hxy;simp only[yv,List.mem_nil_iff,or_false]at hxy;rcases hxy with rfl|rfl|rfl|rfl|rfl|rfl
    all_goals first|exact huy|rfl
  have big:=W.big;obtain⟨h2',a1,a2,a3,a4,a5⟩:=Ep (eb:=64) (en:=123) (u:=v) (cs:=flK ks) (n:=ks.length) x1 R (es:=6) (fun K=>by
   have e1:=R1.AHh (es:=6) (off:=0) (n:=ks.length) (sl:=ks.length) (c:=c) (k:=K) (by omega);rw[h1,e1,zr,AAP ks.length 6,ht]) (by rw[h1];rfl) (by rw[Cd];omega) hpos ha (by omega)
  refine⟨h2',_,?_,a2,.inr ⟨g.next,rfl,a3,by omega,by omega⟩⟩;rw[Om rfl];unfold Xe;simp only[iN,IS,sT,By,BY,reduceIte,ne,es,BN,a1,lV0]
def Hp.KN(h:Hp)(k:Nat)(v:IN)(ks:List Kt):Prop:=h.KO k v ks\/(ks=[]/\∃ b,v=.slice (some ⟨b,0,none⟩) 0 0/\h.Row b 0 []/\k<=b/\256<=b)
theorem Ua(W:h.Wf)(K:h.KS S v ks)(hu:∀ k∈ks,oneCell k.u=true)(hl:ks.length<=10000):
  ∃ h' w,call AC (m+1) 103 [v] h=.ok w h'/\h.Ext h'/\h'.KN h.next w ks:=by
 have K0:=K;rcases K with ⟨rfl,rfl⟩|⟨b,c,el,L,h1,hcc,h2,hL,ht,hel,h3⟩
 ·obtain⟨h',w,a,b,c⟩:=Sr (m:=m) W K0 hu (fun _=>rfl) hl
  exact⟨h',w,a,b,.inl c⟩
 ·rcases za ks.length with hz|hz
  ·obtain rfl:ks=[]:=zc hz
   have x1:=(Hp.Ext.refl W).AFh 0 [];have R:=Hp.Row.new W 0 [];have es:=fun (e:Env) (t:List IN)=>Kg (F:=call AC m) (e:=e) (t:=t) W
   generalize h.AFh 0 []=g at x1 R es;have ne:∀ e:Env,J 0 e=v->oEq Oc.k false (J 0) (kV (.slice none 0 0)) (call AC m) e h=.ok (.bool false) h:=fun e he=>Jn (t:=0) Tt (he.trans h1)
   have R1:=h2.ext W x1;have ap:DU 6 64 123 (.slice (some ⟨h.next,0,none⟩) 0 0) v g=.ok (.slice (some ⟨h.next,0,none⟩) 0 0) (g.wr h.next 0 []):=Hr x1.wf W.big R (fun K=>by
    have e1:=R1.AHh (es:=6) (off:=0) (n:=0) (sl:=0) (c:=c) (k:=K) (by omega);rw[h1];exact e1) (by rw[h1];rfl)
   have R2:=R.AFu x1.wf (off:=0) (vs:=[]) (IT _);refine⟨_,.slice (some ⟨h.next,0,none⟩) 0 0,?_,R.AGE x1 (IT _) (off:=0) (vs:=[]) (IT _),.inr ⟨rfl,h.next,rfl,R2,IT _,W.big⟩⟩;rw[Om rfl];unfold Xe;simp only[iN,IS,sT,By,BY,reduceIte,ne,es,BN,ap,lV0]
  ·obtain⟨h',w,a,b,c⟩:=Sr (m:=m) W K0 hu (fun h=>by rw[h]at hz;exact absurd hz (Nat.lt_irrefl 0)) hl
   exact⟨h',w,a,b,.inl c⟩
theorem fq{xs:List IN}{z:IN}(o:h.WI S v (z::xs)):∃ w,h.AF5 w xs/\∀ (F:AFi) (e:Env) (x:O),x e=v->EJ 3 1 x (some (kV (AI AT 1))) none none F e h=.ok w h:=by
 rcases o with ⟨_,h2⟩|⟨b,el,hv,Rb,hel,_⟩
 ·cases h2
 ·have hl:(z::xs).length=xs.length+1:=rfl
  have key:∀ (F:AFi) (e:Env) (x:O),x e=v->EJ 3 1 x (some (kV (AI AT 1))) none none F e h=Br (some ⟨b,0,none⟩) 1 1 (xs.length+1) (xs.length+1) h:=fun F e x hx=>by
   show(match x e with|.slice a n c=>Dh e n c (some (kV (AI AT 1))) none none (fun l hh m=>ET 3 1 a false l hh m h)|_=>.no)=_;rw[hx,hv,hl];show(bif Nat.ble 1 (xs.length+1)then ET 3 1 (some ⟨b,0,none⟩) false 1 (xs.length+1) (xs.length+1) h else .no)=_;rw[Av.2 (show 1<=xs.length+1 by omega)];show(bif E5 3 (some ⟨b,0,none⟩) h then Br (some ⟨b,0,none⟩) 1 1 (xs.length+1) (xs.length+1) h else .no)=_;have:E5 3 (some ⟨b,0,none⟩) h=true:=by
    obtain⟨cc,hcc,_⟩:=Rb.rowOf;unfold E5;simp only[hcc];rcases hel with rfl|rfl<;>rfl
   rw[this];rfl
  cases xs with
  |nil=>
   refine⟨.slice (some ⟨b,0,none⟩) 0 0,.inr ⟨b,0,0,el,_,rfl,Rb,zL _,rfl⟩,fun F e x hx=>?_⟩;rw[key F e x hx];rfl
  |cons y ys=>
   refine⟨.slice (some ⟨b,1,none⟩) (ys.length+1) (ys.length+1),.inr ⟨b,1,ys.length+1,el,_,rfl,Rb,?_,?_⟩,fun F e x hx=>?_⟩
   ·show 1+(ys.length+1)<=ys.length+1+1
    omega
   ·show((z::y::ys).drop 1).take (y::ys).length=y::ys
    exact AAF
   ·rw[key F e x hx]
    show Br (some ⟨b,0,none⟩) 1 1 (ys.length+1+1) (ys.length+1+1) h=_;unfold Br;simp only[Ao];have e1:Nat.beq (ys.length+1+1) 1=false:=rfl;have e2:Nat.sub (ys.length+1+1) 1=ys.length+1:=rfl;simp only[e1,e2]
theorem P5{g1 g2 g3 g5:O}{a b c:Int}{u:IN}(h1:g1 e=AI AT a)(h2:g2 e=AI AT b)(h3:g3 e=AI AT c)(h5:g5 e=u)(hc:cellsOf u=[u])(hk:known u=true):
  BK Ia.zero [(0,1,g1),(1,1,g2),(2,1,g3),(3,1,kV (.int .u8 1)),(4,1,g5)] F e h=.ok (Bu a b c 1 u) h:=by
 rw[CS,Ty,Af (hk:=by rw[h1];rfl),h1,Af (hk:=by rw[h2];rfl),h2,Af (hk:=by rw[h3];rfl),h3,Af,Af (hk:=by rw[h5];exact hk),h5,hc];simp only[Fd,Ch,zh,yh,zS,A8,over,ACw,ACo,ABN,zU,AAl,IS,AA5,if_true,Bs,reduceIte];rfl
theorem Sl.bsx{ks':List Kt}{fr':List Nat}{lv' fv':IN}{AJj:Nat}{ov':Bool}(s:Sl h A T M c0 arm ks fr lv fv bad ov)(W:h.Wf)(x:Fx (fun b=>b=A.bs) h h')(row:h'.Row A.bs 0 (slL A.bd A.tb lv' fv' AJj ov'))(ls:h'.KS (fun b=>¬ A.D b) lv' ks')(ko:∀ k∈ks',AHy h' (fun b=>¬ A.D b) k)
  (fs:h'.WI (fun b=>¬ A.D b) fv' (ints .i64 (fr'.map zY)))(le:ks'.length<=1000/\fr'.length<=1000/\AJj<=1000/\∀ p∈fr',3*p+3<=A.n):Sl h' A T M c0 arm ks' fr' lv' fv' AJj ov':=
 ⟨row,s.dk.fr W x (fun h=>s.ne.1 h.symm) (fun h=>s.ne.2.1 h.symm) (fun h=>s.ne.2.2.1 h.symm),x.row W s.tab (fun h=>s.ne.2.2.2.1 (.inl h)),s.tok,ls,ko,fs,s.ne,le⟩
end
end
noncomputable section
open Go
set_option maxRecDepth 100000
theorem Ox:∀ (ks:List Kt) (j:Nat) (x:Kt),j<ks.length->over (flK ks) (6*j) (AZ x)=flK (ks.set j x)
 |[],j,x,h=>by cases h
 |k::ks,0,x,h=>by
  show over (AZ k++flK ks) 0 (AZ x)=AZ x++flK ks;exact M6 rfl
 |k::ks,j+1,x,h=>by
  have ih:=Ox ks j x (by simpa using h);show over (AZ k++flK ks) (6*(j+1)) (AZ x)=AZ k++flK (ks.set j x);rw[<- ih];unfold over;have e1:6*(j+1)=(AZ k).length+6*j:=by show _=6+_;omega
  have e2:6*(j+1)+(AZ x).length=(AZ k).length+(6*j+(AZ x).length):=by rw[e1];omega
  rw[e2,List.drop_length_add_append,e1,List.take_length_add_append,zC,zC,zC]
def I2(x:Kt):List Kt->List Kt
 |[]=>[x]
 |y::r=>if Ht x y<0 then y::I2 x r else x::y::r
def I4(A:List Kt)(x:Kt):List Kt:=(I2 x A.reverse).reverse
def srt:List Kt->List Kt->List Kt
 |A,[]=>A
 |A,x::B=>srt (I4 A x) B
theorem OA(x y:Kt)(r:List Kt):I2 x (y::r)=if Ht x y<0 then y::I2 x r else x::y::r:=rfl
theorem Qh(x:Kt):∀ l:List Kt,(I2 x l).length=l.length+1
 |[]=>rfl
 |y::r=>by
  unfold I2;split
  ·rw[yh,Qh x r,yh]
  ·rfl
theorem Ml(A:List Kt)(x:Kt):(I4 A x).length=A.length+1:=by
 unfold I4;rw[ABW,Qh,ABW]
theorem Qi{x z:Kt}:∀ {l:List Kt},z∈I2 x l↔z=x\/z∈l
 |[]=>by simp[I2]
 |y::r=>by
  unfold I2;split
  ·rw[yv,Qi,yv]
   constructor
   ·rintro (h|h|h)
    ·exact .inr (.inl h)
    ·exact .inl h
    ·exact .inr (.inr h)
   ·rintro (h|h|h)
    ·exact .inr (.inl h)
    ·exact .inl h
    ·exact .inr (.inr h)
  ·exact yv
theorem Qj{A:List Kt}{x z:Kt}:z∈I4 A x↔z=x\/z∈A:=by
 unfold I4;rw[ACa,Qi,ACa]
theorem OB{x:Kt}:∀ {R Q:List Kt},(∀ y∈R,Ht x y<0)->I2 x (R++Q)=R++I2 x Q
 |[],Q,_=>rfl
 |y::R,Q,h=>by
  rw[AAl,OA,if_pos (h y yk),OB fun z hz=>h z (yj _ hz)];rfl
theorem VW{x:Kt}{P Q:List Kt}(hQ:∀ y∈Q,Ht x y<0)(hP:P=[]\/∃ P' y,P=P'++[y]/\¬ Ht x y<0):I4 (P++Q) x=P++x::Q:=by
 unfold I4;rw[AAx,OB fun y hy=>hQ y (ACa.1 hy)];have e:I2 x P.reverse=x::P.reverse:=by
  rcases hP with rfl|⟨P',y,rfl,hy⟩
  ·rfl
  ·rw[AAx]
   show I2 x (y::P'.reverse)=_;unfold I2;rw[if_neg hy];rfl
 rw[e,AAx,ADz,ABM,ABM,zC];rfl
theorem J4{α:Type}{x y:α}:∀ {P R:List α},(P++x::R).set P.length y=P++y::R
 |[],R=>rfl
 |z::P,R=>by
  show z::(P++x::R).set P.length y=_;rw[J4];rfl
theorem OS{l Z vs:List IN}{o:Nat}(h:o+vs.length<=l.length):over (l++Z) o vs=over l o vs++Z:=by
 unfold over;rw[ACY (by omega),List.drop_append_of_le_length h,zC,zC,zC]
theorem GC{α:Type}{x:α}{P R:List α}:(P++x::R)[P.length]? =some x:=by
 rw[zI (IT _),Nat.sub_self];rfl
theorem Jq{α:Type}{x y:α}{P R:List α}:(P++y::x::R)[P.length+1]? =some x:=by
 rw[zI (by omega),show P.length+1 - P.length=1 by omega];rfl
section
variable {F:AFi}{e:Env}{h h':Hp}{S:Nat->Prop}{bl n c:Nat}{ks:List Kt}{Z:List IN}
theorem PX(R:h.Row bl 124 (flK ks++Z))(hn:n=ks.length)(hc:ks.length<=c):h.KS (fun b=>b=bl) (.slice (some ⟨bl,0,none⟩) n c) ks:=by
 subst hn;exact .inr ⟨bl,c,_,_,rfl,hc,R,by rw[No,Cd];omega,by rw[ACY (by rw[Cd];omega),<- Cd,AAF],.inl rfl,rfl⟩
theorem aY(W:h.Wf)(R:h.Row bl 124 (flK ks++Z))(AFs:256<=bl){j:Nat}(hj:j<ks.length){x:Kt}(hu:oneCell x.u=true):
  ∃ h',(∀ (F:AFi) (e:Env) (g g':O),g e=.pointer (some ⟨bl,6*j,none⟩)->g' e=ktV x->Ad .free (Ac 6 g g') F e h=.ok AFl h')/\Fx (fun b=>b=bl) h h'/\h'.Row bl 124 (flK (ks.set j x)++Z)/\h'.next=h.next/\h'.mark=h.mark:=by
 have Rq:h.quiet.Row bl 124 (flK ks++Z):=R.same rfl;have AJk:6*j+(AZ x).length<=(flK ks).length:=by rw[Cd];show 6*j+6<=_;omega
 have hoo:6*j+(AZ x).length<=(flK ks++Z).length:=by rw[No];omega
 have st:=Rq.AFr (n:=6) (off:=6 * j) (v:=ktV x) W.quiet AFs rfl hoo (Gq hu);have wr:=Rq.AFu W.quiet hoo;rw[OS AJk,Ox ks j x hj]at wr;have fx:=Fx.wr (S:=fun b=>b=bl) W.quiet Rq hoo rfl;have wn:=Rq.AGN hoo;have st:AFr 6 (.pointer (some ⟨bl,6 * j,none⟩)) (ktV x) h.quiet=.ok AFl (h.quiet.wr bl (6 * j) (AZ x)):=st;generalize h.quiet.wr bl (6 * j) (AZ x)=q at st wr fx wn;exact⟨h.back q,fun F e g g' e1 e2=>BO (by rw[AX,e1,e2];exact st),(fx.from (h:=h) rfl rfl).same rfl rfl,wr.same rfl,wn,rfl⟩
theorem TA:jnB=Xw:=rfl
theorem kT(W:h.Wf){P R:List Kt}{x y:Kt}(hks:ks=P++y::x::R)(Rw:h.Row bl 124 (flK ks++Z))(AFs:256<=bl)(hn:n=ks.length)(hc:ks.length<=c)(hl:ks.length<=100000)(ux:oneCell x.u=true)(uy:oneCell y.u=true)
  (s0:J 0 e=.slice (some ⟨bl,0,none⟩) n c)(s9:J 9 e=AI AT ((P.length+1:Nat):Int)):
  ∃ e' h',swB F e h=.norm e' h'/\Fx (fun b=>b=bl) h h'/\h'.Row bl 124 (flK (P++x::y::R)++Z)/\∀ j,j=0\/j=1\/j=2\/j=3\/j=8\/j=9->J j e'=J j e:=by
 have lk:ks.length=P.length+1+1+R.length:=by rw[hks,No,yh,yh];omega
 have K:=PX (Rw.same (h':=h.marked) rfl) hn hc;obtain⟨b,rfl,ix,ld,_⟩:=K.at (i:=P.length+1) (k:=x) (by rw[hks];exact Jq);obtain⟨b',hb',iy,ldy,_⟩:=K.at (i:=P.length) (k:=y) (by rw[hks];exact GC);have hb':b'=b:=hb';subst hb';have a1:Fv zX .i64 (AI AT ((P.length+1:Nat):Int)) (AI AT 1) h.marked=.ok (AI AT (P.length:Int)) h.marked:=by
  have:zX ((P.length+1:Nat):Int) 1=(P.length:Int):=by
   show((P.length+1:Nat):Int) - 1=_;omega
  rw[Cg,this,Bf (by omega)]
 obtain⟨h1,q1,f1,R1,n1,mk1⟩:=aY (j:=P.length+1) W.marked (Rw.same (h':=h.marked) rfl) AFs (by omega) uy;have e1:ks.set (P.length+1) y=P++y::y::R:=by
  rw[hks,show P++y::x::R=(P++[y])++x::R by simp,show P.length+1=(P++[y]).length by simp,J4];simp
 rw[e1]at R1;have ix1:AGa 6 (.slice (some ⟨b',0,none⟩) n c) (AI AT (P.length:Int)) h1=.ok (.pointer (some ⟨b',6*P.length,none⟩)) h1:=by
  have:=DB (h:=h1) (n:=n) (c:=c) (es:=6) (b:=b') (off:=0) (i:=P.length) (k:=.i64) (by omega)
  rwa [If,AAP]at this
 obtain⟨h2,q2,f2,R2,n2,mk2⟩:=aY (j:=P.length) f1.wf R1 AFs (by rw[No];simp) ux;rw[J4]at R2;have fm:Fx (fun b=>b=b') h h1:=f1.from (h:=h) rfl rfl;have hrun:∃ e',swB F e h=.norm e' h2/\∀ j,j=0\/j=1\/j=2\/j=3\/j=8\/j=9->J j e'=J j e:=by
  have q1':∀ (F:AFi) (e:Env),J 51 e=.pointer (some ⟨b',6*(P.length+1),none⟩)->J 46 e=ktV y->Ad .free (Ac 6 (J 51) (J 46)) F e h.marked=.ok AFl h1:=fun F e a b=>q1 F e _ _ a b
  have q2':∀ (F:AFi) (e:Env),J 52 e=.pointer (some ⟨b',6*P.length,none⟩)->J 50 e=ktV x->Ad .free (Ac 6 (J 52) (J 50)) F e h1=.ok AFl h2:=fun F e a b=>q2 F e _ _ a b
  unfold swB;simp only[sT,By,BY,reduceIte,A1,B3,s9,a1,BB,s0,iy,Au,Am,ldy,ix,ld,q1',ix1,q2'];refine⟨_,rfl,fun j hj=>?_⟩;rcases hj with rfl|rfl|rfl|rfl|rfl|rfl<;>simp only[AG,By,BY,reduceIte]
 obtain⟨e',r1,r2⟩:=hrun;exact⟨e',h2,r1,fm.trans f2,R2,r2⟩
end
end
noncomputable section
open Go
set_option maxRecDepth 100000
theorem WK{α:Type}(P:List α):P=[]\/∃ P' y,P=P'++[y]:=by
 rcases h:P.reverse with _|⟨y,r⟩
 ·exact .inl (List.reverse_eq_nil_iff.1 h)
 ·refine .inr ⟨r.reverse,y,?_⟩
  rw[<- ABM P,h,ADz]
section
variable {e:Env}{h h':Hp}{bl n c m:Nat}{ks:List Kt}{Z:List IN}
theorem aQ(W:h.Wf){A B:List Kt}{x:Kt}(Rw:h.Row bl 124 (flK (A++x::B)++Z))(AFs:256<=bl)(hn:n=(A++x::B).length)(hc:n<=c)(hl:n<=1000)(hu:∀ k∈A++x::B,oneCell k.u=true)
  (s0:J 0 e=.slice (some ⟨bl,0,none⟩) n c)(s1:J 1 e=AI AT 0)(s3:J 3 e=.func (.func 75) ⟨[]⟩ ⟨[]⟩)(s9:J 9 e=AI AT (A.length:Int)):
  ∃ e' h',A9 jnB (call AC (m+3)) e h=.exit 2 e' h'/\Fx (fun b=>b=bl) h h'/\h'.Row bl 124 (flK (I4 A x++B)++Z)/\∀ j,j=0\/j=1\/j=2\/j=3\/j=8->J j e'=J j e:=by
 have hln:(A++x::B).length=A.length+1+B.length:=by rw[No,yh];omega
 refine Bh (I:=fun i e' g=>∃ P Q,A=P++Q/\P.length+i=A.length/\Fx (fun b=>b=bl) h g/\g.Row bl 124 (flK (P++x::(Q++B))++Z)/\(∀ y∈Q,Ht x y<0)/\J 9 e'=AI AT (P.length:Int)/\∀ j,j=0\/j=1\/j=2\/j=3\/j=8->J j e'=J j e)
  (Q:=fun r=>∃ e' h',r=.exit 2 e' h'/\Fx (fun b=>b=bl) h h'/\h'.Row bl 124 (flK (I4 A x++B)++Z)/\∀ j,j=0\/j=1\/j=2\/j=3\/j=8->J j e'=J j e) (A.length+1) (by omega) (fun i e' g ⟨P,Q,hA,hP,fx,R,hQ,t9,ts⟩=>?_) ⟨A,[],by rw[yw],rfl,.refl W,Rw,fun y hy=>(by cases hy),s9,fun _ _=>rfl⟩
 have W':=fx.wf;have t0:=(ts 0 (by omega)).trans s0;have t1:=(ts 1 (by omega)).trans s1;have t3:=(ts 3 (by omega)).trans s3;rcases WK P with rfl|⟨P',y,rfl⟩
 ·right
  have c1:iGt ((([]:List Kt).length:Nat):Int) 0=false:=Fa (by decide);have hrun:∃ e2,jnB (call AC (m+3)) e' g=.exit 2 e2 g.marked/\∀ j,j=0\/j=1\/j=2\/j=3\/j=8->J j e2=J j e':=by
   rw[TA];unfold Xw;simp only[sT,By,BY,reduceIte,gD,A1,AK,AJ,t9,t1,c1];refine⟨_,rfl,fun j hj=>?_⟩;rcases hj with rfl|rfl|rfl|rfl|rfl<;>simp only[AG,By,BY,reduceIte]
  obtain⟨e2,r1,r2⟩:=hrun;rw[r1];refine⟨rfl,e2,_,rfl,fx.same rfl rfl,?_,fun j hj=>(r2 j hj).trans (ts j hj)⟩;have:=VW (x:=x) (P:=[]) (Q:=Q) hQ (.inl rfl);rw[hA,this];have e5:([]++x::Q)++B=[]++x::(Q++B):=rfl;rw[e5];exact R.same rfl
 ·have lP:(P'++[y]).length=P'.length+1:=by simp
  rw[lP]at hP t9;have lA:A.length=P'.length+1+Q.length:=by rw[hA,No,lP]
  have eR:(P'++[y])++x::(Q++B)=P'++y::x::(Q++B):=by simp
  rw[eR]at R;have lL:(P'++y::x::(Q++B)).length=n:=by
   rw[hn,hln,lA];simp only[No,yh];omega
  have ux:oneCell x.u=true:=hu x (zE _ yk);have uy:oneCell y.u=true:=hu y (zR _ (by rw[hA];exact zR _ (zE _ yk)));have K:=PX (n:=n) (c:=c) (R.same (h':=g.marked) rfl) lL.symm (by omega);obtain⟨b,hb,ix,ld,_⟩:=K.at (i:=P'.length+1) (k:=x) Jq;obtain⟨b',hb',iy,ldy,_⟩:=K.at (i:=P'.length) (k:=y) GC;have c1:iGt ((P'.length+1:Nat):Int) 0=true:=GZ (by omega);have a1:∀ g:Hp,Fv zX .i64 (AI AT ((P'.length+1:Nat):Int)) (AI AT 1) g=.ok (AI AT (P'.length:Int)) g:=fun g=>by
   have:zX ((P'.length+1:Nat):Int) 1=(P'.length:Int):=by
    show((P'.length+1:Nat):Int) - 1=_;omega
   rw[Cg,this,Bf (by omega)]
  obtain⟨h2,k2,x2⟩:=br (m:=m) W'.marked.quiet x y;have q2:∀ e:Env,J 22 e=.func (.func 75) ⟨[]⟩ ⟨[]⟩->J 26 e=ktV x->J 31 e=ktV y->Ad .free (EI (J 22) [J 26,J 31]) (call AC (m+3)) e g.marked=.ok (AI AT (Ht x y)) (g.marked.back h2):=fun e e1 e2 e3=>by
   refine BO ?_;rw[Ca,AV,AV,A3,e1,e2,e3];exact k2
  have y2:g.Ext (g.marked.back h2):=(Hp.Ext.refl W').marked.trans (.back x2);generalize g.marked.back h2=h3 at q2 y2;have R3:=R.ext W' y2;by_cases hc:Ht x y<0
  ·left
   have c2:iLt (Ht x y) 0=true:=Hd hc;have sw:∀ e2:Env,J 0 e2=.slice (some ⟨bl,0,none⟩) n c->J 9 e2=AI AT ((P'.length+1:Nat):Int)->∃ e3 h4,swB (call AC (m+3)) e2 h3=.norm e3 h4/\Fx (fun b=>b=bl) h3 h4/\h4.Row bl 124 (flK (P'++x::y::(Q++B))++Z)/\∀ j,j=0\/j=1\/j=2\/j=3\/j=8\/j=9->J j e3=J j e2:=fun e2 a b=>kT y2.wf rfl R3 AFs lL.symm (by omega) (by omega) ux uy a b
   have hrun:∃ e3 h4,jnB (call AC (m+3)) e' g=.norm e3 h4/\Fx (fun b=>b=bl) h3 h4/\h4.Row bl 124 (flK (P'++x::y::(Q++B))++Z)/\J 9 e3=AI AT (P'.length:Int)/\∀ j,j=0\/j=1\/j=2\/j=3\/j=8->J j e3=J j e':=by
    rw[TA];unfold Xw;simp only[sT,By,BY,reduceIte,gD,A1,AK,AJ,t9,t1,c1,t3,t0,BB,ix,Au,Am,ld,B3,a1,iy,ldy,q2,c2,BJ,Az];obtain⟨e3,h4,r1,f4,R4,r2⟩:=sw (Env.set 34 (.bool true) (Env.set 33 (.bool true) (Env.set 32 (AI AT (Ht x y)) (Env.set 31 (ktV y) (Env.set 30 (.pointer (some ⟨b',6*P'.length,none⟩)) (Env.set 29 (AI AT (P'.length:Int)) (Env.set 28 (AI AT ((P'.length+1:Nat):Int)) (Env.set 27 (.slice (some ⟨bl,0,none⟩) n c) (Env.set 26 (ktV x) (Env.set 25 (.pointer (some ⟨b,6*(P'.length+1),none⟩)) (Env.set 24 (AI AT ((P'.length+1:Nat):Int)) (Env.set 23 (.slice (some ⟨bl,0,none⟩) n c) (Env.set 22 (.func (.func 75) ⟨[]⟩ ⟨[]⟩) (Env.set 20 (.bool true) e')))))))))))))) (by simp[AG,t0]) (by simp[AG,t9]);have u9:J 9 e3=AI AT ((P'.length+1:Nat):Int):=(r2 9 (by omega)).trans (by simp[AG,t9]);rw[r1];simp only[CT,BA,sT,By,BY,reduceIte,B3,u9,a1];refine⟨_,_,rfl,f4,R4,by simp[AG],fun j hj=>?_⟩;have:=r2 j (by omega);rcases hj with rfl|rfl|rfl|rfl|rfl<;>simp only[AG,By,BY,reduceIte]at this ⊢<;>exact this
   obtain⟨e3,h4,r1,f4,R4,r9,r2⟩:=hrun;refine⟨by omega,e3,h4,r1,P',y::Q,by rw[hA];simp,by omega,(fx.trans (.of y2)).trans f4,R4,fun z hz=>?_,r9,fun j hj=>(r2 j hj).trans (ts j hj)⟩;rcases yv.1 hz with rfl|hz
   ·exact hc
   ·exact hQ z hz
  ·right
   have c2:iLt (Ht x y) 0=false:=Fb (by omega);have hrun:∃ e3,jnB (call AC (m+3)) e' g=.exit 2 e3 h3/\∀ j,j=0\/j=1\/j=2\/j=3\/j=8->J j e3=J j e':=by
    rw[TA];unfold Xw;simp only[sT,By,BY,reduceIte,gD,A1,AK,AJ,t9,t1,c1,t3,t0,BB,ix,Au,Am,ld,B3,a1,iy,ldy,q2,c2];refine⟨_,rfl,fun j hj=>?_⟩;rcases hj with rfl|rfl|rfl|rfl|rfl<;>simp only[AG,By,BY,reduceIte]
   obtain⟨e3,r1,r2⟩:=hrun;rw[r1];refine⟨rfl,e3,h3,rfl,fx.trans (.of y2),?_,fun j hj=>(r2 j hj).trans (ts j hj)⟩;rw[hA,VW hQ (.inr ⟨P',y,rfl,hc⟩),zC,zC];exact R3
theorem bu(W:h.Wf){ks:List Kt}(Rw:h.Row bl 124 (flK ks++Z))(AFs:256<=bl)(hn:n=ks.length)(hc:n<=c)(hl:n<=1000)(hu:∀ k∈ks,oneCell k.u=true):
  ∃ h',call AC (m+4) 136 [.slice (some ⟨bl,0,none⟩) n c,AI AT 0,AI AT (n:Int),.func (.func 75) ⟨[]⟩ ⟨[]⟩] h=.ok AFl h'/\Fx (fun b=>b=bl) h h'/\h'.Row bl 124 (flK (srt (ks.take 1) (ks.drop 1))++Z):=by
 have run:∀ e1:Env,J 0 e1=.slice (some ⟨bl,0,none⟩) n c->J 1 e1=AI AT 0->J 2 e1=AI AT (n:Int)->J 3 e1=.func (.func 75) ⟨[]⟩ ⟨[]⟩->J 8 e1=AI AT ((1:Nat):Int)->∃ e' h',A9 jsB (call AC (m+3)) e1 h=.exit 0 e' h'/\Fx (fun b=>b=bl) h h'/\h'.Row bl 124 (flK (srt (ks.take 1) (ks.drop 1))++Z):=fun e1 s0 s1 s2 s3 s8=>by
  refine Bh (I:=fun i e' g=>∃ A B,A.length+B.length=ks.length/\(A.length=i+1\/(B=[]/\A.length<=i+1))/\srt A B=srt (ks.take 1) (ks.drop 1)/\(∀ k∈A++B,oneCell k.u=true)/\Fx (fun b=>b=bl) h g/\g.Row bl 124 (flK (A++B)++Z)/\J 0 e'=.slice (some ⟨bl,0,none⟩) n c/\J 1 e'=AI AT 0/\J 2 e'=AI AT (n:Int)/\J 3 e'=.func (.func 75) ⟨[]⟩ ⟨[]⟩/\J 8 e'=AI AT ((i+1:Nat):Int))
   (Q:=fun x=>∃ e' h',x=.exit 0 e' h'/\Fx (fun b=>b=bl) h h'/\h'.Row bl 124 (flK (srt (ks.take 1) (ks.drop 1))++Z)) n (by omega) (fun i e' g ⟨A,B,hAB,hAi,hsr,hu',fx,R,t0,t1,t2,t3,t8⟩=>?_) ⟨ks.take 1,ks.drop 1,by rw[zJ,List.length_drop];omega,?_,rfl,by rw[AAY];exact hu,.refl W,by rw[AAY];exact Rw,s0,s1,s2,s3,s8⟩
  ·have W':=fx.wf
   cases B with
   |nil=>
    right;have hA:A.length=n:=by simp only[zS]at hAB;omega
    have c1:iLt ((i+1:Nat):Int) (n:Int)=false:=DJ (by omega);have hrun:∃ e3,jsB (call AC (m+3)) e' g=.exit 0 e3 g:=by
     rw[PF];unfold Xx;simp only[sT,By,BY,reduceIte,AK,AJ,t8,t2,c1];exact⟨_,rfl⟩
    obtain⟨e3,r1⟩:=hrun;rw[r1];refine⟨rfl,e3,g,rfl,fx,?_⟩;rw[<- hsr];rw[yw]at R;exact R
   |cons x B=>
    left;rw[yh]at hAB;have hA:A.length=i+1:=by
     rcases hAi with h1|⟨h1,_⟩
     ·exact h1
     ·cases h1
    have c1:iLt ((i+1:Nat):Int) (n:Int)=true:=E9 (by omega);obtain⟨e2,h2,i1,f2,R2,i2⟩:=aQ (m:=m) (e:=Env.set 9 (AI AT ((i+1:Nat):Int)) (Env.set 14 (.bool true) e')) W' R AFs (by rw[No,yh];omega) hc hl hu' (by simp[AG,t0]) (by simp[AG,t1]) (by simp[AG,t3]) (by simp only[AG,By,BY,reduceIte,hA]);have g0:=i2 0 (by omega);have g1:=i2 1 (by omega);have g2:=i2 2 (by omega);have g3:=i2 3 (by omega);have g8:=i2 8 (by omega);simp only[AG,By,BY,reduceIte,t0]at g0;simp only[AG,By,BY,reduceIte,t1]at g1;simp only[AG,By,BY,reduceIte,t2]at g2;simp only[AG,By,BY,reduceIte,t3]at g3;simp only[AG,By,BY,reduceIte,t8]at g8;have a3:Ez .i64 (AI AT ((i+1:Nat):Int)) (AI AT 1) h2=.ok (AI AT ((i+1+1:Nat):Int)) h2:=Cc (by omega);have hrun:∃ e3,jsB (call AC (m+3)) e' g=.norm e3 h2/\J 0 e3=.slice (some ⟨bl,0,none⟩) n c/\J 1 e3=AI AT 0/\J 2 e3=AI AT (n:Int)/\J 3 e3=.func (.func 75) ⟨[]⟩ ⟨[]⟩/\J 8 e3=AI AT ((i+1+1:Nat):Int):=by
     rw[PF];unfold Xx;simp only[sT,By,BY,reduceIte,AK,AJ,t8,t2,c1,i1,g8,BM,a3];exact⟨_,rfl,by simp[AG,g0,g1,g2,g3]⟩
    obtain⟨e3,r1,r2,r3,r4,r5,r6⟩:=hrun;refine⟨by omega,e3,h2,r1,I4 A x,B,by rw[Ml];omega,.inl (by rw[Ml];omega),hsr,fun k hk=>?_,fx.trans f2,R2,r2,r3,r4,r5,r6⟩;rcases zK.1 hk with h1|h1
    ·rcases Qj.1 h1 with rfl|h1
     ·exact hu' _ (zE _ yk)
     ·exact hu' k (zR _ h1)
    ·exact hu' k (zE _ (yj _ h1))
  ·cases ks with
   |nil=>exact .inr ⟨rfl,zL _⟩
   |cons k ks=>exact .inl rfl
 have a1:Ez .i64 (AI AT 0) (AI AT 1) h=.ok (AI AT ((1:Nat):Int)) h:=Cc (i:=0) (by omega);obtain⟨e2,h2,r1,x2⟩:=run (Env.set 8 (AI AT ((1:Nat):Int)) (Env.set 11 (AI AT ((1:Nat):Int)) (AS e0 0 [.slice (some ⟨bl,0,none⟩) n c,AI AT 0,AI AT (n:Int),.func (.func 75) ⟨[]⟩ ⟨[]⟩]))) (by simp only[iN,IS,AG,By,BY,reduceIte]) (by simp only[iN,IS,AG,By,BY,reduceIte]) (by simp only[iN,IS,AG,By,BY,reduceIte]) (by simp only[iN,IS,AG,By,BY,reduceIte]) (by simp[AG]);simp only[iN,IS]at r1;refine⟨h2,?_,x2⟩;rw[UX rfl,Uq];unfold Ur;simp only[iN,IS,sT,By,BY,reduceIte,BM,a1,r1,EH,D6]
def EN(ks:List Kt):List Kt:=srt (ks.take 1) (ks.drop 1)
theorem SJ(W:h.Wf){ks:List Kt}(Rw:h.Row bl 124 (flK ks++Z))(AFs:256<=bl)(hn:n=ks.length)(hc:n<=c)(hl:n<=12)(hu:∀ k∈ks,oneCell k.u=true):
  ∃ h',call AC (m+6) 74 [.slice (some ⟨bl,0,none⟩) n c,.func (.func 75) ⟨[]⟩ ⟨[]⟩] h=.ok AFl h'/\Fx (fun b=>b=bl) h h'/\h'.Row bl 124 (flK (EN ks)++Z):=by
 obtain⟨h2,k2,x2,R2⟩:=bu (m:=m) W Rw AFs hn hc (by omega) hu;obtain⟨k,kb⟩:=Oj (m:=m+3) (h:=h) (n:=n) (by omega);have cv:Di .u64 (AI AT (n:Int)) h=.ok (.int .u64 (n:Int)) h:=by rw[Cw,Ee (by omega)]
 have a1:Fv zX .i64 (AI AT (n:Int)) (AI AT 0) h=.ok (AI AT (n:Int)) h:=by
  have:zX (n:Int) 0=(n:Int):=Int.sub_zero _;rw[Cg,this,Bf (by omega)]
 have c1:iLe (n:Int) 12=true:=Hc (by omega);have pd:call AC (m+5) 114 [.slice (some ⟨bl,0,none⟩) n c,AI AT 0,AI AT (n:Int),AI AT (k:Int),.func (.func 75) ⟨[]⟩ ⟨[]⟩] h=.ok AFl h2:=by
  have hb:∃ e2,pdB (call AC (m+4)) (Env.set 11 (.bool true) (Env.set 10 (.bool true) (AS e0 0 [.slice (some ⟨bl,0,none⟩) n c,AI AT 0,AI AT (n:Int),AI AT (k:Int),.func (.func 75) ⟨[]⟩ ⟨[]⟩]))) h=.ret e2 h2:=by
   rw[cC];unfold j7;simp only[iN,IS,sT,By,BY,reduceIte,B3,a1,AK,AJ,c1,cA0,k2];exact⟨_,rfl⟩
  obtain⟨e2,r1⟩:=hb;have r1:=Ms r1;simp only[iN,IS]at r1;rw[UU rfl,Uf];unfold Uh;simp only[iN,IS,sT,By,BY,reduceIte,r1,BI,D6]
 refine⟨h2,?_,x2,R2⟩;rw[ZS rfl];unfold d74;simp only[iN,IS,sT,By,BY,reduceIte,Ah,D7,CX,cv,cA0,kb,pd,EH,D6]
end
end
end Go.Proofs.YtbjadbhkogcfeaaGreat
