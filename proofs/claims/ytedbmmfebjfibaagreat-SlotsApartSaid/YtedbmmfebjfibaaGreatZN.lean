/-
  Part ZN of what Lawap stands on: printed by program, names and spaces cut.
-/
import Derived.Test.YtedbmmfebjfibaaGreatZM
set_option linter.unusedVariables false
set_option linter.unusedSimpArgs false
namespace Go.Proofs.YtedbmmfebjfibaaGreat
noncomputable section
open Go
set_option maxRecDepth 100000
theorem Pm{k:IntKind}{Z:List Int}:(ints k Z).length=Z.length:=List.length_map ..
theorem bN{k:IntKind}{Z:List Int}{i:Nat}(hi:i<Z.length):(ints k Z).getD i noRes=.int k (Z.getD i 0):=by
 unfold ints
 rw[List.getD_eq_getElem?_getD,List.getElem?_map,List.getD_eq_getElem?_getD,List.getElem?_eq_getElem hi];rfl
theorem Hp.Vals.int{h:Hp}{k:IntKind}{u:Value}{Z:List Int}(V:h.Vals u (ints k Z)){i:Nat}(hi:i<Z.length):∃ a,idxSR 1 u (.int .i64 (i:Int)) h=.ok (.pointer (some a)) h∧G7 (.pointer (some a)) h=.ok (.int k (Z.getD i 0)) h:=by
 obtain⟨a,g1,g2⟩:=V.at (i:=i) (by rw[Pm];exact hi)
 rw[bN hi]at g2
 exact⟨a,g1,g2⟩
theorem Hp.Vals.ilen{h:Hp}{k:IntKind}{u:Value}{Z:List Int}(V:h.Vals u (ints k Z)):lenSR u h=.ok (.int .i64 (Z.length:Int)) h:=by
 have:=V.len;rwa [Pm]at this
def IE(x:Int):Nat→List Int→Int
 |_,[]=> -1
 |i,z::l=>if x=z then(i:Int)else IE x (i+1) l
theorem TT(x:Int):∀ (zs:List Int) (i:Nat),(x∉zs∧IE x i zs= -1)∨(x∈zs∧∃ k,k<zs.length∧IE x i zs=((i+k:Nat):Int)∧zs.getD k 0=x)
 |[],i=>.inl ⟨fun h=>(by cases h),rfl⟩
 |z::l,i=>by
  unfold IE
  by_cases h:x=z
  ·rw[if_pos h]
   exact .inr ⟨by rw[h];exact List.mem_cons_self,0,Nat.succ_pos _,rfl,h.symm⟩
  ·rw[if_neg h]
   rcases TT x l (i+1)with ⟨h1,h2⟩|⟨h1,k,h2,h3,h4⟩
   ·refine .inl ⟨fun hx=>?_,h2⟩
    rcases List.mem_cons.1 hx with hx|hx
    ·exact h hx
    ·exact h1 hx
   ·exact .inr ⟨List.mem_cons_of_mem _ h1,k+1,Nat.succ_lt_succ h2,by rw[h3];congr 1;omega,h4⟩
theorem bL(x:Int)(zs:List Int):(0≤IE x 0 zs)↔x∈zs:=by
 rcases TT x zs 0 with ⟨h1,h2⟩|⟨h1,k,_,h3,_⟩
 ·rw[h2];exact⟨fun h=>by omega,fun h=>absurd h h1⟩
 ·rw[h3];exact⟨fun _=>h1,fun _=>by omega⟩
theorem bK(x:Int)(zs:List Int):iGe (IE x 0 zs) 0=decide (x∈zs):=by
 rw[N9,decide_eq_decide];exact bL x zs
theorem kL:ixS=BG (Ac 0 (Ax ixB)) ixE:=rfl
theorem jf:d91=aZ:=rfl
theorem bP{F:CallF}{h:Hp}{u:Value}{zs:List Int}{x:Int}(V:h.Vals u (ints .i64 zs))(hl:zs.length<900000){e:Env}(s0:AB 0 e=u)(s1:AB 1 e=.int .i64 x)(s7:AB 7 e=.int .i64 (zs.length:Int))(s8:AB 8 e=.int .i64 0):
  (∃ e',Ax ixB F e h=.exit 0 e' h∧IE x 0 zs= -1)∨(∃ e',Ax ixB F e h=.ret e' h∧AB 4 e'=.int .i64 (IE x 0 zs)):=by
 refine BZ (I:=fun i e' h'=>h'=h∧AB 0 e'=u∧AB 1 e'=.int .i64 x∧AB 7 e'=.int .i64 (zs.length:Int)∧AB 8 e'=.int .i64 (i:Int)∧i≤zs.length∧IE x 0 zs=IE x i (zs.drop i))
  (Q:=fun y=>(∃ e',y=.exit 0 e' h∧IE x 0 zs= -1)∨(∃ e',y=.ret e' h∧AB 4 e'=.int .i64 (IE x 0 zs))) zs.length (by omega) (fun i e' h' ⟨hh,t0,t1,t7,t8,hi,hr⟩=>?_)
  ⟨rfl,s0,s1,s7,s8,Nat.zero_le _,rfl⟩
 subst hh
 by_cases hlt:i<zs.length
 ·obtain⟨a,g1,g2⟩:=V.int hlt
  have hd:zs.drop i=zs.getD i 0::zs.drop (i+1):=by
   rw[List.drop_eq_getElem_cons hlt,List.getD_eq_getElem?_getD,List.getElem?_eq_getElem hlt];rfl
  rw[hd]at hr
  generalize zs.getD i 0=z at g2 hr
  have hr:IE x 0 zs=if x=z then(i:Int)else IE x (i+1) (zs.drop (i+1)):=hr
  have c1:iLt (i:Int) (zs.length:Int)=true:=by rw[Cr];simp;omega
  by_cases hx:x=z
  ·right
   have c2:iEq x z=true:=by rw[Dp];simpa using hx
   have hrun:∃ e2,ixB F e' h'=.ret e2 h'∧AB 4 e2=.int .i64 (i:Int):=by
    unfold ixB
    simp only[sT,Nat.reduceLT,Nat.reduceEqDiff,reduceIte,AL,AK,t8,t7,c1,Az,t0,g1,AM,g2,t1,c2]
    exact⟨_,rfl,by simp[AG]⟩
   obtain⟨e2,r1,r2⟩:=hrun
   rw[r1]
   refine⟨rfl,.inr ⟨e2,rfl,?_⟩⟩
   rw[r2,hr,if_pos hx]
  ·left
   have c2:iEq x z=false:=by rw[Dp];simpa using hx
   have a3:FK .i64 (.int .i64 (i:Int)) (.int .i64 1) h'=.ok (.int .i64 ((i+1:Nat):Int)) h':=by
    have:(i:Int)+1=((i+1:Nat):Int):=by omega
    rw[ES,this,Ba (by omega)]
   have hrun:∃ e2,ixB F e' h'=.norm e2 h'∧AB 0 e2=u∧AB 1 e2=.int .i64 x∧AB 7 e2=.int .i64 (zs.length:Int)∧AB 8 e2=.int .i64 ((i+1:Nat):Int):=by
    unfold ixB
    simp only[sT,Nat.reduceLT,Nat.reduceEqDiff,reduceIte,AL,AK,t8,t7,c1,Az,t0,g1,AM,g2,t1,c2,BK,a3]
    exact⟨_,rfl,by simp[AG,t0,t1,t7]⟩
   obtain⟨e2,r1,r2,r3,r4,r5⟩:=hrun
   rw[if_neg hx]at hr
   exact⟨hlt,e2,h',r1,rfl,r2,r3,r4,r5,hlt,hr⟩
 ·right
  have c1:iLt (i:Int) (zs.length:Int)=false:=by rw[Cr];simp;omega
  have hrun:∃ e2,ixB F e' h'=.exit 0 e2 h':=by
   unfold ixB
   simp only[sT,Nat.reduceLT,Nat.reduceEqDiff,reduceIte,AL,AK,t8,t7,c1]
   exact⟨_,rfl⟩
  obtain⟨e2,r1⟩:=hrun
  rw[r1]
  refine⟨rfl,.inl ⟨e2,rfl,?_⟩⟩
  rw[hr,List.drop_of_length_le (by omega)];rfl
theorem Xj{n:Nat}{h:Hp}{u:Value}{zs:List Int}{x:Int}(V:h.Vals u (ints .i64 zs))(hl:zs.length<900000):call AD (n+1) 91 [u,.int .i64 x] h=.ok (.int .i64 (IE x 0 zs)) h:=by
 have pre:∃ e1,aZ (call AD n) (AQ e0 0 [u,.int .i64 x]) h=ixS (call AD n) e1 h∧AB 0 e1=u∧AB 1 e1=.int .i64 x∧AB 7 e1=.int .i64 (zs.length:Int)∧AB 8 e1=.int .i64 0:=by
  unfold aZ
  simp only[iN,Nat.reduceAdd,GJ,GQ,Dx,G1,AG,Nat.reduceLT,Nat.reduceEqDiff,reduceIte,Ae,V.ilen]
  exact⟨_,rfl,by simp[AG]⟩
 obtain⟨e1,p1,p0,pp1,p7,p8⟩:=pre
 rw[jE rfl,jf,p1,kL]
 rcases bP (F:=call AD n) V hl p0 pp1 p7 p8 with ⟨e2,q1,q2⟩|⟨e2,q1,q2⟩
 ·simp only[BH,Aw,q1,A1,BB]
  unfold ixE
  simp only[sT,Nat.reduceLT,Nat.reduceEqDiff,reduceIte,lV0,q2]
 ·simp only[BH,Aw,q1,B8,Co,lV0,q2]
theorem PC{n:Nat}{h:Hp}{u:Value}{zs:List Int}{x:Int}(V:h.Vals u (ints .i64 zs))(hl:zs.length<900000):call AD (n+2) 63 [u,.int .i64 x] h=.ok (.bool (decide (x∈zs))) h:=by
 have k1:=Xj (n:=n) (x:=x) V hl
 rw[ie rfl]
 unfold d63
 simp only[iN,Nat.reduceAdd,sT,Nat.reduceLT,Nat.reduceEqDiff,reduceIte,cA0,k1,AL,AK,bK,lV0]
section
variable {F:CallF}{e:Env}{h h' h0:Hp}{S:Nat→Prop}{m k:Nat}{ks:List Kt}{v:Value}
def Hp.KO(h:Hp)(k:Nat)(v:Value)(ks:List Kt):Prop:=(v=.slice none 0 0∧ks=[])∨∃ b,v=.slice (some ⟨b,0,none⟩) ks.length ks.length∧h.Row b 84 (flK ks)∧k≤b∧256≤b
theorem Hp.KO.lst(o:h.KO k v ks):h.KS (fun b=>k≤b) v ks:=by
 rcases o with h1|⟨b,h1,h2,h3,h4⟩
 ·exact .inl h1
 ·exact .inr ⟨b,_,84,_,h1,Nat.le_refl _,h2,by rw[CF];omega,by rw[← CF,List.take_length],.inl rfl,h3⟩
theorem Hp.KO.keep(o:h.KO k v ks)(hk:∀ b el L,blkV v b→h.Row b el L→h'.Row b el L):h'.KO k v ks:=by
 rcases o with h1|⟨b,h1,h2,h3,h4⟩
 ·exact .inl h1
 ·exact .inr ⟨b,h1,hk b _ _ ⟨0,_,_,h1⟩ h2,h3,h4⟩
theorem Hp.KO.ext(o:h.KO k v ks)(W:h.Wf)(x:h.Ext h'):h'.KO k v ks:=o.keep fun _ _ _ _ r=>r.ext W x
theorem Hp.KO.same(o:h.KO k v ks)(hb:h'.bl=h.bl):h'.KO k v ks:=o.keep fun _ _ _ _ r=>r.same hb
theorem Hp.KO.blk(o:h.KO k v ks)(W:h.Wf){b:Nat}(hb:blkV v b):k≤b∧b<h.next:=by
 obtain⟨off,n,c,e1⟩:=hb
 rcases o with ⟨h1,h2⟩|⟨b',h1,h2,h3,h4⟩
 ·rw[h1]at e1;cases e1
 ·have:=h2.lt W
  rw[h1]at e1
  injection e1 with e1 _ _
  injection e1 with e1
  injection e1 with e1 _ _
  omega
theorem UP:BJ FH.zero 1=AU K0:=by kernel_rfl
theorem Lx(W:h.Wf){g:O}{x:Kt}(hg:g e=ktV x):Ah 1 (BJ FH.zero 1) [(0,6,g)] F e h=.ok (.slice (some ⟨h.next,0,none⟩) 1 1) (h.pushRow 0 (AU x)):=by
 rw[UP,Ca,A6 (hk:=by rw[hg];rfl),hg,show cellsOf (ktV x)=AU x from rfl,if_pos (show(AU x).length=6 from rfl),if_pos (show 0+6≤(AU K0).length from Nat.le_refl _),CL,DA W];rfl
theorem GL{x:Kt}(hu:oneCell x.u=true):BO (AU x)=true:=by
 show(bif oneCell x.u then true else false)=true
 rw[hu];rfl
theorem SA(x0:h0.Ext h)(hk:h0.next≤k)(hk2:k≤h.next)(o:h.KO k v ks){x:Kt}(hu:oneCell x.u=true)(hl:ks.length≤100000):
  ∃ h' v',DM 6 64 83 v (.slice (some ⟨h.next,0,none⟩) 1 1) (h.pushRow 0 (AU x))=.ok v' h'∧h0.Ext h'∧h'.KO k v' (ks++[x])∧h.next≤h'.next∧∀ b el L,¬ blkV v b→h.Row b el L→h'.Row b el L:=by
 have W:=x0.wf
 have x1:=x0.pushRow 0 (AU x)
 have y1:=(Hp.Ext.refl W).pushRow 0 (AU x)
 have Rw:=Hp.Row.new W 0 (AU x)
 have n1:(h.pushRow 0 (AU x)).next=h.next+1:=rfl
 have o1:=o.ext W y1
 generalize h.pushRow 0 (AU x)=h1 at x1 y1 Rw n1 o1
 have hs:∀ K:List Value→R,BF h1 6 (.slice (some ⟨h.next,0,none⟩) 1 1) 1 K=K (AU x):=fun K=>Rw.srcE (es:=6) (off:=0) (n:=1) (by show 0+1 * 6≤6;omega)
 have ha:=GL hu
 rcases o1 with ⟨rfl,rfl⟩|⟨b,rfl,r,hb,h256⟩
 ·obtain⟨h5,a1,a2,a3,a4,_,a6⟩:=Ti (eb:=64) (en:=83) x1 hs rfl rfl ha (by omega)
  refine⟨h5,_,a1,a2,.inr ⟨h1.next,rfl,?_,by omega,by have:=W.big;omega⟩,by omega,fun b el L _ r=>(r.ext W y1).ext x1.wf a6⟩
  show h5.Row h1.next 84 (AU x++[])
  rw[List.append_nil];exact a3
 ·obtain⟨h5,a1,a2,a3,a4,_,a6⟩:=Pc (eb:=64) (en:=83) (n:=ks.length) x1 hs rfl rfl (by omega) ha r (by rw[CF];omega) (by omega) h256 (by omega)
  refine⟨h5,_,a1,a2,.inr ⟨h1.next,by rw[List.length_append];rfl,?_,by omega,by have:=W.big;omega⟩,by omega,fun b' el L hne r'=>a6 b' el L (fun e=>hne ⟨0,ks.length,ks.length,by rw[e]⟩) (r'.ext W y1)⟩
  rw[Iq,show flK [x]=AU x from List.append_nil _];exact a3
def j6(x y:Kt):Prop:=y.a=x.a∧y.b=x.b∧y.p≠x.p∧y.s=2∧(x.c<y.c∨y.c=x.c∧x.s=1)
def oa(x y:Kt):Prop:=y.a=x.a∧y.b=x.b∧y.c=x.c∧y.s=x.s
theorem Gv(a b:Int):(iEq a b=true∧a=b)∨(iEq a b=false∧a≠b):=by
 by_cases h:a=b
 ·exact .inl ⟨CN h,h⟩
 ·exact .inr ⟨BW h,h⟩
theorem jz:hiB=j0:=rfl
theorem je:d89=aY:=rfl
theorem jo(W:h.Wf){r5:Nat}{x y:Kt}(R5:h.Row r5 0 (AU x))(hn:¬ j6 x y):∃ h',call AD (m+1) 89 [ktV y,pt r5] h=.ok (.bool false) h'∧h.Ext h':=by
 have bx:=fun (F:CallF) (e:Env) (he:AB 0 e=ktV y)=>G5 (F:=F) W he
 have x1:=(Hp.Ext.refl W).pushRow 0 (AU y)
 have R:=Hp.Row.new W 0 (AU y)
 generalize h.pushRow 0 (AU y)=h1 at bx x1 R
 obtain⟨l0,l1,l2,l3,_,l5,_⟩:=Bn R
 obtain⟨k0,k1,k2,k3,_,k5,_⟩:=Bn (R5.ext W x1)
 have st1:∃ e1 B,aY (call AD m) (AQ e0 0 [ktV y,pt r5]) h=hiB (call AD m) e1 h1∧AB 1 e1=pt r5∧AB 2 e1=pt h.next∧AB 4 e1=.bool B∧(B=true→y.a=x.a∧y.b=x.b):=by
  unfold aY
  rcases Gv y.a x.a with ⟨c1,e1⟩|⟨c1,e1⟩
  ·rcases Gv y.b x.b with ⟨c2,e2⟩|⟨c2,e2⟩
   ·simp only[iN,Nat.reduceAdd,sT,Nat.reduceLT,Nat.reduceEqDiff,reduceIte,gD,bx,AJ,AN,Nat.zero_add,AM,AP,l0,l1,l2,l3,l5,k0,k1,k2,k3,k5,AL,AK,c1,c2]
    exact⟨_,true,rfl,by simp[AG],by simp[AG],by simp[AG],fun _=>⟨e1,e2⟩⟩
   ·simp only[iN,Nat.reduceAdd,sT,Nat.reduceLT,Nat.reduceEqDiff,reduceIte,gD,bx,AJ,AN,Nat.zero_add,AM,AP,l0,l1,l2,l3,l5,k0,k1,k2,k3,k5,AL,AK,c1,c2]
    exact⟨_,false,rfl,by simp[AG],by simp[AG],by simp[AG],fun h=>by cases h⟩
  ·simp only[iN,Nat.reduceAdd,sT,Nat.reduceLT,Nat.reduceEqDiff,reduceIte,gD,bx,AJ,AN,Nat.zero_add,AM,AP,l0,l1,l2,l3,l5,k0,k1,k2,k3,k5,AL,AK,c1]
   exact⟨_,false,rfl,by simp[AG],by simp[AG],by simp[AG],fun h=>by cases h⟩
 obtain⟨e1,B1,p1,t1,t2,t4,h1B⟩:=st1
 have st2:∃ e2 B,hiB (call AD m) e1 h1=hiC (call AD m) e2 h1∧AB 1 e2=pt r5∧AB 2 e2=pt h.next∧AB 4 e2=.bool B1∧AB 5 e2=.bool B∧(B=true→x.c<y.c∨y.c=x.c∧x.s=1):=by
  rw[jz]
  unfold j0
  by_cases g1:x.c<y.c
  ·have c1:iGt y.c x.c=true:=E4 g1
   simp only[sT,Nat.reduceLT,Nat.reduceEqDiff,reduceIte,gD,t1,t2,AJ,AN,Nat.zero_add,AM,AP,l0,l1,l2,l3,l5,k0,k1,k2,k3,k5,AL,AK,c1]
   exact⟨_,true,rfl,by simp[AG,t1],by simp[AG,t2],by simp[AG,t4],by simp[AG],fun _=>.inl g1⟩
  ·have c1:iGt y.c x.c=false:=Ee g1
   rcases Gv y.c x.c with ⟨c2,e2⟩|⟨c2,e2⟩
   ·rcases Gv (x.s:Int) 1 with ⟨c3,e3⟩|⟨c3,e3⟩
    ·simp only[sT,Nat.reduceLT,Nat.reduceEqDiff,reduceIte,gD,t1,t2,AJ,AN,Nat.zero_add,AM,AP,l0,l1,l2,l3,l5,k0,k1,k2,k3,k5,AL,AK,c1,c2,c3]
     exact⟨_,true,rfl,by simp[AG,t1],by simp[AG,t2],by simp[AG,t4],by simp[AG],fun _=>.inr ⟨e2,by omega⟩⟩
    ·simp only[sT,Nat.reduceLT,Nat.reduceEqDiff,reduceIte,gD,t1,t2,AJ,AN,Nat.zero_add,AM,AP,l0,l1,l2,l3,l5,k0,k1,k2,k3,k5,AL,AK,c1,c2,c3]
     exact⟨_,false,rfl,by simp[AG,t1],by simp[AG,t2],by simp[AG,t4],by simp[AG],fun h=>by cases h⟩
   ·simp only[sT,Nat.reduceLT,Nat.reduceEqDiff,reduceIte,gD,t1,t2,AJ,AN,Nat.zero_add,AM,AP,l0,l1,l2,l3,l5,k0,k1,k2,k3,k5,AL,AK,c1,c2]
    exact⟨_,false,rfl,by simp[AG,t1],by simp[AG,t2],by simp[AG,t4],by simp[AG],fun h=>by cases h⟩
 obtain⟨e2,B2,p2,u1,u2,u4,u5,h2B⟩:=st2
 have st3:∃ e3,hiC (call AD m) e2 h1=.ret e3 h1∧AB 3 e3=.bool false:=by
  unfold hiC
  cases B1 with
  |false=>
   simp only[sT,Nat.reduceLT,Nat.reduceEqDiff,reduceIte,gD,u4]
   exact⟨_,rfl,by simp[AG]⟩
  |true=>
   by_cases e3:y.p=x.p
   ·have c3:iNe (y.p:Int) (x.p:Int)=false:=Cm (by rw[e3])
    simp only[sT,Nat.reduceLT,Nat.reduceEqDiff,reduceIte,gD,u4,u1,u2,AJ,AN,Nat.zero_add,AM,AP,l0,l1,l2,l3,l5,k0,k1,k2,k3,k5,AL,AK,c3]
    exact⟨_,rfl,by simp[AG]⟩
   ·have c3:iNe (y.p:Int) (x.p:Int)=true:=NK (by omega)
    rcases Gv (y.s:Int) 2 with ⟨c4,e4⟩|⟨c4,e4⟩
    ·cases B2 with
     |true=>exact absurd ⟨(h1B rfl).1,(h1B rfl).2,e3,by omega,h2B rfl⟩ hn
     |false=>
      simp only[sT,Nat.reduceLT,Nat.reduceEqDiff,reduceIte,gD,u4,u1,u2,u5,AJ,AN,Nat.zero_add,AM,AP,l0,l1,l2,l3,l5,k0,k1,k2,k3,k5,AL,AK,c3,c4]
      exact⟨_,rfl,by simp[AG]⟩
    ·simp only[sT,Nat.reduceLT,Nat.reduceEqDiff,reduceIte,gD,u4,u1,u2,AJ,AN,Nat.zero_add,AM,AP,l0,l1,l2,l3,l5,k0,k1,k2,k3,k5,AL,AK,c3,c4]
     exact⟨_,rfl,by simp[AG]⟩
 obtain⟨e3,p3,p4⟩:=st3
 refine⟨h1,?_,x1⟩
 rw[jC rfl,je,p1,p2,p3]
 simp only[lV0,p4]
theorem jp(W:h.Wf){r5:Nat}{x y:Kt}(R5:h.Row r5 0 (AU x))(hn:¬ oa x y):∃ h',call AD (m+1) 90 [ktV y,pt r5] h=.ok (.bool false) h'∧h.Ext h':=by
 have bx:=fun (F:CallF) (e:Env) (he:AB 0 e=ktV y)=>G5 (F:=F) W he
 have x1:=(Hp.Ext.refl W).pushRow 0 (AU y)
 have R:=Hp.Row.new W 0 (AU y)
 generalize h.pushRow 0 (AU y)=h1 at bx x1 R
 obtain⟨l0,l1,l2,l3,_,l5,_⟩:=Bn R
 obtain⟨k0,k1,k2,k3,_,k5,_⟩:=Bn (R5.ext W x1)
 refine⟨h1,?_,x1⟩
 rw[jD rfl]
 unfold d90
 rcases Gv y.a x.a with ⟨c1,e1⟩|⟨c1,e1⟩
 ·rcases Gv y.b x.b with ⟨c2,e2⟩|⟨c2,e2⟩
  ·rcases Gv y.c x.c with ⟨c3,e3⟩|⟨c3,e3⟩
   ·rcases Gv (y.s:Int) (x.s:Int)with ⟨c4,e4⟩|⟨c4,e4⟩
    ·exact absurd ⟨e1,e2,e3,by omega⟩ hn
    ·simp only[iN,Nat.reduceAdd,sT,Nat.reduceLT,Nat.reduceEqDiff,reduceIte,gD,bx,AJ,AN,Nat.zero_add,AM,AP,l0,l1,l2,l3,l5,k0,k1,k2,k3,k5,AL,AK,c1,c2,c3,c4,lV0]
   ·simp only[iN,Nat.reduceAdd,sT,Nat.reduceLT,Nat.reduceEqDiff,reduceIte,gD,bx,AJ,AN,Nat.zero_add,AM,AP,l0,l1,l2,l3,l5,k0,k1,k2,k3,k5,AL,AK,c1,c2,c3,lV0]
  ·simp only[iN,Nat.reduceAdd,sT,Nat.reduceLT,Nat.reduceEqDiff,reduceIte,gD,bx,AJ,AN,Nat.zero_add,AM,AP,l0,l1,l2,l3,l5,k0,k1,k2,k3,k5,AL,AK,c1,c2,lV0]
 ·simp only[iN,Nat.reduceAdd,sT,Nat.reduceLT,Nat.reduceEqDiff,reduceIte,gD,bx,AJ,AN,Nat.zero_add,AM,AP,l0,l1,l2,l3,l5,k0,k1,k2,k3,k5,AL,AK,c1,lV0]
theorem V9{P:Kt→Bool}(h:∀ k∈ks,P k=false):ks.any P=false:=by
 induction ks with
 |nil=>rfl
 |cons k l ih=>rw[List.any_cons,h k List.mem_cons_self,ih fun x hx=>h x (List.mem_cons_of_mem _ hx)];rfl
theorem kO(K:h.KS S v ks){i:Nat}(hi:i<ks.length):∃ w,h.KS S w (ks.take i)∧∀ (F:CallF) (e:Env) (x y:O),x e=v→y e=.int .i64 (i:Int)→Db 83 6 x none (some y) none F e h=.ok w h:=by
 rcases K with ⟨rfl,rfl⟩|⟨b,c,el,L,rfl,h2,h3,h4,h5,h6,h7⟩
 ·cases hi
 ·have ht:(ks.take i).length=i:=by rw[List.length_take];omega
  refine⟨.slice (some ⟨b,0,none⟩) i c,.inr ⟨b,c,el,L,by rw[ht],by rw[ht];omega,h3,by rw[ht];omega,?_,h6,h7⟩,fun F e x y hx hy=>?_⟩
  ·have e1:flK (ks.take i)=(flK ks).take (6 * i):=by
    conv=>rhs;rw[← List.take_append_drop i ks,Iq]
    rw[List.take_left' (by rw[CF,ht])]
   rw[ht,e1,← h5,List.take_take,Nat.min_eq_left (by omega)]
  ·show(match x e with|.slice a n c=>DB e n c none (some y) none (fun l hh m=>Dn 83 6 a false l hh m h)|_=>.no)=_
   rw[hx]
   show(match Cu (y e)with|.ok n=>(bif Nat.ble n c then Dn 83 6 (some ⟨b,0,none⟩) false 0 n c h else .no)|.no=>.no)=_
   rw[hy,Cs]
   simp only
   rw[Af.2 (show i≤c by omega)]
   show Bc (some ⟨b,0,none⟩) 6 0 i c h=_
   unfold Bc
   simp only[Aa]
   cases c with
   |zero=>rfl
   |succ c=>rfl
theorem jS:coS=BG (Ac 0 (Ax coB)) coE:=rfl
theorem jZ:d59=aQ:=rfl
theorem PE(W:h.Wf)(K:h.KS S v ks)(hl:ks.length≤1000)(hu:∀ k∈ks,oneCell k.u=true)(hh:∀ x∈ks,∀ y∈ks,¬ j6 x y)(ht:∀ (i j:Nat) (x y:Kt),ks[i]? =some x→ks[j]? =some y→j<i→¬ oa x y):
  ∃ h' w,call AD (m+4) 59 [v] h=.ok w h'∧h.Ext h'∧h'.KO h.next w ks∧(ks=[]→w=.slice none 0 0):=by
 have ln:=K.len h
 have pre:∃ e1,aQ (call AD (m+3)) (AQ e0 0 [v]) h=coS (call AD (m+3)) e1 h∧AB 0 e1=v∧AB 3 e1=.slice none 0 0∧AB 8 e1=v∧AB 9 e1=.int .i64 (ks.length:Int)∧AB 10 e1=.int .i64 ((0:Nat):Int):=by
  unfold aQ
  simp only[iN,Nat.reduceAdd,sT,Nat.reduceLT,Nat.reduceEqDiff,reduceIte,Ae,ln]
  exact⟨_,rfl,by simp[AG]⟩
 obtain⟨e1,p1,s0,s3,s8,s9,s10⟩:=pre
 have run:∃ e' h' w,Ax coB (call AD (m+3)) e1 h=.exit 0 e' h'∧h.Ext h'∧h'.KO h.next w ks∧AB 3 e'=w∧(ks=[]→w=.slice none 0 0):=by
  refine BZ (I:=fun i e' h'=>∃ w,h.Ext h'∧h'.KO h.next w (ks.take i)∧AB 0 e'=v∧AB 3 e'=w∧AB 8 e'=v∧AB 9 e'=.int .i64 (ks.length:Int)∧AB 10 e'=.int .i64 (i:Int)∧i≤ks.length∧(i=0→w=.slice none 0 0))
   (Q:=fun x=>∃ e' h' w,x=.exit 0 e' h'∧h.Ext h'∧h'.KO h.next w ks∧AB 3 e'=w∧(ks=[]→w=.slice none 0 0)) ks.length (by omega) (fun i e' h' ⟨w,x',o',t0,t3,t8,t9,t10,hi,hz⟩=>?_) ⟨_,.refl W,.inl ⟨rfl,rfl⟩,s0,s3,s8,s9,s10,Nat.zero_le _,fun _=>rfl⟩
  have W':=x'.wf
  by_cases hlt:i<ks.length
  ·left
   have c1:=E8 hlt
   obtain⟨x,hx⟩:∃ x,ks[i]? =some x:=⟨_,List.getElem?_eq_getElem hlt⟩
   have hxm:=List.mem_of_getElem? hx
   obtain⟨b,_,ix,ld,_⟩:=(K.ext W x').at hx
   have al:=fun (F:CallF) (e:Env)=>Bd (F:=F) (e:=e) W' (n:=6) (t:=DL)
   have Ra:=Hp.Row.alloc W' Gc (show(AU K0).length=6 from rfl)
   have y1:h'.Ext (h'.push (.cells DL 6 0)):=(Hp.Ext.refl W').push _
   have n1:(h'.push (.cells DL 6 0)).next=h'.next+1:=rfl
   generalize h'.push (.cells DL 6 0)=h1 at al Ra y1 n1
   obtain⟨st,_,y2,R5,n2⟩:=Kg W' y1 (Nat.le_refl _) Ra rfl (k:=x) (hu x hxm)
   generalize h1.wr h'.next 0 (AU x)=h2 at st y2 R5 n2
   have x2:=x'.trans y2
   obtain⟨h3,k3,x3⟩:=OL (m:=m+1) (g:=89) (caps:=[pt h'.next]) (P:=fun _=>false) x2.wf (K.ext W x2) (by omega) fun g xg y hy=>by
    exact jo (m:=m) xg.wf (R5.ext x2.wf xg) (hh x hxm y hy)
   rw[V9 fun _ _=>rfl]at k3
   have x23:=x2.trans x3
   obtain⟨w',Kc,ct⟩:=kO (K.ext W x23) hlt
   obtain⟨h4,k4,x4⟩:=OL (m:=m+1) (g:=90) (caps:=[pt h'.next]) (P:=fun _=>false) x23.wf Kc (by rw[List.length_take];omega) fun g xg y hy=>by
    obtain⟨j,hj⟩:=List.mem_iff_getElem?.1 hy
    have hji:j<i:=by
     have:=(List.getElem?_eq_some_iff.1 hj).1
     rw[List.length_take]at this
     omega
    rw[List.getElem?_take,if_pos hji]at hj
    exact jp (m:=m) xg.wf ((R5.ext x2.wf x3).ext x23.wf xg) (ht i j x y hx hj hji)
   rw[V9 fun _ _=>rfl]at k4
   have x24:=x23.trans x4
   have y24:=(y2.trans x3).trans x4
   have R54:=(R5.ext x2.wf x3).ext x23.wf x4
   obtain⟨_,_,_,_,_,_,ld5,_⟩:=Bn R54
   have sl:=fun (F:CallF) (e:Env) (he:AB 30 e=ktV x)=>Lx (F:=F) x24.wf he
   obtain⟨h5,w5,k5,x5,o5,n5,_⟩:=SA x24 (Nat.le_refl _) x24.next (o'.ext W' y24) (hu x hxm) (by rw[List.length_take];omega)
   have er:ks.take (i+1)=ks.take i++[x]:=by rw[List.take_add_one,hx];rfl
   rw[← er]at o5
   have a3:=CQ (i:=i) (h:=h5) (by omega)
   have hrun:∃ e2,coB (call AD (m+3)) e' h'=.norm e2 h5∧AB 0 e2=v∧AB 3 e2=w5∧AB 8 e2=v∧AB 9 e2=.int .i64 (ks.length:Int)∧AB 10 e2=.int .i64 ((i+1:Nat):Int):=by
    unfold coB
    simp only[sT,Nat.reduceLT,Nat.reduceEqDiff,reduceIte,AL,AK,t10,t9,c1,Az,t8,ix,Aq,Ao,ld,al,AX,st,Dw,AY,A3,Bb,t0,k3,Bt,Br,Bool.not_false]
    rw[WV (by omega)]
    simp only[sT,Nat.reduceLT,Nat.reduceEqDiff,reduceIte,gD,t0]
    rw[ct _ _ _ _ (by simp[AG]) (by simp[AG])]
    simp only[sT,Nat.reduceLT,Nat.reduceEqDiff,reduceIte,gD,AY,A3,Bb,k4,Bt,Br,Bool.not_false,Aq,Ao,ld5,sl,BE,t3,k5,BK,a3,t10]
    exact⟨_,rfl,by simp[AG,t0,t8,t9]⟩
   obtain⟨e2,r1,r2,r3,r4,r5,r6⟩:=hrun
   exact⟨hlt,e2,h5,r1,w5,x5,o5,r2,r3,r4,r5,r6,by omega,fun h=>absurd h (Nat.succ_ne_zero i)⟩
  ·right
   have c1:=DI (show ks.length≤i by omega)
   have hrun:∃ e2,coB (call AD (m+3)) e' h'=.exit 0 e2 h'∧AB 3 e2=w:=by
    unfold coB
    simp only[sT,Nat.reduceLT,Nat.reduceEqDiff,reduceIte,AL,AK,t10,t9,c1]
    exact⟨_,rfl,by simp[AG,t3]⟩
   obtain⟨e2,r1,r2⟩:=hrun
   rw[r1]
   rw[List.take_of_length_le (by omega)]at o'
   exact⟨rfl,e2,h',w,rfl,x',o',r2,fun h=>hz (by rw[h]at hi;exact Nat.le_zero.1 hi)⟩
 obtain⟨e2,h2,w,r1,x2,o2,r2,r3⟩:=run
 refine⟨h2,w,?_,x2,o2,r3⟩
 rw[iZ rfl,jZ,p1,jS]
 simp only[BH,Aw,r1,A1,BB]
 unfold coE
 simp only[sT,Nat.reduceLT,Nat.reduceEqDiff,reduceIte,r2,lV0]
end
end
noncomputable section
open Go
set_option maxRecDepth 100000
structure Kc where
 a:Int
 b:Int
 c:Int
 s:Nat
 l:List Nat
 p:Nat
def Kt.core(k:Kt):Kc:=⟨k.a,k.b,k.c,k.s,k.l,k.p⟩
def lkN(T M:List Nat)(p:Nat):Option (List Nat):=match Classical.propDecidable (∃ ns,Gd T M p ns)with
 |.isTrue h=>some (Classical.choose h)
 |.isFalse _=>none
def Du(T M:List Nat)(p:Nat):Bool:=match Classical.propDecidable ((¬ ∃ ns,Gd T M p ns)∧((∃ x∈sec M (3 * p),x≠0)∨∃ ns,KU T (sec M (3 * p)) ns∧at6 ns 4≤100))with
 |.isTrue _=>true
 |.isFalse _=>false
theorem Px{T M:List Nat}{p:Nat}{ns:List Nat}(h:Gd T M p ns):lkN T M p=some ns:=by
 unfold lkN
 split
 ·rename_i h' _
  rw[F7 (Classical.choose_spec h').1 h.1]
 ·rename_i h' _;exact absurd ⟨ns,h⟩ h'
theorem Pw{T M:List Nat}{p:Nat}(h:¬ ∃ ns,Gd T M p ns):lkN T M p=none:=by
 unfold lkN
 split
 ·rename_i h' _;exact absurd h' h
 ·rfl
theorem G6{T M:List Nat}{p:Nat}:Du T M p=true↔((¬ ∃ ns,Gd T M p ns)∧((∃ x∈sec M (3 * p),x≠0)∨∃ ns,KU T (sec M (3 * p)) ns∧at6 ns 4≤100)):=by
 unfold Du
 split
 ·rename_i h _;exact⟨fun _=>h,fun _=>rfl⟩
 ·rename_i h _;exact⟨fun e=>(by cases e),fun e=>absurd e h⟩
def U5(M:List Nat)(p:Nat)(ns:List Nat):Kc:=⟨at6 ns 1,at6 ns 2,at6 ns 3,at6 ns 0,dat M p (at6 ns 4),p⟩
def kcs(T M:List Nat)(i:Nat):List Kc:=(List.range i).filterMap fun p=>(lkN T M p).map (U5 M p)
def bads(T M:List Nat)(i:Nat):List Nat:=(List.range i).filter (Du T M)
def mrk(T M:List Nat)(i:Nat):List Nat:=(List.range i).filter fun p=>(lkN T M p).isSome || Du T M p
theorem Po(T M:List Nat)(i:Nat):kcs T M (i+1)=kcs T M i++(match lkN T M i with|some ns=>[U5 M i ns]|none=>[]):=by
 unfold kcs
 rw[List.range_succ,List.filterMap_append]
 cases h:lkN T M i<;>simp[h]
theorem JV(T M:List Nat)(i:Nat):bads T M (i+1)=bads T M i++(if Du T M i=true then [i]else []):=by
 unfold bads
 rw[List.range_succ,List.filter_append]
 cases h:Du T M i<;>simp[h]
theorem L7(T M:List Nat)(i:Nat):mrk T M (i+1)=mrk T M i++(if((lkN T M i).isSome || Du T M i)=true then [i]else []):=by
 unfold mrk
 rw[List.range_succ,List.filter_append]
 cases h:((lkN T M i).isSome || Du T M i)<;>simp[h]
theorem DQ(i:Nat)(f:Nat→Bool):((List.range i).filter f).length≤i:=by
 have:=List.length_filter_le f (List.range i)
 rwa [List.length_range]at this
theorem Gz(a b:List Nat):ints .i64 ((a++b).map Int.ofNat)=ints .i64 (a.map Int.ofNat)++ints .i64 (b.map Int.ofNat):=by unfold ints;rw[List.map_append,List.map_append]
theorem lc:BJ ty3.zero 1=[.int .i64 0]:=by kernel_rfl
section
variable {F:CallF}{e:Env}{h g g':Hp}{T M:List Nat}{bs r9 k1 bd bm bc tb n i m c0:Nat}{v mv:Value}{ks:List Kt}{arm:Int}
theorem EJ(W:h.Wf){x:O}{z:Int}(hx:x e=.int .i64 z):Ah 1 (BJ ty3.zero 1) [(0,1,x)] F e h=.ok (.slice (some ⟨h.next,0,none⟩) 1 1) (h.pushRow 0 [.int .i64 z]):=by
 rw[lc];exact Hh W hx rfl rfl
theorem Hp.KO.nb{k b el:Nat}{L:List Value}(o:h.KO k v ks)(r:h.Row b el L)(he:el≠84):¬ blkV v b:=fun⟨off,nn,c,e1⟩=>by
 rcases o with ⟨h1,h2⟩|⟨b',h1,h2,h3,h4⟩
 ·rw[h1]at e1;cases e1
 ·rw[h1]at e1
  injection e1 with e1 _ _
  injection e1 with e1
  injection e1 with e1 _ _
  rw[e1]at h2
  exact Ds r h2 he rfl
theorem Hp.Own.nb{k b el en:Nat}{xs L:List Value}(o:h.Own k en v xs)(r:h.Row b el L)(he:el≠en+1):¬ blkV v b:=fun⟨off,nn,c,e1⟩=>by
 rcases o with ⟨h1,h2⟩|⟨b',h1,h2,h3,h4⟩
 ·rw[h1]at e1;cases e1
 ·rw[h1]at e1
  injection e1 with e1 _ _
  injection e1 with e1
  injection e1 with e1 _ _
  rw[e1]at h2
  exact Ds r h2 he rfl
structure O1 (h g:Hp)(T M:List Nat)(bs r9 k1 bd tb i:Nat)(v mv:Value)(ks:List Kt):Prop where
 x:h.Ext g
 row:g.Row bs 0 (slL bd tb nilS nilS (bads T M i).length false)
 rb:g.Row r9 0 [pt bs]
 ko:g.KO k1 v ks
 cs:ks.map Kt.core=kcs T M i
 ok:∀ k∈ks,KtOk g (fun b=>r9<b) k
 ms:g.Own k1 3 mv (ints .i64 ((mrk T M i).map Int.ofNat))
 le:k1≤g.next
theorem O1.ext(o:O1 h g T M bs r9 k1 bd tb i v mv ks)(x:g.Ext g'):O1 h g' T M bs r9 k1 bd tb i v mv ks:=
 have W:=o.x.wf
 ⟨o.x.trans x,o.row.ext W x,o.rb.ext W x,o.ko.ext W x,o.cs,fun k hk=>⟨(o.ok k hk).1.ext W x,(o.ok k hk).2⟩,o.ms.ext W x,Nat.le_trans o.le x.next⟩
theorem cz:lB=BG (Ac 1 (Ax Ke)) kr:=rfl
theorem jU:d16=aM:=rfl
theorem kP(o:O1 h g T M bs r9 k1 bd tb i v mv ks):ks.length≤i:=by
 have h1:=congrArg List.length o.cs
 rw[List.length_map]at h1
 rw[h1]
 unfold kcs
 have:=List.length_filterMap_le (fun p=>(lkN T M p).map (U5 M p)) (List.range i)
 rwa [List.length_range]at this
theorem YZ(W:h.Wf)(d:Dk h bd bm bc n M c0 [] arm false)(Rt:h.Row tb 0 (T.map wv))(hT:TblOk T)(o:O1 h g T M bs r9 k1 bd tb i v mv ks)(hbs:h.next≤bs∧bs<r9∧r9<k1)(hi:i<n / 3)
  (t8:AB 9 e=pt r9)(t10:AB 10 e=v)(t11:AB 11 e=mv)(t51:AB 51 e=.int .i64 ((n / 3:Nat):Int))(t52:AB 52 e=.int .i64 (i:Int)):
  ∃ e' g' v' mv' ks',Ke (call AD (m+6)) e g=.norm e' g'∧O1 h g' T M bs r9 k1 bd tb (i+1) v' mv' ks'∧AB 10 e'=v'∧AB 11 e'=mv'∧AB 52 e'=.int .i64 ((i+1:Nat):Int)∧∀ j,j=0∨j=1∨j=2∨j=8∨j=9∨j=51→AB j e'=AB j e:=by
 have hn:=d.n1
 have W1:=o.x.wf
 have hhk:h.next≤k1:=by omega
 have c1:iLt (i:Int) ((n / 3:Nat):Int)=true:=E8 hi
 have l9:=Ct o.rb
 obtain⟨h1,x1,LK⟩:=Tc (m:=m+1) W1 o.row (Rt.ext W o.x) hT (d.ext W o.x) (p:=i) (by omega)
 have al:=fun (F:CallF) (e:Env)=>Bd (F:=F) (e:=e) x1.wf (n:=6) (t:=DL)
 have Ra:=Hp.Row.alloc x1.wf Gc (show(AU K0).length=6 from rfl)
 have y2:h1.Ext (h1.push (.cells DL 6 0)):=(Hp.Ext.refl x1.wf).push _
 have n2:(h1.push (.cells DL 6 0)).next=h1.next+1:=rfl
 generalize h1.push (.cells DL 6 0)=h2 at al Ra y2 n2
 have c0':iNe 0 0=false:=Cm rfl
 have hx1:=x1.next
 rcases LK with ⟨ns,u,hH,hk,hu⟩|⟨hH,bad,hk,hbad⟩
 ·
  have hN:=Px hH
  have hnum:=QY hH.1
  have hB:Du T M i=false:=by
   cases hb:Du T M i
   ·rfl
   ·exact absurd ⟨ns,hH⟩ (G6.1 hb).1
  have u1:=hu.vs.one
  obtain⟨st,_,y3,R3,n3⟩:=Kg x1.wf y2 (Nat.le_refl _) Ra rfl (k:=⟨at6 ns 1,at6 ns 2,at6 ns 3,at6 ns 0,dat M i (at6 ns 4),i,u⟩) u1.2.1
  generalize hX:(⟨at6 ns 1,at6 ns 2,at6 ns 3,at6 ns 0,dat M i (at6 ns 4),i,u⟩:Kt)=X at hk st y3 R3 n3
  generalize h2.wr h1.next 0 (AU X)=h3 at st y3 R3 n3
  have o3:=o.ext (x1.trans y3)
  have hXu:X.u=u:=by rw[← hX]
  obtain⟨_,_,_,_,_,_,ld,_⟩:=Bn R3
  have sl:=fun (F:CallF) (e:Env) (he:AB 70 e=ktV X)=>Lx (F:=F) o3.x.wf he
  obtain⟨h5,v5,k5,x5,q5,n5,f5⟩:=SA o3.x hhk o3.le o3.ko (x:=X) (by rw[hXu];exact u1.2.1) (by have:=kP o;omega)
  have f5':∀ b el L,el≠84→h3.Row b el L→h5.Row b el L:=fun b el L he r=>f5 b el L (o3.ko.nb r he) r
  have hlen:(dat M i (at6 ns 4)).length=at6 ns 4:=Ie d.len (by have:=hH.2.1;omega)
  have okX:KtOk h5 (fun b=>r9<b) X:=by
   rw[← hX]
   refine⟨((hu.ext x1.wf y3).mono fun b hb=>by have hb:g.next≤b:=hb;have:=o.le;omega).keep fun b el L hb he r=>f5' b el L (by omega) r,XI d.byt _ _,by rw[hlen];exact hH.2.1,?_,?_,by show i<65536;omega⟩
   ·obtain⟨_,_,_,h4⟩:=hnum
    unfold rightS at h4
    have:=of_decide_eq_true h4
    exact this.2.2.2.2.2.2.1
   ·obtain⟨_,_,_,h4⟩:=hnum
    unfold rightS at h4 ⊢
    have:=of_decide_eq_true h4
    refine decide_eq_true ⟨this.1,this.2.1,this.2.2.1,this.2.2.2.1,this.2.2.2.2.1,this.2.2.2.2.2.1,this.2.2.2.2.2.2.1,?_⟩
    show(dat M i (at6 ns 4)).length≤65536
    rw[hlen];have:=hH.2.1;omega
  have o5:O1 h h5 T M bs r9 k1 bd tb i v5 mv (ks++[X])→True:=fun _=>trivial
  have mk5:h5.Own k1 3 mv (ints .i64 ((mrk T M i).map Int.ofNat)):=by
   rcases o3.ms with h1'|⟨b,h1',h2',h3',h4'⟩
   ·exact .inl h1'
   ·exact .inr ⟨b,h1',f5' b _ _ (by omega) h2',h3',h4'⟩
  obtain⟨h6,mv6,k6,x6,m6,n6,f6⟩:∃ g' mv',DM 1 8 3 mv (.slice (some ⟨h5.next,0,none⟩) 1 1) (h5.pushRow 0 [.int .i64 (i:Int)])=.ok mv' g'∧h.Ext g'∧g'.Own k1 3 mv' (ints .i64 ((mrk T M i++[i]).map Int.ofNat))∧h5.next≤g'.next∧(∀ b el L,el≠4→h5.Row b el L→g'.Row b el L):=by
   obtain⟨g',mv',a1,a2,a3,a4,a5⟩:=I8 (eb:=8) (en:=3) (kd:=.i64) (n:=(i:Int)) x5 hhk (by have:=o3.le;omega) mk5 (by
    have:=DQ i (fun p=>(lkN T M p).isSome || Du T M p)
    have:(mrk T M i).length≤i:=this
    have:(ints .i64 ((mrk T M i).map Int.ofNat)).length≤i:=by unfold ints;rw[List.length_map,List.length_map];exact this
    omega)
   exact⟨g',mv',a1,a2,by rw[Gz];exact a3,by omega,fun b el L he r=>(a5 b el L (mk5.nb r he) r).1⟩
  have f56:∀ b el L,el≠84→el≠4→h3.Row b el L→h6.Row b el L:=fun b el L h1 h2 r=>f6 b el L h2 (f5' b el L h1 r)
  have is:=fun (F:CallF) (e:Env) (he:AB 12 e=.int .i64 (i:Int))=>EJ (F:=F) x5.wf he
  have a3:=CQ (i:=i) (h:=h6) (by omega)
  have hrun:∃ e2,Ke (call AD (m+6)) e g=.norm e2 h6∧AB 10 e2=v5∧AB 11 e2=mv6∧AB 52 e2=.int .i64 ((i+1:Nat):Int)∧∀ j,j=0∨j=1∨j=2∨j=8∨j=9∨j=51→AB j e2=AB j e:=by
   unfold Ke
   simp only[sT,Nat.reduceLT,Nat.reduceEqDiff,reduceIte,gD,AL,AK,t52,t51,c1,AM,AP,t8,l9,cA0,hk,BA,BL,BM,CZ,EE,al,AX,st,c0',Aq,Ao,ld,sl,BE,t10,k5,is,t11,k6,BK,a3]
   refine⟨_,rfl,by simp[AG],by simp[AG],by simp[AG],fun j hj=>?_⟩
   rcases hj with rfl|rfl|rfl|rfl|rfl|rfl<;>simp only[AG,Nat.reduceLT,Nat.reduceEqDiff,reduceIte]
  obtain⟨e2,r1,r2,r3,r4,r5⟩:=hrun
  refine⟨e2,h6,v5,mv6,ks++[X],r1,⟨x6,?_,f56 _ _ _ (by omega) (by omega) o3.rb,q5.keep fun b el L hb r=>?_,?_,fun k hk=>?_,?_,by have:=o3.le;omega⟩,r2,r3,r4,r5⟩
  ·rw[JV,hB,if_neg (by decide),List.append_nil]
   exact f56 _ _ _ (by omega) (by omega) o3.row
  ·obtain⟨off,nn,c,e1⟩:=hb
   rcases q5 with ⟨e2,_⟩|⟨b',e2,r',_⟩
   ·rw[e2]at e1;cases e1
   ·rw[e2]at e1
    injection e1 with e1 _ _
    injection e1 with e1
    injection e1 with e1 _ _
    rw[← e1]at r ⊢
    refine f6 _ _ _ ?_ r
    intro h4
    rw[h4]at r
    exact Ds r r' (by omega) rfl
  ·rw[List.map_append,o.cs,Po,hN,← hX];rfl
  ·rcases List.mem_append.1 hk with hk|hk
   ·exact⟨((o3.ok k hk).1.keep fun b el L hb he r=>f56 b el L (by omega) (by omega) r),(o3.ok k hk).2⟩
   ·rw[List.mem_singleton.1 hk]
    exact⟨okX.1.keep fun b el L hb he r=>f6 b el L (by omega) r,okX.2⟩
  ·rw[L7,hN,if_pos (by rfl)];exact m6
 ·
  have hN:=Pw hH
  obtain⟨st,_,y3,R3,n3⟩:=Kg x1.wf y2 (Nat.le_refl _) Ra rfl (k:=K0) rfl
  generalize h2.wr h1.next 0 (AU K0)=h3 at st y3 R3 n3
  have o3:=o.ext (x1.trans y3)
  have hcs:ks.map Kt.core=kcs T M (i+1):=by rw[Po,hN,List.append_nil];exact o.cs
  cases hbd:bad with
  |false=>
   rw[hbd]at hk hbad
   have hB:Du T M i=false:=by
    cases hb:Du T M i
    ·rfl
    ·have:=hbad.2 (G6.1 hb).2;cases this
   have a3:=CQ (i:=i) (h:=h3) (by omega)
   have hrun:∃ e2,Ke (call AD (m+6)) e g=.norm e2 h3∧AB 10 e2=v∧AB 11 e2=mv∧AB 52 e2=.int .i64 ((i+1:Nat):Int)∧∀ j,j=0∨j=1∨j=2∨j=8∨j=9∨j=51→AB j e2=AB j e:=by
    unfold Ke
    simp only[sT,Nat.reduceLT,Nat.reduceEqDiff,reduceIte,gD,AL,AK,t52,t51,c1,AM,AP,t8,l9,cA0,hk,BA,BL,BM,CZ,EE,al,AX,st,c0',BK,a3]
    refine⟨_,rfl,by simp[AG,t10],by simp[AG,t11],by simp[AG],fun j hj=>?_⟩
    rcases hj with rfl|rfl|rfl|rfl|rfl|rfl<;>simp only[AG,Nat.reduceLT,Nat.reduceEqDiff,reduceIte]
   obtain⟨e2,r1,r2,r3,r4,r5⟩:=hrun
   refine⟨e2,h3,v,mv,ks,r1,⟨o3.x,?_,o3.rb,o3.ko,hcs,o3.ok,?_,o3.le⟩,r2,r3,r4,r5⟩
   ·rw[JV,hB,if_neg (by decide),List.append_nil];exact o3.row
   ·rw[L7,hN,hB,if_neg (by decide),List.append_nil];exact o3.ms
  |true=>
   rw[hbd]at hk hbad
   have hB:Du T M i=true:=G6.2 ⟨hH,hbad.1 rfl⟩
   have h256:256≤bs:=by have:=W.big;omega
   obtain⟨_,_,_,_,_,l5,_⟩:=A5 o3.row
   have hbl:(bads T M i).length≤i:=DQ i _
   have ad:FK .i64 (.int .i64 ((bads T M i).length:Int)) (.int .i64 1) h3=.ok (.int .i64 (((bads T M i).length+1:Nat):Int)) h3:=CQ (by omega)
   have st5:storeR 1 (.pointer (some ⟨bs,5,none⟩)) (.int .i64 (((bads T M i).length+1:Nat):Int)) h3=.ok noRes (h3.wr bs 5 [.int .i64 (((bads T M i).length+1:Nat):Int)]):=o3.row.storeR (n:=1) (off:=5) o3.x.wf h256 (v:=.int .i64 (((bads T M i).length+1:Nat):Int)) rfl (by show 5+1≤7;omega) rfl
   have ho5:5+[Value.int .i64 (((bads T M i).length+1:Nat):Int)].length≤(slL bd tb nilS nilS (bads T M i).length false).length:=by show 5+1≤7;omega
   have R5:=o3.row.wr_self o3.x.wf ho5
   have x5:=o3.row.wr_ext o3.x hbs.1 ho5
   have n5:=o3.row.wr_next ho5
   have f5:∀ b el L,b≠bs→h3.Row b el L→(h3.wr bs 5 [.int .i64 (((bads T M i).length+1:Nat):Int)]).Row b el L:=fun b el L hb r=>o3.row.wr_other o3.x.wf ho5 r hb
   have hov:over (slL bd tb nilS nilS (bads T M i).length false) 5 [.int .i64 (((bads T M i).length+1:Nat):Int)]=slL bd tb nilS nilS ((bads T M i).length+1) false:=rfl
   rw[hov]at R5
   generalize h3.wr bs 5 [.int .i64 (((bads T M i).length+1:Nat):Int)]=h5 at st5 R5 x5 n5 f5
   have mk5:h5.Own k1 3 mv (ints .i64 ((mrk T M i).map Int.ofNat)):=by
    rcases o3.ms with h1'|⟨b,h1',h2',h3',h4'⟩
    ·exact .inl h1'
    ·exact .inr ⟨b,h1',f5 b _ _ (by omega) h2',h3',h4'⟩
   obtain⟨h6,mv6,k6,x6,m6,n6,f6⟩:∃ g' mv',DM 1 8 3 mv (.slice (some ⟨h5.next,0,none⟩) 1 1) (h5.pushRow 0 [.int .i64 (i:Int)])=.ok mv' g'∧h.Ext g'∧g'.Own k1 3 mv' (ints .i64 ((mrk T M i++[i]).map Int.ofNat))∧h5.next≤g'.next∧(∀ b el L,el≠4→h5.Row b el L→g'.Row b el L):=by
    obtain⟨g',mv',a1,a2,a3,a4,a5⟩:=I8 (eb:=8) (en:=3) (kd:=.i64) (n:=(i:Int)) x5 hhk (by have:=o3.le;omega) mk5 (by
     have:=DQ i (fun p=>(lkN T M p).isSome || Du T M p)
     have:(mrk T M i).length≤i:=this
     have:(ints .i64 ((mrk T M i).map Int.ofNat)).length≤i:=by unfold ints;rw[List.length_map,List.length_map];exact this
     omega)
    exact⟨g',mv',a1,a2,by rw[Gz];exact a3,by omega,fun b el L he r=>(a5 b el L (mk5.nb r he) r).1⟩
   have f56:∀ b el L,b≠bs→el≠4→h3.Row b el L→h6.Row b el L:=fun b el L h1 h2 r=>f6 b el L h2 (f5 b el L h1 r)
   have is:=fun (F:CallF) (e:Env) (he:AB 12 e=.int .i64 (i:Int))=>EJ (F:=F) x5.wf he
   have a3:=CQ (i:=i) (h:=h6) (by omega)
   have l9':=Ct o3.rb
   have hrun:∃ e2,Ke (call AD (m+6)) e g=.norm e2 h6∧AB 10 e2=v∧AB 11 e2=mv6∧AB 52 e2=.int .i64 ((i+1:Nat):Int)∧∀ j,j=0∨j=1∨j=2∨j=8∨j=9∨j=51→AB j e2=AB j e:=by
    unfold Ke
    simp only[sT,Nat.reduceLT,Nat.reduceEqDiff,reduceIte,gD,AL,AK,t52,t51,c1,AM,AP,t8,l9,l9',cA0,hk,BA,BL,BM,CZ,EE,al,AX,st,c0',Au,Aj,AJ,AN,Nat.zero_add,l5,BK,ad,st5,is,BE,t11,k6,a3]
    refine⟨_,rfl,by simp[AG,t10],by simp[AG],by simp[AG],fun j hj=>?_⟩
    rcases hj with rfl|rfl|rfl|rfl|rfl|rfl<;>simp only[AG,Nat.reduceLT,Nat.reduceEqDiff,reduceIte]
   obtain⟨e2,r1,r2,r3,r4,r5⟩:=hrun
   refine⟨e2,h6,v,mv6,ks,r1,⟨x6,?_,f56 _ _ _ (by omega) (by omega) o3.rb,?_,hcs,fun k hk=>⟨((o3.ok k hk).1.keep fun b el L hb he r=>f56 b el L (by have hb:r9<b:=hb;omega) (by omega) r),(o3.ok k hk).2⟩,?_,by have:=o3.le;omega⟩,r2,r3,r4,r5⟩
   ·rw[JV,hB,if_pos rfl,List.length_append]
    exact f6 _ _ _ (by omega) R5
   ·rcases o3.ko with h1'|⟨b,h1',h2',h3',h4'⟩
    ·exact .inl h1'
    ·exact .inr ⟨b,h1',f56 b _ _ (by omega) (by omega) h2',h3',h4'⟩
   ·rw[L7,hN,hB,if_pos (show((none:Option (List Nat)).isSome || true)=true from rfl)];exact m6
end
end
noncomputable section
open Go
set_option maxRecDepth 100000
section
variable {F:CallF}{e:Env}{h g g' h0:Hp}{bs r9 k1 bd tb n i m bad k:Nat}{v mv lv fv:Value}{ks:List Kt}{S:Nat→Prop}{ov:Bool}
theorem Rj(W:g.Wf){L:List Value}(R:g.Row bs 0 L){off:Nat}(ho:off<L.length)(h256:256≤bs)(h1:cellsOf v=[v])(h2:oneCell v=true):
  ∃ g',(∀ (F:CallF) (e:Env) (x y:O),x e=.pointer (some ⟨bs,off,none⟩)→y e=v→Am .free (As 1 x y) F e g=.ok noRes g')∧g'.Row bs 0 (over L off [v])∧g'.next=g.next∧g'.mark=g.mark∧Fx (fun b=>b=bs) g g'∧∀ h0:Hp,h0.Ext g→h0.next≤bs→h0.Ext g':=by
 have Rq:g.quiet.Row bs 0 L:=R.same rfl
 have hoo:off+[v].length≤L.length:=ho
 have ha:BO [v]=true:=by
  show(bif oneCell v then true else false)=true
  rw[h2];rfl
 have st:=Rq.storeR (n:=1) (off:=off) (v:=v) W.quiet h256 (by rw[h1];rfl) (by rw[h1];exact hoo) (by rw[h1];exact ha)
 rw[h1]at st
 have wr:=Rq.wr_self W.quiet hoo
 have fx:=Fx.wr (S:=fun b=>b=bs) W.quiet Rq hoo rfl
 have wx:=fun (h0:Hp) (x:h0.Ext g.quiet) (hb:h0.next≤bs)=>Rq.wr_ext x hb hoo
 have wn:=Rq.wr_next hoo
 generalize g.quiet.wr bs off [v]=q at st wr fx wx wn
 refine⟨g.back q,fun F e x y hx hy=>BQ (by rw[AX,hx,hy];exact st),wr.same rfl,wn,rfl,(fx.from (h:=g) rfl rfl).same rfl rfl,fun h0 x hb=>x.back2 (wx h0 x.quiet hb)⟩
theorem HX(W:g.Wf){L:List Value}(R:g.Row bs 0 L){off:Nat}(ho:off<L.length)(h256:256≤bs)(h1:cellsOf v=[v])(h2:oneCell v=true):
  ∃ g',storeR 1 (.pointer (some ⟨bs,off,none⟩)) v g=.ok noRes g'∧g'.Row bs 0 (over L off [v])∧g'.next=g.next∧Fx (fun b=>b=bs) g g'∧∀ h0:Hp,h0.Ext g→h0.next≤bs→h0.Ext g':=by
 have hoo:off+[v].length≤L.length:=ho
 have ha:BO [v]=true:=by
  show(bif oneCell v then true else false)=true
  rw[h2];rfl
 have st:=R.storeR (n:=1) (off:=off) (v:=v) W h256 (by rw[h1];rfl) (by rw[h1];exact hoo) (by rw[h1];exact ha)
 rw[h1]at st
 exact⟨_,st,R.wr_self W hoo,R.wr_next hoo,Fx.wr (S:=fun b=>b=bs) W R hoo rfl,fun h0 x hb=>R.wr_ext x hb hoo⟩
theorem dE(x0:h0.Ext h)(hk:h0.next≤k)(hk2:k≤h.next){xs:List Value}(o:h.Own k 3 v xs){bw:Nat}{z:Int}(Rw:h.Row bw 0 [.int .i64 z])(hl:xs.length≤1000000):
  ∃ h' v',(∀ (F:CallF) (e:Env) (x y:O),x e=v→y e=.slice (some ⟨bw,0,none⟩) 1 1→Mj x (Be 1 8 3 x y) F e h=.ok v' h')∧h0.Ext h'∧h'.Own k 3 v' (xs++[.int .i64 z])∧h.next<h'.next∧h'.mark=h.mark∧(∀ b el L,¬ blkV v b→h.Row b el L→h'.Row b el L)∧(∀ b,blkV v' b→b=h.next):=by
 have W:=x0.wf
 have cl:h.quiet.Cl (blkV v) 3 v xs:=by
  rcases o with ⟨h1,h2⟩|⟨b,h1,h2,h3,h4⟩
  ·exact .inl ⟨h1,h2⟩
  ·exact .inr ⟨b,4,h1,h2.same rfl,.inl rfl,⟨0,_,_,h1⟩,h4⟩
 have kb:∀ b,blkV v b→h0.next≤b:=fun b hb=>by
  obtain⟨off,n,c,e1⟩:=hb
  rcases o with ⟨h1,h2⟩|⟨b',h1,h2,h3,h4⟩
  ·rw[h1]at e1;cases e1
  ·rw[h1]at e1
   injection e1 with e1 _ _
   injection e1 with e1
   injection e1 with e1 _ _
   omega
 obtain⟨h5,b5,a1,a2,a3,a4,a5,a6,a7,a8,a9⟩:=Wo (eb:=8) (en:=3) x0.quiet cl kb (Rw.same (h':=h.quiet) rfl) rfl hl (by omega)
 have a4:b5=h.next:=a4
 have a5:h5.next=h.next+1:=a5
 have h256:=W.big
 refine⟨h.back h5,.slice (some ⟨b5,0,none⟩) (xs.length+1) (xs.length+1),fun F e x y hx hy=>Sn hx hy a1 (a9 rfl rfl h rfl),x0.back2 a2,.inr ⟨b5,by rw[List.length_append];rfl,a3.same rfl,by omega,by omega⟩,by show h.next<h5.next;omega,rfl,fun b el L hb r=>(a7 b el L hb (r.same rfl)).same rfl,fun b ⟨off,nn,c,e1⟩=>?_⟩
 injection e1 with e1 _ _
 injection e1 with e1
 injection e1 with e1 _ _
 omega
theorem jm(W:h.Wf){rp:Nat}{p:Nat}(Rp:h.Row rp 0 [.int .i64 (p:Int)])(x:Kt):∃ h',call AD (m+1) 62 [ktV x,pt rp] h=.ok (.bool (decide (x.p=p))) h'∧h.Ext h':=by
 have bx:=fun (F:CallF) (e:Env) (he:AB 0 e=ktV x)=>G5 (F:=F) W he
 have x1:=(Hp.Ext.refl W).pushRow 0 (AU x)
 have R:=Hp.Row.new W 0 (AU x)
 generalize h.pushRow 0 (AU x)=h1 at bx x1 R
 obtain⟨_,_,_,_,_,l5,_⟩:=Bn R
 have lp:=Ct (Rp.ext W x1)
 have c1:iEq (x.p:Int) (p:Int)=decide (x.p=p):=by
  by_cases h3:x.p=p
  ·rw[decide_eq_true h3];exact CN (by omega)
  ·rw[decide_eq_false h3];exact BW (by omega)
 refine⟨h1,?_,x1⟩
 rw[ic rfl]
 unfold d62
 simp only[iN,Nat.reduceAdd,sT,Nat.reduceLT,Nat.reduceEqDiff,reduceIte,bx,AJ,AN,Nat.zero_add,AM,AP,l5,lp,AL,AK,c1,lV0]
theorem Uk(W:h.Wf)(R:h.Row bs 0 (slL bd tb lv fv bad ov))(Rb:h.Row r9 0 [pt bs])(K:h.KS S lv ks)(hl:ks.length≤100000){p:Nat}:
  ∃ h',call AD (m+4) 60 [.int .i64 (p:Int),pt r9] h=.ok (.bool (ks.any fun x=>decide (x.p=p))) h'∧h.Ext h':=by
 have b1:=fun (F:CallF) (e:Env) (he:AB 0 e=.int .i64 (p:Int))=>HY (F:=F) W he
 have x1:=(Hp.Ext.refl W).pushRow 0 [.int .i64 (p:Int)]
 have R1:=Hp.Row.new W 0 [.int .i64 (p:Int)]
 generalize h.pushRow 0 [.int .i64 (p:Int)]=h1 at b1 x1 R1
 have lb:=Ct (Rb.ext W x1)
 obtain⟨_,_,_,l3,_⟩:=A5 (R.ext W x1)
 obtain⟨h2,k2,x2⟩:=OL (m:=m+1) (g:=62) (caps:=[pt h.next]) (P:=fun x=>decide (x.p=p)) x1.wf (K.ext W x1) hl fun g xg y hy=>jm (m:=m) xg.wf (R1.ext x1.wf xg) y
 refine⟨h2,?_,x1.trans x2⟩
 rw[ia rfl]
 unfold d60
 simp only[iN,Nat.reduceAdd,sT,Nat.reduceLT,Nat.reduceEqDiff,reduceIte,b1,AM,AP,lb,Au,Aj,AJ,AN,Nat.zero_add,l3,Dw,AY,A3,Bb,k2,lV0]
theorem dA:lC=BG (Ac 4 (Ax Kf)) kv:=rfl
theorem cy:kr=To:=rfl
def freeL(ks:List Kt)(i:Nat):List Nat:=(List.range i).filter fun p=> !(ks.any fun x=>decide (x.p=p))
def outL(ks:List Kt)(mk:List Nat)(i:Nat):List Nat:=(List.range i).filter fun p=> !(ks.any fun x=>decide (x.p=p)) && decide (p∈mk)
theorem IC(ks:List Kt)(i:Nat):freeL ks (i+1)=freeL ks i++(if(ks.any fun x=>decide (x.p=i))=true then []else [i]):=by
 unfold freeL
 rw[List.range_succ,List.filter_append]
 cases h:(ks.any fun x=>decide (x.p=i))<;>simp[h]
theorem J2(ks:List Kt)(mk:List Nat)(i:Nat):outL ks mk (i+1)=outL ks mk i++(if(ks.any fun x=>decide (x.p=i))=true then []else if i∈mk then [i]else []):=by
 unfold outL
 rw[List.range_succ,List.filter_append]
 cases h:(ks.any fun x=>decide (x.p=i))<;>by_cases h2:i∈mk<;>simp[h,h2]
structure O2 (h g:Hp)(mk:List Nat)(bs r9 k1 bd tb i bad:Nat)(w mv fv ou:Value)(ks:List Kt):Prop where
 x:h.Ext g
 row:g.Row bs 0 (slL bd tb w fv bad false)
 rb:g.Row r9 0 [pt bs]
 ko:g.KO k1 w ks
 ok:∀ k∈ks,KtOk g (fun b=>r9<b) k
 fs:g.Own k1 3 fv (ints .i64 ((freeL ks i).map Int.ofNat))
 os:g.Own k1 3 ou (ints .i64 ((outL ks mk i).map Int.ofNat))
 ms:g.Own k1 3 mv (ints .i64 (mk.map Int.ofNat))
 ap:∀ b,(blkV fv b→¬ blkV ou b∧¬ blkV mv b)∧(blkV ou b→¬ blkV mv b)
 le:k1≤g.next
theorem O2.ext{mk:List Nat}{w ou:Value}(o:O2 h g mk bs r9 k1 bd tb i bad w mv fv ou ks)(x:g.Ext g'):O2 h g' mk bs r9 k1 bd tb i bad w mv fv ou ks:=
 have W:=o.x.wf
 ⟨o.x.trans x,o.row.ext W x,o.rb.ext W x,o.ko.ext W x,fun k hk=>⟨(o.ok k hk).1.ext W x,(o.ok k hk).2⟩,o.fs.ext W x,o.os.ext W x,o.ms.ext W x,o.ap,Nat.le_trans o.le x.next⟩
theorem Hp.Own.lt'{en:Nat}{xs:List Value}(o:h.Own k en v xs)(W:h.Wf){b:Nat}(hb:blkV v b):b<h.next:=by
 obtain⟨off,n,c,e1⟩:=hb
 rcases o with ⟨h1,h2⟩|⟨b',h1,h2,h3,h4⟩
 ·rw[h1]at e1;cases e1
 ·have:=h2.lt W
  rw[h1]at e1
  injection e1 with e1 _ _
  injection e1 with e1
  injection e1 with e1 _ _
  omega
theorem Hp.Own.rw_{en:Nat}{xs:List Value}(o:h.Own k en v xs){b:Nat}(hb:blkV v b):h.Row b (en+1) xs:=by
 obtain⟨off,n,c,e1⟩:=hb
 rcases o with ⟨h1,h2⟩|⟨b',h1,h2,h3,h4⟩
 ·rw[h1]at e1;cases e1
 ·rw[h1]at e1
  injection e1 with e1 _ _
  injection e1 with e1
  injection e1 with e1 _ _
  rw[← e1];exact h2
theorem Ya{mk:List Nat}{w ou:Value}(W:h.Wf)(o:O2 h g mk bs r9 k1 bd tb i bad w mv fv ou ks)(hbs:h.next≤bs∧bs<r9∧r9<k1){nn:Nat}(hi:i<nn)(hnn:nn≤30000)(hks:ks.length≤30000)(hmk:mk.length≤30000)
  (t9:AB 9 e=pt r9)(t11:AB 11 e=mv)(t17:AB 17 e=.func (.func 60) ⟨[]⟩ ⟨[pt r9]⟩)(t18:AB 18 e=ou)(Q5:AB 102 e=.int .i64 (nn:Int))(Ok:AB 103 e=.int .i64 (i:Int)):
  ∃ e' g' fv' ou',Kf (call AD (m+6)) e g=.norm e' g'∧O2 h g' mk bs r9 k1 bd tb (i+1) bad w mv fv' ou' ks∧AB 18 e'=ou'∧AB 103 e'=.int .i64 ((i+1:Nat):Int)∧∀ j,j=0∨j=1∨j=2∨j=9∨j=11∨j=17∨j=102→AB j e'=AB j e:=by
 have W1:=o.x.wf
 have hhk:h.next≤k1:=by omega
 have h256:256≤bs:=by have:=W.big;omega
 have c1:iLt (i:Int) (nn:Int)=true:=E8 hi
 obtain⟨h1,k1c,x1⟩:=Uk (m:=m+2) W1 o.row o.rb o.ko.lst (by omega) (p:=i)
 have o1:=o.ext x1
 cases hc:(ks.any fun x=>decide (x.p=i))with
 |true=>
  rw[hc]at k1c
  have a3:=CQ (i:=i) (h:=h1) (by omega)
  have hrun:∃ e2,Kf (call AD (m+6)) e g=.norm e2 h1∧AB 18 e2=ou∧AB 103 e2=.int .i64 ((i+1:Nat):Int)∧∀ j,j=0∨j=1∨j=2∨j=9∨j=11∨j=17∨j=102→AB j e2=AB j e:=by
   unfold Kf
   simp only[sT,Nat.reduceLT,Nat.reduceEqDiff,reduceIte,AL,AK,Ok,Q5,c1,Cj,t17,Ch,AY,A3,List.nil_append,List.singleton_append,k1c,Bt,Br,Bool.not_true,BK,a3]
   refine⟨_,rfl,by simp[AG,t18],by simp[AG],fun j hj=>?_⟩
   rcases hj with rfl|rfl|rfl|rfl|rfl|rfl|rfl<;>simp only[AG,Nat.reduceLT,Nat.reduceEqDiff,reduceIte]
  obtain⟨e2,r1,r2,r3,r4⟩:=hrun
  refine⟨e2,h1,fv,ou,r1,⟨o1.x,o1.row,o1.rb,o1.ko,o1.ok,?_,?_,o1.ms,o1.ap,o1.le⟩,r2,r3,r4⟩
  ·rw[IC,hc,if_pos rfl,List.append_nil];exact o1.fs
  ·rw[J2,hc,if_pos rfl,List.append_nil];exact o1.os
 |false=>
  rw[hc]at k1c
  have xm:=o1.x.marked
  have om:=o1.ext (Hp.Ext.refl o1.x.wf).marked
  have lb:=Ct om.rb
  obtain⟨_,_,_,_,l4,_⟩:=A5 om.row
  have qs:∀ (F:CallF) (e:Env),AB 19 e=.int .i64 (i:Int)→Am .strong (Ah 1 (BJ ty3.zero 1) [(0,1,AB 19)]) F e h1.marked=.ok (.slice (some ⟨h1.next,0,none⟩) 1 1) (h1.marked.back (h1.marked.quiet.pushRow 0 [.int .i64 (i:Int)])):=fun F e he=>DJ (EJ xm.wf.quiet he) ((Hp.Ext.refl xm.wf.quiet).pushRow _ _) (Nat.le_refl _)
  have y2:h1.marked.Ext (h1.marked.back (h1.marked.quiet.pushRow 0 [.int .i64 (i:Int)])):=.back ((Hp.Ext.refl xm.wf.quiet).pushRow _ _)
  have Rw:(h1.marked.back (h1.marked.quiet.pushRow 0 [.int .i64 (i:Int)])).Row h1.next 0 [.int .i64 (i:Int)]:=(Hp.Row.new xm.wf.quiet 0 [.int .i64 (i:Int)]).same rfl
  generalize h1.marked.back (h1.marked.quiet.pushRow 0 [.int .i64 (i:Int)])=h2 at qs y2 Rw
  have o2:=om.ext y2
  have ck:∀ (K:C) (F:CallF) (e:Env),AB 114 e=fv→AB 9 e=pt r9→Cx (AB 114) [AB 9] K F e h2=K F e h2:=fun K F e a1 a2=>by
   rcases o2.fs with ⟨h1',_⟩|⟨b',h1',h2',h3',_⟩
   ·exact Z5 (b:=0) a1 (.inl h1') a2 (.inl h1')
   ·exact Z5 (b:=b') a1 (.inr ⟨_,_,_,h1'⟩) a2 (.inr (by omega))
  have hfl:(freeL ks i).length≤i:=DQ i _
  have hol:(outL ks mk i).length≤i:=DQ i _
  obtain⟨h3,fv3,k3,x3,fs3,n3,_,kp3,nb3⟩:=dE o2.x hhk o2.le o2.fs Rw (by unfold ints;rw[List.length_map,List.length_map];omega)
  have big2:fv3=fv3:=rfl
  have row3:=kp3 _ _ _ (o2.fs.nb o2.row (by omega)) o2.row
  have YX:cellsOf fv3=[fv3]∧oneCell fv3=true:=by
   rcases fs3 with ⟨h1,_⟩|⟨b,h1,_⟩<;>rw[h1]<;>exact⟨rfl,rfl⟩
  obtain⟨h4,k4,row4,n4,_,fx4,e4⟩:=Rj x3.wf row3 (off:=4) (show 4<7 by omega) h256 YX.1 YX.2
  have x4:=e4 h x3 hbs.1
  have kp4:∀ b el L,b≠bs→h3.Row b el L→h4.Row b el L:=fun b el L hb r=>fx4.row x3.wf r hb
  have kp24:∀ b el L,b≠bs→¬ blkV fv b→h2.Row b el L→h4.Row b el L:=fun b el L h1 h2 r=>kp4 b el L h1 (kp3 b el L h2 r)
  have row4:h4.Row bs 0 (slL bd tb w fv3 bad false):=row4
  have ow:∀ {u:Value} {xs:List Value},h2.Own k1 3 u xs→(∀ b,blkV u b→¬ blkV fv b)→h4.Own k1 3 u xs:=fun o hd=>by
   rcases o with h1'|⟨b,h1',h2',h3',h4'⟩
   ·exact .inl h1'
   ·exact .inr ⟨b,h1',kp24 b _ _ (by omega) (hd b ⟨0,_,_,h1'⟩) h2',h3',h4'⟩
  have fs4:h4.Own k1 3 fv3 (ints .i64 ((freeL ks i).map Int.ofNat)++[.int .i64 (i:Int)]):=by
   rcases fs3 with h1'|⟨b,h1',h2',h3',h4'⟩
   ·exact .inl h1'
   ·exact .inr ⟨b,h1',kp4 b _ _ (by omega) h2',h3',h4'⟩
  have os4:=ow o2.os fun b hb hf=>((o2.ap b).1 hf).1 hb
  have ms4:=ow o2.ms fun b hb hf=>((o2.ap b).1 hf).2 hb
  have ko4:h4.KO k1 w ks:=by
   rcases o2.ko with h1'|⟨b,h1',h2',h3',h4'⟩
   ·exact .inl h1'
   ·exact .inr ⟨b,h1',kp24 b _ _ (by omega) (o2.fs.nb h2' (by omega)) h2',h3',h4'⟩
  have rb4:=kp24 _ _ _ (by omega) (o2.fs.nb o2.rb (by omega)) o2.rb
  have ok4:∀ k∈ks,KtOk h4 (fun b=>r9<b) k:=fun k hk=>⟨(o2.ok k hk).1.keep fun b el L hb he r=>kp24 b el L (by have hb:r9<b:=hb;omega) (o2.fs.nb r (by omega)) r,(o2.ok k hk).2⟩
  have ap4:∀ b,(blkV fv3 b→¬ blkV ou b∧¬ blkV mv b)∧(blkV ou b→¬ blkV mv b):=fun b=>⟨fun hb=>by
   have e1:=nb3 b hb
   exact⟨fun h=>by have:=o2.os.lt' o2.x.wf h;omega,fun h=>by have:=o2.ms.lt' o2.x.wf h;omega⟩,(o2.ap b).2⟩
  have k5:=PC (n:=m+4) (x:=(i:Int)) ms4.vals (by rw[List.length_map];omega)
  have hmem:decide ((i:Int)∈mk.map Int.ofNat)=decide (i∈mk):=by
   rw[decide_eq_decide,List.mem_map]
   constructor
   ·rintro⟨a,ha,he⟩
    have:a=i:=Int.ofNat.inj he
    rw[← this];exact ha
   ·exact fun h=>⟨i,h,rfl⟩
  rw[hmem]at k5
  have k5:call AD (m+6) 63 [mv,.int .i64 (i:Int)] h4=.ok (.bool (decide (i∈mk))) h4:=k5
  by_cases him:i∈mk
  ·rw[decide_eq_true him]at k5
   have is:=fun (F:CallF) (e:Env) (he:AB 19 e=.int .i64 (i:Int))=>EJ (F:=F) x4.wf he
   obtain⟨h6,ou6,k6,x6,os6,n6,f6⟩:=I8 (eb:=8) (en:=3) (kd:=.i64) (n:=(i:Int)) x4 hhk (by have:=o2.le;omega) os4 (by unfold ints;rw[List.length_map,List.length_map];omega)
   have a3:=CQ (i:=i) (h:=h6) (by omega)
   have hrun:∃ e2,Kf (call AD (m+6)) e g=.norm e2 h6∧AB 18 e2=ou6∧AB 103 e2=.int .i64 ((i+1:Nat):Int)∧∀ j,j=0∨j=1∨j=2∨j=9∨j=11∨j=17∨j=102→AB j e2=AB j e:=by
    unfold Kf
    simp only[sT,Nat.reduceLT,Nat.reduceEqDiff,reduceIte,AL,AK,Ok,Q5,c1,Cj,t17,Ch,AY,A3,List.nil_append,List.singleton_append,k1c,Bt,Br,Bool.not_false,Ay,AM,AP,t9,lb,Au,Aj,AJ,AN,Nat.zero_add,l4,qs]
    rw[ck _ _ _ (by simp[AG]) (by simp[AG,t9])]
    simp only[sT,Nat.reduceLT,Nat.reduceEqDiff,reduceIte]
    rw[k3 _ _ _ _ (by simp[AG]) (by simp[AG])]
    simp only[sT,Nat.reduceLT,Nat.reduceEqDiff,reduceIte,Au,Aj,AJ,AN,Nat.zero_add]
    rw[k4 _ _ _ _ (by simp[AG]) (by simp[AG])]
    simp only[sT,Nat.reduceLT,Nat.reduceEqDiff,reduceIte,cA0,t11,k5,is,BE,t18,k6,Ok,BK,a3]
    refine⟨_,rfl,by simp[AG],by simp[AG],fun j hj=>?_⟩
    rcases hj with rfl|rfl|rfl|rfl|rfl|rfl|rfl<;>simp only[AG,Nat.reduceLT,Nat.reduceEqDiff,reduceIte]
   obtain⟨e2,r1,r2,r3,r4⟩:=hrun
   have kp6:∀ b el L,¬ blkV ou b→h4.Row b el L→h6.Row b el L:=fun b el L hb r=>(f6 b el L hb r).1
   refine⟨e2,h6,fv3,ou6,r1,⟨x6,kp6 _ _ _ (os4.nb row4 (by omega)) row4,kp6 _ _ _ (os4.nb rb4 (by omega)) rb4,?_,fun k hk=>⟨(ok4 k hk).1.keep fun b el L hb he r=>kp6 b el L (os4.nb r (by omega)) r,(ok4 k hk).2⟩,?_,?_,?_,fun b=>⟨fun hb=>⟨fun h=>?_,((ap4 b).1 hb).2⟩,fun hb hm=>?_⟩,by have:=o2.le;omega⟩,r2,r3,r4⟩
   ·rcases ko4 with h1'|⟨b,h1',h2',h3',h4'⟩
    ·exact .inl h1'
    ·exact .inr ⟨b,h1',kp6 b _ _ (os4.nb h2' (by omega)) h2',h3',h4'⟩
   ·rw[IC,hc,if_neg (by decide),Gz]
    rcases fs4 with h1'|⟨b,h1',h2',h3',h4'⟩
    ·exact .inl h1'
    ·exact .inr ⟨b,h1',kp6 b _ _ ((ap4 b).1 ⟨0,_,_,h1'⟩).1 h2',h3',h4'⟩
   ·rw[J2,hc,if_neg (by decide),if_pos him,Gz];exact os6
   ·rcases ms4 with h1'|⟨b,h1',h2',h3',h4'⟩
    ·exact .inl h1'
    ·exact .inr ⟨b,h1',kp6 b _ _ (fun hb=>(ap4 b).2 hb ⟨0,_,_,h1'⟩) h2',h3',h4'⟩
   ·exact(f6 b _ _ ((ap4 b).1 hb).1 (fs4.rw_ hb)).2 h
   ·exact(f6 b _ _ (fun ho=>(ap4 b).2 ho hm) (ms4.rw_ hm)).2 hb
  ·rw[decide_eq_false him]at k5
   have a3:=CQ (i:=i) (h:=h4) (by omega)
   have hrun:∃ e2,Kf (call AD (m+6)) e g=.norm e2 h4∧AB 18 e2=ou∧AB 103 e2=.int .i64 ((i+1:Nat):Int)∧∀ j,j=0∨j=1∨j=2∨j=9∨j=11∨j=17∨j=102→AB j e2=AB j e:=by
    unfold Kf
    simp only[sT,Nat.reduceLT,Nat.reduceEqDiff,reduceIte,AL,AK,Ok,Q5,c1,Cj,t17,Ch,AY,A3,List.nil_append,List.singleton_append,k1c,Bt,Br,Bool.not_false,Ay,AM,AP,t9,lb,Au,Aj,AJ,AN,Nat.zero_add,l4,qs]
    rw[ck _ _ _ (by simp[AG]) (by simp[AG,t9])]
    simp only[sT,Nat.reduceLT,Nat.reduceEqDiff,reduceIte]
    rw[k3 _ _ _ _ (by simp[AG]) (by simp[AG])]
    simp only[sT,Nat.reduceLT,Nat.reduceEqDiff,reduceIte,Au,Aj,AJ,AN,Nat.zero_add]
    rw[k4 _ _ _ _ (by simp[AG]) (by simp[AG])]
    simp only[sT,Nat.reduceLT,Nat.reduceEqDiff,reduceIte,cA0,t11,k5,Ok,BK,a3]
    refine⟨_,rfl,by simp[AG,t18],by simp[AG],fun j hj=>?_⟩
    rcases hj with rfl|rfl|rfl|rfl|rfl|rfl|rfl<;>simp only[AG,Nat.reduceLT,Nat.reduceEqDiff,reduceIte]
   obtain⟨e2,r1,r2,r3,r4⟩:=hrun
   refine⟨e2,h4,fv3,ou,r1,⟨x4,row4,rb4,ko4,ok4,?_,?_,ms4,ap4,by have:=o2.le;omega⟩,r2,r3,r4⟩
   ·rw[IC,hc,if_neg (by decide),Gz];exact fs4
   ·rw[J2,hc,if_neg (by decide),if_neg him,List.append_nil];exact os4
end
end
noncomputable section
open Go
set_option maxRecDepth 100000
theorem ll:ZI.zero=[.pointer none,.pointer none,.int .i64 0,.slice none 0 0,.slice none 0 0,.int .i64 0,.bool false]:=by kernel_rfl
theorem d7:Bv .mt 0 [.pointer none]=some qg:=by kernel_rfl
section
variable {F:CallF}{e:Env}{h:Hp}{n:Nat}
theorem Zu{g1 g2 g3:O}{a b:Nat}(h1:g1 e=pt a)(h2:g2 e=pt b)(h3:g3 e=.int .i64 100):Bp ZI.zero [(0,1,g1),(1,1,g2),(2,1,g3)] F e h=.ok (.agg ⟨slL a b nilS nilS 0 false⟩) h:=by
 rw[EN,ll,A6 (hk:=by rw[h1];rfl),h1,A6 (hk:=by rw[h2];rfl),h2,A6 (hk:=by rw[h3];rfl),h3]
 simp only[show ∀ a,cellsOf (pt a)=[pt a]from fun _=>rfl,DO,List.length_singleton,List.length_cons,List.length_nil,over,List.take,List.drop,List.append_eq,List.nil_append,List.cons_append,Nat.reduceAdd,Nat.reduceLeDiff,if_true,CL,reduceIte]
 rfl
theorem qq{n:Nat}(hn:n≤1000000):Re .i64 (.int .i64 (n:Int)) (.int .i64 3) h=.ok (.int .i64 ((n / 3:Nat):Int)) h:=by
 have:((n:Nat):Int).tdiv 3=((n / 3:Nat):Int):=rfl
 rw[Kn (by omega),this,Ba (by omega)]
end
end
noncomputable section
open Go
set_option maxRecDepth 100000
theorem eY:HM.k=.ptr 80:=by kernel_rfl
theorem UK:Se.k=.slice 3:=by kernel_rfl
theorem ZH:Vu.k=.slice 83:=by kernel_rfl
def headL(T:List Nat)(a b c:Int)(s:Nat)(l:List Nat):List Nat:=EA T (KZ (B6 a.toNat b.toNat c.toNat s l.length (B3 T l)))
theorem Dg{a b c:Int}{s n:Nat}(h:rightS a b c s n=true):0≤a∧a≤1099511627776∧0≤b∧b<255∧1≤c∧c≤1099511627776∧(s=1∨s=2)∧n≤65536:=of_decide_eq_true h
theorem F2{T:List Nat}{a b c:Int}{s:Nat}{l:List Nat}(h:rightS a b c s l.length=true):(headL T a b c s l).length=64:=by
 obtain⟨h1,h2,h3,h4,h5,h6,h7,h8⟩:=Dg h
 unfold headL KZ
 rw[Hi,MJ]
 have:=NY (a:=a.toNat) (b:=b.toNat) (c:=c.toNat) (s:=s) (m:=l.length) (t:=B3 T l) (by omega) (by omega) (by omega) (by omega) h8 (Hm T l)
 omega
theorem Lo{T:List Nat}{a b c:Int}{s:Nat}{l:List Nat}:∀ x∈headL T a b c s l,x<256:=Qt (Tt Np)
theorem O8{l:List Nat}(h:l.length=64):Cd l 0=l:=by
 unfold Cd
 rw[Nat.mul_zero,List.drop_zero,List.take_of_length_le (by omega),h]
 exact List.append_nil l
def JP(p:Nat)(l:List Nat):List Deed:=(List.range ((l.length+63) / 64)).map (fun j=>Deed.w (p * 3+1+j) (Cd l j))++[.f]
def Fk(p:Nat)(H:List Nat):List Deed:=[.w (p * 3) H,.f]
theorem MU:∀ (ds:List Deed) (M:List Nat) (cs:List (Nat×List Nat)),(F9 M cs (ds++[.f])).2=[]
 |[],M,cs=>rfl
 |.w i l::ds,M,cs=>MU ds _ _
 |.f::ds,M,cs=>MU ds _ _
theorem cx{n p:Nat}{l:List Nat}(hp:3 * p+3≤n)(hl:1≤l.length∧l.length≤100)(hb:∀ x∈l,x<256){H:List Nat}(hH:H.length=64)(hHb:∀ x∈H,x<256):Eq n [] (JP p l++Fk p H):=by
 have hk:(l.length+63) / 64=1∨(l.length+63) / 64=2:=by omega
 unfold JP Fk
 rcases hk with hk|hk<;>rw[hk]
 ·exact⟨fun x hx=>(by cases hx),by show p * 3+1+0<n;omega,CW _ _,LW hb _,by simp,by simp,fun x hx=>(by cases hx),by omega,hH,hHb,by simp,by simp,trivial⟩
 ·refine⟨fun x hx=>(by cases hx),by show p * 3+1+0<n;omega,CW _ _,LW hb _,fun x hx=>?_,by show p * 3+1+1<n;omega,CW _ _,LW hb _,by simp,by simp,fun x hx=>(by cases hx),by omega,hH,hHb,by simp,by simp,trivial⟩
  have:=List.mem_singleton.1 hx
  rw[this]
  show p * 3+1+0≠p * 3+1+1
  omega
theorem Tn{n p:Nat}(hp:3 * p+3≤n){H:List Nat}(hH:H.length=64)(hHb:∀ x∈H,x<256):Eq n [] (Fk p H):=⟨fun x hx=>(by cases hx),by omega,hH,hHb,by simp,by simp,trivial⟩
def C2(T M:List Nat)(p:Nat)(l H:List Nat):List Nat:=(F9 M [] (JP p l++Fk p H)).1
def Fv(M:List Nat)(p:Nat)(H:List Nat):List Nat:=(F9 M [] (Fk p H)).1
section
variable {F:CallF}{e:Env}{h h' h0:Hp}{S:Nat→Prop}{A:At}{T M:List Nat}{c0 bad m k p:Nat}{arm:Int}{ks:List Kt}{fr:List Nat}{v lv fv:Value}{ov:Bool}
theorem Me(R:h.Row A.bs 0 (slL A.bd A.tb lv fv bad false)):call AD (m+1) 38 [pt A.bs] h=.ok (.int .i64 0) h:=by
 obtain⟨l0,_,_,_,_,_,l6⟩:=A5 R
 have n1:∀ e:Env,AB 0 e=pt A.bs→oEq HM.k false (AB 0) (kV (.pointer none)) (call AD m) e h=.ok (.bool false) h:=fun e he=>JA eY he
 have n2:∀ e:Env,AB 10 e=pt A.bd→oEq Vt.k false (AB 10) (kV (.pointer none)) (call AD m) e h=.ok (.bool false) h:=fun e he=>JA eW he
 rw[iK rfl]
 unfold d38
 simp only[iN,Nat.reduceAdd,sT,Nat.reduceLT,Nat.reduceEqDiff,reduceIte,gD,n1,Au,Aj,AJ,AN,Nat.zero_add,AM,AP,l0,n2,l6,lV0]
theorem jL{n:Nat}{h:Hp}(W:h.Wf){u:Value}{xs:List Value}(V:h.Vals u xs)(ha:BO xs=true)(hl:xs.length≤1000000):
  ∃ h' v,call AD (n+1) 48 [u] h=.ok v h'∧h.Ext h'∧h'.WI (fun b=>h.next≤b) v xs:=by
 rcases V with ⟨rfl,rfl⟩|⟨b,off,c,el,L,h1,h2,h3,h4⟩
 ·have ne:∀ e:Env,AB 0 e=.slice none 0 0→oEq Se.k false (AB 0) (kV (.slice none 0 0)) (call AD n) e h=.ok (.bool true) h:=fun e he=>Iz (t:=0) UK he
  refine⟨h,nilS,?_,.refl W,.inl ⟨rfl,rfl⟩⟩
  rw[Ja rfl]
  unfold d48
  simp only[iN,Nat.reduceAdd,sT,Nat.reduceLT,Nat.reduceEqDiff,reduceIte,ne,lV0]
 ·have V:h.Vals u xs:=.inr ⟨b,off,c,el,L,h1,h2,h3,h4⟩
  have x1:=(Hp.Ext.refl W).pushRow 0 []
  have R:=Hp.Row.new W 0 []
  have es:=fun (e:Env) (t:List Value)=>Jg (F:=call AD n) (e:=e) (t:=t) W
  have n1:(h.pushRow 0 []).next=h.next+1:=rfl
  generalize h.pushRow 0 []=g at x1 R es n1
  have ne:∀ e:Env,AB 0 e=u→oEq Se.k false (AB 0) (kV (.slice none 0 0)) (call AD n) e h=.ok (.bool false) h:=fun e he=>Iy (t:=0) UK (he.trans h1)
  have V1:=V.ext W x1
  have big:=W.big
  rcases Nat.eq_zero_or_pos xs.length with hz|hz
  ·obtain rfl:xs=[]:=List.eq_nil_of_length_eq_zero hz
   have ap:DM 1 8 3 (.slice (some ⟨h.next,0,none⟩) 0 0) u g=.ok (.slice (some ⟨h.next,0,none⟩) 0 0) (g.wr h.next 0 []):=HB x1.wf big R (fun k=>V1.src rfl k) V1.lenV
   have R2:=R.wr_self x1.wf (off:=0) (vs:=[]) (Nat.le_refl _)
   refine⟨_,.slice (some ⟨h.next,0,none⟩) 0 0,?_,R.wr_ext x1 (Nat.le_refl _) (off:=0) (vs:=[]) (Nat.le_refl _),.inr ⟨h.next,0,rfl,R2,.inr rfl,Nat.le_refl _⟩⟩
   rw[Ja rfl]
   unfold d48
   simp only[iN,Nat.reduceAdd,sT,Nat.reduceLT,Nat.reduceEqDiff,reduceIte,ne,es,BE,ap,lV0]
  ·obtain⟨h2,a1,a2,a3,a4,a5⟩:=EI (eb:=8) (en:=3) x1 R (es:=1) (fun k=>V1.src rfl k) V1.lenV (by omega) hz ha (by omega)
   refine⟨h2,_,?_,a2,.inr ⟨g.next,3+1,rfl,a3,.inl rfl,by omega⟩⟩
   rw[Ja rfl]
   unfold d48
   simp only[iN,Nat.reduceAdd,sT,Nat.reduceLT,Nat.reduceEqDiff,reduceIte,ne,es,BE,a1,lV0]
theorem RW(W:h.Wf)(K:h.KS S v ks)(hu:∀ k∈ks,oneCell k.u=true)(h0:ks=[]→v=.slice none 0 0)(hl:ks.length≤10000):
  ∃ h' w,call AD (m+1) 49 [v] h=.ok w h'∧h.Ext h'∧h'.KO h.next w ks:=by
 rcases K with ⟨rfl,rfl⟩|⟨b,c,el,L,h1,hcc,h2,hL,ht,hel,h3⟩
 ·have ne:∀ e:Env,AB 0 e=.slice none 0 0→oEq Vu.k false (AB 0) (kV (.slice none 0 0)) (call AD m) e h=.ok (.bool true) h:=fun e he=>Iz (t:=0) ZH he
  refine⟨h,nilS,?_,.refl W,.inl ⟨rfl,rfl⟩⟩
  rw[RS rfl]
  unfold d49
  simp only[iN,Nat.reduceAdd,sT,Nat.reduceLT,Nat.reduceEqDiff,reduceIte,ne,lV0]
 ·have hpos:0<ks.length:=by
   rcases Nat.eq_zero_or_pos ks.length with hz|hz
   ·have:=h0 (List.eq_nil_of_length_eq_zero hz)
    rw[this]at h1;cases h1
   ·exact hz
  have x1:=(Hp.Ext.refl W).pushRow 0 []
  have R:=Hp.Row.new W 0 []
  have es:=fun (e:Env) (t:List Value)=>Jg (F:=call AD m) (e:=e) (t:=t) W
  have n1:(h.pushRow 0 []).next=h.next+1:=rfl
  generalize h.pushRow 0 []=g at x1 R es n1
  have ne:∀ e:Env,AB 0 e=v→oEq Vu.k false (AB 0) (kV (.slice none 0 0)) (call AD m) e h=.ok (.bool false) h:=fun e he=>Iy (t:=0) ZH (he.trans h1)
  have R1:=h2.ext W x1
  have ha:BO (flK ks)=true:=by
   clear h1 h2 R1 hl hpos h0 hcc hL ht
   induction ks with
   |nil=>rfl
   |cons k l ih=>
    refine Oa fun x hx=>?_
    obtain⟨y,hy,hxy⟩:=List.mem_flatMap.1 hx
    have huy:=hu y hy
    have hxy:x∈[Value.int .i64 y.a,.int .i64 y.b,.int .i64 y.c,.int .u8 (y.s:Int),y.u,.int .i64 (y.p:Int)]:=hxy
    simp only[List.mem_cons,List.mem_nil_iff,or_false]at hxy
    rcases hxy with rfl|rfl|rfl|rfl|rfl|rfl
    all_goals first|exact huy|rfl
  have big:=W.big
  obtain⟨h2',a1,a2,a3,a4,a5⟩:=EI (eb:=64) (en:=83) (u:=v) (cs:=flK ks) (n:=ks.length) x1 R (es:=6) (fun K=>by
   have e1:=R1.srcE (es:=6) (off:=0) (n:=ks.length) (sl:=ks.length) (c:=c) (k:=K) (by omega)
   rw[h1,e1,List.drop_zero,Nat.mul_comm ks.length 6,ht]) (by rw[h1];rfl) (by rw[CF];omega) hpos ha (by omega)
  refine⟨h2',_,?_,a2,.inr ⟨g.next,rfl,a3,by omega,by omega⟩⟩
  rw[RS rfl]
  unfold d49
  simp only[iN,Nat.reduceAdd,sT,Nat.reduceLT,Nat.reduceEqDiff,reduceIte,ne,es,BE,a1,lV0]
def Hp.KN(h:Hp)(k:Nat)(v:Value)(ks:List Kt):Prop:=h.KO k v ks∨(ks=[]∧∃ b,v=.slice (some ⟨b,0,none⟩) 0 0∧h.Row b 0 []∧k≤b∧256≤b)
theorem Sv(W:h.Wf)(K:h.KS S v ks)(hu:∀ k∈ks,oneCell k.u=true)(hl:ks.length≤10000):
  ∃ h' w,call AD (m+1) 49 [v] h=.ok w h'∧h.Ext h'∧h'.KN h.next w ks:=by
 have K0:=K
 rcases K with ⟨rfl,rfl⟩|⟨b,c,el,L,h1,hcc,h2,hL,ht,hel,h3⟩
 ·obtain⟨h',w,a,b,c⟩:=RW (m:=m) W K0 hu (fun _=>rfl) hl
  exact⟨h',w,a,b,.inl c⟩
 ·rcases Nat.eq_zero_or_pos ks.length with hz|hz
  ·obtain rfl:ks=[]:=List.eq_nil_of_length_eq_zero hz
   have x1:=(Hp.Ext.refl W).pushRow 0 []
   have R:=Hp.Row.new W 0 []
   have es:=fun (e:Env) (t:List Value)=>Jg (F:=call AD m) (e:=e) (t:=t) W
   generalize h.pushRow 0 []=g at x1 R es
   have ne:∀ e:Env,AB 0 e=v→oEq Vu.k false (AB 0) (kV (.slice none 0 0)) (call AD m) e h=.ok (.bool false) h:=fun e he=>Iy (t:=0) ZH (he.trans h1)
   have R1:=h2.ext W x1
   have ap:DM 6 64 83 (.slice (some ⟨h.next,0,none⟩) 0 0) v g=.ok (.slice (some ⟨h.next,0,none⟩) 0 0) (g.wr h.next 0 []):=HB x1.wf W.big R (fun K=>by
    have e1:=R1.srcE (es:=6) (off:=0) (n:=0) (sl:=0) (c:=c) (k:=K) (by omega)
    rw[h1]
    exact e1) (by rw[h1];rfl)
   have R2:=R.wr_self x1.wf (off:=0) (vs:=[]) (Nat.le_refl _)
   refine⟨_,.slice (some ⟨h.next,0,none⟩) 0 0,?_,R.wr_ext x1 (Nat.le_refl _) (off:=0) (vs:=[]) (Nat.le_refl _),.inr ⟨rfl,h.next,rfl,R2,Nat.le_refl _,W.big⟩⟩
   rw[RS rfl]
   unfold d49
   simp only[iN,Nat.reduceAdd,sT,Nat.reduceLT,Nat.reduceEqDiff,reduceIte,ne,es,BE,ap,lV0]
  ·obtain⟨h',w,a,b,c⟩:=RW (m:=m) W K0 hu (fun h=>by rw[h]at hz;exact absurd hz (Nat.lt_irrefl 0)) hl
   exact⟨h',w,a,b,.inl c⟩
theorem Z8{xs:List Value}{z:Value}(o:h.WI S v (z::xs)):∃ w,h.Vals w xs∧∀ (F:CallF) (e:Env) (x:O),x e=v→Db 3 1 x (some (kV (.int .i64 1))) none none F e h=.ok w h:=by
 rcases o with ⟨_,h2⟩|⟨b,el,hv,Rb,hel,_⟩
 ·cases h2
 ·have hl:(z::xs).length=xs.length+1:=rfl
  have key:∀ (F:CallF) (e:Env) (x:O),x e=v→Db 3 1 x (some (kV (.int .i64 1))) none none F e h=Bc (some ⟨b,0,none⟩) 1 1 (xs.length+1) (xs.length+1) h:=fun F e x hx=>by
   show(match x e with|.slice a n c=>DB e n c (some (kV (.int .i64 1))) none none (fun l hh m=>Dn 3 1 a false l hh m h)|_=>.no)=_
   rw[hx,hv,hl]
   show(bif Nat.ble 1 (xs.length+1)then Dn 3 1 (some ⟨b,0,none⟩) false 1 (xs.length+1) (xs.length+1) h else .no)=_
   rw[Af.2 (show 1≤xs.length+1 by omega)]
   show(bif Eb 3 (some ⟨b,0,none⟩) h then Bc (some ⟨b,0,none⟩) 1 1 (xs.length+1) (xs.length+1) h else .no)=_
   have:Eb 3 (some ⟨b,0,none⟩) h=true:=by
    obtain⟨cc,hcc,_⟩:=Rb.rowOf
    unfold Eb
    simp only[hcc]
    rcases hel with rfl|rfl<;>rfl
   rw[this];rfl
  cases xs with
  |nil=>
   refine⟨.slice (some ⟨b,0,none⟩) 0 0,.inr ⟨b,0,0,el,_,rfl,Rb,Nat.zero_le _,rfl⟩,fun F e x hx=>?_⟩
   rw[key F e x hx];rfl
  |cons y ys=>
   refine⟨.slice (some ⟨b,1,none⟩) (ys.length+1) (ys.length+1),.inr ⟨b,1,ys.length+1,el,_,rfl,Rb,?_,?_⟩,fun F e x hx=>?_⟩
   ·show 1+(ys.length+1)≤ys.length+1+1
    omega
   ·show((z::y::ys).drop 1).take (y::ys).length=y::ys
    exact List.take_length
   ·rw[key F e x hx]
    show Bc (some ⟨b,0,none⟩) 1 1 (ys.length+1+1) (ys.length+1+1) h=_
    unfold Bc
    simp only[Aa]
    have e1:Nat.beq (ys.length+1+1) 1=false:=rfl
    have e2:Nat.sub (ys.length+1+1) 1=ys.length+1:=rfl
    simp only[e1,e2]
theorem O5{g1 g2 g3 g5:O}{a b c:Int}{u:Value}(h1:g1 e=.int .i64 a)(h2:g2 e=.int .i64 b)(h3:g3 e=.int .i64 c)(h5:g5 e=u)(hc:cellsOf u=[u])(hk:known u=true):
  Bp Hq.zero [(0,1,g1),(1,1,g2),(2,1,g3),(3,1,kV (.int .u8 1)),(4,1,g5)] F e h=.ok (B7 a b c 1 u) h:=by
 rw[EN,Si,A6 (hk:=by rw[h1];rfl),h1,A6 (hk:=by rw[h2];rfl),h2,A6 (hk:=by rw[h3];rfl),h3,A6,A6 (hk:=by rw[h5];exact hk),h5,hc]
 simp only[G1,DO,List.length_singleton,List.length_cons,List.length_nil,A0,over,List.take,List.drop,List.append_eq,List.nil_append,List.cons_append,Nat.reduceAdd,Nat.reduceLeDiff,if_true,CL,reduceIte]
 rfl
theorem Sl.bsx{ks':List Kt}{fr':List Nat}{lv' fv':Value}{bad':Nat}{ov':Bool}(s:Sl h A T M c0 arm ks fr lv fv bad ov)(W:h.Wf)(x:Fx (fun b=>b=A.bs) h h')(row:h'.Row A.bs 0 (slL A.bd A.tb lv' fv' bad' ov'))(ls:h'.KS (fun b=>¬ A.D b) lv' ks')(ko:∀ k∈ks',KtOk h' (fun b=>¬ A.D b) k)
  (fs:h'.WI (fun b=>¬ A.D b) fv' (ints .i64 (fr'.map Int.ofNat)))(le:ks'.length≤1000∧fr'.length≤1000∧bad'≤1000∧∀ p∈fr',3 * p+3≤A.n):Sl h' A T M c0 arm ks' fr' lv' fv' bad' ov':=
 ⟨row,s.dk.fr W x (fun h=>s.ne.1 h.symm) (fun h=>s.ne.2.1 h.symm) (fun h=>s.ne.2.2.1 h.symm),x.row W s.tab (fun h=>s.ne.2.2.2.1 (.inl h)),s.tok,ls,ko,fs,s.ne,le⟩
end
end
noncomputable section
open Go
set_option maxRecDepth 100000
theorem N6:∀ (ks:List Kt) (j:Nat) (x:Kt),j<ks.length→over (flK ks) (6 * j) (AU x)=flK (ks.set j x)
 |[],j,x,h=>by cases h
 |k::ks,0,x,h=>by
  show over (AU k++flK ks) 0 (AU x)=AU x++flK ks
  exact MI rfl
 |k::ks,j+1,x,h=>by
  have ih:=N6 ks j x (by simpa using h)
  show over (AU k++flK ks) (6 * (j+1)) (AU x)=AU k++flK (ks.set j x)
  rw[← ih]
  unfold over
  have e1:6 * (j+1)=(AU k).length+6 * j:=by show _=6+_;omega
  have e2:6 * (j+1)+(AU x).length=(AU k).length+(6 * j+(AU x).length):=by rw[e1];omega
  rw[e2,List.drop_length_add_append,e1,List.take_length_add_append,List.append_assoc,List.append_assoc,List.append_assoc]
def IF(x:Kt):List Kt→List Kt
 |[]=>[x]
 |y::r=>if HD x y<0 then y::IF x r else x::y::r
def IG(A:List Kt)(x:Kt):List Kt:=(IF x A.reverse).reverse
def srt:List Kt→List Kt→List Kt
 |A,[]=>A
 |A,x::B=>srt (IG A x) B
theorem NO(x y:Kt)(r:List Kt):IF x (y::r)=if HD x y<0 then y::IF x r else x::y::r:=rfl
theorem Pi(x:Kt):∀ l:List Kt,(IF x l).length=l.length+1
 |[]=>rfl
 |y::r=>by
  unfold IF
  split
  ·rw[List.length_cons,Pi x r,List.length_cons]
  ·rfl
theorem Lq(A:List Kt)(x:Kt):(IG A x).length=A.length+1:=by
 unfold IG
 rw[List.length_reverse,Pi,List.length_reverse]
theorem Pj{x z:Kt}:∀ {l:List Kt},z∈IF x l↔z=x∨z∈l
 |[]=>by simp[IF]
 |y::r=>by
  unfold IF
  split
  ·rw[List.mem_cons,Pj,List.mem_cons]
   constructor
   ·rintro (h|h|h)
    ·exact .inr (.inl h)
    ·exact .inl h
    ·exact .inr (.inr h)
   ·rintro (h|h|h)
    ·exact .inr (.inl h)
    ·exact .inl h
    ·exact .inr (.inr h)
  ·exact List.mem_cons
theorem Pk{A:List Kt}{x z:Kt}:z∈IG A x↔z=x∨z∈A:=by
 unfold IG
 rw[List.mem_reverse,Pj,List.mem_reverse]
theorem NP{x:Kt}:∀ {R Q:List Kt},(∀ y∈R,HD x y<0)→IF x (R++Q)=R++IF x Q
 |[],Q,_=>rfl
 |y::R,Q,h=>by
  rw[List.cons_append,NO,if_pos (h y List.mem_cons_self),NP fun z hz=>h z (List.mem_cons_of_mem _ hz)]
  rfl
theorem TV{x:Kt}{P Q:List Kt}(hQ:∀ y∈Q,HD x y<0)(hP:P=[]∨∃ P' y,P=P'++[y]∧¬ HD x y<0):IG (P++Q) x=P++x::Q:=by
 unfold IG
 rw[List.reverse_append,NP fun y hy=>hQ y (List.mem_reverse.1 hy)]
 have e:IF x P.reverse=x::P.reverse:=by
  rcases hP with rfl|⟨P',y,rfl,hy⟩
  ·rfl
  ·rw[List.reverse_append]
   show IF x (y::P'.reverse)=_
   unfold IF
   rw[if_neg hy];rfl
 rw[e,List.reverse_append,List.reverse_cons,List.reverse_reverse,List.reverse_reverse,List.append_assoc];rfl
theorem JH{α:Type}{x y:α}:∀ {P R:List α},(P++x::R).set P.length y=P++y::R
 |[],R=>rfl
 |z::P,R=>by
  show z::(P++x::R).set P.length y=_
  rw[JH];rfl
theorem Nc{l Z vs:List Value}{o:Nat}(h:o+vs.length≤l.length):over (l++Z) o vs=over l o vs++Z:=by
 unfold over
 rw[List.take_append_of_le_length (by omega),List.drop_append_of_le_length h,List.append_assoc,List.append_assoc,List.append_assoc]
theorem Fd{α:Type}{x:α}{P R:List α}:(P++x::R)[P.length]? =some x:=by
 rw[List.getElem?_append_right (Nat.le_refl _),Nat.sub_self];rfl
theorem I3{α:Type}{x y:α}{P R:List α}:(P++y::x::R)[P.length+1]? =some x:=by
 rw[List.getElem?_append_right (by omega),show P.length+1 - P.length=1 by omega];rfl
section
variable {F:CallF}{e:Env}{h h':Hp}{S:Nat→Prop}{bl n c:Nat}{ks:List Kt}{Z:List Value}
theorem Of(R:h.Row bl 84 (flK ks++Z))(hn:n=ks.length)(hc:ks.length≤c):h.KS (fun b=>b=bl) (.slice (some ⟨bl,0,none⟩) n c) ks:=by
 subst hn
 exact .inr ⟨bl,c,84,_,rfl,hc,R,by rw[List.length_append,CF];omega,by rw[List.take_append_of_le_length (by rw[CF];omega),← CF,List.take_length],.inl rfl,rfl⟩
theorem Xr(W:h.Wf)(R:h.Row bl 84 (flK ks++Z))(h256:256≤bl){j:Nat}(hj:j<ks.length){x:Kt}(hu:oneCell x.u=true):
  ∃ h',(∀ (F:CallF) (e:Env) (g g':O),g e=.pointer (some ⟨bl,6 * j,none⟩)→g' e=ktV x→Am .free (As 6 g g') F e h=.ok noRes h')∧Fx (fun b=>b=bl) h h'∧h'.Row bl 84 (flK (ks.set j x)++Z)∧h'.next=h.next∧h'.mark=h.mark:=by
 have Rq:h.quiet.Row bl 84 (flK ks++Z):=R.same rfl
 have hoo1:6 * j+(AU x).length≤(flK ks).length:=by rw[CF];show 6 * j+6≤_;omega
 have hoo:6 * j+(AU x).length≤(flK ks++Z).length:=by rw[List.length_append];omega
 have st:=Rq.storeR (n:=6) (off:=6 * j) (v:=ktV x) W.quiet h256 rfl hoo (GL hu)
 have wr:=Rq.wr_self W.quiet hoo
 rw[Nc hoo1,N6 ks j x hj]at wr
 have fx:=Fx.wr (S:=fun b=>b=bl) W.quiet Rq hoo rfl
 have wn:=Rq.wr_next hoo
 have st:storeR 6 (.pointer (some ⟨bl,6 * j,none⟩)) (ktV x) h.quiet=.ok noRes (h.quiet.wr bl (6 * j) (AU x)):=st
 generalize h.quiet.wr bl (6 * j) (AU x)=q at st wr fx wn
 exact⟨h.back q,fun F e g g' e1 e2=>BQ (by rw[AX,e1,e2];exact st),(fx.from (h:=h) rfl rfl).same rfl rfl,wr.same rfl,wn,rfl⟩
theorem Rs:jnB=U3:=rfl
theorem db(W:h.Wf){P R:List Kt}{x y:Kt}(hks:ks=P++y::x::R)(Rw:h.Row bl 84 (flK ks++Z))(h256:256≤bl)(hn:n=ks.length)(hc:ks.length≤c)(hl:ks.length≤100000)(ux:oneCell x.u=true)(uy:oneCell y.u=true)
  (s0:AB 0 e=.slice (some ⟨bl,0,none⟩) n c)(s9:AB 9 e=.int .i64 ((P.length+1:Nat):Int)):
  ∃ e' h',swB F e h=.norm e' h'∧Fx (fun b=>b=bl) h h'∧h'.Row bl 84 (flK (P++x::y::R)++Z)∧∀ j,j=0∨j=1∨j=2∨j=3∨j=8∨j=9→AB j e'=AB j e:=by
 have lk:ks.length=P.length+1+1+R.length:=by rw[hks,List.length_append,List.length_cons,List.length_cons];omega
 have K:=Of (Rw.same (h':=h.marked) rfl) hn hc
 obtain⟨b,rfl,ix,ld,_⟩:=K.at (i:=P.length+1) (k:=x) (by rw[hks];exact I3)
 obtain⟨b',hb',iy,ldy,_⟩:=K.at (i:=P.length) (k:=y) (by rw[hks];exact Fd)
 have hb':b'=b:=hb'
 subst hb'
 have a1:Fl Int.sub .i64 (.int .i64 ((P.length+1:Nat):Int)) (.int .i64 1) h.marked=.ok (.int .i64 (P.length:Int)) h.marked:=by
  have:Int.sub ((P.length+1:Nat):Int) 1=(P.length:Int):=by
   show((P.length+1:Nat):Int) - 1=_
   omega
  rw[CT,this,Ba (by omega)]
 obtain⟨h1,q1,f1,R1,n1,mk1⟩:=Xr (j:=P.length+1) W.marked (Rw.same (h':=h.marked) rfl) h256 (by omega) uy
 have e1:ks.set (P.length+1) y=P++y::y::R:=by
  rw[hks,show P++y::x::R=(P++[y])++x::R by simp,show P.length+1=(P++[y]).length by simp,JH];simp
 rw[e1]at R1
 have ix1:idxSR 6 (.slice (some ⟨b',0,none⟩) n c) (.int .i64 (P.length:Int)) h1=.ok (.pointer (some ⟨b',6 * P.length,none⟩)) h1:=by
  have:=DX (h:=h1) (n:=n) (c:=c) (es:=6) (b:=b') (off:=0) (i:=P.length) (k:=.i64) (by omega)
  rwa [Nat.zero_add,Nat.mul_comm]at this
 obtain⟨h2,q2,f2,R2,n2,mk2⟩:=Xr (j:=P.length) f1.wf R1 h256 (by rw[List.length_append];simp) ux
 rw[JH]at R2
 have fm:Fx (fun b=>b=b') h h1:=f1.from (h:=h) rfl rfl
 have hrun:∃ e',swB F e h=.norm e' h2∧∀ j,j=0∨j=1∨j=2∨j=3∨j=8∨j=9→AB j e'=AB j e:=by
  have q1':∀ (F:CallF) (e:Env),AB 51 e=.pointer (some ⟨b',6 * (P.length+1),none⟩)→AB 46 e=ktV y→Am .free (As 6 (AB 51) (AB 46)) F e h.marked=.ok noRes h1:=fun F e a b=>q1 F e _ _ a b
  have q2':∀ (F:CallF) (e:Env),AB 52 e=.pointer (some ⟨b',6 * P.length,none⟩)→AB 50 e=ktV x→Am .free (As 6 (AB 52) (AB 50)) F e h1=.ok noRes h2:=fun F e a b=>q2 F e _ _ a b
  unfold swB
  simp only[sT,Nat.reduceLT,Nat.reduceEqDiff,reduceIte,Ay,Bs,s9,a1,Az,s0,iy,Aq,Ao,ldy,ix,ld,q1',ix1,q2']
  refine⟨_,rfl,fun j hj=>?_⟩
  rcases hj with rfl|rfl|rfl|rfl|rfl|rfl<;>simp only[AG,Nat.reduceLT,Nat.reduceEqDiff,reduceIte]
 obtain⟨e',r1,r2⟩:=hrun
 exact⟨e',h2,r1,fm.trans f2,R2,r2⟩
end
end
noncomputable section
open Go
set_option maxRecDepth 100000
theorem UE{α:Type}(P:List α):P=[]∨∃ P' y,P=P'++[y]:=by
 rcases h:P.reverse with _|⟨y,r⟩
 ·exact .inl (List.reverse_eq_nil_iff.1 h)
 ·refine .inr ⟨r.reverse,y,?_⟩
  rw[← List.reverse_reverse P,h,List.reverse_cons]
section
variable {e:Env}{h h':Hp}{bl n c m:Nat}{ks:List Kt}{Z:List Value}
theorem Xk(W:h.Wf){A B:List Kt}{x:Kt}(Rw:h.Row bl 84 (flK (A++x::B)++Z))(h256:256≤bl)(hn:n=(A++x::B).length)(hc:n≤c)(hl:n≤1000)(hu:∀ k∈A++x::B,oneCell k.u=true)
  (s0:AB 0 e=.slice (some ⟨bl,0,none⟩) n c)(s1:AB 1 e=.int .i64 0)(s3:AB 3 e=.func (.func 51) ⟨[]⟩ ⟨[]⟩)(s9:AB 9 e=.int .i64 (A.length:Int)):
  ∃ e' h',Ax jnB (call AD (m+3)) e h=.exit 2 e' h'∧Fx (fun b=>b=bl) h h'∧h'.Row bl 84 (flK (IG A x++B)++Z)∧∀ j,j=0∨j=1∨j=2∨j=3∨j=8→AB j e'=AB j e:=by
 have hln:(A++x::B).length=A.length+1+B.length:=by rw[List.length_append,List.length_cons];omega
 refine BZ (I:=fun i e' g=>∃ P Q,A=P++Q∧P.length+i=A.length∧Fx (fun b=>b=bl) h g∧g.Row bl 84 (flK (P++x::(Q++B))++Z)∧(∀ y∈Q,HD x y<0)∧AB 9 e'=.int .i64 (P.length:Int)∧∀ j,j=0∨j=1∨j=2∨j=3∨j=8→AB j e'=AB j e)
  (Q:=fun r=>∃ e' h',r=.exit 2 e' h'∧Fx (fun b=>b=bl) h h'∧h'.Row bl 84 (flK (IG A x++B)++Z)∧∀ j,j=0∨j=1∨j=2∨j=3∨j=8→AB j e'=AB j e) (A.length+1) (by omega) (fun i e' g ⟨P,Q,hA,hP,fx,R,hQ,t9,ts⟩=>?_) ⟨A,[],by rw[List.append_nil],rfl,.refl W,Rw,fun y hy=>(by cases hy),s9,fun _ _=>rfl⟩
 have W':=fx.wf
 have t0:=(ts 0 (by omega)).trans s0
 have t1:=(ts 1 (by omega)).trans s1
 have t3:=(ts 3 (by omega)).trans s3
 rcases UE P with rfl|⟨P',y,rfl⟩
 ·right
  have c1:iGt ((([]:List Kt).length:Nat):Int) 0=false:=Ee (by decide)
  have hrun:∃ e2,jnB (call AD (m+3)) e' g=.exit 2 e2 g.marked∧∀ j,j=0∨j=1∨j=2∨j=3∨j=8→AB j e2=AB j e':=by
   rw[Rs]
   unfold U3
   simp only[sT,Nat.reduceLT,Nat.reduceEqDiff,reduceIte,gD,Ay,AL,AK,t9,t1,c1]
   refine⟨_,rfl,fun j hj=>?_⟩
   rcases hj with rfl|rfl|rfl|rfl|rfl<;>simp only[AG,Nat.reduceLT,Nat.reduceEqDiff,reduceIte]
  obtain⟨e2,r1,r2⟩:=hrun
  rw[r1]
  refine⟨rfl,e2,_,rfl,fx.same rfl rfl,?_,fun j hj=>(r2 j hj).trans (ts j hj)⟩
  have:=TV (x:=x) (P:=[]) (Q:=Q) hQ (.inl rfl)
  rw[hA,this]
  have e5:([]++x::Q)++B=[]++x::(Q++B):=rfl
  rw[e5]
  exact R.same rfl
 ·have lP:(P'++[y]).length=P'.length+1:=by simp
  rw[lP]at hP t9
  have lA:A.length=P'.length+1+Q.length:=by rw[hA,List.length_append,lP]
  have eR:(P'++[y])++x::(Q++B)=P'++y::x::(Q++B):=by simp
  rw[eR]at R
  have lL:(P'++y::x::(Q++B)).length=n:=by
   rw[hn,hln,lA]
   simp only[List.length_append,List.length_cons];omega
  have ux:oneCell x.u=true:=hu x (List.mem_append_right _ List.mem_cons_self)
  have uy:oneCell y.u=true:=hu y (List.mem_append_left _ (by rw[hA];exact List.mem_append_left _ (List.mem_append_right _ List.mem_cons_self)))
  have K:=Of (n:=n) (c:=c) (R.same (h':=g.marked) rfl) lL.symm (by omega)
  obtain⟨b,hb,ix,ld,_⟩:=K.at (i:=P'.length+1) (k:=x) I3
  obtain⟨b',hb',iy,ldy,_⟩:=K.at (i:=P'.length) (k:=y) Fd
  have c1:iGt ((P'.length+1:Nat):Int) 0=true:=E4 (by omega)
  have a1:∀ g:Hp,Fl Int.sub .i64 (.int .i64 ((P'.length+1:Nat):Int)) (.int .i64 1) g=.ok (.int .i64 (P'.length:Int)) g:=fun g=>by
   have:Int.sub ((P'.length+1:Nat):Int) 1=(P'.length:Int):=by
    show((P'.length+1:Nat):Int) - 1=_
    omega
   rw[CT,this,Ba (by omega)]
  obtain⟨h2,k2,x2⟩:=Yd (m:=m) W'.marked.quiet x y
  have q2:∀ e:Env,AB 22 e=.func (.func 51) ⟨[]⟩ ⟨[]⟩→AB 26 e=ktV x→AB 31 e=ktV y→Am .free (EM (AB 22) [AB 26,AB 31]) (call AD (m+3)) e g.marked=.ok (.int .i64 (HD x y)) (g.marked.back h2):=fun e e1 e2 e3=>by
   refine BQ ?_
   rw[Cj,AY,AY,A3,e1,e2,e3];exact k2
  have y2:g.Ext (g.marked.back h2):=(Hp.Ext.refl W').marked.trans (.back x2)
  generalize g.marked.back h2=h3 at q2 y2
  have R3:=R.ext W' y2
  by_cases hc:HD x y<0
  ·left
   have c2:iLt (HD x y) 0=true:=Hw hc
   have sw:∀ e2:Env,AB 0 e2=.slice (some ⟨bl,0,none⟩) n c→AB 9 e2=.int .i64 ((P'.length+1:Nat):Int)→∃ e3 h4,swB (call AD (m+3)) e2 h3=.norm e3 h4∧Fx (fun b=>b=bl) h3 h4∧h4.Row bl 84 (flK (P'++x::y::(Q++B))++Z)∧∀ j,j=0∨j=1∨j=2∨j=3∨j=8∨j=9→AB j e3=AB j e2:=fun e2 a b=>db y2.wf rfl R3 h256 lL.symm (by omega) (by omega) ux uy a b
   have hrun:∃ e3 h4,jnB (call AD (m+3)) e' g=.norm e3 h4∧Fx (fun b=>b=bl) h3 h4∧h4.Row bl 84 (flK (P'++x::y::(Q++B))++Z)∧AB 9 e3=.int .i64 (P'.length:Int)∧∀ j,j=0∨j=1∨j=2∨j=3∨j=8→AB j e3=AB j e':=by
    rw[Rs]
    unfold U3
    simp only[sT,Nat.reduceLT,Nat.reduceEqDiff,reduceIte,gD,Ay,AL,AK,t9,t1,c1,t3,t0,Az,ix,Aq,Ao,ld,Bs,a1,iy,ldy,q2,c2,BH,Aw]
    obtain⟨e3,h4,r1,f4,R4,r2⟩:=sw (Env.set 34 (.bool true) (Env.set 33 (.bool true) (Env.set 32 (.int .i64 (HD x y)) (Env.set 31 (ktV y) (Env.set 30 (.pointer (some ⟨b',6 * P'.length,none⟩)) (Env.set 29 (.int .i64 (P'.length:Int)) (Env.set 28 (.int .i64 ((P'.length+1:Nat):Int)) (Env.set 27 (.slice (some ⟨bl,0,none⟩) n c) (Env.set 26 (ktV x) (Env.set 25 (.pointer (some ⟨b,6 * (P'.length+1),none⟩)) (Env.set 24 (.int .i64 ((P'.length+1:Nat):Int)) (Env.set 23 (.slice (some ⟨bl,0,none⟩) n c) (Env.set 22 (.func (.func 51) ⟨[]⟩ ⟨[]⟩) (Env.set 20 (.bool true) e')))))))))))))) (by simp[AG,t0]) (by simp[AG,t9])
    have u9:AB 9 e3=.int .i64 ((P'.length+1:Nat):Int):=(r2 9 (by omega)).trans (by simp[AG,t9])
    rw[r1]
    simp only[DE,BB,sT,Nat.reduceLT,Nat.reduceEqDiff,reduceIte,Bs,u9,a1]
    refine⟨_,_,rfl,f4,R4,by simp[AG],fun j hj=>?_⟩
    have:=r2 j (by omega)
    rcases hj with rfl|rfl|rfl|rfl|rfl<;>simp only[AG,Nat.reduceLT,Nat.reduceEqDiff,reduceIte]at this ⊢<;>exact this
   obtain⟨e3,h4,r1,f4,R4,r9,r2⟩:=hrun
   refine⟨by omega,e3,h4,r1,P',y::Q,by rw[hA];simp,by omega,(fx.trans (.of y2)).trans f4,R4,fun z hz=>?_,r9,fun j hj=>(r2 j hj).trans (ts j hj)⟩
   rcases List.mem_cons.1 hz with rfl|hz
   ·exact hc
   ·exact hQ z hz
  ·right
   have c2:iLt (HD x y) 0=false:=E5 (by omega)
   have hrun:∃ e3,jnB (call AD (m+3)) e' g=.exit 2 e3 h3∧∀ j,j=0∨j=1∨j=2∨j=3∨j=8→AB j e3=AB j e':=by
    rw[Rs]
    unfold U3
    simp only[sT,Nat.reduceLT,Nat.reduceEqDiff,reduceIte,gD,Ay,AL,AK,t9,t1,c1,t3,t0,Az,ix,Aq,Ao,ld,Bs,a1,iy,ldy,q2,c2]
    refine⟨_,rfl,fun j hj=>?_⟩
    rcases hj with rfl|rfl|rfl|rfl|rfl<;>simp only[AG,Nat.reduceLT,Nat.reduceEqDiff,reduceIte]
   obtain⟨e3,r1,r2⟩:=hrun
   rw[r1]
   refine⟨rfl,e3,h3,rfl,fx.trans (.of y2),?_,fun j hj=>(r2 j hj).trans (ts j hj)⟩
   rw[hA,TV hQ (.inr ⟨P',y,rfl,hc⟩),List.append_assoc,List.append_assoc]
   exact R3
theorem Yf(W:h.Wf){ks:List Kt}(Rw:h.Row bl 84 (flK ks++Z))(h256:256≤bl)(hn:n=ks.length)(hc:n≤c)(hl:n≤1000)(hu:∀ k∈ks,oneCell k.u=true):
  ∃ h',call AD (m+4) 97 [.slice (some ⟨bl,0,none⟩) n c,.int .i64 0,.int .i64 (n:Int),.func (.func 51) ⟨[]⟩ ⟨[]⟩] h=.ok noRes h'∧Fx (fun b=>b=bl) h h'∧h'.Row bl 84 (flK (srt (ks.take 1) (ks.drop 1))++Z):=by
 have run:∀ e1:Env,AB 0 e1=.slice (some ⟨bl,0,none⟩) n c→AB 1 e1=.int .i64 0→AB 2 e1=.int .i64 (n:Int)→AB 3 e1=.func (.func 51) ⟨[]⟩ ⟨[]⟩→AB 8 e1=.int .i64 ((1:Nat):Int)→∃ e' h',Ax jsB (call AD (m+3)) e1 h=.exit 0 e' h'∧Fx (fun b=>b=bl) h h'∧h'.Row bl 84 (flK (srt (ks.take 1) (ks.drop 1))++Z):=fun e1 s0 s1 s2 s3 s8=>by
  refine BZ (I:=fun i e' g=>∃ A B,A.length+B.length=ks.length∧(A.length=i+1∨(B=[]∧A.length≤i+1))∧srt A B=srt (ks.take 1) (ks.drop 1)∧(∀ k∈A++B,oneCell k.u=true)∧Fx (fun b=>b=bl) h g∧g.Row bl 84 (flK (A++B)++Z)∧AB 0 e'=.slice (some ⟨bl,0,none⟩) n c∧AB 1 e'=.int .i64 0∧AB 2 e'=.int .i64 (n:Int)∧AB 3 e'=.func (.func 51) ⟨[]⟩ ⟨[]⟩∧AB 8 e'=.int .i64 ((i+1:Nat):Int))
   (Q:=fun x=>∃ e' h',x=.exit 0 e' h'∧Fx (fun b=>b=bl) h h'∧h'.Row bl 84 (flK (srt (ks.take 1) (ks.drop 1))++Z)) n (by omega) (fun i e' g ⟨A,B,hAB,hAi,hsr,hu',fx,R,t0,t1,t2,t3,t8⟩=>?_) ⟨ks.take 1,ks.drop 1,by rw[List.length_take,List.length_drop];omega,?_,rfl,by rw[List.take_append_drop];exact hu,.refl W,by rw[List.take_append_drop];exact Rw,s0,s1,s2,s3,s8⟩
  ·have W':=fx.wf
   cases B with
   |nil=>
    right
    have hA:A.length=n:=by simp only[List.length_nil]at hAB;omega
    have c1:iLt ((i+1:Nat):Int) (n:Int)=false:=DI (by omega)
    have hrun:∃ e3,jsB (call AD (m+3)) e' g=.exit 0 e3 g:=by
     rw[OK]
     unfold U4
     simp only[sT,Nat.reduceLT,Nat.reduceEqDiff,reduceIte,AL,AK,t8,t2,c1]
     exact⟨_,rfl⟩
    obtain⟨e3,r1⟩:=hrun
    rw[r1]
    refine⟨rfl,e3,g,rfl,fx,?_⟩
    rw[← hsr]
    rw[List.append_nil]at R
    exact R
   |cons x B=>
    left
    rw[List.length_cons]at hAB
    have hA:A.length=i+1:=by
     rcases hAi with h1|⟨h1,_⟩
     ·exact h1
     ·cases h1
    have c1:iLt ((i+1:Nat):Int) (n:Int)=true:=E8 (by omega)
    obtain⟨e2,h2,i1,f2,R2,i2⟩:=Xk (m:=m) (e:=Env.set 9 (.int .i64 ((i+1:Nat):Int)) (Env.set 14 (.bool true) e')) W' R h256 (by rw[List.length_append,List.length_cons];omega) hc hl hu' (by simp[AG,t0]) (by simp[AG,t1]) (by simp[AG,t3]) (by simp only[AG,Nat.reduceLT,Nat.reduceEqDiff,reduceIte,hA])
    have g0:=i2 0 (by omega)
    have g1:=i2 1 (by omega)
    have g2:=i2 2 (by omega)
    have g3:=i2 3 (by omega)
    have g8:=i2 8 (by omega)
    simp only[AG,Nat.reduceLT,Nat.reduceEqDiff,reduceIte,t0]at g0
    simp only[AG,Nat.reduceLT,Nat.reduceEqDiff,reduceIte,t1]at g1
    simp only[AG,Nat.reduceLT,Nat.reduceEqDiff,reduceIte,t2]at g2
    simp only[AG,Nat.reduceLT,Nat.reduceEqDiff,reduceIte,t3]at g3
    simp only[AG,Nat.reduceLT,Nat.reduceEqDiff,reduceIte,t8]at g8
    have a3:FK .i64 (.int .i64 ((i+1:Nat):Int)) (.int .i64 1) h2=.ok (.int .i64 ((i+1+1:Nat):Int)) h2:=CQ (by omega)
    have hrun:∃ e3,jsB (call AD (m+3)) e' g=.norm e3 h2∧AB 0 e3=.slice (some ⟨bl,0,none⟩) n c∧AB 1 e3=.int .i64 0∧AB 2 e3=.int .i64 (n:Int)∧AB 3 e3=.func (.func 51) ⟨[]⟩ ⟨[]⟩∧AB 8 e3=.int .i64 ((i+1+1:Nat):Int):=by
     rw[OK]
     unfold U4
     simp only[sT,Nat.reduceLT,Nat.reduceEqDiff,reduceIte,AL,AK,t8,t2,c1,i1,g8,BK,a3]
     exact⟨_,rfl,by simp[AG,g0,g1,g2,g3]⟩
    obtain⟨e3,r1,r2,r3,r4,r5,r6⟩:=hrun
    refine⟨by omega,e3,h2,r1,IG A x,B,by rw[Lq];omega,.inl (by rw[Lq];omega),hsr,fun k hk=>?_,fx.trans f2,R2,r2,r3,r4,r5,r6⟩
    rcases List.mem_append.1 hk with h1|h1
    ·rcases Pk.1 h1 with rfl|h1
     ·exact hu' _ (List.mem_append_right _ List.mem_cons_self)
     ·exact hu' k (List.mem_append_left _ h1)
    ·exact hu' k (List.mem_append_right _ (List.mem_cons_of_mem _ h1))
  ·cases ks with
   |nil=>exact .inr ⟨rfl,Nat.zero_le _⟩
   |cons k ks=>exact .inl rfl
 have a1:FK .i64 (.int .i64 0) (.int .i64 1) h=.ok (.int .i64 ((1:Nat):Int)) h:=CQ (i:=0) (by omega)
 obtain⟨e2,h2,r1,x2⟩:=run (Env.set 8 (.int .i64 ((1:Nat):Int)) (Env.set 11 (.int .i64 ((1:Nat):Int)) (AQ e0 0 [.slice (some ⟨bl,0,none⟩) n c,.int .i64 0,.int .i64 (n:Int),.func (.func 51) ⟨[]⟩ ⟨[]⟩]))) (by simp only[iN,Nat.reduceAdd,AG,Nat.reduceLT,Nat.reduceEqDiff,reduceIte]) (by simp only[iN,Nat.reduceAdd,AG,Nat.reduceLT,Nat.reduceEqDiff,reduceIte]) (by simp only[iN,Nat.reduceAdd,AG,Nat.reduceLT,Nat.reduceEqDiff,reduceIte]) (by simp only[iN,Nat.reduceAdd,AG,Nat.reduceLT,Nat.reduceEqDiff,reduceIte]) (by simp[AG])
 simp only[iN,Nat.reduceAdd]at r1
 refine⟨h2,?_,x2⟩
 rw[Wj rfl,XH]
 unfold aa
 simp only[iN,Nat.reduceAdd,sT,Nat.reduceLT,Nat.reduceEqDiff,reduceIte,BK,a1,r1,EK,Do]
def DS(ks:List Kt):List Kt:=srt (ks.take 1) (ks.drop 1)
theorem Q0(W:h.Wf){ks:List Kt}(Rw:h.Row bl 84 (flK ks++Z))(h256:256≤bl)(hn:n=ks.length)(hc:n≤c)(hl:n≤12)(hu:∀ k∈ks,oneCell k.u=true):
  ∃ h',call AD (m+6) 50 [.slice (some ⟨bl,0,none⟩) n c,.func (.func 51) ⟨[]⟩ ⟨[]⟩] h=.ok noRes h'∧Fx (fun b=>b=bl) h h'∧h'.Row bl 84 (flK (DS ks)++Z):=by
 obtain⟨h2,k2,x2,R2⟩:=Yf (m:=m) W Rw h256 hn hc (by omega) hu
 obtain⟨k,kb⟩:=Nw (m:=m+3) (h:=h) (n:=n) (by omega)
 have cv:DR .u64 (.int .i64 (n:Int)) h=.ok (.int .u64 (n:Int)) h:=by rw[Ck,D7 (by omega)]
 have a1:Fl Int.sub .i64 (.int .i64 (n:Int)) (.int .i64 0) h=.ok (.int .i64 (n:Int)) h:=by
  have:Int.sub (n:Int) 0=(n:Int):=Int.sub_zero _
  rw[CT,this,Ba (by omega)]
 have c1:iLe (n:Int) 12=true:=KF (by omega)
 have pd:call AD (m+5) 77 [.slice (some ⟨bl,0,none⟩) n c,.int .i64 0,.int .i64 (n:Int),.int .i64 (k:Int),.func (.func 51) ⟨[]⟩ ⟨[]⟩] h=.ok noRes h2:=by
  have hb:∃ e2,pdB (call AD (m+4)) (Env.set 11 (.bool true) (Env.set 10 (.bool true) (AQ e0 0 [.slice (some ⟨bl,0,none⟩) n c,.int .i64 0,.int .i64 (n:Int),.int .i64 (k:Int),.func (.func 51) ⟨[]⟩ ⟨[]⟩]))) h=.ret e2 h2:=by
   rw[Yj]
   unfold dG
   simp only[iN,Nat.reduceAdd,sT,Nat.reduceLT,Nat.reduceEqDiff,reduceIte,Bs,a1,AL,AK,c1,cA0,k2]
   exact⟨_,rfl⟩
  obtain⟨e2,r1⟩:=hb
  have r1:=L2 r1
  simp only[iN,Nat.reduceAdd]at r1
  rw[Wd rfl,XE]
  unfold aV
  simp only[iN,Nat.reduceAdd,sT,Nat.reduceLT,Nat.reduceEqDiff,reduceIte,r1,BX,Do]
 refine⟨h2,?_,x2,R2⟩
 rw[Wa rfl]
 unfold d50
 simp only[iN,Nat.reduceAdd,sT,Nat.reduceLT,Nat.reduceEqDiff,reduceIte,Ae,Dt,CJ,cv,cA0,kb,pd,EK,Do]
end
end
end Go.Proofs.YtedbmmfebjfibaaGreat
