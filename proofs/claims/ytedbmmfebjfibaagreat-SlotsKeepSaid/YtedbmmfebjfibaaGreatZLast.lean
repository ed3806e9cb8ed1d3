/-
  'SlotsKeep' of layer 06 answers true, whatever memory it is called in, whatever calls, choices and keeps it is handed and whatever the tape answers: no condition. What the canonical machine gives is shown for any of them (YtedbmmfebjfibaaGreatKeh); that machine is sound for the model (YtedbmmfebjfibaaGreatFns).
-/
import Derived.Test.YtedbmmfebjfibaaGreatZR
import Derived.Test.YtedbmmfebjfibaaGreatRows
import Derived.ProofKit
import Derived.OpenShut
import Derived.Carry
open Nat renaming reduceEqDiff→BY,reduceLT→By,zero_add→vk
open Go renaming Value→IN,World→wb,MemPlace→ACE
open List renaming length_map→OF,getElem?_eq_getElem→sh,length_cons→vw,append_nil→wF,mem_append_right→wI,mem_append_left→wU,range→wm,getElem_mem→ym,filter_sublist→AAc,mem_flatMap→ACU,take_nil→AC5
open Go.Proofs.Tryz renaming prog→vu,underlying3→xy,underlying52→yn,underlying4→zw,underlying5→AAl,checked→ABl,f7→AB6,underlying51→ACH,func7→ADe
open Go.Value renaming int→xY,okWide→xk,bool→AAj
open Go.DataW renaming trod→yI,trod_int→yu,Trod→ABE
open Go.WideElems renaming Trod_stays→yO
open Go.MemPlace renaming cell→yd
open Go.Cell renaming okWide→ABX
open Go.ChangeSpec renaming witness6→AD0
open Go.OpenClaim renaming holds_of_wide→AD4
set_option linter.unusedVariables false
set_option linter.unusedSimpArgs false
namespace Go.Proofs.YtedbmmfebjfibaaGreat
noncomputable section
open Go
set_option maxRecDepth 100000
theorem UW:kpW=bM:=rfl
theorem qM:kpS=BI (AY 0 (Aw kpL)) kpT:=rfl
theorem uD:d7=d7h:=rfl
section
variable {F:AEB}{e:Env}{h h' h0 g:Hp}{A A2:At}{T M2:List Nat}{m k k18 k20 k24 n r c2:Nat}{AGd:Int}{ks AFe AFj B:List Kt}{fr fr2:List Nat}{v lv fv v18 v20 v24 kv kv2:IN}{y:Od}{ov:Bool}{bs bs2:List Bool}
theorem qW(x0:h0.Ext h)(V:h.AL k24 v24 ks)(V18:h.AL k18 v18 AFe)(V20:h.AL k20 v20 AFj)(b:∀ x∈ks,∀ y∈x.l,y<256)(b18:∀ x∈AFe,∀ y∈x.l,y<256)(b20:∀ x∈AFj,∀ y∈x.l,y<256)(hl:ks.length<=8)(hc:Cg ks AFe\/Cg ks AFj)(s18:J 18 e=v18)(s20:J 20 e=v20)(s24:J 24 e=v24):
  ∃ e' h',kpZ (call AC (m+11)) e h=.ret e' h'/\J 10 e'=.bool true/\h0.Ext h':=by
 have W:=x0.wf;obtain⟨r1,h1,k1,x1,q1⟩:=Sz (m:=m+8) W V V18 b b18 (by omega);have k1:call AC (m+11) 25 [v24,v18] h=.ok (.bool r1) h1:=k1;cases r1 with
 |true=>
  have aw:=Iw (bs:=AC) (n:=m+10) (f:=8) MR (h:=h1);obtain⟨e1,p1,p2⟩:∃ e1,kpZ (call AC (m+11)) e h=.ret e1 h1/\J 10 e1=.bool true:=by
   unfold kpZ;simp only[sT,By,BY,reduceIte,gD,cA0,s24,s18,k1,aw];exact⟨_,rfl,by simp[AD]⟩
  exact⟨e1,h1,p1,p2,x0.trans x1⟩
 |false=>
  obtain⟨r2,h2,k2,x2,q2⟩:=Sz (m:=m+8) x1.wf (V.ext W x1) (V20.ext W x1) b b20 (by omega);have hr:r2=true:=q2 (hc.resolve_left fun g=>by have:=q1 g;cases this);subst hr;have k2:call AC (m+11) 25 [v24,v20] h1=.ok (.bool true) h2:=k2;have aw:=Iw (bs:=AC) (n:=m+10) (f:=8) MR (h:=h2);obtain⟨e1,p1,p2⟩:∃ e1,kpZ (call AC (m+11)) e h=.ret e1 h2/\J 10 e1=.bool true:=by
   unfold kpZ;simp only[sT,By,BY,reduceIte,gD,cA0,s24,s18,k1,s20,k2,aw];exact⟨_,rfl,by simp[AD]⟩
  exact⟨e1,h2,p1,p2,x0.trans (x1.trans x2)⟩
theorem qV(x0:h0.Ext h)(Rs:h.Row A.bs 0 (slL A.bd A.tb lv fv k ov))(R:h.Row r 0 y.cells)(V18:h.AL k18 v18 AFe)(V20:h.AL k20 v20 AFj)(b18:(∀ x∈AFe,∀ y∈x.l,y<256)/\AFe.length<=8)(b20:(∀ x∈AFj,∀ y∈x.l,y<256)/\AFj.length<=8)(g18:Cg AFe B)(g20:Cg AFj (if ov=true then(nxO (B,fr) y).1 else B))
  {lv2 fv2:IN}(s:Sl h A2 T M2 c2 AGd ks fr2 lv2 fv2 0 false)(hl:ks.length<=8)(td:kz B fr y ov ks)(s13:J 13 e=pt A.bs)(s16:J 16 e=pt r)(s18:J 18 e=v18)(s20:J 20 e=v20)(s22:J 22 e=pt A2.bs):
  ∃ e' h',kpW (call AC (m+11)) e h=.ret e' h'/\J 10 e'=.bool true/\h0.Ext h':=by
 have W:=x0.wf;obtain⟨h1,v1,k1,x1,V⟩:=PK (m:=m+7) W s.row s.ls (Sl.all s) (by omega);have k1:call AC (m+11) 21 [pt A2.bs] h=.ok v1 h1:=k1;have bk:∀ x∈ks,∀ y∈x.l,y<256:=fun x hx=>(s.ko x hx).2.1
 have k2:call AC (m+11) 27 [pt A.bs] h1=.ok (.bool ov) h1:=MA (m:=m+10) (Rs.ext W x1);have ld:=(Gc (R.ext W x1)).1;have x01:=x0.trans x1;have W1:=x1.wf;have AJQ:=V18.ext W x1;have AJR:=V20.ext W x1;have rest:(∃ e1,kpW (call AC (m+11)) e h=kpZ (call AC (m+11)) e1 h1/\J 18 e1=v18/\J 20 e1=v20/\J 24 e1=v1)->(Cg ks AFe\/Cg ks AFj)->∃ e' h',kpW (call AC (m+11)) e h=.ret e' h'/\J 10 e'=.bool true/\h0.Ext h':=fun⟨e1,p1,t18,t20,t24⟩ hc=>by
  obtain⟨e2,h2,r1,r2,r3⟩:=qW (m:=m) x01 V AJQ AJR bk b18.1 b20.1 hl hc t18 t20 t24;exact⟨e2,h2,p1.trans r1,r2,r3⟩
 rcases td with ⟨rfl,hg⟩|⟨rfl,h8,hg⟩|⟨rfl,h8,P,hP,hg⟩
 ·refine rest ?_ (.inl (hg.trans g18.symm))
  rw[UW];unfold bM;simp only[sT,By,BY,reduceIte,gD,cA0,s22,k1,s13,k2];exact⟨_,rfl,by simp[AD,s18,s20]⟩
 ·have c8:iEq y.kd 8=false:=Bj h8
  refine rest ?_ (hg.imp (fun g=>g.trans g18.symm) fun g=>g.trans g20.symm);rw[UW];unfold bM;simp only[sT,By,BY,reduceIte,gD,cA0,s22,k1,s13,k2,AG,AM,s16,vk,AK,AO,ld,AJ,AH,c8];exact⟨_,rfl,by simp[AD,s18,s20]⟩
 ·have c8:iEq y.kd 8=true:=Ci h8
  have hs1:(ks.map Kt.c5).Sublist (AFe.map Kt.c5):=by
   rw[hg.c5,g18.c5];exact AAc.map _
  have hs2:(AFj.map Kt.c5).Sublist (ks.map Kt.c5):=by
   have g20:Cg AFj (nxO (B,fr) y).1:=g20;rw[hg.c5,g20.c5];unfold nxO;rw[h8,Ky];have e1:(B.filter fun k=> !drB y.a y.b y.c k)=(B.filter fun k=> !P k).filter fun k=> !drB y.a y.b y.c k:=by
    rw[Lv];refine List.filter_congr fun k hk=>?_
    cases hp:P k
    ·rfl
    ·rw[hP k hk hp];rfl
   show((B.filter fun k=> !drB y.a y.b y.c k).map Kt.c5).Sublist _;rw[e1];exact AAc.map _
  obtain⟨h2,k3,x2⟩:=PD (m:=m+8) W1 V AJQ bk b18.1 (by omega) (by omega) hs1;have k3:call AC (m+11) 34 [v1,v18] h1=.ok (.bool true) h2:=k3;obtain⟨h3,k4,x3⟩:=PD (m:=m+8) x2.wf (AJR.ext W1 x2) (V.ext W1 x2) b20.1 bk (by omega) (by omega) hs2;have k4:call AC (m+11) 34 [v20,v1] h2=.ok (.bool true) h3:=k4;have aw:=Iw (bs:=AC) (n:=m+10) (f:=8) MR (h:=h3);obtain⟨e1,p1,p2⟩:∃ e1,kpW (call AC (m+11)) e h=.ret e1 h3/\J 10 e1=.bool true:=by
   rw[UW];unfold bM;simp only[sT,By,BY,reduceIte,gD,cA0,s22,k1,s13,k2,AG,AM,s16,vk,AK,AO,ld,AJ,AH,c8,s18,k3,s20,k4,aw];exact⟨_,rfl,by simp[AD]⟩
  exact⟨e1,h3,p1,p2,x01.trans (x2.trans x3)⟩
theorem gt{arm ag:Nat}(W:h.Wf)(O:AIQ h v n 25)(Kb:KB h kv bs)(Kb2:KB h kv2 bs2):
  ∃ h',call AC (m+12) 7 [v,.int .u8 (arm:Int),kv,.int .u8 (ag:Int),kv2] h=.ok (.bool true) h'/\h.Ext h':=by
 have k9:call AC (m+11) 9 [] h=.ok (.agg ⟨Np⟩) h:=Xh (n:=m+10) dj;obtain⟨T,hTl,hT⟩:=jn;rw[hTl]at k9;have hz:jr.zero.length=256:=by kernel_rfl
 have f9:=fun (F:AEB) (e:Env)=>Bx (F:=F) (e:=e) (n:=256) (t:=QX) W
 have y2:=(Hp.Ext.refl W).push (.cells QX 256 0);have R9:(h.push (.cells QX 256 0)).Row h.next 0 jr.zero:=Hp.Row.alloc W kA hz;generalize h.push (.cells QX 256 0)=h2 at f9 y2 R9;obtain⟨st,y3,R9'⟩:=rE W y2 (Nat.le_refl _) R9 hz hT.1;generalize h2.wr h.next 0 (T.map wv)=h3 at st y3 R9';obtain⟨h4,bS,bd,bm,bc,lv,fv,c4,AKl,k4,x4,s4,l1,l2,l3,l4,a4⟩:=NU (m:=m+2) (np:=8) y3.wf R9' hT ⟨by omega,by omega⟩;have k4:call AC (m+11) 10 [pt h.next,.int .i64 24] h3=.ok (.tuple ⟨[pt bd,pt bS,.bool true]⟩) h4:=k4;have x04:=y3.trans x4;have hD0:∀ b,At.D ⟨bS,bd,bm,bc,h.next,24⟩ b->h.next<=b:=fun b hb=>by
  have:=y3.next;rcases hb with h1|h1|h1|h1<;>rw[h1]
  ·show h.next<=bS;omega
  ·show h.next<=bd;omega
  ·show h.next<=bm;omega
  ·show h.next<=bc;omega
 have s4:Sl h4 ⟨bS,bd,bm,bc,h.next,24⟩ T (List.replicate (64*(3*8)) 0) c4 AKl [] (wm 8) lv fv 0 false:=s4;have r60:Sr .u8 (.int .u8 (arm:Int)) (.int .u8 60) h4=.ok (.int .u8 ((arm % 60:Nat):Int)) h4:=dE (k:=60) (by omega);have cv:DS .i64 (.int .u8 ((arm % 60:Nat):Int)) h4=.ok (.int .i64 ((arm % 60:Nat):Int)) h4:=by rw[Cd,Bb (by omega)]
 obtain⟨h5,k5,f5,s5⟩:=lI (m:=m+9) x04.wf s4 (z:=((arm % 60:Nat):Int)) (by omega);have k5:call AC (m+11) 26 [pt bd,.int .i64 ((arm % 60:Nat):Int)] h4=.ok AEE h5:=k5;have x05:=Fx.xtF x04 f5 fun b hb=>hD0 b (.inr hb)
 have W5:=x05.wf;have al:=fun (F:AEB) (e:Env)=>Bx (F:=F) (e:=e) W5 (n:=7) (t:=N5)
 have Ra:(h5.push (.cells N5 7 0)).Row h5.next 0 od0.cells:=Hp.Row.alloc W5 XP (show(opL 0 0 0 0 0 AEP AEP).length=7 from rfl);have y6:h5.Ext (h5.push (.cells N5 7 0)):=(Hp.Ext.refl W5).push _;generalize h5.push (.cells N5 7 0)=h6 at al Ra y6;have x06:=x05.trans y6;have U6:UpK true h6 ⟨bS,bd,bm,bc,h.next,24⟩ T [] (wm 8):=⟨_,c4,_,lv,fv,s5.ext W5 y6,qG 8,bW 8,fun x hx=>(by cases hx),.nil,.may (by omega) (by omega)⟩;have hrD:¬ At.D ⟨bS,bd,bm,bc,h.next,24⟩ h5.next:=fun hb=>by
  have:=s5.AGs W5 _ hb;omega
 have hrt:h.next≠h5.next:=by
  have:=s5.tab.lt W5;have:h.next<h5.next:=this;omega
 obtain⟨e1,p1,t0,t2,t3,t4,t11,t12,t13,t15,t16,t17⟩:∃ e1,d7h (call AC (m+11)) (AQ e0 0 [v,.int .u8 (arm:Int),kv,.int .u8 (ag:Int),kv2]) h=kpS (call AC (m+11)) e1 h6/\J 0 e1=v/\J 2 e1=kv/\J 3 e1=.int .u8 (ag:Int)/\J 4 e1=kv2/\J 11 e1=pt h.next/\J 12 e1=pt bd/\J 13 e1=pt bS/\J 15 e1=AEP/\J 16 e1=pt h5.next/\J 17 e1=.int .i64 ((0:Nat):Int):=by
  unfold d7h;simp only[iN,Nat.reduceAdd,sT,By,BY,reduceIte,gD,cA0,k9,f9,Ab,st,k4,BK,BW,BZ,C3,Bi,Bh,Bool.not_true,Js,r60,CH,cv,k5,al];exact⟨_,rfl,by simp[AD]⟩
 obtain⟨e2,h7,r7,x7,j7,xs,y,B,fr,ov,O7,hxs,hxl,R7,hy,g1,g2,E7⟩:=gx (m:=m+1) (A:=⟨bS,bd,bm,bc,h.next,24⟩) (T:=T) (r:=h5.next) W x06 hD0 rfl x05.next hrD hrt O U6 Ra t0 t13 t15 t16 t17;have r7:Aw kpL (call AC (m+11)) e1 h6=.exit 0 e2 h7:=r7;have qr:∀ j,kr j->kq j:=fun j hj=>by unfold kr at hj;unfold kq;omega
 have q7:=fun (j:Nat) (hj:kr j)=>j7 j (qr j hj)
 obtain⟨e3,h8,v18,v20,k18,k20,AFe,AFj,r8,x8,j8,u18,u20,V18,V20,g18,g20,b18,b20,E8,R8,hk⟩:=qN (m:=m) W x7 O7 hxs hxl R7 hy g1 g2 E7 ((q7 11 (by unfold kr;omega)).trans t11) ((q7 13 (by unfold kr;omega)).trans t13) rfl ((q7 16 (by unfold kr;omega)).trans t16);have q8:=fun (j:Nat) (hj:kr j)=>(j8 j hj).trans (q7 j hj)
 obtain⟨e4,h9,A2,M2,c2,AGd,ks,fr2,lv2,fv2,r9,f9',x9,j9,u22,s9,hl9,td⟩:=qS (m:=m) (ag:=ag) W x8 hD0 rfl Kb Kb2 E8 ((q8 2 (by unfold kr;omega)).trans t2) ((q8 3 (by unfold kr;omega)).trans t3) ((q8 4 (by unfold kr;omega)).trans t4) ((q8 11 (by unfold kr;omega)).trans t11) ((q8 12 (by unfold kr;omega)).trans t12);obtain⟨⟨lvs,fvs,bad,Rs⟩,_,_,hne⟩:=E8.row;have W8:=x8.wf;have Rs9:=f9'.row W8 Rs fun hb=>by
  rcases hb with hb|hb|hb
  ·exact hne.1 hb
  ·exact hne.2.1 hb
  ·exact hne.2.2.1 hb
 obtain⟨e5,h10,r10,w10,x10⟩:=qV (m:=m) x9 Rs9 (f9'.row W8 R8 fun hb=>hrD (.inr hb)) (V18.fx W8 f9' fun b hb=>(hk b (.inr hb)).1) (V20.fx W8 f9' fun b hb=>(hk b (.inr hb)).2) b18 b20 g18 g20 s9 hl9 td ((j9 13 (by omega)).trans ((q8 13 (by unfold kr;omega)).trans t13)) ((j9 16 (by omega)).trans ((q8 16 (by unfold kr;omega)).trans t16)) ((j9 18 (by omega)).trans u18) ((j9 20 (by omega)).trans u20) u22;refine⟨h10,?_,x10⟩;rw[uC rfl,uD,p1,qM];simp only[BB,Ap,r7,Az,A8,r8,r9,r10,lV0,w10]
end
end
end Go.Proofs.YtedbmmfebjfibaaGreat
namespace Go.Proofs.YtedbmmfebjfibaaGreat.slotsKeep
noncomputable section
open Go Go.ChangeShapes Go.WideShapes Go.ChangeAt Go.RowKit
set_option linter.unusedVariables false
theorem own:ownKnob vu.godebug=none:=by kernel_rfl
theorem Ji:laidOutB vu=true:=by kernel_rfl
theorem Tq:vu.cellsOf 4=1:=by kernel_rfl
theorem oq:vu.cellsOf 5=1:=by kernel_rfl
theorem fP:vu.cellsOf 54=7:=by kernel_rfl
theorem slc{H:Type}{enc:TypeId×IN->H}{P:Program}{W:wb}{base t e:Nat}{v:IN}{x:DataW H}{p:List ACE}(ht:P.underlying t=some (.slice e))(h:xk P W .any base t v)(tx:ABE enc P W 0 (fun _=>true) true t v x p):
  ∃ fuel,yI enc P W 0 (fun _=>true) true fuel t [v]=some (x,p):=by
 have h':ABX P W .any base t v:=by
  unfold xk at h;rw[ht]at h;exact h
 obtain⟨fuel,hf⟩:=tx;refine⟨fuel,?_⟩;rcases Uw ht h' with rfl|⟨a,n,c,rfl,_⟩<;>exact hf
section
variable {H:Type}{enc:TypeId×IN->H}{w:wb}
theorem vN(m:Nat)(l:List IN)(y:DataW H×List ACE)(hl:l.length=1)(h:yI enc vu w 0 (fun _=>true) true m 5 l=some y)(_:∀ b off,yd b off∈y.2->w.frozen? ⟨b,off,none⟩=false):QB l:=by
 obtain⟨a0,e0,_,hw⟩:=yu AAl h;have:=bounds_u8 hw;subst e0;exact⟨a0.toNat,by
  show [xY .u8 a0]=[xY .u8 ((a0.toNat:Nat):Int)];rw[Int.toNat_of_nonneg this.1],by omega⟩
theorem pT(m:Nat)(l:List IN)(y:DataW H×List ACE)(hl:l.length=1)(h:yI enc vu w 0 (fun _=>true) true m 4 l=some y)(_:∀ b off,yd b off∈y.2->w.frozen? ⟨b,off,none⟩=false):QL l:=by
 obtain⟨a0,e0,_⟩:=DataW.trod_bool zw h;exact⟨a0,e0⟩
theorem UY{n:Nat}{l:List IN}(h:l.length=n+1):∃ a l',l=a::l'/\l'.length=n:=by
 cases l with
 |nil=>cases h
 |cons a l'=>exact⟨a,l',rfl,Nat.succ.inj h⟩
theorem vQ{l:List IN}(h:l.length=7):∃ c0 c1 c2 c3 c4 c5 c6,l=[c0,c1,c2,c3,c4,c5,c6]:=by
 obtain⟨c0,l0,rfl,h0⟩:=UY h;obtain⟨c1,l1,rfl,h1⟩:=UY h0;obtain⟨c2,l2,rfl,h2⟩:=UY h1;obtain⟨c3,l3,rfl,h3⟩:=UY h2;obtain⟨c4,l4,rfl,h4⟩:=UY h3;obtain⟨c5,l5,rfl,h5⟩:=UY h4;obtain⟨c6,l6,rfl,h6⟩:=UY h5;obtain rfl:=List.eq_nil_of_length_eq_zero h6;exact⟨c0,c1,c2,c3,c4,c5,c6,rfl⟩
set_option maxRecDepth 100000 in
theorem vO(m:Nat)(l:List IN)(y:DataW H×List ACE)(hl:l.length=7)(h:yI enc vu w 0 (fun _=>true) true m 54 l=some y)(hfz:∀ b off,yd b off∈y.2->w.frozen? ⟨b,off,none⟩=false):∃ x:OD,l=x.cells/\Yz w x:=by
 obtain⟨c0,c1,c2,c3,c4,c5,c6,rfl⟩:=vQ hl;obtain⟨ys,k,_,rfl,_,hys,hfs⟩:=DataW.trod_struct Tryz.underlying54 h;have hys:ys.length=7:=hys;have g0:=hfs 0 _ rfl;have g1:=hfs 1 _ rfl;have g2:=hfs 2 _ rfl;have g3:=hfs 3 _ rfl;have g4:=hfs 4 _ rfl;have g5:=hfs 5 _ rfl;have g6:=hfs 6 _ rfl;have g0:yI enc vu w 0 (fun _=>true) true k 3 [c0]=some (ys[0]'(by omega)):=g0.trans (sh _);have g1:yI enc vu w 0 (fun _=>true) true k 3 [c1]=some (ys[1]'(by omega)):=g1.trans (sh _);have g2:yI enc vu w 0 (fun _=>true) true k 3 [c2]=some (ys[2]'(by omega)):=g2.trans (sh _);have g3:yI enc vu w 0 (fun _=>true) true k 3 [c3]=some (ys[3]'(by omega)):=g3.trans (sh _);have g4:yI enc vu w 0 (fun _=>true) true k 3 [c4]=some (ys[4]'(by omega)):=g4.trans (sh _);have g5:yI enc vu w 0 (fun _=>true) true k 22 [c5]=some (ys[5]'(by omega)):=g5.trans (sh _);have g6:yI enc vu w 0 (fun _=>true) true k 52 [c6]=some (ys[6]'(by omega)):=g6.trans (sh _);obtain⟨a0,e0,_⟩:=yu xy g0;obtain⟨a1,e1,_⟩:=yu xy g1;obtain⟨a2,e2,_⟩:=yu xy g2;obtain⟨a3,e3,_⟩:=yu xy g3;obtain⟨a4,e4,_⟩:=yu xy g4;have hB:=J0 Tryz.underlying22 oq (by omega) (Q:=QB) vN g5 (fun b off hm=>hfz b off (ACU.2 ⟨_,ym (by omega),hm⟩));have hL:=J0 yn Tq (by omega) (Q:=QL) pT g6 (fun b off hm=>hfz b off (ACU.2 ⟨_,ym (by omega),hm⟩));cases e0;cases e1;cases e2;cases e3;cases e4;exact⟨⟨a0,a1,a2,a3,a4,c5,c6⟩,rfl,hB,hL⟩
end
theorem ju{P:Program}{W:wb}{base t:Nat}{v:IN}(ht:P.underlying t=some (.int .u8))(h:ABX P W .any base t v):∃ n:Nat,v=.int .u8 (n:Int)/\n<256:=by
 unfold ABX at h;rw[ht]at h;have h:Cell.ok P W .any base t v:=by cases v<;>exact h
 unfold Cell.ok at h;rw[ht]at h;split at h<;>first|(exact h.elim;done)|skip
 all_goals (rename_i n e1 _;cases e1)
 have h1:0<=n:=h.2.1;have h2:n<=255:=h.2.2;obtain⟨m,rfl⟩:=Int.eq_ofNat_of_zero_le h1;exact⟨m,by rw[h.1],by omega⟩
theorem eA{P:Program}{W:wb}{base t:Nat}{v:IN}(ht:P.underlying t=some (.int .u8))(h:xk P W .any base t v):∃ n:Nat,v=.int .u8 (n:Int)/\n<256:=by
 unfold xk at h;rw[ht]at h;exact ju ht h
theorem Mr:∀ xs:List Bool,(xs.map fun x=>[AAj x]).flatten=xs.map AAj
 |[]=>rfl
 |a::xs=>by rw[List.map_cons,List.flatten_cons,Mr xs];rfl
theorem bC{W:wb}{v:IN}{n:Nat}{Ls:List (List IN)}(b:HQ W QL 1 v n Ls):∃ bs:List Bool,∀ (i:Nat) (u:IN),((u=AEP/\Ls=[])\/(u=.chan (some 0)/\Ls=[])\/u=.slice (some ⟨i,0,none⟩) n Ls.length)->∀ h:Hp,h.Wf->h.Row i 0 Ls.flatten->KB h u bs:=by
 obtain⟨h1,h2,_⟩:=b;obtain⟨xs,rfl⟩:=bT (f:=fun x:Bool=>[AAj x]) fun l hl=>(h1 l hl).2
 rw[OF]at h2;refine⟨xs.take n,fun i u hu h W hr=>?_⟩;rw[Mr]at hr;have hl:(xs.take n).length=n:=by rw[List.length_take];omega
 rcases hu with ⟨rfl,hx⟩|⟨rfl,hx⟩|rfl
 ·have hx:xs=[]:=by simpa using hx
  subst hx;rw[AC5];exact⟨fun g=>rfl,fun i b h=>by cases h⟩
 ·have hx:xs=[]:=by simpa using hx
  subst hx;rw[AC5];exact⟨fun g=>rfl,fun i b h=>by cases h⟩
 ·refine⟨fun g=>by rw[hl];rfl,fun j b hj g x=>?_⟩
  have hjn:j<n:=by rw[<- hl];exact(List.getElem?_eq_some_iff.1 hj).1
  have hj:xs[j]? =some b:=by rw[List.getElem?_take,if_pos hjn]at hj;exact hj
  have ix:=Cy (h:=g) (n:=n) (c:=(xs.map fun x=>[AAj x]).length) (es:=1) (b:=i) (off:=0) (i:=j) (k:=.i64) hjn;rw[vk,Nat.mul_one]at ix;have ld:=(hr.ext W x).AEF (off:=j) (by rw[OF];omega);rw[List.getD_eq_getElem?_getD,List.getElem?_map,hj]at ld;exact⟨_,ix,ld⟩
set_option maxRecDepth 100000 in
theorem rT{H:Type}{enc:TypeId×IN->H}(o z k s k2:IN)(w:wb){base:Nat}{d1 d2 d3:DataW H}{p1 p2 p3:List ACE}(ho:xk vu w .any base 51 o)(hz:xk vu w .any base 5 z)(hk:xk vu w .any base 52 k)(hs:xk vu w .any base 5 s)(hk2:xk vu w .any base 52 k2)
  (to_:ABE enc vu w 0 (fun _=>true) true 51 o d1 p1)(fo:∀ b off,yd b off∈p1->w.frozen? ⟨b,off,none⟩=false)
  (tk:ABE enc vu w 0 (fun _=>true) true 52 k d2 p2)(fk:∀ b off,yd b off∈p2->w.frozen? ⟨b,off,none⟩=false)
  (tk2:ABE enc vu w 0 (fun _=>true) true 52 k2 d3 p3)(fk2:∀ b off,yd b off∈p3->w.frozen? ⟨b,off,none⟩=false):
  Calls vu 7 #[o,z,k,s,k2] w fun e w'=>e=.returned (.bool true)/\Below w.heap.size w w':=by
 obtain⟨arm,rfl,_⟩:=eA AAl hz;obtain⟨ag,rfl,_⟩:=eA AAl hs;obtain⟨fuel,hf⟩:=slc ACH ho to_;obtain⟨n,Ls,R⟩:=J0 ACH fP (by omega) (Q:=fun l=>∃ x:OD,l=x.cells/\Yz w x) vO hf fo;obtain⟨u,q,L0,qs,Zs,l1,l2,r1,r2,r3⟩:=rA R 2 3 25;obtain⟨fuel1,hf1⟩:=slc yn hk tk;obtain⟨n1,Ls1,R1⟩:=J0 yn Tq (by omega) (Q:=QL) pT hf1 fk;obtain⟨bs1,hK1⟩:=bC R1;obtain⟨u1,q1,a1,a2,a3,a4⟩:=R1.rel (by omega) (fun l h=>Ta h) 0;obtain⟨fuel2,hf2⟩:=slc yn hk2 tk2;obtain⟨n2,Ls2,R2⟩:=J0 yn Tq (by omega) (Q:=QL) pT hf2 fk2;obtain⟨bs2,hK2⟩:=bC R2;obtain⟨u2,q2,b1,b2,b3,b4⟩:=R2.rel (by omega) (fun l h=>Ta h) 1;have AEO:(Ls1.flatten::Ls2.flatten::L0::Zs).length<=256:=by simp only[vw];omega
 have W0:(inH (Ls1.flatten::Ls2.flatten::L0::Zs)).Wf:=an AEO;have O:=r3 _ W0 (Ly AEO (i:=2) rfl) (fun j L e=>Ly AEO (i:=j+3) e);have K1:=hK1 0 u1 a4 _ W0 (Ly AEO (i:=0) rfl);have K2:=hK2 1 u2 b4 _ W0 (Ly AEO (i:=1) rfl);obtain⟨h',hr,hx'⟩:=gt (m:=52) (arm:=arm) (ag:=ag) W0 O K1 K2;obtain⟨g1,g2⟩:=r1 (OU (q1::q2::q::qs)) rfl (fun j q' e=>by
  show((q1::q2::q::qs)[j+3]?).getD none=q';have e:(q1::q2::q::qs)[j+3]? =some q':=e;rw[e];rfl)
 refine jb Zd hr hx' rfl (.cons g2 (.cons (.int _ _) (.cons (a3 _ rfl) (.cons (.int _ _) (.cons (b3 _ rfl) .nil))))) (dL (ps:=q1::q2::q::qs) AEO (by simp only[vw];omega) fun i q' L e1 e2=>?_)
 match i,e1,e2 with
 |0,e1,e2=>cases e1;cases e2;exact a1.AIR (a2 _)
 |1,e1,e2=>cases e1;cases e2;exact b1.AIR (b2 _)
 |2,e1,e2=>cases e1;cases e2;exact g1
 |i+3,e1,e2=>
  obtain⟨s1,s2⟩:=r2 i q' L e1 e2;exact s1.AIR (s2 _)
set_option maxRecDepth 100000 in
theorem qc(os:Os)(started:os.Started)(H:Type)(enc:TypeId×IN->H):
  ReturnsInHanded {} ABl os 7 .any (Rows.slotsKeepSpec.pre6 enc vu AB6 Rows.slotsKeepRow.domain false) (Rows.slotsKeepSpec.post enc vu AB6 false true false false):=by
 refine returnsInHanded_of_change (C:=ABl) own started (by kernel_rfl) ADe
  (AD0 (enc:=enc) (C:=ABl) false ⟨#[],#[.slice none 0 0,.int .u8 0,.slice none 0 0,.int .u8 0,.slice none 0 0],[]⟩ 8 (by kernel_rfl) (by kernel_rfl) (by kernel_rfl) (by kernel_rfl)) ?_
 intro W base args ds gs before AHV hW AKx _;have hval:∀ (j:Nat) t v,AB6.params[j]? =some t->args[j]? =some v->xk vu W .any base t v:=AHV;have hW':=hW;obtain⟨p,q,hA0,hV,rfl,hfz,hnd⟩:=hW;have hA:DataW.TrodAll enc vu W 0 (fun _=>true) true AB6.params.toList args.toList ds p:=hA0;rw[Tryz.params7]at hA hval;obtain⟨v0,vs0,d0,ds0,p0,q0,hargs,rfl,rfl,h0,r0⟩:=trodAll_cons hA;obtain⟨v1,vs1,d1,ds1,p1,q1,rfl,rfl,rfl,h1,r1⟩:=trodAll_cons r0;obtain⟨v2,vs2,d2,ds2,p2,q2,rfl,rfl,rfl,h2,r2⟩:=trodAll_cons r1;obtain⟨v3,vs3,d3,ds3,p3,q3,rfl,rfl,rfl,h3,r3⟩:=trodAll_cons r2;obtain⟨v4,vs4,d4,ds4,p4,q4,rfl,rfl,rfl,h4,r4⟩:=trodAll_cons r3;obtain⟨rfl,rfl,rfl⟩:=trodAll_nil r4;obtain rfl:args= #[v0,v1,v2,v3,v4]:=by cases args;simp_all
 obtain⟨rfl,rfl⟩:=trodVars_none hV;clear hA0 AHV;simp only[wF]at hW' hfz;have hlt:∀ x∈p0++(p1++(p2++(p3++p4))),x.block<W.heap.size:=fun x hx=>hW'.lt x hx
 have i0:∀ x∈p0,x∈p0++(p1++(p2++(p3++p4))):=fun x hx=>wU _ hx
 have i1:∀ x∈p1,x∈p0++(p1++(p2++(p3++p4))):=fun x hx=>wI _ (wU _ hx)
 have i2:∀ x∈p2,x∈p0++(p1++(p2++(p3++p4))):=fun x hx=>wI _ (wI _ (wU _ hx))
 have i3:∀ x∈p3,x∈p0++(p1++(p2++(p3++p4))):=fun x hx=>wI _ (wI _ (wI _ (wU _ hx)))
 have i4:∀ x∈p4,x∈p0++(p1++(p2++(p3++p4))):=fun x hx=>wI _ (wI _ (wI _ (wI _ hx)))
 refine(rT v0 v1 v2 v3 v4 W (hval 0 51 v0 rfl rfl) (hval 1 5 v1 rfl rfl) (hval 2 52 v2 rfl rfl) (hval 3 5 v3 rfl rfl) (hval 4 52 v4 rfl rfl) h0 (fun b off hm=>hfz b off (i0 _ hm)) h2 (fun b off hm=>hfz b off (i2 _ hm)) h4 (fun b off hm=>hfz b off (i4 _ hm))).mono fun e W' ⟨he,hb⟩=>?_
 subst he;refine⟨_,rfl,N3 (pa:=p0++(p1++(p2++(p3++p4)))) (pv:=[]) hW' (fun _ _ _=>(trodAll_cons_mk (shut_bool zw _) trodAll_mk0)) (fun sp hsp=>?_) (fun _ _=>rfl) (by simp) hb (ok_one (by kernel_rfl) rfl (okWide_bool_mk zw _))⟩;have s0:=yO Ji (by kernel_rfl) (of_decide_eq_true (by kernel_rfl)) h0 (fun x hx=>hb.same (hlt x (i0 x hx))) (fun x hx=>hsp x (i0 x hx));have s1:=yO Ji (by kernel_rfl) (of_decide_eq_true (by kernel_rfl)) h1 (fun x hx=>hb.same (hlt x (i1 x hx))) (fun x hx=>hsp x (i1 x hx));have s2:=yO Ji (by kernel_rfl) (of_decide_eq_true (by kernel_rfl)) h2 (fun x hx=>hb.same (hlt x (i2 x hx))) (fun x hx=>hsp x (i2 x hx));have s3:=yO Ji (by kernel_rfl) (of_decide_eq_true (by kernel_rfl)) h3 (fun x hx=>hb.same (hlt x (i3 x hx))) (fun x hx=>hsp x (i3 x hx));have s4:=yO Ji (by kernel_rfl) (of_decide_eq_true (by kernel_rfl)) h4 (fun x hx=>hb.same (hlt x (i4 x hx))) (fun x hx=>hsp x (i4 x hx));have:=trodAll_cons_mk s0 (trodAll_cons_mk s1 (trodAll_cons_mk s2 (trodAll_cons_mk s3 (trodAll_cons_mk s4 (trodAll_mk0 (enc:=enc) (P:=vu) (w:=W') (base:=0) (spare:=sp) (held:=true))))));rw[wF]at this;exact this
theorem over:Rows.slotsKeepRow.holds Tryz.pinned (OpenSpec.ofChange Rows.slotsKeepSpec):=
 AD4 7 AB6 rfl rfl rfl rfl rfl rfl rfl ⟨rfl,rfl,rfl,rfl,rfl⟩ rfl rfl rfl rfl rfl (by kernel_rfl) ADe (by kernel_rfl)
  (of_decide_eq_true (by kernel_rfl)) (by unfold Func.isWrapper;first|(rw[if_pos (by decide +kernel)];kernel_rfl)|(rw[if_neg (by decide +kernel)];exact⟨rfl,rfl⟩))
  (fun os started H enc _=>qc os started H enc)
theorem proved:Rows.SlotsKeepSaid:=
 over
#print axioms proved
end
end Go.Proofs.YtedbmmfebjfibaaGreat.slotsKeep
