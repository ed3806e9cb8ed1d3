/-
  Part ZP of what Lawso stands on: printed by program, names and spaces cut.
-/
import Derived.Test.YtedbmmfebjfibaaGreatZO
set_option linter.unusedVariables false
set_option linter.unusedSimpArgs false
namespace Go.Proofs.YtedbmmfebjfibaaGreat
noncomputable section
open Go
set_option maxRecDepth 100000
theorem XO:MK.k=.slice 5:=by kernel_rfl
theorem e9{n:Nat}{h:Hp}(W:h.Wf){u:Value}{xs:List Value}(V:h.Vals u xs)(ha:Bg xs=true)(hl:xs.length≤1000000):
  ∃ h' v,call AG (n+1) 39 [u] h=.ok v h'∧h.Ext h'∧h'.Cl (fun b=>h.next≤b∧b<h'.next) 5 v xs:=by
 rcases V with ⟨rfl,rfl⟩|⟨b,off,c,el,L,h1,h2,h3,h4⟩
 ·have ne:∀ e:Env,AB 0 e=.slice none 0 0→oEq MK.k false (AB 0) (kV (.slice none 0 0)) (call AG n) e h=.ok (.bool true) h:=fun e he=>Nb (t:=0) XO he
  refine⟨h,nilS,?_,.refl W,.inl ⟨rfl,rfl⟩⟩
  rw[Ks rfl]
  unfold d39
  simp only[AJ,AK,Nat.succ_eq_add_one,Nat.zero_add,Nat.reduceAdd,sT,Nat.reduceLT,Nat.reduceEqDiff,if_true,if_false,reduceIte,ne,AP,Aa]
 ·have V:h.Vals u xs:=.inr ⟨b,off,c,el,L,h1,h2,h3,h4⟩
  have x1:=(Hp.Ext.refl W).pushRow 0 []
  have R:=Hp.Row.new W 0 []
  have es:=fun (e:Env) (t:List Value)=>Qb (F:=call AG n) (e:=e) (t:=t) W
  have n1:(h.pushRow 0 []).next=h.next+1:=rfl
  generalize h.pushRow 0 []=g at x1 R es n1
  have ne:∀ e:Env,AB 0 e=u→oEq MK.k false (AB 0) (kV (.slice none 0 0)) (call AG n) e h=.ok (.bool false) h:=fun e he=>Na (t:=0) XO (he.trans h1)
  have V1:=V.ext W x1
  have big:=W.big
  rcases Nat.eq_zero_or_pos xs.length with hz|hz
  ·obtain rfl:xs=[]:=List.eq_nil_of_length_eq_zero hz
   have ap:Eb 1 1 5 (.slice (some ⟨h.next,0,none⟩) 0 0) u g=.ok (.slice (some ⟨h.next,0,none⟩) 0 0) (g.wr h.next 0 []):=PB x1.wf big R (fun k=>V1.src rfl k) V1.lenV
   have R2:=R.wr_self x1.wf (off:=0) (vs:=[]) (Nat.le_refl _)
   refine⟨_,.slice (some ⟨h.next,0,none⟩) 0 0,?_,R.wr_ext x1 (Nat.le_refl _) (off:=0) (vs:=[]) (Nat.le_refl _),.inr ⟨h.next,0,rfl,R2,.inr ⟨rfl,rfl⟩,⟨Nat.le_refl _,?_⟩,big⟩⟩
   ·rw[Ks rfl]
    unfold d39
    simp only[AJ,AK,Nat.succ_eq_add_one,Nat.zero_add,Nat.reduceAdd,sT,Nat.reduceLT,Nat.reduceEqDiff,if_true,if_false,reduceIte,ne,es,Bn,ap,AP,Aa]
   ·have:=R.wr_next (off:=0) (vs:=[]) (Nat.le_refl _)
    omega
  ·obtain⟨h2,a1,a2,a3,a4,a5⟩:=Hb (eb:=1) (en:=5) x1 R (es:=1) (fun k=>V1.src rfl k) V1.lenV (by omega) hz ha (by omega)
   refine⟨h2,_,?_,a2,.inr ⟨g.next,5+1,rfl,a3,.inl rfl,⟨by omega,by omega⟩,by omega⟩⟩
   rw[Ks rfl]
   unfold d39
   simp only[AJ,AK,Nat.succ_eq_add_one,Nat.zero_add,Nat.reduceAdd,sT,Nat.reduceLT,Nat.reduceEqDiff,if_true,if_false,reduceIte,ne,es,Bn,a1,AP,Aa]
def ebB:C:=(AF (AC 14) (Ad iLt .i64 (AB 13) (AB 12))
(AW (AB 14)
(A5 (Ah 1 (AF (AC 5) (AD (AB 13))
(Bm (AF (AC 18) (Bp 1 (AB 0) (AB 5))
(AF (AC 19) (AL (AB 18))
(AF (AC 22) (Bp 1 (AB 1) (AB 5))
(AF (AC 23) (AL (AB 22))
(AF (AC 24) (Ad iNe .u8 (AB 19) (AB 23))
(AW (AB 24)
(AF (AC 4) (AD (kV (.bool false)))
Aj)
Ai)))))))))
(AF (AC 25) (Bh .i64 (Ax .i64) (AB 13) (kV (.int .i64 1)))
(AF (AC 13) (AD (AB 25))
Ai)))
(Bc 0)))
def eqE:C:=AF (AC 4) (AD (kV (.bool true))) Aj
theorem VX:eqS=A5 (Ah 0 (A1 ebB)) eqE:=rfl
theorem Qa:d42=VE:=rfl
section
variable {F:CallF}{e:Env}{h h' h0:Hp}{S:Nat→Prop}{A:At}{T M:List Nat}{c0 bad m k p:Nat}{arm:Int}{ks:List Kt}{fr:List Nat}{v lv fv:Value}{ov:Bool}
theorem VY(W:h.Wf){u v:Value}{a b:List Nat}(U:h.Vals u (a.map bv))(V:h.Vals v (b.map bv))(hl:a.length≤900000):∃ h',call AG (m+1) 42 [u,v] h=.ok (.bool (decide (a=b))) h'∧h.Ext h':=by
 have Ul:=U.bl h
 have Vl:=V.bl h
 by_cases hab:a.length=b.length
 ·have c1:iNe (a.length:Int) (b.length:Int)=false:=by rw[G3,hab];simp
  have pre:∃ e1,VE (call AG m) (AZ e0 0 [u,v]) h=eqS (call AG m) e1 h∧AB 0 e1=u∧AB 1 e1=v∧AB 12 e1=.int .i64 (a.length:Int)∧AB 13 e1=.int .i64 ((0:Nat):Int):=by
   unfold VE
   simp only[AJ,AK,Nat.succ_eq_add_one,Nat.zero_add,Nat.reduceAdd,sT,Nat.reduceLT,Nat.reduceEqDiff,if_true,if_false,reduceIte,Ay,Ul,Vl,AS,AQ,c1]
   exact⟨_,rfl,by simp[AE],by simp[AE],by simp[AE],by simp only[AE,Nat.reduceLT,Nat.reduceEqDiff,if_true,if_false,reduceIte];rfl⟩
  obtain⟨e1,p1,s0,s1,s12,s13⟩:=pre
  have run:(∃ e' h',A1 ebB (call AG m) e1 h=.exit 0 e' h'∧h.Ext h'∧a=b)∨(∃ e' h',A1 ebB (call AG m) e1 h=.ret e' h'∧h.Ext h'∧a≠b∧AB 4 e'=.bool false):=by
   refine Bz (I:=fun i e' h'=>h.Ext h'∧AB 0 e'=u∧AB 1 e'=v∧AB 12 e'=.int .i64 (a.length:Int)∧AB 13 e'=.int .i64 (i:Int)∧i≤a.length∧(a=b↔a.drop i=b.drop i))
    (Q:=fun x=>(∃ e' h',x=.exit 0 e' h'∧h.Ext h'∧a=b)∨(∃ e' h',x=.ret e' h'∧h.Ext h'∧a≠b∧AB 4 e'=.bool false)) a.length (by omega) (fun i e' h' ⟨x',t0,t1,t12,t13,hi,hr⟩=>?_) ⟨.refl W,s0,s1,s12,s13,Nat.zero_le _,by simp⟩
   by_cases hlt:i<a.length
   ·have xm:=x'.marked
    obtain⟨p,g1,g2⟩:=IP (U.ext W xm) hlt
    obtain⟨q,g3,g4⟩:=IP (V.ext W xm) (i:=i) (by omega)
    rw[F0 hlt,F0 (l:=b) (by omega)]at hr
    generalize a.getD i 0=c at g2 hr
    generalize b.getD i 0=d at g4 hr
    have c1:=E8 hlt
    by_cases hcd:c=d
    ·left
     subst hcd
     have c2:iNe (c:Int) (c:Int)=false:=by rw[G3];simp
     have a3:=C1 (i:=i) (h:=h'.marked) (by omega)
     have hrun:∃ e2,ebB (call AG m) e' h'=.norm e2 h'.marked∧AB 0 e2=u∧AB 1 e2=v∧AB 12 e2=.int .i64 (a.length:Int)∧AB 13 e2=.int .i64 ((i+1:Nat):Int):=by
      unfold ebB
      simp only[sT,Nat.reduceLT,Nat.reduceEqDiff,if_true,if_false,reduceIte,AS,AQ,t13,t12,c1,BD,Bb,t0,g1,AV,g2,t1,g3,g4,c2,BZ,a3]
      exact⟨_,rfl,by simp only[AE,Nat.reduceLT,Nat.reduceEqDiff,if_true,if_false,reduceIte];exact t0,by simp only[AE,Nat.reduceLT,Nat.reduceEqDiff,if_true,if_false,reduceIte];exact t1,by simp only[AE,Nat.reduceLT,Nat.reduceEqDiff,if_true,if_false,reduceIte];exact t12,by simp[AE]⟩
     obtain⟨e2,r1,r2,r3,r4,r5⟩:=hrun
     refine⟨hlt,e2,h'.marked,r1,xm,r2,r3,r4,r5,hlt,hr.trans ?_⟩
     simp
    ·right
     have c2:iNe (c:Int) (d:Int)=true:=by rw[G3];simp;omega
     have hrun:∃ e2,ebB (call AG m) e' h'=.ret e2 h'.marked∧AB 4 e2=.bool false:=by
      unfold ebB
      simp only[sT,Nat.reduceLT,Nat.reduceEqDiff,if_true,if_false,reduceIte,AS,AQ,t13,t12,c1,BD,Bb,t0,g1,AV,g2,t1,g3,g4,c2]
      exact⟨_,rfl,by simp[AE]⟩
     obtain⟨e2,r1,r2⟩:=hrun
     rw[r1]
     refine⟨rfl,.inr ⟨e2,h'.marked,rfl,xm,fun h=>hcd ?_,r2⟩⟩
     have:=hr.1 h
     injection this
   ·right
    have c1:=DU (show a.length≤i by omega)
    have hrun:∃ e2,ebB (call AG m) e' h'=.exit 0 e2 h':=by
     unfold ebB
     simp only[sT,Nat.reduceLT,Nat.reduceEqDiff,if_true,if_false,reduceIte,AS,AQ,t13,t12,c1]
     exact⟨_,rfl⟩
    obtain⟨e2,r1⟩:=hrun
    rw[r1]
    refine⟨rfl,.inl ⟨e2,h',rfl,x',hr.2 ?_⟩⟩
    rw[List.drop_of_length_le (by omega),List.drop_of_length_le (by omega)]
  rcases run with ⟨e2,h2,r1,x2,r2⟩|⟨e2,h2,r1,x2,r2,r3⟩
  ·refine⟨h2,?_,x2⟩
   rw[QV rfl,Qa,p1,VX,decide_eq_true r2]
   simp only[BU,A3,r1,A9,BH]
   unfold eqE
   simp only[sT,Nat.reduceLT,Nat.reduceEqDiff,if_true,if_false,reduceIte,AP,Aa]
  ·refine⟨h2,?_,x2⟩
   rw[QV rfl,Qa,p1,VX,decide_eq_false r2]
   simp only[BU,A3,r1,CY,DD,AP,Aa,r3]
 ·have c1:iNe (a.length:Int) (b.length:Int)=true:=by rw[G3];simp;omega
  refine⟨h,?_,.refl W⟩
  rw[QV rfl,Qa,decide_eq_false (fun h=>hab (by rw[h]))]
  unfold VE
  simp only[AJ,AK,Nat.succ_eq_add_one,Nat.zero_add,Nat.reduceAdd,sT,Nat.reduceLT,Nat.reduceEqDiff,if_true,if_false,reduceIte,Ay,Ul,Vl,AS,AQ,c1,AP,Aa]
theorem TJ{e:Env}{h h':Hp}{g:O}{n:Nat}{v:Value}(hv:LS n (g e) h=.ok v h'):EK [.cN g n] e h=.ok v h:=by
 have h1:Es e h (.cN g n)=.ok v h':=hv
 show(match Es e h (.cN g n)with|.ok v _=>forceV v fun v=>Ih h [v]|.no=>.no)=_
 rw[h1]
 simp only[BA];rfl
theorem MS{e:Env}{h:Hp}{g g1:O}{n:Nat}{v:Value}(hv:LS n (g e) h=.ok v h):EK [.cN g n,.t g1] e h=.ok (.tuple ⟨[v,g1 e]⟩) h:=by
 have h1:Es e h (.cN g n)=.ok v h:=hv
 show(match Es e h (.cN g n)with|.ok v _=>forceV v fun v=>forceV (g1 e) (fun x=>Ih h [v,x])|.no=>.no)=_
 rw[h1]
 simp only[BA];rfl
theorem Q8(W:h.Wf){x:Kt}(U:h.Vals x.u (x.l.map bv))(hl:x.l.length≤1000):∃ h' v',call AG (m+2) 65 [ktV x] h=.ok (CI x.a x.b x.c x.s v') h'∧h.Ext h'∧A6 v'=true:=by
 have bx:=fun (F:CallF) (e:Env) (he:AB 0 e=ktV x)=>G9 (F:=F) W he
 have x1:=(Hp.Ext.refl W).pushRow 0 (Al x)
 have R1:=Hp.Row.new W 0 (Al x)
 have n1:(h.pushRow 0 (Al x)).next=h.next+1:=rfl
 generalize h.pushRow 0 (Al x)=h1 at bx x1 R1 n1
 have al:=fun (F:CallF) (e:Env)=>Bt (F:=F) (e:=e) x1.wf (n:=5) (t:=CN)
 have Ra:=Hp.Row.alloc x1.wf Fo (show(A0 0 0 0 0 nilS).length=5 from rfl)
 have y2:h1.Ext (h1.push (.cells CN 5 0)):=(Hp.Ext.refl x1.wf).push _
 have n2:(h1.push (.cells CN 5 0)).next=h1.next+1:=rfl
 generalize h1.push (.cells CN 5 0)=h2 at al Ra y2 n2
 have x2:=x1.trans y2
 have R2:=R1.ext x1.wf y2
 obtain⟨_,_,_,_,l4,_⟩:=Bw R2
 obtain⟨h3,v',k3,y3,c3⟩:=e9 (n:=m) x2.wf (U.ext W x2) (DE _) (by rw[List.length_map];omega)
 have onv:cellsOf v'=[v']∧A6 v'=true:=⟨c3.vs.one.1,c3.vs.one.2.1⟩
 have R3:=R2.ext x2.wf y3
 have Ra3:=Ra.ext y2.wf y3
 have big:=W.big
 obtain⟨h4,st4,R4,n4,f4,e4⟩:=KF y3.wf R3 (off:=4) (show 4<6 by omega) big onv.1 onv.2
 have x3:=x2.trans y3
 have x4:=e4 h x3 (Nat.le_refl _)
 have R4:h4.Row h.next 0 (Al ⟨x.a,x.b,x.c,x.s,x.l,x.p,v'⟩):=R4
 obtain⟨_,_,_,_,_,_,_,ld⟩:=Bw R4
 have Ra4:=f4.row y3.wf Ra3 (by omega)
 obtain⟨st5,ld5,x5,R5,n5⟩:=J6 W x4 (by omega) Ra4 rfl (a:=x.a) (b:=x.b) (c:=x.c) (s:=x.s) (u:=v') onv.2
 generalize h4.wr h1.next 0 (A0 x.a x.b x.c x.s v')=h5 at st5 ld5 x5 R5
 refine⟨h5,v',?_,x5,onv.2⟩
 have k3:call AG (m+1) 39 [x.u] h2=.ok v' h3:=k3
 have hrun:∃ e2,d65 (call AG (m+1)) (AZ e0 0 [ktV x]) h=.ret e2 h5∧AB 2 e2=pt h1.next:=by
  unfold d65
  simp only[AJ,AK,Nat.succ_eq_add_one,Nat.zero_add,Nat.reduceAdd,sT,Nat.reduceLT,Nat.reduceEqDiff,if_true,if_false,reduceIte,bx,al,AM,AY,Nat.zero_add,Nat.add_zero,AV,Ac,l4,Ab,AN,AX,k3,Av,st4,BP,BF,ld,st5]
  exact⟨_,rfl,by simp[AE]⟩
 obtain⟨e2,r1,r2⟩:=hrun
 rw[eM rfl,r1,AP,TJ (h':=h5) (v:=CI x.a x.b x.c x.s v') (by rw[r2,BF];exact ld5)]
theorem UB{g:O}{b:Nat}(hg:g e=pt b):oEq HS.k false g (kV (.pointer none)) F e h=.ok (.bool false) h:=Iw bH hg
theorem ZI(W:h.Wf)(R:h.Row A.bs 0 (slL A.bd A.tb lv fv bad ov))(K:h.KS S lv ks)(hk:∀ k∈ks,h.Vals k.u (k.l.map bv)∧k.l.length≤1000)(hl:ks.length≤1000)(a b:Int):
  ∃ h' v,call AG (m+5) 17 [pt A.bs,.int .i64 a,.int .i64 b] h=.ok (.tuple ⟨[v,.bool (ks.find? (Nc a b)).isSome]⟩) h'∧h.Ext h'∧(cellsOf v).length=5∧Bg (cellsOf v)=true:=by
 have al:=fun (F:CallF) (e:Env)=>Bt (F:=F) (e:=e) W (n:=5) (t:=CN)
 have Ra:=Hp.Row.alloc W Fo (show(A0 0 0 0 0 nilS).length=5 from rfl)
 have x1:h.Ext (h.push (.cells CN 5 0)):=(Hp.Ext.refl W).push _
 generalize h.push (.cells CN 5 0)=h1 at al Ra x1
 obtain⟨h2,k2,y2⟩:=V9 (m:=m+1) x1.wf (R.ext W x1) (K.ext W x1) (by omega) a b
 have x2:=x1.trans y2
 have p1:∀ (F:CallF) (e:Env) (g:Hp),AB 0 e=pt A.bs→oEq HS.k false (AB 0) (kV (.pointer none)) F e g=.ok (.bool false) g:=fun F e g he=>UB he
 have fin:∀ (e2:Env) (g:Hp) (v:Value) (t:Bool),d17 (call AG (m+4)) (AZ e0 0 [pt A.bs,.int .i64 a,.int .i64 b]) h=.ret e2 g→AB 6 e2=pt h.next→AB 7 e2=.bool t→loadN 5 ⟨h.next,0,none⟩ g=.ok v g→call AG (m+5) 17 [pt A.bs,.int .i64 a,.int .i64 b] h=.ok (.tuple ⟨[v,.bool t]⟩) g:=fun e2 g v t r1 r2 r3 hv=>by
  rw[de rfl,r1,AP,MS (v:=v) (by rw[r2,BF];exact hv),r3]
 rcases Hc (Nc a b) ks 0 with ⟨e1,e2⟩|⟨j,kx,e1,e2,e3⟩
 ·rw[e2]at k2
  have c1:iLt (-1) 0=true:=Oj (by omega)
  obtain⟨st,ld,x3,_,_⟩:=J6 W x2 (Nat.le_refl _) (Ra.ext x1.wf y2) rfl (a:=0) (b:=0) (c:=0) (s:=0) (u:=nilS) rfl
  generalize h2.wr h.next 0 (A0 0 0 0 0 nilS)=h3 at st ld x3
  have hrun:∃ e2,d17 (call AG (m+4)) (AZ e0 0 [pt A.bs,.int .i64 a,.int .i64 b]) h=.ret e2 h3∧AB 6 e2=pt h.next∧AB 7 e2=.bool false:=by
   unfold d17
   simp only[AJ,AK,Nat.succ_eq_add_one,Nat.zero_add,Nat.reduceAdd,sT,Nat.reduceLT,Nat.reduceEqDiff,if_true,if_false,reduceIte,al,p1,Ab,AN,AX,k2,AS,AQ,c1,DF,Av,st]
   exact⟨_,rfl,by simp[AE],by simp[AE]⟩
  obtain⟨e2,r1,r2,r3⟩:=hrun
  rw[e1]
  exact⟨h3,_,fin e2 h3 _ false r1 r2 r3 ld,x3,rfl,rfl⟩
 ·rw[e3,Nat.zero_add]at k2
  have c1:iLt (j:Int) 0=false:=F6 (by omega)
  obtain⟨_,_,_,l3,_⟩:=BN (R.ext W x2)
  obtain⟨bb,_,ix,ld6,_⟩:=(K.ext W x2).at e2
  obtain⟨U,hul⟩:=hk kx (List.mem_of_getElem? e2)
  obtain⟨h3,v',k3,y3,ov'⟩:=Q8 (m:=m+2) x2.wf (U.ext W x2) hul
  have x3:=x2.trans y3
  obtain⟨st,ld,x4,_,_⟩:=J6 W x3 (Nat.le_refl _) ((Ra.ext x1.wf y2).ext x2.wf y3) rfl (a:=kx.a) (b:=kx.b) (c:=kx.c) (s:=kx.s) (u:=v') ov'
  generalize h3.wr h.next 0 (A0 kx.a kx.b kx.c kx.s v')=h4 at st ld x4
  have hrun:∃ e2,d17 (call AG (m+4)) (AZ e0 0 [pt A.bs,.int .i64 a,.int .i64 b]) h=.ret e2 h4∧AB 6 e2=pt h.next∧AB 7 e2=.bool true:=by
   unfold d17
   simp only[AJ,AK,Nat.succ_eq_add_one,Nat.zero_add,Nat.reduceAdd,sT,Nat.reduceLT,Nat.reduceEqDiff,if_true,if_false,reduceIte,al,p1,Ab,AN,AX,k2,AS,AQ,c1,A4,Az,AM,AY,Nat.zero_add,AV,Ac,l3,Bb,ix,BP,BF,ld6,k3,Av,st]
   exact⟨_,rfl,by simp[AE],by simp[AE]⟩
  obtain⟨e2,r1,r2,r3⟩:=hrun
  rw[e1]
  refine⟨h4,_,fin e2 h4 _ true r1 r2 r3 ld,x4,rfl,?_⟩
  show(bif A6 v' then true else false)=true
  rw[ov'];rfl
theorem Yr(W:h.Wf)(R:h.Row A.bs 0 (slL A.bd A.tb lv fv bad ov))(K:h.KS S lv ks)(hk:∀ k∈ks,h.Vals k.u (k.l.map bv)∧k.l.length≤1000)(hl:ks.length≤1000)(a b c:Int):
  ∃ h' v,call AG (m+5) 18 [pt A.bs,.int .i64 a,.int .i64 b,.int .i64 c] h=.ok (.tuple ⟨[v,.bool (ks.find? (Ej a b c)).isSome]⟩) h'∧h.Ext h'∧(cellsOf v).length=5∧Bg (cellsOf v)=true:=by
 have al:=fun (F:CallF) (e:Env)=>Bt (F:=F) (e:=e) W (n:=5) (t:=CN)
 have Ra:=Hp.Row.alloc W Fo (show(A0 0 0 0 0 nilS).length=5 from rfl)
 have x1:h.Ext (h.push (.cells CN 5 0)):=(Hp.Ext.refl W).push _
 generalize h.push (.cells CN 5 0)=h1 at al Ra x1
 obtain⟨h2,k2,y2⟩:=KE (m:=m+1) x1.wf (R.ext W x1) (K.ext W x1) (by omega) a b c
 have x2:=x1.trans y2
 have p1:∀ (F:CallF) (e:Env) (g:Hp),AB 0 e=pt A.bs→oEq HS.k false (AB 0) (kV (.pointer none)) F e g=.ok (.bool false) g:=fun F e g he=>UB he
 have fin:∀ (e2:Env) (g:Hp) (v:Value) (t:Bool),d18 (call AG (m+4)) (AZ e0 0 [pt A.bs,.int .i64 a,.int .i64 b,.int .i64 c]) h=.ret e2 g→AB 8 e2=pt h.next→AB 9 e2=.bool t→loadN 5 ⟨h.next,0,none⟩ g=.ok v g→call AG (m+5) 18 [pt A.bs,.int .i64 a,.int .i64 b,.int .i64 c] h=.ok (.tuple ⟨[v,.bool t]⟩) g:=fun e2 g v t r1 r2 r3 hv=>by
  rw[df rfl,r1,AP,MS (v:=v) (by rw[r2,BF];exact hv),r3]
 rcases Hc (Ej a b c) ks 0 with ⟨e1,e2⟩|⟨j,kx,e1,e2,e3⟩
 ·rw[e2]at k2
  have c1:iLt (-1) 0=true:=Oj (by omega)
  obtain⟨st,ld,x3,_,_⟩:=J6 W x2 (Nat.le_refl _) (Ra.ext x1.wf y2) rfl (a:=0) (b:=0) (c:=0) (s:=0) (u:=nilS) rfl
  generalize h2.wr h.next 0 (A0 0 0 0 0 nilS)=h3 at st ld x3
  have hrun:∃ e2,d18 (call AG (m+4)) (AZ e0 0 [pt A.bs,.int .i64 a,.int .i64 b,.int .i64 c]) h=.ret e2 h3∧AB 8 e2=pt h.next∧AB 9 e2=.bool false:=by
   unfold d18
   simp only[AJ,AK,Nat.succ_eq_add_one,Nat.zero_add,Nat.reduceAdd,sT,Nat.reduceLT,Nat.reduceEqDiff,if_true,if_false,reduceIte,al,p1,Ab,AN,AX,k2,AS,AQ,c1,DF,Av,st]
   exact⟨_,rfl,by simp[AE],by simp[AE]⟩
  obtain⟨e2,r1,r2,r3⟩:=hrun
  rw[e1]
  exact⟨h3,_,fin e2 h3 _ false r1 r2 r3 ld,x3,rfl,rfl⟩
 ·rw[e3,Nat.zero_add]at k2
  have c1:iLt (j:Int) 0=false:=F6 (by omega)
  obtain⟨_,_,_,l3,_⟩:=BN (R.ext W x2)
  obtain⟨bb,_,ix,ld6,_⟩:=(K.ext W x2).at e2
  obtain⟨U,hul⟩:=hk kx (List.mem_of_getElem? e2)
  obtain⟨h3,v',k3,y3,ov'⟩:=Q8 (m:=m+2) x2.wf (U.ext W x2) hul
  have x3:=x2.trans y3
  obtain⟨st,ld,x4,_,_⟩:=J6 W x3 (Nat.le_refl _) ((Ra.ext x1.wf y2).ext x2.wf y3) rfl (a:=kx.a) (b:=kx.b) (c:=kx.c) (s:=kx.s) (u:=v') ov'
  generalize h3.wr h.next 0 (A0 kx.a kx.b kx.c kx.s v')=h4 at st ld x4
  have hrun:∃ e2,d18 (call AG (m+4)) (AZ e0 0 [pt A.bs,.int .i64 a,.int .i64 b,.int .i64 c]) h=.ret e2 h4∧AB 8 e2=pt h.next∧AB 9 e2=.bool true:=by
   unfold d18
   simp only[AJ,AK,Nat.succ_eq_add_one,Nat.zero_add,Nat.reduceAdd,sT,Nat.reduceLT,Nat.reduceEqDiff,if_true,if_false,reduceIte,al,p1,Ab,AN,AX,k2,AS,AQ,c1,A4,Az,AM,AY,Nat.zero_add,AV,Ac,l3,Bb,ix,BP,BF,ld6,k3,Av,st]
   exact⟨_,rfl,by simp[AE],by simp[AE]⟩
  obtain⟨e2,r1,r2,r3⟩:=hrun
  rw[e1]
  refine⟨h4,_,fin e2 h4 _ true r1 r2 r3 ld,x4,rfl,?_⟩
  show(bif A6 v' then true else false)=true
  rw[ov'];rfl
theorem Xy(R:h.Row A.bs 0 (slL A.bd A.tb lv fv bad ov)):call AG (m+1) 19 [pt A.bs] h=.ok (.int .i64 (bad:Int)) h:=by
 obtain⟨_,_,_,_,_,l5,_⟩:=BN R
 have p1:∀ (F:CallF) (e:Env) (g:Hp),AB 0 e=pt A.bs→oEq HS.k false (AB 0) (kV (.pointer none)) F e g=.ok (.bool false) g:=fun F e g he=>UB he
 rw[dh rfl]
 unfold d19
 simp only[AJ,AK,Nat.succ_eq_add_one,Nat.zero_add,Nat.reduceAdd,sT,Nat.reduceLT,Nat.reduceEqDiff,if_true,if_false,reduceIte,p1,A4,Az,AM,AY,Nat.zero_add,AV,Ac,l5,AP,Aa]
theorem aC(R:h.Row A.bs 0 (slL A.bd A.tb lv fv bad ov))(V:h.Vals fv (ints .i64 (fr.map Int.ofNat))):call AG (m+1) 20 [pt A.bs] h=.ok (.int .i64 (fr.length:Int)) h:=by
 obtain⟨_,_,_,_,l4,_⟩:=BN R
 have p1:∀ (F:CallF) (e:Env) (g:Hp),AB 0 e=pt A.bs→oEq HS.k false (AB 0) (kV (.pointer none)) F e g=.ok (.bool false) g:=fun F e g he=>UB he
 have ln:=V.len
 rw[show(ints .i64 (fr.map Int.ofNat)).length=fr.length by unfold ints;rw[List.length_map,List.length_map]]at ln
 rw[dj rfl]
 unfold d20
 simp only[AJ,AK,Nat.succ_eq_add_one,Nat.zero_add,Nat.reduceAdd,sT,Nat.reduceLT,Nat.reduceEqDiff,if_true,if_false,reduceIte,p1,A4,Az,AM,AY,Nat.zero_add,AV,Ac,l4,Ay,ln,AP,Aa]
end
end
noncomputable section
open Go
set_option maxRecDepth 100000
section
variable {F:CallF}{e:Env}{h h' h0:Hp}{S:Nat→Prop}{A:At}{T M:List Nat}{c0 bad m k p:Nat}{arm:Int}{ks:List Kt}{fr:List Nat}{v lv fv:Value}{ov:Bool}
def UY(T M:List Nat)(k:Kt):Prop:=∃ ns,Em T M k.p ns∧(at6 ns 1:Int)=k.a∧(at6 ns 2:Int)=k.b∧(at6 ns 3:Int)=k.c∧at6 ns 0=k.s∧dat M k.p (at6 ns 4)=k.l
theorem VC:d15=TC:=rfl
theorem L7(W:h.Wf)(s:Sl h A T M c0 arm ks fr lv fv bad ov){j:Nat}{kx:Kt}(hj:ks[j]? =some kx){a b c:Int}(hf:FK (Ej a b c) 0 ks=(j:Int))(habc:kx.a=a∧kx.b=b∧kx.c=c)(hp3:3 * kx.p+3≤A.n):
  ∃ h' r,call AG (m+6) 15 [pt A.bs,.int .i64 a,.int .i64 b,.int .i64 c] h=.ok (.bool r) h'∧h.Ext h'∧(r=true↔UY T M kx):=by
 obtain⟨rfl,rfl,rfl⟩:=habc
 have hkm:=List.mem_of_getElem? hj
 obtain⟨o1,o2,o3,o4,o5,o6⟩:=s.ko kx hkm
 have p1:∀ (F:CallF) (e:Env) (g:Hp),AB 0 e=pt A.bs→oEq HS.k false (AB 0) (kV (.pointer none)) F e g=.ok (.bool false) g:=fun F e g he=>UB he
 obtain⟨h1,k1,x1⟩:=KE (m:=m+2) W s.row s.ls.ks (by have:=s.le.1;omega) kx.a kx.b kx.c
 rw[hf]at k1
 have c1:iLt (j:Int) 0=false:=F6 (by omega)
 have s1:=s.ext W x1
 obtain⟨_,_,_,l3,_⟩:=BN s1.row
 obtain⟨bb,_,ix,_,lde⟩:=s1.ls.ks.at hj
 have lp:=lde 5 (.int .i64 (kx.p:Int)) rfl
 obtain⟨h2,x2,LK⟩:=SO (m:=m) x1.wf s1.row s1.tab s.tok s1.dk hp3
 have x12:=x1.trans x2
 have al:=fun (F:CallF) (e:Env)=>Bt (F:=F) (e:=e) x12.wf (n:=6) (t:=DA)
 have Ra:=Hp.Row.alloc x12.wf Ge (show(Al K0).length=6 from rfl)
 have y3:h2.Ext (h2.push (.cells DA 6 0)):=(Hp.Ext.refl x12.wf).push _
 have n3:(h2.push (.cells DA 6 0)).next=h2.next+1:=rfl
 generalize h2.push (.cells DA 6 0)=h3 at al Ra y3 n3
 have c00:iEq 0 0=true:=C4 rfl
 rcases LK with ⟨ns,u,hH,hk,hu⟩|⟨hH,bd,hk,hbad⟩
 ·generalize hX:(⟨at6 ns 1,at6 ns 2,at6 ns 3,at6 ns 0,dat M kx.p (at6 ns 4),kx.p,u⟩:Kt)=X at hk
  have hXu:X.u=u:=by rw[← hX]
  obtain⟨st,_,y4,R10,n4⟩:=J7 x12.wf y3 (Nat.le_refl _) Ra rfl (k:=X) (by rw[hXu];exact hu.vs.one.2.1)
  generalize h3.wr h2.next 0 (Al X)=h4 at st y4 R10 n4
  have x4:=x12.trans y4
  have x4m:=x4.marked
  have s4:=s.ext W x4m
  obtain⟨m0,m1,m2,m3,m4,_⟩:=Bw (R10.same (h':=h4.marked) rfl)
  obtain⟨_,_,_,l34,_⟩:=BN s4.row
  obtain⟨bb4,_,ix4,_,lde4⟩:=s4.ls.ks.at hj
  have ls4:=lde4 3 (.int .u8 (kx.s:Int)) rfl
  have lu4:=lde4 4 kx.u rfl
  have hns:∀ ns',Em T M kx.p ns'→ns'=ns:=fun ns' h=>GD h.1 hH.1
  have hXf:X.a=at6 ns 1∧X.b=at6 ns 2∧X.c=at6 ns 3∧X.s=at6 ns 0:=by rw[← hX];exact⟨rfl,rfl,rfl,rfl⟩
  obtain⟨f1,f2,f3,f4⟩:=hXf
  rw[f1]at m0
  rw[f2]at m1
  rw[f3]at m2
  rw[f4]at m3
  rw[hXu]at m4
  have pre:∃ e1,TC (call AG (m+5)) (AZ e0 0 [pt A.bs,.int .i64 kx.a,.int .i64 kx.b,.int .i64 kx.c]) h=sdT (call AG (m+5)) e1 h4∧AB 0 e1=pt A.bs∧AB 1 e1=.int .i64 kx.a∧AB 2 e1=.int .i64 kx.b∧AB 3 e1=.int .i64 kx.c∧AB 9 e1=.int .i64 (j:Int)∧AB 10 e1=pt h2.next∧AB 11 e1=.bool true∧AB 13 e1=.int .i64 0:=by
   unfold TC
   simp only[AJ,AK,Nat.succ_eq_add_one,Nat.zero_add,Nat.reduceAdd,sT,Nat.reduceLT,Nat.reduceEqDiff,if_true,if_false,reduceIte,p1,Ab,AN,AX,k1,AS,AQ,c1,A4,Az,AM,AY,Nat.zero_add,AV,Ac,l3,Bb,ix,lp,hk,BM,BV,Ba,Cj,EI,al,Av,st]
   exact⟨_,rfl,by simp[AE],by simp[AE],by simp[AE],by simp[AE],by simp[AE],by simp[AE],by simp[AE],by simp[AE]⟩
  obtain⟨e1,q1,t0,t1,t2,t3,t9,t10,t11,t13⟩:=pre
  have fin:∀ (e2:Env) (g:Hp) (t:Bool),sdT (call AG (m+5)) e1 h4=.ret e2 g→AB 8 e2=.bool t→call AG (m+6) 15 [pt A.bs,.int .i64 kx.a,.int .i64 kx.b,.int .i64 kx.c] h=.ok (.bool t) g:=fun e2 g t r1 r2=>by
   rw[Uv rfl,VC,q1,r1]
   simp only[AP,Aa,r2]
  by_cases g1:(at6 ns 1:Int)=kx.a
  ·have d1:iEq (at6 ns 1:Int) kx.a=true:=C4 g1
   by_cases g2:(at6 ns 2:Int)=kx.b
   ·have d2:iEq (at6 ns 2:Int) kx.b=true:=C4 g2
    by_cases g3:(at6 ns 3:Int)=kx.c
    ·have d3:iEq (at6 ns 3:Int) kx.c=true:=C4 g3
     by_cases g4:at6 ns 0=kx.s
     ·have d4:iEq (at6 ns 0:Int) (kx.s:Int)=true:=C4 (by omega)
      have hlen:(dat M kx.p (at6 ns 4)).length≤900000:=by
       unfold dat
       rw[List.length_take]
       have:=hH.2.1
       omega
      obtain⟨h5,k5,x5⟩:=VY (m:=m+4) x4m.quiet.wf ((hu.vs.vals.ext x12.wf y4).same (h':=h4.marked.quiet) rfl) ((s4.ko kx hkm).1.vs.vals.same (h':=h4.marked.quiet) rfl) hlen
      have q5:∀ e:Env,AB 82 e=u→AB 91 e=kx.u→Ak .free (AO 42 [AB 82,AB 91]) (call AG (m+5)) e h4.marked=.ok (.bool (decide (dat M kx.p (at6 ns 4)=kx.l))) (h4.marked.back h5):=fun e e1 e2=>by
       refine Bq ?_
       rw[Ab,AN,AN,AX,e1,e2];exact k5
      have hrun:∃ e2,sdT (call AG (m+5)) e1 h4=.ret e2 (h4.marked.back h5)∧AB 8 e2=.bool (decide (dat M kx.p (at6 ns 4)=kx.l)):=by
       unfold sdT
       simp only[sT,Nat.reduceLT,Nat.reduceEqDiff,if_true,if_false,reduceIte,gD,BD,AS,AQ,t13,c00,t11,t10,AM,AY,Nat.zero_add,Nat.add_zero,AV,Ac,m0,m1,m2,m3,m4,t1,t2,t3,d1,d2,d3,t0,A4,Az,l34,t9,Bb,ix4,ls4,d4,lu4,q5]
       exact⟨_,rfl,by simp[AE]⟩
      obtain⟨e2,r1,r2⟩:=hrun
      refine⟨_,_,fin e2 _ _ r1 r2,x4m.trans (.back x5),?_⟩
      rw[decide_eq_true_eq]
      constructor
      ·exact fun h=>⟨ns,hH,g1,g2,g3,g4,h⟩
      ·rintro⟨ns',a1,_,_,_,_,a6⟩
       rw[hns ns' a1]at a6;exact a6
     ·have d4:iEq (at6 ns 0:Int) (kx.s:Int)=false:=Cz (by omega)
      have hrun:∃ e2,sdT (call AG (m+5)) e1 h4=.ret e2 h4.marked∧AB 8 e2=.bool false:=by
       unfold sdT
       simp only[sT,Nat.reduceLT,Nat.reduceEqDiff,if_true,if_false,reduceIte,gD,BD,AS,AQ,t13,c00,t11,t10,AM,AY,Nat.zero_add,Nat.add_zero,AV,Ac,m0,m1,m2,m3,m4,t1,t2,t3,d1,d2,d3,t0,A4,Az,l34,t9,Bb,ix4,ls4,d4]
       exact⟨_,rfl,by simp[AE]⟩
      obtain⟨e2,r1,r2⟩:=hrun
      refine⟨_,_,fin e2 _ _ r1 r2,x4m,⟨fun h=>(by cases h),?_⟩⟩
      rintro⟨ns',a1,_,_,_,a5,_⟩
      rw[hns ns' a1]at a5
      exact absurd a5 g4
    ·have d3:iEq (at6 ns 3:Int) kx.c=false:=Cz g3
     have hrun:∃ e2,sdT (call AG (m+5)) e1 h4=.ret e2 h4.marked∧AB 8 e2=.bool false:=by
      unfold sdT
      simp only[sT,Nat.reduceLT,Nat.reduceEqDiff,if_true,if_false,reduceIte,gD,BD,AS,AQ,t13,c00,t11,t10,AM,AY,Nat.zero_add,Nat.add_zero,AV,Ac,m0,m1,m2,t1,t2,t3,d1,d2,d3]
      exact⟨_,rfl,by simp[AE]⟩
     obtain⟨e2,r1,r2⟩:=hrun
     refine⟨_,_,fin e2 _ _ r1 r2,x4m,⟨fun h=>(by cases h),?_⟩⟩
     rintro⟨ns',a1,_,_,a4,_,_⟩
     rw[hns ns' a1]at a4
     exact absurd a4 g3
   ·have d2:iEq (at6 ns 2:Int) kx.b=false:=Cz g2
    have hrun:∃ e2,sdT (call AG (m+5)) e1 h4=.ret e2 h4.marked∧AB 8 e2=.bool false:=by
     unfold sdT
     simp only[sT,Nat.reduceLT,Nat.reduceEqDiff,if_true,if_false,reduceIte,gD,BD,AS,AQ,t13,c00,t11,t10,AM,AY,Nat.zero_add,Nat.add_zero,AV,Ac,m0,m1,t1,t2,d1,d2]
     exact⟨_,rfl,by simp[AE]⟩
    obtain⟨e2,r1,r2⟩:=hrun
    refine⟨_,_,fin e2 _ _ r1 r2,x4m,⟨fun h=>(by cases h),?_⟩⟩
    rintro⟨ns',a1,_,a3,_⟩
    rw[hns ns' a1]at a3
    exact absurd a3 g2
  ·have d1:iEq (at6 ns 1:Int) kx.a=false:=Cz g1
   have hrun:∃ e2,sdT (call AG (m+5)) e1 h4=.ret e2 h4.marked∧AB 8 e2=.bool false:=by
    unfold sdT
    simp only[sT,Nat.reduceLT,Nat.reduceEqDiff,if_true,if_false,reduceIte,gD,BD,AS,AQ,t13,c00,t11,t10,AM,AY,Nat.zero_add,Nat.add_zero,AV,Ac,m0,t1,d1]
    exact⟨_,rfl,by simp[AE]⟩
   obtain⟨e2,r1,r2⟩:=hrun
   refine⟨_,_,fin e2 _ _ r1 r2,x4m,⟨fun h=>(by cases h),?_⟩⟩
   rintro⟨ns',a1,a2,_⟩
   rw[hns ns' a1]at a2
   exact absurd a2 g1
 ·obtain⟨st,_,y4,R10,n4⟩:=J7 x12.wf y3 (Nat.le_refl _) Ra rfl (k:=K0) rfl
  generalize h3.wr h2.next 0 (Al K0)=h4 at st y4 R10 n4
  have x4m:=(x12.trans y4).marked
  have hrun:∃ e2,TC (call AG (m+5)) (AZ e0 0 [pt A.bs,.int .i64 kx.a,.int .i64 kx.b,.int .i64 kx.c]) h=.ret e2 h4.marked∧AB 8 e2=.bool false:=by
   unfold TC sdT
   simp only[AJ,AK,Nat.succ_eq_add_one,Nat.zero_add,Nat.reduceAdd,sT,Nat.reduceLT,Nat.reduceEqDiff,if_true,if_false,reduceIte,gD,p1,Ab,AN,AX,k1,AS,AQ,c1,A4,Az,AM,AY,Nat.zero_add,AV,Ac,l3,Bb,ix,lp,hk,BM,BV,Ba,Cj,EI,al,Av,st,BD,c00]
   exact⟨_,rfl,by simp[AE]⟩
  obtain⟨e2,r1,r2⟩:=hrun
  refine⟨h4.marked,false,?_,x4m,⟨fun h=>(by cases h),fun⟨ns',a1,_⟩=>absurd ⟨ns',a1⟩ hH⟩⟩
  rw[Uv rfl,VC,r1]
  simp only[AP,Aa,r2]
def aaB:C:=(AF (AC 14) (Ad iLt .i64 (AB 13) (AB 12))
(AW (AB 14)
(A5 (Ah 1 (AF (AC 15) (Bp 6 (AB 11) (AB 13))
(AF (AC 16) (BE 6 (AB 15))
(AF (AC 5) (A2 6 DA)
(cDo (Ae 6 (AB 5) (AB 16))
(AF (AC 18) (BE 6 (AB 5))
(AF (AC 19) (AO 65 [(AB 18)])
(AF (AC 20) (Af 1 (BG FN.zero 1) [(0,5,(AB 19))])
(AF (AC 21) (A8 5 56 43 (AB 3) (AB 20))
(AF (AC 3) (AD (AB 21))
Ai))))))))))
(AF (AC 22) (Bh .i64 (Ax .i64) (AB 13) (kV (.int .i64 1)))
(AF (AC 13) (AD (AB 22))
Ai)))
(Bc 0)))
def aaE:C:=(AF (AC 2) (AD (AB 3))
Aj)
theorem bR:aaS=A5 (Ah 0 (A1 aaB)) aaE:=rfl
theorem fQ:d21=YU:=rfl
theorem aV:BG FN.zero 1=A0 0 0 0 0 nilS:=by kernel_rfl
theorem XA(W:h.Wf){g:O}{a b c:Int}{s:Nat}{u:Value}(hg:g e=CI a b c s u):Af 1 (BG FN.zero 1) [(0,5,g)] F e h=.ok (.slice (some ⟨h.next,0,none⟩) 1 1) (h.pushRow 0 (A0 a b c s u)):=by
 rw[aV,Ck,BC (hk:=by rw[hg];rfl),hg,show cellsOf (CI a b c s u)=A0 a b c s u from rfl,if_pos (show(A0 a b c s u).length=5 from rfl),if_pos (show 0+5≤(A0 0 0 0 0 nilS).length from Nat.le_refl _),CV,DH W];rfl
theorem Xl(W:h.Wf)(Rs:h.Row A.bs 0 (slL A.bd A.tb lv fv bad ov))(K:h.KS S lv ks)(hk:∀ k∈ks,h.Vals k.u (k.l.map bv)∧k.l.length≤1000∧A6 k.u=true)(hl:ks.length≤1000):
  ∃ h' v o c,call AG (m+4) 21 [pt A.bs] h=.ok v h'∧h.Ext h'∧v=.slice o ks.length c:=by
 have p1:∀ (F:CallF) (e:Env) (g:Hp),AB 0 e=pt A.bs→oEq HS.k false (AB 0) (kV (.pointer none)) F e g=.ok (.bool false) g:=fun F e g he=>UB he
 obtain⟨_,_,_,l3,_⟩:=BN Rs
 have ln:=K.len h
 have pre:∃ e1,YU (call AG (m+3)) (AZ e0 0 [pt A.bs]) h=aaS (call AG (m+3)) e1 h∧AB 3 e1=nilS∧AB 11 e1=lv∧AB 12 e1=.int .i64 (ks.length:Int)∧AB 13 e1=.int .i64 ((0:Nat):Int):=by
  unfold YU
  simp only[AJ,AK,Nat.succ_eq_add_one,Nat.zero_add,Nat.reduceAdd,sT,Nat.reduceLT,Nat.reduceEqDiff,if_true,if_false,reduceIte,p1,A4,Az,AM,AY,Nat.zero_add,AV,Ac,l3,Ay,ln]
  exact⟨_,rfl,by simp[AE],by simp[AE],by simp[AE],by simp only[AE,Nat.reduceLT,Nat.reduceEqDiff,if_true,if_false,reduceIte];rfl⟩
 obtain⟨e1,q1,s3,s11,s12,s13⟩:=pre
 have run:∃ e' h' v,A1 aaB (call AG (m+3)) e1 h=.exit 0 e' h'∧h.Ext h'∧AB 3 e'=v∧((v=nilS∧ks.length=0)∨∃ b,v=.slice (some ⟨b,0,none⟩) ks.length ks.length):=by
  refine Bz (I:=fun i e' h'=>∃ v,h.Ext h'∧AB 3 e'=v∧AB 11 e'=lv∧AB 12 e'=.int .i64 (ks.length:Int)∧AB 13 e'=.int .i64 (i:Int)∧i≤ks.length∧((v=nilS∧i=0)∨∃ b L,v=.slice (some ⟨b,0,none⟩) i i∧h'.Row b 44 L∧L.length=i * 5∧h.next≤b))
   (Q:=fun x=>∃ e' h' v,x=.exit 0 e' h'∧h.Ext h'∧AB 3 e'=v∧((v=nilS∧ks.length=0)∨∃ b,v=.slice (some ⟨b,0,none⟩) ks.length ks.length)) ks.length (by omega) (fun i e' h' ⟨v,x',t3,t11,t12,t13,hi,hv⟩=>?_) ⟨_,.refl W,s3,s11,s12,s13,Nat.zero_le _,.inl ⟨rfl,rfl⟩⟩
  have W':=x'.wf
  by_cases hlt:i<ks.length
  ·left
   have c1:=E8 hlt
   obtain⟨x,hx⟩:∃ x,ks[i]? =some x:=⟨_,List.getElem?_eq_getElem hlt⟩
   obtain⟨U,ul,ou⟩:=hk x (List.mem_of_getElem? hx)
   obtain⟨bb,_,ix,ld,_⟩:=(K.ext W x').at hx
   have al:=fun (F:CallF) (e:Env)=>Bt (F:=F) (e:=e) W' (n:=6) (t:=DA)
   have Ra:=Hp.Row.alloc W' Ge (show(Al K0).length=6 from rfl)
   have y1:h'.Ext (h'.push (.cells DA 6 0)):=(Hp.Ext.refl W').push _
   generalize h'.push (.cells DA 6 0)=h1 at al Ra y1
   obtain⟨st,ld2,y2,R5,n2⟩:=J7 W' y1 (Nat.le_refl _) Ra rfl (k:=x) ou
   generalize h1.wr h'.next 0 (Al x)=h2 at st ld2 y2 R5 n2
   have x2:=x'.trans y2
   obtain⟨h3,v',k3,y3,ov'⟩:=Q8 (m:=m+1) x2.wf (U.ext W x2) ul
   have x3:=x2.trans y3
   have sl:=fun (F:CallF) (e:Env) (he:AB 19 e=CI x.a x.b x.c x.s v')=>XA (F:=F) x3.wf he
   have x4:=x3.pushRow 0 (A0 x.a x.b x.c x.s v')
   have y4:=(Hp.Ext.refl x3.wf).pushRow 0 (A0 x.a x.b x.c x.s v')
   have Rw:=Hp.Row.new x3.wf 0 (A0 x.a x.b x.c x.s v')
   generalize h3.pushRow 0 (A0 x.a x.b x.c x.s v')=h4 at sl x4 y4 Rw
   have hs:∀ K:List Value→R,BQ h4 5 (.slice (some ⟨h3.next,0,none⟩) 1 1) 1 K=K (A0 x.a x.b x.c x.s v'):=fun K=>Rw.srcE (es:=5) (off:=0) (n:=1) (by show 0+1 * 5≤5;omega)
   have ha:Bg (A0 x.a x.b x.c x.s v')=true:=by
    show(bif A6 v' then true else false)=true
    rw[ov'];rfl
   have big:=W.big
   have app:∃ h5 b5 L5,Eb 5 56 43 v (.slice (some ⟨h3.next,0,none⟩) 1 1) h4=.ok (.slice (some ⟨b5,0,none⟩) (i+1) (i+1)) h5∧h.Ext h5∧h5.Row b5 44 L5∧L5.length=(i+1) * 5∧h.next≤b5:=by
    rcases hv with ⟨hv,h0⟩|⟨b,L,hv,r,hL,hb⟩
    ·obtain⟨h5,a1,a2,a3,_⟩:=NZ (eb:=56) (en:=43) x4 hs rfl rfl ha (by omega)
     exact⟨h5,_,_,by rw[hv,h0];exact a1,a2,a3,by rw[h0];rfl,x4.next⟩
    ·have r4:=((r.ext W' y2).ext x2.wf y3).ext x3.wf y4
     obtain⟨h5,a1,a2,a3,_⟩:=LH (eb:=56) (en:=43) (n:=i) x4 hs rfl rfl (by omega) ha r4 hL hb (by omega) (by omega)
     exact⟨h5,_,_,by rw[hv];exact a1,a2,a3,by rw[List.length_append,hL];show i * 5+5=_;omega,x4.next⟩
   obtain⟨h5,b5,L5,k5,x5,R5',hL5,hb5⟩:=app
   have a3:=C1 (i:=i) (h:=h5) (by omega)
   have hrun:∃ e2,aaB (call AG (m+3)) e' h'=.norm e2 h5∧AB 3 e2=.slice (some ⟨b5,0,none⟩) (i+1) (i+1)∧AB 11 e2=lv∧AB 12 e2=.int .i64 (ks.length:Int)∧AB 13 e2=.int .i64 ((i+1:Nat):Int):=by
    unfold aaB
    simp only[sT,Nat.reduceLT,Nat.reduceEqDiff,if_true,if_false,reduceIte,AS,AQ,t13,t12,c1,Bb,t11,ix,BP,BF,ld,al,Av,st,ld2,Ab,AN,AX,k3,sl,Bn,t3,k5,BZ,a3]
    exact⟨_,rfl,by simp[AE],by simp only[AE,Nat.reduceLT,Nat.reduceEqDiff,if_true,if_false,reduceIte];exact t11,by simp only[AE,Nat.reduceLT,Nat.reduceEqDiff,if_true,if_false,reduceIte];exact t12,by simp[AE]⟩
   obtain⟨e2,r1,r2,r3,r4,r5⟩:=hrun
   exact⟨hlt,e2,h5,r1,_,x5,r2,r3,r4,r5,by omega,.inr ⟨b5,L5,rfl,R5',hL5,hb5⟩⟩
  ·right
   have hie:i=ks.length:=by omega
   have c1:=DU (show ks.length≤i by omega)
   have hrun:∃ e2,aaB (call AG (m+3)) e' h'=.exit 0 e2 h'∧AB 3 e2=v:=by
    unfold aaB
    simp only[sT,Nat.reduceLT,Nat.reduceEqDiff,if_true,if_false,reduceIte,AS,AQ,t13,t12,c1]
    exact⟨_,rfl,by simp only[AE,Nat.reduceLT,Nat.reduceEqDiff,if_true,if_false,reduceIte];exact t3⟩
   obtain⟨e2,r1,r2⟩:=hrun
   rw[r1]
   refine⟨rfl,e2,h',v,rfl,x',r2,?_⟩
   rcases hv with ⟨hv,h0⟩|⟨b,L,hv,_⟩
   ·exact .inl ⟨hv,by omega⟩
   ·exact .inr ⟨b,by rw[hv,hie]⟩
 obtain⟨e2,h2,v,r1,x2,r2,hv⟩:=run
 have key:call AG (m+4) 21 [pt A.bs] h=.ok v h2:=by
  rw[dp rfl,fQ,q1,bR]
  simp only[BU,A3,r1,A9,BH]
  unfold aaE
  simp only[sT,Nat.reduceLT,Nat.reduceEqDiff,if_true,if_false,reduceIte,r2,AP,Aa]
 rcases hv with ⟨hv,h0⟩|⟨b,hv⟩
 ·exact⟨h2,v,none,0,key,x2,by rw[hv,h0]⟩
 ·exact⟨h2,v,_,_,key,x2,hv⟩
end
end
noncomputable section
open Go
set_option maxRecDepth 100000
def DV(T:List Nat):Prop:=∀ i j,i<256→j<256→T.getD i 0 / 16777216=T.getD j 0 / 16777216→i=j
theorem Ka{a b c:Nat}(h:Nat.xor a b=Nat.xor a c):b=c:=by
 have e:∀ x:Nat,Nat.xor a (Nat.xor a x)=x:=fun x=>by
  show a ^^^ (a ^^^ x)=x
  rw[← Nat.xor_assoc,Nat.xor_self,Nat.zero_xor]
 have:=congrArg (Nat.xor a) h
 rwa [e,e]at this
theorem Xc{a b c:Nat}(h:Nat.xor b a=Nat.xor c a):b=c:=by
 have h:b ^^^ a=c ^^^ a:=h
 rw[Nat.xor_comm b,Nat.xor_comm c]at h
 exact Ka h
theorem N0(a b n:Nat):Nat.xor a b / 2 ^ n=Nat.xor (a / 2 ^ n) (b / 2 ^ n):=Nat.xor_div_two_pow
def stp(T:List Nat)(s b:Nat):Nat:=Nat.xor (T.getD (Nat.xor (s % 256) b) 0) (s / 256)
theorem E3(T:List Nat)(s b:Nat)(l:List Nat):FF T s (b::l)=FF T (stp T s b) l:=rfl
theorem L8{T:List Nat}(hI:DV T){s s' b b' t:Nat}(hs:s<4294967296)(hs':s'<4294967296)(hb:b<256)(hb':b'<256)(ht:t≤3)(h:stp T s b / 2 ^ (8 * t)=stp T s' b' / 2 ^ (8 * t)):
  Nat.xor (s % 256) b=Nat.xor (s' % 256) b'∧s / 2 ^ (8 * (t+1))=s' / 2 ^ (8 * (t+1)):=by
 have hi:=I9 (show s % 256<256 by omega) hb
 have hi':=I9 (show s' % 256<256 by omega) hb'
 have top:stp T s b / 16777216=stp T s' b' / 16777216:=by
  have e:∀ x:Nat,x / 16777216=x / 2 ^ (8 * t) / 2 ^ (24 - 8 * t):=fun x=>by
   rw[Nat.div_div_eq_div_mul,← Nat.pow_add,show 8 * t+(24 - 8 * t)=24 by omega]
  rw[e,e,h]
 have e1:∀ (x y:Nat),y<4294967296→Nat.xor x (y / 256) / 16777216=x / 16777216:=fun x y hy=>by
  have:=N0 x (y / 256) 24
  rw[show(2:Nat) ^ 24=16777216 from rfl]at this
  rw[this,show y / 256 / 16777216=0 by omega]
  exact Nat.xor_zero _
 unfold stp at top
 rw[e1 _ _ hs,e1 _ _ hs']at top
 have hij:=hI _ _ hi hi' top
 refine⟨hij,?_⟩
 unfold stp at h
 rw[N0,N0,hij]at h
 have h:=Ka h
 have e2:∀ x:Nat,x / 2 ^ (8 * (t+1))=x / 256 / 2 ^ (8 * t):=fun x=>by
  rw[Nat.div_div_eq_div_mul,show 8 * (t+1)=8+8 * t by omega,Nat.pow_add]
 rw[e2,e2,h]
theorem IL{T:List Nat}(hT:TblOk T){s b:Nat}(hs:s<4294967296):stp T s b<4294967296:=Je hT hs b
theorem M7{T:List Nat}(hT:TblOk T)(hI:DV T):∀ (k:Nat) (u u':List Nat) (s s':Nat),u.length=k→u'.length=k→k≤3→(∀ x∈u,x<256)→(∀ x∈u',x<256)→s<4294967296→s'<4294967296→FF T s u=FF T s' u'→s / 2 ^ (8 * k)=s' / 2 ^ (8 * k)
 |0,[],[],s,s',_,_,_,_,_,_,_,h=>by
  have h:s=s':=h
  rw[h]
 |k+1,b::u,b'::u',s,s',h1,h2,hk,hb,hb',hs,hs',h=>by
  rw[E3,E3]at h
  have ih:=M7 hT hI k u u' (stp T s b) (stp T s' b') (by simpa using h1) (by simpa using h2) (by omega) (fun x hx=>hb x (List.mem_cons_of_mem _ hx)) (fun x hx=>hb' x (List.mem_cons_of_mem _ hx)) (IL hT hs) (IL hT hs') h
  exact(L8 hI hs hs' (hb b List.mem_cons_self) (hb' b' List.mem_cons_self) (by omega) ih).2
theorem XY{T:List Nat}(hT:TblOk T)(hI:DV T):∀ (u u':List Nat) (s:Nat),u.length=u'.length→u.length≤4→(∀ x∈u,x<256)→(∀ x∈u',x<256)→s<4294967296→FF T s u=FF T s u'→u=u'
 |[],[],_,_,_,_,_,_,_=>rfl
 |b::u,b'::u',s,hl,h4,hb,hb',hs,h=>by
  rw[E3,E3]at h
  have hl:u.length=u'.length:=by simpa using hl
  have h4:u.length≤3:=by simpa using h4
  have h1:=M7 hT hI u.length u u' _ _ rfl hl.symm h4 (fun x hx=>hb x (List.mem_cons_of_mem _ hx)) (fun x hx=>hb' x (List.mem_cons_of_mem _ hx)) (IL hT hs) (IL hT hs) h
  have h2:=Ka (L8 hI hs hs (hb b List.mem_cons_self) (hb' b' List.mem_cons_self) h4 h1).1
  rw[h2]at h ⊢
  rw[XY hT hI u u' _ hl (by omega) (fun x hx=>hb x (List.mem_cons_of_mem _ hx)) (fun x hx=>hb' x (List.mem_cons_of_mem _ hx)) (IL hT hs) h]
theorem M0{T:List Nat}(hT:TblOk T)(hI:DV T):∀ (q:List Nat) (s s':Nat),(∀ x∈q,x<256)→s<4294967296→s'<4294967296→FF T s q=FF T s' q→s=s'
 |[],s,s',_,_,_,h=>h
 |b::q,s,s',hb,hs,hs',h=>by
  rw[E3,E3]at h
  have h1:=M0 hT hI q _ _ (fun x hx=>hb x (List.mem_cons_of_mem _ hx)) (IL hT hs) (IL hT hs') h
  obtain⟨h2,h3⟩:=L8 hI hs hs' (hb b List.mem_cons_self) (hb b List.mem_cons_self) (t:=0) (by omega) (by rw[h1])
  have h2:=Xc h2
  have h3:s / 256=s' / 256:=h3
  omega
theorem Da{l l':List Nat}(hl:l.length=l'.length)(h:∀ i,i<l.length→l.getD i 0=l'.getD i 0):l=l':=by
 refine List.ext_getElem hl fun i h1 h2=>?_
 have:=h i h1
 rw[List.getD_eq_getElem?_getD,List.getD_eq_getElem?_getD,List.getElem?_eq_getElem h1,List.getElem?_eq_getElem h2]at this
 exact this
theorem Ev{l:List Nat}{n i:Nat}(h:i<n):(l.take n).getD i 0=l.getD i 0:=by
 rw[List.getD_eq_getElem?_getD,List.getD_eq_getElem?_getD,List.getElem?_take,if_pos h]
theorem EM{l:List Nat}{n i:Nat}:(l.drop n).getD i 0=l.getD (n+i) 0:=by
 rw[List.getD_eq_getElem?_getD,List.getD_eq_getElem?_getD,List.getElem?_drop]
theorem M5{T:List Nat}(hT:TblOk T)(hI:DV T){l l':List Nat}{k:Nat}(hl:l.length=l'.length)(hb:∀ x∈l,x<256)(hb':∀ x∈l',x<256)(h:∀ i,i<l.length→(i<k∨k+4≤i)→l.getD i 0=l'.getD i 0)(hs:BX T l=BX T l'):l=l':=by
 have cut:∀ l:List Nat,l=l.take k++((l.drop k).take 4++l.drop (k+4)):=fun l=>by
  rw[← List.drop_drop,List.take_append_drop,List.take_append_drop]
 have e1:l.take k=l'.take k:=Da (by rw[List.length_take,List.length_take,hl]) fun i hi=>by
  rw[List.length_take]at hi
  rw[Ev (by omega),Ev (by omega)]
  exact h i (by omega) (.inl (by omega))
 have e2:l.drop (k+4)=l'.drop (k+4):=Da (by rw[List.length_drop,List.length_drop,hl]) fun i hi=>by
  rw[List.length_drop]at hi
  rw[EM,EM]
  exact h _ (by omega) (.inr (by omega))
 have lt:=fun l=>I2 hT l 4294967295 (by decide)
 have hs:FF T 4294967295 l=FF T 4294967295 l':=by
  unfold BX at hs
  have:=lt l
  have:=lt l'
  omega
 rw[cut l,cut l',e1,e2,HP,HP,HP,HP]at hs
 have s0:=lt (l'.take k)
 generalize FF T 4294967295 (l'.take k)=st at hs s0
 have h1:=M0 hT hI _ _ _ (fun x hx=>hb' x (List.mem_of_mem_drop hx)) (I2 hT _ _ s0) (I2 hT _ _ s0) hs
 have h2:=XY hT hI _ _ st (by rw[List.length_take,List.length_take,List.length_drop,List.length_drop,hl]) (by rw[List.length_take];omega) (fun x hx=>hb x (List.mem_of_mem_drop (List.mem_of_mem_take hx))) (fun x hx=>hb' x (List.mem_of_mem_drop (List.mem_of_mem_take hx))) s0 h1
 rw[cut l,cut l',e1,e2,h2]
theorem aL{s s':Nat}(h1:s<4294967296)(h2:s'<4294967296)(h:ET s=ET s'):s=s':=by
 unfold ET at h
 injection h with a h
 injection h with b h
 injection h with c h
 injection h with d h
 omega
theorem UU{T:List Nat}(hT:TblOk T)(hI:DV T){body l':List Nat}{k:Nat}(hbl:body.length=60)(hl':l'.length=64)(hb:∀ x∈body,x<256)(hb':∀ x∈l',x<256)(hw:∀ i,i<64→(i<k∨k+4≤i∨60≤i)→l'.getD i 0=(C3 T body).getD i 0)(hne:l'≠C3 T body):Dh T l'=none:=by
 have hsl:(C3 T body).length=64:=by rw[Ez,hbl]
 unfold Dh
 rw[if_neg (by omega),hl',show 64 - 4=60 from rfl]
 split
 ·rename_i hs
  exfalso
  have htl:(l'.take 60).length=60:=by rw[List.length_take];omega
  have htb:∀ x∈l'.take 60,x<256:=fun x hx=>hb' x (List.mem_of_mem_take hx)
  have suf:∀ b:List Nat,b.length=60→(C3 T b).drop 60=ET (BX T b):=fun b hb=>by
   unfold C3
   exact List.drop_left' hb
  have e1:ET (BX T (l'.take 60))=ET (BX T body):=by
   rw[← suf _ htl,← suf _ hbl,hs]
   refine Da (by rw[List.length_drop,List.length_drop,hl',hsl]) fun i hi=>?_
   rw[List.length_drop]at hi
   rw[EM,EM]
   exact hw _ (by omega) (.inr (.inr (by omega)))
  have e2:=aL (Fl T _) (Fl T _) e1
  have e3:l'.take 60=body:=M5 hT hI (k:=k) (by rw[htl,hbl]) htb hb (fun i hi hor=>by
   rw[htl]at hi
   rw[Ev hi,hw i (by omega) (by omega)]
   unfold C3
   rw[List.getD_eq_getElem?_getD,List.getD_eq_getElem?_getD,List.getElem?_append_left (by omega)]) e2
  rw[e3]at hs
  exact hne hs.symm
 ·rfl
theorem Si:∀ (k:Nat) (l:List Nat) (p:Nat) (ns:List Nat) (q:Nat),rdN k l p=some (ns,q)→ns.length=k
 |0,l,p,ns,q,h=>by cases h;rfl
 |k+1,l,p,ns,q,h=>by
  rw[Pm]at h
  cases hu:FO 0 0 (l.drop p)with
  |none=>rw[hu]at h;cases h
  |some vj=>
   obtain⟨v,j⟩:=vj
   rw[hu]at h
   simp only at h
   by_cases hv:v≤1099511627776
   ·rw[if_pos hv]at h
    cases hr:rdN k l (p+j)with
    |none=>rw[hr]at h;cases h
    |some y=>
     obtain⟨vs,q'⟩:=y
     rw[hr]at h
     cases h
     rw[List.length_cons,Si k l (p+j) vs _ hr]
   ·rw[if_neg hv]at h;cases h
theorem PZ{T:List Nat}{a b c:Int}{s:Nat}{l:List Nat}(h:CA a b c s l.length=true):H3 T (B7 T a b c s l) (Bd a.toNat b.toNat c.toNat s l.length (BX T l)):=by
 obtain⟨h1,h2,h3,h4,h5,h6,h7,h8⟩:=Eh h
 have hst:=Fl T l
 refine(Pa G0).2 ?_
 have hle:∀ v∈Bd a.toNat b.toNat c.toNat s l.length (BX T l),v≤1099511627776:=fun v hv=>by
  unfold Bd at hv
  simp only[List.mem_cons,List.mem_nil_iff,or_false]at hv
  omega
 have e0:at6 (Bd a.toNat b.toNat c.toNat s l.length (BX T l)) 0=s:=rfl
 have e1:at6 (Bd a.toNat b.toNat c.toNat s l.length (BX T l)) 1=a.toNat:=rfl
 have e2:at6 (Bd a.toNat b.toNat c.toNat s l.length (BX T l)) 2=b.toNat:=rfl
 have e3:at6 (Bd a.toNat b.toNat c.toNat s l.length (BX T l)) 3=c.toNat:=rfl
 have e4:at6 (Bd a.toNat b.toNat c.toNat s l.length (BX T l)) 4=l.length:=rfl
 have e5:at6 (Bd a.toNat b.toNat c.toNat s l.length (BX T l)) 5=BX T l:=rfl
 have hr:=KQ (Bd a.toNat b.toNat c.toNat s l.length (BX T l)) [] (List.replicate (60 - (Bo (Bd a.toNat b.toNat c.toNat s l.length (BX T l))).length) 0++ET (BX T (F5 (Bd a.toNat b.toNat c.toNat s l.length (BX T l))))) hle
 refine⟨(Bo (Bd a.toNat b.toNat c.toNat s l.length (BX T l))).length,?_,⟨by rw[e0];omega,by rw[e4];omega,by rw[e5];omega,?_⟩,rfl⟩
 ·have hx:B7 T a b c s l=Bo (Bd a.toNat b.toNat c.toNat s l.length (BX T l))++(List.replicate (60 - (Bo (Bd a.toNat b.toNat c.toNat s l.length (BX T l))).length) 0++ET (BX T (F5 (Bd a.toNat b.toNat c.toNat s l.length (BX T l))))):=by
   unfold B7 C3
   rw[← List.append_assoc];rfl
  rw[hx]
  simp only[List.nil_append,List.length_nil,Nat.zero_add]at hr
  exact hr
 ·rw[e0,e1,e2,e3]
  exact decide_eq_true ⟨by omega,by omega,by omega,by omega,by omega,by omega,h7,by omega⟩
theorem Pb{T:List Nat}{ns:List Nat}{l:List Nat}(hl:l.length=64)(hz:∀ x∈l,x=0):¬ H3 T l ns:=fun h=>by
 have hlt:∀ x∈l,x<256:=fun x hx=>by rw[hz x hx];decide
 obtain⟨q,h1,h2,h3⟩:=(Pa hlt).1 h
 have hlen:=Si _ _ _ _ _ h1
 obtain⟨_,_,_,h4⟩:=h2
 have hs:=(Eh h4).2.2.2.2.2.2.1
 cases ns with
 |nil=>cases hlen
 |cons n ns=>
  have hn:n=1∨n=2:=hs
  have hu:B4 n=[n]:=by
   unfold B4
   rw[dif_pos (by omega)]
  have:n∈l:=by
   rw[← h3]
   unfold C3 F5 Nl
   refine List.mem_append_left _ (List.mem_append_left _ ?_)
   rw[CS,hu]
   exact List.mem_append_left _ List.mem_cons_self
  have:=hz n this
  omega
end
noncomputable section
open Go
set_option maxRecDepth 100000
theorem H5{l:List Nat}{j r:Nat}(hr:r<64):(Co l j).getD r 0=l.getD (64 * j+r) 0:=by
 unfold Co
 have hl:((l.drop (64 * j)).take 64).length=min 64 (l.length - 64 * j):=by rw[List.length_take,List.length_drop]
 rcases Nat.lt_or_ge r ((l.drop (64 * j)).take 64).length with h|h
 ·rw[List.getD_eq_getElem?_getD,List.getElem?_append_left h,← List.getD_eq_getElem?_getD,Ev hr,EM]
 ·rw[List.getD_eq_getElem?_getD,List.getElem?_append_right h,List.getElem?_replicate]
  have:l.getD (64 * j+r) 0=0:=by
   rw[List.getD_eq_getElem?_getD,List.getElem?_eq_none (by omega)];rfl
  rw[this]
  split<;>rfl
theorem OO{T M l H:List Nat}{n p:Nat}(hM:M.length=64 * n)(hp:3 * p+3≤n)(hl:1≤l.length∧l.length≤100)(hH:H.length=64):
  (Gh T M p l H).length=64 * n∧∀ x,(Gh T M p l H).getD x 0=if x / 64=3 * p then H.getD (x % 64) 0 else if x / 64=3 * p+1 then l.getD (x % 64) 0 else if x / 64=3 * p+2∧64<l.length then l.getD (64+x % 64) 0 else M.getD x 0:=by
 have hk:(l.length+63) / 64=1∨(l.length+63) / 64=2:=by omega
 rcases hk with hk|hk
 ·have e:Gh T M p l H=Iy (Iy M (p * 3+1+0) (Co l 0)) (p * 3) H:=by
   unfold Gh GK Gm
   rw[hk];rfl
  have l1:=Dd hM (show p * 3+1+0<n by omega) (Cg l 0)
  rw[e]
  refine⟨Dd l1 (by omega) hH,fun x=>?_⟩
  rw[Fh l1 (by omega) hH,Fh hM (show p * 3+1+0<n by omega) (Cg l 0),H5 (by omega),Nat.mul_zero,Nat.zero_add,Nat.mul_comm p 3,Nat.add_zero]
  by_cases h1:x / 64=3 * p
  ·rw[if_pos h1,if_pos h1]
  ·rw[if_neg h1,if_neg h1]
   by_cases h2:x / 64=3 * p+1
   ·rw[if_pos h2,if_pos h2]
   ·rw[if_neg h2,if_neg h2,if_neg (by omega)]
 ·have e:Gh T M p l H=Iy (Iy (Iy M (p * 3+1+0) (Co l 0)) (p * 3+1+1) (Co l 1)) (p * 3) H:=by
   unfold Gh GK Gm
   rw[hk];rfl
  have l1:=Dd hM (show p * 3+1+0<n by omega) (Cg l 0)
  have l2:=Dd l1 (show p * 3+1+1<n by omega) (Cg l 1)
  rw[e]
  refine⟨Dd l2 (by omega) hH,fun x=>?_⟩
  rw[Fh l2 (by omega) hH,Fh l1 (show p * 3+1+1<n by omega) (Cg l 1),Fh hM (show p * 3+1+0<n by omega) (Cg l 0),H5 (by omega),H5 (by omega),Nat.mul_zero,Nat.zero_add,Nat.mul_comm p 3,Nat.add_zero,Nat.mul_one]
  by_cases h1:x / 64=3 * p
  ·rw[if_pos h1,if_pos h1]
  ·rw[if_neg h1,if_neg h1]
   by_cases h2:x / 64=3 * p+1
   ·rw[if_neg (by omega),if_pos h2,if_pos h2]
   ·rw[if_neg h2]
    by_cases h3:x / 64=3 * p+2
    ·rw[if_pos (show x / 64=3 * p+1+1 by omega),if_neg h2,if_pos (show x / 64=3 * p+2∧64<l.length from⟨h3,by omega⟩)]
    ·rw[if_neg (show ¬ x / 64=3 * p+1+1 by omega),if_neg h2,if_neg (show ¬ (x / 64=3 * p+2∧64<l.length)by omega)]
theorem U8{M H:List Nat}{n p:Nat}(hM:M.length=64 * n)(hp:3 * p+3≤n)(hH:H.length=64):(IX M p H).length=64 * n∧∀ x,(IX M p H).getD x 0=if x / 64=3 * p then H.getD (x % 64) 0 else M.getD x 0:=by
 have e:IX M p H=Iy M (p * 3) H:=rfl
 rw[e]
 refine⟨Dd hM (by omega) hH,fun x=>?_⟩
 rw[Fh hM (by omega) hH,Nat.mul_comm p 3]
theorem Pq{n x:Nat}:(List.replicate n 0).getD x 0=0:=by
 rw[List.getD_eq_getElem?_getD,List.getElem?_replicate]
 split<;>rfl
def LV:List Nat:=List.replicate (64 * 24) 0
def Vy(T b:List Nat):List Nat:=Gh T LV 0 b (B7 T 1 0 1 1 b)
def kB(T b:List Nat):List Nat:=Gh T (Vy T b) 1 b (B7 T 2 0 1 1 b)
def GO(T b:List Nat):List Nat:=IX (kB T b) 0 (B7 T 1 0 1 2 b)
theorem rOk{a:Int}{s n:Nat}(ha:a=1∨a=2)(hs:s=1∨s=2)(hn:n≤100):CA a 0 1 s n=true:=decide_eq_true ⟨by omega,by omega,by omega,by omega,by omega,by omega,hs,by omega⟩
section
variable {T b:List Nat}(hl:1≤b.length∧b.length≤100)
include hl
theorem Y8:(Vy T b).length=64 * 24∧∀ x,(Vy T b).getD x 0=if x / 64=0 then(B7 T 1 0 1 1 b).getD (x % 64) 0 else if x / 64=1 then b.getD (x % 64) 0 else if x / 64=2 then b.getD (64+x % 64) 0 else 0:=by
 obtain⟨h1,h2⟩:=OO (T:=T) (M:=LV) (l:=b) (n:=24) (p:=0) List.length_replicate (by omega) hl (Dn (T:=T) (rOk (.inl rfl) (.inl rfl) hl.2))
 refine⟨h1,fun x=>?_⟩
 have h2:=h2 x
 unfold Vy
 rw[h2]
 have z:LV.getD x 0=0:=Pq
 rw[z]
 simp only[Nat.mul_zero,Nat.zero_add]
 by_cases c1:x / 64=0
 ·rw[if_pos c1,if_pos c1]
 ·rw[if_neg c1,if_neg c1]
  by_cases c2:x / 64=1
  ·rw[if_pos c2,if_pos c2]
  ·rw[if_neg c2,if_neg c2]
   by_cases c3:x / 64=2
   ·rw[if_pos c3]
    by_cases c4:64<b.length
    ·rw[if_pos ⟨c3,c4⟩]
    ·rw[if_neg (by omega),List.getD_eq_getElem?_getD,List.getElem?_eq_none (by omega)];rfl
   ·rw[if_neg c3,if_neg (by omega)]
theorem EY:(GO T b).length=64 * 24∧∀ x,(GO T b).getD x 0=if x / 64=0 then(B7 T 1 0 1 2 b).getD (x % 64) 0 else if x / 64=1 then b.getD (x % 64) 0 else if x / 64=2 then b.getD (64+x % 64) 0 else if x / 64=3 then(B7 T 2 0 1 1 b).getD (x % 64) 0 else if x / 64=4 then b.getD (x % 64) 0 else if x / 64=5 then b.getD (64+x % 64) 0 else 0:=by
 obtain⟨a1,a2⟩:=Y8 (T:=T) hl
 obtain⟨b1,b2⟩:=OO (T:=T) (M:=Vy T b) (l:=b) (n:=24) (p:=1) a1 (by omega) hl (Dn (T:=T) (a:=2) (b:=0) (c:=1) (s:=1) (rOk (.inr rfl) (.inl rfl) hl.2))
 obtain⟨c1,c2⟩:=U8 (n:=24) (p:=0) b1 (by omega) (Dn (T:=T) (a:=1) (b:=0) (c:=1) (s:=2) (l:=b) (rOk (.inl rfl) (.inr rfl) hl.2))
 refine⟨c1,fun x=>?_⟩
 unfold GO kB
 rw[c2,b2,a2]
 simp only[Nat.mul_zero,Nat.mul_one,Nat.reduceAdd]
 generalize (B7 T 1 0 1 2 b).getD (x % 64) 0=u0
 generalize (B7 T 1 0 1 1 b).getD (x % 64) 0=u1
 generalize (B7 T 2 0 1 1 b).getD (x % 64) 0=u2
 generalize b.getD (x % 64) 0=u3
 have hz:¬ 64<b.length→b.getD (64+x % 64) 0=0:=fun h=>by
  rw[List.getD_eq_getElem?_getD,List.getElem?_eq_none (by omega)];rfl
 generalize b.getD (64+x % 64) 0=u4 at hz
 generalize x / 64=y
 repeat' split
 all_goals first|rfl|omega|(exact(hz (by omega)).symm)|(exact hz (by omega))
end
theorem De{M:List Nat}{i r:Nat}(hr:r<64):(sec M i).getD r 0=M.getD (64 * i+r) 0:=by
 unfold sec
 rw[Ev hr,EM]
theorem Gu{M:List Nat}{p k r:Nat}(hr:r<k):(dat M p k).getD r 0=M.getD (64 * (3 * p+1)+r) 0:=by
 unfold dat
 rw[Ev hr,EM]
theorem Og{T M:List Nat}{p:Nat}{a b c:Int}{s:Nat}{l:List Nat}(hr:CA a b c s l.length=true)(hl:l.length≤100)(h1:sec M (3 * p)=B7 T a b c s l)(h2:dat M p l.length=l):
  Em T M p (Bd a.toNat b.toNat c.toNat s l.length (BX T l))∧lkN T M p=some (Bd a.toNat b.toNat c.toNat s l.length (BX T l))∧Oq M p (Bd a.toNat b.toNat c.toNat s l.length (BX T l))=⟨a,b,c,s,l,p⟩∧C2 T M p=false:=by
 obtain⟨g1,g2,g3,g4,g5,g6,_⟩:=Eh hr
 have hH:Em T M p (Bd a.toNat b.toNat c.toNat s l.length (BX T l)):=by
  refine⟨by rw[h1];exact PZ hr,hl,?_⟩
  show BX T (dat M p l.length)=BX T l
  rw[h2]
 refine⟨hH,O3 hH,?_,?_⟩
 ·show(⟨(a.toNat:Int),(b.toNat:Int),(c.toNat:Int),s,dat M p l.length,p⟩:Kc)=_
  rw[h2,Int.toNat_of_nonneg g1,Int.toNat_of_nonneg g3,Int.toNat_of_nonneg (by omega)]
 ·cases hb:C2 T M p
  ·rfl
  ·exact absurd ⟨_,hH⟩ (F9.1 hb).1
theorem OR{T M:List Nat}{n p:Nat}(hM:M.length=64 * n)(hp:3 * p<n)(h:∀ r,r<64→M.getD (64 * (3 * p)+r) 0=0):lkN T M p=none∧C2 T M p=false:=by
 have hl:=EZ hM hp
 have hz:∀ x∈sec M (3 * p),x=0:=fun x hx=>by
  obtain⟨i,hi⟩:=List.mem_iff_getElem?.1 hx
  have hil:=(List.getElem?_eq_some_iff.1 hi).1
  have:=De (M:=M) (i:=3 * p) (r:=i) (by omega)
  rw[h i (by omega),List.getD_eq_getElem?_getD,hi]at this
  exact this
 have hno:¬ ∃ ns,Em T M p ns:=fun⟨ns,h1,_⟩=>Pb hl hz h1
 refine⟨LR hno,?_⟩
 cases hb:C2 T M p
 ·rfl
 ·rcases (F9.1 hb).2 with ⟨x,hx,h1⟩|⟨ns,h1,_⟩
  ·exact absurd (hz x hx) h1
  ·exact absurd h1 (Pb hl hz)
def CR:List Nat→Nat→List Nat→List Nat
 |M,_,[]=>M
 |M,k,t::ts=>CR (GG M k t) (k+1) ts
theorem UP{M:List Nat}{k t x:Nat}(hk:k<M.length):(GG M k t).getD x 0=if x=k then Nat.xor (M.getD k 0) t else M.getD x 0:=by
 unfold GG
 rw[List.getD_eq_getElem?_getD,List.getElem?_set]
 by_cases h:k=x
 ·rw[if_pos h,if_pos h.symm,if_pos hk];rfl
 ·rw[if_neg h,if_neg (fun e=>h e.symm),← List.getD_eq_getElem?_getD]
theorem QC{M:List Nat}{k t:Nat}:(GG M k t).length=M.length:=List.length_set
theorem E0:∀ (ts:List Nat) {M:List Nat} {k:Nat},(CR M k ts).length=M.length
 |[],_,_=>rfl
 |t::ts,M,k=>by
  show(CR (GG M k t) (k+1) ts).length=_
  rw[E0 ts,QC]
theorem Dm:∀ (ts:List Nat) {M:List Nat} {k x:Nat},k+ts.length≤M.length→(CR M k ts).getD x 0=if k≤x∧x<k+ts.length then Nat.xor (M.getD x 0) (ts.getD (x - k) 0)else M.getD x 0
 |[],M,k,x,_=>by rw[if_neg (by simp only[List.length_nil];omega)];rfl
 |t::ts,M,k,x,h=>by
  simp only[List.length_cons]at h ⊢
  show(CR (GG M k t) (k+1) ts).getD x 0=_
  rw[Dm ts (by rw[QC];omega),UP (by omega)]
  by_cases h1:x=k
  ·rw[if_neg (by omega),if_pos h1,if_pos (by omega),h1,Nat.sub_self];rfl
  ·rw[if_neg h1]
   by_cases h2:k+1≤x∧x<k+1+ts.length
   ·rw[if_pos h2,if_pos (by omega),show x - k=(x - (k+1))+1 by omega];rfl
   ·rw[if_neg h2,if_neg (by omega)]
theorem UV(a t:Nat):Nat.xor (Nat.xor a t) t=a:=by
 show(a ^^^ t) ^^^ t=a
 rw[Nat.xor_assoc,Nat.xor_self,Nat.xor_zero]
theorem P6{ts:List Nat}{M:List Nat}{k:Nat}(h:k+ts.length≤M.length):CR (CR M k ts) k ts=M:=by
 refine Da (by rw[E0,E0]) fun i _=>?_
 rw[Dm ts (by rw[E0];exact h),Dm ts h]
 split
 ·exact UV _ _
 ·rfl
theorem RF{ts:List Nat}{M:List Nat}{k:Nat}(h:k+ts.length≤M.length)(hz:∀ t∈ts,t=0):CR M k ts=M:=by
 refine Da (by rw[E0]) fun i _=>?_
 rw[Dm ts h]
 split
 ·rename_i hi
  have:ts.getD (i - k) 0=0:=by
   rw[List.getD_eq_getElem?_getD,List.getElem?_eq_getElem (by omega)]
   exact hz _ (List.getElem_mem _)
  rw[this]
  exact Nat.xor_zero _
 ·rfl
theorem XE{ts:List Nat}{M:List Nat}{k:Nat}(h:k+ts.length≤M.length)(hM:∀ x∈M,x<256)(ht:∀ t∈ts,t<256):∀ x∈CR M k ts,x<256:=fun x hx=>by
 obtain⟨i,hi⟩:=List.mem_iff_getElem?.1 hx
 have hil:=(List.getElem?_eq_some_iff.1 hi).1
 have h1:(CR M k ts).getD i 0=x:=by rw[List.getD_eq_getElem?_getD,hi];rfl
 rw[← h1,Dm ts h]
 split
 ·exact I9 (Ep hM _) (Ep ht _)
 ·exact Ep hM _
end
noncomputable section
open Go
set_option maxRecDepth 100000
theorem Yt{T:List Nat}{b:List Nat}(hl:1≤b.length∧b.length≤100):(B7 T 1 0 1 2 b).getD 0 0=2∧(B7 T 1 0 1 2 b).getD 4 0=b.length:=by
 have u:∀ n,n<128→B4 n=[n]:=fun n hn=>by unfold B4;rw[dif_pos hn]
 have e:B7 T 1 0 1 2 b=2::1::0::1::b.length::(B4 (BX T b)++(List.replicate (60 - (Bo (Bd 1 0 1 2 b.length (BX T b))).length) 0++ET (BX T (F5 (Bd 1 0 1 2 b.length (BX T b)))))):=by
  have e1:Bo (Bd 1 0 1 2 b.length (BX T b))=2::1::0::1::b.length::B4 (BX T b):=by
   unfold Bd
   rw[CS,CS,CS,CS,CS,CS,u 2 (by omega),u 1 (by omega),u 0 (by omega),u b.length (by omega)]
   show _=_
   simp only[Bo,List.flatMap_nil,List.append_nil]
   rfl
  have e2:B7 T 1 0 1 2 b=(Bo (Bd 1 0 1 2 b.length (BX T b))++List.replicate (60 - (Bo (Bd 1 0 1 2 b.length (BX T b))).length) 0)++ET (BX T (F5 (Bd 1 0 1 2 b.length (BX T b)))):=rfl
  rw[e2]
  generalize 60 - (Bo (Bd 1 0 1 2 b.length (BX T b))).length=z
  rw[e1,List.append_assoc]
  rfl
 rw[e]
 exact⟨rfl,rfl⟩
theorem RA:List.range 8=[0,1,2,3,4,5,6,7]:=rfl
structure Trn (b:List Nat)(hd:Bool)(k:Nat)(ts:List Nat):Prop where
 lt:∀ t∈ts,t<256
 win:k+ts.length≤if hd=true then 60 else b.length
 four:ts.length≤4
def frm(hd:Bool):Nat:=if hd=true then 0 else 64
def chg(ts:List Nat):Bool:=ts.any fun t=>decide (t≠0)
theorem ez{ts:List Nat}(h:chg ts=false):∀ t∈ts,t=0:=fun t ht=>by
 unfold chg at h
 have:=(List.any_eq_false.1 h) t ht
 by_cases h0:t=0
 ·exact h0
 ·exact absurd (decide_eq_true h0) this
theorem YC{ts:List Nat}(h:chg ts=true):∃ i,i<ts.length∧ts.getD i 0≠0:=by
 unfold chg at h
 obtain⟨t,ht,h1⟩:=List.any_eq_true.1 h
 obtain⟨i,hi⟩:=List.mem_iff_getElem?.1 ht
 refine⟨i,(List.getElem?_eq_some_iff.1 hi).1,?_⟩
 rw[List.getD_eq_getElem?_getD,hi]
 exact of_decide_eq_true h1
theorem Xe{a t:Nat}(h:t≠0):Nat.xor a t≠a:=fun e=>h (Ka (a:=a) (e.trans (Nat.xor_zero a).symm))
section
variable {T b ts:List Nat}{hd:Bool}{k:Nat}
def Cm(T b:List Nat)(hd:Bool)(k:Nat)(ts:List Nat):List Nat:=CR (GO T b) (frm hd+k) ts
theorem Y9(hl:1≤b.length∧b.length≤100)(hb:∀ x∈b,x<256):∀ x∈GO T b,x<256:=fun x hx=>by
 obtain⟨i,hi⟩:=List.mem_iff_getElem?.1 hx
 have h1:(GO T b).getD i 0=x:=by rw[List.getD_eq_getElem?_getD,hi];rfl
 rw[← h1,(EY (T:=T) hl).2]
 have q1:=fun r=>Ep (G0 (T:=T) (a:=1) (b:=0) (c:=1) (s:=2) (l:=b)) r
 have q2:=fun r=>Ep (G0 (T:=T) (a:=2) (b:=0) (c:=1) (s:=1) (l:=b)) r
 have q3:=fun r=>Ep hb r
 repeat' split
 ·exact q1 _
 ·exact q3 _
 ·exact q3 _
 ·exact q2 _
 ·exact q3 _
 ·exact q3 _
 ·decide
variable (hl:1≤b.length∧b.length≤100)(hb:∀ x∈b,x<256)(t:Trn b hd k ts)
include hl t
theorem Io:frm hd+k+ts.length≤(GO T b).length:=by
 have:=t.win
 rw[(EY hl).1]
 unfold frm
 split at this<;>split<;>simp_all<;>omega
theorem HB:(Cm T b hd k ts).length=64 * 24:=by
 have _:=t.four
 unfold Cm
 rw[E0,(EY hl).1]
theorem LW{x:Nat}(hx:192≤x):(Cm T b hd k ts).getD x 0=(GO T b).getD x 0:=by
 unfold Cm
 rw[Dm ts (Io hl t),if_neg]
 have:=t.win
 unfold frm
 split at this<;>split<;>simp_all<;>omega
theorem V3:Em T (Cm T b hd k ts) 1 (Bd 2 0 1 1 b.length (BX T b))∧lkN T (Cm T b hd k ts) 1=some (Bd 2 0 1 1 b.length (BX T b))∧Oq (Cm T b hd k ts) 1 (Bd 2 0 1 1 b.length (BX T b))=⟨2,0,1,1,b,1⟩∧C2 T (Cm T b hd k ts) 1=false∧dat (Cm T b hd k ts) 1 b.length=b:=by
 have hr:CA 2 0 1 1 b.length=true:=rOk (.inr rfl) (.inl rfl) hl.2
 have e1:sec (Cm T b hd k ts) (3 * 1)=B7 T 2 0 1 1 b:=by
  refine Da ((EZ (n:=24) (HB hl t) (by omega)).trans (Dn hr).symm) fun r hr'=>?_
  rw[EZ (n:=24) (HB hl t) (by omega)]at hr'
  rw[De hr',LW hl t (by omega),(EY hl).2,if_neg (by omega),if_neg (by omega),if_neg (by omega),if_pos (by omega)]
  congr 1;omega
 have e2:dat (Cm T b hd k ts) 1 b.length=b:=by
  refine Da ?_ fun r hr'=>?_
  ·unfold dat
   rw[List.length_take,List.length_drop,HB hl t]
   omega
  ·have hr':r<b.length:=by
    unfold dat at hr'
    rw[List.length_take]at hr'
    omega
   rw[Gu hr',LW hl t (by omega),(EY hl).2,if_neg (by omega),if_neg (by omega),if_neg (by omega),if_neg (by omega)]
   by_cases h64:r<64
   ·rw[if_pos (by omega)]
    congr 1;omega
   ·rw[if_neg (by omega),if_pos (by omega)]
    congr 1;omega
 obtain⟨a1,a2,a3,a4⟩:=Og hr hl.2 e1 e2
 exact⟨a1,a2,a3,a4,e2⟩
theorem V4{p:Nat}(hp:2≤p∧p<8):lkN T (Cm T b hd k ts) p=none∧C2 T (Cm T b hd k ts) p=false:=by
 refine OR (n:=24) (HB hl t) (by omega) fun r hr=>?_
 rw[LW hl t (by omega),(EY hl).2,if_neg (by omega),if_neg (by omega),if_neg (by omega),if_neg (by omega),if_neg (by omega),if_neg (by omega)]
omit t in
theorem Vz:sec (GO T b) (3 * 0)=B7 T 1 0 1 2 b∧dat (GO T b) 0 b.length=b:=by
 have hr:CA 1 0 1 2 b.length=true:=rOk (.inl rfl) (.inr rfl) hl.2
 have hm:=(EY (T:=T) hl).1
 constructor
 ·refine Da ((EZ (n:=24) hm (by omega)).trans (Dn hr).symm) fun r hr'=>?_
  rw[EZ (n:=24) hm (by omega)]at hr'
  rw[De hr',(EY hl).2,if_pos (by omega)]
  congr 1;omega
 ·refine Da ?_ fun r hr'=>?_
  ·unfold dat
   rw[List.length_take,List.length_drop,hm]
   omega
  ·have hr':r<b.length:=by
    unfold dat at hr'
    rw[List.length_take]at hr'
    omega
   rw[Gu hr',(EY hl).2,if_neg (by omega)]
   by_cases h64:r<64
   ·rw[if_pos (by omega)]
    congr 1;omega
   ·rw[if_neg (by omega),if_pos (by omega)]
    congr 1;omega
theorem V0(hc:chg ts=false):Em T (Cm T b hd k ts) 0 (Bd 1 0 1 2 b.length (BX T b))∧lkN T (Cm T b hd k ts) 0=some (Bd 1 0 1 2 b.length (BX T b))∧Oq (Cm T b hd k ts) 0 (Bd 1 0 1 2 b.length (BX T b))=⟨1,0,1,2,b,0⟩∧C2 T (Cm T b hd k ts) 0=false∧dat (Cm T b hd k ts) 0 b.length=b:=by
 have hr:CA 1 0 1 2 b.length=true:=rOk (.inl rfl) (.inr rfl) hl.2
 have e:Cm T b hd k ts=GO T b:=RF (Io hl t) (ez hc)
 rw[e]
 obtain⟨e1,e2⟩:=Vz (T:=T) hl
 obtain⟨a1,a2,a3,a4⟩:=Og hr hl.2 e1 e2
 exact⟨a1,a2,a3,a4,e2⟩
include hb
theorem O8(hT:TblOk T)(hI:DV T)(hc:chg ts=true):(¬ ∃ ns,Em T (Cm T b hd k ts) 0 ns)∧lkN T (Cm T b hd k ts) 0=none∧C2 T (Cm T b hd k ts) 0=true:=by
 have hr:CA 1 0 1 2 b.length=true:=rOk (.inl rfl) (.inr rfl) hl.2
 obtain⟨i,hi,hti⟩:=YC hc
 have fit:=Io (T:=T) hl t
 have hw:=t.win
 have h4:=t.four
 obtain⟨e1,e2⟩:=Vz (T:=T) hl
 have hlen:=HB (T:=T) hl t
 have hsl:=EZ (i:=3 * 0) (n:=24) hlen (by omega)
 have at_:∀ x,(Cm T b hd k ts).getD x 0=if frm hd+k≤x∧x<frm hd+k+ts.length then Nat.xor ((GO T b).getD x 0) (ts.getD (x - (frm hd+k)) 0)else(GO T b).getD x 0:=fun x=>Dm ts fit
 have hlt:∀ x∈Cm T b hd k ts,x<256:=XE fit (Y9 hl hb) t.lt
 suffices hx:(¬ ∃ ns,Em T (Cm T b hd k ts) 0 ns)∧((∃ x∈sec (Cm T b hd k ts) (3 * 0),x≠0)∨∃ ns,H3 T (sec (Cm T b hd k ts) (3 * 0)) ns∧at6 ns 4≤100)from⟨hx.1,LR hx.1,F9.2 hx⟩
 cases hd with
 |true=>
  have hw:k+ts.length≤60:=hw
  have hf:frm true=0:=rfl
  rw[hf]at at_
  simp only[Nat.zero_add]at at_
  refine⟨fun⟨ns,⟨body,q,h1,_⟩,_⟩=>?_,.inl ?_⟩
  ·have hbl:(F5 (Bd 1 0 1 2 b.length (BX T b))).length=60:=by
    have:=Dn (T:=T) hr
    unfold B7 at this
    rw[Ez]at this
    have this:(F5 (Bd 1 0 1 2 b.length (BX T b))).length+4=64:=this
    omega
   have hs0:∀ r,r<64→(C3 T (F5 (Bd 1 0 1 2 b.length (BX T b)))).getD r 0=(GO T b).getD r 0:=fun r hr'=>by
    have:C3 T (F5 (Bd 1 0 1 2 b.length (BX T b)))=B7 T 1 0 1 2 b:=rfl
    rw[this,← e1,De hr']
    congr 1;omega
   have:=UU hT hI (body:=F5 (Bd 1 0 1 2 b.length (BX T b))) (l':=sec (Cm T b true k ts) (3 * 0)) (k:=k) hbl hsl (Nm Jh) (fun x hx=>hlt x (List.mem_of_mem_drop (List.mem_of_mem_take hx))) (fun r hr' hor=>by
    rw[De hr',hs0 r hr',at_,if_neg (by omega)]
    congr 1;omega) (fun e=>by
    have e:(sec (Cm T b true k ts) (3 * 0)).getD (k+i) 0=(C3 T (F5 (Bd 1 0 1 2 b.length (BX T b)))).getD (k+i) 0:=by rw[e]
    rw[De (by omega),hs0 _ (by omega),Nat.mul_zero,Nat.zero_add,at_,if_pos ⟨by omega,by omega⟩,Nat.add_sub_cancel_left]at e
    exact Xe hti e)
   rw[this]at h1
   cases h1
  ·obtain⟨z0,z4⟩:=Yt (T:=T) hl
   have got:∀ r,r<64→¬ (k≤r∧r<k+ts.length)→(sec (Cm T b true k ts) (3 * 0)).getD r 0=(B7 T 1 0 1 2 b).getD r 0:=fun r hr' hno=>by
    rw[← e1,De hr',De hr',Nat.mul_zero,Nat.zero_add,at_,if_neg hno]
   have mem:∀ r,r<64→(sec (Cm T b true k ts) (3 * 0)).getD r 0∈sec (Cm T b true k ts) (3 * 0):=fun r hr'=>by
    rw[List.getD_eq_getElem?_getD,List.getElem?_eq_getElem (by rw[hsl];exact hr')]
    exact List.getElem_mem _
   by_cases hk:k=0
   ·exact⟨_,mem 4 (by omega),by rw[got 4 (by omega) (by omega),z4];omega⟩
   ·exact⟨_,mem 0 (by omega),by rw[got 0 (by omega) (by omega),z0];omega⟩
 |false=>
  have hw:k+ts.length≤b.length:=hw
  have hf:frm false=64:=rfl
  rw[hf]at at_
  have es:sec (Cm T b false k ts) (3 * 0)=B7 T 1 0 1 2 b:=by
   rw[← e1]
   refine Da (by rw[hsl,EZ (n:=24) (EY hl).1 (by omega)]) fun r hr'=>?_
   rw[hsl]at hr'
   rw[De hr',De hr',Nat.mul_zero,Nat.zero_add,at_,if_neg (by omega)]
  have P:=PZ (T:=T) hr
  refine⟨fun⟨ns,h1,h2,h3⟩=>?_,.inr ⟨Bd 1 0 1 2 b.length (BX T b),es.symm ▸ P,hl.2⟩⟩
  rw[es]at h1
  have hns:=Wq h1 P
  subst hns
  have h3:BX T (dat (Cm T b false k ts) 0 b.length)=BX T b:=h3
  have hdl:(dat (Cm T b false k ts) 0 b.length).length=b.length:=by
   unfold dat
   rw[List.length_take,List.length_drop,hlen]
   omega
  have dget:∀ r,r<b.length→(GO T b).getD (64+r) 0=b.getD r 0:=fun r hr'=>by
   have:=Gu (M:=GO T b) (p:=0) hr'
   rw[e2]at this
   rw[this]
  have:=M5 hT hI (k:=k) hdl (fun x hx=>hlt x (List.mem_of_mem_drop (List.mem_of_mem_take hx))) hb (fun r hr' hor=>by
   rw[hdl]at hr'
   rw[Gu hr',at_,if_neg (by omega)]
   exact dget r hr') h3
  have e:(dat (Cm T b false k ts) 0 b.length).getD (k+i) 0=b.getD (k+i) 0:=by rw[this]
  rw[Gu (by omega),at_,if_pos ⟨by omega,by omega⟩,show 64 * (3 * 0+1)+(k+i) - (64+k)=i by omega,show 64 * (3 * 0+1)+(k+i)=64+(k+i)by omega,dget _ (by omega)]at e
  exact Xe hti e
end
theorem Vm{T M:List Nat}{o0 o1:Option (List Nat)}(h0:lkN T M 0=o0)(h1:lkN T M 1=o1)(h2:∀ p,2≤p∧p<8→lkN T M p=none):kcs T M 8=(o0.map (Oq M 0)).toList++(o1.map (Oq M 1)).toList:=by
 unfold kcs
 rw[RA]
 simp only[List.filterMap_cons,List.filterMap_nil,h0,h1,h2 2 (by omega),h2 3 (by omega),h2 4 (by omega),h2 5 (by omega),h2 6 (by omega),h2 7 (by omega),Option.map_none]
 cases o0<;>cases o1<;>rfl
theorem QP{T M:List Nat}{o0:Bool}(h0:C2 T M 0=o0)(h1:C2 T M 1=false)(h2:∀ p,2≤p∧p<8→C2 T M p=false):bads T M 8=if o0=true then [0]else []:=by
 unfold bads
 rw[RA]
 simp only[List.filter_cons,List.filter_nil,h0,h1,h2 2 (by omega),h2 3 (by omega),h2 4 (by omega),h2 5 (by omega),h2 6 (by omega),h2 7 (by omega)]
 cases o0<;>rfl
theorem SQ{T:List Nat}{p:Nat}(hp:p<8):lkN T LV p=none∧C2 T LV p=false:=OR (n:=24) List.length_replicate (by omega) fun r hr=>Pq
theorem TV{T:List Nat}:kcs T LV 8=[]∧bads T LV 8=[]∧mrk T LV 8=[]:=by
 have n0:=fun p hp=>(SQ (T:=T) (p:=p) hp).1
 have b0:=fun p hp=>(SQ (T:=T) (p:=p) hp).2
 refine⟨Vm (n0 0 (by omega)) (n0 1 (by omega)) fun p hp=>n0 p hp.2,QP (b0 0 (by omega)) (b0 1 (by omega)) fun p hp=>b0 p hp.2,?_⟩
 unfold mrk
 rw[RA]
 simp only[List.filter_cons,List.filter_nil,n0 0 (by omega),n0 1 (by omega),n0 2 (by omega),n0 3 (by omega),n0 4 (by omega),n0 5 (by omega),n0 6 (by omega),n0 7 (by omega),b0 0 (by omega),b0 1 (by omega),b0 2 (by omega),b0 3 (by omega),b0 4 (by omega),b0 5 (by omega),b0 6 (by omega),b0 7 (by omega),Option.isSome_none,Bool.or_self,Bool.false_eq_true,if_false]
theorem TO:freeL [] 8=[0,1,2,3,4,5,6,7]:=rfl
theorem Wn{ks:List Kt}:outL ks [] 8=[]:=by
 unfold outL
 refine List.filter_eq_nil_iff.2 fun p _=>?_
 rw[decide_eq_false (List.not_mem_nil),Bool.and_false]
 decide
theorem TW{T b ts:List Nat}{hd:Bool}{k:Nat}(hl:1≤b.length∧b.length≤100)(hb:∀ x∈b,x<256)(t:Trn b hd k ts)(hT:TblOk T)(hI:DV T):
  kcs T (Cm T b hd k ts) 8=(if chg ts=true then []else [⟨1,0,1,2,b,0⟩])++[⟨2,0,1,1,b,1⟩]∧(bads T (Cm T b hd k ts) 8).length=if chg ts=true then 1 else 0:=by
 obtain⟨_,a2,a3,a4,_⟩:=V3 (T:=T) hl t
 have n2:=fun p hp=>(V4 (T:=T) (p:=p) hl t hp).1
 have b2:=fun p hp=>(V4 (T:=T) (p:=p) hl t hp).2
 cases hc:chg ts with
 |true=>
  obtain⟨_,c2,c3⟩:=O8 hl hb t hT hI hc
  rw[Vm c2 a2 n2,QP c3 a4 b2]
  simp only[Option.map_some,Option.map_none,a3]
  exact⟨rfl,rfl⟩
 |false=>
  obtain⟨_,c2,c3,c4,_⟩:=V0 (T:=T) hl t hc
  rw[Vm c2 a2 n2,QP c4 a4 b2]
  simp only[Option.map_some,Option.map_none,a3,c3]
  exact⟨rfl,rfl⟩
theorem Mh{T b ts:List Nat}{hd:Bool}{k:Nat}(hl:1≤b.length∧b.length≤100)(hb:∀ x∈b,x<256)(t:Trn b hd k ts)(hT:TblOk T)(hI:DV T){k1 k2:Kt}(h1:k1.core=⟨1,0,1,2,b,0⟩)(h2:k2.core=⟨2,0,1,1,b,1⟩):
  (UY T (Cm T b hd k ts) k1↔chg ts=false)∧UY T (Cm T b hd k ts) k2:=by
 obtain⟨a1,_,_,_,a5⟩:=V3 (T:=T) hl t
 obtain⟨ka,kb,kc,ks,kl,kp,ku⟩:=k1
 obtain⟨ma,mb,mc,ms,ml,mp,mu⟩:=k2
 cases h1
 cases h2
 refine⟨⟨fun⟨ns,h,_⟩=>?_,fun hc=>?_⟩,⟨_,a1,rfl,rfl,rfl,rfl,a5⟩⟩
 ·cases hc:chg ts with
  |true=>exact absurd ⟨ns,h⟩ (O8 hl hb t hT hI hc).1
  |false=>rfl
 ·obtain⟨c1,_,_,_,c5⟩:=V0 (T:=T) hl t hc
  exact⟨_,c1,rfl,rfl,rfl,rfl,c5⟩
end
noncomputable section
open Go
set_option maxRecDepth 100000
theorem fN:d13=fO:=rfl
theorem My:∀ (a:List Nat) {b M:List Nat} {k:Nat},CR M k (a++b)=CR (CR M k a) (k+a.length) b
 |[],b,M,k=>rfl
 |x::a,b,M,k=>by
  show CR (GG M k x) (k+1) (a++b)=CR (CR (GG M k x) (k+1) a) _ b
  rw[My a,List.length_cons,show k+1+a.length=k+(a.length+1)by omega]
theorem QA{l:List Nat}{i:Nat}(hi:i<l.length):l.take (i+1)=l.take i++[l.getD i 0]:=by
 rw[List.take_add_one,List.getElem?_eq_getElem hi,List.getD_eq_getElem?_getD,List.getElem?_eq_getElem hi];rfl
theorem YB(a:List Nat)(t:Nat):chg (a++[t])=(chg a || decide (t≠0)):=by
 unfold chg
 rw[List.any_append]
 simp only[List.any_cons,List.any_nil,Bool.or_false]
section
variable {F:CallF}{e:Env}{h:Hp}{bd bm bc c0 m k mn fr b0 b1 b2 b3 b4:Nat}{M tl:List Nat}{cs:List (Nat×List Nat)}{arm:Int}{dn:Bool}
theorem j7{b i:Nat}(hi:i<4):J5 4 1 (pt b) (.int .i64 (i:Int)) h=.ok (.pointer (some ⟨b,i,none⟩)) h:=by
 have:=KG (h:=h) (n:=4) (es:=1) (b:=b) (off:=0) (i:=i) (k:=.i64) hi
 rwa [Nat.mul_one,Nat.zero_add]at this
theorem fg{n:Nat}(hn:n≤1000000):OP .i64 (.int .i64 (n:Int)) (.int .i64 64) h=.ok (.int .i64 ((n / 64:Nat):Int)) h:=by
 have:((n:Nat):Int).tdiv 64=((n / 64:Nat):Int):=rfl
 rw[Ib (by omega),this,Br (by omega)]
theorem gt{n:Nat}:RB .i64 (.int .i64 (n:Int)) (.int .i64 64) h=.ok (.int .i64 ((n % 64:Nat):Int)) h:=by
 have:((n:Nat):Int).tmod 64=((n % 64:Nat):Int):=rfl
 rw[KT (by omega),this]
theorem gz(W:h.Wf)(d:Dk h bd bm bc 24 M c0 cs arm dn)(Rk:h.Row b0 0 [.int .i64 (k:Int)])(Rm:h.Row b1 0 [.int .i64 (mn:Int)])(Rf:h.Row b2 0 [.int .i64 (fr:Int)])(Rd:h.Row b3 0 [pt bd])(Rt:h.Row b4 0 (tl.map bv))(htl:tl.length=4)(htb:∀ x∈tl,x<256)
  (hb:b0≠bm∧b1≠bm∧b2≠bm∧b3≠bm∧b4≠bm)(hmn:mn≤100)(hk:k<mn)(hfr:fr≤64):
  ∃ h',call AG (m+3) 13 [pt b0,pt b1,pt b2,pt b3,pt b4] h=.ok (.bool (chg (tl.take (mn - k)))) h'∧Fx (fun b=>b=bm) h h'∧Dk h' bd bm bc 24 (CR M (fr+k) (tl.take (mn - k))) c0 cs arm dn:=by
 have eN:∃ N,N≤4∧N≤mn - k∧(N=4∨N=mn - k)∧tl.take (mn - k)=tl.take N:=by
  rcases Nat.lt_or_ge (mn - k) 4 with hlt|hge
  ·exact⟨mn - k,by omega,Nat.le_refl _,.inr rfl,rfl⟩
  ·exact⟨4,Nat.le_refl _,hge,.inl rfl,by rw[List.take_of_length_le (by omega),List.take_of_length_le (by omega)]⟩
 obtain⟨N,n1,n2,n3,eN⟩:=eN
 rw[eN]
 have run:∃ e' h',A1 spB (call AG (m+2)) (Env.set 7 (.int .i64 0) (Env.set 6 (.bool false) (Env.set 5 (.bool false) (AZ e0 0 [pt b0,pt b1,pt b2,pt b3,pt b4])))) h=.exit 0 e' h'∧Fx (fun b=>b=bm) h h'∧Dk h' bd bm bc 24 (CR M (fr+k) (tl.take N)) c0 cs arm dn∧AB 6 e'=.bool (chg (tl.take N)):=by
  refine Bz (I:=fun i e' g=>i≤N∧Fx (fun b=>b=bm) h g∧Dk g bd bm bc 24 (CR M (fr+k) (tl.take i)) c0 cs arm dn∧AB 0 e'=pt b0∧AB 1 e'=pt b1∧AB 2 e'=pt b2∧AB 3 e'=pt b3∧AB 4 e'=pt b4∧AB 6 e'=.bool (chg (tl.take i))∧AB 7 e'=.int .i64 (i:Int))
   (Q:=fun x=>∃ e' h',x=.exit 0 e' h'∧Fx (fun b=>b=bm) h h'∧Dk h' bd bm bc 24 (CR M (fr+k) (tl.take N)) c0 cs arm dn∧AB 6 e'=.bool (chg (tl.take N))) N (by omega) (fun i e' g ⟨hi,x,d,t0,t1,t2,t3,t4,t6,t7⟩=>?_) ⟨Nat.zero_le _,.refl W,d,by simp only[AJ,AK,Nat.succ_eq_add_one,Nat.zero_add,Nat.reduceAdd,AE,Nat.reduceLT,Nat.reduceEqDiff,if_true,if_false,reduceIte],by simp only[AJ,AK,Nat.succ_eq_add_one,Nat.zero_add,Nat.reduceAdd,AE,Nat.reduceLT,Nat.reduceEqDiff,if_true,if_false,reduceIte],by simp only[AJ,AK,Nat.succ_eq_add_one,Nat.zero_add,Nat.reduceAdd,AE,Nat.reduceLT,Nat.reduceEqDiff,if_true,if_false,reduceIte],by simp only[AJ,AK,Nat.succ_eq_add_one,Nat.zero_add,Nat.reduceAdd,AE,Nat.reduceLT,Nat.reduceEqDiff,if_true,if_false,reduceIte],by simp only[AJ,AK,Nat.succ_eq_add_one,Nat.zero_add,Nat.reduceAdd,AE,Nat.reduceLT,Nat.reduceEqDiff,if_true,if_false,reduceIte],by simp only[AE,Nat.reduceLT,Nat.reduceEqDiff,if_true,if_false,reduceIte];rfl,by simp only[AE,Nat.reduceLT,Nat.reduceEqDiff,if_true,if_false,reduceIte];rfl⟩
  have l0:=CH (x.row W Rk hb.1)
  have l1:=CH (x.row W Rm hb.2.1)
  have a1:=Kf (h:=g) (a:=k) (b:=i) (by omega)
  by_cases hlt:i<N
  ·left
   have c1:iLt (i:Int) 4=true:=E8 (b:=4) (by omega)
   have c2:iLt ((k+i:Nat):Int) (mn:Int)=true:=E8 (by omega)
   have gm:∀ b el L,h.Row b el L→b≠bm→g.marked.Row b el L:=fun b el L r hne=>(x.row W r hne).same rfl
   have l2:=CH (x.row W Rf hb.2.2.1)
   have m3:=CH (gm _ _ _ Rd hb.2.2.2.1)
   have R4:=gm _ _ _ Rt hb.2.2.2.2
   have f1:=Kf (h:=g) (a:=fr) (b:=k) (by omega)
   have f2:=Kf (h:=g) (a:=fr+k) (b:=i) (by omega)
   have dv:=fg (h:=g.marked) (n:=fr+k+i) (by omega)
   have rm:=gt (h:=g.marked) (n:=fr+k+i)
   have i4:=j7 (h:=g.marked) (b:=b4) (i:=i) (by omega)
   have ld:=Qt R4 (k:=i) (by omega)
   have ht:=Ep htb i
   have W':=x.wf
   obtain⟨h2,k2,x2,d2⟩:=XD (m:=m) (h:=g.marked.quiet) (i:=(fr+k+i) / 64) (j:=(fr+k+i) % 64) (t:=tl.getD i 0) W'.marked.quiet (d.same rfl) (by omega) (by omega) ht
   have q2:∀ e:Env,AB 25 e=pt bd→AB 27 e=.int .i64 (((fr+k+i) / 64:Nat):Int)→AB 29 e=.int .i64 (((fr+k+i) % 64:Nat):Int)→AB 32 e=.int .u8 ((tl.getD i 0:Nat):Int)→Ak .free (AO 14 [AB 25,AB 27,AB 29,AB 32]) (call AG (m+2)) e g.marked=.ok (.int .i64 0) (g.marked.back h2):=fun e e1 e2 e3 e4=>by
    refine Bq ?_
    rw[Ab,AN,AN,AN,AN,AX,e1,e2,e3,e4];exact k2
   have fx:Fx (fun b=>b=bm) g (g.marked.back h2):=(x2.from (h:=g) rfl rfl).same rfl rfl
   have hx2:(fr+k+i) / 64 * 64+(fr+k+i) % 64=fr+k+i:=by omega
   rw[hx2]at d2
   have d3:Dk (g.marked.back h2) bd bm bc 24 (GG (CR M (fr+k) (tl.take i)) (fr+k+i) (tl.getD i 0)) c0 cs arm dn:=d2.same rfl
   have hti:(tl.take i).length=i:=by rw[List.length_take];omega
   have e5:CR M (fr+k) (tl.take (i+1))=GG (CR M (fr+k) (tl.take i)) (fr+k+i) (tl.getD i 0):=by
    rw[QA (by omega),My,hti];rfl
   rw[← e5]at d3
   have R4':=fx.row W' (x.row W Rt hb.2.2.2.2) hb.2.2.2.2
   generalize g.marked.back h2=g3 at q2 fx d3 R4'
   have i5:=j7 (h:=g3) (b:=b4) (i:=i) (by omega)
   have ld5:=Qt R4' (k:=i) (by omega)
   have a3:=C1 (i:=i) (h:=g3) (by omega)
   have e6:chg (tl.take (i+1))=(chg (tl.take i) || decide (tl.getD i 0≠0)):=by rw[QA (by omega),YB]
   have hne:iNe ((tl.getD i 0:Nat):Int) 0=decide (tl.getD i 0≠0):=by
    by_cases h0:tl.getD i 0=0
    ·rw[h0];exact Db rfl
    ·rw[decide_eq_true h0];exact Me (by omega)
   have hrun:∃ e2,spB (call AG (m+2)) e' g=.norm e2 g3∧AB 6 e2=.bool (chg (tl.take (i+1)))∧AB 7 e2=.int .i64 ((i+1:Nat):Int)∧∀ j,j=0∨j=1∨j=2∨j=3∨j=4→AB j e2=AB j e':=by
    unfold spB
    rw[e6]
    cases hc:chg (tl.take i)with
    |true=>
     rw[hc]at t6
     simp only[sT,Nat.reduceLT,Nat.reduceEqDiff,if_true,if_false,reduceIte,gD,AS,AQ,t7,c1,AV,Ac,t0,l0,t1,l1,BZ,a1,c2,BU,A3,t2,l2,f1,f2,BD,t3,m3,GR,dv,Ho,rm,CZ,t4,i4,ld,q2,t6,a3,Ec,BH]
     refine⟨_,rfl,by simp only[AE,Nat.reduceLT,Nat.reduceEqDiff,if_true,if_false,reduceIte];rfl,by simp[AE],fun j hj=>?_⟩
     rcases hj with rfl|rfl|rfl|rfl|rfl<;>simp only[AE,Nat.reduceLT,Nat.reduceEqDiff,if_true,if_false,reduceIte]
    |false=>
     rw[hc]at t6
     simp only[sT,Nat.reduceLT,Nat.reduceEqDiff,if_true,if_false,reduceIte,gD,AS,AQ,t7,c1,AV,Ac,t0,l0,t1,l1,BZ,a1,c2,BU,A3,t2,l2,f1,f2,BD,t3,m3,GR,dv,Ho,rm,CZ,t4,i4,ld,q2,t6,i5,ld5,hne,a3,Ec,BH]
     refine⟨_,rfl,by simp only[AE,Nat.reduceLT,Nat.reduceEqDiff,if_true,if_false,reduceIte];rfl,by simp[AE],fun j hj=>?_⟩
     rcases hj with rfl|rfl|rfl|rfl|rfl<;>simp only[AE,Nat.reduceLT,Nat.reduceEqDiff,if_true,if_false,reduceIte]
   obtain⟨e2,r1,r2,r3,r4⟩:=hrun
   exact⟨hlt,e2,g3,r1,hlt,x.trans fx,d3,(r4 0 (by omega)).trans t0,(r4 1 (by omega)).trans t1,(r4 2 (by omega)).trans t2,(r4 3 (by omega)).trans t3,(r4 4 (by omega)).trans t4,r2,r3⟩
  ·right
   have hie:i=N:=by omega
   subst hie
   have hrun:∃ e2,spB (call AG (m+2)) e' g=.exit 0 e2 g∧AB 6 e2=AB 6 e':=by
    unfold spB
    by_cases h4:i=4
    ·have c1:iLt (i:Int) 4=false:=DU (b:=4) (by omega)
     simp only[sT,Nat.reduceLT,Nat.reduceEqDiff,if_true,if_false,reduceIte,gD,AS,AQ,t7,c1]
     exact⟨_,rfl,by simp[AE]⟩
    ·have c1:iLt (i:Int) 4=true:=E8 (b:=4) (by omega)
     have c2:iLt ((k+i:Nat):Int) (mn:Int)=false:=DU (by omega)
     simp only[sT,Nat.reduceLT,Nat.reduceEqDiff,if_true,if_false,reduceIte,gD,AS,AQ,t7,c1,AV,Ac,t0,l0,t1,l1,BZ,a1,c2]
     exact⟨_,rfl,by simp[AE]⟩
   obtain⟨e2,r1,r2⟩:=hrun
   rw[r1]
   exact⟨rfl,e2,g,rfl,x,d,r2.trans t6⟩
 obtain⟨e',h',r1,r2,r3,r4⟩:=run
 refine⟨h',?_,r2,r3⟩
 rw[dZ rfl,fN]
 unfold fO
 simp only[sT,Nat.reduceLT,Nat.reduceEqDiff,if_true,if_false,reduceIte,BU,A3,r1,A9,BH,r4,AP,Aa]
end
end
noncomputable section
open Go
set_option maxRecDepth 100000
theorem aZ:B6 .mt 0 aQ.zero=some N1:=by kernel_rfl
theorem QH:∀ {L:List Value},(∀ v∈L,isW v=true)→∃ T:List Nat,L=T.map wv∧∀ x∈T,x<4294967296
 |[],_=>⟨[],rfl,fun x hx=>by cases hx⟩
 |v::L,h=>by
  obtain⟨n,rfl,hn⟩:=NU (h v List.mem_cons_self)
  obtain⟨T,rfl,hT⟩:=QH fun x hx=>h x (List.mem_cons_of_mem _ hx)
  refine⟨n::T,rfl,fun x hx=>?_⟩
  rcases List.mem_cons.1 hx with rfl|hx
  ·exact hn
  ·exact hT x hx
theorem iF{T:List Nat}(h1:T.length=256)(h2:∀ x∈T,x<4294967296):TblOk T:=⟨h1,fun i=>by
 rw[List.getD_eq_getElem?_getD]
 cases h:T[i]? with
 |none=>decide
 |some x=>exact h2 x (List.mem_of_getElem? h)⟩
theorem aM:∃ T:List Nat,Jf=T.map wv∧TblOk T∧DV T:=by
 obtain⟨_,_,h1,h2⟩:=Nv
 obtain⟨T,h3,h4⟩:=QH h2
 have hl:T.length=256:=by rw[h3,List.length_map]at h1;exact h1
 refine⟨T,h3,iF hl h4,fun i j hi hj hij=>?_⟩
 have hn:=Jn XK
 have e:Jf.map iG=T.map (· / 16777216):=by
  rw[h3,List.map_map]
  refine List.map_congr_left fun x _=>?_
  rfl
 rw[e]at hn
 have q1:∀ i,i<256→(T.map (· / 16777216))[i]? =some (T.getD i 0 / 16777216):=fun i hi=>by
  rw[List.getElem?_map,List.getD_eq_getElem?_getD,List.getElem?_eq_getElem (by omega)];rfl
 exact(List.getElem?_inj (i:=i) (j:=j) (show i<_ by rw[List.length_map];omega) hn).1 ((q1 i hi).trans ((congrArg some hij).trans (q1 j hj).symm))
theorem MM:∀ T:List Nat,Bg (T.map wv)=true
 |[]=>rfl
 |x::T=>MM T
theorem gq{h g:Hp}(W0:h.Wf)(x:h.Ext g){r:Nat}(hr:h.next≤r){L:List Value}(R:g.Row r 0 L)(hL:L.length=256){T:List Nat}(hT:T.length=256):
  storeR 256 (pt r) (.agg ⟨T.map wv⟩) g=.ok noRes (g.wr r 0 (T.map wv))∧h.Ext (g.wr r 0 (T.map wv))∧(g.wr r 0 (T.map wv)).Row r 0 (T.map wv):=by
 have h256:256≤r:=by have:=W0.big;omega
 have hl:(T.map wv).length=256:=by rw[List.length_map];exact hT
 have ho:0+(T.map wv).length≤L.length:=by omega
 have st:=R.storeR (n:=256) (off:=0) x.wf h256 (v:=.agg ⟨T.map wv⟩) hl ho (MM T)
 have wr:=R.wr_self x.wf ho
 rw[HI (show L.length=(T.map wv).length by omega)]at wr
 exact⟨st,R.wr_ext x hr ho,wr⟩
theorem Fx.ext{S:Nat→Prop}{h h':Hp}(x:Fx S h h')(hs:∀ b,S b→h.next≤b):h.Ext h':=⟨x.next,fun i hi=>x.get i hi fun s=>by have:=hs i s;omega,x.low _ (Nat.min_le_left _ _) (Nat.min_le_right _ _) fun b hb=>Nat.le_trans (Nat.min_le_right _ _) (hs b hb),x.wf⟩
theorem Fx.extF{S:Nat→Prop}{h0 h h':Hp}(x0:h0.Ext h)(x:Fx S h h')(hs:∀ b,S b→h0.next≤b):h0.Ext h':=Fx.ext (S:=S) ((Fx.of x0).trans x) hs
theorem IW{h h0:Hp}{r:Nat}{w v:Value}(W0:h0.Wf)(x0:h0.Ext h)(hr:h0.next≤r)(R:h.Row r 0 [w])(h1:cellsOf v=[v])(ho:A6 v=true):
  ∃ h',storeR 1 (pt r) v h=.ok noRes h'∧h0.Ext h'∧h'.Row r 0 [v]∧h'.next=h.next∧∀ b el L,b≠r→h.Row b el L→h'.Row b el L:=by
 have h256:256≤r:=by have:=W0.big;omega
 have hoo:0+(cellsOf v).length≤[w].length:=by rw[h1];exact Nat.le_refl _
 have st:=R.storeR (n:=1) (off:=0) x0.wf h256 (v:=v) (by rw[h1];rfl) hoo (by
  rw[h1]
  show(bif A6 v then true else false)=true
  rw[ho];rfl)
 have wr:=R.wr_self x0.wf hoo
 rw[HI (by rw[h1];rfl)]at wr
 rw[h1]at st wr hoo
 exact⟨_,st,R.wr_ext x0 hr hoo,wr,R.wr_next hoo,fun b el L hb r'=>R.wr_other x0.wf hoo r' hb⟩
theorem oI:ty4.k=.bool:=by kernel_rfl
theorem Kk{F:CallF}{e:Env}{h:Hp}{x y:O}{k j:Bool}(hx:x e=.bool k)(hy:y e=.bool j):oEq ty4.k false x y F e h=.ok (.bool (k == j)) h:=by
 show(match eqV ty4.k (x e) (y e)with|some r=>okB (false != r) h|none=>.no)=_
 rw[oI,hx,hy]
 cases k<;>cases j<;>exact Ft
theorem XH{M:List Nat}:hJ M []=M:=rfl
theorem nH(k:Nat):CT (-1) k:=⟨by omega,by omega,.inl (by omega)⟩
theorem Tv{m k tb:Nat}{T:List Nat}{h:Hp}(W:h.Wf)(Rt:h.Row tb 0 (T.map wv))(hT:TblOk T):
  ∃ h' bs bd bm bc lv fv c1 arm',call AG (m+9) 10 [pt tb,.int .i64 24] h=.ok (.tuple ⟨[pt bd,pt bs,.bool true]⟩) h'∧h.Ext h'∧Sl h' ⟨bs,bd,bm,bc,tb,24⟩ T LV c1 arm' [] [0,1,2,3,4,5,6,7] lv fv 0 false∧lv=.slice none 0 0∧h.next≤bs∧h.next≤bd∧h.next≤bm∧h.next≤bc∧CT arm' k:=by
 obtain⟨h1,bd,bm,bc,k1,x1,d,l1,l2,l3⟩:=Yh (m:=m+7) (n:=24) W (by omega)
 have htb:=Rt.lt W
 obtain⟨z1,z2,z3⟩:=TV (T:=T)
 have d:Dk h1 bd bm bc 24 LV 0 [] (-1) false:=d
 obtain⟨h2,bs,c1,arm',lv,fv,ks,k2,f2,s2,hks,l4,ha,hz⟩:=Se (m:=m) (k:=k) x1.wf d (Rt.ext W x1) hT (by omega) ⟨by omega,by omega,by omega⟩ (fun i x y hx _=>by
  rw[show 24 / 3=8 from rfl,z1]at hx;cases hx) (fun i j x y hx _ _=>by
  rw[show 24 / 3=8 from rfl,z1]at hx;cases hx) (by rw[show 24 / 3=8 from rfl,z1];exact Nat.zero_le _) (nH _)
 rw[show 24 / 3=8 from rfl,z1]at hks
 obtain rfl:=List.map_eq_nil_iff.1 hks
 rw[show 24 / 3=8 from rfl,z2,z3,Wn,XH,TO]at s2
 have k2:call AG (m+8) 16 [pt bd,pt tb,.int .i64 100] h1=.ok (.tuple ⟨[pt bs,.int .i64 0]⟩) h2:=k2
 have k1:call AG (m+8) 35 [.int .i64 24] h=.ok (.tuple ⟨[pt bd,.int .i64 0]⟩) h1:=k1
 have x2:h.Ext h2:=Fx.extF x1 f2 fun b hb=>by rcases hb with rfl|rfl|rfl<;>assumption
 refine⟨h2,bs,bd,bm,bc,lv,fv,c1,arm',?_,x2,s2,hz rfl,Nat.le_trans x1.next l4,l1,l2,l3,ha⟩
 have c0:iEq 0 0=true:=C4 rfl
 rw[dW rfl]
 unfold d10
 simp only[AJ,AK,Nat.succ_eq_add_one,Nat.zero_add,Nat.reduceAdd,sT,Nat.reduceLT,Nat.reduceEqDiff,if_true,if_false,reduceIte,gD,Ab,AN,AX,k1,BM,BV,Ba,k2,AS,AQ,c0,AP,LD]
def tG:C:=(AF (AC 93) (AO 17 [(AB 18),(kV (.int .i64 1)),(kV (.int .i64 0))])
(AF (AC 94) (AU 0 (AB 93))
(AF (AC 95) (AU 1 (AB 93))
(AF (AC 20) (A2 5 CN)
(cDo (Ae 5 (AB 20) (AB 94))
(AF (AC 21) (AD (AB 95))
(AF (AC 98) (AO 18 [(AB 18),(kV (.int .i64 2)),(kV (.int .i64 0)),(kV (.int .i64 1))])
(AF (AC 99) (AU 0 (AB 98))
(AF (AC 100) (AU 1 (AB 98))
(AF (AC 22) (A2 5 CN)
(cDo (Ae 5 (AB 22) (AB 99))
(AF (AC 23) (AD (AB 100))
(AF (AC 103) (CP (AB 17))
(AF (AC 104) (oEq ty4.k false (AB 21) (AB 103))
(cG (AB 104) true (AC 106) (AD (AB 18))
(cG (AB 104) true (AC 107) (AO 19 [(AB 106)])
(cG (AB 104) true (AC 108) (Ad iEq .i64 (AB 107) (kV (.int .i64 1)))
(cG (AB 104) true (AC 109) (AD (AB 17))
(cG (AB 104) true (AC 110) (oEq ty4.k false (AB 108) (AB 109))
(AF (AC 111) (Am (AB 104) (AB 110) (kV (.bool false)))
(cG (AB 111) true (AC 113) (AD (AB 23))
(AF (AC 114) (Am (AB 111) (AB 113) (kV (.bool false)))
(cG (AB 114) true (AC 116) (AD (AB 18))
(cG (AB 114) true (AC 117) (AO 20 [(AB 116)])
(cG (AB 114) true (AC 118) (AD (AB 18))
(cG (AB 114) true (AC 119) (AO 21 [(AB 118)])
(cG (AB 114) true (AC 120) (BR (AB 119))
(cG (AB 114) true (AC 121) (B9 Int.sub .i64 (kV (.int .i64 8)) (AB 120))
(cG (AB 114) true (AC 122) (Ad iEq .i64 (AB 117) (AB 121))
(AF (AC 123) (Am (AB 114) (AB 122) (kV (.bool false)))
(cG (AB 123) true (AC 125) (AO 8 [])
(AF (AC 126) (Am (AB 123) (AB 125) (kV (.bool false)))
(AF (AC 8) (AD (AB 126))
Aj)))))))))))))))))))))))))))))))))
def tF:C:=(AF (AC 85) (AL (AB 10))
(AF (AC 86) (AO 16 [(AB 85),(AB 9),(kV (.int .i64 100))])
(AF (AC 87) (AU 0 (AB 86))
(AF (AC 88) (AU 1 (AB 86))
(AF (AC 18) (AD (AB 87))
(AF (AC 19) (AD (AB 88))
(AF (AC 90) (Ad iNe .i64 (AB 19) (kV (.int .i64 0)))
(AW (AB 90)
(AF (AC 8) (AD (kV (.bool false)))
Aj)
(AF (AC 93) (AO 17 [(AB 18),(kV (.int .i64 1)),(kV (.int .i64 0))])
(AF (AC 94) (AU 0 (AB 93))
(AF (AC 95) (AU 1 (AB 93))
(AF (AC 20) (A2 5 CN)
(cDo (Ae 5 (AB 20) (AB 94))
(AF (AC 21) (AD (AB 95))
(AF (AC 98) (AO 18 [(AB 18),(kV (.int .i64 2)),(kV (.int .i64 0)),(kV (.int .i64 1))])
(AF (AC 99) (AU 0 (AB 98))
(AF (AC 100) (AU 1 (AB 98))
(AF (AC 22) (A2 5 CN)
(cDo (Ae 5 (AB 22) (AB 99))
(AF (AC 23) (AD (AB 100))
(AF (AC 103) (CP (AB 17))
(AF (AC 104) (oEq ty4.k false (AB 21) (AB 103))
(cG (AB 104) true (AC 106) (AD (AB 18))
(cG (AB 104) true (AC 107) (AO 19 [(AB 106)])
(cG (AB 104) true (AC 108) (Ad iEq .i64 (AB 107) (kV (.int .i64 1)))
(cG (AB 104) true (AC 109) (AD (AB 17))
(cG (AB 104) true (AC 110) (oEq ty4.k false (AB 108) (AB 109))
(AF (AC 111) (Am (AB 104) (AB 110) (kV (.bool false)))
(cG (AB 111) true (AC 113) (AD (AB 23))
(AF (AC 114) (Am (AB 111) (AB 113) (kV (.bool false)))
(cG (AB 114) true (AC 116) (AD (AB 18))
(cG (AB 114) true (AC 117) (AO 20 [(AB 116)])
(cG (AB 114) true (AC 118) (AD (AB 18))
(cG (AB 114) true (AC 119) (AO 21 [(AB 118)])
(cG (AB 114) true (AC 120) (BR (AB 119))
(cG (AB 114) true (AC 121) (B9 Int.sub .i64 (kV (.int .i64 8)) (AB 120))
(cG (AB 114) true (AC 122) (Ad iEq .i64 (AB 117) (AB 121))
(AF (AC 123) (Am (AB 114) (AB 122) (kV (.bool false)))
(cG (AB 123) true (AC 125) (AO 8 [])
(AF (AC 126) (Am (AB 123) (AB 125) (kV (.bool false)))
(AF (AC 8) (AD (AB 126))
Aj)))))))))))))))))))))))))))))))))))))))))
def tFh:C:=(AF (AC 85) (AL (AB 10))
(AF (AC 86) (AO 16 [(AB 85),(AB 9),(kV (.int .i64 100))])
(AF (AC 87) (AU 0 (AB 86))
(AF (AC 88) (AU 1 (AB 86))
(AF (AC 18) (AD (AB 87))
(AF (AC 19) (AD (AB 88))
(AF (AC 90) (Ad iNe .i64 (AB 19) (kV (.int .i64 0)))
(AW (AB 90)
(AF (AC 8) (AD (kV (.bool false)))
Aj)
tG))))))))
def tE:C:=(AF (AC 78) (B0 (AB 16) [])
(AF (AC 80) (AO 15 [(AB 11),(kV (.int .i64 1)),(kV (.int .i64 0)),(kV (.int .i64 1))])
(AF (AC 81) (CP (AB 80))
(AW (AB 81)
(AF (AC 8) (AD (kV (.bool false)))
Aj)
(AF (AC 83) (B0 (AB 16) [])
(AF (AC 85) (AL (AB 10))
(AF (AC 86) (AO 16 [(AB 85),(AB 9),(kV (.int .i64 100))])
(AF (AC 87) (AU 0 (AB 86))
(AF (AC 88) (AU 1 (AB 86))
(AF (AC 18) (AD (AB 87))
(AF (AC 19) (AD (AB 88))
(AF (AC 90) (Ad iNe .i64 (AB 19) (kV (.int .i64 0)))
(AW (AB 90)
(AF (AC 8) (AD (kV (.bool false)))
Aj)
(AF (AC 93) (AO 17 [(AB 18),(kV (.int .i64 1)),(kV (.int .i64 0))])
(AF (AC 94) (AU 0 (AB 93))
(AF (AC 95) (AU 1 (AB 93))
(AF (AC 20) (A2 5 CN)
(cDo (Ae 5 (AB 20) (AB 94))
(AF (AC 21) (AD (AB 95))
(AF (AC 98) (AO 18 [(AB 18),(kV (.int .i64 2)),(kV (.int .i64 0)),(kV (.int .i64 1))])
(AF (AC 99) (AU 0 (AB 98))
(AF (AC 100) (AU 1 (AB 98))
(AF (AC 22) (A2 5 CN)
(cDo (Ae 5 (AB 22) (AB 99))
(AF (AC 23) (AD (AB 100))
(AF (AC 103) (CP (AB 17))
(AF (AC 104) (oEq ty4.k false (AB 21) (AB 103))
(cG (AB 104) true (AC 106) (AD (AB 18))
(cG (AB 104) true (AC 107) (AO 19 [(AB 106)])
(cG (AB 104) true (AC 108) (Ad iEq .i64 (AB 107) (kV (.int .i64 1)))
(cG (AB 104) true (AC 109) (AD (AB 17))
(cG (AB 104) true (AC 110) (oEq ty4.k false (AB 108) (AB 109))
(AF (AC 111) (Am (AB 104) (AB 110) (kV (.bool false)))
(cG (AB 111) true (AC 113) (AD (AB 23))
(AF (AC 114) (Am (AB 111) (AB 113) (kV (.bool false)))
(cG (AB 114) true (AC 116) (AD (AB 18))
(cG (AB 114) true (AC 117) (AO 20 [(AB 116)])
(cG (AB 114) true (AC 118) (AD (AB 18))
(cG (AB 114) true (AC 119) (AO 21 [(AB 118)])
(cG (AB 114) true (AC 120) (BR (AB 119))
(cG (AB 114) true (AC 121) (B9 Int.sub .i64 (kV (.int .i64 8)) (AB 120))
(cG (AB 114) true (AC 122) (Ad iEq .i64 (AB 117) (AB 121))
(AF (AC 123) (Am (AB 114) (AB 122) (kV (.bool false)))
(cG (AB 123) true (AC 125) (AO 8 [])
(AF (AC 126) (Am (AB 123) (AB 125) (kV (.bool false)))
(AF (AC 8) (AD (AB 126))
Aj))))))))))))))))))))))))))))))))))))))))))))))
def tEh:C:=(AF (AC 78) (B0 (AB 16) [])
(AF (AC 80) (AO 15 [(AB 11),(kV (.int .i64 1)),(kV (.int .i64 0)),(kV (.int .i64 1))])
(AF (AC 81) (CP (AB 80))
(AW (AB 81)
(AF (AC 8) (AD (kV (.bool false)))
Aj)
(AF (AC 83) (B0 (AB 16) [])
tF)))))
def tD:C:=(AF (AC 69) (AO 15 [(AB 11),(kV (.int .i64 1)),(kV (.int .i64 0)),(kV (.int .i64 1))])
(AF (AC 71) (oEq ty4.k false (AB 69) (AB 17))
(cG (AB 71) false (AC 73) (AD (AB 11))
(cG (AB 71) false (AC 74) (AO 15 [(AB 73),(kV (.int .i64 2)),(kV (.int .i64 0)),(kV (.int .i64 1))])
(cG (AB 71) false (AC 75) (CP (AB 74))
(AF (AC 76) (Am (AB 71) (kV (.bool true)) (AB 75))
(AW (AB 76)
(AF (AC 8) (AD (kV (.bool false)))
Aj)
(AF (AC 78) (B0 (AB 16) [])
(AF (AC 80) (AO 15 [(AB 11),(kV (.int .i64 1)),(kV (.int .i64 0)),(kV (.int .i64 1))])
(AF (AC 81) (CP (AB 80))
(AW (AB 81)
(AF (AC 8) (AD (kV (.bool false)))
Aj)
(AF (AC 83) (B0 (AB 16) [])
(AF (AC 85) (AL (AB 10))
(AF (AC 86) (AO 16 [(AB 85),(AB 9),(kV (.int .i64 100))])
(AF (AC 87) (AU 0 (AB 86))
(AF (AC 88) (AU 1 (AB 86))
(AF (AC 18) (AD (AB 87))
(AF (AC 19) (AD (AB 88))
(AF (AC 90) (Ad iNe .i64 (AB 19) (kV (.int .i64 0)))
(AW (AB 90)
(AF (AC 8) (AD (kV (.bool false)))
Aj)
(AF (AC 93) (AO 17 [(AB 18),(kV (.int .i64 1)),(kV (.int .i64 0))])
(AF (AC 94) (AU 0 (AB 93))
(AF (AC 95) (AU 1 (AB 93))
(AF (AC 20) (A2 5 CN)
(cDo (Ae 5 (AB 20) (AB 94))
(AF (AC 21) (AD (AB 95))
(AF (AC 98) (AO 18 [(AB 18),(kV (.int .i64 2)),(kV (.int .i64 0)),(kV (.int .i64 1))])
(AF (AC 99) (AU 0 (AB 98))
(AF (AC 100) (AU 1 (AB 98))
(AF (AC 22) (A2 5 CN)
(cDo (Ae 5 (AB 22) (AB 99))
(AF (AC 23) (AD (AB 100))
(AF (AC 103) (CP (AB 17))
(AF (AC 104) (oEq ty4.k false (AB 21) (AB 103))
(cG (AB 104) true (AC 106) (AD (AB 18))
(cG (AB 104) true (AC 107) (AO 19 [(AB 106)])
(cG (AB 104) true (AC 108) (Ad iEq .i64 (AB 107) (kV (.int .i64 1)))
(cG (AB 104) true (AC 109) (AD (AB 17))
(cG (AB 104) true (AC 110) (oEq ty4.k false (AB 108) (AB 109))
(AF (AC 111) (Am (AB 104) (AB 110) (kV (.bool false)))
(cG (AB 111) true (AC 113) (AD (AB 23))
(AF (AC 114) (Am (AB 111) (AB 113) (kV (.bool false)))
(cG (AB 114) true (AC 116) (AD (AB 18))
(cG (AB 114) true (AC 117) (AO 20 [(AB 116)])
(cG (AB 114) true (AC 118) (AD (AB 18))
(cG (AB 114) true (AC 119) (AO 21 [(AB 118)])
(cG (AB 114) true (AC 120) (BR (AB 119))
(cG (AB 114) true (AC 121) (B9 Int.sub .i64 (kV (.int .i64 8)) (AB 120))
(cG (AB 114) true (AC 122) (Ad iEq .i64 (AB 117) (AB 121))
(AF (AC 123) (Am (AB 114) (AB 122) (kV (.bool false)))
(cG (AB 123) true (AC 125) (AO 8 [])
(AF (AC 126) (Am (AB 123) (AB 125) (kV (.bool false)))
(AF (AC 8) (AD (AB 126))
Aj)))))))))))))))))))))))))))))))))))))))))))))))))))))
def tDh:C:=(AF (AC 69) (AO 15 [(AB 11),(kV (.int .i64 1)),(kV (.int .i64 0)),(kV (.int .i64 1))])
(AF (AC 71) (oEq ty4.k false (AB 69) (AB 17))
(cG (AB 71) false (AC 73) (AD (AB 11))
(cG (AB 71) false (AC 74) (AO 15 [(AB 73),(kV (.int .i64 2)),(kV (.int .i64 0)),(kV (.int .i64 1))])
(cG (AB 71) false (AC 75) (CP (AB 74))
(AF (AC 76) (Am (AB 71) (kV (.bool true)) (AB 75))
(AW (AB 76)
(AF (AC 8) (AD (kV (.bool false)))
Aj)
tE)))))))
def tC:C:=(AF (AC 62) (CD .i64 (AB 1))
(AF (AC 63) (AL (AB 14))
(AF (AC 64) (Iq .i64 (AB 62) (AB 63))
(AF (AC 15) (A2 1 zt3)
(cDo (Ae 1 (AB 15) (AB 64))
(AF (AC 65) (Cx (.func 13) [] [(AB 15),(AB 14),(AB 13),(AB 10),(AB 6)])
(AF (AC 16) (AD (AB 65))
(AF (AC 67) (B0 (AB 16) [])
(AF (AC 17) (AD (AB 67))
(AF (AC 69) (AO 15 [(AB 11),(kV (.int .i64 1)),(kV (.int .i64 0)),(kV (.int .i64 1))])
(AF (AC 71) (oEq ty4.k false (AB 69) (AB 17))
(cG (AB 71) false (AC 73) (AD (AB 11))
(cG (AB 71) false (AC 74) (AO 15 [(AB 73),(kV (.int .i64 2)),(kV (.int .i64 0)),(kV (.int .i64 1))])
(cG (AB 71) false (AC 75) (CP (AB 74))
(AF (AC 76) (Am (AB 71) (kV (.bool true)) (AB 75))
(AW (AB 76)
(AF (AC 8) (AD (kV (.bool false)))
Aj)
(AF (AC 78) (B0 (AB 16) [])
(AF (AC 80) (AO 15 [(AB 11),(kV (.int .i64 1)),(kV (.int .i64 0)),(kV (.int .i64 1))])
(AF (AC 81) (CP (AB 80))
(AW (AB 81)
(AF (AC 8) (AD (kV (.bool false)))
Aj)
(AF (AC 83) (B0 (AB 16) [])
(AF (AC 85) (AL (AB 10))
(AF (AC 86) (AO 16 [(AB 85),(AB 9),(kV (.int .i64 100))])
(AF (AC 87) (AU 0 (AB 86))
(AF (AC 88) (AU 1 (AB 86))
(AF (AC 18) (AD (AB 87))
(AF (AC 19) (AD (AB 88))
(AF (AC 90) (Ad iNe .i64 (AB 19) (kV (.int .i64 0)))
(AW (AB 90)
(AF (AC 8) (AD (kV (.bool false)))
Aj)
(AF (AC 93) (AO 17 [(AB 18),(kV (.int .i64 1)),(kV (.int .i64 0))])
(AF (AC 94) (AU 0 (AB 93))
(AF (AC 95) (AU 1 (AB 93))
(AF (AC 20) (A2 5 CN)
(cDo (Ae 5 (AB 20) (AB 94))
(AF (AC 21) (AD (AB 95))
(AF (AC 98) (AO 18 [(AB 18),(kV (.int .i64 2)),(kV (.int .i64 0)),(kV (.int .i64 1))])
(AF (AC 99) (AU 0 (AB 98))
(AF (AC 100) (AU 1 (AB 98))
(AF (AC 22) (A2 5 CN)
(cDo (Ae 5 (AB 22) (AB 99))
(AF (AC 23) (AD (AB 100))
(AF (AC 103) (CP (AB 17))
(AF (AC 104) (oEq ty4.k false (AB 21) (AB 103))
(cG (AB 104) true (AC 106) (AD (AB 18))
(cG (AB 104) true (AC 107) (AO 19 [(AB 106)])
(cG (AB 104) true (AC 108) (Ad iEq .i64 (AB 107) (kV (.int .i64 1)))
(cG (AB 104) true (AC 109) (AD (AB 17))
(cG (AB 104) true (AC 110) (oEq ty4.k false (AB 108) (AB 109))
(AF (AC 111) (Am (AB 104) (AB 110) (kV (.bool false)))
(cG (AB 111) true (AC 113) (AD (AB 23))
(AF (AC 114) (Am (AB 111) (AB 113) (kV (.bool false)))
(cG (AB 114) true (AC 116) (AD (AB 18))
(cG (AB 114) true (AC 117) (AO 20 [(AB 116)])
(cG (AB 114) true (AC 118) (AD (AB 18))
(cG (AB 114) true (AC 119) (AO 21 [(AB 118)])
(cG (AB 114) true (AC 120) (BR (AB 119))
(cG (AB 114) true (AC 121) (B9 Int.sub .i64 (kV (.int .i64 8)) (AB 120))
(cG (AB 114) true (AC 122) (Ad iEq .i64 (AB 117) (AB 121))
(AF (AC 123) (Am (AB 114) (AB 122) (kV (.bool false)))
(cG (AB 123) true (AC 125) (AO 8 [])
(AF (AC 126) (Am (AB 123) (AB 125) (kV (.bool false)))
(AF (AC 8) (AD (AB 126))
Aj))))))))))))))))))))))))))))))))))))))))))))))))))))))))))))))
def tCh:C:=(AF (AC 62) (CD .i64 (AB 1))
(AF (AC 63) (AL (AB 14))
(AF (AC 64) (Iq .i64 (AB 62) (AB 63))
(AF (AC 15) (A2 1 zt3)
(cDo (Ae 1 (AB 15) (AB 64))
(AF (AC 65) (Cx (.func 13) [] [(AB 15),(AB 14),(AB 13),(AB 10),(AB 6)])
(AF (AC 16) (AD (AB 65))
(AF (AC 67) (B0 (AB 16) [])
(AF (AC 17) (AD (AB 67))
tD)))))))))
def tB:C:=(AF (AC 59) (BR (AB 0))
(AF (AC 13) (A2 1 zt3)
(AF (AC 14) (A2 1 zt3)
(cDo (Ae 1 (AB 13) (kV (.int .i64 64)))
(cDo (Ae 1 (AB 14) (AB 59))
(A5 (AW (AB 3)
(cDo (Ae 1 (AB 13) (kV (.int .i64 0)))
(cDo (Ae 1 (AB 14) (kV (.int .i64 60)))
Ai))
Ai)
(AF (AC 62) (CD .i64 (AB 1))
(AF (AC 63) (AL (AB 14))
(AF (AC 64) (Iq .i64 (AB 62) (AB 63))
(AF (AC 15) (A2 1 zt3)
(cDo (Ae 1 (AB 15) (AB 64))
(AF (AC 65) (Cx (.func 13) [] [(AB 15),(AB 14),(AB 13),(AB 10),(AB 6)])
(AF (AC 16) (AD (AB 65))
(AF (AC 67) (B0 (AB 16) [])
(AF (AC 17) (AD (AB 67))
(AF (AC 69) (AO 15 [(AB 11),(kV (.int .i64 1)),(kV (.int .i64 0)),(kV (.int .i64 1))])
(AF (AC 71) (oEq ty4.k false (AB 69) (AB 17))
(cG (AB 71) false (AC 73) (AD (AB 11))
(cG (AB 71) false (AC 74) (AO 15 [(AB 73),(kV (.int .i64 2)),(kV (.int .i64 0)),(kV (.int .i64 1))])
(cG (AB 71) false (AC 75) (CP (AB 74))
(AF (AC 76) (Am (AB 71) (kV (.bool true)) (AB 75))
(AW (AB 76)
(AF (AC 8) (AD (kV (.bool false)))
Aj)
(AF (AC 78) (B0 (AB 16) [])
(AF (AC 80) (AO 15 [(AB 11),(kV (.int .i64 1)),(kV (.int .i64 0)),(kV (.int .i64 1))])
(AF (AC 81) (CP (AB 80))
(AW (AB 81)
(AF (AC 8) (AD (kV (.bool false)))
Aj)
(AF (AC 83) (B0 (AB 16) [])
(AF (AC 85) (AL (AB 10))
(AF (AC 86) (AO 16 [(AB 85),(AB 9),(kV (.int .i64 100))])
(AF (AC 87) (AU 0 (AB 86))
(AF (AC 88) (AU 1 (AB 86))
(AF (AC 18) (AD (AB 87))
(AF (AC 19) (AD (AB 88))
(AF (AC 90) (Ad iNe .i64 (AB 19) (kV (.int .i64 0)))
(AW (AB 90)
(AF (AC 8) (AD (kV (.bool false)))
Aj)
(AF (AC 93) (AO 17 [(AB 18),(kV (.int .i64 1)),(kV (.int .i64 0))])
(AF (AC 94) (AU 0 (AB 93))
(AF (AC 95) (AU 1 (AB 93))
(AF (AC 20) (A2 5 CN)
(cDo (Ae 5 (AB 20) (AB 94))
(AF (AC 21) (AD (AB 95))
(AF (AC 98) (AO 18 [(AB 18),(kV (.int .i64 2)),(kV (.int .i64 0)),(kV (.int .i64 1))])
(AF (AC 99) (AU 0 (AB 98))
(AF (AC 100) (AU 1 (AB 98))
(AF (AC 22) (A2 5 CN)
(cDo (Ae 5 (AB 22) (AB 99))
(AF (AC 23) (AD (AB 100))
(AF (AC 103) (CP (AB 17))
(AF (AC 104) (oEq ty4.k false (AB 21) (AB 103))
(cG (AB 104) true (AC 106) (AD (AB 18))
(cG (AB 104) true (AC 107) (AO 19 [(AB 106)])
(cG (AB 104) true (AC 108) (Ad iEq .i64 (AB 107) (kV (.int .i64 1)))
(cG (AB 104) true (AC 109) (AD (AB 17))
(cG (AB 104) true (AC 110) (oEq ty4.k false (AB 108) (AB 109))
(AF (AC 111) (Am (AB 104) (AB 110) (kV (.bool false)))
(cG (AB 111) true (AC 113) (AD (AB 23))
(AF (AC 114) (Am (AB 111) (AB 113) (kV (.bool false)))
(cG (AB 114) true (AC 116) (AD (AB 18))
(cG (AB 114) true (AC 117) (AO 20 [(AB 116)])
(cG (AB 114) true (AC 118) (AD (AB 18))
(cG (AB 114) true (AC 119) (AO 21 [(AB 118)])
(cG (AB 114) true (AC 120) (BR (AB 119))
(cG (AB 114) true (AC 121) (B9 Int.sub .i64 (kV (.int .i64 8)) (AB 120))
(cG (AB 114) true (AC 122) (Ad iEq .i64 (AB 117) (AB 121))
(AF (AC 123) (Am (AB 114) (AB 122) (kV (.bool false)))
(cG (AB 123) true (AC 125) (AO 8 [])
(AF (AC 126) (Am (AB 123) (AB 125) (kV (.bool false)))
(AF (AC 8) (AD (AB 126))
Aj))))))))))))))))))))))))))))))))))))))))))))))))))))))))))))))))))))
def tBh:C:=(AF (AC 59) (BR (AB 0))
(AF (AC 13) (A2 1 zt3)
(AF (AC 14) (A2 1 zt3)
(cDo (Ae 1 (AB 13) (kV (.int .i64 64)))
(cDo (Ae 1 (AB 14) (AB 59))
(A5 (AW (AB 3)
(cDo (Ae 1 (AB 13) (kV (.int .i64 0)))
(cDo (Ae 1 (AB 14) (kV (.int .i64 60)))
Ai))
Ai)
tC))))))
def tAh:C:=(AF (AC 40) (CP (AB 12))
(cG (AB 40) false (AC 42) (AD (AB 11))
(cG (AB 40) false (AC 43) (AD (AB 0))
(cG (AB 40) false (AC 44) (AO 11 [(AB 42),(kV (.int .i64 1)),(kV (.int .i64 0)),(kV (.int .i64 1)),(AB 43)])
(cG (AB 40) false (AC 45) (Ad iNe .i64 (AB 44) (kV (.int .i64 0)))
(AF (AC 46) (Am (AB 40) (kV (.bool true)) (AB 45))
(cG (AB 46) false (AC 48) (AD (AB 11))
(cG (AB 46) false (AC 49) (AD (AB 0))
(cG (AB 46) false (AC 50) (AO 11 [(AB 48),(kV (.int .i64 2)),(kV (.int .i64 0)),(kV (.int .i64 1)),(AB 49)])
(cG (AB 46) false (AC 51) (Ad iNe .i64 (AB 50) (kV (.int .i64 0)))
(AF (AC 52) (Am (AB 46) (kV (.bool true)) (AB 51))
(cG (AB 52) false (AC 54) (AD (AB 11))
(cG (AB 52) false (AC 55) (AO 12 [(AB 54),(kV (.int .i64 1)),(kV (.int .i64 0)),(kV (.int .i64 1))])
(cG (AB 52) false (AC 56) (Ad iNe .i64 (AB 55) (kV (.int .i64 0)))
(AF (AC 57) (Am (AB 52) (kV (.bool true)) (AB 56))
(AW (AB 57)
(AF (AC 8) (AD (kV (.bool false)))
Aj)
tB))))))))))))))))
theorem VD:d3=d3h:=rfl
theorem kY:tA=tAh:=rfl
theorem bE:tB=tBh:=rfl
theorem kZ:tC=tCh:=rfl
theorem kh:tD=tDh:=rfl
theorem kj:tE=tEh:=rfl
theorem km:tF=tFh:=rfl
end
end Go.Proofs.YtedbmmfebjfibaaGreat
