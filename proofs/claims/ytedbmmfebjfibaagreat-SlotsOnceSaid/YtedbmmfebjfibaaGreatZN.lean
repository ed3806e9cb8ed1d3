/-
  Part ZN of what Lawsn stands on: printed by program, names and spaces cut.
-/
import Derived.Test.YtedbmmfebjfibaaGreatZM
set_option linter.unusedVariables false
set_option linter.unusedSimpArgs false
namespace Go.Proofs.YtedbmmfebjfibaaGreat
noncomputable section
open Go
set_option maxRecDepth 100000
def Cr(a b:Int):Int:=if a<b then -1 else if b<a then 1 else 0
def orZ:List Int→Int
 |[]=>0
 |z::l=>if z=0 then orZ l else z
def Gz(x y:Kt):Int:=orZ [Cr x.a y.a,Cr x.b y.b,Cr x.c y.c,Cr x.p y.p]
theorem DW{e:Env}{h:Hp}:Eh [] e h=.ok noRes h:=rfl
section
variable {F:CallF}{e:Env}{h h':Hp}{S:Nat→Prop}{m:Nat}{ks:List Kt}{v:Value}
theorem jK{a b:Int}:call AF (m+2) 80 [.int .i64 a,.int .i64 b] h=.ok (.int .i64 (Cr a b)) h:=by
 have n1:∀ z:Int,call AF (m+1) 107 [.int .i64 z] h=.ok (.bool false) h:=fun z=>by
  have c1:iNe z z=false:=CT rfl
  rw[Sq rfl]
  unfold Wr
  simp only[iN,Nat.reduceAdd,sT,Nat.reduceLT,Nat.reduceEqDiff,reduceIte,AO,AN,c1,lV0]
 unfold Cr
 rw[io rfl]
 unfold d80
 by_cases h1:a<b
 ·have c1:iLt a b=true:=Jy h1
  rw[if_pos h1]
  simp only[iN,Nat.reduceAdd,sT,Nat.reduceLT,Nat.reduceEqDiff,reduceIte,cA0,n1,AO,AN,c1,lV0]
 ·have c1:iLt a b=false:=GT h1
  rw[if_neg h1]
  by_cases h2:b<a
  ·have c2:iGt a b=true:=Fl h2
   rw[if_pos h2]
   simp only[iN,Nat.reduceAdd,sT,Nat.reduceLT,Nat.reduceEqDiff,reduceIte,cA0,n1,AO,AN,c1,c2,lV0]
  ·have c2:iGt a b=false:=Ei h2
   rw[if_neg h2]
   simp only[iN,Nat.reduceAdd,sT,Nat.reduceLT,Nat.reduceEqDiff,reduceIte,cA0,n1,AO,AN,c1,c2,lV0]
def orB:C:=(AE (AC 9) (AW iLt .i64 (AB 8) (AB 7))
(AS (AB 9)
(A2 (AY 1 (AE (AC 10) (BF 1 (AB 6) (AB 8))
(AE (AC 11) (AK (AB 10))
(AE (AC 5) (AD (AB 11))
(AE (AC 14) (AW iNe .i64 (AB 5) (AB 3))
(AS (AB 14)
(AE (AC 2) (AD (AB 5))
Ad)
AX))))))
(AE (AC 16) (BZ .i64 (Ar .i64) (AB 8) (kV (.int .i64 1)))
(AE (AC 8) (AD (AB 16))
AX)))
(BK 0)))
def orE:C:=AE (AC 2) (AD (AB 3)) Ad
theorem YS:orS=A2 (AY 0 (Az orB)) orE:=rfl
theorem W5:d79=aO:=rfl
theorem oR{zs:List Int}(V:h.Vals v (ints .i64 zs))(hl:zs.length≤1000):call AF (m+1) 79 [v] h=.ok (.int .i64 (orZ zs)) h:=by
 have hil:(ints .i64 zs).length=zs.length:=List.length_map ..
 have ln:=V.len
 rw[hil]at ln
 have pre:∃ e1,aO (call AF m) (AV e0 0 [v]) h=orS (call AF m) e1 h∧AB 3 e1=.int .i64 0∧AB 6 e1=v∧AB 7 e1=.int .i64 (zs.length:Int)∧AB 8 e1=.int .i64 ((0:Nat):Int):=by
  unfold aO
  simp only[iN,Nat.reduceAdd,sT,Nat.reduceLT,Nat.reduceEqDiff,reduceIte,Am,ln]
  exact⟨_,rfl,by simp[AH]⟩
 obtain⟨e1,p1,s3,s6,s7,s8⟩:=pre
 have run:(∃ e',Az orB (call AF m) e1 h=.exit 0 e' h∧orZ zs=0∧AB 3 e'=.int .i64 0)∨(∃ e',Az orB (call AF m) e1 h=.ret e' h∧AB 2 e'=.int .i64 (orZ zs)):=by
  refine Be (I:=fun i e' h'=>h'=h∧AB 3 e'=.int .i64 0∧AB 6 e'=v∧AB 7 e'=.int .i64 (zs.length:Int)∧AB 8 e'=.int .i64 (i:Int)∧i≤zs.length∧orZ zs=orZ (zs.drop i))
   (Q:=fun x=>(∃ e',x=.exit 0 e' h∧orZ zs=0∧AB 3 e'=.int .i64 0)∨(∃ e',x=.ret e' h∧AB 2 e'=.int .i64 (orZ zs))) zs.length (by omega) (fun i e' h' ⟨hh,t3,t6,t7,t8,hi,hr⟩=>?_) ⟨rfl,s3,s6,s7,s8,Nat.zero_le _,by rw[List.drop_zero]⟩
  subst hh
  by_cases hlt:i<zs.length
  ·obtain⟨a,g1,g2⟩:=V.at (i:=i) (by rw[hil];exact hlt)
   obtain⟨z,hz⟩:∃ z,zs[i]? =some z:=⟨_,List.getElem?_eq_getElem hlt⟩
   have g2:Gq (.pointer (some a)) h'=.ok (.int .i64 z) h':=by
    rw[g2]
    have:(ints .i64 zs).getD i noRes=.int .i64 z:=by
     rw[List.getD_eq_getElem?_getD]
     simp[ints,hz]
    rw[this]
   have hd:zs.drop i=z::zs.drop (i+1):=by
    rw[List.drop_eq_getElem_cons hlt]
    rw[List.getElem?_eq_getElem hlt]at hz
    rw[Option.some.inj hz]
   rw[hd]at hr
   have hr:orZ zs=if z=0 then orZ (zs.drop (i+1))else z:=hr
   have c1:=Eo hlt
   by_cases h0:z=0
   ·left
    rw[if_pos h0]at hr
    have c2:iNe z 0=false:=CT h0
    have a3:=CR (i:=i) (h:=h') (by omega)
    have hrun:∃ e2,orB (call AF m) e' h'=.norm e2 h'∧AB 3 e2=.int .i64 0∧AB 6 e2=v∧AB 7 e2=.int .i64 (zs.length:Int)∧AB 8 e2=.int .i64 ((i+1:Nat):Int):=by
     unfold orB
     simp only[sT,Nat.reduceLT,Nat.reduceEqDiff,reduceIte,AO,AN,t8,t7,c1,A8,t6,g1,AP,g2,t3,c2,BR,a3]
     exact⟨_,rfl,by simp[AH,t3,t6,t7]⟩
    obtain⟨e2,r1,r2,r3,r4,r5⟩:=hrun
    exact⟨hlt,e2,h',r1,rfl,r2,r3,r4,r5,by omega,hr⟩
   ·right
    rw[if_neg h0]at hr
    have c2:iNe z 0=true:=Mu h0
    have hrun:∃ e2,orB (call AF m) e' h'=.ret e2 h'∧AB 2 e2=.int .i64 z:=by
     unfold orB
     simp only[sT,Nat.reduceLT,Nat.reduceEqDiff,reduceIte,AO,AN,t8,t7,c1,A8,t6,g1,AP,g2,t3,c2]
     exact⟨_,rfl,by simp[AH]⟩
    obtain⟨e2,r1,r2⟩:=hrun
    rw[r1]
    exact⟨rfl,.inr ⟨e2,rfl,by rw[r2,hr]⟩⟩
  ·right
   have c1:=DD (show zs.length≤i by omega)
   have hrun:∃ e2,orB (call AF m) e' h'=.exit 0 e2 h'∧AB 3 e2=.int .i64 0:=by
    unfold orB
    simp only[sT,Nat.reduceLT,Nat.reduceEqDiff,reduceIte,AO,AN,t8,t7,c1]
    exact⟨_,rfl,by simp[AH,t3]⟩
   obtain⟨e2,r1,r2⟩:=hrun
   rw[r1]
   exact⟨rfl,.inl ⟨e2,rfl,by rw[hr,List.drop_of_length_le (by omega)];rfl,r2⟩⟩
 rcases run with ⟨e2,r1,r2,r3⟩|⟨e2,r1,r2⟩
 ·rw[Wc rfl,W5,p1,YS,r2]
  simp only[BP,A1,r1,A5,BJ]
  unfold orE
  simp only[sT,Nat.reduceLT,Nat.reduceEqDiff,reduceIte,r3,lV0]
 ·rw[Wc rfl,W5,p1,YS]
  simp only[BP,A1,r1,CB,Co,lV0,r2]
theorem lS:BI ty3.zero 4=[.int .i64 0,.int .i64 0,.int .i64 0,.int .i64 0]:=by kernel_rfl
theorem Ut(W:h.Wf){g1 g2 g3 g4:O}{a b c d:Int}(h1:g1 e=.int .i64 a)(h2:g2 e=.int .i64 b)(h3:g3 e=.int .i64 c)(h4:g4 e=.int .i64 d):
  AZ 4 (BI ty3.zero 4) [(0,1,g1),(1,1,g2),(2,1,g3),(3,1,g4)] F e h=.ok (.slice (some ⟨h.next,0,none⟩) 4 4) (h.pushRow 0 (ints .i64 [a,b,c,d])):=by
 rw[Ca,lS,BE (hk:=by rw[h1];rfl),h1,BE (hk:=by rw[h2];rfl),h2,BE (hk:=by rw[h3];rfl),h3,BE (hk:=by rw[h4];rfl),h4]
 simp only[DN,List.length_singleton,List.length_cons,List.length_nil,over,List.take,List.drop,List.append_eq,List.nil_append,List.cons_append,Nat.reduceAdd,Nat.reduceLeDiff,if_true,CP,reduceIte]
 rw[DA W];rfl
theorem YT(W:h.Wf)(x y:Kt):∃ h',call AF (m+3) 51 [ktV x,ktV y] h=.ok (.int .i64 (Gz x y)) h'∧h.Ext h':=by
 have b1:=fun (F:CallF) (e:Env) (he:AB 0 e=ktV x)=>Gp (F:=F) W he
 have x1:=(Hp.Ext.refl W).pushRow 0 (Ab x)
 have R1:=Hp.Row.new W 0 (Ab x)
 have n1:(h.pushRow 0 (Ab x)).next=h.next+1:=rfl
 generalize h.pushRow 0 (Ab x)=h1 at b1 x1 R1 n1
 have b2:=fun (F:CallF) (e:Env) (he:AB 1 e=ktV y)=>Gp (F:=F) x1.wf he
 have y2:=(Hp.Ext.refl x1.wf).pushRow 0 (Ab y)
 have R2:=Hp.Row.new x1.wf 0 (Ab y)
 have n2:(h1.pushRow 0 (Ab y)).next=h1.next+1:=rfl
 generalize h1.pushRow 0 (Ab y)=h2 at b2 y2 R2 n2
 have x2:=(x1.trans y2).marked
 have R1m:h2.marked.Row h.next 0 (Ab x):=(R1.ext x1.wf y2).same rfl
 have R2m:h2.marked.Row h1.next 0 (Ab y):=R2.same rfl
 have mk:h2.marked.mark=h2.next:=rfl
 have nx:h2.marked.next=h2.next:=rfl
 generalize hg0:h2.marked=g0 at x2 R1m R2m mk nx
 have wk:∀ (g:Hp) (W:g.Wf) (hm:g.mark≤g.next) (mm:Qm) (i j:Nat) (a b:Int) (e:Env),AB i e=.int .i64 a→AB j e=.int .i64 b→Ac mm (AM 80 [AB i,AB j]) (call AF (m+2)) e g=.ok (.int .i64 (Cr a b)) (g.back g.quiet):=fun g W hm mm i j a b e e1 e2=>by
  refine G1 W ?_ hm
  rw[Bk,Ah,Ah,A7,e1,e2];exact jK
 have bk:∀ g:Hp,g.Wf→g.Ext (g.back g.quiet)∧(g.back g.quiet).next=g.next∧(g.back g.quiet).mark=g.mark:=fun g W=>⟨Hp.Ext.back2 (.refl W) (Hp.Ext.refl W).quiet,rfl,rfl⟩
 have ol:∀ (g:Hp) (hm:g.mark=h2.next) (r off:Nat) (kk:C) (F:CallF) (e:Env),r<h2.next→Jf (.pointer (some ⟨r,off,none⟩)) kk F e g=kk F e g:=fun g hm r off kk F e hr=>Dw (by rw[hm];exact hr)
 obtain⟨l0,_⟩:=Bx R1m
 obtain⟨k0,_⟩:=Bx R2m
 have w1:=wk g0 x2.wf (by omega) .weak 7 10 x.a y.a
 obtain⟨z1,v1,u1⟩:=bk g0 x2.wf
 generalize g0.back g0.quiet=g1 at w1 z1 v1 u1
 have o1:=ol g1 (u1.trans mk)
 obtain⟨_,l1,_⟩:=Bx (R1m.ext x2.wf z1)
 obtain⟨_,k1,_⟩:=Bx (R2m.ext x2.wf z1)
 have w2:=wk g1 z1.wf (by omega) .weak 14 17 x.b y.b
 obtain⟨z2',v2,u2⟩:=bk g1 z1.wf
 generalize g1.back g1.quiet=g2 at w2 z2' v2 u2
 have z2:=z1.trans z2'
 have o2:=ol g2 (by omega)
 obtain⟨_,_,l2,_⟩:=Bx (R1m.ext x2.wf z2)
 obtain⟨_,_,k2,_⟩:=Bx (R2m.ext x2.wf z2)
 have w3:=wk g2 z2.wf (by omega) .weak 21 24 x.c y.c
 obtain⟨z3',v3,u3⟩:=bk g2 z2.wf
 generalize g2.back g2.quiet=g3 at w3 z3' v3 u3
 have z3:=z2.trans z3'
 have o3:=ol g3 (by omega)
 obtain⟨_,_,_,_,_,l5,_⟩:=Bx (R1m.ext x2.wf z3)
 obtain⟨_,_,_,_,_,k5,_⟩:=Bx (R2m.ext x2.wf z3)
 have w4:=wk g3 z3.wf (by omega) .free 27 29 x.p y.p
 obtain⟨z4',v4,u4⟩:=bk g3 z3.wf
 generalize g3.back g3.quiet=g4 at w4 z4' v4 u4
 have z4:=z3.trans z4'
 have q5:∀ (F:CallF) (e:Env),AB 11 e=.int .i64 (Cr x.a y.a)→AB 18 e=.int .i64 (Cr x.b y.b)→AB 25 e=.int .i64 (Cr x.c y.c)→AB 30 e=.int .i64 (Cr x.p y.p)→Ac .strong (AZ 4 (BI ty3.zero 4) [(0,1,AB 11),(1,1,AB 18),(2,1,AB 25),(3,1,AB 30)]) F e g4=.ok (.slice (some ⟨g4.next,0,none⟩) 4 4) (g4.back (g4.quiet.pushRow 0 (ints .i64 [Cr x.a y.a,Cr x.b y.b,Cr x.c y.c,Cr x.p y.p]))):=fun F e e1 e2 e3 e4=>DK (Ut z4.wf.quiet e1 e2 e3 e4) ((Hp.Ext.refl z4.wf.quiet).pushRow _ _) (by omega)
 have y5:g4.Ext (g4.back (g4.quiet.pushRow 0 (ints .i64 [Cr x.a y.a,Cr x.b y.b,Cr x.c y.c,Cr x.p y.p]))):=.back ((Hp.Ext.refl z4.wf.quiet).pushRow _ _)
 have R5:(g4.back (g4.quiet.pushRow 0 (ints .i64 [Cr x.a y.a,Cr x.b y.b,Cr x.c y.c,Cr x.p y.p]))).Row g4.next 0 (ints .i64 [Cr x.a y.a,Cr x.b y.b,Cr x.c y.c,Cr x.p y.p]):=(Hp.Row.new z4.wf.quiet 0 (ints .i64 [Cr x.a y.a,Cr x.b y.b,Cr x.c y.c,Cr x.p y.p])).same rfl
 generalize g4.back (g4.quiet.pushRow 0 (ints .i64 [Cr x.a y.a,Cr x.b y.b,Cr x.c y.c,Cr x.p y.p]))=g5 at q5 y5 R5
 have z5:=z4.trans y5
 have k6:=oR (m:=m+1) (h:=g5.quiet) (v:=.slice (some ⟨g4.next,0,none⟩) 4 4) (zs:=[Cr x.a y.a,Cr x.b y.b,Cr x.c y.c,Cr x.p y.p]) (.inr ⟨g4.next,0,4,0,_,rfl,R5.same rfl,Nat.le_refl _,rfl⟩) (by show 4≤1000;omega)
 have q6:∀ e:Env,AB 31 e=.slice (some ⟨g4.next,0,none⟩) 4 4→Ac .free (AM 79 [AB 31]) (call AF (m+2)) e g5=.ok (.int .i64 (Gz x y)) (g5.back g5.quiet):=fun e e1=>by
  refine Bb ?_
  rw[Bk,Ah,A7,e1];exact k6
 refine⟨g5.back g5.quiet,?_,(x2.trans z5).trans (bk g5 z5.wf).1⟩
 rw[iK rfl]
 unfold d51
 have hx1:h.next<h2.next:=by omega
 have hx2:h1.next<h2.next:=by omega
 have o11:=fun off kk F e=>o1 h.next off kk F e hx1
 have o12:=fun off kk F e=>o1 h1.next off kk F e hx2
 have o21:=fun off kk F e=>o2 h.next off kk F e hx1
 have o22:=fun off kk F e=>o2 h1.next off kk F e hx2
 have o31:=fun off kk F e=>o3 h.next off kk F e hx1
 have o32:=fun off kk F e=>o3 h1.next off kk F e hx2
 simp only[iN,Nat.reduceAdd,sT,Nat.reduceLT,Nat.reduceEqDiff,reduceIte,b1,b2,BA,hg0,AJ,AQ,Nat.zero_add,Nat.add_zero,AP,AU,l0,k0,w1,EP,o11,o12,DV,l1,k1,w2,o21,o22,l2,k2,w3,o31,o32,l5,k5,w4,q5,q6,lV0]
theorem U5{body:C}{i:Nat}{e':Env}(hb:body F e h=.exit i e' h'):Az body F e h=.exit i e' h':=by
 show iter body (8796093022207+1) F e h=_
 unfold iter
 rw[hb]
def jnB:C:=(BW (AE (AC 20) (AW iGt .i64 (AB 9) (AB 1))
(cG (AB 20) true (AC 22) (AD (AB 3))
(cG (AB 20) true (AC 23) (AD (AB 0))
(cG (AB 20) true (AC 24) (AD (AB 9))
(cG (AB 20) true (AC 25) (BF 6 (AB 23) (AB 24))
(cG (AB 20) true (AC 26) (Ax 6 (AB 25))
(cG (AB 20) true (AC 27) (AD (AB 0))
(cG (AB 20) true (AC 28) (AD (AB 9))
(cG (AB 20) true (AC 29) (Bf Int.sub .i64 (AB 28) (kV (.int .i64 1)))
(cG (AB 20) true (AC 30) (BF 6 (AB 27) (AB 29))
(cG (AB 20) true (AC 31) (Ax 6 (AB 30))
(cG (AB 20) true (AC 32) (Ac .free (Cf (AB 22) [(AB 26),(AB 31)]))
(cG (AB 20) true (AC 33) (AW iLt .i64 (AB 32) (kV (.int .i64 0)))
(AE (AC 34) (Aj (AB 20) (AB 33) (kV (.bool false)))
(AS (AB 34)
(A2 (AY 3 (BW (AE (AC 41) (Bf Int.sub .i64 (AB 9) (kV (.int .i64 1)))
(AE (AC 44) (Bf Int.sub .i64 (AB 9) (kV (.int .i64 1)))
(AE (AC 45) (BF 6 (AB 0) (AB 44))
(AE (AC 46) (Ax 6 (AB 45))
(AE (AC 49) (BF 6 (AB 0) (AB 9))
(AE (AC 50) (Ax 6 (AB 49))
(AE (AC 51) (BF 6 (AB 0) (AB 9))
(cDo (Ac .free (Af 6 (AB 51) (AB 46)))
(AE (AC 52) (BF 6 (AB 0) (AB 41))
(cDo (Ac .free (Af 6 (AB 52) (AB 50)))
AX))))))))))))
(AE (AC 36) (Bf Int.sub .i64 (AB 9) (kV (.int .i64 1)))
(AE (AC 9) (AD (AB 36))
AX)))
(BK 2)))))))))))))))))
def XY:C:=(AE (AC 14) (AW iLt .i64 (AB 8) (AB 2))
(AS (AB 14)
(A2 (AY 1 (AE (AC 9) (AD (AB 8))
(AY 2 (Az jnB))))
(AE (AC 16) (BZ .i64 (Ar .i64) (AB 8) (kV (.int .i64 1)))
(AE (AC 8) (AD (AB 16))
AX)))
(BK 0)))
theorem N0:jsB=XY:=rfl
theorem W7:d97=aR:=rfl
theorem nr(W:h.Wf)(K:h.KS S v ks)(hl:ks.length≤1000)(hs:∀ (i:Nat) (x y:Kt),ks[i]? =some x→ks[i+1]? =some y→0≤Gz y x):
  ∃ h',call AF (m+4) 97 [v,.int .i64 0,.int .i64 (ks.length:Int),.func (.func 51) ⟨[]⟩ ⟨[]⟩] h=.ok noRes h'∧h.Ext h':=by
 have run:∀ e1:Env,AB 0 e1=v→AB 1 e1=.int .i64 0→AB 2 e1=.int .i64 (ks.length:Int)→AB 3 e1=.func (.func 51) ⟨[]⟩ ⟨[]⟩→AB 8 e1=.int .i64 ((1:Nat):Int)→∃ e' h',Az jsB (call AF (m+3)) e1 h=.exit 0 e' h'∧h.Ext h':=fun e1 s0 s1 s2 s3 s8=>by
  refine Be (I:=fun i e' h'=>h.Ext h'∧AB 0 e'=v∧AB 1 e'=.int .i64 0∧AB 2 e'=.int .i64 (ks.length:Int)∧AB 3 e'=.func (.func 51) ⟨[]⟩ ⟨[]⟩∧AB 8 e'=.int .i64 ((i+1:Nat):Int)) (Q:=fun x=>∃ e' h',x=.exit 0 e' h'∧h.Ext h') ks.length (by omega) (fun i e' h' ⟨x',t0,t1,t2,t3,t8⟩=>?_) ⟨.refl W,s0,s1,s2,s3,s8⟩
  by_cases hlt:i+1<ks.length
  ·left
   have c1:iLt ((i+1:Nat):Int) (ks.length:Int)=true:=Eo hlt
   have c2:iGt ((i+1:Nat):Int) 0=true:=Fl (by omega)
   obtain⟨y,hy⟩:∃ y,ks[i+1]? =some y:=⟨_,List.getElem?_eq_getElem hlt⟩
   obtain⟨x,hx⟩:∃ x,ks[i]? =some x:=⟨_,List.getElem?_eq_getElem (by omega)⟩
   have x1:=x'.marked
   have K1:=K.ext W x1
   obtain⟨b,_,ix,ld,_⟩:=K1.at hy
   obtain⟨b',_,ix',ld',_⟩:=K1.at hx
   have a1:FE Int.sub .i64 (.int .i64 ((i+1:Nat):Int)) (.int .i64 1) h'.marked=.ok (.int .i64 (i:Int)) h'.marked:=by
    have:Int.sub ((i+1:Nat):Int) 1=(i:Int):=by
     show((i+1:Nat):Int) - 1=_
     omega
    rw[CO,this,Bg (by omega)]
   obtain⟨h2,k2,x2⟩:=YT (m:=m) x1.quiet.wf y x
   have q2:∀ e:Env,AB 22 e=.func (.func 51) ⟨[]⟩ ⟨[]⟩→AB 26 e=ktV y→AB 31 e=ktV x→Ac .free (Cf (AB 22) [AB 26,AB 31]) (call AF (m+3)) e h'.marked=.ok (.int .i64 (Gz y x)) (h'.marked.back h2):=fun e e1 e2 e3=>by
    refine Bb ?_
    rw[Cj,Ah,Ah,A7,e1,e2,e3];exact k2
   have y2:h'.marked.Ext (h'.marked.back h2):=.back x2
   generalize h'.marked.back h2=h3 at q2 y2
   have x3:=x1.trans y2
   have c3:iLt (Gz y x) 0=false:=GT (by have:=hs i x y hx hy;omega)
   have a3:FD .i64 (.int .i64 ((i+1:Nat):Int)) (.int .i64 1) h3=.ok (.int .i64 ((i+1+1:Nat):Int)) h3:=CR (by omega)
   have inn:∀ e:Env,AB 0 e=v→AB 1 e=.int .i64 0→AB 3 e=.func (.func 51) ⟨[]⟩ ⟨[]⟩→AB 9 e=.int .i64 ((i+1:Nat):Int)→∃ e2,jnB (call AF (m+3)) e h'=.exit 2 e2 h3∧∀ j,j=0∨j=1∨j=2∨j=3∨j=8→AB j e2=AB j e:=fun e t0 t1 t3 t9=>by
    unfold jnB
    simp only[sT,Nat.reduceLT,Nat.reduceEqDiff,reduceIte,gD,BA,AO,AN,t9,t1,c2,t3,t0,A8,ix,ix',Aw,Av,ld,ld',Bz,a1,q2,c3]
    refine⟨_,rfl,fun j hj=>?_⟩
    rcases hj with rfl|rfl|rfl|rfl|rfl<;>simp only[AH,Nat.reduceLT,Nat.reduceEqDiff,reduceIte]
   obtain⟨e2,i1,i2⟩:=inn (Env.set 9 (.int .i64 ((i+1:Nat):Int)) (Env.set 14 (.bool true) e')) (by simp[AH,t0]) (by simp[AH,t1]) (by simp[AH,t3]) (by simp[AH])
   have i1:=U5 i1
   have g0:=i2 0 (by omega)
   have g1:=i2 1 (by omega)
   have g2:=i2 2 (by omega)
   have g3:=i2 3 (by omega)
   have g8:=i2 8 (by omega)
   simp only[AH,Nat.reduceLT,Nat.reduceEqDiff,reduceIte,t0]at g0
   simp only[AH,Nat.reduceLT,Nat.reduceEqDiff,reduceIte,t1]at g1
   simp only[AH,Nat.reduceLT,Nat.reduceEqDiff,reduceIte,t2]at g2
   simp only[AH,Nat.reduceLT,Nat.reduceEqDiff,reduceIte,t3]at g3
   simp only[AH,Nat.reduceLT,Nat.reduceEqDiff,reduceIte,t8]at g8
   have hrun:∃ e3,jsB (call AF (m+3)) e' h'=.norm e3 h3∧AB 0 e3=v∧AB 1 e3=.int .i64 0∧AB 2 e3=.int .i64 (ks.length:Int)∧AB 3 e3=.func (.func 51) ⟨[]⟩ ⟨[]⟩∧AB 8 e3=.int .i64 ((i+1+1:Nat):Int):=by
    rw[N0]
    unfold XY
    simp only[sT,Nat.reduceLT,Nat.reduceEqDiff,reduceIte,AO,AN,t8,t2,c1,i1,g8,BR,a3]
    exact⟨_,rfl,by simp[AH,g0,g1,g2,g3]⟩
   obtain⟨e3,r1,r2,r3,r4,r5,r6⟩:=hrun
   exact⟨by omega,e3,h3,r1,x3,r2,r3,r4,r5,r6⟩
  ·right
   have c1:iLt ((i+1:Nat):Int) (ks.length:Int)=false:=DD (by omega)
   have hrun:∃ e3,jsB (call AF (m+3)) e' h'=.exit 0 e3 h':=by
    rw[N0]
    unfold XY
    simp only[sT,Nat.reduceLT,Nat.reduceEqDiff,reduceIte,AO,AN,t8,t2,c1]
    exact⟨_,rfl⟩
   obtain⟨e3,r1⟩:=hrun
   rw[r1]
   exact⟨rfl,e3,h',rfl,x'⟩
 have a1:FD .i64 (.int .i64 0) (.int .i64 1) h=.ok (.int .i64 ((1:Nat):Int)) h:=CR (i:=0) (by omega)
 obtain⟨e2,h2,r1,x2⟩:=run (Env.set 8 (.int .i64 ((1:Nat):Int)) (Env.set 11 (.int .i64 ((1:Nat):Int)) (AV e0 0 [v,.int .i64 0,.int .i64 (ks.length:Int),.func (.func 51) ⟨[]⟩ ⟨[]⟩]))) (by simp only[iN,Nat.reduceAdd,AH,Nat.reduceLT,Nat.reduceEqDiff,reduceIte]) (by simp only[iN,Nat.reduceAdd,AH,Nat.reduceLT,Nat.reduceEqDiff,reduceIte]) (by simp only[iN,Nat.reduceAdd,AH,Nat.reduceLT,Nat.reduceEqDiff,reduceIte]) (by simp only[iN,Nat.reduceAdd,AH,Nat.reduceLT,Nat.reduceEqDiff,reduceIte]) (by simp[AH])
 simp only[iN,Nat.reduceAdd]at r1
 refine⟨h2,?_,x2⟩
 rw[We rfl,W7]
 unfold aR
 simp only[iN,Nat.reduceAdd,sT,Nat.reduceLT,Nat.reduceEqDiff,reduceIte,BR,a1,r1,Dc,DW]
theorem W3:d77=aN:=rfl
def pdT:C:=(AE (AC 32) (AW iEq .i64 (AB 3) (kV (.int .i64 0)))
(AS (AB 32)
(AE (AC 37) (AM 98 [(AB 0),(AB 1),(AB 2),(AB 4)])
Ad)
(AE (AC 39) (CI (AB 10))
(A2 (AS (AB 39)
(AE (AC 44) (AM 99 [(AB 0),(AB 1),(AB 2),(AB 4)])
(AE (AC 46) (Bf Int.sub .i64 (AB 3) (kV (.int .i64 1)))
(AE (AC 3) (AD (AB 46))
AX)))
AX)
(AE (AC 52) (AM 100 [(AB 0),(AB 1),(AB 2),(AB 4)])
(AE (AC 53) (Aa 0 (AB 52))
(AE (AC 54) (Aa 1 (AB 52))
(AE (AC 13) (AD (AB 53))
(AE (AC 14) (AD (AB 54))
(AE (AC 56) (AW iEq .i64 (AB 14) (kV (.int .i64 2)))
(A2 (AS (AB 56)
(AE (AC 61) (AM 101 [(AB 0),(AB 1),(AB 2),(AB 4)])
(AE (AC 63) (Bf Int.sub .i64 (AB 2) (kV (.int .i64 1)))
(AE (AC 66) (Bf Int.sub .i64 (AB 13) (AB 1))
(AE (AC 67) (Bf Int.sub .i64 (AB 63) (AB 66))
(AE (AC 13) (AD (AB 67))
(AE (AC 14) (AD (kV (.int .i64 1)))
AX))))))
AX)
(cG (AB 10) true (AC 70) (AD (AB 11))
(AE (AC 71) (Aj (AB 10) (AB 70) (kV (.bool false)))
(cG (AB 71) true (AC 73) (AD (AB 14))
(cG (AB 71) true (AC 74) (AW iEq .i64 (AB 73) (kV (.int .i64 1)))
(AE (AC 75) (Aj (AB 71) (AB 74) (kV (.bool false)))
(A2 (AS (AB 75)
(AE (AC 80) (AM 102 [(AB 0),(AB 1),(AB 2),(AB 4)])
(AS (AB 80)
Ad
AX))
AX)
(BW (AE (AC 82) (AW iGt .i64 (AB 1) (kV (.int .i64 0)))
(cG (AB 82) true (AC 84) (AD (AB 4))
(cG (AB 82) true (AC 85) (AD (AB 0))
(cG (AB 82) true (AC 86) (AD (AB 1))
(cG (AB 82) true (AC 87) (Bf Int.sub .i64 (AB 86) (kV (.int .i64 1)))
(cG (AB 82) true (AC 88) (BF 6 (AB 85) (AB 87))
(cG (AB 82) true (AC 89) (Ax 6 (AB 88))
(cG (AB 82) true (AC 90) (AD (AB 0))
(cG (AB 82) true (AC 91) (AD (AB 13))
(cG (AB 82) true (AC 92) (BF 6 (AB 90) (AB 91))
(cG (AB 82) true (AC 93) (Ax 6 (AB 92))
(cG (AB 82) true (AC 94) (Ac .free (Cf (AB 84) [(AB 89),(AB 93)]))
(cG (AB 82) true (AC 95) (AW iLt .i64 (AB 94) (kV (.int .i64 0)))
(cG (AB 82) true (AC 96) (CI (AB 95))
(AE (AC 97) (Aj (AB 82) (AB 96) (kV (.bool false)))
(AS (AB 97)
(AE (AC 103) (AM 103 [(AB 0),(AB 1),(AB 2),(AB 13),(AB 4)])
(AE (AC 15) (AD (AB 103))
(AE (AC 1) (AD (AB 15))
(BK 1))))
(AE (AC 111) (AM 104 [(AB 0),(AB 1),(AB 2),(AB 13),(AB 4)])
(AE (AC 112) (Aa 0 (AB 111))
(AE (AC 113) (Aa 1 (AB 111))
(AE (AC 16) (AD (AB 112))
(AE (AC 17) (AD (AB 113))
(AE (AC 11) (AD (AB 17))
(AE (AC 117) (Bf Int.sub .i64 (AB 16) (AB 1))
(AE (AC 120) (Bf Int.sub .i64 (AB 2) (AB 16))
(AE (AC 18) (AD (AB 117))
(AE (AC 19) (AD (AB 120))
(AE (AC 122) (Gv .i64 (AB 12) (kV (.int .i64 8)))
(AE (AC 20) (AD (AB 122))
(AE (AC 125) (AW iLt .i64 (AB 18) (AB 19))
(AS (AB 125)
(AE (AC 128) (AW iGe .i64 (AB 18) (AB 20))
(AE (AC 10) (AD (AB 128))
(AE (AC 134) (AM 77 [(AB 0),(AB 1),(AB 16),(AB 3),(AB 4)])
(AE (AC 136) (BZ .i64 (Ar .i64) (AB 16) (kV (.int .i64 1)))
(AE (AC 1) (AD (AB 136))
AX)))))
(AE (AC 139) (AW iGe .i64 (AB 19) (AB 20))
(AE (AC 10) (AD (AB 139))
(AE (AC 142) (BZ .i64 (Ar .i64) (AB 16) (kV (.int .i64 1)))
(AE (AC 146) (AM 77 [(AB 0),(AB 142),(AB 2),(AB 3),(AB 4)])
(AE (AC 2) (AD (AB 16))
AX)))))))))))))))))))))))))))))))))))))))))))))))))))))
def kY:C:=(AY 1 (AE (AC 23) (Bf Int.sub .i64 (AB 2) (AB 1))
(AE (AC 12) (AD (AB 23))
(AE (AC 25) (AW iLe .i64 (AB 12) (kV (.int .i64 12)))
(AS (AB 25)
(AE (AC 30) (AM 97 [(AB 0),(AB 1),(AB 2),(AB 4)])
Ad)
pdT)))))
theorem Ya:pdB=kY:=rfl
theorem Ld{body:C}{e':Env}(hb:body F e h=.ret e' h'):Az body F e h=.ret e' h':=by
 show iter body (8796093022207+1) F e h=_
 unfold iter
 rw[hb]
theorem WF{x y:O}{n:Nat}{s:ByteArray}(hx:x e=.string s)(hy:y e=.int .u8 (n:Int))(hn:n<s.data.toList.length):∃ b:Nat,H0 x y F e h=.ok (.int .u8 (b:Int)) h∧b<256:=by
 have e1:H0 x y F e h=JA (x e) (Cy (y e)) h:=rfl
 have e2:nth s.data.toList n=some (s.data.toList[n]'hn):=by rw[E3,List.getElem?_eq_getElem hn]
 refine⟨(s.data.toList[n]'hn).toNat,?_,UInt8.toNat_lt _⟩
 rw[e1,hx,hy,Cu]
 unfold JA
 simp only[e2]
 exact EJ ..
theorem NZ{n:Nat}(hn:n<256):∃ k:Nat,call AF (m+2) 78 [.int .u64 (n:Int)] h=.ok (.int .i64 (k:Int)) h:=by
 have c1:iGe (n:Int) 4294967296=false:=Ez (by omega)
 have c2:iGe (n:Int) 65536=false:=Ez (by omega)
 have c3:iGe (n:Int) 256=false:=Ez (by omega)
 have v1:DQ .u8 (.int .u64 (n:Int)) h=.ok (.int .u8 (n:Int)) h:=by rw[Ck,HY,Nat.mod_eq_of_lt hn]
 have key:∃ k:Nat,call AF (m+1) 106 [.int .u64 (n:Int)] h=.ok (.int .i64 (k:Int)) h:=by
  rw[Zn rfl]
  unfold Z3
  simp only[iN,Nat.reduceAdd,sT,Nat.reduceLT,Nat.reduceEqDiff,reduceIte,AO,AN,c1,c2,c3,CN,v1]
  obtain⟨b,hb,hlt⟩:=WF (F:=call AF m) (h:=h) (e:=Env.set 21 (.int .u8 (n:Int)) (Env.set 14 (.bool false) (Env.set 8 (.bool false) (Env.set 4 (.bool false) (Env.set 2 (.int .i64 0) (Env.set 0 (.int .u64 (n:Int)) e0)))))) (x:=(kV (.string ⟨#[0,1,2,2,3,3,3,3,4,4,4,4,4,4,4,4,5,5,5,5,5,5,5,5,5,5,5,5,5,5,5,5,6,6,6,6,6,6,6,6,6,6,6,6,6,6,6,6,6,6,6,6,6,6,6,6,6,6,6,6,6,6,6,6,7,7,7,7,7,7,7,7,7,7,7,7,7,7,7,7,7,7,7,7,7,7,7,7,7,7,7,7,7,7,7,7,7,7,7,7,7,7,7,7,7,7,7,7,7,7,7,7,7,7,7,7,7,7,7,7,7,7,7,7,7,7,7,7,8,8,8,8,8,8,8,8,8,8,8,8,8,8,8,8,8,8,8,8,8,8,8,8,8,8,8,8,8,8,8,8,8,8,8,8,8,8,8,8,8,8,8,8,8,8,8,8,8,8,8,8,8,8,8,8,8,8,8,8,8,8,8,8,8,8,8,8,8,8,8,8,8,8,8,8,8,8,8,8,8,8,8,8,8,8,8,8,8,8,8,8,8,8,8,8,8,8,8,8,8,8,8,8,8,8,8,8,8,8,8,8,8,8,8,8,8,8,8,8,8,8,8,8,8,8,8,8]⟩))) (y:=AB 21) (n:=n) rfl (by simp[AH]) (by
   refine Nat.lt_of_lt_of_eq hn ?_
   kernel_rfl)
  rw[hb]
  have v2:DQ .i64 (.int .u8 (b:Int)) h=.ok (.int .i64 (b:Int)) h:=by rw[Ck,Bg (by omega)]
  have a2:FD .i64 (.int .i64 0) (.int .i64 (b:Int)) h=.ok (.int .i64 (b:Int)) h:=by
   have:=Sh (h:=h) (a:=0) (b:=b) (by omega)
   rw[Nat.zero_add]at this;exact this
  simp only[sT,Nat.reduceLT,Nat.reduceEqDiff,reduceIte,CN,v2,BR,a2,lV0]
  exact⟨b,rfl⟩
 obtain⟨k,hk⟩:=key
 refine⟨k,?_⟩
 rw[im rfl]
 unfold d78
 simp only[iN,Nat.reduceAdd,sT,Nat.reduceLT,Nat.reduceEqDiff,reduceIte,cA0,hk,lV0]
theorem dW(W:h.Wf)(K:h.KS S v ks)(hl:ks.length≤12)(hs:∀ (i:Nat) (x y:Kt),ks[i]? =some x→ks[i+1]? =some y→0≤Gz y x):
  ∃ h',call AF (m+6) 50 [v,.func (.func 51) ⟨[]⟩ ⟨[]⟩] h=.ok noRes h'∧h.Ext h':=by
 have ln:=K.len h
 obtain⟨h2,k2,x2⟩:=nr (m:=m) W K (by omega) hs
 obtain⟨k,kb⟩:=NZ (m:=m+3) (h:=h) (n:=ks.length) (by omega)
 have cv:DQ .u64 (.int .i64 (ks.length:Int)) h=.ok (.int .u64 (ks.length:Int)) h:=by rw[Ck,D4 (by omega)]
 have a1:FE Int.sub .i64 (.int .i64 (ks.length:Int)) (.int .i64 0) h=.ok (.int .i64 (ks.length:Int)) h:=by
  have:Int.sub (ks.length:Int) 0=(ks.length:Int):=Int.sub_zero _
  rw[CO,this,Bg (by omega)]
 have c1:iLe (ks.length:Int) 12=true:=Jx (by omega)
 have pd:call AF (m+5) 77 [v,.int .i64 0,.int .i64 (ks.length:Int),.int .i64 (k:Int),.func (.func 51) ⟨[]⟩ ⟨[]⟩] h=.ok noRes h2:=by
  have hb:∃ e2,pdB (call AF (m+4)) (Env.set 11 (.bool true) (Env.set 10 (.bool true) (AV e0 0 [v,.int .i64 0,.int .i64 (ks.length:Int),.int .i64 (k:Int),.func (.func 51) ⟨[]⟩ ⟨[]⟩]))) h=.ret e2 h2:=by
   rw[Ya]
   unfold kY
   simp only[iN,Nat.reduceAdd,sT,Nat.reduceLT,Nat.reduceEqDiff,reduceIte,Bz,a1,AO,AN,c1,cA0,k2]
   exact⟨_,rfl⟩
  obtain⟨e2,r1⟩:=hb
  have r1:=Ld r1
  simp only[iN,Nat.reduceAdd]at r1
  rw[Wb rfl,W3]
  unfold aN
  simp only[iN,Nat.reduceAdd,sT,Nat.reduceLT,Nat.reduceEqDiff,reduceIte,r1,Bp,DW]
 refine⟨h2,?_,x2⟩
 rw[WY rfl]
 unfold d50
 simp only[iN,Nat.reduceAdd,sT,Nat.reduceLT,Nat.reduceEqDiff,reduceIte,Am,ln,CN,cv,cA0,kb,pd,Dc,DW]
end
end
noncomputable section
open Go
set_option maxRecDepth 100000
theorem PU{k:IntKind}{Z:List Int}:(ints k Z).length=Z.length:=List.length_map ..
theorem bD{k:IntKind}{Z:List Int}{i:Nat}(hi:i<Z.length):(ints k Z).getD i noRes=.int k (Z.getD i 0):=by
 unfold ints
 rw[List.getD_eq_getElem?_getD,List.getElem?_map,List.getD_eq_getElem?_getD,List.getElem?_eq_getElem hi];rfl
theorem Hp.Vals.int{h:Hp}{k:IntKind}{u:Value}{Z:List Int}(V:h.Vals u (ints k Z)){i:Nat}(hi:i<Z.length):∃ a,idxSR 1 u (.int .i64 (i:Int)) h=.ok (.pointer (some a)) h∧Gq (.pointer (some a)) h=.ok (.int k (Z.getD i 0)) h:=by
 obtain⟨a,g1,g2⟩:=V.at (i:=i) (by rw[PU];exact hi)
 rw[bD hi]at g2
 exact⟨a,g1,g2⟩
theorem Hp.Vals.ilen{h:Hp}{k:IntKind}{u:Value}{Z:List Int}(V:h.Vals u (ints k Z)):lenSR u h=.ok (.int .i64 (Z.length:Int)) h:=by
 have:=V.len;rwa [PU]at this
def Hv(x:Int):Nat→List Int→Int
 |_,[]=> -1
 |i,z::l=>if x=z then(i:Int)else Hv x (i+1) l
theorem TP(x:Int):∀ (zs:List Int) (i:Nat),(x∉zs∧Hv x i zs= -1)∨(x∈zs∧∃ k,k<zs.length∧Hv x i zs=((i+k:Nat):Int)∧zs.getD k 0=x)
 |[],i=>.inl ⟨fun h=>(by cases h),rfl⟩
 |z::l,i=>by
  unfold Hv
  by_cases h:x=z
  ·rw[if_pos h]
   exact .inr ⟨by rw[h];exact List.mem_cons_self,0,Nat.succ_pos _,rfl,h.symm⟩
  ·rw[if_neg h]
   rcases TP x l (i+1)with ⟨h1,h2⟩|⟨h1,k,h2,h3,h4⟩
   ·refine .inl ⟨fun hx=>?_,h2⟩
    rcases List.mem_cons.1 hx with hx|hx
    ·exact h hx
    ·exact h1 hx
   ·exact .inr ⟨List.mem_cons_of_mem _ h1,k+1,Nat.succ_lt_succ h2,by rw[h3];congr 1;omega,h4⟩
theorem az(x:Int)(zs:List Int):(0≤Hv x 0 zs)↔x∈zs:=by
 rcases TP x zs 0 with ⟨h1,h2⟩|⟨h1,k,_,h3,_⟩
 ·rw[h2];exact⟨fun h=>by omega,fun h=>absurd h h1⟩
 ·rw[h3];exact⟨fun _=>h1,fun _=>by omega⟩
theorem ay(x:Int)(zs:List Int):iGe (Hv x 0 zs) 0=decide (x∈zs):=by
 rw[Np,decide_eq_decide];exact az x zs
def ixB:C:=(AE (AC 9) (AW iLt .i64 (AB 8) (AB 7))
(AS (AB 9)
(A2 (AY 1 (AE (AC 5) (AD (AB 8))
(AE (AC 14) (BF 1 (AB 0) (AB 5))
(AE (AC 15) (AK (AB 14))
(AE (AC 16) (AW iEq .i64 (AB 1) (AB 15))
(AS (AB 16)
(AE (AC 4) (AD (AB 5))
Ad)
AX))))))
(AE (AC 18) (BZ .i64 (Ar .i64) (AB 8) (kV (.int .i64 1)))
(AE (AC 8) (AD (AB 18))
AX)))
(BK 0)))
def ixE:C:=(AE (AC 4) (AD (kV (.int .i64 (-1))))
Ad)
theorem j8:ixS=A2 (AY 0 (Az ixB)) ixE:=rfl
theorem ja:d91=aQ:=rfl
theorem bF{F:CallF}{h:Hp}{u:Value}{zs:List Int}{x:Int}(V:h.Vals u (ints .i64 zs))(hl:zs.length<900000){e:Env}(s0:AB 0 e=u)(s1:AB 1 e=.int .i64 x)(s7:AB 7 e=.int .i64 (zs.length:Int))(s8:AB 8 e=.int .i64 0):
  (∃ e',Az ixB F e h=.exit 0 e' h∧Hv x 0 zs= -1)∨(∃ e',Az ixB F e h=.ret e' h∧AB 4 e'=.int .i64 (Hv x 0 zs)):=by
 refine Be (I:=fun i e' h'=>h'=h∧AB 0 e'=u∧AB 1 e'=.int .i64 x∧AB 7 e'=.int .i64 (zs.length:Int)∧AB 8 e'=.int .i64 (i:Int)∧i≤zs.length∧Hv x 0 zs=Hv x i (zs.drop i))
  (Q:=fun y=>(∃ e',y=.exit 0 e' h∧Hv x 0 zs= -1)∨(∃ e',y=.ret e' h∧AB 4 e'=.int .i64 (Hv x 0 zs))) zs.length (by omega) (fun i e' h' ⟨hh,t0,t1,t7,t8,hi,hr⟩=>?_)
  ⟨rfl,s0,s1,s7,s8,Nat.zero_le _,rfl⟩
 subst hh
 by_cases hlt:i<zs.length
 ·obtain⟨a,g1,g2⟩:=V.int hlt
  have hd:zs.drop i=zs.getD i 0::zs.drop (i+1):=by
   rw[List.drop_eq_getElem_cons hlt,List.getD_eq_getElem?_getD,List.getElem?_eq_getElem hlt];rfl
  rw[hd]at hr
  generalize zs.getD i 0=z at g2 hr
  have hr:Hv x 0 zs=if x=z then(i:Int)else Hv x (i+1) (zs.drop (i+1)):=hr
  have c1:iLt (i:Int) (zs.length:Int)=true:=by rw[Cs];simp;omega
  by_cases hx:x=z
  ·right
   have c2:iEq x z=true:=by rw[Dr];simpa using hx
   have hrun:∃ e2,ixB F e' h'=.ret e2 h'∧AB 4 e2=.int .i64 (i:Int):=by
    unfold ixB
    simp only[sT,Nat.reduceLT,Nat.reduceEqDiff,reduceIte,AO,AN,t8,t7,c1,A8,t0,g1,AP,g2,t1,c2]
    exact⟨_,rfl,by simp[AH]⟩
   obtain⟨e2,r1,r2⟩:=hrun
   rw[r1]
   refine⟨rfl,.inr ⟨e2,rfl,?_⟩⟩
   rw[r2,hr,if_pos hx]
  ·left
   have c2:iEq x z=false:=by rw[Dr];simpa using hx
   have a3:FD .i64 (.int .i64 (i:Int)) (.int .i64 1) h'=.ok (.int .i64 ((i+1:Nat):Int)) h':=by
    have:(i:Int)+1=((i+1:Nat):Int):=by omega
    rw[EM,this,Bg (by omega)]
   have hrun:∃ e2,ixB F e' h'=.norm e2 h'∧AB 0 e2=u∧AB 1 e2=.int .i64 x∧AB 7 e2=.int .i64 (zs.length:Int)∧AB 8 e2=.int .i64 ((i+1:Nat):Int):=by
    unfold ixB
    simp only[sT,Nat.reduceLT,Nat.reduceEqDiff,reduceIte,AO,AN,t8,t7,c1,A8,t0,g1,AP,g2,t1,c2,BR,a3]
    exact⟨_,rfl,by simp[AH,t0,t1,t7]⟩
   obtain⟨e2,r1,r2,r3,r4,r5⟩:=hrun
   rw[if_neg hx]at hr
   exact⟨hlt,e2,h',r1,rfl,r2,r3,r4,r5,hlt,hr⟩
 ·right
  have c1:iLt (i:Int) (zs.length:Int)=false:=by rw[Cs];simp;omega
  have hrun:∃ e2,ixB F e' h'=.exit 0 e2 h':=by
   unfold ixB
   simp only[sT,Nat.reduceLT,Nat.reduceEqDiff,reduceIte,AO,AN,t8,t7,c1]
   exact⟨_,rfl⟩
  obtain⟨e2,r1⟩:=hrun
  rw[r1]
  refine⟨rfl,.inl ⟨e2,rfl,?_⟩⟩
  rw[hr,List.drop_of_length_le (by omega)];rfl
theorem XU{n:Nat}{h:Hp}{u:Value}{zs:List Int}{x:Int}(V:h.Vals u (ints .i64 zs))(hl:zs.length<900000):call AF (n+1) 91 [u,.int .i64 x] h=.ok (.int .i64 (Hv x 0 zs)) h:=by
 have pre:∃ e1,aQ (call AF n) (AV e0 0 [u,.int .i64 x]) h=ixS (call AF n) e1 h∧AB 0 e1=u∧AB 1 e1=.int .i64 x∧AB 7 e1=.int .i64 (zs.length:Int)∧AB 8 e1=.int .i64 0:=by
  unfold aQ
  simp only[iN,Nat.reduceAdd,F4,GD,Dv,Gl,AH,Nat.reduceLT,Nat.reduceEqDiff,reduceIte,Am,V.ilen]
  exact⟨_,rfl,by simp[AH]⟩
 obtain⟨e1,p1,p0,pp1,p7,p8⟩:=pre
 rw[i7 rfl,ja,p1,j8]
 rcases bF (F:=call AF n) V hl p0 pp1 p7 p8 with ⟨e2,q1,q2⟩|⟨e2,q1,q2⟩
 ·simp only[BP,A1,q1,A5,BJ]
  unfold ixE
  simp only[sT,Nat.reduceLT,Nat.reduceEqDiff,reduceIte,lV0,q2]
 ·simp only[BP,A1,q1,CB,Co,lV0,q2]
theorem Ou{n:Nat}{h:Hp}{u:Value}{zs:List Int}{x:Int}(V:h.Vals u (ints .i64 zs))(hl:zs.length<900000):call AF (n+2) 63 [u,.int .i64 x] h=.ok (.bool (decide (x∈zs))) h:=by
 have k1:=XU (n:=n) (x:=x) V hl
 rw[iW rfl]
 unfold d63
 simp only[iN,Nat.reduceAdd,sT,Nat.reduceLT,Nat.reduceEqDiff,reduceIte,cA0,k1,AO,AN,ay,lV0]
section
variable {F:CallF}{e:Env}{h h' h0:Hp}{S:Nat→Prop}{m k:Nat}{ks:List Kt}{v:Value}
def Hp.KO(h:Hp)(k:Nat)(v:Value)(ks:List Kt):Prop:=(v=.slice none 0 0∧ks=[])∨∃ b,v=.slice (some ⟨b,0,none⟩) ks.length ks.length∧h.Row b 84 (flK ks)∧k≤b∧256≤b
theorem Hp.KO.lst(o:h.KO k v ks):h.KS (fun b=>k≤b) v ks:=by
 rcases o with h1|⟨b,h1,h2,h3,h4⟩
 ·exact .inl h1
 ·exact .inr ⟨b,_,84,_,h1,Nat.le_refl _,h2,by rw[CJ];omega,by rw[← CJ,List.take_length],.inl rfl,h3⟩
theorem Hp.KO.keep(o:h.KO k v ks)(hk:∀ b el L,blkV v b→h.Row b el L→h'.Row b el L):h'.KO k v ks:=by
 rcases o with h1|⟨b,h1,h2,h3,h4⟩
 ·exact .inl h1
 ·exact .inr ⟨b,h1,hk b _ _ ⟨0,_,_,h1⟩ h2,h3,h4⟩
theorem Hp.KO.ext(o:h.KO k v ks)(W:h.Wf)(x:h.Ext h'):h'.KO k v ks:=o.keep fun _ _ _ _ r=>r.ext W x
theorem Hp.KO.same(o:h.KO k v ks)(hb:h'.bl=h.bl):h'.KO k v ks:=o.keep fun _ _ _ _ r=>r.same hb
theorem Hp.KO.blk(o:h.KO k v ks)(W:h.Wf){b:Nat}(hb:blkV v b):k≤b∧b<h.next:=by
 obtain⟨off,n,c,e1⟩:=hb
 rcases o with ⟨h1,h2⟩|⟨b',h1,h2,h3,h4⟩
 ·rw[h1]at e1;cases e1
 ·have:=h2.lt W
  rw[h1]at e1
  injection e1 with e1 _ _
  injection e1 with e1
  injection e1 with e1 _ _
  omega
theorem UN:BI De.zero 1=Ab K0:=by kernel_rfl
theorem La(W:h.Wf){g:O}{x:Kt}(hg:g e=ktV x):AZ 1 (BI De.zero 1) [(0,6,g)] F e h=.ok (.slice (some ⟨h.next,0,none⟩) 1 1) (h.pushRow 0 (Ab x)):=by
 rw[UN,Ca,BE (hk:=by rw[hg];rfl),hg,show cellsOf (ktV x)=Ab x from rfl,if_pos (show(Ab x).length=6 from rfl),if_pos (show 0+6≤(Ab K0).length from Nat.le_refl _),CP,DA W];rfl
theorem F6{x:Kt}(hu:A0 x.u=true):Bh (Ab x)=true:=by
 show(bif A0 x.u then true else false)=true
 rw[hu];rfl
theorem RZ(x0:h0.Ext h)(hk:h0.next≤k)(hk2:k≤h.next)(o:h.KO k v ks){x:Kt}(hu:A0 x.u=true)(hl:ks.length≤100000):
  ∃ h' v',DF 6 64 83 v (.slice (some ⟨h.next,0,none⟩) 1 1) (h.pushRow 0 (Ab x))=.ok v' h'∧h0.Ext h'∧h'.KO k v' (ks++[x])∧h.next≤h'.next∧∀ b el L,¬ blkV v b→h.Row b el L→h'.Row b el L:=by
 have W:=x0.wf
 have x1:=x0.pushRow 0 (Ab x)
 have y1:=(Hp.Ext.refl W).pushRow 0 (Ab x)
 have Rw:=Hp.Row.new W 0 (Ab x)
 have n1:(h.pushRow 0 (Ab x)).next=h.next+1:=rfl
 have o1:=o.ext W y1
 generalize h.pushRow 0 (Ab x)=h1 at x1 y1 Rw n1 o1
 have hs:∀ K:List Value→R,BN h1 6 (.slice (some ⟨h.next,0,none⟩) 1 1) 1 K=K (Ab x):=fun K=>Rw.srcE (es:=6) (off:=0) (n:=1) (by show 0+1 * 6≤6;omega)
 have ha:=F6 hu
 rcases o1 with ⟨rfl,rfl⟩|⟨b,rfl,r,hb,h256⟩
 ·obtain⟨h5,a1,a2,a3,a4,_,a6⟩:=N7 (eb:=64) (en:=83) x1 hs rfl rfl ha (by omega)
  refine⟨h5,_,a1,a2,.inr ⟨h1.next,rfl,?_,by omega,by have:=W.big;omega⟩,by omega,fun b el L _ r=>(r.ext W y1).ext x1.wf a6⟩
  show h5.Row h1.next 84 (Ab x++[])
  rw[List.append_nil];exact a3
 ·obtain⟨h5,a1,a2,a3,a4,_,a6⟩:=LT (eb:=64) (en:=83) (n:=ks.length) x1 hs rfl rfl (by omega) ha r (by rw[CJ];omega) (by omega) h256 (by omega)
  refine⟨h5,_,a1,a2,.inr ⟨h1.next,by rw[List.length_append];rfl,?_,by omega,by have:=W.big;omega⟩,by omega,fun b' el L hne r'=>a6 b' el L (fun e=>hne ⟨0,ks.length,ks.length,by rw[e]⟩) (r'.ext W y1)⟩
  rw[IU,show flK [x]=Ab x from List.append_nil _];exact a3
theorem jh(W:h.Wf){r5:Nat}{x y:Kt}(R5:h.Row r5 0 (Ab x))(hxy:y.a≠x.a∨y=x):∃ h',call AF (m+1) 89 [ktV y,pt r5] h=.ok (.bool false) h'∧h.Ext h':=by
 have bx:=fun (F:CallF) (e:Env) (he:AB 0 e=ktV y)=>Gp (F:=F) W he
 have x1:=(Hp.Ext.refl W).pushRow 0 (Ab y)
 have R:=Hp.Row.new W 0 (Ab y)
 generalize h.pushRow 0 (Ab y)=h1 at bx x1 R
 obtain⟨l0,l1,l2,l3,_,l5,_⟩:=Bx R
 obtain⟨k0,k1,k2,k3,_,k5,_⟩:=Bx (R5.ext W x1)
 refine⟨h1,?_,x1⟩
 rw[iz rfl]
 unfold d89
 rcases hxy with hne|rfl
 ·have c1:iEq y.a x.a=false:=Bd hne
  by_cases g1:x.c<y.c
  ·have c2:iGt y.c x.c=true:=Fl g1
   simp only[iN,Nat.reduceAdd,sT,Nat.reduceLT,Nat.reduceEqDiff,reduceIte,gD,bx,AJ,AQ,Nat.zero_add,AP,AU,l0,l1,l2,l3,l5,k0,k1,k2,k3,k5,AO,AN,c1,c2,lV0]
  ·have c2:iGt y.c x.c=false:=Ei g1
   by_cases g2:y.c=x.c
   ·have c3:iEq y.c x.c=true:=CM g2
    by_cases g3:x.s=1
    ·have c4:iEq (x.s:Int) 1=true:=CM (by omega)
     simp only[iN,Nat.reduceAdd,sT,Nat.reduceLT,Nat.reduceEqDiff,reduceIte,gD,bx,AJ,AQ,Nat.zero_add,AP,AU,l0,l1,l2,l3,l5,k0,k1,k2,k3,k5,AO,AN,c1,c2,c3,c4,lV0]
    ·have c4:iEq (x.s:Int) 1=false:=Bd (by omega)
     simp only[iN,Nat.reduceAdd,sT,Nat.reduceLT,Nat.reduceEqDiff,reduceIte,gD,bx,AJ,AQ,Nat.zero_add,AP,AU,l0,l1,l2,l3,l5,k0,k1,k2,k3,k5,AO,AN,c1,c2,c3,c4,lV0]
   ·have c3:iEq y.c x.c=false:=Bd g2
    simp only[iN,Nat.reduceAdd,sT,Nat.reduceLT,Nat.reduceEqDiff,reduceIte,gD,bx,AJ,AQ,Nat.zero_add,AP,AU,l0,l1,l2,l3,l5,k0,k1,k2,k3,k5,AO,AN,c1,c2,c3,lV0]
 ·have c1:iEq y.a y.a=true:=CM rfl
  have c1':iEq y.b y.b=true:=CM rfl
  have c2:iGt y.c y.c=false:=Ei (by omega)
  have c3:iEq y.c y.c=true:=CM rfl
  have c5:iNe (y.p:Int) (y.p:Int)=false:=CT rfl
  by_cases g3:y.s=1
  ·have c4:iEq (y.s:Int) 1=true:=CM (by omega)
   simp only[iN,Nat.reduceAdd,sT,Nat.reduceLT,Nat.reduceEqDiff,reduceIte,gD,bx,AJ,AQ,Nat.zero_add,AP,AU,l0,l1,l2,l3,l5,k0,k1,k2,k3,k5,AO,AN,c1,c1',c2,c3,c4,c5,lV0]
  ·have c4:iEq (y.s:Int) 1=false:=Bd (by omega)
   simp only[iN,Nat.reduceAdd,sT,Nat.reduceLT,Nat.reduceEqDiff,reduceIte,gD,bx,AJ,AQ,Nat.zero_add,AP,AU,l0,l1,l2,l3,l5,k0,k1,k2,k3,k5,AO,AN,c1,c1',c2,c3,c4,c5,lV0]
theorem ji(W:h.Wf){r5:Nat}{x y:Kt}(R5:h.Row r5 0 (Ab x))(hne:y.a≠x.a):∃ h',call AF (m+1) 90 [ktV y,pt r5] h=.ok (.bool false) h'∧h.Ext h':=by
 have bx:=fun (F:CallF) (e:Env) (he:AB 0 e=ktV y)=>Gp (F:=F) W he
 have x1:=(Hp.Ext.refl W).pushRow 0 (Ab y)
 have R:=Hp.Row.new W 0 (Ab y)
 generalize h.pushRow 0 (Ab y)=h1 at bx x1 R
 obtain⟨l0,_⟩:=Bx R
 obtain⟨k0,_⟩:=Bx (R5.ext W x1)
 refine⟨h1,?_,x1⟩
 rw[i6 rfl]
 unfold d90
 have c1:iEq y.a x.a=false:=Bd hne
 simp only[iN,Nat.reduceAdd,sT,Nat.reduceLT,Nat.reduceEqDiff,reduceIte,gD,bx,AJ,AQ,Nat.zero_add,AP,AU,l0,k0,AO,AN,c1,lV0]
theorem WA{P:Kt→Bool}(h:∀ k∈ks,P k=false):ks.any P=false:=by
 induction ks with
 |nil=>rfl
 |cons k l ih=>rw[List.any_cons,h k List.mem_cons_self,ih fun x hx=>h x (List.mem_cons_of_mem _ hx)];rfl
theorem j9(K:h.KS S v ks){i:Nat}(hi:i<ks.length):∃ w,h.KS S w (ks.take i)∧∀ (F:CallF) (e:Env) (x y:O),x e=v→y e=.int .i64 (i:Int)→DE 83 6 x none (some y) none F e h=.ok w h:=by
 rcases K with ⟨rfl,rfl⟩|⟨b,c,el,L,rfl,h2,h3,h4,h5,h6,h7⟩
 ·cases hi
 ·have ht:(ks.take i).length=i:=by rw[List.length_take];omega
  refine⟨.slice (some ⟨b,0,none⟩) i c,.inr ⟨b,c,el,L,by rw[ht],by rw[ht];omega,h3,by rw[ht];omega,?_,h6,h7⟩,fun F e x y hx hy=>?_⟩
  ·have e1:flK (ks.take i)=(flK ks).take (6 * i):=by
    conv=>rhs;rw[← List.take_append_drop i ks,IU]
    rw[List.take_left' (by rw[CJ,ht])]
   rw[ht,e1,← h5,List.take_take,Nat.min_eq_left (by omega)]
  ·show(match x e with|.slice a n c=>DB e n c none (some y) none (fun l hh m=>Dq 83 6 a false l hh m h)|_=>.no)=_
   rw[hx]
   show(match Cy (y e)with|.ok n=>(bif Nat.ble n c then Dq 83 6 (some ⟨b,0,none⟩) false 0 n c h else .no)|.no=>.no)=_
   rw[hy,Cu]
   simp only
   rw[Al.2 (show i≤c by omega)]
   show Bn (some ⟨b,0,none⟩) 6 0 i c h=_
   unfold Bn
   simp only[Ai]
   cases c with
   |zero=>rfl
   |succ c=>rfl
def coB:C:=(AE (AC 11) (AW iLt .i64 (AB 10) (AB 9))
(AS (AB 11)
(A2 (AY 1 (AE (AC 13) (BF 6 (AB 8) (AB 10))
(AE (AC 14) (Ax 6 (AB 13))
(AE (AC 5) (Bl 6 C5)
(AE (AC 4) (AD (AB 10))
(cDo (Af 6 (AB 5) (AB 14))
(AE (AC 15) (C8 (.func 89) [] [(AB 5)])
(AE (AC 6) (AD (AB 15))
(AE (AC 16) (C8 (.func 90) [] [(AB 5)])
(AE (AC 7) (AD (AB 16))
(AE (AC 19) (AM 61 [(AB 0),(AB 6)])
(AE (AC 20) (CI (AB 19))
(cG (AB 20) true (AC 22) (AD (AB 0))
(cG (AB 20) true (AC 23) (AD (AB 4))
(cG (AB 20) true (AC 24) (DE 83 6 (AB 22) none (some (AB 23)) none)
(cG (AB 20) true (AC 25) (AD (AB 7))
(cG (AB 20) true (AC 26) (AM 61 [(AB 24),(AB 25)])
(cG (AB 20) true (AC 27) (CI (AB 26))
(AE (AC 28) (Aj (AB 20) (AB 27) (kV (.bool false)))
(AS (AB 28)
(AE (AC 30) (Ax 6 (AB 5))
(AE (AC 31) (AZ 1 (BI De.zero 1) [(0,6,(AB 30))])
(AE (AC 32) (A9 6 64 83 (AB 3) (AB 31))
(AE (AC 3) (AD (AB 32))
AX))))
AX))))))))))))))))))))
(AE (AC 33) (BZ .i64 (Ar .i64) (AB 10) (kV (.int .i64 1)))
(AE (AC 10) (AD (AB 33))
AX)))
(BK 0)))
def coE:C:=AE (AC 2) (AD (AB 3)) Ad
theorem jM:coS=A2 (AY 0 (Az coB)) coE:=rfl
theorem jV:d59=aI:=rfl
theorem RG(W:h.Wf)(K:h.KS S v ks)(hl:ks.length≤1000)(hu:∀ k∈ks,A0 k.u=true)(hd:∀ (i j:Nat) (x y:Kt),ks[i]? =some x→ks[j]? =some y→i≠j→y.a≠x.a):
  ∃ h' w,call AF (m+4) 59 [v] h=.ok w h'∧h.Ext h'∧h'.KO h.next w ks∧(ks=[]→w=.slice none 0 0):=by
 have ln:=K.len h
 have pre:∃ e1,aI (call AF (m+3)) (AV e0 0 [v]) h=coS (call AF (m+3)) e1 h∧AB 0 e1=v∧AB 3 e1=.slice none 0 0∧AB 8 e1=v∧AB 9 e1=.int .i64 (ks.length:Int)∧AB 10 e1=.int .i64 ((0:Nat):Int):=by
  unfold aI
  simp only[iN,Nat.reduceAdd,sT,Nat.reduceLT,Nat.reduceEqDiff,reduceIte,Am,ln]
  exact⟨_,rfl,by simp[AH]⟩
 obtain⟨e1,p1,s0,s3,s8,s9,s10⟩:=pre
 have run:∃ e' h' w,Az coB (call AF (m+3)) e1 h=.exit 0 e' h'∧h.Ext h'∧h'.KO h.next w ks∧AB 3 e'=w∧(ks=[]→w=.slice none 0 0):=by
  refine Be (I:=fun i e' h'=>∃ w,h.Ext h'∧h'.KO h.next w (ks.take i)∧AB 0 e'=v∧AB 3 e'=w∧AB 8 e'=v∧AB 9 e'=.int .i64 (ks.length:Int)∧AB 10 e'=.int .i64 (i:Int)∧i≤ks.length∧(i=0→w=.slice none 0 0))
   (Q:=fun x=>∃ e' h' w,x=.exit 0 e' h'∧h.Ext h'∧h'.KO h.next w ks∧AB 3 e'=w∧(ks=[]→w=.slice none 0 0)) ks.length (by omega) (fun i e' h' ⟨w,x',o',t0,t3,t8,t9,t10,hi,hz⟩=>?_) ⟨_,.refl W,.inl ⟨rfl,rfl⟩,s0,s3,s8,s9,s10,Nat.zero_le _,fun _=>rfl⟩
  have W':=x'.wf
  by_cases hlt:i<ks.length
  ·left
   have c1:=Eo hlt
   obtain⟨x,hx⟩:∃ x,ks[i]? =some x:=⟨_,List.getElem?_eq_getElem hlt⟩
   have hxm:=List.mem_of_getElem? hx
   obtain⟨b,_,ix,ld,_⟩:=(K.ext W x').at hx
   have al:=fun (F:CallF) (e:Env)=>B7 (F:=F) (e:=e) W' (n:=6) (t:=C5)
   have Ra:=Hp.Row.alloc W' GO (show(Ab K0).length=6 from rfl)
   have y1:h'.Ext (h'.push (.cells C5 6 0)):=(Hp.Ext.refl W').push _
   have n1:(h'.push (.cells C5 6 0)).next=h'.next+1:=rfl
   generalize h'.push (.cells C5 6 0)=h1 at al Ra y1 n1
   obtain⟨st,_,y2,R5,n2⟩:=L8 W' y1 (Nat.le_refl _) Ra rfl (k:=x) (hu x hxm)
   generalize h1.wr h'.next 0 (Ab x)=h2 at st y2 R5 n2
   have x2:=x'.trans y2
   obtain⟨h3,k3,x3⟩:=N1 (m:=m+1) (g:=89) (caps:=[pt h'.next]) (P:=fun _=>false) x2.wf (K.ext W x2) (by omega) fun g xg y hy=>by
    obtain⟨j,hj⟩:=List.mem_iff_getElem?.1 hy
    refine jh (m:=m) xg.wf (R5.ext x2.wf xg) ?_
    by_cases hij:i=j
    ·rw[← hij,hx]at hj
     exact .inr (Option.some.inj hj).symm
    ·exact .inl (hd i j x y hx hj hij)
   rw[WA fun _ _=>rfl]at k3
   have x23:=x2.trans x3
   obtain⟨w',Kc,ct⟩:=j9 (K.ext W x23) hlt
   obtain⟨h4,k4,x4⟩:=N1 (m:=m+1) (g:=90) (caps:=[pt h'.next]) (P:=fun _=>false) x23.wf Kc (by rw[List.length_take];omega) fun g xg y hy=>by
    obtain⟨j,hj⟩:=List.mem_iff_getElem?.1 hy
    have hji:j<i:=by
     have:=(List.getElem?_eq_some_iff.1 hj).1
     rw[List.length_take]at this
     omega
    rw[List.getElem?_take,if_pos hji]at hj
    exact ji (m:=m) xg.wf ((R5.ext x2.wf x3).ext x23.wf xg) (hd i j x y hx hj (by omega))
   rw[WA fun _ _=>rfl]at k4
   have x24:=x23.trans x4
   have y24:=(y2.trans x3).trans x4
   have R54:=(R5.ext x2.wf x3).ext x23.wf x4
   obtain⟨_,_,_,_,_,_,ld5,_⟩:=Bx R54
   have sl:=fun (F:CallF) (e:Env) (he:AB 30 e=ktV x)=>La (F:=F) x24.wf he
   obtain⟨h5,w5,k5,x5,o5,n5,_⟩:=RZ x24 (Nat.le_refl _) x24.next (o'.ext W' y24) (hu x hxm) (by rw[List.length_take];omega)
   have er:ks.take (i+1)=ks.take i++[x]:=by rw[List.take_add_one,hx];rfl
   rw[← er]at o5
   have a3:=CR (i:=i) (h:=h5) (by omega)
   have hrun:∃ e2,coB (call AF (m+3)) e' h'=.norm e2 h5∧AB 0 e2=v∧AB 3 e2=w5∧AB 8 e2=v∧AB 9 e2=.int .i64 (ks.length:Int)∧AB 10 e2=.int .i64 ((i+1:Nat):Int):=by
    unfold coB
    simp only[sT,Nat.reduceLT,Nat.reduceEqDiff,reduceIte,AO,AN,t10,t9,c1,A8,t8,ix,Aw,Av,ld,al,Ao,st,DZ,Ah,A7,Bk,t0,k3,Bt,Br,Bool.not_false]
    rw[WV (by omega)]
    simp only[sT,Nat.reduceLT,Nat.reduceEqDiff,reduceIte,gD,t0]
    rw[ct _ _ _ _ (by simp[AH]) (by simp[AH])]
    simp only[sT,Nat.reduceLT,Nat.reduceEqDiff,reduceIte,gD,Ah,A7,Bk,k4,Bt,Br,Bool.not_false,Aw,Av,ld5,sl,BL,t3,k5,BR,a3,t10]
    exact⟨_,rfl,by simp[AH,t0,t8,t9]⟩
   obtain⟨e2,r1,r2,r3,r4,r5,r6⟩:=hrun
   exact⟨hlt,e2,h5,r1,w5,x5,o5,r2,r3,r4,r5,r6,by omega,fun h=>absurd h (Nat.succ_ne_zero i)⟩
  ·right
   have c1:=DD (show ks.length≤i by omega)
   have hrun:∃ e2,coB (call AF (m+3)) e' h'=.exit 0 e2 h'∧AB 3 e2=w:=by
    unfold coB
    simp only[sT,Nat.reduceLT,Nat.reduceEqDiff,reduceIte,AO,AN,t10,t9,c1]
    exact⟨_,rfl,by simp[AH,t3]⟩
   obtain⟨e2,r1,r2⟩:=hrun
   rw[r1]
   rw[List.take_of_length_le (by omega)]at o'
   exact⟨rfl,e2,h',w,rfl,x',o',r2,fun h=>hz (by rw[h]at hi;exact Nat.le_zero.1 hi)⟩
 obtain⟨e2,h2,w,r1,x2,o2,r2,r3⟩:=run
 refine⟨h2,w,?_,x2,o2,r3⟩
 rw[iS rfl,jV,p1,jM]
 simp only[BP,A1,r1,A5,BJ]
 unfold coE
 simp only[sT,Nat.reduceLT,Nat.reduceEqDiff,reduceIte,r2,lV0]
end
end
noncomputable section
open Go
set_option maxRecDepth 100000
structure Kc where
 a:Int
 b:Int
 c:Int
 s:Nat
 l:List Nat
 p:Nat
def Kt.core(k:Kt):Kc:=⟨k.a,k.b,k.c,k.s,k.l,k.p⟩
def lkN(T M:List Nat)(p:Nat):Option (List Nat):=match Classical.propDecidable (∃ ns,Jn T M p ns)with
 |.isTrue h=>some (Classical.choose h)
 |.isFalse _=>none
def DX(T M:List Nat)(p:Nat):Bool:=match Classical.propDecidable ((¬ ∃ ns,Jn T M p ns)∧((∃ x∈sec M (3 * p),x≠0)∨∃ ns,Kk T (sec M (3 * p)) ns∧at6 ns 4≤100))with
 |.isTrue _=>true
 |.isFalse _=>false
theorem Xj{T M:List Nat}{p:Nat}{ns:List Nat}(h:Jn T M p ns):lkN T M p=some ns:=by
 unfold lkN
 split
 ·rename_i h' _
  rw[HU (Classical.choose_spec h').1 h.1]
 ·rename_i h' _;exact absurd ⟨ns,h⟩ h'
theorem Ph{T M:List Nat}{p:Nat}(h:¬ ∃ ns,Jn T M p ns):lkN T M p=none:=by
 unfold lkN
 split
 ·rename_i h' _;exact absurd h' h
 ·rfl
theorem IZ{T M:List Nat}{p:Nat}:DX T M p=true↔((¬ ∃ ns,Jn T M p ns)∧((∃ x∈sec M (3 * p),x≠0)∨∃ ns,Kk T (sec M (3 * p)) ns∧at6 ns 4≤100)):=by
 unfold DX
 split
 ·rename_i h _;exact⟨fun _=>h,fun _=>rfl⟩
 ·rename_i h _;exact⟨fun e=>(by cases e),fun e=>absurd e h⟩
def XZ(M:List Nat)(p:Nat)(ns:List Nat):Kc:=⟨at6 ns 1,at6 ns 2,at6 ns 3,at6 ns 0,dat M p (at6 ns 4),p⟩
def kcs(T M:List Nat)(i:Nat):List Kc:=(List.range i).filterMap fun p=>(lkN T M p).map (XZ M p)
def bads(T M:List Nat)(i:Nat):List Nat:=(List.range i).filter (DX T M)
def mrk(T M:List Nat)(i:Nat):List Nat:=(List.range i).filter fun p=>(lkN T M p).isSome || DX T M p
theorem PW(T M:List Nat)(i:Nat):kcs T M (i+1)=kcs T M i++(match lkN T M i with|some ns=>[XZ M i ns]|none=>[]):=by
 unfold kcs
 rw[List.range_succ,List.filterMap_append]
 cases h:lkN T M i<;>simp[h]
theorem JC(T M:List Nat)(i:Nat):bads T M (i+1)=bads T M i++(if DX T M i=true then [i]else []):=by
 unfold bads
 rw[List.range_succ,List.filter_append]
 cases h:DX T M i<;>simp[h]
theorem Li(T M:List Nat)(i:Nat):mrk T M (i+1)=mrk T M i++(if((lkN T M i).isSome || DX T M i)=true then [i]else []):=by
 unfold mrk
 rw[List.range_succ,List.filter_append]
 cases h:((lkN T M i).isSome || DX T M i)<;>simp[h]
theorem DP(i:Nat)(f:Nat→Bool):((List.range i).filter f).length≤i:=by
 have:=List.length_filter_le f (List.range i)
 rwa [List.length_range]at this
theorem Gj(a b:List Nat):ints .i64 ((a++b).map Int.ofNat)=ints .i64 (a.map Int.ofNat)++ints .i64 (b.map Int.ofNat):=by unfold ints;rw[List.map_append,List.map_append]
theorem lR:BI ty3.zero 1=[.int .i64 0]:=by kernel_rfl
section
variable {F:CallF}{e:Env}{h g g':Hp}{T M:List Nat}{bs r9 k1 bd bm bc tb n i m c0:Nat}{v mv:Value}{ks:List Kt}{arm:Int}
theorem EF(W:h.Wf){x:O}{z:Int}(hx:x e=.int .i64 z):AZ 1 (BI ty3.zero 1) [(0,1,x)] F e h=.ok (.slice (some ⟨h.next,0,none⟩) 1 1) (h.pushRow 0 [.int .i64 z]):=by
 rw[lR];exact HT W hx rfl rfl
theorem Hp.KO.nb{k b el:Nat}{L:List Value}(o:h.KO k v ks)(r:h.Row b el L)(he:el≠84):¬ blkV v b:=fun⟨off,nn,c,e1⟩=>by
 rcases o with ⟨h1,h2⟩|⟨b',h1,h2,h3,h4⟩
 ·rw[h1]at e1;cases e1
 ·rw[h1]at e1
  injection e1 with e1 _ _
  injection e1 with e1
  injection e1 with e1 _ _
  rw[e1]at h2
  exact ES r h2 he rfl
theorem Hp.Own.nb{k b el en:Nat}{xs L:List Value}(o:h.Own k en v xs)(r:h.Row b el L)(he:el≠en+1):¬ blkV v b:=fun⟨off,nn,c,e1⟩=>by
 rcases o with ⟨h1,h2⟩|⟨b',h1,h2,h3,h4⟩
 ·rw[h1]at e1;cases e1
 ·rw[h1]at e1
  injection e1 with e1 _ _
  injection e1 with e1
  injection e1 with e1 _ _
  rw[e1]at h2
  exact ES r h2 he rfl
structure O1 (h g:Hp)(T M:List Nat)(bs r9 k1 bd tb i:Nat)(v mv:Value)(ks:List Kt):Prop where
 x:h.Ext g
 row:g.Row bs 0 (slL bd tb nilS nilS (bads T M i).length false)
 rb:g.Row r9 0 [pt bs]
 ko:g.KO k1 v ks
 cs:ks.map Kt.core=kcs T M i
 ok:∀ k∈ks,KtOk g (fun b=>r9<b) k
 ms:g.Own k1 3 mv (ints .i64 ((mrk T M i).map Int.ofNat))
 le:k1≤g.next
theorem O1.ext(o:O1 h g T M bs r9 k1 bd tb i v mv ks)(x:g.Ext g'):O1 h g' T M bs r9 k1 bd tb i v mv ks:=
 have W:=o.x.wf
 ⟨o.x.trans x,o.row.ext W x,o.rb.ext W x,o.ko.ext W x,o.cs,fun k hk=>⟨(o.ok k hk).1.ext W x,(o.ok k hk).2⟩,o.ms.ext W x,Nat.le_trans o.le x.next⟩
def Lu:C:=(AE (AC 53) (AW iLt .i64 (AB 52) (AB 51))
(AS (AB 53)
(A2 (AY 2 (AE (AC 12) (AD (AB 52))
(AE (AC 56) (AK (AB 9))
(AE (AC 58) (AM 55 [(AB 56),(AB 12)])
(AE (AC 59) (Aa 0 (AB 58))
(AE (AC 60) (Aa 1 (AB 58))
(AE (AC 61) (Aa 2 (AB 58))
(AE (AC 62) (Aa 3 (AB 58))
(AE (AC 13) (Bl 6 C5)
(cDo (Af 6 (AB 13) (AB 59))
(AE (AC 14) (AD (AB 60))
(AE (AC 15) (AD (AB 61))
(AE (AC 16) (AD (AB 62))
(A2 (AY 3 (AE (AC 65) (AW iNe .i64 (AB 16) (kV (.int .i64 0)))
(AE (AC 63) (AD (AB 65))
(AS (AB 63)
(AE (AC 6) (AD (kV (.pointer none)))
(AE (AC 7) (AD (AB 16))
Ad))
(AE (AC 67) (AD (AB 14))
(AS (AB 67)
(AE (AC 70) (Ax 6 (AB 13))
(AE (AC 71) (AZ 1 (BI De.zero 1) [(0,6,(AB 70))])
(AE (AC 72) (A9 6 64 83 (AB 10) (AB 71))
(AE (AC 10) (AD (AB 72))
AX))))
(AE (AC 73) (AD (AB 15))
(AS (AB 73)
(AE (AC 75) (AK (AB 9))
(AE (AC 76) (BM (AB 75))
(AE (AC 77) (AG 5 (AB 76))
(AE (AC 78) (AK (AB 77))
(AE (AC 79) (BZ .i64 (Ar .i64) (AB 78) (kV (.int .i64 1)))
(AE (AC 80) (BM (AB 75))
(AE (AC 81) (AG 5 (AB 80))
(cDo (Af 1 (AB 81) (AB 79))
AX))))))))
AX))))))))
(cG (AB 14) false (AC 84) (AD (AB 15))
(AE (AC 85) (Aj (AB 14) (kV (.bool true)) (AB 84))
(AS (AB 85)
(AE (AC 88) (AZ 1 (BI ty3.zero 1) [(0,1,(AB 12))])
(AE (AC 89) (A9 1 8 3 (AB 11) (AB 88))
(AE (AC 11) (AD (AB 89))
AX)))
AX)))))))))))))))))
(AE (AC 90) (BZ .i64 (Ar .i64) (AB 52) (kV (.int .i64 1)))
(AE (AC 52) (AD (AB 90))
AX)))
(BK 1)))
def oP:C:=(AE (AC 92) (AM 50 [(AB 10),(kV (.func (.func 51) #[] #[]))])
(BW (Dm (AB 9) (CW (AB 9) []
(AE (AC 93) (AK (AB 9))
(AE (AC 95) (Ac .weak (AM 59 [(AB 10)]))
(AE (AC 96) (BM (AB 93))
(AE (AC 97) (AG 3 (AB 96))
(cDo (Ac .free (Af 1 (AB 97) (AB 95)))
(AE (AC 98) (C8 (.func 60) [] [(AB 9)])
(AE (AC 17) (AD (AB 98))
(AE (AC 18) (AD (kV (.slice none 0 0)))
(AE (AC 101) (AM 57 [(AB 2)])
(AE (AC 102) (Gv .i64 (AB 8) (AB 101))
(AE (AC 103) (AD (kV (.int .i64 0)))
(A2 (AY 4 (Az (AE (AC 104) (AW iLt .i64 (AB 103) (AB 102))
(AS (AB 104)
(A2 (AY 5 (AE (AC 19) (AD (AB 103))
(AE (AC 108) (Cf (AB 17) [(AB 19)])
(AE (AC 109) (CI (AB 108))
(AS (AB 109)
(BW (AE (AC 110) (AK (AB 9))
(AE (AC 111) (AK (AB 9))
(AE (AC 112) (BM (AB 111))
(AE (AC 113) (AG 4 (AB 112))
(AE (AC 114) (AK (AB 113))
(AE (AC 116) (Ac .strong (AZ 1 (BI ty3.zero 1) [(0,1,(AB 19))]))
(CW (AB 114) [(AB 9)]
(AE (AC 117) (Hz (AB 114) (A9 1 8 3 (AB 114) (AB 116)))
(AE (AC 118) (BM (AB 110))
(AE (AC 119) (AG 4 (AB 118))
(cDo (Ac .free (Af 1 (AB 119) (AB 117)))
(AE (AC 122) (AM 63 [(AB 11),(AB 19)])
(AS (AB 122)
(AE (AC 125) (AZ 1 (BI ty3.zero 1) [(0,1,(AB 19))])
(AE (AC 126) (A9 1 8 3 (AB 18) (AB 125))
(AE (AC 18) (AD (AB 126))
AX)))
AX))))))))))))))
AX)))))
(AE (AC 127) (BZ .i64 (Ar .i64) (AB 103) (kV (.int .i64 1)))
(AE (AC 103) (AD (AB 127))
AX)))
(BK 4)))))
(AE (AC 128) (AK (AB 9))
(AE (AC 130) (AM 53 [(AB 128),(AB 18)])
(AE (AC 20) (AD (AB 130))
(AE (AC 132) (AW iNe .i64 (AB 20) (kV (.int .i64 0)))
(AS (AB 132)
(AE (AC 6) (AD (kV (.pointer none)))
(AE (AC 7) (AD (AB 20))
Ad))
(AE (AC 134) (AK (AB 9))
(AE (AC 6) (AD (AB 134))
(AE (AC 7) (AD (kV (.int .i64 0)))
Ad))))))))))))))))))))))))
theorem cz:kT=A2 (AY 1 (Az Lu)) oP:=rfl
theorem jO:d16=aC:=rfl
theorem kA(o:O1 h g T M bs r9 k1 bd tb i v mv ks):ks.length≤i:=by
 have h1:=congrArg List.length o.cs
 rw[List.length_map]at h1
 rw[h1]
 unfold kcs
 have:=List.length_filterMap_le (fun p=>(lkN T M p).map (XZ M p)) (List.range i)
 rwa [List.length_range]at this
theorem YP(W:h.Wf)(d:Dk h bd bm bc n M c0 [] arm false)(Rt:h.Row tb 0 (T.map wv))(hT:TblOk T)(o:O1 h g T M bs r9 k1 bd tb i v mv ks)(hbs:h.next≤bs∧bs<r9∧r9<k1)(hi:i<n / 3)
  (t8:AB 9 e=pt r9)(t10:AB 10 e=v)(t11:AB 11 e=mv)(t51:AB 51 e=.int .i64 ((n / 3:Nat):Int))(t52:AB 52 e=.int .i64 (i:Int)):
  ∃ e' g' v' mv' ks',Lu (call AF (m+6)) e g=.norm e' g'∧O1 h g' T M bs r9 k1 bd tb (i+1) v' mv' ks'∧AB 10 e'=v'∧AB 11 e'=mv'∧AB 52 e'=.int .i64 ((i+1:Nat):Int)∧∀ j,j=0∨j=1∨j=2∨j=8∨j=9∨j=51→AB j e'=AB j e:=by
 have hn:=d.n1
 have W1:=o.x.wf
 have hhk:h.next≤k1:=by omega
 have c1:iLt (i:Int) ((n / 3:Nat):Int)=true:=Eo hi
 have l9:=Cw o.rb
 obtain⟨h1,x1,LK⟩:=bQ (m:=m+1) W1 o.row (Rt.ext W o.x) hT (d.ext W o.x) (p:=i) (by omega)
 have al:=fun (F:CallF) (e:Env)=>B7 (F:=F) (e:=e) x1.wf (n:=6) (t:=C5)
 have Ra:=Hp.Row.alloc x1.wf GO (show(Ab K0).length=6 from rfl)
 have y2:h1.Ext (h1.push (.cells C5 6 0)):=(Hp.Ext.refl x1.wf).push _
 have n2:(h1.push (.cells C5 6 0)).next=h1.next+1:=rfl
 generalize h1.push (.cells C5 6 0)=h2 at al Ra y2 n2
 have c0':iNe 0 0=false:=CT rfl
 have hx1:=x1.next
 rcases LK with ⟨ns,u,hH,hk,hu⟩|⟨hH,bad,hk,hbad⟩
 ·
  have hN:=Xj hH
  have hnum:=QH hH.1
  have hB:DX T M i=false:=by
   cases hb:DX T M i
   ·rfl
   ·exact absurd ⟨ns,hH⟩ (IZ.1 hb).1
  have u1:=hu.vs.one
  obtain⟨st,_,y3,R3,n3⟩:=L8 x1.wf y2 (Nat.le_refl _) Ra rfl (k:=⟨at6 ns 1,at6 ns 2,at6 ns 3,at6 ns 0,dat M i (at6 ns 4),i,u⟩) u1.2.1
  generalize hX:(⟨at6 ns 1,at6 ns 2,at6 ns 3,at6 ns 0,dat M i (at6 ns 4),i,u⟩:Kt)=X at hk st y3 R3 n3
  generalize h2.wr h1.next 0 (Ab X)=h3 at st y3 R3 n3
  have o3:=o.ext (x1.trans y3)
  have hXu:X.u=u:=by rw[← hX]
  obtain⟨_,_,_,_,_,_,ld,_⟩:=Bx R3
  have sl:=fun (F:CallF) (e:Env) (he:AB 70 e=ktV X)=>La (F:=F) o3.x.wf he
  obtain⟨h5,v5,k5,x5,q5,n5,f5⟩:=RZ o3.x hhk o3.le o3.ko (x:=X) (by rw[hXu];exact u1.2.1) (by have:=kA o;omega)
  have f5':∀ b el L,el≠84→h3.Row b el L→h5.Row b el L:=fun b el L he r=>f5 b el L (o3.ko.nb r he) r
  have hlen:(dat M i (at6 ns 4)).length=at6 ns 4:=IK d.len (by have:=hH.2.1;omega)
  have okX:KtOk h5 (fun b=>r9<b) X:=by
   rw[← hX]
   refine⟨((hu.ext x1.wf y3).mono fun b hb=>by have hb:g.next≤b:=hb;have:=o.le;omega).keep fun b el L hb he r=>f5' b el L (by omega) r,W9 d.byt _ _,by rw[hlen];exact hH.2.1,?_,?_,by show i<65536;omega⟩
   ·obtain⟨_,_,_,h4⟩:=hnum
    unfold B4 at h4
    have:=of_decide_eq_true h4
    exact this.2.2.2.2.2.2.1
   ·obtain⟨_,_,_,h4⟩:=hnum
    unfold B4 at h4 ⊢
    have:=of_decide_eq_true h4
    refine decide_eq_true ⟨this.1,this.2.1,this.2.2.1,this.2.2.2.1,this.2.2.2.2.1,this.2.2.2.2.2.1,this.2.2.2.2.2.2.1,?_⟩
    show(dat M i (at6 ns 4)).length≤65536
    rw[hlen];have:=hH.2.1;omega
  have o5:O1 h h5 T M bs r9 k1 bd tb i v5 mv (ks++[X])→True:=fun _=>trivial
  have mk5:h5.Own k1 3 mv (ints .i64 ((mrk T M i).map Int.ofNat)):=by
   rcases o3.ms with h1'|⟨b,h1',h2',h3',h4'⟩
   ·exact .inl h1'
   ·exact .inr ⟨b,h1',f5' b _ _ (by omega) h2',h3',h4'⟩
  obtain⟨h6,mv6,k6,x6,m6,n6,f6⟩:∃ g' mv',DF 1 8 3 mv (.slice (some ⟨h5.next,0,none⟩) 1 1) (h5.pushRow 0 [.int .i64 (i:Int)])=.ok mv' g'∧h.Ext g'∧g'.Own k1 3 mv' (ints .i64 ((mrk T M i++[i]).map Int.ofNat))∧h5.next≤g'.next∧(∀ b el L,el≠4→h5.Row b el L→g'.Row b el L):=by
   obtain⟨g',mv',a1,a2,a3,a4,a5⟩:=Im (eb:=8) (en:=3) (kd:=.i64) (n:=(i:Int)) x5 hhk (by have:=o3.le;omega) mk5 (by
    have:=DP i (fun p=>(lkN T M p).isSome || DX T M p)
    have:(mrk T M i).length≤i:=this
    have:(ints .i64 ((mrk T M i).map Int.ofNat)).length≤i:=by unfold ints;rw[List.length_map,List.length_map];exact this
    omega)
   exact⟨g',mv',a1,a2,by rw[Gj];exact a3,by omega,fun b el L he r=>(a5 b el L (mk5.nb r he) r).1⟩
  have f56:∀ b el L,el≠84→el≠4→h3.Row b el L→h6.Row b el L:=fun b el L h1 h2 r=>f6 b el L h2 (f5' b el L h1 r)
  have is:=fun (F:CallF) (e:Env) (he:AB 12 e=.int .i64 (i:Int))=>EF (F:=F) x5.wf he
  have a3:=CR (i:=i) (h:=h6) (by omega)
  have hrun:∃ e2,Lu (call AF (m+6)) e g=.norm e2 h6∧AB 10 e2=v5∧AB 11 e2=mv6∧AB 52 e2=.int .i64 ((i+1:Nat):Int)∧∀ j,j=0∨j=1∨j=2∨j=8∨j=9∨j=51→AB j e2=AB j e:=by
   unfold Lu
   simp only[sT,Nat.reduceLT,Nat.reduceEqDiff,reduceIte,gD,AO,AN,t52,t51,c1,AP,AU,t8,l9,cA0,hk,BV,Bj,Bo,C1,F7,al,Ao,st,c0',Aw,Av,ld,sl,BL,t10,k5,is,t11,k6,BR,a3]
   refine⟨_,rfl,by simp[AH],by simp[AH],by simp[AH],fun j hj=>?_⟩
   rcases hj with rfl|rfl|rfl|rfl|rfl|rfl<;>simp only[AH,Nat.reduceLT,Nat.reduceEqDiff,reduceIte]
  obtain⟨e2,r1,r2,r3,r4,r5⟩:=hrun
  refine⟨e2,h6,v5,mv6,ks++[X],r1,⟨x6,?_,f56 _ _ _ (by omega) (by omega) o3.rb,q5.keep fun b el L hb r=>?_,?_,fun k hk=>?_,?_,by have:=o3.le;omega⟩,r2,r3,r4,r5⟩
  ·rw[JC,hB,if_neg (by decide),List.append_nil]
   exact f56 _ _ _ (by omega) (by omega) o3.row
  ·obtain⟨off,nn,c,e1⟩:=hb
   rcases q5 with ⟨e2,_⟩|⟨b',e2,r',_⟩
   ·rw[e2]at e1;cases e1
   ·rw[e2]at e1
    injection e1 with e1 _ _
    injection e1 with e1
    injection e1 with e1 _ _
    rw[← e1]at r ⊢
    refine f6 _ _ _ ?_ r
    intro h4
    rw[h4]at r
    exact ES r r' (by omega) rfl
  ·rw[List.map_append,o.cs,PW,hN,← hX];rfl
  ·rcases List.mem_append.1 hk with hk|hk
   ·exact⟨((o3.ok k hk).1.keep fun b el L hb he r=>f56 b el L (by omega) (by omega) r),(o3.ok k hk).2⟩
   ·rw[List.mem_singleton.1 hk]
    exact⟨okX.1.keep fun b el L hb he r=>f6 b el L (by omega) r,okX.2⟩
  ·rw[Li,hN,if_pos (by rfl)];exact m6
 ·
  have hN:=Ph hH
  obtain⟨st,_,y3,R3,n3⟩:=L8 x1.wf y2 (Nat.le_refl _) Ra rfl (k:=K0) rfl
  generalize h2.wr h1.next 0 (Ab K0)=h3 at st y3 R3 n3
  have o3:=o.ext (x1.trans y3)
  have hcs:ks.map Kt.core=kcs T M (i+1):=by rw[PW,hN,List.append_nil];exact o.cs
  cases hbd:bad with
  |false=>
   rw[hbd]at hk hbad
   have hB:DX T M i=false:=by
    cases hb:DX T M i
    ·rfl
    ·have:=hbad.2 (IZ.1 hb).2;cases this
   have a3:=CR (i:=i) (h:=h3) (by omega)
   have hrun:∃ e2,Lu (call AF (m+6)) e g=.norm e2 h3∧AB 10 e2=v∧AB 11 e2=mv∧AB 52 e2=.int .i64 ((i+1:Nat):Int)∧∀ j,j=0∨j=1∨j=2∨j=8∨j=9∨j=51→AB j e2=AB j e:=by
    unfold Lu
    simp only[sT,Nat.reduceLT,Nat.reduceEqDiff,reduceIte,gD,AO,AN,t52,t51,c1,AP,AU,t8,l9,cA0,hk,BV,Bj,Bo,C1,F7,al,Ao,st,c0',BR,a3]
    refine⟨_,rfl,by simp[AH,t10],by simp[AH,t11],by simp[AH],fun j hj=>?_⟩
    rcases hj with rfl|rfl|rfl|rfl|rfl|rfl<;>simp only[AH,Nat.reduceLT,Nat.reduceEqDiff,reduceIte]
   obtain⟨e2,r1,r2,r3,r4,r5⟩:=hrun
   refine⟨e2,h3,v,mv,ks,r1,⟨o3.x,?_,o3.rb,o3.ko,hcs,o3.ok,?_,o3.le⟩,r2,r3,r4,r5⟩
   ·rw[JC,hB,if_neg (by decide),List.append_nil];exact o3.row
   ·rw[Li,hN,hB,if_neg (by decide),List.append_nil];exact o3.ms
  |true=>
   rw[hbd]at hk hbad
   have hB:DX T M i=true:=IZ.2 ⟨hH,hbad.1 rfl⟩
   have h256:256≤bs:=by have:=W.big;omega
   obtain⟨_,_,_,_,_,l5,_⟩:=BC o3.row
   have hbl:(bads T M i).length≤i:=DP i _
   have ad:FD .i64 (.int .i64 ((bads T M i).length:Int)) (.int .i64 1) h3=.ok (.int .i64 (((bads T M i).length+1:Nat):Int)) h3:=CR (by omega)
   have st5:storeR 1 (.pointer (some ⟨bs,5,none⟩)) (.int .i64 (((bads T M i).length+1:Nat):Int)) h3=.ok noRes (h3.wr bs 5 [.int .i64 (((bads T M i).length+1:Nat):Int)]):=o3.row.storeR (n:=1) (off:=5) o3.x.wf h256 (v:=.int .i64 (((bads T M i).length+1:Nat):Int)) rfl (by show 5+1≤7;omega) rfl
   have ho5:5+[Value.int .i64 (((bads T M i).length+1:Nat):Int)].length≤(slL bd tb nilS nilS (bads T M i).length false).length:=by show 5+1≤7;omega
   have R5:=o3.row.wr_self o3.x.wf ho5
   have x5:=o3.row.wr_ext o3.x hbs.1 ho5
   have n5:=o3.row.wr_next ho5
   have f5:∀ b el L,b≠bs→h3.Row b el L→(h3.wr bs 5 [.int .i64 (((bads T M i).length+1:Nat):Int)]).Row b el L:=fun b el L hb r=>o3.row.wr_other o3.x.wf ho5 r hb
   have hov:over (slL bd tb nilS nilS (bads T M i).length false) 5 [.int .i64 (((bads T M i).length+1:Nat):Int)]=slL bd tb nilS nilS ((bads T M i).length+1) false:=rfl
   rw[hov]at R5
   generalize h3.wr bs 5 [.int .i64 (((bads T M i).length+1:Nat):Int)]=h5 at st5 R5 x5 n5 f5
   have mk5:h5.Own k1 3 mv (ints .i64 ((mrk T M i).map Int.ofNat)):=by
    rcases o3.ms with h1'|⟨b,h1',h2',h3',h4'⟩
    ·exact .inl h1'
    ·exact .inr ⟨b,h1',f5 b _ _ (by omega) h2',h3',h4'⟩
   obtain⟨h6,mv6,k6,x6,m6,n6,f6⟩:∃ g' mv',DF 1 8 3 mv (.slice (some ⟨h5.next,0,none⟩) 1 1) (h5.pushRow 0 [.int .i64 (i:Int)])=.ok mv' g'∧h.Ext g'∧g'.Own k1 3 mv' (ints .i64 ((mrk T M i++[i]).map Int.ofNat))∧h5.next≤g'.next∧(∀ b el L,el≠4→h5.Row b el L→g'.Row b el L):=by
    obtain⟨g',mv',a1,a2,a3,a4,a5⟩:=Im (eb:=8) (en:=3) (kd:=.i64) (n:=(i:Int)) x5 hhk (by have:=o3.le;omega) mk5 (by
     have:=DP i (fun p=>(lkN T M p).isSome || DX T M p)
     have:(mrk T M i).length≤i:=this
     have:(ints .i64 ((mrk T M i).map Int.ofNat)).length≤i:=by unfold ints;rw[List.length_map,List.length_map];exact this
     omega)
    exact⟨g',mv',a1,a2,by rw[Gj];exact a3,by omega,fun b el L he r=>(a5 b el L (mk5.nb r he) r).1⟩
   have f56:∀ b el L,b≠bs→el≠4→h3.Row b el L→h6.Row b el L:=fun b el L h1 h2 r=>f6 b el L h2 (f5 b el L h1 r)
   have is:=fun (F:CallF) (e:Env) (he:AB 12 e=.int .i64 (i:Int))=>EF (F:=F) x5.wf he
   have a3:=CR (i:=i) (h:=h6) (by omega)
   have l9':=Cw o3.rb
   have hrun:∃ e2,Lu (call AF (m+6)) e g=.norm e2 h6∧AB 10 e2=v∧AB 11 e2=mv6∧AB 52 e2=.int .i64 ((i+1:Nat):Int)∧∀ j,j=0∨j=1∨j=2∨j=8∨j=9∨j=51→AB j e2=AB j e:=by
    unfold Lu
    simp only[sT,Nat.reduceLT,Nat.reduceEqDiff,reduceIte,gD,AO,AN,t52,t51,c1,AP,AU,t8,l9,l9',cA0,hk,BV,Bj,Bo,C1,F7,al,Ao,st,c0',Ay,Aq,AJ,AQ,Nat.zero_add,l5,BR,ad,st5,is,BL,t11,k6,a3]
    refine⟨_,rfl,by simp[AH,t10],by simp[AH],by simp[AH],fun j hj=>?_⟩
    rcases hj with rfl|rfl|rfl|rfl|rfl|rfl<;>simp only[AH,Nat.reduceLT,Nat.reduceEqDiff,reduceIte]
   obtain⟨e2,r1,r2,r3,r4,r5⟩:=hrun
   refine⟨e2,h6,v,mv6,ks,r1,⟨x6,?_,f56 _ _ _ (by omega) (by omega) o3.rb,?_,hcs,fun k hk=>⟨((o3.ok k hk).1.keep fun b el L hb he r=>f56 b el L (by have hb:r9<b:=hb;omega) (by omega) r),(o3.ok k hk).2⟩,?_,by have:=o3.le;omega⟩,r2,r3,r4,r5⟩
   ·rw[JC,hB,if_pos rfl,List.length_append]
    exact f6 _ _ _ (by omega) R5
   ·rcases o3.ko with h1'|⟨b,h1',h2',h3',h4'⟩
    ·exact .inl h1'
    ·exact .inr ⟨b,h1',f56 b _ _ (by omega) (by omega) h2',h3',h4'⟩
   ·rw[Li,hN,hB,if_pos (show((none:Option (List Nat)).isSome || true)=true from rfl)];exact m6
end
end
noncomputable section
open Go
set_option maxRecDepth 100000
section
variable {F:CallF}{e:Env}{h g g' h0:Hp}{bs r9 k1 bd tb n i m bad k:Nat}{v mv lv fv:Value}{ks:List Kt}{S:Nat→Prop}{ov:Bool}
theorem RM(W:g.Wf){L:List Value}(R:g.Row bs 0 L){off:Nat}(ho:off<L.length)(h256:256≤bs)(h1:cellsOf v=[v])(h2:A0 v=true):
  ∃ g',(∀ (F:CallF) (e:Env) (x y:O),x e=.pointer (some ⟨bs,off,none⟩)→y e=v→Ac .free (Af 1 x y) F e g=.ok noRes g')∧g'.Row bs 0 (over L off [v])∧g'.next=g.next∧g'.mark=g.mark∧Fx (fun b=>b=bs) g g'∧∀ h0:Hp,h0.Ext g→h0.next≤bs→h0.Ext g':=by
 have Rq:g.quiet.Row bs 0 L:=R.same rfl
 have hoo:off+[v].length≤L.length:=ho
 have ha:Bh [v]=true:=by
  show(bif A0 v then true else false)=true
  rw[h2];rfl
 have st:=Rq.storeR (n:=1) (off:=off) (v:=v) W.quiet h256 (by rw[h1];rfl) (by rw[h1];exact hoo) (by rw[h1];exact ha)
 rw[h1]at st
 have wr:=Rq.wr_self W.quiet hoo
 have fx:=Fx.wr (S:=fun b=>b=bs) W.quiet Rq hoo rfl
 have wx:=fun (h0:Hp) (x:h0.Ext g.quiet) (hb:h0.next≤bs)=>Rq.wr_ext x hb hoo
 have wn:=Rq.wr_next hoo
 generalize g.quiet.wr bs off [v]=q at st wr fx wx wn
 refine⟨g.back q,fun F e x y hx hy=>Bb (by rw[Ao,hx,hy];exact st),wr.same rfl,wn,rfl,(fx.from (h:=g) rfl rfl).same rfl rfl,fun h0 x hb=>x.back2 (wx h0 x.quiet hb)⟩
theorem F8(W:g.Wf){L:List Value}(R:g.Row bs 0 L){off:Nat}(ho:off<L.length)(h256:256≤bs)(h1:cellsOf v=[v])(h2:A0 v=true):
  ∃ g',storeR 1 (.pointer (some ⟨bs,off,none⟩)) v g=.ok noRes g'∧g'.Row bs 0 (over L off [v])∧g'.next=g.next∧Fx (fun b=>b=bs) g g'∧∀ h0:Hp,h0.Ext g→h0.next≤bs→h0.Ext g':=by
 have hoo:off+[v].length≤L.length:=ho
 have ha:Bh [v]=true:=by
  show(bif A0 v then true else false)=true
  rw[h2];rfl
 have st:=R.storeR (n:=1) (off:=off) (v:=v) W h256 (by rw[h1];rfl) (by rw[h1];exact hoo) (by rw[h1];exact ha)
 rw[h1]at st
 exact⟨_,st,R.wr_self W hoo,R.wr_next hoo,Fx.wr (S:=fun b=>b=bs) W R hoo rfl,fun h0 x hb=>R.wr_ext x hb hoo⟩
theorem dH(x0:h0.Ext h)(hk:h0.next≤k)(hk2:k≤h.next){xs:List Value}(o:h.Own k 3 v xs){bw:Nat}{z:Int}(Rw:h.Row bw 0 [.int .i64 z])(hl:xs.length≤1000000):
  ∃ h' v',(∀ (F:CallF) (e:Env) (x y:O),x e=v→y e=.slice (some ⟨bw,0,none⟩) 1 1→Hz x (A9 1 8 3 x y) F e h=.ok v' h')∧h0.Ext h'∧h'.Own k 3 v' (xs++[.int .i64 z])∧h.next<h'.next∧h'.mark=h.mark∧(∀ b el L,¬ blkV v b→h.Row b el L→h'.Row b el L)∧(∀ b,blkV v' b→b=h.next):=by
 have W:=x0.wf
 have cl:h.quiet.Cl (blkV v) 3 v xs:=by
  rcases o with ⟨h1,h2⟩|⟨b,h1,h2,h3,h4⟩
  ·exact .inl ⟨h1,h2⟩
  ·exact .inr ⟨b,4,h1,h2.same rfl,.inl rfl,⟨0,_,_,h1⟩,h4⟩
 have kb:∀ b,blkV v b→h0.next≤b:=fun b hb=>by
  obtain⟨off,n,c,e1⟩:=hb
  rcases o with ⟨h1,h2⟩|⟨b',h1,h2,h3,h4⟩
  ·rw[h1]at e1;cases e1
  ·rw[h1]at e1
   injection e1 with e1 _ _
   injection e1 with e1
   injection e1 with e1 _ _
   omega
 obtain⟨h5,b5,a1,a2,a3,a4,a5,a6,a7,a8,a9⟩:=Wj (eb:=8) (en:=3) x0.quiet cl kb (Rw.same (h':=h.quiet) rfl) rfl hl (by omega)
 have a4:b5=h.next:=a4
 have a5:h5.next=h.next+1:=a5
 have h256:=W.big
 refine⟨h.back h5,.slice (some ⟨b5,0,none⟩) (xs.length+1) (xs.length+1),fun F e x y hx hy=>Si hx hy a1 (a9 rfl rfl h rfl),x0.back2 a2,.inr ⟨b5,by rw[List.length_append];rfl,a3.same rfl,by omega,by omega⟩,by show h.next<h5.next;omega,rfl,fun b el L hb r=>(a7 b el L hb (r.same rfl)).same rfl,fun b ⟨off,nn,c,e1⟩=>?_⟩
 injection e1 with e1 _ _
 injection e1 with e1
 injection e1 with e1 _ _
 omega
theorem jf(W:h.Wf){rp:Nat}{p:Nat}(Rp:h.Row rp 0 [.int .i64 (p:Int)])(x:Kt):∃ h',call AF (m+1) 62 [ktV x,pt rp] h=.ok (.bool (decide (x.p=p))) h'∧h.Ext h':=by
 have bx:=fun (F:CallF) (e:Env) (he:AB 0 e=ktV x)=>Gp (F:=F) W he
 have x1:=(Hp.Ext.refl W).pushRow 0 (Ab x)
 have R:=Hp.Row.new W 0 (Ab x)
 generalize h.pushRow 0 (Ab x)=h1 at bx x1 R
 obtain⟨_,_,_,_,_,l5,_⟩:=Bx R
 have lp:=Cw (Rp.ext W x1)
 have c1:iEq (x.p:Int) (p:Int)=decide (x.p=p):=by
  by_cases h3:x.p=p
  ·rw[decide_eq_true h3];exact CM (by omega)
  ·rw[decide_eq_false h3];exact Bd (by omega)
 refine⟨h1,?_,x1⟩
 rw[iV rfl]
 unfold d62
 simp only[iN,Nat.reduceAdd,sT,Nat.reduceLT,Nat.reduceEqDiff,reduceIte,bx,AJ,AQ,Nat.zero_add,AP,AU,l5,lp,AO,AN,c1,lV0]
theorem Uh(W:h.Wf)(R:h.Row bs 0 (slL bd tb lv fv bad ov))(Rb:h.Row r9 0 [pt bs])(K:h.KS S lv ks)(hl:ks.length≤100000){p:Nat}:
  ∃ h',call AF (m+4) 60 [.int .i64 (p:Int),pt r9] h=.ok (.bool (ks.any fun x=>decide (x.p=p))) h'∧h.Ext h':=by
 have b1:=fun (F:CallF) (e:Env) (he:AB 0 e=.int .i64 (p:Int))=>HJ (F:=F) W he
 have x1:=(Hp.Ext.refl W).pushRow 0 [.int .i64 (p:Int)]
 have R1:=Hp.Row.new W 0 [.int .i64 (p:Int)]
 generalize h.pushRow 0 [.int .i64 (p:Int)]=h1 at b1 x1 R1
 have lb:=Cw (Rb.ext W x1)
 obtain⟨_,_,_,l3,_⟩:=BC (R.ext W x1)
 obtain⟨h2,k2,x2⟩:=N1 (m:=m+1) (g:=62) (caps:=[pt h.next]) (P:=fun x=>decide (x.p=p)) x1.wf (K.ext W x1) hl fun g xg y hy=>jf (m:=m) xg.wf (R1.ext x1.wf xg) y
 refine⟨h2,?_,x1.trans x2⟩
 rw[iT rfl]
 unfold d60
 simp only[iN,Nat.reduceAdd,sT,Nat.reduceLT,Nat.reduceEqDiff,reduceIte,b1,AP,AU,lb,Ay,Aq,AJ,AQ,Nat.zero_add,l3,DZ,Ah,A7,Bk,k2,lV0]
def Lv:C:=(AE (AC 104) (AW iLt .i64 (AB 103) (AB 102))
(AS (AB 104)
(A2 (AY 5 (AE (AC 19) (AD (AB 103))
(AE (AC 108) (Cf (AB 17) [(AB 19)])
(AE (AC 109) (CI (AB 108))
(AS (AB 109)
(BW (AE (AC 110) (AK (AB 9))
(AE (AC 111) (AK (AB 9))
(AE (AC 112) (BM (AB 111))
(AE (AC 113) (AG 4 (AB 112))
(AE (AC 114) (AK (AB 113))
(AE (AC 116) (Ac .strong (AZ 1 (BI ty3.zero 1) [(0,1,(AB 19))]))
(CW (AB 114) [(AB 9)]
(AE (AC 117) (Hz (AB 114) (A9 1 8 3 (AB 114) (AB 116)))
(AE (AC 118) (BM (AB 110))
(AE (AC 119) (AG 4 (AB 118))
(cDo (Ac .free (Af 1 (AB 119) (AB 117)))
(AE (AC 122) (AM 63 [(AB 11),(AB 19)])
(AS (AB 122)
(AE (AC 125) (AZ 1 (BI ty3.zero 1) [(0,1,(AB 19))])
(AE (AC 126) (A9 1 8 3 (AB 18) (AB 125))
(AE (AC 18) (AD (AB 126))
AX)))
AX))))))))))))))
AX)))))
(AE (AC 127) (BZ .i64 (Ar .i64) (AB 103) (kV (.int .i64 1)))
(AE (AC 103) (AD (AB 127))
AX)))
(BK 4)))
def oQ:C:=(AE (AC 128) (AK (AB 9))
(AE (AC 130) (AM 53 [(AB 128),(AB 18)])
(AE (AC 20) (AD (AB 130))
(AE (AC 132) (AW iNe .i64 (AB 20) (kV (.int .i64 0)))
(AS (AB 132)
(AE (AC 6) (AD (kV (.pointer none)))
(AE (AC 7) (AD (AB 20))
Ad))
(AE (AC 134) (AK (AB 9))
(AE (AC 6) (AD (AB 134))
(AE (AC 7) (AD (kV (.int .i64 0)))
Ad))))))))
def kU:C:=(A2 (AY 4 (Az (AE (AC 104) (AW iLt .i64 (AB 103) (AB 102))
(AS (AB 104)
(A2 (AY 5 (AE (AC 19) (AD (AB 103))
(AE (AC 108) (Cf (AB 17) [(AB 19)])
(AE (AC 109) (CI (AB 108))
(AS (AB 109)
(BW (AE (AC 110) (AK (AB 9))
(AE (AC 111) (AK (AB 9))
(AE (AC 112) (BM (AB 111))
(AE (AC 113) (AG 4 (AB 112))
(AE (AC 114) (AK (AB 113))
(AE (AC 116) (Ac .strong (AZ 1 (BI ty3.zero 1) [(0,1,(AB 19))]))
(CW (AB 114) [(AB 9)]
(AE (AC 117) (Hz (AB 114) (A9 1 8 3 (AB 114) (AB 116)))
(AE (AC 118) (BM (AB 110))
(AE (AC 119) (AG 4 (AB 118))
(cDo (Ac .free (Af 1 (AB 119) (AB 117)))
(AE (AC 122) (AM 63 [(AB 11),(AB 19)])
(AS (AB 122)
(AE (AC 125) (AZ 1 (BI ty3.zero 1) [(0,1,(AB 19))])
(AE (AC 126) (A9 1 8 3 (AB 18) (AB 125))
(AE (AC 18) (AD (AB 126))
AX)))
AX))))))))))))))
AX)))))
(AE (AC 127) (BZ .i64 (Ar .i64) (AB 103) (kV (.int .i64 1)))
(AE (AC 103) (AD (AB 127))
AX)))
(BK 4)))))
(AE (AC 128) (AK (AB 9))
(AE (AC 130) (AM 53 [(AB 128),(AB 18)])
(AE (AC 20) (AD (AB 130))
(AE (AC 132) (AW iNe .i64 (AB 20) (kV (.int .i64 0)))
(AS (AB 132)
(AE (AC 6) (AD (kV (.pointer none)))
(AE (AC 7) (AD (AB 20))
Ad))
(AE (AC 134) (AK (AB 9))
(AE (AC 6) (AD (AB 134))
(AE (AC 7) (AD (kV (.int .i64 0)))
Ad)))))))))
theorem dA:kU=A2 (AY 4 (Az Lv)) oQ:=rfl
def YR:C:=(AE (AC 92) (AM 50 [(AB 10),(kV (.func (.func 51) #[] #[]))])
(BW (Dm (AB 9) (CW (AB 9) []
(AE (AC 93) (AK (AB 9))
(AE (AC 95) (Ac .weak (AM 59 [(AB 10)]))
(AE (AC 96) (BM (AB 93))
(AE (AC 97) (AG 3 (AB 96))
(cDo (Ac .free (Af 1 (AB 97) (AB 95)))
(AE (AC 98) (C8 (.func 60) [] [(AB 9)])
(AE (AC 17) (AD (AB 98))
(AE (AC 18) (AD (kV (.slice none 0 0)))
(AE (AC 101) (AM 57 [(AB 2)])
(AE (AC 102) (Gv .i64 (AB 8) (AB 101))
(AE (AC 103) (AD (kV (.int .i64 0)))
kU)))))))))))))))
theorem cy:oP=YR:=rfl
def freeL(ks:List Kt)(i:Nat):List Nat:=(List.range i).filter fun p=> !(ks.any fun x=>decide (x.p=p))
def outL(ks:List Kt)(mk:List Nat)(i:Nat):List Nat:=(List.range i).filter fun p=> !(ks.any fun x=>decide (x.p=p)) && decide (p∈mk)
theorem Ht(ks:List Kt)(i:Nat):freeL ks (i+1)=freeL ks i++(if(ks.any fun x=>decide (x.p=i))=true then []else [i]):=by
 unfold freeL
 rw[List.range_succ,List.filter_append]
 cases h:(ks.any fun x=>decide (x.p=i))<;>simp[h]
theorem Jg(ks:List Kt)(mk:List Nat)(i:Nat):outL ks mk (i+1)=outL ks mk i++(if(ks.any fun x=>decide (x.p=i))=true then []else if i∈mk then [i]else []):=by
 unfold outL
 rw[List.range_succ,List.filter_append]
 cases h:(ks.any fun x=>decide (x.p=i))<;>by_cases h2:i∈mk<;>simp[h,h2]
structure O2 (h g:Hp)(mk:List Nat)(bs r9 k1 bd tb i bad:Nat)(w mv fv ou:Value)(ks:List Kt):Prop where
 x:h.Ext g
 row:g.Row bs 0 (slL bd tb w fv bad false)
 rb:g.Row r9 0 [pt bs]
 ko:g.KO k1 w ks
 ok:∀ k∈ks,KtOk g (fun b=>r9<b) k
 fs:g.Own k1 3 fv (ints .i64 ((freeL ks i).map Int.ofNat))
 os:g.Own k1 3 ou (ints .i64 ((outL ks mk i).map Int.ofNat))
 ms:g.Own k1 3 mv (ints .i64 (mk.map Int.ofNat))
 ap:∀ b,(blkV fv b→¬ blkV ou b∧¬ blkV mv b)∧(blkV ou b→¬ blkV mv b)
 le:k1≤g.next
theorem O2.ext{mk:List Nat}{w ou:Value}(o:O2 h g mk bs r9 k1 bd tb i bad w mv fv ou ks)(x:g.Ext g'):O2 h g' mk bs r9 k1 bd tb i bad w mv fv ou ks:=
 have W:=o.x.wf
 ⟨o.x.trans x,o.row.ext W x,o.rb.ext W x,o.ko.ext W x,fun k hk=>⟨(o.ok k hk).1.ext W x,(o.ok k hk).2⟩,o.fs.ext W x,o.os.ext W x,o.ms.ext W x,o.ap,Nat.le_trans o.le x.next⟩
theorem Hp.Own.lt'{en:Nat}{xs:List Value}(o:h.Own k en v xs)(W:h.Wf){b:Nat}(hb:blkV v b):b<h.next:=by
 obtain⟨off,n,c,e1⟩:=hb
 rcases o with ⟨h1,h2⟩|⟨b',h1,h2,h3,h4⟩
 ·rw[h1]at e1;cases e1
 ·have:=h2.lt W
  rw[h1]at e1
  injection e1 with e1 _ _
  injection e1 with e1
  injection e1 with e1 _ _
  omega
theorem Hp.Own.rw_{en:Nat}{xs:List Value}(o:h.Own k en v xs){b:Nat}(hb:blkV v b):h.Row b (en+1) xs:=by
 obtain⟨off,n,c,e1⟩:=hb
 rcases o with ⟨h1,h2⟩|⟨b',h1,h2,h3,h4⟩
 ·rw[h1]at e1;cases e1
 ·rw[h1]at e1
  injection e1 with e1 _ _
  injection e1 with e1
  injection e1 with e1 _ _
  rw[← e1];exact h2
theorem YQ{mk:List Nat}{w ou:Value}(W:h.Wf)(o:O2 h g mk bs r9 k1 bd tb i bad w mv fv ou ks)(hbs:h.next≤bs∧bs<r9∧r9<k1){nn:Nat}(hi:i<nn)(hnn:nn≤30000)(hks:ks.length≤30000)(hmk:mk.length≤30000)
  (t9:AB 9 e=pt r9)(t11:AB 11 e=mv)(t17:AB 17 e=.func (.func 60) ⟨[]⟩ ⟨[pt r9]⟩)(t18:AB 18 e=ou)(Qq:AB 102 e=.int .i64 (nn:Int))(OX:AB 103 e=.int .i64 (i:Int)):
  ∃ e' g' fv' ou',Lv (call AF (m+6)) e g=.norm e' g'∧O2 h g' mk bs r9 k1 bd tb (i+1) bad w mv fv' ou' ks∧AB 18 e'=ou'∧AB 103 e'=.int .i64 ((i+1:Nat):Int)∧∀ j,j=0∨j=1∨j=2∨j=9∨j=11∨j=17∨j=102→AB j e'=AB j e:=by
 have W1:=o.x.wf
 have hhk:h.next≤k1:=by omega
 have h256:256≤bs:=by have:=W.big;omega
 have c1:iLt (i:Int) (nn:Int)=true:=Eo hi
 obtain⟨h1,k1c,x1⟩:=Uh (m:=m+2) W1 o.row o.rb o.ko.lst (by omega) (p:=i)
 have o1:=o.ext x1
 cases hc:(ks.any fun x=>decide (x.p=i))with
 |true=>
  rw[hc]at k1c
  have a3:=CR (i:=i) (h:=h1) (by omega)
  have hrun:∃ e2,Lv (call AF (m+6)) e g=.norm e2 h1∧AB 18 e2=ou∧AB 103 e2=.int .i64 ((i+1:Nat):Int)∧∀ j,j=0∨j=1∨j=2∨j=9∨j=11∨j=17∨j=102→AB j e2=AB j e:=by
   unfold Lv
   simp only[sT,Nat.reduceLT,Nat.reduceEqDiff,reduceIte,AO,AN,OX,Qq,c1,Cj,t17,Ch,Ah,A7,List.nil_append,List.singleton_append,k1c,Bt,Br,Bool.not_true,BR,a3]
   refine⟨_,rfl,by simp[AH,t18],by simp[AH],fun j hj=>?_⟩
   rcases hj with rfl|rfl|rfl|rfl|rfl|rfl|rfl<;>simp only[AH,Nat.reduceLT,Nat.reduceEqDiff,reduceIte]
  obtain⟨e2,r1,r2,r3,r4⟩:=hrun
  refine⟨e2,h1,fv,ou,r1,⟨o1.x,o1.row,o1.rb,o1.ko,o1.ok,?_,?_,o1.ms,o1.ap,o1.le⟩,r2,r3,r4⟩
  ·rw[Ht,hc,if_pos rfl,List.append_nil];exact o1.fs
  ·rw[Jg,hc,if_pos rfl,List.append_nil];exact o1.os
 |false=>
  rw[hc]at k1c
  have xm:=o1.x.marked
  have om:=o1.ext (Hp.Ext.refl o1.x.wf).marked
  have lb:=Cw om.rb
  obtain⟨_,_,_,_,l4,_⟩:=BC om.row
  have qs:∀ (F:CallF) (e:Env),AB 19 e=.int .i64 (i:Int)→Ac .strong (AZ 1 (BI ty3.zero 1) [(0,1,AB 19)]) F e h1.marked=.ok (.slice (some ⟨h1.next,0,none⟩) 1 1) (h1.marked.back (h1.marked.quiet.pushRow 0 [.int .i64 (i:Int)])):=fun F e he=>DK (EF xm.wf.quiet he) ((Hp.Ext.refl xm.wf.quiet).pushRow _ _) (Nat.le_refl _)
  have y2:h1.marked.Ext (h1.marked.back (h1.marked.quiet.pushRow 0 [.int .i64 (i:Int)])):=.back ((Hp.Ext.refl xm.wf.quiet).pushRow _ _)
  have Rw:(h1.marked.back (h1.marked.quiet.pushRow 0 [.int .i64 (i:Int)])).Row h1.next 0 [.int .i64 (i:Int)]:=(Hp.Row.new xm.wf.quiet 0 [.int .i64 (i:Int)]).same rfl
  generalize h1.marked.back (h1.marked.quiet.pushRow 0 [.int .i64 (i:Int)])=h2 at qs y2 Rw
  have o2:=om.ext y2
  have ck:∀ (K:C) (F:CallF) (e:Env),AB 114 e=fv→AB 9 e=pt r9→CW (AB 114) [AB 9] K F e h2=K F e h2:=fun K F e a1 a2=>by
   rcases o2.fs with ⟨h1',_⟩|⟨b',h1',h2',h3',_⟩
   ·exact Zv (b:=0) a1 (.inl h1') a2 (.inl h1')
   ·exact Zv (b:=b') a1 (.inr ⟨_,_,_,h1'⟩) a2 (.inr (by omega))
  have hfl:(freeL ks i).length≤i:=DP i _
  have hol:(outL ks mk i).length≤i:=DP i _
  obtain⟨h3,fv3,k3,x3,fs3,n3,_,kp3,nb3⟩:=dH o2.x hhk o2.le o2.fs Rw (by unfold ints;rw[List.length_map,List.length_map];omega)
  have big2:fv3=fv3:=rfl
  have row3:=kp3 _ _ _ (o2.fs.nb o2.row (by omega)) o2.row
  have one3:cellsOf fv3=[fv3]∧A0 fv3=true:=by
   rcases fs3 with ⟨h1,_⟩|⟨b,h1,_⟩<;>rw[h1]<;>exact⟨rfl,rfl⟩
  obtain⟨h4,k4,row4,n4,_,fx4,e4⟩:=RM x3.wf row3 (off:=4) (show 4<7 by omega) h256 one3.1 one3.2
  have x4:=e4 h x3 hbs.1
  have kp4:∀ b el L,b≠bs→h3.Row b el L→h4.Row b el L:=fun b el L hb r=>fx4.row x3.wf r hb
  have kp24:∀ b el L,b≠bs→¬ blkV fv b→h2.Row b el L→h4.Row b el L:=fun b el L h1 h2 r=>kp4 b el L h1 (kp3 b el L h2 r)
  have row4:h4.Row bs 0 (slL bd tb w fv3 bad false):=row4
  have ow:∀ {u:Value} {xs:List Value},h2.Own k1 3 u xs→(∀ b,blkV u b→¬ blkV fv b)→h4.Own k1 3 u xs:=fun o hd=>by
   rcases o with h1'|⟨b,h1',h2',h3',h4'⟩
   ·exact .inl h1'
   ·exact .inr ⟨b,h1',kp24 b _ _ (by omega) (hd b ⟨0,_,_,h1'⟩) h2',h3',h4'⟩
  have fs4:h4.Own k1 3 fv3 (ints .i64 ((freeL ks i).map Int.ofNat)++[.int .i64 (i:Int)]):=by
   rcases fs3 with h1'|⟨b,h1',h2',h3',h4'⟩
   ·exact .inl h1'
   ·exact .inr ⟨b,h1',kp4 b _ _ (by omega) h2',h3',h4'⟩
  have os4:=ow o2.os fun b hb hf=>((o2.ap b).1 hf).1 hb
  have ms4:=ow o2.ms fun b hb hf=>((o2.ap b).1 hf).2 hb
  have ko4:h4.KO k1 w ks:=by
   rcases o2.ko with h1'|⟨b,h1',h2',h3',h4'⟩
   ·exact .inl h1'
   ·exact .inr ⟨b,h1',kp24 b _ _ (by omega) (o2.fs.nb h2' (by omega)) h2',h3',h4'⟩
  have rb4:=kp24 _ _ _ (by omega) (o2.fs.nb o2.rb (by omega)) o2.rb
  have ok4:∀ k∈ks,KtOk h4 (fun b=>r9<b) k:=fun k hk=>⟨(o2.ok k hk).1.keep fun b el L hb he r=>kp24 b el L (by have hb:r9<b:=hb;omega) (o2.fs.nb r (by omega)) r,(o2.ok k hk).2⟩
  have ap4:∀ b,(blkV fv3 b→¬ blkV ou b∧¬ blkV mv b)∧(blkV ou b→¬ blkV mv b):=fun b=>⟨fun hb=>by
   have e1:=nb3 b hb
   exact⟨fun h=>by have:=o2.os.lt' o2.x.wf h;omega,fun h=>by have:=o2.ms.lt' o2.x.wf h;omega⟩,(o2.ap b).2⟩
  have k5:=Ou (n:=m+4) (x:=(i:Int)) ms4.vals (by rw[List.length_map];omega)
  have hmem:decide ((i:Int)∈mk.map Int.ofNat)=decide (i∈mk):=by
   rw[decide_eq_decide,List.mem_map]
   constructor
   ·rintro⟨a,ha,he⟩
    have:a=i:=Int.ofNat.inj he
    rw[← this];exact ha
   ·exact fun h=>⟨i,h,rfl⟩
  rw[hmem]at k5
  have k5:call AF (m+6) 63 [mv,.int .i64 (i:Int)] h4=.ok (.bool (decide (i∈mk))) h4:=k5
  by_cases him:i∈mk
  ·rw[decide_eq_true him]at k5
   have is:=fun (F:CallF) (e:Env) (he:AB 19 e=.int .i64 (i:Int))=>EF (F:=F) x4.wf he
   obtain⟨h6,ou6,k6,x6,os6,n6,f6⟩:=Im (eb:=8) (en:=3) (kd:=.i64) (n:=(i:Int)) x4 hhk (by have:=o2.le;omega) os4 (by unfold ints;rw[List.length_map,List.length_map];omega)
   have a3:=CR (i:=i) (h:=h6) (by omega)
   have hrun:∃ e2,Lv (call AF (m+6)) e g=.norm e2 h6∧AB 18 e2=ou6∧AB 103 e2=.int .i64 ((i+1:Nat):Int)∧∀ j,j=0∨j=1∨j=2∨j=9∨j=11∨j=17∨j=102→AB j e2=AB j e:=by
    unfold Lv
    simp only[sT,Nat.reduceLT,Nat.reduceEqDiff,reduceIte,AO,AN,OX,Qq,c1,Cj,t17,Ch,Ah,A7,List.nil_append,List.singleton_append,k1c,Bt,Br,Bool.not_false,BA,AP,AU,t9,lb,Ay,Aq,AJ,AQ,Nat.zero_add,l4,qs]
    rw[ck _ _ _ (by simp[AH]) (by simp[AH,t9])]
    simp only[sT,Nat.reduceLT,Nat.reduceEqDiff,reduceIte]
    rw[k3 _ _ _ _ (by simp[AH]) (by simp[AH])]
    simp only[sT,Nat.reduceLT,Nat.reduceEqDiff,reduceIte,Ay,Aq,AJ,AQ,Nat.zero_add]
    rw[k4 _ _ _ _ (by simp[AH]) (by simp[AH])]
    simp only[sT,Nat.reduceLT,Nat.reduceEqDiff,reduceIte,cA0,t11,k5,is,BL,t18,k6,OX,BR,a3]
    refine⟨_,rfl,by simp[AH],by simp[AH],fun j hj=>?_⟩
    rcases hj with rfl|rfl|rfl|rfl|rfl|rfl|rfl<;>simp only[AH,Nat.reduceLT,Nat.reduceEqDiff,reduceIte]
   obtain⟨e2,r1,r2,r3,r4⟩:=hrun
   have kp6:∀ b el L,¬ blkV ou b→h4.Row b el L→h6.Row b el L:=fun b el L hb r=>(f6 b el L hb r).1
   refine⟨e2,h6,fv3,ou6,r1,⟨x6,kp6 _ _ _ (os4.nb row4 (by omega)) row4,kp6 _ _ _ (os4.nb rb4 (by omega)) rb4,?_,fun k hk=>⟨(ok4 k hk).1.keep fun b el L hb he r=>kp6 b el L (os4.nb r (by omega)) r,(ok4 k hk).2⟩,?_,?_,?_,fun b=>⟨fun hb=>⟨fun h=>?_,((ap4 b).1 hb).2⟩,fun hb hm=>?_⟩,by have:=o2.le;omega⟩,r2,r3,r4⟩
   ·rcases ko4 with h1'|⟨b,h1',h2',h3',h4'⟩
    ·exact .inl h1'
    ·exact .inr ⟨b,h1',kp6 b _ _ (os4.nb h2' (by omega)) h2',h3',h4'⟩
   ·rw[Ht,hc,if_neg (by decide),Gj]
    rcases fs4 with h1'|⟨b,h1',h2',h3',h4'⟩
    ·exact .inl h1'
    ·exact .inr ⟨b,h1',kp6 b _ _ ((ap4 b).1 ⟨0,_,_,h1'⟩).1 h2',h3',h4'⟩
   ·rw[Jg,hc,if_neg (by decide),if_pos him,Gj];exact os6
   ·rcases ms4 with h1'|⟨b,h1',h2',h3',h4'⟩
    ·exact .inl h1'
    ·exact .inr ⟨b,h1',kp6 b _ _ (fun hb=>(ap4 b).2 hb ⟨0,_,_,h1'⟩) h2',h3',h4'⟩
   ·exact(f6 b _ _ ((ap4 b).1 hb).1 (fs4.rw_ hb)).2 h
   ·exact(f6 b _ _ (fun ho=>(ap4 b).2 ho hm) (ms4.rw_ hm)).2 hb
  ·rw[decide_eq_false him]at k5
   have a3:=CR (i:=i) (h:=h4) (by omega)
   have hrun:∃ e2,Lv (call AF (m+6)) e g=.norm e2 h4∧AB 18 e2=ou∧AB 103 e2=.int .i64 ((i+1:Nat):Int)∧∀ j,j=0∨j=1∨j=2∨j=9∨j=11∨j=17∨j=102→AB j e2=AB j e:=by
    unfold Lv
    simp only[sT,Nat.reduceLT,Nat.reduceEqDiff,reduceIte,AO,AN,OX,Qq,c1,Cj,t17,Ch,Ah,A7,List.nil_append,List.singleton_append,k1c,Bt,Br,Bool.not_false,BA,AP,AU,t9,lb,Ay,Aq,AJ,AQ,Nat.zero_add,l4,qs]
    rw[ck _ _ _ (by simp[AH]) (by simp[AH,t9])]
    simp only[sT,Nat.reduceLT,Nat.reduceEqDiff,reduceIte]
    rw[k3 _ _ _ _ (by simp[AH]) (by simp[AH])]
    simp only[sT,Nat.reduceLT,Nat.reduceEqDiff,reduceIte,Ay,Aq,AJ,AQ,Nat.zero_add]
    rw[k4 _ _ _ _ (by simp[AH]) (by simp[AH])]
    simp only[sT,Nat.reduceLT,Nat.reduceEqDiff,reduceIte,cA0,t11,k5,OX,BR,a3]
    refine⟨_,rfl,by simp[AH,t18],by simp[AH],fun j hj=>?_⟩
    rcases hj with rfl|rfl|rfl|rfl|rfl|rfl|rfl<;>simp only[AH,Nat.reduceLT,Nat.reduceEqDiff,reduceIte]
   obtain⟨e2,r1,r2,r3,r4⟩:=hrun
   refine⟨e2,h4,fv3,ou,r1,⟨x4,row4,rb4,ko4,ok4,?_,?_,ms4,ap4,by have:=o2.le;omega⟩,r2,r3,r4⟩
   ·rw[Ht,hc,if_neg (by decide),Gj];exact fs4
   ·rw[Jg,hc,if_neg (by decide),if_neg him,List.append_nil];exact os4
end
end
noncomputable section
open Go
set_option maxRecDepth 100000
def qu(x y:Kc):Int:=orZ [Cr x.a y.a,Cr x.b y.b,Cr x.c y.c,Cr x.p y.p]
theorem N5{α β:Type}{f:α→β}{l:List α}{i:Nat}{x:α}(h:l[i]? =some x):(l.map f)[i]? =some (f x):=by rw[List.getElem?_map,h];rfl
theorem lU:ZG.zero=[.pointer none,.pointer none,.int .i64 0,.slice none 0 0,.slice none 0 0,.int .i64 0,.bool false]:=by kernel_rfl
theorem d6:B3 .mt 0 [.pointer none]=some qg:=by kernel_rfl
section
variable {F:CallF}{e:Env}{h g:Hp}{T M:List Nat}{bd bm bc tb n m c0 k:Nat}{arm:Int}
theorem Zl{g1 g2 g3:O}{a b:Nat}(h1:g1 e=pt a)(h2:g2 e=pt b)(h3:g3 e=.int .i64 100):Bm ZG.zero [(0,1,g1),(1,1,g2),(2,1,g3)] F e h=.ok (.agg ⟨slL a b nilS nilS 0 false⟩) h:=by
 rw[EH,lU,BE (hk:=by rw[h1];rfl),h1,BE (hk:=by rw[h2];rfl),h2,BE (hk:=by rw[h3];rfl),h3]
 simp only[show ∀ a,cellsOf (pt a)=[pt a]from fun _=>rfl,DN,List.length_singleton,List.length_cons,List.length_nil,over,List.take,List.drop,List.append_eq,List.nil_append,List.cons_append,Nat.reduceAdd,Nat.reduceLeDiff,if_true,CP,reduceIte]
 rfl
theorem qq{n:Nat}(hn:n≤1000000):RI .i64 (.int .i64 (n:Int)) (.int .i64 3) h=.ok (.int .i64 ((n / 3:Nat):Int)) h:=by
 have:((n:Nat):Int).tdiv 3=((n / 3:Nat):Int):=rfl
 rw[KL (by omega),this,Bg (by omega)]
theorem dB(W:h.Wf)(d:Dk h bd bm bc n M c0 [] arm false)(Rt:h.Row tb 0 (T.map wv))(hT:TblOk T)(hn:3≤n∧n≤90)(htb:tb≠bd∧tb≠bm∧tb≠bc)
  (hs:∀ (i:Nat) (x y:Kc),(kcs T M (n / 3))[i]? =some x→(kcs T M (n / 3))[i+1]? =some y→0≤qu y x)(hd:∀ (i j:Nat) (x y:Kc),(kcs T M (n / 3))[i]? =some x→(kcs T M (n / 3))[j]? =some y→i≠j→y.a≠x.a)(hl:(kcs T M (n / 3)).length≤12)(ha:Bu arm (k+60)):
  ∃ h' bs c1 arm' lv fv ks,call AF (m+8) 16 [pt bd,pt tb,.int .i64 100] h=.ok (.tuple ⟨[pt bs,.int .i64 0]⟩) h'∧Fx (fun b=>b=bd∨b=bm∨b=bc) h h'∧
   Sl h' ⟨bs,bd,bm,bc,tb,n⟩ T (Qp M (outL ks (mrk T M (n / 3)) (n / 3))) c1 arm' ks (freeL ks (n / 3)) lv fv (bads T M (n / 3)).length false∧ks.map Kt.core=kcs T M (n / 3)∧h.next≤bs∧Bu arm' k∧(ks=[]→lv=.slice none 0 0):=by
 have big:=W.big
 have s57:∀ (mm:Nat) (g:Hp),call AF (mm+1) 57 [.int .i64 100] g=.ok (.int .i64 3) g:=fun mm g=>by
  have:=UA (n:=mm) (h:=g) (z:=100)
  rw[NM]at this;exact this
 have s57':=fun g=>s57 (m+6) g
 have k1:=dU (m:=m+5) d
 have k2:=aW (m:=m+5) d
 have c1:iEq (n:Int) 0=false:=Bd (by omega)
 have c2:iEq 3 0=false:=Bd (by omega)
 have c3:iGt 3 (n:Int)=false:=Ei (by omega)
 have ne:∀ (F:CallF) (e:Env),AB 27 e=pt tb→oEq Qt.k false (AB 27) (kV (.pointer none)) F e h=.ok (.bool false) h:=fun F e he=>Io eS he
 have bl:∀ (F:CallF) (e:Env),AB 0 e=pt bd→AB 1 e=pt tb→AB 2 e=.int .i64 100→Bm ZG.zero [(0,1,AB 0),(1,1,AB 1),(2,1,AB 2)] F e h=.ok (.agg ⟨slL bd tb nilS nilS 0 false⟩) h:=fun F e a b c=>Zl a b c
 have bx:∀ (F:CallF) (e:Env),AB 46 e=.agg ⟨slL bd tb nilS nilS 0 false⟩→Cv (AB 46) F e h=.ok (pt h.next) (h.pushRow 0 (slL bd tb nilS nilS 0 false)):=fun F e he=>by rw[ET,he,EN W];rfl
 have x1:=(Hp.Ext.refl W).pushRow 0 (slL bd tb nilS nilS 0 false)
 have R1:=Hp.Row.new W 0 (slL bd tb nilS nilS 0 false)
 have n1:(h.pushRow 0 (slL bd tb nilS nilS 0 false)).next=h.next+1:=rfl
 generalize h.pushRow 0 (slL bd tb nilS nilS 0 false)=h1 at bx x1 R1 n1
 obtain⟨h2,al,st,y2,R9,n2,_⟩:=II x1.wf d6 (v:=pt h.next) rfl rfl
 have x2:=x1.trans y2
 have dv:=fun g=>qq (h:=g) (n:=n) (by omega)
 have pre:∃ e1,aC (call AF (m+7)) (AV e0 0 [pt bd,pt tb,.int .i64 100]) h=kT (call AF (m+7)) e1 h2∧AB 2 e1=.int .i64 100∧AB 8 e1=.int .i64 (n:Int)∧AB 9 e1=pt h1.next∧AB 10 e1=nilS∧AB 11 e1=nilS∧AB 51 e1=.int .i64 ((n / 3:Nat):Int)∧AB 52 e1=.int .i64 ((0:Nat):Int):=by
  unfold aC
  simp only[iN,Nat.reduceAdd,sT,Nat.reduceLT,Nat.reduceEqDiff,reduceIte,gD,cA0,k1,AO,AN,c1,ne,s57',c2,c3,k2,bl,bx,al,Ao,st,Ii,dv]
  exact⟨_,rfl,by simp[AH]⟩
 obtain⟨e1,p1,s2,s8,s9,s10,s11,s51,s52⟩:=pre
 have hbs:h.next≤h.next∧h.next<h1.next∧h1.next<h2.next:=⟨Nat.le_refl _,by omega,by omega⟩
 have o0:O1 h h2 T M h.next h1.next h2.next bd tb 0 nilS nilS []:=⟨x2,R1.ext x1.wf y2,R9,.inl ⟨rfl,rfl⟩,rfl,fun k hk=>(by cases hk),.inl ⟨rfl,rfl⟩,Nat.le_refl _⟩
 have run1:∃ e' g v mv ks,Az Lu (call AF (m+7)) e1 h2=.exit 1 e' g∧O1 h g T M h.next h1.next h2.next bd tb (n / 3) v mv ks∧AB 10 e'=v∧AB 11 e'=mv∧AB 2 e'=.int .i64 100∧AB 8 e'=.int .i64 (n:Int)∧AB 9 e'=pt h1.next:=by
  refine Be (I:=fun i e' g=>∃ v mv ks,O1 h g T M h.next h1.next h2.next bd tb i v mv ks∧i≤n / 3∧AB 10 e'=v∧AB 11 e'=mv∧AB 52 e'=.int .i64 (i:Int)∧AB 2 e'=.int .i64 100∧AB 8 e'=.int .i64 (n:Int)∧AB 9 e'=pt h1.next∧AB 51 e'=.int .i64 ((n / 3:Nat):Int))
   (Q:=fun x=>∃ e' g v mv ks,x=.exit 1 e' g∧O1 h g T M h.next h1.next h2.next bd tb (n / 3) v mv ks∧AB 10 e'=v∧AB 11 e'=mv∧AB 2 e'=.int .i64 100∧AB 8 e'=.int .i64 (n:Int)∧AB 9 e'=pt h1.next) (n / 3) (by omega) (fun i e' g ⟨v,mv,ks,o,hi,t10,t11,t52,t2,t8,t9,t51⟩=>?_) ⟨_,_,_,o0,Nat.zero_le _,s10,s11,s52,s2,s8,s9,s51⟩
  by_cases hlt:i<n / 3
  ·left
   obtain⟨e2,g2,v2,mv2,ks2,r1,o2,r2,r3,r4,r5⟩:=YP (m:=m+1) W d Rt hT o hbs hlt t9 t10 t11 t51 t52
   exact⟨hlt,e2,g2,r1,v2,mv2,ks2,o2,hlt,r2,r3,r4,(r5 2 (by omega)).trans t2,(r5 8 (by omega)).trans t8,(r5 9 (by omega)).trans t9,(r5 51 (by omega)).trans t51⟩
  ·right
   have hie:i=n / 3:=by omega
   have c1:iLt (i:Int) ((n / 3:Nat):Int)=false:=DD (by omega)
   have hrun:∃ e2,Lu (call AF (m+7)) e' g=.exit 1 e2 g∧∀ j,j=10∨j=11∨j=2∨j=8∨j=9→AB j e2=AB j e':=by
    unfold Lu
    simp only[sT,Nat.reduceLT,Nat.reduceEqDiff,reduceIte,AO,AN,t52,t51,c1]
    refine⟨_,rfl,fun j hj=>?_⟩
    rcases hj with rfl|rfl|rfl|rfl|rfl<;>simp only[AH,Nat.reduceLT,Nat.reduceEqDiff,reduceIte]
   obtain⟨e2,r1,r2⟩:=hrun
   rw[r1]
   exact⟨rfl,e2,g,v,mv,ks,rfl,hie ▸ o,(r2 10 (by omega)).trans t10,(r2 11 (by omega)).trans t11,(r2 2 (by omega)).trans t2,(r2 8 (by omega)).trans t8,(r2 9 (by omega)).trans t9⟩
 obtain⟨e2,g2,v,mv,ks,q1,o,t10,t11,t2,t8,t9⟩:=run1
 have hkl:ks.length≤12:=by rw[← List.length_map (f:=Kt.core),o.cs];exact hl
 obtain⟨g3,k3,x3⟩:=dW (m:=m+1) o.x.wf o.ko.lst hkl fun i x y hx hy=>hs i x.core y.core (by rw[← o.cs];exact N5 hx) (by rw[← o.cs];exact N5 hy)
 have o3:=o.ext x3
 have o4:=o3.ext (Hp.Ext.refl o3.x.wf).marked
 have lb:=Cw o4.rb
 have old:∀ (kk:C) (F:CallF) (e:Env),Jf (pt h1.next) kk F e g3.marked=kk F e g3.marked:=fun kk F e=>Dw (by
  show h1.next<g3.next
  have:=o3.le;omega)
 obtain⟨g5,w,k5,x5,kw,kz⟩:=RG (m:=m+3) o4.x.wf.quiet (o4.ko.lst.same (h':=g3.marked.quiet) rfl) (by omega) (fun k hk=>(o4.ok k hk).1.vs.one.2.1) fun i j x y hx hy hij=>hd i j x.core y.core (by rw[← o.cs];exact N5 hx) (by rw[← o.cs];exact N5 hy) hij
 have q5:∀ e:Env,AB 10 e=v→Ac .weak (AM 59 [AB 10]) (call AF (m+7)) e g3.marked=.ok w (g3.marked.back g5):=fun e he=>by
  refine DK ?_ x5 (Nat.le_refl _)
  rw[Bk,Ah,A7,he];exact k5
 have y5:g3.marked.Ext (g3.marked.back g5):=.back x5
 have kw5:(g3.marked.back g5).KO g3.marked.quiet.next w ks:=kw.same rfl
 generalize g3.marked.back g5=g6 at q5 y5 kw5
 have o6:=o4.ext y5
 have onew:cellsOf w=[w]∧A0 w=true:=⟨kw5.lst.one.1,kw5.lst.one.2.1⟩
 obtain⟨g7,k7,row7,n7,_,fx7,ex7⟩:=RM o6.x.wf o6.row (off:=3) (show 3<7 by omega) big onew.1 onew.2
 have x7:=ex7 h o6.x (Nat.le_refl _)
 have kp7:∀ b el L,b≠h.next→g6.Row b el L→g7.Row b el L:=fun b el L hb r=>fx7.row o6.x.wf r hb
 have row7:g7.Row h.next 0 (slL bd tb w nilS (bads T M (n / 3)).length false):=row7
 have hk2:h2.next≤g3.marked.quiet.next:=o3.le
 have own7:∀ {u:Value} {xs:List Value},g6.Own h2.next 3 u xs→g7.Own h2.next 3 u xs:=fun o=>by
  rcases o with h1'|⟨b,h1',h2',h3',h4'⟩
  ·exact .inl h1'
  ·exact .inr ⟨b,h1',kp7 b _ _ (by omega) h2',h3',h4'⟩
 have ko7:g7.KO h2.next w ks:=by
  rcases kw5 with h1'|⟨b,h1',h2',h3',h4'⟩
  ·exact .inl h1'
  ·exact .inr ⟨b,h1',kp7 b _ _ (by omega) h2',by omega,h4'⟩
 have p0:O2 h g7 (mrk T M (n / 3)) h.next h1.next h2.next bd tb 0 (bads T M (n / 3)).length w mv nilS nilS ks:=⟨x7,row7,kp7 _ _ _ (by omega) o6.rb,ko7,fun k hk=>⟨(o6.ok k hk).1.keep fun b el L hb he r=>kp7 b el L (by have hb:h1.next<b:=hb;omega) r,(o6.ok k hk).2⟩,.inl ⟨rfl,rfl⟩,.inl ⟨rfl,rfl⟩,own7 o6.ms,fun b=>⟨fun h=>absurd h Fe,fun h=>absurd h Fe⟩,by rw[n7];exact o6.le⟩
 have mid:∃ e3,YR (call AF (m+7)) e2 g2=kU (call AF (m+7)) e3 g7∧AB 9 e3=pt h1.next∧AB 11 e3=mv∧AB 17 e3=.func (.func 60) ⟨[]⟩ ⟨[pt h1.next]⟩∧AB 18 e3=nilS∧AB 102 e3=.int .i64 ((n / 3:Nat):Int)∧AB 103 e3=.int .i64 ((0:Nat):Int):=by
  unfold YR
  simp only[sT,Nat.reduceLT,Nat.reduceEqDiff,reduceIte,cA0,t10,k3,BA,EP,t9,old,DV,AP,AU,lb,q5,Ay,Aq,AJ,AQ,Nat.zero_add]
  rw[k7 _ _ _ _ (by simp[AH]) (by simp[AH])]
  simp only[sT,Nat.reduceLT,Nat.reduceEqDiff,reduceIte,cA0,DZ,t9,t2,s57',t8,Ii,dv]
  exact⟨_,rfl,by simp[AH,t9,t11]⟩
 obtain⟨e3,p3,u9,u11,u17,u18,u102,u103⟩:=mid
 have run2:∃ e' g fv ou,Az Lv (call AF (m+7)) e3 g7=.exit 4 e' g∧O2 h g (mrk T M (n / 3)) h.next h1.next h2.next bd tb (n / 3) (bads T M (n / 3)).length w mv fv ou ks∧AB 9 e'=pt h1.next∧AB 18 e'=ou:=by
  refine Be (I:=fun i e' g=>∃ fv ou,O2 h g (mrk T M (n / 3)) h.next h1.next h2.next bd tb i (bads T M (n / 3)).length w mv fv ou ks∧i≤n / 3∧AB 9 e'=pt h1.next∧AB 11 e'=mv∧AB 17 e'=.func (.func 60) ⟨[]⟩ ⟨[pt h1.next]⟩∧AB 18 e'=ou∧AB 102 e'=.int .i64 ((n / 3:Nat):Int)∧AB 103 e'=.int .i64 (i:Int))
   (Q:=fun x=>∃ e' g fv ou,x=.exit 4 e' g∧O2 h g (mrk T M (n / 3)) h.next h1.next h2.next bd tb (n / 3) (bads T M (n / 3)).length w mv fv ou ks∧AB 9 e'=pt h1.next∧AB 18 e'=ou) (n / 3) (by omega) (fun i e' g ⟨fv,ou,o,hi,t9,t11,t17,t18,Qq,OX⟩=>?_) ⟨_,_,p0,Nat.zero_le _,u9,u11,u17,u18,u102,u103⟩
  by_cases hlt:i<n / 3
  ·left
   have hml:(mrk T M (n / 3)).length≤n / 3:=DP _ _
   obtain⟨e2,g2,fv2,ou2,r1,o2,r2,r3,r4⟩:=YQ (m:=m+1) W o hbs hlt (by omega) (by omega) (by omega) t9 t11 t17 t18 Qq OX
   exact⟨hlt,e2,g2,r1,fv2,ou2,o2,hlt,(r4 9 (by omega)).trans t9,(r4 11 (by omega)).trans t11,(r4 17 (by omega)).trans t17,r2,(r4 102 (by omega)).trans Qq,r3⟩
  ·right
   have hie:i=n / 3:=by omega
   have c1:iLt (i:Int) ((n / 3:Nat):Int)=false:=DD (by omega)
   have hrun:∃ e2,Lv (call AF (m+7)) e' g=.exit 4 e2 g∧AB 9 e2=pt h1.next∧AB 18 e2=ou:=by
    unfold Lv
    simp only[sT,Nat.reduceLT,Nat.reduceEqDiff,reduceIte,AO,AN,OX,Qq,c1]
    exact⟨_,rfl,by simp[AH,t9,t18]⟩
   obtain⟨e2,r1,r2,r3⟩:=hrun
   rw[r1]
   exact⟨rfl,e2,g,fv,ou,rfl,hie ▸ o,r2,r3⟩
 obtain⟨e4,g8,fv,ou,q8,o8,v9,v18⟩:=run2
 have W8:=o8.x.wf
 have lt:=d.lt W
 have nD:∀ b,h.next<b→¬ (⟨h.next,bd,bm,bc,tb,n⟩:At).D b:=fun b hb=>by
  rintro (h1|h1|h1|h1)
  ·have h1:b=h.next:=h1
   omega
  ·have h1:b=bd:=h1
   omega
  ·have h1:b=bm:=h1
   omega
  ·have h1:b=bc:=h1
   omega
 have hbl:(bads T M (n / 3)).length≤n / 3:=DP _ _
 have hfl:(freeL ks (n / 3)).length≤n / 3:=DP _ _
 have hol:(outL ks (mrk T M (n / 3)) (n / 3)).length≤n / 3:=DP _ _
 have htlt:=Rt.lt W
 have sl:Sl g8 ⟨h.next,bd,bm,bc,tb,n⟩ T M c0 arm ks (freeL ks (n / 3)) w fv (bads T M (n / 3)).length false:=by
  refine⟨o8.row,d.ext W o8.x,Rt.ext W o8.x,hT,?_,fun k hk=>⟨(o8.ok k hk).1.mono fun b hb=>nD b (by have hb:h1.next<b:=hb;omega),(o8.ok k hk).2⟩,?_,⟨by show h.next≠bd;omega,by show h.next≠bm;omega,by show h.next≠bc;omega,?_,big⟩,⟨by omega,by omega,by omega,fun p hp=>?_⟩⟩
  ·refine Hp.KW.ks ?_
   rcases o8.ko with h1'|⟨b,h1',h2',h3',_⟩
   ·exact .inl h1'
   ·exact .inr ⟨b,h1',h2',nD b (by omega)⟩
  ·rcases o8.fs with h1'|⟨b,h1',h2',h3',_⟩
   ·exact .inl h1'
   ·exact .inr ⟨b,4,h1',h2',.inl rfl,nD b (by omega)⟩
  ·rintro (h1|h1|h1|h1)
   ·have h1:tb=h.next:=h1
    omega
   ·exact htb.1 h1
   ·exact htb.2.1 h1
   ·exact htb.2.2 h1
  ·have:=List.mem_range.1 (List.mem_filter.1 hp).1
   show 3 * p+3≤n
   omega
 obtain⟨g9,c9,arm9,k9,f9,s9',a9⟩:=Jj (m:=m+1) (k:=k) W8 sl (ps:=outL ks (mrk T M (n / 3)) (n / 3)) (pv:=ou) o8.os.vals (fun p hp=>by
  have:=List.mem_range.1 (List.mem_filter.1 hp).1
  show 3 * p+3≤n
  omega) (List.nodup_range.filter _) (by omega) (ha.le (by omega))
 have lb8:=Cw o8.rb
 have c0':iNe 0 0=false:=CT rfl
 have lb9:=Cw (f9.row W8 o8.rb (by
  rintro (q|q|q)
  ·have q:h1.next=bd:=q
   omega
  ·have q:h1.next=bm:=q
   omega
  ·have q:h1.next=bc:=q
   omega))
 have k9:call AF (m+7) 53 [pt h.next,ou] g8=.ok (.int .i64 0) g9:=k9
 refine⟨g9,h.next,c9,arm9,w,fv,ks,?_,(Fx.of o8.x).trans f9,s9',o.cs,Nat.le_refl _,a9,kz⟩
 rw[gt rfl,jO,p1,cz]
 simp only[BP,A1,q1,A5,BJ]
 rw[cy,p3,dA]
 simp only[BP,A1,q8,A5,BJ]
 unfold oQ
 simp only[sT,Nat.reduceLT,Nat.reduceEqDiff,reduceIte,AP,AU,v9,lb8,cA0,v18,k9,AO,AN,c0',lb9,Bp,DI]
end
end
end Go.Proofs.YtedbmmfebjfibaaGreat
