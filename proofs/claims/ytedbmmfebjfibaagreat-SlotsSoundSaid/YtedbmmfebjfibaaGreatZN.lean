/-
  Part ZN of what Lawso stands on: printed by program, names and spaces cut.
-/
import Derived.Test.YtedbmmfebjfibaaGreatZM
set_option linter.unusedVariables false
set_option linter.unusedSimpArgs false
namespace Go.Proofs.YtedbmmfebjfibaaGreat
noncomputable section
open Go
set_option maxRecDepth 100000
def FK(P:Kt→Bool):Nat→List Kt→Int
 |_,[]=> -1
 |i,k::l=>if P k=true then(i:Int)else FK P (i+1) l
theorem NO(P:Kt→Bool):∀ (l:List Kt) (i:Nat),(l.any P=false∧FK P i l= -1)∨(l.any P=true∧∃ j k,l[j]? =some k∧P k=true∧FK P i l=((i+j:Nat):Int))
 |[],i=>.inl ⟨rfl,rfl⟩
 |k::l,i=>by
  unfold FK
  by_cases h:P k=true
  ·rw[if_pos h]
   exact .inr ⟨by rw[List.any_cons,h];rfl,0,k,rfl,h,rfl⟩
  ·rw[if_neg h]
   have hf:P k=false:=by simpa using h
   rcases NO P l (i+1)with ⟨h1,h2⟩|⟨h1,j,k',h2,h3,h4⟩
   ·exact .inl ⟨by rw[List.any_cons,hf,h1];rfl,h2⟩
   ·exact .inr ⟨by rw[List.any_cons,h1,Bool.or_true],j+1,k',by rw[List.getElem?_cons_succ];exact h2,h3,by rw[h4];congr 1;omega⟩
section
variable {F:CallF}{e:Env}{h h':Hp}{S:Nat→Prop}{A:At}{T M:List Nat}{c0 bad m:Nat}{arm:Int}{ks:List Kt}{fr:List Nat}{v lv fv:Value}{ov:Bool}
def kiB:C:=(AF (AC 9) (Ad iLt .i64 (AB 8) (AB 7))
(AW (AB 9)
(A5 (Ah 1 (AF (AC 5) (AD (AB 8))
(AF (AC 14) (Bp 6 (AB 0) (AB 5))
(AF (AC 15) (BE 6 (AB 14))
(AF (AC 16) (B0 (AB 1) [(AB 15)])
(AW (AB 16)
(AF (AC 4) (AD (AB 5))
Aj)
Ai))))))
(AF (AC 18) (Bh .i64 (Ax .i64) (AB 8) (kV (.int .i64 1)))
(AF (AC 8) (AD (AB 18))
Ai)))
(Bc 0)))
def kiE:C:=AF (AC 4) (AD (kV (.int .i64 (-1)))) Aj
theorem Vo:kiS=A5 (Ah 0 (A1 kiB)) kiE:=rfl
theorem VJ:d69=YY:=rfl
theorem NW{g:Nat}{caps:List Value}{P:Kt→Bool}(W:h.Wf)(K:h.KS S v ks)(hl:ks.length≤100000)(hP:∀ h',h.Ext h'→∀ k∈ks,∃ h'',call AG m g (ktV k::caps) h'=.ok (.bool (P k)) h''∧h'.Ext h''):
  ∃ h',call AG (m+1) 69 [v,.func (.func g) ⟨[]⟩ ⟨caps⟩] h=.ok (.int .i64 (FK P 0 ks)) h'∧h.Ext h':=by
 have ln:=K.len h
 have pre:∃ e1,YY (call AG m) (AZ e0 0 [v,.func (.func g) ⟨[]⟩ ⟨caps⟩]) h=kiS (call AG m) e1 h∧AB 0 e1=v∧AB 1 e1=.func (.func g) ⟨[]⟩ ⟨caps⟩∧AB 7 e1=.int .i64 (ks.length:Int)∧AB 8 e1=.int .i64 ((0:Nat):Int):=by
  unfold YY
  simp only[AJ,AK,Nat.succ_eq_add_one,Nat.zero_add,Nat.reduceAdd,sT,Nat.reduceLT,Nat.reduceEqDiff,if_true,if_false,reduceIte,Ay,ln]
  exact⟨_,rfl,by simp[AE],by simp[AE],by simp[AE],by simp only[AE,Nat.reduceLT,Nat.reduceEqDiff,if_true,if_false,reduceIte];rfl⟩
 obtain⟨e1,p1,s0,s1,s7,s8⟩:=pre
 have run:(∃ e' h',A1 kiB (call AG m) e1 h=.exit 0 e' h'∧h.Ext h'∧FK P 0 ks= -1)∨(∃ e' h',A1 kiB (call AG m) e1 h=.ret e' h'∧h.Ext h'∧AB 4 e'=.int .i64 (FK P 0 ks)):=by
  refine Bz (I:=fun i e' h'=>h.Ext h'∧AB 0 e'=v∧AB 1 e'=.func (.func g) ⟨[]⟩ ⟨caps⟩∧AB 7 e'=.int .i64 (ks.length:Int)∧AB 8 e'=.int .i64 (i:Int)∧i≤ks.length∧FK P 0 ks=FK P i (ks.drop i))
   (Q:=fun x=>(∃ e' h',x=.exit 0 e' h'∧h.Ext h'∧FK P 0 ks= -1)∨(∃ e' h',x=.ret e' h'∧h.Ext h'∧AB 4 e'=.int .i64 (FK P 0 ks))) ks.length (by omega) (fun i e' h' ⟨x',t0,t1,t7,t8,hi,hr⟩=>?_) ⟨.refl W,s0,s1,s7,s8,Nat.zero_le _,by rw[List.drop_zero]⟩
  by_cases hlt:i<ks.length
  ·obtain⟨k,hk⟩:∃ k,ks[i]? =some k:=⟨_,List.getElem?_eq_getElem hlt⟩
   have hd:ks.drop i=k::ks.drop (i+1):=by
    rw[List.drop_eq_getElem_cons hlt]
    rw[List.getElem?_eq_getElem hlt]at hk
    rw[Option.some.inj hk]
   rw[hd]at hr
   have hr:FK P 0 ks=if P k=true then(i:Int)else FK P (i+1) (ks.drop (i+1)):=hr
   have c1:=E8 hlt
   obtain⟨b,_,ix,ld,_⟩:=(K.ext W x').at hk
   obtain⟨h2,k2,x2⟩:=hP h' x' k (List.mem_of_getElem? hk)
   by_cases hp:P k=true
   ·right
    rw[hp]at k2
    rw[if_pos hp]at hr
    have hrun:∃ e2,kiB (call AG m) e' h'=.ret e2 h2∧AB 4 e2=.int .i64 (i:Int):=by
     unfold kiB
     simp only[sT,Nat.reduceLT,Nat.reduceEqDiff,if_true,if_false,reduceIte,AS,AQ,t8,t7,c1,Bb,t0,ix,BP,BF,ld,Ci,t1,CU,AN,AX,List.nil_append,List.singleton_append,k2]
     exact⟨_,rfl,by simp[AE]⟩
    obtain⟨e2,r1,r2⟩:=hrun
    rw[r1]
    exact⟨rfl,.inr ⟨e2,h2,rfl,x'.trans x2,by rw[r2,hr]⟩⟩
   ·left
    have hf:P k=false:=by simpa using hp
    rw[hf]at k2
    rw[if_neg hp]at hr
    have a3:=C1 (i:=i) (h:=h2) (by omega)
    have hrun:∃ e2,kiB (call AG m) e' h'=.norm e2 h2∧AB 0 e2=v∧AB 1 e2=.func (.func g) ⟨[]⟩ ⟨caps⟩∧AB 7 e2=.int .i64 (ks.length:Int)∧AB 8 e2=.int .i64 ((i+1:Nat):Int):=by
     unfold kiB
     simp only[sT,Nat.reduceLT,Nat.reduceEqDiff,if_true,if_false,reduceIte,AS,AQ,t8,t7,c1,Bb,t0,ix,BP,BF,ld,Ci,t1,CU,AN,AX,List.nil_append,List.singleton_append,k2,BZ,a3]
     exact⟨_,rfl,by simp only[AE,Nat.reduceLT,Nat.reduceEqDiff,if_true,if_false,reduceIte];exact t0,by simp only[AE,Nat.reduceLT,Nat.reduceEqDiff,if_true,if_false,reduceIte];exact t1,by simp only[AE,Nat.reduceLT,Nat.reduceEqDiff,if_true,if_false,reduceIte];exact t7,by simp[AE]⟩
    obtain⟨e2,r1,r2,r3,r4,r5⟩:=hrun
    exact⟨hlt,e2,h2,r1,x'.trans x2,r2,r3,r4,r5,by omega,hr⟩
  ·right
   have c1:=DU (show ks.length≤i by omega)
   have hrun:∃ e2,kiB (call AG m) e' h'=.exit 0 e2 h':=by
    unfold kiB
    simp only[sT,Nat.reduceLT,Nat.reduceEqDiff,if_true,if_false,reduceIte,AS,AQ,t8,t7,c1]
    exact⟨_,rfl⟩
   obtain⟨e2,r1⟩:=hrun
   rw[r1]
   exact⟨rfl,.inl ⟨e2,h',rfl,x',by rw[hr,List.drop_of_length_le (by omega)];rfl⟩⟩
 rcases run with ⟨e2,h2,r1,x2,r2⟩|⟨e2,h2,r1,x2,r2⟩
 ·refine⟨h2,?_,x2⟩
  rw[U0 rfl,VJ,p1,Vo,r2]
  simp only[BU,A3,r1,A9,BH]
  unfold kiE
  simp only[sT,Nat.reduceLT,Nat.reduceEqDiff,if_true,if_false,reduceIte,AP,Aa]
 ·refine⟨h2,?_,x2⟩
  rw[U0 rfl,VJ,p1,Vo]
  simp only[BU,A3,r1,CY,DD,AP,Aa,r2]
theorem NV{g:Nat}{caps:List Value}{P:Kt→Bool}(W:h.Wf)(K:h.KS S v ks)(hl:ks.length≤100000)(hP:∀ h',h.Ext h'→∀ k∈ks,∃ h'',call AG m g (ktV k::caps) h'=.ok (.bool (P k)) h''∧h'.Ext h''):
  ∃ h',call AG (m+2) 61 [v,.func (.func g) ⟨[]⟩ ⟨caps⟩] h=.ok (.bool (ks.any P)) h'∧h.Ext h':=by
 obtain⟨h2,k2,x2⟩:=NW W K hl hP
 have c1:iGe (FK P 0 ks) 0=ks.any P:=by
  rcases NO P ks 0 with ⟨h1,h2⟩|⟨h1,j,k,_,_,h2⟩
  ·rw[h1,h2];exact FZ (by omega)
  ·rw[h1,h2];exact Jr (by omega)
 refine⟨h2,?_,x2⟩
 rw[eI rfl]
 unfold d61
 simp only[AJ,AK,Nat.succ_eq_add_one,Nat.zero_add,Nat.reduceAdd,sT,Nat.reduceLT,Nat.reduceEqDiff,if_true,if_false,reduceIte,Ab,AN,AX,k2,AS,AQ,c1,AP,Aa]
theorem G9(W:h.Wf){k:Kt}{g:O}(hg:g e=ktV k):DL g F e h=.ok (pt h.next) (h.pushRow 0 (Al k)):=by rw[Fe,hg,FR W];rfl
theorem Bw{r:Nat}{k:Kt}(R:h.Row r 0 (Al k)):load1 ⟨r,0,none⟩ h=.ok (.int .i64 k.a) h∧load1 ⟨r,1,none⟩ h=.ok (.int .i64 k.b) h∧load1 ⟨r,2,none⟩ h=.ok (.int .i64 k.c) h∧load1 ⟨r,3,none⟩ h=.ok (.int .u8 (k.s:Int)) h∧load1 ⟨r,4,none⟩ h=.ok k.u h∧load1 ⟨r,5,none⟩ h=.ok (.int .i64 (k.p:Int)) h∧loadN 6 ⟨r,0,none⟩ h=.ok (ktV k) h∧loadN 5 ⟨r,0,none⟩ h=.ok (CI k.a k.b k.c k.s k.u) h:=
 ⟨R.load1 (off:=0) (by show 0<6;omega),R.load1 (off:=1) (by show 1<6;omega),R.load1 (off:=2) (by show 2<6;omega),R.load1 (off:=3) (by show 3<6;omega),R.load1 (off:=4) (by show 4<6;omega),R.load1 (off:=5) (by show 5<6;omega),R.loadN (off:=0) (n:=6) (by show 0+6≤6;omega),R.loadN (off:=0) (n:=5) (by show 0+5≤6;omega)⟩
def Ej(a b c:Int)(k:Kt):Bool:=decide (k.a=a) && decide (k.b=b) && decide (k.c=c)
def Nc(a b:Int)(k:Kt):Bool:=decide (k.a=a) && decide (k.b=b) && decide (k.s=2)
theorem CH{r:Nat}{w:Value}(R:h.Row r 0 [w]):load1 ⟨r,0,none⟩ h=.ok w h:=R.load1 (off:=0) (by show 0<1;omega)
theorem fo(W:h.Wf){r1 r2 r3:Nat}{a b c:Int}(R1:h.Row r1 0 [.int .i64 a])(R2:h.Row r2 0 [.int .i64 b])(R3:h.Row r3 0 [.int .i64 c])(k:Kt):
  ∃ h',call AG (m+1) 70 [ktV k,pt r1,pt r2,pt r3] h=.ok (.bool (Ej a b c k)) h'∧h.Ext h':=by
 have bx:=fun (F:CallF) (e:Env) (he:AB 0 e=ktV k)=>G9 (F:=F) W he
 have x1:=(Hp.Ext.refl W).pushRow 0 (Al k)
 have R:=Hp.Row.new W 0 (Al k)
 generalize h.pushRow 0 (Al k)=h1 at bx x1 R
 obtain⟨l0,l1,l2,l3,_,l5,_⟩:=Bw R
 have m1:=CH (R1.ext W x1)
 have m2:=CH (R2.ext W x1)
 have m3:=CH (R3.ext W x1)
 refine⟨h1,?_,x1⟩
 unfold Ej
 rw[eO rfl]
 unfold d70
 by_cases h1:k.a=a
 ·have c1:iEq k.a a=true:=C4 h1
  by_cases h2:k.b=b
  ·have c2:iEq k.b b=true:=C4 h2
   have c3:iEq k.c c=decide (k.c=c):=by rw[Dz];by_cases h3:k.c=c<;>simp[h3]
   simp only[AJ,AK,Nat.succ_eq_add_one,Nat.zero_add,Nat.reduceAdd,sT,Nat.reduceLT,Nat.reduceEqDiff,if_true,if_false,reduceIte,gD,bx,AM,AY,Nat.zero_add,AV,Ac,l0,l1,l2,m1,m2,m3,AS,AQ,c1,c2,c3,AP,Aa]
   rw[decide_eq_true h1,decide_eq_true h2];rfl
  ·have c2:iEq k.b b=false:=Cz h2
   simp only[AJ,AK,Nat.succ_eq_add_one,Nat.zero_add,Nat.reduceAdd,sT,Nat.reduceLT,Nat.reduceEqDiff,if_true,if_false,reduceIte,gD,bx,AM,AY,Nat.zero_add,AV,Ac,l0,l1,l2,m1,m2,m3,AS,AQ,c1,c2,AP,Aa]
   rw[decide_eq_true h1,decide_eq_false h2];rfl
 ·have c1:iEq k.a a=false:=Cz h1
  simp only[AJ,AK,Nat.succ_eq_add_one,Nat.zero_add,Nat.reduceAdd,sT,Nat.reduceLT,Nat.reduceEqDiff,if_true,if_false,reduceIte,gD,bx,AM,AY,Nat.zero_add,AV,Ac,l0,l1,l2,m1,m2,m3,AS,AQ,c1,AP,Aa]
  rw[decide_eq_false h1];rfl
theorem fu(W:h.Wf){r1 r2:Nat}{a b:Int}(R1:h.Row r1 0 [.int .i64 a])(R2:h.Row r2 0 [.int .i64 b])(k:Kt):
  ∃ h',call AG (m+1) 92 [ktV k,pt r1,pt r2] h=.ok (.bool (Nc a b k)) h'∧h.Ext h':=by
 have bx:=fun (F:CallF) (e:Env) (he:AB 0 e=ktV k)=>G9 (F:=F) W he
 have x1:=(Hp.Ext.refl W).pushRow 0 (Al k)
 have R:=Hp.Row.new W 0 (Al k)
 generalize h.pushRow 0 (Al k)=h1 at bx x1 R
 obtain⟨l0,l1,l2,l3,_,l5,_⟩:=Bw R
 have m1:=CH (R1.ext W x1)
 have m2:=CH (R2.ext W x1)
 refine⟨h1,?_,x1⟩
 unfold Nc
 rw[eo rfl]
 unfold d92
 by_cases h1:k.a=a
 ·have c1:iEq k.a a=true:=C4 h1
  by_cases h2:k.b=b
  ·have c2:iEq k.b b=true:=C4 h2
   have c3:iEq (k.s:Int) 2=decide (k.s=2):=by
    by_cases h3:k.s=2
    ·rw[decide_eq_true h3];exact C4 (by omega)
    ·rw[decide_eq_false h3];exact Cz (by omega)
   simp only[AJ,AK,Nat.succ_eq_add_one,Nat.zero_add,Nat.reduceAdd,sT,Nat.reduceLT,Nat.reduceEqDiff,if_true,if_false,reduceIte,gD,bx,AM,AY,Nat.zero_add,AV,Ac,l0,l1,l3,m1,m2,AS,AQ,c1,c2,c3,AP,Aa]
   rw[decide_eq_true h1,decide_eq_true h2];rfl
  ·have c2:iEq k.b b=false:=Cz h2
   simp only[AJ,AK,Nat.succ_eq_add_one,Nat.zero_add,Nat.reduceAdd,sT,Nat.reduceLT,Nat.reduceEqDiff,if_true,if_false,reduceIte,gD,bx,AM,AY,Nat.zero_add,AV,Ac,l0,l1,l3,m1,m2,AS,AQ,c1,c2,AP,Aa]
   rw[decide_eq_true h1,decide_eq_false h2];rfl
 ·have c1:iEq k.a a=false:=Cz h1
  simp only[AJ,AK,Nat.succ_eq_add_one,Nat.zero_add,Nat.reduceAdd,sT,Nat.reduceLT,Nat.reduceEqDiff,if_true,if_false,reduceIte,gD,bx,AM,AY,Nat.zero_add,AV,Ac,l0,l1,l3,m1,m2,AS,AQ,c1,AP,Aa]
  rw[decide_eq_false h1];rfl
theorem Hd(W:h.Wf){z:Int}{g:O}(hg:g e=.int .i64 z):DL g F e h=.ok (pt h.next) (h.pushRow 0 [.int .i64 z]):=by rw[Fe,hg,FR W];rfl
theorem KE(W:h.Wf)(R:h.Row A.bs 0 (slL A.bd A.tb lv fv bad ov))(K:h.KS S lv ks)(hl:ks.length≤100000)(a b c:Int):
  ∃ h',call AG (m+3) 41 [pt A.bs,.int .i64 a,.int .i64 b,.int .i64 c] h=.ok (.int .i64 (FK (Ej a b c) 0 ks)) h'∧h.Ext h':=by
 have b1:=fun (F:CallF) (e:Env) (he:AB 1 e=.int .i64 a)=>Hd (F:=F) W he
 have x1:=(Hp.Ext.refl W).pushRow 0 [.int .i64 a]
 have R1:=Hp.Row.new W 0 [.int .i64 a]
 generalize h.pushRow 0 [.int .i64 a]=h1 at b1 x1 R1
 have b2:=fun (F:CallF) (e:Env) (he:AB 2 e=.int .i64 b)=>Hd (F:=F) x1.wf he
 have y2:=(Hp.Ext.refl x1.wf).pushRow 0 [.int .i64 b]
 have R2:=Hp.Row.new x1.wf 0 [.int .i64 b]
 generalize h1.pushRow 0 [.int .i64 b]=h2 at b2 y2 R2
 have b3:=fun (F:CallF) (e:Env) (he:AB 3 e=.int .i64 c)=>Hd (F:=F) y2.wf he
 have y3:=(Hp.Ext.refl y2.wf).pushRow 0 [.int .i64 c]
 have R3:=Hp.Row.new y2.wf 0 [.int .i64 c]
 generalize h2.pushRow 0 [.int .i64 c]=h3 at b3 y3 R3
 have x3:=(x1.trans y2).trans y3
 obtain⟨_,_,_,l3,_⟩:=BN (R.ext W x3)
 obtain⟨h4,k4,x4⟩:=NW (m:=m+1) (g:=70) (caps:=[pt h.next,pt h1.next,pt h2.next]) (P:=Ej a b c) x3.wf (K.ext W x3) hl fun h' x' k _=>fo x'.wf ((R1.ext x1.wf (y2.trans y3)).ext x3.wf x') ((R2.ext y2.wf y3).ext x3.wf x') (R3.ext x3.wf x') k
 refine⟨h4,?_,x3.trans x4⟩
 rw[dw rfl]
 unfold d41
 simp only[AJ,AK,Nat.succ_eq_add_one,Nat.zero_add,Nat.reduceAdd,sT,Nat.reduceLT,Nat.reduceEqDiff,if_true,if_false,reduceIte,b1,b2,b3,A4,Az,AM,AY,Nat.zero_add,AV,Ac,l3,Dc,AN,AX,Ab,k4,AP,Aa]
theorem V9(W:h.Wf)(R:h.Row A.bs 0 (slL A.bd A.tb lv fv bad ov))(K:h.KS S lv ks)(hl:ks.length≤100000)(a b:Int):
  ∃ h',call AG (m+3) 64 [pt A.bs,.int .i64 a,.int .i64 b] h=.ok (.int .i64 (FK (Nc a b) 0 ks)) h'∧h.Ext h':=by
 have b1:=fun (F:CallF) (e:Env) (he:AB 1 e=.int .i64 a)=>Hd (F:=F) W he
 have x1:=(Hp.Ext.refl W).pushRow 0 [.int .i64 a]
 have R1:=Hp.Row.new W 0 [.int .i64 a]
 generalize h.pushRow 0 [.int .i64 a]=h1 at b1 x1 R1
 have b2:=fun (F:CallF) (e:Env) (he:AB 2 e=.int .i64 b)=>Hd (F:=F) x1.wf he
 have y2:=(Hp.Ext.refl x1.wf).pushRow 0 [.int .i64 b]
 have R2:=Hp.Row.new x1.wf 0 [.int .i64 b]
 generalize h1.pushRow 0 [.int .i64 b]=h2 at b2 y2 R2
 have x2:=x1.trans y2
 obtain⟨_,_,_,l3,_⟩:=BN (R.ext W x2)
 obtain⟨h4,k4,x4⟩:=NW (m:=m+1) (g:=92) (caps:=[pt h.next,pt h1.next]) (P:=Nc a b) x2.wf (K.ext W x2) hl fun h' x' k _=>fu x'.wf ((R1.ext x1.wf y2).ext x2.wf x') (R2.ext x2.wf x') k
 refine⟨h4,?_,x2.trans x4⟩
 rw[eL rfl]
 unfold d64
 simp only[AJ,AK,Nat.succ_eq_add_one,Nat.zero_add,Nat.reduceAdd,sT,Nat.reduceLT,Nat.reduceEqDiff,if_true,if_false,reduceIte,b1,b2,A4,Az,AM,AY,Nat.zero_add,AV,Ac,l3,Dc,AN,AX,Ab,k4,AP,Aa]
def Ns(a b c:Int)(ks:List Kt):Bool:=match ks.find? (Nc a b)with
 |some k=>decide (c≤k.c)
 |none=>false
theorem Hc(P:Kt→Bool):∀ (l:List Kt) (i:Nat),(l.find? P=none∧FK P i l= -1)∨∃ j k,l.find? P=some k∧l[j]? =some k∧FK P i l=((i+j:Nat):Int)
 |[],i=>.inl ⟨rfl,rfl⟩
 |k::l,i=>by
  unfold FK
  by_cases h:P k=true
  ·rw[if_pos h]
   exact .inr ⟨0,k,by rw[List.find?_cons_of_pos h],rfl,rfl⟩
  ·rw[if_neg h]
   rcases Hc P l (i+1)with ⟨h1,h2⟩|⟨j,k',h1,h2,h4⟩
   ·exact .inl ⟨by rw[List.find?_cons_of_neg h];exact h1,h2⟩
   ·exact .inr ⟨j+1,k',by rw[List.find?_cons_of_neg h];exact h1,by rw[List.getElem?_cons_succ];exact h2,by rw[h4];congr 1;omega⟩
theorem P8(W:h.Wf)(R:h.Row A.bs 0 (slL A.bd A.tb lv fv bad ov))(K:h.KS S lv ks)(hl:ks.length≤100000)(a b c:Int):
  ∃ h',call AG (m+4) 43 [pt A.bs,.int .i64 a,.int .i64 b,.int .i64 c] h=.ok (.bool (Ns a b c ks)) h'∧h.Ext h':=by
 obtain⟨h1,k1,x1⟩:=V9 (m:=m) W R K hl a b
 refine⟨h1,?_,x1⟩
 unfold Ns
 rw[dy rfl]
 unfold d43
 rcases Hc (Nc a b) ks 0 with ⟨e1,e2⟩|⟨j,k,e1,e2,e3⟩
 ·rw[e2]at k1
  have c1:iGe (-1) 0=false:=FZ (by omega)
  simp only[AJ,AK,Nat.succ_eq_add_one,Nat.zero_add,Nat.reduceAdd,sT,Nat.reduceLT,Nat.reduceEqDiff,if_true,if_false,reduceIte,gD,Ab,AN,AX,k1,AS,AQ,c1,AP,Aa,e1]
 ·rw[e3,Nat.zero_add]at k1
  have c1:iGe (j:Int) 0=true:=Jr (by omega)
  obtain⟨b',_,ix,_,ld⟩:=(K.ext W x1).at e2
  have l2:=ld 2 (.int .i64 k.c) rfl
  obtain⟨_,_,_,l3,_⟩:=BN (R.ext W x1)
  have c2:iGe k.c c=decide (c≤k.c):=NM _ _
  simp only[AJ,AK,Nat.succ_eq_add_one,Nat.zero_add,Nat.reduceAdd,sT,Nat.reduceLT,Nat.reduceEqDiff,if_true,if_false,reduceIte,gD,Ab,AN,AX,k1,AS,AQ,c1,A4,Az,AM,AY,Nat.zero_add,Nat.add_zero,AV,Ac,l3,Bb,ix,l2,c2,AP,Aa,e1]
end
end
noncomputable section
open Go
set_option maxRecDepth 100000
def Cv(a b:Int):Int:=if a<b then -1 else if b<a then 1 else 0
def orZ:List Int→Int
 |[]=>0
 |z::l=>if z=0 then orZ l else z
def Tx(x y:Kt):Int:=orZ [Cv x.a y.a,Cv x.b y.b,Cv x.c y.c,Cv x.p y.p]
theorem LC{e:Env}{h:Hp}:EK [] e h=.ok noRes h:=rfl
section
variable {F:CallF}{e:Env}{h h':Hp}{S:Nat→Prop}{A:At}{T M:List Nat}{c0 bad m:Nat}{arm:Int}{ks:List Kt}{fr:List Nat}{v lv fv:Value}{ov:Bool}
theorem fG{a b:Int}:call AG (m+2) 80 [.int .i64 a,.int .i64 b] h=.ok (.int .i64 (Cv a b)) h:=by
 have n1:∀ z:Int,call AG (m+1) 107 [.int .i64 z] h=.ok (.bool false) h:=fun z=>by
  have c1:iNe z z=false:=Db rfl
  rw[X8 rfl]
  unfold YN
  simp only[AJ,AK,Nat.succ_eq_add_one,Nat.zero_add,Nat.reduceAdd,sT,Nat.reduceLT,Nat.reduceEqDiff,if_true,if_false,reduceIte,AS,AQ,c1,AP,Aa]
 unfold Cv
 rw[eX rfl]
 unfold d80
 by_cases h1:a<b
 ·have c1:iLt a b=true:=Oj h1
  rw[if_pos h1]
  simp only[AJ,AK,Nat.succ_eq_add_one,Nat.zero_add,Nat.reduceAdd,sT,Nat.reduceLT,Nat.reduceEqDiff,if_true,if_false,reduceIte,Ab,AN,AX,n1,AS,AQ,c1,AP,Aa]
 ·have c1:iLt a b=false:=F6 h1
  rw[if_neg h1]
  by_cases h2:b<a
  ·have c2:iGt a b=true:=Hz h2
   rw[if_pos h2]
   simp only[AJ,AK,Nat.succ_eq_add_one,Nat.zero_add,Nat.reduceAdd,sT,Nat.reduceLT,Nat.reduceEqDiff,if_true,if_false,reduceIte,Ab,AN,AX,n1,AS,AQ,c1,c2,AP,Aa]
  ·have c2:iGt a b=false:=Gk h2
   rw[if_neg h2]
   simp only[AJ,AK,Nat.succ_eq_add_one,Nat.zero_add,Nat.reduceAdd,sT,Nat.reduceLT,Nat.reduceEqDiff,if_true,if_false,reduceIte,Ab,AN,AX,n1,AS,AQ,c1,c2,AP,Aa]
def orB:C:=(AF (AC 9) (Ad iLt .i64 (AB 8) (AB 7))
(AW (AB 9)
(A5 (Ah 1 (AF (AC 10) (Bp 1 (AB 6) (AB 8))
(AF (AC 11) (AL (AB 10))
(AF (AC 5) (AD (AB 11))
(AF (AC 14) (Ad iNe .i64 (AB 5) (AB 3))
(AW (AB 14)
(AF (AC 2) (AD (AB 5))
Aj)
Ai))))))
(AF (AC 16) (Bh .i64 (Ax .i64) (AB 8) (kV (.int .i64 1)))
(AF (AC 8) (AD (AB 16))
Ai)))
(Bc 0)))
def orE:C:=AF (AC 2) (AD (AB 3)) Aj
theorem Wl:orS=A5 (Ah 0 (A1 orB)) orE:=rfl
theorem VK:d79=Yc:=rfl
theorem kQ{zs:List Int}(V:h.Vals v (ints .i64 zs))(hl:zs.length≤1000):call AG (m+1) 79 [v] h=.ok (.int .i64 (orZ zs)) h:=by
 have hil:(ints .i64 zs).length=zs.length:=List.length_map ..
 have ln:=V.len
 rw[hil]at ln
 have pre:∃ e1,Yc (call AG m) (AZ e0 0 [v]) h=orS (call AG m) e1 h∧AB 3 e1=.int .i64 0∧AB 6 e1=v∧AB 7 e1=.int .i64 (zs.length:Int)∧AB 8 e1=.int .i64 ((0:Nat):Int):=by
  unfold Yc
  simp only[AJ,AK,Nat.succ_eq_add_one,Nat.zero_add,Nat.reduceAdd,sT,Nat.reduceLT,Nat.reduceEqDiff,if_true,if_false,reduceIte,Ay,ln]
  exact⟨_,rfl,by simp[AE],by simp[AE],by simp[AE],by simp only[AE,Nat.reduceLT,Nat.reduceEqDiff,if_true,if_false,reduceIte];rfl⟩
 obtain⟨e1,p1,s3,s6,s7,s8⟩:=pre
 have run:(∃ e',A1 orB (call AG m) e1 h=.exit 0 e' h∧orZ zs=0∧AB 3 e'=.int .i64 0)∨(∃ e',A1 orB (call AG m) e1 h=.ret e' h∧AB 2 e'=.int .i64 (orZ zs)):=by
  refine Bz (I:=fun i e' h'=>h'=h∧AB 3 e'=.int .i64 0∧AB 6 e'=v∧AB 7 e'=.int .i64 (zs.length:Int)∧AB 8 e'=.int .i64 (i:Int)∧i≤zs.length∧orZ zs=orZ (zs.drop i))
   (Q:=fun x=>(∃ e',x=.exit 0 e' h∧orZ zs=0∧AB 3 e'=.int .i64 0)∨(∃ e',x=.ret e' h∧AB 2 e'=.int .i64 (orZ zs))) zs.length (by omega) (fun i e' h' ⟨hh,t3,t6,t7,t8,hi,hr⟩=>?_) ⟨rfl,s3,s6,s7,s8,Nat.zero_le _,by rw[List.drop_zero]⟩
  subst hh
  by_cases hlt:i<zs.length
  ·obtain⟨a,g1,g2⟩:=V.at (i:=i) (by rw[hil];exact hlt)
   obtain⟨z,hz⟩:∃ z,zs[i]? =some z:=⟨_,List.getElem?_eq_getElem hlt⟩
   have g2:Gl (.pointer (some a)) h'=.ok (.int .i64 z) h':=by
    rw[g2]
    have:(ints .i64 zs).getD i noRes=.int .i64 z:=by
     rw[List.getD_eq_getElem?_getD]
     simp[ints,hz]
    rw[this]
   have hd:zs.drop i=z::zs.drop (i+1):=by
    rw[List.drop_eq_getElem_cons hlt]
    rw[List.getElem?_eq_getElem hlt]at hz
    rw[Option.some.inj hz]
   rw[hd]at hr
   have hr:orZ zs=if z=0 then orZ (zs.drop (i+1))else z:=hr
   have c1:=E8 hlt
   by_cases h0:z=0
   ·left
    rw[if_pos h0]at hr
    have c2:iNe z 0=false:=Db h0
    have a3:=C1 (i:=i) (h:=h') (by omega)
    have hrun:∃ e2,orB (call AG m) e' h'=.norm e2 h'∧AB 3 e2=.int .i64 0∧AB 6 e2=v∧AB 7 e2=.int .i64 (zs.length:Int)∧AB 8 e2=.int .i64 ((i+1:Nat):Int):=by
     unfold orB
     simp only[sT,Nat.reduceLT,Nat.reduceEqDiff,if_true,if_false,reduceIte,AS,AQ,t8,t7,c1,Bb,t6,g1,AV,g2,t3,c2,BZ,a3]
     exact⟨_,rfl,by simp only[AE,Nat.reduceLT,Nat.reduceEqDiff,if_true,if_false,reduceIte];exact t3,by simp only[AE,Nat.reduceLT,Nat.reduceEqDiff,if_true,if_false,reduceIte];exact t6,by simp only[AE,Nat.reduceLT,Nat.reduceEqDiff,if_true,if_false,reduceIte];exact t7,by simp[AE]⟩
    obtain⟨e2,r1,r2,r3,r4,r5⟩:=hrun
    exact⟨hlt,e2,h',r1,rfl,r2,r3,r4,r5,by omega,hr⟩
   ·right
    rw[if_neg h0]at hr
    have c2:iNe z 0=true:=Me h0
    have hrun:∃ e2,orB (call AG m) e' h'=.ret e2 h'∧AB 2 e2=.int .i64 z:=by
     unfold orB
     simp only[sT,Nat.reduceLT,Nat.reduceEqDiff,if_true,if_false,reduceIte,AS,AQ,t8,t7,c1,Bb,t6,g1,AV,g2,t3,c2]
     exact⟨_,rfl,by simp[AE]⟩
    obtain⟨e2,r1,r2⟩:=hrun
    rw[r1]
    exact⟨rfl,.inr ⟨e2,rfl,by rw[r2,hr]⟩⟩
  ·right
   have c1:=DU (show zs.length≤i by omega)
   have hrun:∃ e2,orB (call AG m) e' h'=.exit 0 e2 h'∧AB 3 e2=.int .i64 0:=by
    unfold orB
    simp only[sT,Nat.reduceLT,Nat.reduceEqDiff,if_true,if_false,reduceIte,AS,AQ,t8,t7,c1]
    exact⟨_,rfl,by simp only[AE,Nat.reduceLT,Nat.reduceEqDiff,if_true,if_false,reduceIte];exact t3⟩
   obtain⟨e2,r1,r2⟩:=hrun
   rw[r1]
   exact⟨rfl,.inl ⟨e2,rfl,by rw[hr,List.drop_of_length_le (by omega)];rfl,r2⟩⟩
 rcases run with ⟨e2,r1,r2,r3⟩|⟨e2,r1,r2⟩
 ·rw[U2 rfl,VK,p1,Wl,r2]
  simp only[BU,A3,r1,A9,BH]
  unfold orE
  simp only[sT,Nat.reduceLT,Nat.reduceEqDiff,if_true,if_false,reduceIte,r3,AP,Aa]
 ·rw[U2 rfl,VK,p1,Wl]
  simp only[BU,A3,r1,CY,DD,AP,Aa,r2]
theorem iP:BG ty3.zero 4=[.int .i64 0,.int .i64 0,.int .i64 0,.int .i64 0]:=by kernel_rfl
theorem TN(W:h.Wf){g1 g2 g3 g4:O}{a b c d:Int}(h1:g1 e=.int .i64 a)(h2:g2 e=.int .i64 b)(h3:g3 e=.int .i64 c)(h4:g4 e=.int .i64 d):
  Af 4 (BG ty3.zero 4) [(0,1,g1),(1,1,g2),(2,1,g3),(3,1,g4)] F e h=.ok (.slice (some ⟨h.next,0,none⟩) 4 4) (h.pushRow 0 (ints .i64 [a,b,c,d])):=by
 rw[Ck,iP,BC (hk:=by rw[h1];rfl),h1,BC (hk:=by rw[h2];rfl),h2,BC (hk:=by rw[h3];rfl),h3,BC (hk:=by rw[h4];rfl),h4]
 simp only[EG,List.length_singleton,List.length_cons,List.length_nil,over,List.take,List.drop,List.append_eq,List.nil_append,List.cons_append,Nat.reduceAdd,Nat.reduceLeDiff,if_true,CV,reduceIte]
 rw[DH W];rfl
theorem gi(W:h.Wf)(x y:Kt):∃ h',call AG (m+3) 51 [ktV x,ktV y] h=.ok (.int .i64 (Tx x y)) h'∧h.Ext h':=by
 have b1:=fun (F:CallF) (e:Env) (he:AB 0 e=ktV x)=>G9 (F:=F) W he
 have x1:=(Hp.Ext.refl W).pushRow 0 (Al x)
 have R1:=Hp.Row.new W 0 (Al x)
 have n1:(h.pushRow 0 (Al x)).next=h.next+1:=rfl
 generalize h.pushRow 0 (Al x)=h1 at b1 x1 R1 n1
 have b2:=fun (F:CallF) (e:Env) (he:AB 1 e=ktV y)=>G9 (F:=F) x1.wf he
 have y2:=(Hp.Ext.refl x1.wf).pushRow 0 (Al y)
 have R2:=Hp.Row.new x1.wf 0 (Al y)
 have n2:(h1.pushRow 0 (Al y)).next=h1.next+1:=rfl
 generalize h1.pushRow 0 (Al y)=h2 at b2 y2 R2 n2
 have x2:=(x1.trans y2).marked
 have R1m:h2.marked.Row h.next 0 (Al x):=(R1.ext x1.wf y2).same rfl
 have R2m:h2.marked.Row h1.next 0 (Al y):=R2.same rfl
 have mk:h2.marked.mark=h2.next:=rfl
 have nx:h2.marked.next=h2.next:=rfl
 generalize hg0:h2.marked=g0 at x2 R1m R2m mk nx
 have wk:∀ (g:Hp) (W:g.Wf) (hm:g.mark≤g.next) (mm:Qm) (i j:Nat) (a b:Int) (e:Env),AB i e=.int .i64 a→AB j e=.int .i64 b→Ak mm (AO 80 [AB i,AB j]) (call AG (m+2)) e g=.ok (.int .i64 (Cv a b)) (g.back g.quiet):=fun g W hm mm i j a b e e1 e2=>by
  refine HL W ?_ hm
  rw[Ab,AN,AN,AX,e1,e2];exact fG
 have bk:∀ g:Hp,g.Wf→g.Ext (g.back g.quiet)∧(g.back g.quiet).next=g.next∧(g.back g.quiet).mark=g.mark:=fun g W=>⟨Hp.Ext.back2 (.refl W) (Hp.Ext.refl W).quiet,rfl,rfl⟩
 have ol:∀ (g:Hp) (hm:g.mark=h2.next) (r off:Nat) (kk:C) (F:CallF) (e:Env),r<h2.next→Ja (.pointer (some ⟨r,off,none⟩)) kk F e g=kk F e g:=fun g hm r off kk F e hr=>D7 (by rw[hm];exact hr)
 obtain⟨l0,_⟩:=Bw R1m
 obtain⟨k0,_⟩:=Bw R2m
 have w1:=wk g0 x2.wf (by omega) .weak 7 10 x.a y.a
 obtain⟨z1,v1,u1⟩:=bk g0 x2.wf
 generalize g0.back g0.quiet=g1 at w1 z1 v1 u1
 have o1:=ol g1 (u1.trans mk)
 obtain⟨_,l1,_⟩:=Bw (R1m.ext x2.wf z1)
 obtain⟨_,k1,_⟩:=Bw (R2m.ext x2.wf z1)
 have w2:=wk g1 z1.wf (by omega) .weak 14 17 x.b y.b
 obtain⟨z2',v2,u2⟩:=bk g1 z1.wf
 generalize g1.back g1.quiet=g2 at w2 z2' v2 u2
 have z2:=z1.trans z2'
 have o2:=ol g2 (by omega)
 obtain⟨_,_,l2,_⟩:=Bw (R1m.ext x2.wf z2)
 obtain⟨_,_,k2,_⟩:=Bw (R2m.ext x2.wf z2)
 have w3:=wk g2 z2.wf (by omega) .weak 21 24 x.c y.c
 obtain⟨z3',v3,u3⟩:=bk g2 z2.wf
 generalize g2.back g2.quiet=g3 at w3 z3' v3 u3
 have z3:=z2.trans z3'
 have o3:=ol g3 (by omega)
 obtain⟨_,_,_,_,_,l5,_⟩:=Bw (R1m.ext x2.wf z3)
 obtain⟨_,_,_,_,_,k5,_⟩:=Bw (R2m.ext x2.wf z3)
 have w4:=wk g3 z3.wf (by omega) .free 27 29 x.p y.p
 obtain⟨z4',v4,u4⟩:=bk g3 z3.wf
 generalize g3.back g3.quiet=g4 at w4 z4' v4 u4
 have z4:=z3.trans z4'
 have q5:∀ (F:CallF) (e:Env),AB 11 e=.int .i64 (Cv x.a y.a)→AB 18 e=.int .i64 (Cv x.b y.b)→AB 25 e=.int .i64 (Cv x.c y.c)→AB 30 e=.int .i64 (Cv x.p y.p)→Ak .strong (Af 4 (BG ty3.zero 4) [(0,1,AB 11),(1,1,AB 18),(2,1,AB 25),(3,1,AB 30)]) F e g4=.ok (.slice (some ⟨g4.next,0,none⟩) 4 4) (g4.back (g4.quiet.pushRow 0 (ints .i64 [Cv x.a y.a,Cv x.b y.b,Cv x.c y.c,Cv x.p y.p]))):=fun F e e1 e2 e3 e4=>DQ (TN z4.wf.quiet e1 e2 e3 e4) ((Hp.Ext.refl z4.wf.quiet).pushRow _ _) (by omega)
 have y5:g4.Ext (g4.back (g4.quiet.pushRow 0 (ints .i64 [Cv x.a y.a,Cv x.b y.b,Cv x.c y.c,Cv x.p y.p]))):=.back ((Hp.Ext.refl z4.wf.quiet).pushRow _ _)
 have R5:(g4.back (g4.quiet.pushRow 0 (ints .i64 [Cv x.a y.a,Cv x.b y.b,Cv x.c y.c,Cv x.p y.p]))).Row g4.next 0 (ints .i64 [Cv x.a y.a,Cv x.b y.b,Cv x.c y.c,Cv x.p y.p]):=(Hp.Row.new z4.wf.quiet 0 (ints .i64 [Cv x.a y.a,Cv x.b y.b,Cv x.c y.c,Cv x.p y.p])).same rfl
 generalize g4.back (g4.quiet.pushRow 0 (ints .i64 [Cv x.a y.a,Cv x.b y.b,Cv x.c y.c,Cv x.p y.p]))=g5 at q5 y5 R5
 have z5:=z4.trans y5
 have k6:=kQ (m:=m+1) (h:=g5.quiet) (v:=.slice (some ⟨g4.next,0,none⟩) 4 4) (zs:=[Cv x.a y.a,Cv x.b y.b,Cv x.c y.c,Cv x.p y.p]) (.inr ⟨g4.next,0,4,0,_,rfl,R5.same rfl,Nat.le_refl _,rfl⟩) (by show 4≤1000;omega)
 have q6:∀ e:Env,AB 31 e=.slice (some ⟨g4.next,0,none⟩) 4 4→Ak .free (AO 79 [AB 31]) (call AG (m+2)) e g5=.ok (.int .i64 (Tx x y)) (g5.back g5.quiet):=fun e e1=>by
  refine Bq ?_
  rw[Ab,AN,AX,e1];exact k6
 refine⟨g5.back g5.quiet,?_,(x2.trans z5).trans (bk g5 z5.wf).1⟩
 rw[eA rfl]
 unfold d51
 have hx1:h.next<h2.next:=by omega
 have hx2:h1.next<h2.next:=by omega
 have o11:=fun off kk F e=>o1 h.next off kk F e hx1
 have o12:=fun off kk F e=>o1 h1.next off kk F e hx2
 have o21:=fun off kk F e=>o2 h.next off kk F e hx1
 have o22:=fun off kk F e=>o2 h1.next off kk F e hx2
 have o31:=fun off kk F e=>o3 h.next off kk F e hx1
 have o32:=fun off kk F e=>o3 h1.next off kk F e hx2
 simp only[AJ,AK,Nat.succ_eq_add_one,Nat.zero_add,Nat.reduceAdd,sT,Nat.reduceLT,Nat.reduceEqDiff,if_true,if_false,reduceIte,b1,b2,BD,hg0,AM,AY,Nat.zero_add,Nat.add_zero,AV,Ac,l0,k0,w1,EW,o11,o12,DY,l1,k1,w2,o21,o22,l2,k2,w3,o31,o32,l5,k5,w4,q5,q6,AP,Aa]
theorem TU{body:C}{i:Nat}{e':Env}(hb:body F e h=.exit i e' h'):A1 body F e h=.exit i e' h':=by
 show iter body (8796093022207+1) F e h=_
 unfold iter
 rw[hb]
def jnB:C:=(Bm (AF (AC 20) (Ad iGt .i64 (AB 9) (AB 1))
(cG (AB 20) true (AC 22) (AD (AB 3))
(cG (AB 20) true (AC 23) (AD (AB 0))
(cG (AB 20) true (AC 24) (AD (AB 9))
(cG (AB 20) true (AC 25) (Bp 6 (AB 23) (AB 24))
(cG (AB 20) true (AC 26) (BE 6 (AB 25))
(cG (AB 20) true (AC 27) (AD (AB 0))
(cG (AB 20) true (AC 28) (AD (AB 9))
(cG (AB 20) true (AC 29) (B9 Int.sub .i64 (AB 28) (kV (.int .i64 1)))
(cG (AB 20) true (AC 30) (Bp 6 (AB 27) (AB 29))
(cG (AB 20) true (AC 31) (BE 6 (AB 30))
(cG (AB 20) true (AC 32) (Ak .free (B0 (AB 22) [(AB 26),(AB 31)]))
(cG (AB 20) true (AC 33) (Ad iLt .i64 (AB 32) (kV (.int .i64 0)))
(AF (AC 34) (Am (AB 20) (AB 33) (kV (.bool false)))
(AW (AB 34)
(A5 (Ah 3 (Bm (AF (AC 41) (B9 Int.sub .i64 (AB 9) (kV (.int .i64 1)))
(AF (AC 44) (B9 Int.sub .i64 (AB 9) (kV (.int .i64 1)))
(AF (AC 45) (Bp 6 (AB 0) (AB 44))
(AF (AC 46) (BE 6 (AB 45))
(AF (AC 49) (Bp 6 (AB 0) (AB 9))
(AF (AC 50) (BE 6 (AB 49))
(AF (AC 51) (Bp 6 (AB 0) (AB 9))
(cDo (Ak .free (Ae 6 (AB 51) (AB 46)))
(AF (AC 52) (Bp 6 (AB 0) (AB 41))
(cDo (Ak .free (Ae 6 (AB 52) (AB 50)))
Ai))))))))))))
(AF (AC 36) (B9 Int.sub .i64 (AB 9) (kV (.int .i64 1)))
(AF (AC 9) (AD (AB 36))
Ai)))
(Bc 2)))))))))))))))))
def gQ:C:=(AF (AC 14) (Ad iLt .i64 (AB 8) (AB 2))
(AW (AB 14)
(A5 (Ah 1 (AF (AC 9) (AD (AB 8))
(Ah 2 (A1 jnB))))
(AF (AC 16) (Bh .i64 (Ax .i64) (AB 8) (kV (.int .i64 1)))
(AF (AC 8) (AD (AB 16))
Ai)))
(Bc 0)))
theorem Vk:jsB=gQ:=rfl
theorem fe:d97=ff:=rfl
theorem j9(W:h.Wf)(K:h.KS S v ks)(hl:ks.length≤1000)(hs:∀ (i:Nat) (x y:Kt),ks[i]? =some x→ks[i+1]? =some y→0≤Tx y x):
  ∃ h',call AG (m+4) 97 [v,.int .i64 0,.int .i64 (ks.length:Int),.func (.func 51) ⟨[]⟩ ⟨[]⟩] h=.ok noRes h'∧h.Ext h':=by
 have run:∀ e1:Env,AB 0 e1=v→AB 1 e1=.int .i64 0→AB 2 e1=.int .i64 (ks.length:Int)→AB 3 e1=.func (.func 51) ⟨[]⟩ ⟨[]⟩→AB 8 e1=.int .i64 ((1:Nat):Int)→∃ e' h',A1 jsB (call AG (m+3)) e1 h=.exit 0 e' h'∧h.Ext h':=fun e1 s0 s1 s2 s3 s8=>by
  refine Bz (I:=fun i e' h'=>h.Ext h'∧AB 0 e'=v∧AB 1 e'=.int .i64 0∧AB 2 e'=.int .i64 (ks.length:Int)∧AB 3 e'=.func (.func 51) ⟨[]⟩ ⟨[]⟩∧AB 8 e'=.int .i64 ((i+1:Nat):Int)) (Q:=fun x=>∃ e' h',x=.exit 0 e' h'∧h.Ext h') ks.length (by omega) (fun i e' h' ⟨x',t0,t1,t2,t3,t8⟩=>?_) ⟨.refl W,s0,s1,s2,s3,s8⟩
  by_cases hlt:i+1<ks.length
  ·left
   have c1:iLt ((i+1:Nat):Int) (ks.length:Int)=true:=E8 hlt
   have c2:iGt ((i+1:Nat):Int) 0=true:=Hz (by omega)
   obtain⟨y,hy⟩:∃ y,ks[i+1]? =some y:=⟨_,List.getElem?_eq_getElem hlt⟩
   obtain⟨x,hx⟩:∃ x,ks[i]? =some x:=⟨_,List.getElem?_eq_getElem (by omega)⟩
   have x1:=x'.marked
   have K1:=K.ext W x1
   obtain⟨b,_,ix,ld,_⟩:=K1.at hy
   obtain⟨b',_,ix',ld',_⟩:=K1.at hx
   have a1:Hu Int.sub .i64 (.int .i64 ((i+1:Nat):Int)) (.int .i64 1) h'.marked=.ok (.int .i64 (i:Int)) h'.marked:=by
    have:Int.sub ((i+1:Nat):Int) 1=(i:Int):=by
     show((i+1:Nat):Int) - 1=_
     omega
    rw[DI,this,Br (by omega)]
   obtain⟨h2,k2,x2⟩:=gi (m:=m) x1.quiet.wf y x
   have q2:∀ e:Env,AB 22 e=.func (.func 51) ⟨[]⟩ ⟨[]⟩→AB 26 e=ktV y→AB 31 e=ktV x→Ak .free (B0 (AB 22) [AB 26,AB 31]) (call AG (m+3)) e h'.marked=.ok (.int .i64 (Tx y x)) (h'.marked.back h2):=fun e e1 e2 e3=>by
    refine Bq ?_
    rw[Ci,AN,AN,AX,e1,e2,e3];exact k2
   have y2:h'.marked.Ext (h'.marked.back h2):=.back x2
   generalize h'.marked.back h2=h3 at q2 y2
   have x3:=x1.trans y2
   have c3:iLt (Tx y x) 0=false:=F6 (by have:=hs i x y hx hy;omega)
   have a3:Gn .i64 (.int .i64 ((i+1:Nat):Int)) (.int .i64 1) h3=.ok (.int .i64 ((i+1+1:Nat):Int)) h3:=C1 (by omega)
   have inn:∀ e:Env,AB 0 e=v→AB 1 e=.int .i64 0→AB 3 e=.func (.func 51) ⟨[]⟩ ⟨[]⟩→AB 9 e=.int .i64 ((i+1:Nat):Int)→∃ e2,jnB (call AG (m+3)) e h'=.exit 2 e2 h3∧∀ j,j=0∨j=1∨j=2∨j=3∨j=8→AB j e2=AB j e:=fun e t0 t1 t3 t9=>by
    unfold jnB
    simp only[sT,Nat.reduceLT,Nat.reduceEqDiff,if_true,if_false,reduceIte,gD,BD,AS,AQ,t9,t1,c2,t3,t0,Bb,ix,ix',BP,BF,ld,ld',DK,a1,q2,c3]
    refine⟨_,rfl,fun j hj=>?_⟩
    rcases hj with rfl|rfl|rfl|rfl|rfl<;>simp only[AE,Nat.reduceLT,Nat.reduceEqDiff,if_true,if_false,reduceIte]
   obtain⟨e2,i1,i2⟩:=inn (Env.set 9 (.int .i64 ((i+1:Nat):Int)) (Env.set 14 (.bool true) e')) (by simp only[AE,Nat.reduceLT,Nat.reduceEqDiff,if_true,if_false,reduceIte];exact t0) (by simp only[AE,Nat.reduceLT,Nat.reduceEqDiff,if_true,if_false,reduceIte];exact t1) (by simp only[AE,Nat.reduceLT,Nat.reduceEqDiff,if_true,if_false,reduceIte];exact t3) (by simp[AE])
   have i1:=TU i1
   have g0:=i2 0 (by omega)
   have g1:=i2 1 (by omega)
   have g2:=i2 2 (by omega)
   have g3:=i2 3 (by omega)
   have g8:=i2 8 (by omega)
   simp only[AE,Nat.reduceLT,Nat.reduceEqDiff,if_true,if_false,reduceIte,t0]at g0
   simp only[AE,Nat.reduceLT,Nat.reduceEqDiff,if_true,if_false,reduceIte,t1]at g1
   simp only[AE,Nat.reduceLT,Nat.reduceEqDiff,if_true,if_false,reduceIte,t2]at g2
   simp only[AE,Nat.reduceLT,Nat.reduceEqDiff,if_true,if_false,reduceIte,t3]at g3
   simp only[AE,Nat.reduceLT,Nat.reduceEqDiff,if_true,if_false,reduceIte,t8]at g8
   have hrun:∃ e3,jsB (call AG (m+3)) e' h'=.norm e3 h3∧AB 0 e3=v∧AB 1 e3=.int .i64 0∧AB 2 e3=.int .i64 (ks.length:Int)∧AB 3 e3=.func (.func 51) ⟨[]⟩ ⟨[]⟩∧AB 8 e3=.int .i64 ((i+1+1:Nat):Int):=by
    rw[Vk]
    unfold gQ
    simp only[sT,Nat.reduceLT,Nat.reduceEqDiff,if_true,if_false,reduceIte,AS,AQ,t8,t2,c1,i1,g8,BZ,a3]
    exact⟨_,rfl,by simp only[AE,Nat.reduceLT,Nat.reduceEqDiff,if_true,if_false,reduceIte];exact g0,by simp only[AE,Nat.reduceLT,Nat.reduceEqDiff,if_true,if_false,reduceIte];exact g1,by simp only[AE,Nat.reduceLT,Nat.reduceEqDiff,if_true,if_false,reduceIte];exact g2,by simp only[AE,Nat.reduceLT,Nat.reduceEqDiff,if_true,if_false,reduceIte];exact g3,by simp[AE]⟩
   obtain⟨e3,r1,r2,r3,r4,r5,r6⟩:=hrun
   exact⟨by omega,e3,h3,r1,x3,r2,r3,r4,r5,r6⟩
  ·right
   have c1:iLt ((i+1:Nat):Int) (ks.length:Int)=false:=DU (by omega)
   have hrun:∃ e3,jsB (call AG (m+3)) e' h'=.exit 0 e3 h':=by
    rw[Vk]
    unfold gQ
    simp only[sT,Nat.reduceLT,Nat.reduceEqDiff,if_true,if_false,reduceIte,AS,AQ,t8,t2,c1]
    exact⟨_,rfl⟩
   obtain⟨e3,r1⟩:=hrun
   rw[r1]
   exact⟨rfl,e3,h',rfl,x'⟩
 have a1:Gn .i64 (.int .i64 0) (.int .i64 1) h=.ok (.int .i64 ((1:Nat):Int)) h:=C1 (i:=0) (by omega)
 obtain⟨e2,h2,r1,x2⟩:=run (Env.set 8 (.int .i64 ((1:Nat):Int)) (Env.set 11 (.int .i64 ((1:Nat):Int)) (AZ e0 0 [v,.int .i64 0,.int .i64 (ks.length:Int),.func (.func 51) ⟨[]⟩ ⟨[]⟩]))) (by simp only[AJ,AK,Nat.succ_eq_add_one,Nat.zero_add,Nat.reduceAdd,AE,Nat.reduceLT,Nat.reduceEqDiff,if_true,if_false,reduceIte]) (by simp only[AJ,AK,Nat.succ_eq_add_one,Nat.zero_add,Nat.reduceAdd,AE,Nat.reduceLT,Nat.reduceEqDiff,if_true,if_false,reduceIte]) (by simp only[AJ,AK,Nat.succ_eq_add_one,Nat.zero_add,Nat.reduceAdd,AE,Nat.reduceLT,Nat.reduceEqDiff,if_true,if_false,reduceIte]) (by simp only[AJ,AK,Nat.succ_eq_add_one,Nat.zero_add,Nat.reduceAdd,AE,Nat.reduceLT,Nat.reduceEqDiff,if_true,if_false,reduceIte]) (by simp[AE])
 simp only[AJ,AK,Nat.succ_eq_add_one,Nat.zero_add,Nat.reduceAdd]at r1
 refine⟨h2,?_,x2⟩
 rw[eu rfl,fe]
 unfold ff
 simp only[AJ,AK,Nat.succ_eq_add_one,Nat.zero_add,Nat.reduceAdd,sT,Nat.reduceLT,Nat.reduceEqDiff,if_true,if_false,reduceIte,BZ,a1,r1,LQ,LC]
theorem fb:d77=fc:=rfl
def pdT:C:=(AF (AC 32) (Ad iEq .i64 (AB 3) (kV (.int .i64 0)))
(AW (AB 32)
(AF (AC 37) (AO 98 [(AB 0),(AB 1),(AB 2),(AB 4)])
Aj)
(AF (AC 39) (CP (AB 10))
(A5 (AW (AB 39)
(AF (AC 44) (AO 99 [(AB 0),(AB 1),(AB 2),(AB 4)])
(AF (AC 46) (B9 Int.sub .i64 (AB 3) (kV (.int .i64 1)))
(AF (AC 3) (AD (AB 46))
Ai)))
Ai)
(AF (AC 52) (AO 100 [(AB 0),(AB 1),(AB 2),(AB 4)])
(AF (AC 53) (AU 0 (AB 52))
(AF (AC 54) (AU 1 (AB 52))
(AF (AC 13) (AD (AB 53))
(AF (AC 14) (AD (AB 54))
(AF (AC 56) (Ad iEq .i64 (AB 14) (kV (.int .i64 2)))
(A5 (AW (AB 56)
(AF (AC 61) (AO 101 [(AB 0),(AB 1),(AB 2),(AB 4)])
(AF (AC 63) (B9 Int.sub .i64 (AB 2) (kV (.int .i64 1)))
(AF (AC 66) (B9 Int.sub .i64 (AB 13) (AB 1))
(AF (AC 67) (B9 Int.sub .i64 (AB 63) (AB 66))
(AF (AC 13) (AD (AB 67))
(AF (AC 14) (AD (kV (.int .i64 1)))
Ai))))))
Ai)
(cG (AB 10) true (AC 70) (AD (AB 11))
(AF (AC 71) (Am (AB 10) (AB 70) (kV (.bool false)))
(cG (AB 71) true (AC 73) (AD (AB 14))
(cG (AB 71) true (AC 74) (Ad iEq .i64 (AB 73) (kV (.int .i64 1)))
(AF (AC 75) (Am (AB 71) (AB 74) (kV (.bool false)))
(A5 (AW (AB 75)
(AF (AC 80) (AO 102 [(AB 0),(AB 1),(AB 2),(AB 4)])
(AW (AB 80)
Aj
Ai))
Ai)
(Bm (AF (AC 82) (Ad iGt .i64 (AB 1) (kV (.int .i64 0)))
(cG (AB 82) true (AC 84) (AD (AB 4))
(cG (AB 82) true (AC 85) (AD (AB 0))
(cG (AB 82) true (AC 86) (AD (AB 1))
(cG (AB 82) true (AC 87) (B9 Int.sub .i64 (AB 86) (kV (.int .i64 1)))
(cG (AB 82) true (AC 88) (Bp 6 (AB 85) (AB 87))
(cG (AB 82) true (AC 89) (BE 6 (AB 88))
(cG (AB 82) true (AC 90) (AD (AB 0))
(cG (AB 82) true (AC 91) (AD (AB 13))
(cG (AB 82) true (AC 92) (Bp 6 (AB 90) (AB 91))
(cG (AB 82) true (AC 93) (BE 6 (AB 92))
(cG (AB 82) true (AC 94) (Ak .free (B0 (AB 84) [(AB 89),(AB 93)]))
(cG (AB 82) true (AC 95) (Ad iLt .i64 (AB 94) (kV (.int .i64 0)))
(cG (AB 82) true (AC 96) (CP (AB 95))
(AF (AC 97) (Am (AB 82) (AB 96) (kV (.bool false)))
(AW (AB 97)
(AF (AC 103) (AO 103 [(AB 0),(AB 1),(AB 2),(AB 13),(AB 4)])
(AF (AC 15) (AD (AB 103))
(AF (AC 1) (AD (AB 15))
(Bc 1))))
(AF (AC 111) (AO 104 [(AB 0),(AB 1),(AB 2),(AB 13),(AB 4)])
(AF (AC 112) (AU 0 (AB 111))
(AF (AC 113) (AU 1 (AB 111))
(AF (AC 16) (AD (AB 112))
(AF (AC 17) (AD (AB 113))
(AF (AC 11) (AD (AB 17))
(AF (AC 117) (B9 Int.sub .i64 (AB 16) (AB 1))
(AF (AC 120) (B9 Int.sub .i64 (AB 2) (AB 16))
(AF (AC 18) (AD (AB 117))
(AF (AC 19) (AD (AB 120))
(AF (AC 122) (HF .i64 (AB 12) (kV (.int .i64 8)))
(AF (AC 20) (AD (AB 122))
(AF (AC 125) (Ad iLt .i64 (AB 18) (AB 19))
(AW (AB 125)
(AF (AC 128) (Ad iGe .i64 (AB 18) (AB 20))
(AF (AC 10) (AD (AB 128))
(AF (AC 134) (AO 77 [(AB 0),(AB 1),(AB 16),(AB 3),(AB 4)])
(AF (AC 136) (Bh .i64 (Ax .i64) (AB 16) (kV (.int .i64 1)))
(AF (AC 1) (AD (AB 136))
Ai)))))
(AF (AC 139) (Ad iGe .i64 (AB 19) (AB 20))
(AF (AC 10) (AD (AB 139))
(AF (AC 142) (Bh .i64 (Ax .i64) (AB 16) (kV (.int .i64 1)))
(AF (AC 146) (AO 77 [(AB 0),(AB 142),(AB 2),(AB 3),(AB 4)])
(AF (AC 2) (AD (AB 16))
Ai)))))))))))))))))))))))))))))))))))))))))))))))))))))
def kS:C:=(Ah 1 (AF (AC 23) (B9 Int.sub .i64 (AB 2) (AB 1))
(AF (AC 12) (AD (AB 23))
(AF (AC 25) (Ad iLe .i64 (AB 12) (kV (.int .i64 12)))
(AW (AB 25)
(AF (AC 30) (AO 97 [(AB 0),(AB 1),(AB 2),(AB 4)])
Aj)
pdT)))))
theorem gj:pdB=kS:=rfl
theorem Vv{body:C}{e':Env}(hb:body F e h=.ret e' h'):A1 body F e h=.ret e' h':=by
 show iter body (8796093022207+1) F e h=_
 unfold iter
 rw[hb]
theorem Ud{x y:O}{n:Nat}{s:ByteArray}(hx:x e=.string s)(hy:y e=.int .u8 (n:Int))(hn:n<s.data.toList.length):∃ b:Nat,IF x y F e h=.ok (.int .u8 (b:Int)) h∧b<256:=by
 have e1:IF x y F e h=JC (x e) (C8 (y e)) h:=rfl
 have e2:nth s.data.toList n=some (s.data.toList[n]'hn):=by rw[E9,List.getElem?_eq_getElem hn]
 refine⟨(s.data.toList[n]'hn).toNat,?_,UInt8.toNat_lt _⟩
 rw[e1,hx,hy,DG]
 unfold JC
 simp only[e2]
 exact EQ ..
theorem X2{n:Nat}(hn:n<256):∃ k:Nat,call AG (m+2) 78 [.int .u64 (n:Int)] h=.ok (.int .i64 (k:Int)) h:=by
 have c1:iGe (n:Int) 4294967296=false:=FZ (by omega)
 have c2:iGe (n:Int) 65536=false:=FZ (by omega)
 have c3:iGe (n:Int) 256=false:=FZ (by omega)
 have v1:DZ .u8 (.int .u64 (n:Int)) h=.ok (.int .u8 (n:Int)) h:=by rw[Cy,Ht,Nat.mod_eq_of_lt hn]
 have key:∃ k:Nat,call AG (m+1) 106 [.int .u64 (n:Int)] h=.ok (.int .i64 (k:Int)) h:=by
  rw[X7 rfl]
  unfold YM
  simp only[AJ,AK,Nat.succ_eq_add_one,Nat.zero_add,Nat.reduceAdd,sT,Nat.reduceLT,Nat.reduceEqDiff,if_true,if_false,reduceIte,AS,AQ,c1,c2,c3,Cd,v1]
  obtain⟨b,hb,hlt⟩:=Ud (F:=call AG m) (h:=h) (e:=Env.set 21 (.int .u8 (n:Int)) (Env.set 14 (.bool false) (Env.set 8 (.bool false) (Env.set 4 (.bool false) (Env.set 2 (.int .i64 0) (Env.set 0 (.int .u64 (n:Int)) e0)))))) (x:=(kV (.string ⟨#[0,1,2,2,3,3,3,3,4,4,4,4,4,4,4,4,5,5,5,5,5,5,5,5,5,5,5,5,5,5,5,5,6,6,6,6,6,6,6,6,6,6,6,6,6,6,6,6,6,6,6,6,6,6,6,6,6,6,6,6,6,6,6,6,7,7,7,7,7,7,7,7,7,7,7,7,7,7,7,7,7,7,7,7,7,7,7,7,7,7,7,7,7,7,7,7,7,7,7,7,7,7,7,7,7,7,7,7,7,7,7,7,7,7,7,7,7,7,7,7,7,7,7,7,7,7,7,7,8,8,8,8,8,8,8,8,8,8,8,8,8,8,8,8,8,8,8,8,8,8,8,8,8,8,8,8,8,8,8,8,8,8,8,8,8,8,8,8,8,8,8,8,8,8,8,8,8,8,8,8,8,8,8,8,8,8,8,8,8,8,8,8,8,8,8,8,8,8,8,8,8,8,8,8,8,8,8,8,8,8,8,8,8,8,8,8,8,8,8,8,8,8,8,8,8,8,8,8,8,8,8,8,8,8,8,8,8,8,8,8,8,8,8,8,8,8,8,8,8,8,8,8,8,8,8,8]⟩))) (y:=AB 21) (n:=n) rfl (by simp[AE]) (by
   refine Nat.lt_of_lt_of_eq hn ?_
   kernel_rfl)
  rw[hb]
  have v2:DZ .i64 (.int .u8 (b:Int)) h=.ok (.int .i64 (b:Int)) h:=by rw[Cy,Br (by omega)]
  have a2:Gn .i64 (.int .i64 0) (.int .i64 (b:Int)) h=.ok (.int .i64 (b:Int)) h:=by
   have:=Kf (h:=h) (a:=0) (b:=b) (by omega)
   rw[Nat.zero_add]at this;exact this
  simp only[sT,Nat.reduceLT,Nat.reduceEqDiff,if_true,if_false,reduceIte,Cd,v2,BZ,a2,AP,Aa]
  exact⟨b,rfl⟩
 obtain⟨k,hk⟩:=key
 refine⟨k,?_⟩
 rw[eW rfl]
 unfold d78
 simp only[AJ,AK,Nat.succ_eq_add_one,Nat.zero_add,Nat.reduceAdd,sT,Nat.reduceLT,Nat.reduceEqDiff,if_true,if_false,reduceIte,Ab,AN,AX,hk,AP,Aa]
theorem Sq(W:h.Wf)(K:h.KS S v ks)(hl:ks.length≤12)(hs:∀ (i:Nat) (x y:Kt),ks[i]? =some x→ks[i+1]? =some y→0≤Tx y x):
  ∃ h',call AG (m+6) 50 [v,.func (.func 51) ⟨[]⟩ ⟨[]⟩] h=.ok noRes h'∧h.Ext h':=by
 have ln:=K.len h
 obtain⟨h2,k2,x2⟩:=j9 (m:=m) W K (by omega) hs
 obtain⟨k,kb⟩:=X2 (m:=m+3) (h:=h) (n:=ks.length) (by omega)
 have cv:DZ .u64 (.int .i64 (ks.length:Int)) h=.ok (.int .u64 (ks.length:Int)) h:=by rw[Cy,FI (by omega)]
 have a1:Hu Int.sub .i64 (.int .i64 (ks.length:Int)) (.int .i64 0) h=.ok (.int .i64 (ks.length:Int)) h:=by
  have:Int.sub (ks.length:Int) 0=(ks.length:Int):=Int.sub_zero _
  rw[DI,this,Br (by omega)]
 have c1:iLe (ks.length:Int) 12=true:=Oi (by omega)
 have pd:call AG (m+5) 77 [v,.int .i64 0,.int .i64 (ks.length:Int),.int .i64 (k:Int),.func (.func 51) ⟨[]⟩ ⟨[]⟩] h=.ok noRes h2:=by
  have hb:∃ e2,pdB (call AG (m+4)) (Env.set 11 (.bool true) (Env.set 10 (.bool true) (AZ e0 0 [v,.int .i64 0,.int .i64 (ks.length:Int),.int .i64 (k:Int),.func (.func 51) ⟨[]⟩ ⟨[]⟩]))) h=.ret e2 h2:=by
   rw[gj]
   unfold kS
   simp only[AJ,AK,Nat.succ_eq_add_one,Nat.zero_add,Nat.reduceAdd,sT,Nat.reduceLT,Nat.reduceEqDiff,if_true,if_false,reduceIte,DK,a1,AS,AQ,c1,Ab,AN,AX,k2]
   exact⟨_,rfl⟩
  obtain⟨e2,r1⟩:=hb
  have r1:=Vv r1
  simp only[AJ,AK,Nat.succ_eq_add_one,Nat.zero_add,Nat.reduceAdd]at r1
  rw[eV rfl,fb]
  unfold fc
  simp only[AJ,AK,Nat.succ_eq_add_one,Nat.zero_add,Nat.reduceAdd,sT,Nat.reduceLT,Nat.reduceEqDiff,if_true,if_false,reduceIte,r1,AP,LC]
 refine⟨h2,?_,x2⟩
 rw[d8 rfl]
 unfold d50
 simp only[AJ,AK,Nat.succ_eq_add_one,Nat.zero_add,Nat.reduceAdd,sT,Nat.reduceLT,Nat.reduceEqDiff,if_true,if_false,reduceIte,Ay,ln,Cd,cv,Ab,AN,AX,kb,pd,LQ,LC]
end
end
noncomputable section
open Go
set_option maxRecDepth 100000
theorem Om{k:IntKind}{Z:List Int}:(ints k Z).length=Z.length:=List.length_map ..
theorem Yy{k:IntKind}{Z:List Int}{i:Nat}(hi:i<Z.length):(ints k Z).getD i noRes=.int k (Z.getD i 0):=by
 unfold ints
 rw[List.getD_eq_getElem?_getD,List.getElem?_map,List.getD_eq_getElem?_getD,List.getElem?_eq_getElem hi];rfl
theorem Hp.Vals.int{h:Hp}{k:IntKind}{u:Value}{Z:List Int}(V:h.Vals u (ints k Z)){i:Nat}(hi:i<Z.length):∃ a,Fa 1 u (.int .i64 (i:Int)) h=.ok (.pointer (some a)) h∧Gl (.pointer (some a)) h=.ok (.int k (Z.getD i 0)) h:=by
 obtain⟨a,g1,g2⟩:=V.at (i:=i) (by rw[Om];exact hi)
 rw[Yy hi]at g2
 exact⟨a,g1,g2⟩
theorem Hp.Vals.ilen{h:Hp}{k:IntKind}{u:Value}{Z:List Int}(V:h.Vals u (ints k Z)):Fc u h=.ok (.int .i64 (Z.length:Int)) h:=by
 have:=V.len;rwa [Om]at this
def IC(x:Int):Nat→List Int→Int
 |_,[]=> -1
 |i,z::l=>if x=z then(i:Int)else IC x (i+1) l
theorem SK(x:Int):∀ (zs:List Int) (i:Nat),(x∉zs∧IC x i zs= -1)∨(x∈zs∧∃ k,k<zs.length∧IC x i zs=((i+k:Nat):Int)∧zs.getD k 0=x)
 |[],i=>.inl ⟨fun h=>(by cases h),rfl⟩
 |z::l,i=>by
  unfold IC
  by_cases h:x=z
  ·rw[if_pos h]
   exact .inr ⟨by rw[h];exact List.mem_cons_self,0,Nat.succ_pos _,rfl,h.symm⟩
  ·rw[if_neg h]
   rcases SK x l (i+1)with ⟨h1,h2⟩|⟨h1,k,h2,h3,h4⟩
   ·refine .inl ⟨fun hx=>?_,h2⟩
    rcases List.mem_cons.1 hx with hx|hx
    ·exact h hx
    ·exact h1 hx
   ·exact .inr ⟨List.mem_cons_of_mem _ h1,k+1,Nat.succ_lt_succ h2,by rw[h3];congr 1;omega,h4⟩
theorem Yv(x:Int)(zs:List Int):(0≤IC x 0 zs)↔x∈zs:=by
 rcases SK x zs 0 with ⟨h1,h2⟩|⟨h1,k,_,h3,_⟩
 ·rw[h2];exact⟨fun h=>by omega,fun h=>absurd h h1⟩
 ·rw[h3];exact⟨fun _=>h1,fun _=>by omega⟩
theorem Yu(x:Int)(zs:List Int):iGe (IC x 0 zs) 0=decide (x∈zs):=by
 rw[NM,decide_eq_decide];exact Yv x zs
def ixB:C:=(AF (AC 9) (Ad iLt .i64 (AB 8) (AB 7))
(AW (AB 9)
(A5 (Ah 1 (AF (AC 5) (AD (AB 8))
(AF (AC 14) (Bp 1 (AB 0) (AB 5))
(AF (AC 15) (AL (AB 14))
(AF (AC 16) (Ad iEq .i64 (AB 1) (AB 15))
(AW (AB 16)
(AF (AC 4) (AD (AB 5))
Aj)
Ai))))))
(AF (AC 18) (Bh .i64 (Ax .i64) (AB 8) (kV (.int .i64 1)))
(AF (AC 8) (AD (AB 18))
Ai)))
(Bc 0)))
def ixE:C:=(AF (AC 4) (AD (kV (.int .i64 (-1))))
Aj)
theorem gP:ixS=A5 (Ah 0 (A1 ixB)) ixE:=rfl
theorem fd:d91=Ye:=rfl
theorem Y1{F:CallF}{h:Hp}{u:Value}{zs:List Int}{x:Int}(V:h.Vals u (ints .i64 zs))(hl:zs.length<900000){e:Env}(s0:AB 0 e=u)(s1:AB 1 e=.int .i64 x)(s7:AB 7 e=.int .i64 (zs.length:Int))(s8:AB 8 e=.int .i64 0):
  (∃ e',A1 ixB F e h=.exit 0 e' h∧IC x 0 zs= -1)∨(∃ e',A1 ixB F e h=.ret e' h∧AB 4 e'=.int .i64 (IC x 0 zs)):=by
 refine Bz (I:=fun i e' h'=>h'=h∧AB 0 e'=u∧AB 1 e'=.int .i64 x∧AB 7 e'=.int .i64 (zs.length:Int)∧AB 8 e'=.int .i64 (i:Int)∧i≤zs.length∧IC x 0 zs=IC x i (zs.drop i))
  (Q:=fun y=>(∃ e',y=.exit 0 e' h∧IC x 0 zs= -1)∨(∃ e',y=.ret e' h∧AB 4 e'=.int .i64 (IC x 0 zs))) zs.length (by omega) (fun i e' h' ⟨hh,t0,t1,t7,t8,hi,hr⟩=>?_)
  ⟨rfl,s0,s1,s7,s8,Nat.zero_le _,rfl⟩
 subst hh
 by_cases hlt:i<zs.length
 ·obtain⟨a,g1,g2⟩:=V.int hlt
  have hd:zs.drop i=zs.getD i 0::zs.drop (i+1):=by
   rw[List.drop_eq_getElem_cons hlt,List.getD_eq_getElem?_getD,List.getElem?_eq_getElem hlt];rfl
  rw[hd]at hr
  generalize zs.getD i 0=z at g2 hr
  have hr:IC x 0 zs=if x=z then(i:Int)else IC x (i+1) (zs.drop (i+1)):=hr
  have c1:iLt (i:Int) (zs.length:Int)=true:=by rw[C0];simp;omega
  by_cases hx:x=z
  ·right
   have c2:iEq x z=true:=by rw[Dz];simpa using hx
   have hrun:∃ e2,ixB F e' h'=.ret e2 h'∧AB 4 e2=.int .i64 (i:Int):=by
    unfold ixB
    simp only[sT,Nat.reduceLT,Nat.reduceEqDiff,if_true,if_false,reduceIte,AS,AQ,t8,t7,c1,Bb,t0,g1,AV,g2,t1,c2]
    exact⟨_,rfl,by simp[AE]⟩
   obtain⟨e2,r1,r2⟩:=hrun
   rw[r1]
   refine⟨rfl,.inr ⟨e2,rfl,?_⟩⟩
   rw[r2,hr,if_pos hx]
  ·left
   have c2:iEq x z=false:=by rw[Dz];simpa using hx
   have a3:Gn .i64 (.int .i64 (i:Int)) (.int .i64 1) h'=.ok (.int .i64 ((i+1:Nat):Int)) h':=by
    have:(i:Int)+1=((i+1:Nat):Int):=by omega
    rw[EU,this,Br (by omega)]
   have hrun:∃ e2,ixB F e' h'=.norm e2 h'∧AB 0 e2=u∧AB 1 e2=.int .i64 x∧AB 7 e2=.int .i64 (zs.length:Int)∧AB 8 e2=.int .i64 ((i+1:Nat):Int):=by
    unfold ixB
    simp only[sT,Nat.reduceLT,Nat.reduceEqDiff,if_true,if_false,reduceIte,AS,AQ,t8,t7,c1,Bb,t0,g1,AV,g2,t1,c2,BZ,a3]
    exact⟨_,rfl,by simp only[AE,Nat.reduceLT,Nat.reduceEqDiff,if_true,if_false,reduceIte];exact t0,by simp only[AE,Nat.reduceLT,Nat.reduceEqDiff,if_true,if_false,reduceIte];exact t1,by simp only[AE,Nat.reduceLT,Nat.reduceEqDiff,if_true,if_false,reduceIte];exact t7,by simp[AE]⟩
   obtain⟨e2,r1,r2,r3,r4,r5⟩:=hrun
   rw[if_neg hx]at hr
   exact⟨hlt,e2,h',r1,rfl,r2,r3,r4,r5,hlt,hr⟩
 ·right
  have c1:iLt (i:Int) (zs.length:Int)=false:=by rw[C0];simp;omega
  have hrun:∃ e2,ixB F e' h'=.exit 0 e2 h':=by
   unfold ixB
   simp only[sT,Nat.reduceLT,Nat.reduceEqDiff,if_true,if_false,reduceIte,AS,AQ,t8,t7,c1]
   exact⟨_,rfl⟩
  obtain⟨e2,r1⟩:=hrun
  rw[r1]
  refine⟨rfl,.inl ⟨e2,rfl,?_⟩⟩
  rw[hr,List.drop_of_length_le (by omega)];rfl
theorem Vj{n:Nat}{h:Hp}{u:Value}{zs:List Int}{x:Int}(V:h.Vals u (ints .i64 zs))(hl:zs.length<900000):call AG (n+1) 91 [u,.int .i64 x] h=.ok (.int .i64 (IC x 0 zs)) h:=by
 have pre:∃ e1,Ye (call AG n) (AZ e0 0 [u,.int .i64 x]) h=ixS (call AG n) e1 h∧AB 0 e1=u∧AB 1 e1=.int .i64 x∧AB 7 e1=.int .i64 (zs.length:Int)∧AB 8 e1=.int .i64 0:=by
  unfold Ye
  simp only[AJ,AK,Nat.succ_eq_add_one,Nat.zero_add,Nat.reduceAdd,GL,GT,D6,G6,AE,Nat.reduceLT,Nat.reduceEqDiff,if_true,if_false,reduceIte,Ay,V.ilen]
  exact⟨_,rfl,by simp[AE],by simp[AE],by simp[AE],by simp[AE]⟩
 obtain⟨e1,p1,p0,pp1,p7,p8⟩:=pre
 rw[eh rfl,fd,p1,gP]
 rcases Y1 (F:=call AG n) V hl p0 pp1 p7 p8 with ⟨e2,q1,q2⟩|⟨e2,q1,q2⟩
 ·simp only[BU,A3,q1,A9,BH]
  unfold ixE
  simp only[sT,Nat.reduceLT,Nat.reduceEqDiff,if_true,if_false,reduceIte,AP,Aa,q2]
 ·simp only[BU,A3,q1,CY,DD,AP,Aa,q2]
theorem OJ{n:Nat}{h:Hp}{u:Value}{zs:List Int}{x:Int}(V:h.Vals u (ints .i64 zs))(hl:zs.length<900000):call AG (n+2) 63 [u,.int .i64 x] h=.ok (.bool (decide (x∈zs))) h:=by
 have k1:=Vj (n:=n) (x:=x) V hl
 rw[eK rfl]
 unfold d63
 simp only[AJ,AK,Nat.succ_eq_add_one,Nat.zero_add,Nat.reduceAdd,sT,Nat.reduceLT,Nat.reduceEqDiff,if_true,if_false,reduceIte,Ab,AN,AX,k1,AS,AQ,Yu,AP,Aa]
section
variable {F:CallF}{e:Env}{h h' h0:Hp}{S:Nat→Prop}{A:At}{T M:List Nat}{c0 bad m k:Nat}{arm:Int}{ks:List Kt}{fr:List Nat}{v lv fv:Value}{ov:Bool}
def Hp.KO(h:Hp)(k:Nat)(v:Value)(ks:List Kt):Prop:=(v=.slice none 0 0∧ks=[])∨∃ b,v=.slice (some ⟨b,0,none⟩) ks.length ks.length∧h.Row b 84 (flK ks)∧k≤b∧256≤b
theorem Hp.KO.lst(o:h.KO k v ks):h.KS (fun b=>k≤b) v ks:=by
 rcases o with h1|⟨b,h1,h2,h3,h4⟩
 ·exact .inl h1
 ·exact .inr ⟨b,_,84,_,h1,Nat.le_refl _,h2,by rw[Dy];omega,by rw[← Dy,List.take_length],.inl rfl,h3⟩
theorem Hp.KO.keep(o:h.KO k v ks)(hk:∀ b el L,blkV v b→h.Row b el L→h'.Row b el L):h'.KO k v ks:=by
 rcases o with h1|⟨b,h1,h2,h3,h4⟩
 ·exact .inl h1
 ·exact .inr ⟨b,h1,hk b _ _ ⟨0,_,_,h1⟩ h2,h3,h4⟩
theorem Hp.KO.ext(o:h.KO k v ks)(W:h.Wf)(x:h.Ext h'):h'.KO k v ks:=o.keep fun _ _ _ _ r=>r.ext W x
theorem Hp.KO.same(o:h.KO k v ks)(hb:h'.bl=h.bl):h'.KO k v ks:=o.keep fun _ _ _ _ r=>r.same hb
theorem Hp.KO.le{k':Nat}(o:h.KO k v ks)(hk:k'≤k):h.KO k' v ks:=by
 rcases o with h1|⟨b,h1,h2,h3,h4⟩
 ·exact .inl h1
 ·exact .inr ⟨b,h1,h2,Nat.le_trans hk h3,h4⟩
theorem Hp.KO.blk(o:h.KO k v ks)(W:h.Wf){b:Nat}(hb:blkV v b):k≤b∧b<h.next:=by
 obtain⟨off,n,c,e1⟩:=hb
 rcases o with ⟨h1,h2⟩|⟨b',h1,h2,h3,h4⟩
 ·rw[h1]at e1;cases e1
 ·have:=h2.lt W
  rw[h1]at e1
  injection e1 with e1 _ _
  injection e1 with e1
  injection e1 with e1 _ _
  omega
theorem aX:BG ED.zero 1=Al K0:=by kernel_rfl
theorem LO(W:h.Wf){g:O}{x:Kt}(hg:g e=ktV x):Af 1 (BG ED.zero 1) [(0,6,g)] F e h=.ok (.slice (some ⟨h.next,0,none⟩) 1 1) (h.pushRow 0 (Al x)):=by
 rw[aX,Ck,BC (hk:=by rw[hg];rfl),hg,show cellsOf (ktV x)=Al x from rfl,if_pos (show(Al x).length=6 from rfl),if_pos (show 0+6≤(Al K0).length from Nat.le_refl _),CV,DH W];rfl
theorem Kz{x:Kt}(hu:A6 x.u=true):Bg (Al x)=true:=by
 show(bif A6 x.u then true else false)=true
 rw[hu];rfl
theorem Qq(x0:h0.Ext h)(hk:h0.next≤k)(hk2:k≤h.next)(o:h.KO k v ks){x:Kt}(hu:A6 x.u=true)(hl:ks.length≤100000):
  ∃ h' v',Eb 6 64 83 v (.slice (some ⟨h.next,0,none⟩) 1 1) (h.pushRow 0 (Al x))=.ok v' h'∧h0.Ext h'∧h'.KO k v' (ks++[x])∧h.next≤h'.next∧∀ b el L,¬ blkV v b→h.Row b el L→h'.Row b el L:=by
 have W:=x0.wf
 have x1:=x0.pushRow 0 (Al x)
 have y1:=(Hp.Ext.refl W).pushRow 0 (Al x)
 have Rw:=Hp.Row.new W 0 (Al x)
 have n1:(h.pushRow 0 (Al x)).next=h.next+1:=rfl
 have o1:=o.ext W y1
 generalize h.pushRow 0 (Al x)=h1 at x1 y1 Rw n1 o1
 have hs:∀ K:List Value→R,BQ h1 6 (.slice (some ⟨h.next,0,none⟩) 1 1) 1 K=K (Al x):=fun K=>Rw.srcE (es:=6) (off:=0) (n:=1) (by show 0+1 * 6≤6;omega)
 have ha:=Kz hu
 rcases o1 with ⟨rfl,rfl⟩|⟨b,rfl,r,hb,h256⟩
 ·obtain⟨h5,a1,a2,a3,a4,_,a6⟩:=NZ (eb:=64) (en:=83) x1 hs rfl rfl ha (by omega)
  refine⟨h5,_,a1,a2,.inr ⟨h1.next,rfl,?_,by omega,by have:=W.big;omega⟩,by omega,fun b el L _ r=>(r.ext W y1).ext x1.wf a6⟩
  show h5.Row h1.next 84 (Al x++[])
  rw[List.append_nil];exact a3
 ·obtain⟨h5,a1,a2,a3,a4,_,a6⟩:=LH (eb:=64) (en:=83) (n:=ks.length) x1 hs rfl rfl (by omega) ha r (by rw[Dy];omega) (by omega) h256 (by omega)
  refine⟨h5,_,a1,a2,.inr ⟨h1.next,by rw[List.length_append];rfl,?_,by omega,by have:=W.big;omega⟩,by omega,fun b' el L hne r'=>a6 b' el L (fun e=>hne ⟨0,ks.length,ks.length,by rw[e]⟩) (r'.ext W y1)⟩
  rw[Ru,show flK [x]=Al x from List.append_nil _];exact a3
theorem fp(W:h.Wf){r5:Nat}{x y:Kt}(R5:h.Row r5 0 (Al x))(hxy:y.a≠x.a∨y=x):∃ h',call AG (m+1) 89 [ktV y,pt r5] h=.ok (.bool false) h'∧h.Ext h':=by
 have bx:=fun (F:CallF) (e:Env) (he:AB 0 e=ktV y)=>G9 (F:=F) W he
 have x1:=(Hp.Ext.refl W).pushRow 0 (Al y)
 have R:=Hp.Row.new W 0 (Al y)
 generalize h.pushRow 0 (Al y)=h1 at bx x1 R
 obtain⟨l0,l1,l2,l3,_,l5,_⟩:=Bw R
 obtain⟨k0,k1,k2,k3,_,k5,_⟩:=Bw (R5.ext W x1)
 refine⟨h1,?_,x1⟩
 rw[ee rfl]
 unfold d89
 rcases hxy with hne|rfl
 ·have c1:iEq y.a x.a=false:=Cz hne
  by_cases g1:x.c<y.c
  ·have c2:iGt y.c x.c=true:=Hz g1
   simp only[AJ,AK,Nat.succ_eq_add_one,Nat.zero_add,Nat.reduceAdd,sT,Nat.reduceLT,Nat.reduceEqDiff,if_true,if_false,reduceIte,gD,bx,AM,AY,Nat.zero_add,AV,Ac,l0,l1,l2,l3,l5,k0,k1,k2,k3,k5,AS,AQ,c1,c2,AP,Aa]
  ·have c2:iGt y.c x.c=false:=Gk g1
   by_cases g2:y.c=x.c
   ·have c3:iEq y.c x.c=true:=C4 g2
    by_cases g3:x.s=1
    ·have c4:iEq (x.s:Int) 1=true:=C4 (by omega)
     simp only[AJ,AK,Nat.succ_eq_add_one,Nat.zero_add,Nat.reduceAdd,sT,Nat.reduceLT,Nat.reduceEqDiff,if_true,if_false,reduceIte,gD,bx,AM,AY,Nat.zero_add,AV,Ac,l0,l1,l2,l3,l5,k0,k1,k2,k3,k5,AS,AQ,c1,c2,c3,c4,AP,Aa]
    ·have c4:iEq (x.s:Int) 1=false:=Cz (by omega)
     simp only[AJ,AK,Nat.succ_eq_add_one,Nat.zero_add,Nat.reduceAdd,sT,Nat.reduceLT,Nat.reduceEqDiff,if_true,if_false,reduceIte,gD,bx,AM,AY,Nat.zero_add,AV,Ac,l0,l1,l2,l3,l5,k0,k1,k2,k3,k5,AS,AQ,c1,c2,c3,c4,AP,Aa]
   ·have c3:iEq y.c x.c=false:=Cz g2
    simp only[AJ,AK,Nat.succ_eq_add_one,Nat.zero_add,Nat.reduceAdd,sT,Nat.reduceLT,Nat.reduceEqDiff,if_true,if_false,reduceIte,gD,bx,AM,AY,Nat.zero_add,AV,Ac,l0,l1,l2,l3,l5,k0,k1,k2,k3,k5,AS,AQ,c1,c2,c3,AP,Aa]
 ·have c1:iEq y.a y.a=true:=C4 rfl
  have c1':iEq y.b y.b=true:=C4 rfl
  have c2:iGt y.c y.c=false:=Gk (by omega)
  have c3:iEq y.c y.c=true:=C4 rfl
  have c5:iNe (y.p:Int) (y.p:Int)=false:=Db rfl
  by_cases g3:y.s=1
  ·have c4:iEq (y.s:Int) 1=true:=C4 (by omega)
   simp only[AJ,AK,Nat.succ_eq_add_one,Nat.zero_add,Nat.reduceAdd,sT,Nat.reduceLT,Nat.reduceEqDiff,if_true,if_false,reduceIte,gD,bx,AM,AY,Nat.zero_add,AV,Ac,l0,l1,l2,l3,l5,k0,k1,k2,k3,k5,AS,AQ,c1,c1',c2,c3,c4,c5,AP,Aa]
  ·have c4:iEq (y.s:Int) 1=false:=Cz (by omega)
   simp only[AJ,AK,Nat.succ_eq_add_one,Nat.zero_add,Nat.reduceAdd,sT,Nat.reduceLT,Nat.reduceEqDiff,if_true,if_false,reduceIte,gD,bx,AM,AY,Nat.zero_add,AV,Ac,l0,l1,l2,l3,l5,k0,k1,k2,k3,k5,AS,AQ,c1,c1',c2,c3,c4,c5,AP,Aa]
theorem fq(W:h.Wf){r5:Nat}{x y:Kt}(R5:h.Row r5 0 (Al x))(hne:y.a≠x.a):∃ h',call AG (m+1) 90 [ktV y,pt r5] h=.ok (.bool false) h'∧h.Ext h':=by
 have bx:=fun (F:CallF) (e:Env) (he:AB 0 e=ktV y)=>G9 (F:=F) W he
 have x1:=(Hp.Ext.refl W).pushRow 0 (Al y)
 have R:=Hp.Row.new W 0 (Al y)
 generalize h.pushRow 0 (Al y)=h1 at bx x1 R
 obtain⟨l0,_⟩:=Bw R
 obtain⟨k0,_⟩:=Bw (R5.ext W x1)
 refine⟨h1,?_,x1⟩
 rw[ef rfl]
 unfold d90
 have c1:iEq y.a x.a=false:=Cz hne
 simp only[AJ,AK,Nat.succ_eq_add_one,Nat.zero_add,Nat.reduceAdd,sT,Nat.reduceLT,Nat.reduceEqDiff,if_true,if_false,reduceIte,gD,bx,AM,AY,Nat.zero_add,AV,Ac,l0,k0,AS,AQ,c1,AP,Aa]
theorem Ua{P:Kt→Bool}(h:∀ k∈ks,P k=false):ks.any P=false:=by
 induction ks with
 |nil=>rfl
 |cons k l ih=>rw[List.any_cons,h k List.mem_cons_self,ih fun x hx=>h x (List.mem_cons_of_mem _ hx)];rfl
theorem gR(K:h.KS S v ks){i:Nat}(hi:i<ks.length):∃ w,h.KS S w (ks.take i)∧∀ (F:CallF) (e:Env) (x y:O),x e=v→y e=.int .i64 (i:Int)→Dj 83 6 x none (some y) none F e h=.ok w h:=by
 rcases K with ⟨rfl,rfl⟩|⟨b,c,el,L,rfl,h2,h3,h4,h5,h6,h7⟩
 ·cases hi
 ·have ht:(ks.take i).length=i:=by rw[List.length_take];omega
  refine⟨.slice (some ⟨b,0,none⟩) i c,.inr ⟨b,c,el,L,by rw[ht],by rw[ht];omega,h3,by rw[ht];omega,?_,h6,h7⟩,fun F e x y hx hy=>?_⟩
  ·have e1:flK (ks.take i)=(flK ks).take (6 * i):=by
    conv=>rhs;rw[← List.take_append_drop i ks,Ru]
    rw[List.take_left' (by rw[Dy,ht])]
   rw[ht,e1,← h5,List.take_take,Nat.min_eq_left (by omega)]
  ·show(match x e with|.slice a n c=>Dv e n c none (some y) none (fun l hh m=>Fz 83 6 a false l hh m h)|_=>.no)=_
   rw[hx]
   show(match C8 (y e)with|.ok n=>(bif Nat.ble n c then Fz 83 6 (some ⟨b,0,none⟩) false 0 n c h else .no)|.no=>.no)=_
   rw[hy,DG]
   simp only
   rw[Aq.2 (show i≤c by omega)]
   show CB (some ⟨b,0,none⟩) 6 0 i c h=_
   unfold CB
   simp only[Ao]
   cases c with
   |zero=>rfl
   |succ c=>rfl
def coB:C:=(AF (AC 11) (Ad iLt .i64 (AB 10) (AB 9))
(AW (AB 11)
(A5 (Ah 1 (AF (AC 13) (Bp 6 (AB 8) (AB 10))
(AF (AC 14) (BE 6 (AB 13))
(AF (AC 5) (A2 6 DA)
(AF (AC 4) (AD (AB 10))
(cDo (Ae 6 (AB 5) (AB 14))
(AF (AC 15) (Cx (.func 89) [] [(AB 5)])
(AF (AC 6) (AD (AB 15))
(AF (AC 16) (Cx (.func 90) [] [(AB 5)])
(AF (AC 7) (AD (AB 16))
(AF (AC 19) (AO 61 [(AB 0),(AB 6)])
(AF (AC 20) (CP (AB 19))
(cG (AB 20) true (AC 22) (AD (AB 0))
(cG (AB 20) true (AC 23) (AD (AB 4))
(cG (AB 20) true (AC 24) (Dj 83 6 (AB 22) none (some (AB 23)) none)
(cG (AB 20) true (AC 25) (AD (AB 7))
(cG (AB 20) true (AC 26) (AO 61 [(AB 24),(AB 25)])
(cG (AB 20) true (AC 27) (CP (AB 26))
(AF (AC 28) (Am (AB 20) (AB 27) (kV (.bool false)))
(AW (AB 28)
(AF (AC 30) (BE 6 (AB 5))
(AF (AC 31) (Af 1 (BG ED.zero 1) [(0,6,(AB 30))])
(AF (AC 32) (A8 6 64 83 (AB 3) (AB 31))
(AF (AC 3) (AD (AB 32))
Ai))))
Ai))))))))))))))))))))
(AF (AC 33) (Bh .i64 (Ax .i64) (AB 10) (kV (.int .i64 1)))
(AF (AC 10) (AD (AB 33))
Ai)))
(Bc 0)))
def coE:C:=AF (AC 2) (AD (AB 3)) Aj
theorem fI:coS=A5 (Ah 0 (A1 coB)) coE:=rfl
theorem fV:d59=YX:=rfl
theorem QZ(W:h.Wf)(K:h.KS S v ks)(hl:ks.length≤1000)(hu:∀ k∈ks,A6 k.u=true)(hd:∀ (i j:Nat) (x y:Kt),ks[i]? =some x→ks[j]? =some y→i≠j→y.a≠x.a):
  ∃ h' w,call AG (m+4) 59 [v] h=.ok w h'∧h.Ext h'∧h'.KO h.next w ks∧(ks=[]→w=.slice none 0 0):=by
 have ln:=K.len h
 have pre:∃ e1,YX (call AG (m+3)) (AZ e0 0 [v]) h=coS (call AG (m+3)) e1 h∧AB 0 e1=v∧AB 3 e1=.slice none 0 0∧AB 8 e1=v∧AB 9 e1=.int .i64 (ks.length:Int)∧AB 10 e1=.int .i64 ((0:Nat):Int):=by
  unfold YX
  simp only[AJ,AK,Nat.succ_eq_add_one,Nat.zero_add,Nat.reduceAdd,sT,Nat.reduceLT,Nat.reduceEqDiff,if_true,if_false,reduceIte,Ay,ln]
  exact⟨_,rfl,by simp[AE],by simp[AE],by simp[AE],by simp[AE],by simp only[AE,Nat.reduceLT,Nat.reduceEqDiff,if_true,if_false,reduceIte];rfl⟩
 obtain⟨e1,p1,s0,s3,s8,s9,s10⟩:=pre
 have run:∃ e' h' w,A1 coB (call AG (m+3)) e1 h=.exit 0 e' h'∧h.Ext h'∧h'.KO h.next w ks∧AB 3 e'=w∧(ks=[]→w=.slice none 0 0):=by
  refine Bz (I:=fun i e' h'=>∃ w,h.Ext h'∧h'.KO h.next w (ks.take i)∧AB 0 e'=v∧AB 3 e'=w∧AB 8 e'=v∧AB 9 e'=.int .i64 (ks.length:Int)∧AB 10 e'=.int .i64 (i:Int)∧i≤ks.length∧(i=0→w=.slice none 0 0))
   (Q:=fun x=>∃ e' h' w,x=.exit 0 e' h'∧h.Ext h'∧h'.KO h.next w ks∧AB 3 e'=w∧(ks=[]→w=.slice none 0 0)) ks.length (by omega) (fun i e' h' ⟨w,x',o',t0,t3,t8,t9,t10,hi,hz⟩=>?_) ⟨_,.refl W,.inl ⟨rfl,rfl⟩,s0,s3,s8,s9,s10,Nat.zero_le _,fun _=>rfl⟩
  have W':=x'.wf
  by_cases hlt:i<ks.length
  ·left
   have c1:=E8 hlt
   obtain⟨x,hx⟩:∃ x,ks[i]? =some x:=⟨_,List.getElem?_eq_getElem hlt⟩
   have hxm:=List.mem_of_getElem? hx
   obtain⟨b,_,ix,ld,_⟩:=(K.ext W x').at hx
   have al:=fun (F:CallF) (e:Env)=>Bt (F:=F) (e:=e) W' (n:=6) (t:=DA)
   have Ra:=Hp.Row.alloc W' Ge (show(Al K0).length=6 from rfl)
   have y1:h'.Ext (h'.push (.cells DA 6 0)):=(Hp.Ext.refl W').push _
   have n1:(h'.push (.cells DA 6 0)).next=h'.next+1:=rfl
   generalize h'.push (.cells DA 6 0)=h1 at al Ra y1 n1
   obtain⟨st,_,y2,R5,n2⟩:=J7 W' y1 (Nat.le_refl _) Ra rfl (k:=x) (hu x hxm)
   generalize h1.wr h'.next 0 (Al x)=h2 at st y2 R5 n2
   have x2:=x'.trans y2
   obtain⟨h3,k3,x3⟩:=NV (m:=m+1) (g:=89) (caps:=[pt h'.next]) (P:=fun _=>false) x2.wf (K.ext W x2) (by omega) fun g xg y hy=>by
    obtain⟨j,hj⟩:=List.mem_iff_getElem?.1 hy
    refine fp (m:=m) xg.wf (R5.ext x2.wf xg) ?_
    by_cases hij:i=j
    ·rw[← hij,hx]at hj
     exact .inr (Option.some.inj hj).symm
    ·exact .inl (hd i j x y hx hj hij)
   rw[Ua fun _ _=>rfl]at k3
   have x23:=x2.trans x3
   obtain⟨w',Kc,ct⟩:=gR (K.ext W x23) hlt
   obtain⟨h4,k4,x4⟩:=NV (m:=m+1) (g:=90) (caps:=[pt h'.next]) (P:=fun _=>false) x23.wf Kc (by rw[List.length_take];omega) fun g xg y hy=>by
    obtain⟨j,hj⟩:=List.mem_iff_getElem?.1 hy
    have hji:j<i:=by
     have:=(List.getElem?_eq_some_iff.1 hj).1
     rw[List.length_take]at this
     omega
    rw[List.getElem?_take,if_pos hji]at hj
    exact fq (m:=m) xg.wf ((R5.ext x2.wf x3).ext x23.wf xg) (hd i j x y hx hj (by omega))
   rw[Ua fun _ _=>rfl]at k4
   have x24:=x23.trans x4
   have y24:=(y2.trans x3).trans x4
   have R54:=(R5.ext x2.wf x3).ext x23.wf x4
   obtain⟨_,_,_,_,_,_,ld5,_⟩:=Bw R54
   have sl:=fun (F:CallF) (e:Env) (he:AB 30 e=ktV x)=>LO (F:=F) x24.wf he
   obtain⟨h5,w5,k5,x5,o5,n5,_⟩:=Qq x24 (Nat.le_refl _) x24.next (o'.ext W' y24) (hu x hxm) (by rw[List.length_take];omega)
   have er:ks.take (i+1)=ks.take i++[x]:=by rw[List.take_add_one,hx];rfl
   rw[← er]at o5
   have a3:=C1 (i:=i) (h:=h5) (by omega)
   have hrun:∃ e2,coB (call AG (m+3)) e' h'=.norm e2 h5∧AB 0 e2=v∧AB 3 e2=w5∧AB 8 e2=v∧AB 9 e2=.int .i64 (ks.length:Int)∧AB 10 e2=.int .i64 ((i+1:Nat):Int):=by
    unfold coB
    simp only[sT,Nat.reduceLT,Nat.reduceEqDiff,if_true,if_false,reduceIte,AS,AQ,t10,t9,c1,Bb,t8,ix,BP,BF,ld,al,Av,st,Dc,AN,AX,Ab,t0,k3,CG,CF,Bool.not_false]
    rw[Ut (by omega)]
    simp only[sT,Nat.reduceLT,Nat.reduceEqDiff,if_true,if_false,reduceIte,gD,t0]
    rw[ct _ _ _ _ (by simp[AE]) (by simp[AE])]
    simp only[sT,Nat.reduceLT,Nat.reduceEqDiff,if_true,if_false,reduceIte,gD,AN,AX,Ab,k4,CG,CF,Bool.not_false,BP,BF,ld5,sl,Bn,t3,k5,BZ,a3,t10]
    exact⟨_,rfl,by simp only[AE,Nat.reduceLT,Nat.reduceEqDiff,if_true,if_false,reduceIte];exact t0,by simp[AE],by simp only[AE,Nat.reduceLT,Nat.reduceEqDiff,if_true,if_false,reduceIte];exact t8,by simp only[AE,Nat.reduceLT,Nat.reduceEqDiff,if_true,if_false,reduceIte];exact t9,by simp[AE]⟩
   obtain⟨e2,r1,r2,r3,r4,r5,r6⟩:=hrun
   exact⟨hlt,e2,h5,r1,w5,x5,o5,r2,r3,r4,r5,r6,by omega,fun h=>absurd h (Nat.succ_ne_zero i)⟩
  ·right
   have c1:=DU (show ks.length≤i by omega)
   have hrun:∃ e2,coB (call AG (m+3)) e' h'=.exit 0 e2 h'∧AB 3 e2=w:=by
    unfold coB
    simp only[sT,Nat.reduceLT,Nat.reduceEqDiff,if_true,if_false,reduceIte,AS,AQ,t10,t9,c1]
    exact⟨_,rfl,by simp only[AE,Nat.reduceLT,Nat.reduceEqDiff,if_true,if_false,reduceIte];exact t3⟩
   obtain⟨e2,r1,r2⟩:=hrun
   rw[r1]
   rw[List.take_of_length_le (by omega)]at o'
   exact⟨rfl,e2,h',w,rfl,x',o',r2,fun h=>hz (by rw[h]at hi;exact Nat.le_zero.1 hi)⟩
 obtain⟨e2,h2,w,r1,x2,o2,r2,r3⟩:=run
 refine⟨h2,w,?_,x2,o2,r3⟩
 rw[eG rfl,fV,p1,fI]
 simp only[BU,A3,r1,A9,BH]
 unfold coE
 simp only[sT,Nat.reduceLT,Nat.reduceEqDiff,if_true,if_false,reduceIte,r2,AP,Aa]
end
end
noncomputable section
open Go
set_option maxRecDepth 100000
structure Kc where
 a:Int
 b:Int
 c:Int
 s:Nat
 l:List Nat
 p:Nat
def Kt.core(k:Kt):Kc:=⟨k.a,k.b,k.c,k.s,k.l,k.p⟩
def lkN(T M:List Nat)(p:Nat):Option (List Nat):=match Classical.propDecidable (∃ ns,Em T M p ns)with
 |.isTrue h=>some (Classical.choose h)
 |.isFalse _=>none
def C2(T M:List Nat)(p:Nat):Bool:=match Classical.propDecidable ((¬ ∃ ns,Em T M p ns)∧((∃ x∈sec M (3 * p),x≠0)∨∃ ns,H3 T (sec M (3 * p)) ns∧at6 ns 4≤100))with
 |.isTrue _=>true
 |.isFalse _=>false
theorem O3{T M:List Nat}{p:Nat}{ns:List Nat}(h:Em T M p ns):lkN T M p=some ns:=by
 unfold lkN
 split
 ·rename_i h' _
  rw[GD (Classical.choose_spec h').1 h.1]
 ·rename_i h' _;exact absurd ⟨ns,h⟩ h'
theorem LR{T M:List Nat}{p:Nat}(h:¬ ∃ ns,Em T M p ns):lkN T M p=none:=by
 unfold lkN
 split
 ·rename_i h' _;exact absurd h' h
 ·rfl
theorem F9{T M:List Nat}{p:Nat}:C2 T M p=true↔((¬ ∃ ns,Em T M p ns)∧((∃ x∈sec M (3 * p),x≠0)∨∃ ns,H3 T (sec M (3 * p)) ns∧at6 ns 4≤100)):=by
 unfold C2
 split
 ·rename_i h _;exact⟨fun _=>h,fun _=>rfl⟩
 ·rename_i h _;exact⟨fun e=>(by cases e),fun e=>absurd e h⟩
def Oq(M:List Nat)(p:Nat)(ns:List Nat):Kc:=⟨at6 ns 1,at6 ns 2,at6 ns 3,at6 ns 0,dat M p (at6 ns 4),p⟩
def kcs(T M:List Nat)(i:Nat):List Kc:=(List.range i).filterMap fun p=>(lkN T M p).map (Oq M p)
def bads(T M:List Nat)(i:Nat):List Nat:=(List.range i).filter (C2 T M)
def mrk(T M:List Nat)(i:Nat):List Nat:=(List.range i).filter fun p=>(lkN T M p).isSome || C2 T M p
theorem Ot(T M:List Nat)(i:Nat):kcs T M (i+1)=kcs T M i++(match lkN T M i with|some ns=>[Oq M i ns]|none=>[]):=by
 unfold kcs
 rw[List.range_succ,List.filterMap_append]
 cases h:lkN T M i<;>simp[h]
theorem JE(T M:List Nat)(i:Nat):bads T M (i+1)=bads T M i++(if C2 T M i=true then [i]else []):=by
 unfold bads
 rw[List.range_succ,List.filter_append]
 cases h:C2 T M i<;>simp[h]
theorem La(T M:List Nat)(i:Nat):mrk T M (i+1)=mrk T M i++(if((lkN T M i).isSome || C2 T M i)=true then [i]else []):=by
 unfold mrk
 rw[List.range_succ,List.filter_append]
 cases h:((lkN T M i).isSome || C2 T M i)<;>simp[h]
theorem DT(i:Nat)(f:Nat→Bool):((List.range i).filter f).length≤i:=by
 have:=List.length_filter_le f (List.range i)
 rwa [List.length_range]at this
theorem G4(a b:List Nat):ints .i64 ((a++b).map Int.ofNat)=ints .i64 (a.map Int.ofNat)++ints .i64 (b.map Int.ofNat):=by unfold ints;rw[List.map_append,List.map_append]
theorem iO:BG ty3.zero 1=[.int .i64 0]:=by kernel_rfl
section
variable {F:CallF}{e:Env}{h g g':Hp}{T M:List Nat}{bs r9 k1 bd bm bc tb n i m c0:Nat}{v mv:Value}{ks:List Kt}{arm:Int}
theorem He(W:h.Wf){x:O}{z:Int}(hx:x e=.int .i64 z):Af 1 (BG ty3.zero 1) [(0,1,x)] F e h=.ok (.slice (some ⟨h.next,0,none⟩) 1 1) (h.pushRow 0 [.int .i64 z]):=by
 rw[iO];exact Hr W hx rfl rfl
theorem Hp.KO.nb{k b el:Nat}{L:List Value}(o:h.KO k v ks)(r:h.Row b el L)(he:el≠84):¬ blkV v b:=fun⟨off,nn,c,e1⟩=>by
 rcases o with ⟨h1,h2⟩|⟨b',h1,h2,h3,h4⟩
 ·rw[h1]at e1;cases e1
 ·rw[h1]at e1
  injection e1 with e1 _ _
  injection e1 with e1
  injection e1 with e1 _ _
  rw[e1]at h2
  exact Hg r h2 he rfl
theorem Hp.Own.nb{k b el en:Nat}{xs L:List Value}(o:h.Own k en v xs)(r:h.Row b el L)(he:el≠en+1):¬ blkV v b:=fun⟨off,nn,c,e1⟩=>by
 rcases o with ⟨h1,h2⟩|⟨b',h1,h2,h3,h4⟩
 ·rw[h1]at e1;cases e1
 ·rw[h1]at e1
  injection e1 with e1 _ _
  injection e1 with e1
  injection e1 with e1 _ _
  rw[e1]at h2
  exact Hg r h2 he rfl
structure O1 (h g:Hp)(T M:List Nat)(bs r9 k1 bd tb i:Nat)(v mv:Value)(ks:List Kt):Prop where
 x:h.Ext g
 row:g.Row bs 0 (slL bd tb nilS nilS (bads T M i).length false)
 rb:g.Row r9 0 [pt bs]
 ko:g.KO k1 v ks
 cs:ks.map Kt.core=kcs T M i
 ok:∀ k∈ks,KtOk g (fun b=>r9<b) k
 ms:g.Own k1 3 mv (ints .i64 ((mrk T M i).map Int.ofNat))
 le:k1≤g.next
theorem O1.ext(o:O1 h g T M bs r9 k1 bd tb i v mv ks)(x:g.Ext g'):O1 h g' T M bs r9 k1 bd tb i v mv ks:=
 have W:=o.x.wf
 ⟨o.x.trans x,o.row.ext W x,o.rb.ext W x,o.ko.ext W x,o.cs,fun k hk=>⟨(o.ok k hk).1.ext W x,(o.ok k hk).2⟩,o.ms.ext W x,Nat.le_trans o.le x.next⟩
def Ll:C:=(AF (AC 53) (Ad iLt .i64 (AB 52) (AB 51))
(AW (AB 53)
(A5 (Ah 2 (AF (AC 12) (AD (AB 52))
(AF (AC 56) (AL (AB 9))
(AF (AC 58) (AO 55 [(AB 56),(AB 12)])
(AF (AC 59) (AU 0 (AB 58))
(AF (AC 60) (AU 1 (AB 58))
(AF (AC 61) (AU 2 (AB 58))
(AF (AC 62) (AU 3 (AB 58))
(AF (AC 13) (A2 6 DA)
(cDo (Ae 6 (AB 13) (AB 59))
(AF (AC 14) (AD (AB 60))
(AF (AC 15) (AD (AB 61))
(AF (AC 16) (AD (AB 62))
(A5 (Ah 3 (AF (AC 65) (Ad iNe .i64 (AB 16) (kV (.int .i64 0)))
(AF (AC 63) (AD (AB 65))
(AW (AB 63)
(AF (AC 6) (AD (kV (.pointer none)))
(AF (AC 7) (AD (AB 16))
Aj))
(AF (AC 67) (AD (AB 14))
(AW (AB 67)
(AF (AC 70) (BE 6 (AB 13))
(AF (AC 71) (Af 1 (BG ED.zero 1) [(0,6,(AB 70))])
(AF (AC 72) (A8 6 64 83 (AB 10) (AB 71))
(AF (AC 10) (AD (AB 72))
Ai))))
(AF (AC 73) (AD (AB 15))
(AW (AB 73)
(AF (AC 75) (AL (AB 9))
(AF (AC 76) (BJ (AB 75))
(AF (AC 77) (AH 5 (AB 76))
(AF (AC 78) (AL (AB 77))
(AF (AC 79) (Bh .i64 (Ax .i64) (AB 78) (kV (.int .i64 1)))
(AF (AC 80) (BJ (AB 75))
(AF (AC 81) (AH 5 (AB 80))
(cDo (Ae 1 (AB 81) (AB 79))
Ai))))))))
Ai))))))))
(cG (AB 14) false (AC 84) (AD (AB 15))
(AF (AC 85) (Am (AB 14) (kV (.bool true)) (AB 84))
(AW (AB 85)
(AF (AC 88) (Af 1 (BG ty3.zero 1) [(0,1,(AB 12))])
(AF (AC 89) (A8 1 8 3 (AB 11) (AB 88))
(AF (AC 11) (AD (AB 89))
Ai)))
Ai)))))))))))))))))
(AF (AC 90) (Bh .i64 (Ax .i64) (AB 52) (kV (.int .i64 1)))
(AF (AC 52) (AD (AB 90))
Ai)))
(Bc 1)))
def kO:C:=(AF (AC 92) (AO 50 [(AB 10),(kV (.func (.func 51) #[] #[]))])
(Bm (Ds (AB 9) (Ce (AB 9) []
(AF (AC 93) (AL (AB 9))
(AF (AC 95) (Ak .weak (AO 59 [(AB 10)]))
(AF (AC 96) (BJ (AB 93))
(AF (AC 97) (AH 3 (AB 96))
(cDo (Ak .free (Ae 1 (AB 97) (AB 95)))
(AF (AC 98) (Cx (.func 60) [] [(AB 9)])
(AF (AC 17) (AD (AB 98))
(AF (AC 18) (AD (kV (.slice none 0 0)))
(AF (AC 101) (AO 57 [(AB 2)])
(AF (AC 102) (HF .i64 (AB 8) (AB 101))
(AF (AC 103) (AD (kV (.int .i64 0)))
(A5 (Ah 4 (A1 (AF (AC 104) (Ad iLt .i64 (AB 103) (AB 102))
(AW (AB 104)
(A5 (Ah 5 (AF (AC 19) (AD (AB 103))
(AF (AC 108) (B0 (AB 17) [(AB 19)])
(AF (AC 109) (CP (AB 108))
(AW (AB 109)
(Bm (AF (AC 110) (AL (AB 9))
(AF (AC 111) (AL (AB 9))
(AF (AC 112) (BJ (AB 111))
(AF (AC 113) (AH 4 (AB 112))
(AF (AC 114) (AL (AB 113))
(AF (AC 116) (Ak .strong (Af 1 (BG ty3.zero 1) [(0,1,(AB 19))]))
(Ce (AB 114) [(AB 9)]
(AF (AC 117) (IE (AB 114) (A8 1 8 3 (AB 114) (AB 116)))
(AF (AC 118) (BJ (AB 110))
(AF (AC 119) (AH 4 (AB 118))
(cDo (Ak .free (Ae 1 (AB 119) (AB 117)))
(AF (AC 122) (AO 63 [(AB 11),(AB 19)])
(AW (AB 122)
(AF (AC 125) (Af 1 (BG ty3.zero 1) [(0,1,(AB 19))])
(AF (AC 126) (A8 1 8 3 (AB 18) (AB 125))
(AF (AC 18) (AD (AB 126))
Ai)))
Ai))))))))))))))
Ai)))))
(AF (AC 127) (Bh .i64 (Ax .i64) (AB 103) (kV (.int .i64 1)))
(AF (AC 103) (AD (AB 127))
Ai)))
(Bc 4)))))
(AF (AC 128) (AL (AB 9))
(AF (AC 130) (AO 53 [(AB 128),(AB 18)])
(AF (AC 20) (AD (AB 130))
(AF (AC 132) (Ad iNe .i64 (AB 20) (kV (.int .i64 0)))
(AW (AB 132)
(AF (AC 6) (AD (kV (.pointer none)))
(AF (AC 7) (AD (AB 20))
Aj))
(AF (AC 134) (AL (AB 9))
(AF (AC 6) (AD (AB 134))
(AF (AC 7) (AD (kV (.int .i64 0)))
Aj))))))))))))))))))))))))
theorem Z1:gf=A5 (Ah 1 (A1 Ll)) kO:=rfl
theorem fP:d16=YT:=rfl
theorem gS(o:O1 h g T M bs r9 k1 bd tb i v mv ks):ks.length≤i:=by
 have h1:=congrArg List.length o.cs
 rw[List.length_map]at h1
 rw[h1]
 unfold kcs
 have:=List.length_filterMap_le (fun p=>(lkN T M p).map (Oq M p)) (List.range i)
 rwa [List.length_range]at this
theorem Wi(W:h.Wf)(d:Dk h bd bm bc n M c0 [] arm false)(Rt:h.Row tb 0 (T.map wv))(hT:TblOk T)(o:O1 h g T M bs r9 k1 bd tb i v mv ks)(hbs:h.next≤bs∧bs<r9∧r9<k1)(hi:i<n / 3)
  (t8:AB 9 e=pt r9)(t10:AB 10 e=v)(t11:AB 11 e=mv)(t51:AB 51 e=.int .i64 ((n / 3:Nat):Int))(t52:AB 52 e=.int .i64 (i:Int)):
  ∃ e' g' v' mv' ks',Ll (call AG (m+6)) e g=.norm e' g'∧O1 h g' T M bs r9 k1 bd tb (i+1) v' mv' ks'∧AB 10 e'=v'∧AB 11 e'=mv'∧AB 52 e'=.int .i64 ((i+1:Nat):Int)∧∀ j,j=0∨j=1∨j=2∨j=8∨j=9∨j=51→AB j e'=AB j e:=by
 have hn:=d.n1
 have W1:=o.x.wf
 have hhk:h.next≤k1:=by omega
 have c1:iLt (i:Int) ((n / 3:Nat):Int)=true:=E8 hi
 have l9:=CH o.rb
 obtain⟨h1,x1,LK⟩:=SO (m:=m+1) W1 o.row (Rt.ext W o.x) hT (d.ext W o.x) (p:=i) (by omega)
 have al:=fun (F:CallF) (e:Env)=>Bt (F:=F) (e:=e) x1.wf (n:=6) (t:=DA)
 have Ra:=Hp.Row.alloc x1.wf Ge (show(Al K0).length=6 from rfl)
 have y2:h1.Ext (h1.push (.cells DA 6 0)):=(Hp.Ext.refl x1.wf).push _
 have n2:(h1.push (.cells DA 6 0)).next=h1.next+1:=rfl
 generalize h1.push (.cells DA 6 0)=h2 at al Ra y2 n2
 have c0':iNe 0 0=false:=Db rfl
 have hx1:=x1.next
 rcases LK with ⟨ns,u,hH,hk,hu⟩|⟨hH,bad,hk,hbad⟩
 ·
  have hN:=O3 hH
  have hnum:=PY hH.1
  have hB:C2 T M i=false:=by
   cases hb:C2 T M i
   ·rfl
   ·exact absurd ⟨ns,hH⟩ (F9.1 hb).1
  have u1:=hu.vs.one
  obtain⟨st,_,y3,R3,n3⟩:=J7 x1.wf y2 (Nat.le_refl _) Ra rfl (k:=⟨at6 ns 1,at6 ns 2,at6 ns 3,at6 ns 0,dat M i (at6 ns 4),i,u⟩) u1.2.1
  generalize hX:(⟨at6 ns 1,at6 ns 2,at6 ns 3,at6 ns 0,dat M i (at6 ns 4),i,u⟩:Kt)=X at hk st y3 R3 n3
  generalize h2.wr h1.next 0 (Al X)=h3 at st y3 R3 n3
  have o3:=o.ext (x1.trans y3)
  have hXu:X.u=u:=by rw[← hX]
  obtain⟨_,_,_,_,_,_,ld,_⟩:=Bw R3
  have sl:=fun (F:CallF) (e:Env) (he:AB 70 e=ktV X)=>LO (F:=F) o3.x.wf he
  obtain⟨h5,v5,k5,x5,q5,n5,f5⟩:=Qq o3.x hhk o3.le o3.ko (x:=X) (by rw[hXu];exact u1.2.1) (by have:=gS o;omega)
  have f5':∀ b el L,el≠84→h3.Row b el L→h5.Row b el L:=fun b el L he r=>f5 b el L (o3.ko.nb r he) r
  have hlen:(dat M i (at6 ns 4)).length=at6 ns 4:=IZ d.len (by have:=hH.2.1;omega)
  have okX:KtOk h5 (fun b=>r9<b) X:=by
   rw[← hX]
   refine⟨((hu.ext x1.wf y3).mono fun b hb=>by have hb:g.next≤b:=hb;have:=o.le;omega).keep fun b el L hb he r=>f5' b el L (by omega) r,VM d.byt _ _,by rw[hlen];exact hH.2.1,?_,?_,by show i<65536;omega⟩
   ·obtain⟨_,_,_,h4⟩:=hnum
    unfold CA at h4
    have:=of_decide_eq_true h4
    exact this.2.2.2.2.2.2.1
   ·obtain⟨_,_,_,h4⟩:=hnum
    unfold CA at h4 ⊢
    have:=of_decide_eq_true h4
    refine decide_eq_true ⟨this.1,this.2.1,this.2.2.1,this.2.2.2.1,this.2.2.2.2.1,this.2.2.2.2.2.1,this.2.2.2.2.2.2.1,?_⟩
    show(dat M i (at6 ns 4)).length≤65536
    rw[hlen];have:=hH.2.1;omega
  have o5:O1 h h5 T M bs r9 k1 bd tb i v5 mv (ks++[X])→True:=fun _=>trivial
  have mk5:h5.Own k1 3 mv (ints .i64 ((mrk T M i).map Int.ofNat)):=by
   rcases o3.ms with h1'|⟨b,h1',h2',h3',h4'⟩
   ·exact .inl h1'
   ·exact .inr ⟨b,h1',f5' b _ _ (by omega) h2',h3',h4'⟩
  obtain⟨h6,mv6,k6,x6,m6,n6,f6⟩:∃ g' mv',Eb 1 8 3 mv (.slice (some ⟨h5.next,0,none⟩) 1 1) (h5.pushRow 0 [.int .i64 (i:Int)])=.ok mv' g'∧h.Ext g'∧g'.Own k1 3 mv' (ints .i64 ((mrk T M i++[i]).map Int.ofNat))∧h5.next≤g'.next∧(∀ b el L,el≠4→h5.Row b el L→g'.Row b el L):=by
   obtain⟨g',mv',a1,a2,a3,a4,a5⟩:=Iu (eb:=8) (en:=3) (kd:=.i64) (n:=(i:Int)) x5 hhk (by have:=o3.le;omega) mk5 (by
    have:=DT i (fun p=>(lkN T M p).isSome || C2 T M p)
    have:(mrk T M i).length≤i:=this
    have:(ints .i64 ((mrk T M i).map Int.ofNat)).length≤i:=by unfold ints;rw[List.length_map,List.length_map];exact this
    omega)
   exact⟨g',mv',a1,a2,by rw[G4];exact a3,by omega,fun b el L he r=>(a5 b el L (mk5.nb r he) r).1⟩
  have f56:∀ b el L,el≠84→el≠4→h3.Row b el L→h6.Row b el L:=fun b el L h1 h2 r=>f6 b el L h2 (f5' b el L h1 r)
  have is:=fun (F:CallF) (e:Env) (he:AB 12 e=.int .i64 (i:Int))=>He (F:=F) x5.wf he
  have a3:=C1 (i:=i) (h:=h6) (by omega)
  have hrun:∃ e2,Ll (call AG (m+6)) e g=.norm e2 h6∧AB 10 e2=v5∧AB 11 e2=mv6∧AB 52 e2=.int .i64 ((i+1:Nat):Int)∧∀ j,j=0∨j=1∨j=2∨j=8∨j=9∨j=51→AB j e2=AB j e:=by
   unfold Ll
   simp only[sT,Nat.reduceLT,Nat.reduceEqDiff,if_true,if_false,reduceIte,gD,AS,AQ,t52,t51,c1,AV,Ac,t8,l9,Ab,AN,AX,hk,BM,BV,Ba,Cj,EI,al,Av,st,c0',BP,BF,ld,sl,Bn,t10,k5,is,t11,k6,BZ,a3]
   refine⟨_,rfl,by simp[AE],by simp[AE],by simp[AE],fun j hj=>?_⟩
   rcases hj with rfl|rfl|rfl|rfl|rfl|rfl<;>simp only[AE,Nat.reduceLT,Nat.reduceEqDiff,if_true,if_false,reduceIte]
  obtain⟨e2,r1,r2,r3,r4,r5⟩:=hrun
  refine⟨e2,h6,v5,mv6,ks++[X],r1,⟨x6,?_,f56 _ _ _ (by omega) (by omega) o3.rb,q5.keep fun b el L hb r=>?_,?_,fun k hk=>?_,?_,by have:=o3.le;omega⟩,r2,r3,r4,r5⟩
  ·rw[JE,hB,if_neg (by decide),List.append_nil]
   exact f56 _ _ _ (by omega) (by omega) o3.row
  ·obtain⟨off,nn,c,e1⟩:=hb
   rcases q5 with ⟨e2,_⟩|⟨b',e2,r',_⟩
   ·rw[e2]at e1;cases e1
   ·rw[e2]at e1
    injection e1 with e1 _ _
    injection e1 with e1
    injection e1 with e1 _ _
    rw[← e1]at r ⊢
    refine f6 _ _ _ ?_ r
    intro h4
    rw[h4]at r
    exact Hg r r' (by omega) rfl
  ·rw[List.map_append,o.cs,Ot,hN,← hX];rfl
  ·rcases List.mem_append.1 hk with hk|hk
   ·exact⟨((o3.ok k hk).1.keep fun b el L hb he r=>f56 b el L (by omega) (by omega) r),(o3.ok k hk).2⟩
   ·rw[List.mem_singleton.1 hk]
    exact⟨okX.1.keep fun b el L hb he r=>f6 b el L (by omega) r,okX.2⟩
  ·rw[La,hN,if_pos (by rfl)];exact m6
 ·
  have hN:=LR hH
  obtain⟨st,_,y3,R3,n3⟩:=J7 x1.wf y2 (Nat.le_refl _) Ra rfl (k:=K0) rfl
  generalize h2.wr h1.next 0 (Al K0)=h3 at st y3 R3 n3
  have o3:=o.ext (x1.trans y3)
  have hcs:ks.map Kt.core=kcs T M (i+1):=by rw[Ot,hN,List.append_nil];exact o.cs
  cases hbd:bad with
  |false=>
   rw[hbd]at hk hbad
   have hB:C2 T M i=false:=by
    cases hb:C2 T M i
    ·rfl
    ·have:=hbad.2 (F9.1 hb).2;cases this
   have a3:=C1 (i:=i) (h:=h3) (by omega)
   have hrun:∃ e2,Ll (call AG (m+6)) e g=.norm e2 h3∧AB 10 e2=v∧AB 11 e2=mv∧AB 52 e2=.int .i64 ((i+1:Nat):Int)∧∀ j,j=0∨j=1∨j=2∨j=8∨j=9∨j=51→AB j e2=AB j e:=by
    unfold Ll
    simp only[sT,Nat.reduceLT,Nat.reduceEqDiff,if_true,if_false,reduceIte,gD,AS,AQ,t52,t51,c1,AV,Ac,t8,l9,Ab,AN,AX,hk,BM,BV,Ba,Cj,EI,al,Av,st,c0',BZ,a3]
    refine⟨_,rfl,by simp only[AE,Nat.reduceLT,Nat.reduceEqDiff,if_true,if_false,reduceIte];exact t10,by simp only[AE,Nat.reduceLT,Nat.reduceEqDiff,if_true,if_false,reduceIte];exact t11,by simp[AE],fun j hj=>?_⟩
    rcases hj with rfl|rfl|rfl|rfl|rfl|rfl<;>simp only[AE,Nat.reduceLT,Nat.reduceEqDiff,if_true,if_false,reduceIte]
   obtain⟨e2,r1,r2,r3,r4,r5⟩:=hrun
   refine⟨e2,h3,v,mv,ks,r1,⟨o3.x,?_,o3.rb,o3.ko,hcs,o3.ok,?_,o3.le⟩,r2,r3,r4,r5⟩
   ·rw[JE,hB,if_neg (by decide),List.append_nil];exact o3.row
   ·rw[La,hN,hB,if_neg (by decide),List.append_nil];exact o3.ms
  |true=>
   rw[hbd]at hk hbad
   have hB:C2 T M i=true:=F9.2 ⟨hH,hbad.1 rfl⟩
   have h256:256≤bs:=by have:=W.big;omega
   obtain⟨_,_,_,_,_,l5,_⟩:=BN o3.row
   have hbl:(bads T M i).length≤i:=DT i _
   have ad:Gn .i64 (.int .i64 ((bads T M i).length:Int)) (.int .i64 1) h3=.ok (.int .i64 (((bads T M i).length+1:Nat):Int)) h3:=C1 (by omega)
   have st5:storeR 1 (.pointer (some ⟨bs,5,none⟩)) (.int .i64 (((bads T M i).length+1:Nat):Int)) h3=.ok noRes (h3.wr bs 5 [.int .i64 (((bads T M i).length+1:Nat):Int)]):=o3.row.storeR (n:=1) (off:=5) o3.x.wf h256 (v:=.int .i64 (((bads T M i).length+1:Nat):Int)) rfl (by show 5+1≤7;omega) rfl
   have ho5:5+[Value.int .i64 (((bads T M i).length+1:Nat):Int)].length≤(slL bd tb nilS nilS (bads T M i).length false).length:=by show 5+1≤7;omega
   have R5:=o3.row.wr_self o3.x.wf ho5
   have x5:=o3.row.wr_ext o3.x hbs.1 ho5
   have n5:=o3.row.wr_next ho5
   have f5:∀ b el L,b≠bs→h3.Row b el L→(h3.wr bs 5 [.int .i64 (((bads T M i).length+1:Nat):Int)]).Row b el L:=fun b el L hb r=>o3.row.wr_other o3.x.wf ho5 r hb
   have hov:over (slL bd tb nilS nilS (bads T M i).length false) 5 [.int .i64 (((bads T M i).length+1:Nat):Int)]=slL bd tb nilS nilS ((bads T M i).length+1) false:=rfl
   rw[hov]at R5
   generalize h3.wr bs 5 [.int .i64 (((bads T M i).length+1:Nat):Int)]=h5 at st5 R5 x5 n5 f5
   have mk5:h5.Own k1 3 mv (ints .i64 ((mrk T M i).map Int.ofNat)):=by
    rcases o3.ms with h1'|⟨b,h1',h2',h3',h4'⟩
    ·exact .inl h1'
    ·exact .inr ⟨b,h1',f5 b _ _ (by omega) h2',h3',h4'⟩
   obtain⟨h6,mv6,k6,x6,m6,n6,f6⟩:∃ g' mv',Eb 1 8 3 mv (.slice (some ⟨h5.next,0,none⟩) 1 1) (h5.pushRow 0 [.int .i64 (i:Int)])=.ok mv' g'∧h.Ext g'∧g'.Own k1 3 mv' (ints .i64 ((mrk T M i++[i]).map Int.ofNat))∧h5.next≤g'.next∧(∀ b el L,el≠4→h5.Row b el L→g'.Row b el L):=by
    obtain⟨g',mv',a1,a2,a3,a4,a5⟩:=Iu (eb:=8) (en:=3) (kd:=.i64) (n:=(i:Int)) x5 hhk (by have:=o3.le;omega) mk5 (by
     have:=DT i (fun p=>(lkN T M p).isSome || C2 T M p)
     have:(mrk T M i).length≤i:=this
     have:(ints .i64 ((mrk T M i).map Int.ofNat)).length≤i:=by unfold ints;rw[List.length_map,List.length_map];exact this
     omega)
    exact⟨g',mv',a1,a2,by rw[G4];exact a3,by omega,fun b el L he r=>(a5 b el L (mk5.nb r he) r).1⟩
   have f56:∀ b el L,b≠bs→el≠4→h3.Row b el L→h6.Row b el L:=fun b el L h1 h2 r=>f6 b el L h2 (f5 b el L h1 r)
   have is:=fun (F:CallF) (e:Env) (he:AB 12 e=.int .i64 (i:Int))=>He (F:=F) x5.wf he
   have a3:=C1 (i:=i) (h:=h6) (by omega)
   have l9':=CH o3.rb
   have hrun:∃ e2,Ll (call AG (m+6)) e g=.norm e2 h6∧AB 10 e2=v∧AB 11 e2=mv6∧AB 52 e2=.int .i64 ((i+1:Nat):Int)∧∀ j,j=0∨j=1∨j=2∨j=8∨j=9∨j=51→AB j e2=AB j e:=by
    unfold Ll
    simp only[sT,Nat.reduceLT,Nat.reduceEqDiff,if_true,if_false,reduceIte,gD,AS,AQ,t52,t51,c1,AV,Ac,t8,l9,l9',Ab,AN,AX,hk,BM,BV,Ba,Cj,EI,al,Av,st,c0',A4,Az,AM,AY,Nat.zero_add,l5,BZ,ad,st5,is,Bn,t11,k6,a3]
    refine⟨_,rfl,by simp only[AE,Nat.reduceLT,Nat.reduceEqDiff,if_true,if_false,reduceIte];exact t10,by simp[AE],by simp[AE],fun j hj=>?_⟩
    rcases hj with rfl|rfl|rfl|rfl|rfl|rfl<;>simp only[AE,Nat.reduceLT,Nat.reduceEqDiff,if_true,if_false,reduceIte]
   obtain⟨e2,r1,r2,r3,r4,r5⟩:=hrun
   refine⟨e2,h6,v,mv6,ks,r1,⟨x6,?_,f56 _ _ _ (by omega) (by omega) o3.rb,?_,hcs,fun k hk=>⟨((o3.ok k hk).1.keep fun b el L hb he r=>f56 b el L (by have hb:r9<b:=hb;omega) (by omega) r),(o3.ok k hk).2⟩,?_,by have:=o3.le;omega⟩,r2,r3,r4,r5⟩
   ·rw[JE,hB,if_pos rfl,List.length_append]
    exact f6 _ _ _ (by omega) R5
   ·rcases o3.ko with h1'|⟨b,h1',h2',h3',h4'⟩
    ·exact .inl h1'
    ·exact .inr ⟨b,h1',f56 b _ _ (by omega) (by omega) h2',h3',h4'⟩
   ·rw[La,hN,hB,if_pos (show((none:Option (List Nat)).isSome || true)=true from rfl)];exact m6
end
end
end Go.Proofs.YtedbmmfebjfibaaGreat
