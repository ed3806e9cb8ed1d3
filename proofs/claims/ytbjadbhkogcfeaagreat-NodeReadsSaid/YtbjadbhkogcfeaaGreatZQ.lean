/-
  Part ZQ of what Lawnr stands on: printed by program, names and spaces cut.
-/
import Derived.Test.YtbjadbhkogcfeaaGreatZP
open Go.Value renaming int→AI
open Go.IntKind renaming i64→AT
open Nat renaming reduceEqDiff→BY,reduceLT→By,reduceAdd→IS,le_refl→IT,zero_add→If,zero_le→yK,le_trans→yP,reduceLeDiff→zr
open Go renaming Value→IN
open List renaming length_append→No,length_map→OF,length_cons→xY,mem_cons_of_mem→xZ,mem_cons_self→xa,mem_of_getElem?→xp,append_nil→xx,mem_cons→xz,getElem?_eq_some_iff→yD,mem_singleton→yE,mem_append→yL,length_take→yM,length_nil→yS,nil_append→yU,mem_filter→yY,length_singleton→yg,length_drop→yk,getElem?_map→yx,mem_map→yz,mem_of_mem_take→zV,length_filter_le→zW,cons_append→zb,mem_range→AAC,append_eq→AAH,filter_append→AAJ,nodup_cons→AAW,mem_of_mem_drop→AAm,nodup_append→AAw,map_cons→AAx,mem_iff_getElem?→ABH,find?_some→ABJ,filter_nil→ABK,drop→ABR,take→ABY,nodup_range→ABg,mem_of_find?_eq_some→AB0,filter_eq_nil_iff→ACM
open Bool renaming and_eq_true→yA,not_false→yh,not_true→yi,false_and→zg,true_and→AAg,and_false→ABE
set_option linter.unusedVariables false
set_option linter.unusedSimpArgs false
namespace Go.Proofs.YtbjadbhkogcfeaaGreat
noncomputable section
open Go
set_option maxRecDepth 100000
def CZ(AEY seq:Int)(op:Nat)(a b c:Int)(u:IN):List IN:=[AI AT AEY,AI AT seq,.int .u8 (op:Int),AI AT a,AI AT b,AI AT c,u]
def Cp(AEY seq:Int)(op:Nat)(a b c:Int)(u:IN):IN:=.agg ⟨CZ AEY seq op a b c u⟩
def wiQ(n lo hi:Int):Bool:=decide (lo<=n/\n<=hi)
def hdQ(AEY seq:Int)(op:Nat):Bool:=wiQ AEY 1 1099511627776 && wiQ seq 1 1099511627776 && decide (1<=op/\op<=6)
def nmQ(a b c least:Int):Bool:=wiQ a 0 1099511627776 && wiQ b 0 254 && wiQ c least 1099511627776
def De(op:Nat):Int:=if op=4\/op=5 then 0 else 1
def ED(AEY seq:Int)(op:Nat)(a b c:Int)(n:Nat):Bool:=hdQ AEY seq op && nmQ a b c (De op) && (if op=1 then decide (n<=65536)else decide (n=0))
section
variable {F:AEA}{e:Env}{h h':Hp}{m n op r:Nat}{AEY seq a b c least lo hi:Int}{u:IN}
theorem FE(W:h.Wf){g:O}(hg:g e=Cp AEY seq op a b c u):Cc g F e h=.ok (pt h.next) (h.AD9 0 (CZ AEY seq op a b c u)):=by rw[Eu,hg,Eq W];rfl
theorem CP(R:h.Row r 0 (CZ AEY seq op a b c u)):AEC ⟨r,0,none⟩ h=.ok (AI AT AEY) h/\AEC ⟨r,1,none⟩ h=.ok (AI AT seq) h/\AEC ⟨r,2,none⟩ h=.ok (.int .u8 (op:Int)) h/\AEC ⟨r,3,none⟩ h=.ok (AI AT a) h/\AEC ⟨r,4,none⟩ h=.ok (AI AT b) h/\AEC ⟨r,5,none⟩ h=.ok (AI AT c) h/\AEC ⟨r,6,none⟩ h=.ok u h/\loadN 7 ⟨r,0,none⟩ h=.ok (Cp AEY seq op a b c u) h:=
 ⟨R.AEC (off:=0) (by show 0<7;omega),R.AEC (off:=1) (by show 1<7;omega),R.AEC (off:=2) (by show 2<7;omega),R.AEC (off:=3) (by show 3<7;omega),R.AEC (off:=4) (by show 4<7;omega),R.AEC (off:=5) (by show 5<7;omega),R.AEC (off:=6) (by show 6<7;omega),R.loadN (off:=0) (n:=7) (by show 0+7<=7;omega)⟩
theorem Rx{n:Int}:call AC (m+1) 89 [AI AT n,AI AT lo,AI AT hi] h=.ok (.bool (wiQ n lo hi)) h:=by
 rw[pL rfl];unfold d89 wiQ;by_cases h1:lo<=n
 ·have c1:iGe n lo=true:=Fs h1
  by_cases h2:n<=hi
  ·have c2:iLe n hi=true:=HS h2
   rw[decide_eq_true ⟨h1,h2⟩];simp only[iN,IS,sT,By,BY,reduceIte,gD,AK,AJ,c1,c2,lV0]
  ·have c2:iLe n hi=false:=Kx h2
   rw[decide_eq_false fun g=>h2 g.2];simp only[iN,IS,sT,By,BY,reduceIte,gD,AK,AJ,c1,c2,lV0]
 ·have c1:iGe n lo=false:=EY h1
  rw[decide_eq_false fun g=>h1 g.1];simp only[iN,IS,sT,By,BY,reduceIte,gD,AK,AJ,c1,lV0]
theorem vB:call AC (m+2) 55 [AI AT AEY,AI AT seq,.int .u8 (op:Int)] h=.ok (.bool (hdQ AEY seq op)) h:=by
 have k1:=Rx (m:=m) (h:=h) (n:=AEY) (lo:=1) (hi:=1099511627776);have k2:=Rx (m:=m) (h:=h) (n:=seq) (lo:=1) (hi:=1099511627776);rw[oe rfl];unfold d55 hdQ;cases h1:wiQ AEY 1 1099511627776
 ·rw[h1]at k1
  simp only[iN,IS,sT,By,BY,reduceIte,gD,cA0,k1,zg,lV0]
 ·rw[h1]at k1
  cases h2:wiQ seq 1 1099511627776
  ·rw[h2]at k2
   simp only[iN,IS,sT,By,BY,reduceIte,gD,cA0,k1,k2,zg,ABE,lV0]
  ·rw[h2]at k2
   by_cases h3:1<=op
   ·have c1:iGe (op:Int) 1=true:=Fs (by omega)
    by_cases h4:op<=6
    ·have c2:iLe (op:Int) 6=true:=HS (by omega)
     rw[decide_eq_true ⟨h3,h4⟩];simp only[iN,IS,sT,By,BY,reduceIte,gD,cA0,k1,k2,AK,AJ,c1,c2,Bool.and_true,lV0]
    ·have c2:iLe (op:Int) 6=false:=Kx (by omega)
     rw[decide_eq_false fun g=>h4 g.2];simp only[iN,IS,sT,By,BY,reduceIte,gD,cA0,k1,k2,AK,AJ,c1,c2,ABE,lV0]
   ·have c1:iGe (op:Int) 1=false:=EY (by omega)
    rw[decide_eq_false fun g=>h3 g.1];simp only[iN,IS,sT,By,BY,reduceIte,gD,cA0,k1,k2,AK,AJ,c1,ABE,lV0]
theorem vO:call AC (m+2) 56 [AI AT a,AI AT b,AI AT c,AI AT least] h=.ok (.bool (nmQ a b c least)) h:=by
 have k1:=Rx (m:=m) (h:=h) (n:=a) (lo:=0) (hi:=1099511627776);have k2:=Rx (m:=m) (h:=h) (n:=b) (lo:=0) (hi:=254);have k3:=Rx (m:=m) (h:=h) (n:=c) (lo:=least) (hi:=1099511627776);rw[oh rfl];unfold d56 nmQ;cases h1:wiQ a 0 1099511627776
 ·rw[h1]at k1
  simp only[iN,IS,sT,By,BY,reduceIte,gD,cA0,k1,zg,lV0]
 ·rw[h1]at k1
  cases h2:wiQ b 0 254
  ·rw[h2]at k2
   simp only[iN,IS,sT,By,BY,reduceIte,gD,cA0,k1,k2,zg,ABE,lV0]
  ·rw[h2]at k2
   simp only[iN,IS,sT,By,BY,reduceIte,gD,cA0,k1,k2,k3,AAg,lV0]
theorem X4(W:h.Wf)(hop:op<256){l:Nat}(U:∀ g:Hp,AEs u g=.ok (AI AT (l:Int)) g):
  ∃ h',call AC (m+3) 32 [Cp AEY seq op a b c u] h=.ok (.bool (ED AEY seq op a b c l)) h'/\h.Ext h':=by
 have bx:=fun (F:AEA) (e:Env) (he:J 0 e=Cp AEY seq op a b c u)=>FE (F:=F) W he
 have x1:=(Hp.Ext.refl W).AD9 0 (CZ AEY seq op a b c u);have R:=Hp.Row.new W 0 (CZ AEY seq op a b c u);generalize h.AD9 0 (CZ AEY seq op a b c u)=h1 at bx x1 R;obtain⟨l0,l1,l2,l3,l4,l5,l6,_⟩:=CP R;have ln:=U h1;have k1:=vB (m:=m) (h:=h1) (AEY:=AEY) (seq:=seq) (op:=op);have k2:=fun (least:Int)=>vO (m:=m) (h:=h1) (a:=a) (b:=b) (c:=c) (least:=least)
 refine⟨h1,?_,x1⟩;rw[oO rfl];unfold d32;have fin:∀ (q:Bool),hdQ AEY seq op=q->ED AEY seq op a b c l=(q && nmQ a b c (De op) && (if op=1 then decide (l<=65536)else decide (l=0))):=fun q hq=>by unfold ED;rw[hq]
 cases hh:hdQ AEY seq op
 ·rw[fin _ hh,zg,zg]
  rw[hh]at k1;by_cases h4:op=4
  ·have c1:iNe (op:Int) 4=false:=CN (by omega)
   simp only[iN,IS,sT,By,BY,reduceIte,gD,bx,AH,AO,If,AN,AP,l0,l1,l2,AK,AJ,c1,cA0,k1,BZ,BX,yh,lV0]
  ·have c1:iNe (op:Int) 4=true:=Fv (by omega)
   by_cases h5:op=5
   ·have c2:iNe (op:Int) 5=false:=CN (by omega)
    simp only[iN,IS,sT,By,BY,reduceIte,gD,bx,AH,AO,If,AN,AP,l0,l1,l2,AK,AJ,c1,c2,cA0,k1,BZ,BX,yh,lV0]
   ·have c2:iNe (op:Int) 5=true:=Fv (by omega)
    simp only[iN,IS,sT,By,BY,reduceIte,gD,bx,AH,AO,If,AN,AP,l0,l1,l2,AK,AJ,c1,c2,cA0,k1,BZ,BX,yh,lV0]
 ·rw[fin _ hh,AAg]
  rw[hh]at k1;have rest:∀ (q:Bool),nmQ a b c (De op)=q->(op=1\/op≠1):=fun _ _=>by omega
  cases hn:nmQ a b c (De op)
  ·rw[zg]
   by_cases h4:op=4
   ·have c1:iNe (op:Int) 4=false:=CN (by omega)
    have k3:=k2 0;rw[show(0:Int)=De op from(if_pos (.inl h4)).symm,hn,show De op=0 from if_pos (.inl h4)]at k3;simp only[iN,IS,sT,By,BY,reduceIte,gD,bx,AH,AO,If,AN,AP,l0,l1,l2,l3,l4,l5,AK,AJ,c1,cA0,k1,k3,BZ,BX,yh,yi,lV0]
   ·have c1:iNe (op:Int) 4=true:=Fv (by omega)
    by_cases h5:op=5
    ·have c2:iNe (op:Int) 5=false:=CN (by omega)
     have k3:=k2 0;rw[show(0:Int)=De op from(if_pos (.inr h5)).symm,hn,show De op=0 from if_pos (.inr h5)]at k3;simp only[iN,IS,sT,By,BY,reduceIte,gD,bx,AH,AO,If,AN,AP,l0,l1,l2,l3,l4,l5,AK,AJ,c1,c2,cA0,k1,k3,BZ,BX,yh,yi,lV0]
    ·have c2:iNe (op:Int) 5=true:=Fv (by omega)
     have k3:=k2 1;rw[show(1:Int)=De op from(if_neg (fun g=>g.elim h4 h5)).symm,hn,show De op=1 from if_neg (fun g=>g.elim h4 h5)]at k3;simp only[iN,IS,sT,By,BY,reduceIte,gD,bx,AH,AO,If,AN,AP,l0,l1,l2,l3,l4,l5,AK,AJ,c1,c2,cA0,k1,k3,BZ,BX,yh,yi,lV0]
  ·rw[AAg]
   by_cases h4:op=4
   ·have c1:iNe (op:Int) 4=false:=CN (by omega)
    have c3:iEq (op:Int) 1=false:=B6 (by omega);have k3:=k2 0;rw[show(0:Int)=De op from(if_pos (.inl h4)).symm,hn,show De op=0 from if_pos (.inl h4)]at k3;rw[if_neg (show ¬ op=1 by omega)];have c4:iEq (l:Int) 0=decide (l=0):=by rw[DY];by_cases q:l=0<;>simp[q]
    simp only[iN,IS,sT,By,BY,reduceIte,gD,bx,AH,AO,If,AN,AP,l0,l1,l2,l3,l4,l5,l6,AK,AJ,c1,c3,c4,cA0,k1,k3,BZ,BX,yh,yi,Af,ln,lV0]
   ·have c1:iNe (op:Int) 4=true:=Fv (by omega)
    by_cases h5:op=5
    ·have c2:iNe (op:Int) 5=false:=CN (by omega)
     have c3:iEq (op:Int) 1=false:=B6 (by omega);have k3:=k2 0;rw[show(0:Int)=De op from(if_pos (.inr h5)).symm,hn,show De op=0 from if_pos (.inr h5)]at k3;rw[if_neg (show ¬ op=1 by omega)];have c4:iEq (l:Int) 0=decide (l=0):=by rw[DY];by_cases q:l=0<;>simp[q]
     simp only[iN,IS,sT,By,BY,reduceIte,gD,bx,AH,AO,If,AN,AP,l0,l1,l2,l3,l4,l5,l6,AK,AJ,c1,c2,c3,c4,cA0,k1,k3,BZ,BX,yh,yi,Af,ln,lV0]
    ·have c2:iNe (op:Int) 5=true:=Fv (by omega)
     have k3:=k2 1;rw[show(1:Int)=De op from(if_neg (fun g=>g.elim h4 h5)).symm,hn,show De op=1 from if_neg (fun g=>g.elim h4 h5)]at k3;by_cases h1:op=1
     ·have c3:iEq (op:Int) 1=true:=CL (by omega)
      rw[if_pos h1];have c4:iLe (l:Int) 65536=decide (l<=65536):=by rw[Om];by_cases q:l<=65536<;>simp[q]<;>omega
      simp only[iN,IS,sT,By,BY,reduceIte,gD,bx,AH,AO,If,AN,AP,l0,l1,l2,l3,l4,l5,l6,AK,AJ,c1,c2,c3,c4,cA0,k1,k3,BZ,BX,yh,yi,Af,ln,lV0]
     ·have c3:iEq (op:Int) 1=false:=B6 (by omega)
      rw[if_neg h1];have c4:iEq (l:Int) 0=decide (l=0):=by rw[DY];by_cases q:l=0<;>simp[q]
      simp only[iN,IS,sT,By,BY,reduceIte,gD,bx,AH,AO,If,AN,AP,l0,l1,l2,l3,l4,l5,l6,AK,AJ,c1,c2,c3,c4,cA0,k1,k3,BZ,BX,yh,yi,Af,ln,lV0]
end
end
noncomputable section
open Go
set_option maxRecDepth 100000
theorem rK:nfS=BI (Ab 0 (A3 nfB)) nfE:=rfl
theorem py:d61=gJ:=rfl
def Bs(k:Kt):List IN:=[AI AT k.a,AI AT k.b,AI AT k.c,.int .u8 (k.s:Int)]
def DG(k:Kt):IN:=.agg ⟨Bs k⟩
def flI(ks:List Kt):List IN:=ks.flatMap Bs
theorem Og:∀ ks:List Kt,(flI ks).length=ks.length*4
 |[]=>rfl
 |k::l=>by
  show(Bs k++flI l).length=_;rw[No,Og l,xY];show 4+l.length*4=_;omega
theorem gX(a b:List Kt):flI (a++b)=flI a++flI b:=List.flatMap_append
def Hp.IL(h:Hp)(k:Nat)(v:IN)(ks:List Kt):Prop:=(v=AEF/\ks=[])\/∃ b,v=.slice (some ⟨b,0,none⟩) ks.length ks.length/\h.Row b 54 (flI ks)/\k<=b
theorem PY:Bt .mt 0 (Bs K0)=some Te:=by kernel_rfl
theorem kC:Bc Jt.zero 1=Bs K0:=by kernel_rfl
theorem cS:Jt.zero=Bs K0:=by kernel_rfl
section
variable {F:AEA}{e:Env}{h h' h0 g:Hp}{A:At}{T M:List Nat}{c0 bad m k n nb r:Nat}{arm AEY:Int}{ks:List Kt}{fr:List Nat}{v lv fv u w:IN}{ov:Bool}{x:Kt}{P:Kt->Bool}
theorem xH(W0:h.Wf)(x:h.Ext g){r:Nat}(hr:h.next<=r){L:List IN}(R:g.Row r 0 L)(hL:L.length=4)(k:Kt):
  AEH 4 (pt r) (DG k) g=.ok AED (g.wr r 0 (Bs k))/\h.Ext (g.wr r 0 (Bs k))/\(g.wr r 0 (Bs k)).Row r 0 (Bs k):=by
 have AEK:256<=r:=by have:=W0.big;omega
 have ho:0+(Bs k).length<=L.length:=by rw[hL];exact IT _
 have st:=R.AEH (n:=4) (off:=0) x.wf AEK (v:=DG k) rfl ho rfl;have wr:=R.AEM x.wf ho;rw[Em (show L.length=(Bs k).length from hL)]at wr;exact⟨st,R.AEe x hr ho,wr⟩
theorem Yk{g1 g2 g3 g4:O}(h1:g1 e=AI AT x.a)(h2:g2 e=AI AT x.b)(h3:g3 e=AI AT x.c)(h4:g4 e=.int .u8 (x.s:Int)):
  BC Jt.zero [(0,1,g1),(1,1,g2),(2,1,g3),(3,1,g4)] F e h=.ok (DG x) h:=by
 rw[CQ,cS,As (hk:=by rw[h1];rfl),h1,As (hk:=by rw[h2];rfl),h2,As (hk:=by rw[h3];rfl),h3,As (hk:=by rw[h4];rfl),h4];simp only[Cq,yg,xY,yS,Bs,over,ABY,ABR,AAH,yU,zb,IS,zr,if_true,Bu,reduceIte];rfl
theorem MO(W:h.Wf){g:O}(hg:g e=DG x):Ar 1 (Bc Jt.zero 1) [(0,4,g)] F e h=.ok (.slice (some ⟨h.next,0,none⟩) 1 1) (h.AD9 0 (Bs x)):=by
 rw[kC,CO,As (hk:=by rw[hg];rfl),hg,show cellsOf (DG x)=Bs x from rfl,if_pos (show(Bs x).length=4 from rfl),if_pos (show 0+4<=(Bs K0).length from IT _),Bu,C4 W];rfl
theorem Uu(W:h.Wf):∃ h',call AC (m+1) 65 [Bk x.a x.b x.c x.s u] h=.ok (DG x) h'/\h.Ext h':=by
 have bx:=fun (F:AEA) (e:Env) (he:J 0 e=Bk x.a x.b x.c x.s u)=>M5 (F:=F) W he
 have x1:=(Hp.Ext.refl W).AD9 0 (A4 x.a x.b x.c x.s u);have R1:=Hp.Row.new W 0 (A4 x.a x.b x.c x.s u);generalize h.AD9 0 (A4 x.a x.b x.c x.s u)=h1 at bx x1 R1;have al:=fun (F:AEA) (e:Env)=>BQ (F:=F) (e:=e) x1.wf (n:=4) (t:=Te)
 have Ra:=Hp.Row.alloc x1.wf PY (show(Bs K0).length=4 from rfl);have y2:h1.Ext (h1.push (.cells Te 4 0)):=(Hp.Ext.refl x1.wf).push _;generalize h1.push (.cells Te 4 0)=h2 at al Ra y2;obtain⟨l0,l1,l2,l3,_,_⟩:=Bh (R1.ext x1.wf y2);have bd:=fun (F:AEA) (e:Env) (e1:J 4 e=AI AT x.a) (e2:J 6 e=AI AT x.b) (e3:J 8 e=AI AT x.c) (e4:J 10 e=.int .u8 (x.s:Int))=>Yk (F:=F) (h:=h2) e1 e2 e3 e4
 obtain⟨st,x3,R3⟩:=xH x1.wf y2 (IT _) Ra rfl x;have ld:loadN 4 ⟨h1.next,0,none⟩ (h2.wr h1.next 0 (Bs x))=.ok (DG x) (h2.wr h1.next 0 (Bs x)):=R3.loadN (off:=0) (n:=4) (by show 0+4<=4;omega);generalize h2.wr h1.next 0 (Bs x)=h3 at st x3 R3 ld;refine⟨h3,?_,x1.trans x3⟩;have hrun:∃ e2,d65 (call AC m) (AS e0 0 [Bk x.a x.b x.c x.s u]) h=.ret e2 h3/\J 2 e2=pt h1.next:=by
  unfold d65;simp only[iN,IS,sT,By,BY,reduceIte,bx,al,AH,AO,If,AN,AP,l0,l1,l2,l3,bd,AX,st];exact⟨_,rfl,by simp[AG]⟩
 obtain⟨e2,r1,r2⟩:=hrun;rw[oy rfl,r1,BG,DW (h':=h3) (v:=DG x) (by rw[r2,Am];exact ld)]
theorem qZ{seq:Int}{op:Nat}{a b c:Int}{l:IN}(W:h.Wf)(R:h.Row r 0 (CZ AEY seq op a b c l)):∃ h',call AC (m+1) 62 [Bk x.a x.b x.c x.s u,pt r] h=.ok (.bool (decide (x.a=a) && decide (x.b=b))) h'/\h.Ext h':=by
 have bx:=fun (F:AEA) (e:Env) (he:J 0 e=Bk x.a x.b x.c x.s u)=>M5 (F:=F) W he
 have x1:=(Hp.Ext.refl W).AD9 0 (A4 x.a x.b x.c x.s u);have R1:=Hp.Row.new W 0 (A4 x.a x.b x.c x.s u);generalize h.AD9 0 (A4 x.a x.b x.c x.s u)=h1 at bx x1 R1;obtain⟨l0,l1,_⟩:=Bh R1;obtain⟨_,_,_,q3,q4,_⟩:=CP (R.ext W x1);refine⟨h1,?_,x1⟩;rw[ot rfl];unfold d62;rcases IV x.a a with ⟨c1,e1⟩|⟨c1,e1⟩
 ·rw[decide_eq_true e1,AAg]
  have c2:iEq x.b b=decide (x.b=b):=by rw[DY];by_cases q:x.b=b<;>simp[q]
  simp only[iN,IS,sT,By,BY,reduceIte,gD,bx,AH,AO,If,AN,AP,l0,l1,q3,q4,AK,AJ,c1,c2,lV0]
 ·rw[decide_eq_false e1,zg]
  simp only[iN,IS,sT,By,BY,reduceIte,gD,bx,AH,AO,If,AN,AP,l0,l1,q3,q4,AK,AJ,c1,lV0]
def LE(x:Kt)(a b c:Int):Bool:=if x.a=a then(if x.b=b then decide (c<x.c)else decide (b<x.b))else decide (a<x.a)
theorem qa{seq:Int}{op:Nat}{a b c:Int}{l:IN}(W:h.Wf)(R:h.Row r 0 (CZ AEY seq op a b c l)):∃ h',call AC (m+1) 66 [Bk x.a x.b x.c x.s u,pt r] h=.ok (.bool (LE x a b c)) h'/\h.Ext h':=by
 have bx:=fun (F:AEA) (e:Env) (he:J 0 e=Bk x.a x.b x.c x.s u)=>M5 (F:=F) W he
 have x1:=(Hp.Ext.refl W).AD9 0 (A4 x.a x.b x.c x.s u);have R1:=Hp.Row.new W 0 (A4 x.a x.b x.c x.s u);generalize h.AD9 0 (A4 x.a x.b x.c x.s u)=h1 at bx x1 R1;obtain⟨l0,l1,l2,_⟩:=Bh R1;obtain⟨_,_,_,q3,q4,q5,_⟩:=CP (R.ext W x1);have gt:∀ p q:Int,iGt p q=decide (q<p):=Gf;refine⟨h1,?_,x1⟩;rw[oz rfl];unfold d66 LE;by_cases h1:x.a=a
 ·have c1:iNe x.a a=false:=CN h1
  rw[if_pos h1];by_cases h2:x.b=b
  ·have c2:iNe x.b b=false:=CN h2
   rw[if_pos h2];simp only[iN,IS,sT,By,BY,reduceIte,gD,bx,AH,AO,If,AN,AP,l0,l1,l2,q3,q4,q5,AK,AJ,c1,c2,gt,lV0]
  ·have c2:iNe x.b b=true:=Fv h2
   rw[if_neg h2];simp only[iN,IS,sT,By,BY,reduceIte,gD,bx,AH,AO,If,AN,AP,l0,l1,l2,q3,q4,q5,AK,AJ,c1,c2,gt,lV0]
 ·have c1:iNe x.a a=true:=Fv h1
  rw[if_neg h1];simp only[iN,IS,sT,By,BY,reduceIte,gD,bx,AH,AO,If,AN,AP,l0,l1,l2,q3,q4,q5,AK,AJ,c1,gt,lV0]
def AEa(bd tb bs:Nat)(AEY:Int):List IN:=[pt bd,pt tb,pt bs,AI AT AEY]
theorem Cg{bd tb bs:Nat}(R:h.Row nb 0 (AEa bd tb bs AEY)):AEC ⟨nb,0,none⟩ h=.ok (pt bd) h/\AEC ⟨nb,1,none⟩ h=.ok (pt tb) h/\AEC ⟨nb,2,none⟩ h=.ok (pt bs) h/\AEC ⟨nb,3,none⟩ h=.ok (AI AT AEY) h:=
 ⟨R.AEC (off:=0) (by show 0<4;omega),R.AEC (off:=1) (by show 1<4;omega),R.AEC (off:=2) (by show 2<4;omega),R.AEC (off:=3) (by show 3<4;omega)⟩
theorem QR(W:h.Wf)(Rn:h.Row nb 0 (AEa A.bd A.tb A.bs AEY))(s:Sl h A T M c0 arm ks fr lv fv bad ov)(hl:ks.length<=49){w:IN}(hP:∀ (g:Hp) (k:Kt) (u:IN),h.Ext g->∃ g',J1 (call AC (m+4)) w [Bk k.a k.b k.c k.s u] g=.ok (.bool (P k)) g'/\g.Ext g'):
  ∃ h' k v,call AC (m+5) 61 [pt nb,w] h=.ok v h'/\h.Ext h'/\h.next<=k/\h'.IL k v (ks.filter P):=by
 obtain⟨_,_,n2,_⟩:=Cg Rn;obtain⟨h1,v1,k1,x1,V⟩:=Tl (m:=m) W s.row s.ls (Sl.all s) (by omega);have ln:=V.len h1;obtain⟨e1,p1,t1,t5,t12,t13,t14⟩:∃ e1,gJ (call AC (m+4)) (AS e0 0 [pt nb,w]) h=nfS (call AC (m+4)) e1 h1/\J 1 e1=w/\J 5 e1=AEF/\J 12 e1=v1/\J 13 e1=AI AT (ks.length:Int)/\J 14 e1=AI AT ((0:Nat):Int):=by
  unfold gJ;simp only[iN,IS,sT,By,BY,reduceIte,Ax,Al,AH,AO,If,AN,AP,n2,cA0,k1,Af,ln];exact⟨_,rfl,by simp[AG]⟩
 have run:∃ e2 h2 v,A3 nfB (call AC (m+4)) e1 h1=.exit 0 e2 h2/\h1.Ext h2/\J 5 e2=v/\h2.IL h1.next v (ks.filter P):=by
  refine Bd (I:=fun i e' h'=>∃ v,h1.Ext h'/\J 1 e'=w/\J 5 e'=v/\J 12 e'=v1/\J 13 e'=AI AT (ks.length:Int)/\J 14 e'=AI AT (i:Int)/\i<=ks.length/\h'.IL h1.next v ((ks.take i).filter P))
   (Q:=fun x=>∃ e2 h2 v,x=.exit 0 e2 h2/\h1.Ext h2/\J 5 e2=v/\h2.IL h1.next v (ks.filter P)) ks.length (by omega) (fun i e' h' ⟨v,x',u1,u5,u12,u13,u14,hi,hv⟩=>?_) ⟨AEF,.refl x1.wf,t1,t5,t12,t13,t14,yK _,.inl ⟨rfl,rfl⟩⟩
  have W':=x'.wf;by_cases hlt:i<ks.length
  ·left
   have c1:=EW hlt;obtain⟨k,hk⟩:∃ k,ks[i]? =some k:=⟨_,List.getElem?_eq_getElem hlt⟩;obtain⟨b,u,ix,ld,U⟩:=(V.ext x1.wf x').at hk;obtain⟨_,_,uo⟩:=ND U;have htk:ks.take (i+1)=ks.take i++[k]:=by rw[List.take_add_one,hk];rfl
   have al:=fun (F:AEA) (e:Env)=>BQ (F:=F) (e:=e) W' (n:=5) (t:=DL)
   have Ra:=Hp.Row.alloc W' Ew (show(A4 0 0 0 0 AEF).length=5 from rfl);have y1:h'.Ext (h'.push (.cells DL 5 0)):=(Hp.Ext.refl W').push _;generalize h'.push (.cells DL 5 0)=h3 at al Ra y1;obtain⟨st,ld2,y2,R5,n5⟩:=LN W' y1 (IT _) Ra rfl (a:=k.a) (b:=k.b) (c:=k.c) (s:=k.s) uo;generalize h3.wr h'.next 0 (A4 k.a k.b k.c k.s u)=h4 at st ld2 y2 R5 n5;have x4:=x'.trans y2;obtain⟨h5,ka,x5⟩:=hP h4 k u (x1.trans x4);have x45:=x4.trans x5;cases hp:P k
   ·rw[hp]at ka
    have a3:=CI (i:=i) (h:=h5) (by omega);obtain⟨e2,r1,r2,r3,r4,r5,r6⟩:∃ e2,nfB (call AC (m+4)) e' h'=.norm e2 h5/\J 1 e2=w/\J 5 e2=v/\J 12 e2=v1/\J 13 e2=AI AT (ks.length:Int)/\J 14 e2=AI AT ((i+1:Nat):Int):=by
     unfold nfB;simp only[sT,By,BY,reduceIte,gD,AK,AJ,u14,u13,c1,A9,u12,ix,Av,Am,ld,al,AX,st,ld2,CV,AV,A2,u1,ka,BM,a3];exact⟨_,rfl,by simp[AG,u1,u5,u12,u13]⟩
    refine⟨hlt,e2,h5,r1,v,x45,r2,r3,r4,r5,r6,hlt,?_⟩;rw[htk,AAJ,List.filter_cons_of_neg (by rw[hp];decide),ABK,xx];rcases hv with h0|⟨b,q1,q2,q3⟩
    ·exact .inl h0
    ·exact .inr ⟨b,q1,(q2.ext W' y2).ext y2.wf x5,q3⟩
   ·rw[hp]at ka
    have lnv:AEs v h5=.ok (AI AT (((ks.take i).filter P).length:Int)) h5:=by
     rcases hv with ⟨q1,q2⟩|⟨b,q1,_⟩
     ·rw[q1,q2];rfl
     ·rw[q1];rfl
    have hfl:((ks.take i).filter P).length<=49:=by
     have h1:=zW P (ks.take i);rw[yM]at h1;omega
    have c50:iLt (((ks.take i).filter P).length:Int) 50=true:=HT (by omega);have ld5:loadN 5 ⟨h'.next,0,none⟩ h5=.ok (Bk k.a k.b k.c k.s u) h5:=(R5.ext y2.wf x5).loadN (off:=0) (n:=5) (by show 0+5<=5;omega);obtain⟨h6,ki,x6⟩:=Uu (m:=m+3) (x:=k) (u:=u) x5.wf;have sl:=fun (F:AEA) (e:Env) (he:J 28 e=DG k)=>MO (F:=F) x6.wf he
    have x46:=x45.trans x6;have y7:=(Hp.Ext.refl x6.wf).AD9 0 (Bs k);have Rw:=Hp.Row.new x6.wf 0 (Bs k);have hn7:h6.next<=(h6.AD9 0 (Bs k)).next:=y7.next;generalize h6.AD9 0 (Bs k)=h7 at sl y7 Rw hn7;have x47:=x46.trans y7;have hs:∀ K:List IN->R,BP h7 4 (.slice (some ⟨h6.next,0,none⟩) 1 1) 1 K=K (Bs k):=fun K=>Rw.AGB (es:=4) (off:=0) (n:=1) (by show 0+1 * 4<=4;omega)
    have big:=x1.wf.big;obtain⟨h8,v8,k8,x8,hv8⟩:∃ h8 v8,DP 4 32 53 v (.slice (some ⟨h6.next,0,none⟩) 1 1) h7=.ok v8 h8/\h1.Ext h8/\h8.IL h1.next v8 ((ks.take i).filter P++[k]):=by
     rcases hv with ⟨q1,q2⟩|⟨b,q1,q2,q3⟩
     ·obtain⟨h8,a1,a2,a3,_⟩:=JW (eb:=32) (en:=53) x47 hs rfl rfl rfl (by omega)
      exact⟨h8,_,by rw[q1];exact a1,a2,by rw[q2];exact .inr ⟨_,rfl,a3,x47.next⟩⟩
     ·have q5:=((q2.ext W' y2).ext y2.wf x5).ext x5.wf (x6.trans y7)
      obtain⟨h8,a1,a2,a3,_⟩:=JR (eb:=32) (en:=53) x47 hs rfl rfl (by omega) rfl q5 (Og _) q3 (by omega) (by omega);refine⟨h8,_,by rw[q1];exact a1,a2,.inr ⟨_,by rw[No];rfl,?_,x47.next⟩⟩;rw[gX];exact a3
    have a3:=CI (i:=i) (h:=h8) (by omega);obtain⟨e2,r1,r2,r3,r4,r5,r6⟩:∃ e2,nfB (call AC (m+4)) e' h'=.norm e2 h8/\J 1 e2=w/\J 5 e2=v8/\J 12 e2=v1/\J 13 e2=AI AT (ks.length:Int)/\J 14 e2=AI AT ((i+1:Nat):Int):=by
     unfold nfB;simp only[sT,By,BY,reduceIte,gD,AK,AJ,u14,u13,c1,A9,u12,ix,Av,Am,ld,al,AX,st,ld2,CV,AV,A2,u1,ka,Af,u5,lnv,c50,ld5,BO,ki,sl,BN,k8,BM,a3];exact⟨_,rfl,by simp[AG,u1,u12,u13]⟩
    refine⟨hlt,e2,h8,r1,v8,x8,r2,r3,r4,r5,r6,hlt,?_⟩;rw[htk,AAJ,List.filter_cons_of_pos hp,ABK];exact hv8
  ·right
   obtain rfl:i=ks.length:=by omega
   have c1:=DD (IT ks.length);obtain⟨e2,r1,r5⟩:∃ e2,nfB (call AC (m+4)) e' h'=.exit 0 e2 h'/\J 5 e2=v:=by
    unfold nfB;simp only[sT,By,BY,reduceIte,AK,AJ,u14,u13,c1];exact⟨_,rfl,by simp[AG,u5]⟩
   rw[r1];rw[List.take_length]at hv;exact⟨rfl,e2,h',v,rfl,x',r5,hv⟩
 obtain⟨e2,h2,v,r1,x2,r5,hv⟩:=run;refine⟨h2,_,v,?_,x1.trans x2,x1.next,hv⟩;rw[oq rfl,py,p1,rK];simp only[BJ,Ay,r1,A7,BA];unfold nfE;simp only[sT,By,BY,reduceIte,r5,lV0]
end
end
noncomputable section
open Go
set_option maxRecDepth 100000
def Cnt(ks:List Kt):Prop:=(∀ x∈ks,∀ y∈ks,¬ ql x y)/\(ks.map Kt.key).Nodup
section
variable {F:AEA}{e:Env}{h g g':Hp}{T M:List Nat}{bd bm bc tb n m c0 k:Nat}{arm:Int}{v:IN}{ks:List Kt}
structure O3 (h g:Hp)(T M:List Nat)(bs r9 k1 bd tb i:Nat)(v mv:IN)(ks:List Kt):Prop where
 x:h.Ext g
 row:g.Row bs 0 (slL bd tb AEF AEF (AFK T M i).length false)
 rb:g.Row r9 0 [pt bs]
 ko:g.KO k1 v ks
 ok:∀ k∈ks,AGR g (fun b=>r9<b) k
 ms:g.Own k1 3 mv (ints .i64 ((mrk T M i).map Int.ofNat))
 le:k1<=g.next
theorem O3.ext{g g':Hp}{bs r9 k1 i:Nat}{mv:IN}(o:O3 h g T M bs r9 k1 bd tb i v mv ks)(x:g.Ext g'):O3 h g' T M bs r9 k1 bd tb i v mv ks:=
 have W:=o.x.wf
 ⟨o.x.trans x,o.row.ext W x,o.rb.ext W x,o.ko.ext W x,fun k hk=>⟨(o.ok k hk).1.ext W x,(o.ok k hk).2⟩,o.ms.ext W x,yP o.le x.next⟩
theorem jp{g:Hp}{r9 k1 i:Nat}{mv:IN}(W:h.Wf)(o:O1 h g T M h.next r9 k1 bd tb i v mv ks)(hl:ks.length<=12)(h1:h.next<r9)(h2:r9<k1):
  ∃ g',call AC (m+7) 74 [v,.func (.func 75) ⟨[]⟩ ⟨[]⟩] g=.ok AED g'/\O3 h g' T M h.next r9 k1 bd tb i v mv (Ds ks):=by
 have Wg:=o.x.wf;rcases o.ko with ⟨rfl,rfl⟩|⟨b,rfl,R,hb,AEK⟩
 ·obtain⟨g3,k3,x3⟩:=jn (m:=m+1) Wg (S:=fun _=>True) (ks:=[]) (.inl ⟨rfl,rfl⟩) (yK _) fun i x y hx _=>by cases hx
  have o3:=o.ext x3;exact⟨g3,k3,⟨o3.x,o3.row,o3.rb,o3.ko,o3.ok,o3.ms,o3.le⟩⟩
 ·have hu:∀ k∈ks,oneCell k.u=true:=fun k hk=>(o.ok k hk).1.vs.one.2.1
  obtain⟨g3,k3,f3,R3⟩:=RW (m:=m+1) (Z:=[]) (n:=ks.length) (c:=ks.length) Wg (by rw[xx];exact R) AEK rfl (IT _) hl hu;rw[xx]at R3;refine⟨g3,k3,⟨Fx.xtF o.x f3 fun i hi=>by rw[hi];omega,f3.row Wg o.row (by omega),f3.row Wg o.rb (by omega),.inr ⟨b,by rw[IG],R3,hb,AEK⟩,fun k hk=>?_,?_,yP o.le f3.next⟩⟩
  ·have hk:=GW.1 hk
   exact⟨(o.ok k hk).1.keep fun b' el L _ he r=>f3.row Wg r (D6 r R (by omega)),(o.ok k hk).2⟩
  ·rcases o.ms with h1|⟨b',h1,h2,h3,h4⟩
   ·exact .inl h1
   ·exact .inr ⟨b',h1,f3.row Wg h2 (D6 h2 R (by omega)),h3,h4⟩
theorem aa(W:h.Wf)(d:Dk h bd bm bc n M c0 [] arm false)(Rt:h.Row tb 0 (T.map wv))(hT:AE4 T)(hn:3<=n/\n<=90)(htb:tb≠bd/\tb≠bm/\tb≠bc)
  (hI:∀ ks:List Kt,ks.map Kt.core=kcs T M (n/3)->Cnt ks)(hl:(kcs T M (n/3)).length<=12)(ha:CA arm (k+60)):
  ∃ h' bs c1 AEd lv fv ks ks0,call AC (m+8) 47 [pt bd,pt tb,AI AT 100] h=.ok (.tuple ⟨[pt bs,AI AT 0]⟩) h'/\Fx (fun b=>b=bd\/b=bm\/b=bc) h h'/\
   Sl h' ⟨bs,bd,bm,bc,tb,n⟩ T (Gy M (AGF ks (mrk T M (n/3)) (n/3))) c1 AEd ks (AFR ks (n/3)) lv fv (AFK T M (n/3)).length false/\ks0.map Kt.core=kcs T M (n/3)/\ks=Ds ks0/\h.next<=bs/\CA AEd k:=by
 have big:=W.big;have s57:∀ (mm:Nat) (g:Hp),call AC (mm+1) 72 [AI AT 100] g=.ok (AI AT 3) g:=fun mm g=>by
  have:=Vn (n:=mm) (h:=g) (z:=100);rw[OG]at this;exact this
 have AJG:=fun g=>s57 (m+6) g
 have k1:=jl (m:=m+5) d;have k2:=Oa (m:=m+5) d;have c1:iEq (n:Int) 0=false:=B6 (by omega);have c2:iEq 3 0=false:=B6 (by omega);have c3:iGt 3 (n:Int)=false:=Ft (by omega);have ne:∀ (F:AEA) (e:Env),J 27 e=pt tb->oEq Ro.k false (J 27) (kV (.pointer none)) F e h=.ok (.bool false) h:=fun F e he=>F2 lq he
 have bl:∀ (F:AEA) (e:Env),J 0 e=pt bd->J 1 e=pt tb->J 2 e=AI AT 100->BC Ri.zero [(0,1,J 0),(1,1,J 1),(2,1,J 2)] F e h=.ok (.agg ⟨slL bd tb AEF AEF 0 false⟩) h:=fun F e a b c=>dq a b c
 have bx:∀ (F:AEA) (e:Env),J 46 e=.agg ⟨slL bd tb AEF AEF 0 false⟩->Cc (J 46) F e h=.ok (pt h.next) (h.AD9 0 (slL bd tb AEF AEF 0 false)):=fun F e he=>by rw[Eu,he,Eq W];rfl
 have x1:=(Hp.Ext.refl W).AD9 0 (slL bd tb AEF AEF 0 false);have R1:=Hp.Row.new W 0 (slL bd tb AEF AEF 0 false);have n1:(h.AD9 0 (slL bd tb AEF AEF 0 false)).next=h.next+1:=rfl;generalize h.AD9 0 (slL bd tb AEF AEF 0 false)=h1 at bx x1 R1 n1;obtain⟨h2,al,st,y2,R9,n2,_⟩:=I9 x1.wf kI (v:=pt h.next) rfl rfl;have x2:=x1.trans y2;have dv:=fun g=>xD (h:=g) (n:=n) (by omega)
 have pre:∃ e1,gH (call AC (m+7)) (AS e0 0 [pt bd,pt tb,AI AT 100]) h=rX (call AC (m+7)) e1 h2/\J 2 e1=AI AT 100/\J 8 e1=AI AT (n:Int)/\J 9 e1=pt h1.next/\J 10 e1=AEF/\J 11 e1=AEF/\J 51 e1=AI AT ((n/3:Nat):Int)/\J 52 e1=AI AT ((0:Nat):Int):=by
  unfold gH;simp only[iN,IS,sT,By,BY,reduceIte,gD,cA0,k1,AK,AJ,c1,ne,AJG,c2,c3,k2,bl,bx,al,AX,st,Jc,dv];exact⟨_,rfl,by simp[AG]⟩
 obtain⟨e1,p1,s2,s8,s9,s10,s11,s51,s52⟩:=pre;have hbs:h.next<=h.next/\h.next<h1.next/\h1.next<h2.next:=⟨IT _,by omega,by omega⟩;have o0:O1 h h2 T M h.next h1.next h2.next bd tb 0 AEF AEF []:=⟨x2,R1.ext x1.wf y2,R9,.inl ⟨rfl,rfl⟩,rfl,fun k hk=>(by cases hk),.inl ⟨rfl,rfl⟩,IT _⟩;have AKT:∃ e' g v mv ks,A3 LL (call AC (m+7)) e1 h2=.exit 1 e' g/\O1 h g T M h.next h1.next h2.next bd tb (n/3) v mv ks/\J 10 e'=v/\J 11 e'=mv/\J 2 e'=AI AT 100/\J 8 e'=AI AT (n:Int)/\J 9 e'=pt h1.next:=by
  refine Bd (I:=fun i e' g=>∃ v mv ks,O1 h g T M h.next h1.next h2.next bd tb i v mv ks/\i<=n/3/\J 10 e'=v/\J 11 e'=mv/\J 52 e'=AI AT (i:Int)/\J 2 e'=AI AT 100/\J 8 e'=AI AT (n:Int)/\J 9 e'=pt h1.next/\J 51 e'=AI AT ((n/3:Nat):Int))
   (Q:=fun x=>∃ e' g v mv ks,x=.exit 1 e' g/\O1 h g T M h.next h1.next h2.next bd tb (n/3) v mv ks/\J 10 e'=v/\J 11 e'=mv/\J 2 e'=AI AT 100/\J 8 e'=AI AT (n:Int)/\J 9 e'=pt h1.next) (n/3) (by omega) (fun i e' g ⟨v,mv,ks,o,hi,t10,t11,t52,t2,t8,t9,t51⟩=>?_) ⟨_,_,_,o0,yK _,s10,s11,s52,s2,s8,s9,s51⟩
  by_cases hlt:i<n/3
  ·left
   obtain⟨e2,g2,v2,mv2,ks2,r1,o2,r2,r3,r4,r5⟩:=aY (m:=m+1) W d Rt hT o hbs hlt t9 t10 t11 t51 t52;exact⟨hlt,e2,g2,r1,v2,mv2,ks2,o2,hlt,r2,r3,r4,(r5 2 (by omega)).trans t2,(r5 8 (by omega)).trans t8,(r5 9 (by omega)).trans t9,(r5 51 (by omega)).trans t51⟩
  ·right
   have hie:i=n/3:=by omega
   have c1:iLt (i:Int) ((n/3:Nat):Int)=false:=DD (by omega);have hrun:∃ e2,LL (call AC (m+7)) e' g=.exit 1 e2 g/\∀ j,j=10\/j=11\/j=2\/j=8\/j=9->J j e2=J j e':=by
    unfold LL;simp only[sT,By,BY,reduceIte,AK,AJ,t52,t51,c1];refine⟨_,rfl,fun j hj=>?_⟩;rcases hj with rfl|rfl|rfl|rfl|rfl<;>simp only[AG,By,BY,reduceIte]
   obtain⟨e2,r1,r2⟩:=hrun;rw[r1];exact⟨rfl,e2,g,v,mv,ks,rfl,hie ▸ o,(r2 10 (by omega)).trans t10,(r2 11 (by omega)).trans t11,(r2 2 (by omega)).trans t2,(r2 8 (by omega)).trans t8,(r2 9 (by omega)).trans t9⟩
 obtain⟨e2,g2,v,mv,ks,q1,o,t10,t11,t2,t8,t9⟩:=AKT;have hkl:ks.length<=12:=by rw[<- OF (f:=Kt.core),o.cs];exact hl
 obtain⟨g3,k3,o3⟩:=jp (m:=m) W o hkl hbs.2.1 hbs.2.2;have hC:=hI ks o.cs;have hcs:=o.cs;clear o;have hm3:∀ k,k∈Ds ks↔k∈ks:=fun k=>GW
 have hl3:(Ds ks).length<=12:=by rw[IG];exact hkl
 have hn3:((Ds ks).map Kt.key).Nodup:=((Gw ks).map Kt.key).nodup_iff.2 hC.2;generalize AIR:Ds ks=ks3 at o3 hm3 hl3 hn3;have o4:=o3.ext (Hp.Ext.refl o3.x.wf).marked;have lb:=DI o4.rb;have old:∀ (kk:C) (F:AEA) (e:Env),Iq (pt h1.next) kk F e g3.marked=kk F e g3.marked:=fun kk F e=>Dg (by
  show h1.next<g3.next;have:=o3.le;omega)
 obtain⟨g5,w,k5,x5,kw,kz⟩:=Pw (m:=m+3) o4.x.wf.quiet (o4.ko.lst.same (h':=g3.marked.quiet) rfl) (by omega) (fun k hk=>(o4.ok k hk).1.vs.one.2.1) (fun x hx y hy=>hC.1 x ((hm3 x).1 hx) y ((hm3 y).1 hy)) fun i j x y hx hy hij ht=>absurd ((List.getElem?_inj (i:=i) (j:=j) (by rw[OF];exact(yD.1 hx).1) hn3).1 (by rw[yx,yx,hx,hy];obtain⟨e1,e2,e3,_⟩:=ht;show some (x.a,x.b,x.c)=some (y.a,y.b,y.c);rw[e1,e2,e3])) (by omega)
 have q5:∀ e:Env,J 10 e=v->Ae .weak (AU 76 [J 10]) (call AC (m+7)) e g3.marked=.ok w (g3.marked.back g5):=fun e he=>by
  refine Ck ?_ x5 (IT _);rw[BO,AV,A2,he];exact k5
 have y5:g3.marked.Ext (g3.marked.back g5):=.back x5;have kw5:(g3.marked.back g5).KO g3.marked.quiet.next w ks3:=kw.same rfl;generalize g3.marked.back g5=g6 at q5 y5 kw5;have o6:=o4.ext y5;have AJH:cellsOf w=[w]/\oneCell w=true:=⟨kw5.lst.one.1,kw5.lst.one.2.1⟩;obtain⟨g7,k7,AIS,n7,_,fx7,ex7⟩:=MI o6.x.wf o6.row (off:=3) (show 3<7 by omega) big AJH.1 AJH.2;have x7:=ex7 h o6.x (IT _);have kp7:∀ b el L,b≠h.next->g6.Row b el L->g7.Row b el L:=fun b el L hb r=>fx7.row o6.x.wf r hb
 have AIS:g7.Row h.next 0 (slL bd tb w AEF (AFK T M (n/3)).length false):=AIS;have hk2:h2.next<=g3.marked.quiet.next:=o3.le;have AKU:∀ {u:IN} {xs:List IN},g6.Own h2.next 3 u xs->g7.Own h2.next 3 u xs:=fun o=>by
  rcases o with h1'|⟨b,h1',h2',h3',h4'⟩
  ·exact .inl h1'
  ·exact .inr ⟨b,h1',kp7 b _ _ (by omega) h2',h3',h4'⟩
 have ko7:g7.KO h2.next w ks3:=by
  rcases kw5 with h1'|⟨b,h1',h2',h3',h4'⟩
  ·exact .inl h1'
  ·exact .inr ⟨b,h1',kp7 b _ _ (by omega) h2',by omega,h4'⟩
 have p0:O2 h g7 (mrk T M (n/3)) h.next h1.next h2.next bd tb 0 (AFK T M (n/3)).length w mv AEF AEF ks3:=⟨x7,AIS,kp7 _ _ _ (by omega) o6.rb,ko7,fun k hk=>⟨(o6.ok k hk).1.keep fun b el L hb he r=>kp7 b el L (by have hb:h1.next<b:=hb;omega) r,(o6.ok k hk).2⟩,.inl ⟨rfl,rfl⟩,.inl ⟨rfl,rfl⟩,AKU o6.ms,fun b=>⟨fun h=>absurd h GH,fun h=>absurd h GH⟩,by rw[n7];exact o6.le⟩;have mid:∃ e3,VQ (call AC (m+7)) e2 g2=rY (call AC (m+7)) e3 g7/\J 9 e3=pt h1.next/\J 11 e3=mv/\J 17 e3=.func (.func 77) ⟨[]⟩ ⟨[pt h1.next]⟩/\J 18 e3=AEF/\J 102 e3=AI AT ((n/3:Nat):Int)/\J 103 e3=AI AT ((0:Nat):Int):=by
  unfold VQ;simp only[sT,By,BY,reduceIte,cA0,t10,k3,A0,D5,t9,old,DQ,AN,AP,lb,q5,Ax,Al,AH,AO,If];rw[k7 _ _ _ _ (by simp[AG]) (by simp[AG])];simp only[sT,By,BY,reduceIte,cA0,Df,t9,t2,AJG,t8,Jc,dv];exact⟨_,rfl,by simp[AG,t9,t11]⟩
 obtain⟨e3,p3,u9,u11,u17,u18,AKV,AKW⟩:=mid;have AKX:∃ e' g fv ou,A3 LM (call AC (m+7)) e3 g7=.exit 4 e' g/\O2 h g (mrk T M (n/3)) h.next h1.next h2.next bd tb (n/3) (AFK T M (n/3)).length w mv fv ou ks3/\J 9 e'=pt h1.next/\J 18 e'=ou:=by
  refine Bd (I:=fun i e' g=>∃ fv ou,O2 h g (mrk T M (n/3)) h.next h1.next h2.next bd tb i (AFK T M (n/3)).length w mv fv ou ks3/\i<=n/3/\J 9 e'=pt h1.next/\J 11 e'=mv/\J 17 e'=.func (.func 77) ⟨[]⟩ ⟨[pt h1.next]⟩/\J 18 e'=ou/\J 102 e'=AI AT ((n/3:Nat):Int)/\J 103 e'=AI AT (i:Int))
   (Q:=fun x=>∃ e' g fv ou,x=.exit 4 e' g/\O2 h g (mrk T M (n/3)) h.next h1.next h2.next bd tb (n/3) (AFK T M (n/3)).length w mv fv ou ks3/\J 9 e'=pt h1.next/\J 18 e'=ou) (n/3) (by omega) (fun i e' g ⟨fv,ou,o,hi,t9,t11,t17,t18,Re,PR⟩=>?_) ⟨_,_,p0,yK _,u9,u11,u17,u18,AKV,AKW⟩
  by_cases hlt:i<n/3
  ·left
   have hml:(mrk T M (n/3)).length<=n/3:=Dq _ _;obtain⟨e2,g2,fv2,ou2,r1,o2,r2,r3,r4⟩:=aZ (m:=m+1) W o hbs hlt (by omega) (by omega) (by omega) t9 t11 t17 t18 Re PR;exact⟨hlt,e2,g2,r1,fv2,ou2,o2,hlt,(r4 9 (by omega)).trans t9,(r4 11 (by omega)).trans t11,(r4 17 (by omega)).trans t17,r2,(r4 102 (by omega)).trans Re,r3⟩
  ·right
   have hie:i=n/3:=by omega
   have c1:iLt (i:Int) ((n/3:Nat):Int)=false:=DD (by omega);have hrun:∃ e2,LM (call AC (m+7)) e' g=.exit 4 e2 g/\J 9 e2=pt h1.next/\J 18 e2=ou:=by
    unfold LM;simp only[sT,By,BY,reduceIte,AK,AJ,PR,Re,c1];exact⟨_,rfl,by simp[AG,t9,t18]⟩
   obtain⟨e2,r1,r2,r3⟩:=hrun;rw[r1];exact⟨rfl,e2,g,fv,ou,rfl,hie ▸ o,r2,r3⟩
 obtain⟨e4,g8,fv,ou,q8,o8,v9,v18⟩:=AKX;have W8:=o8.x.wf;have lt:=d.lt W;have nD:∀ b,h.next<b->¬ (⟨h.next,bd,bm,bc,tb,n⟩:At).D b:=fun b hb=>by
  rintro (h1|h1|h1|h1)
  ·have h1:b=h.next:=h1
   omega
  ·have h1:b=bd:=h1
   omega
  ·have h1:b=bm:=h1
   omega
  ·have h1:b=bc:=h1
   omega
 have hbl:(AFK T M (n/3)).length<=n/3:=Dq _ _;have hfl:(AFR ks3 (n/3)).length<=n/3:=Dq _ _;have hol:(AGF ks3 (mrk T M (n/3)) (n/3)).length<=n/3:=Dq _ _;have AKs:=Rt.lt W;have sl:Sl g8 ⟨h.next,bd,bm,bc,tb,n⟩ T M c0 arm ks3 (AFR ks3 (n/3)) w fv (AFK T M (n/3)).length false:=by
  refine⟨o8.row,d.ext W o8.x,Rt.ext W o8.x,hT,?_,fun k hk=>⟨(o8.ok k hk).1.mono fun b hb=>nD b (by have hb:h1.next<b:=hb;omega),(o8.ok k hk).2⟩,?_,⟨by show h.next≠bd;omega,by show h.next≠bm;omega,by show h.next≠bc;omega,?_,big⟩,⟨by omega,by omega,by omega,fun p hp=>?_⟩⟩
  ·refine Hp.KW.ks ?_
   rcases o8.ko with h1'|⟨b,h1',h2',h3',_⟩
   ·exact .inl h1'
   ·exact .inr ⟨b,h1',h2',nD b (by omega)⟩
  ·rcases o8.fs with h1'|⟨b,h1',h2',h3',_⟩
   ·exact .inl h1'
   ·exact .inr ⟨b,4,h1',h2',.inl rfl,nD b (by omega)⟩
  ·rintro (h1|h1|h1|h1)
   ·have h1:tb=h.next:=h1
    omega
   ·exact htb.1 h1
   ·exact htb.2.1 h1
   ·exact htb.2.2 h1
  ·have:=AAC.1 (yY.1 hp).1
   show 3*p+3<=n;omega
 obtain⟨g9,c9,AGM,k9,f9,s9',a9⟩:=Ki (m:=m+1) (k:=k) W8 sl (ps:=AGF ks3 (mrk T M (n/3)) (n/3)) (pv:=ou) o8.os.vals (fun p hp=>by
  have:=AAC.1 (yY.1 hp).1;show 3*p+3<=n;omega) (ABg.filter _) (by omega) (ha.le (by omega))
 have lb8:=DI o8.rb;have c0':iNe 0 0=false:=CN rfl;have lb9:=DI (f9.row W8 o8.rb (by
  rintro (q|q|q)
  ·have q:h1.next=bd:=q
   omega
  ·have q:h1.next=bm:=q
   omega
  ·have q:h1.next=bc:=q
   omega))
 have k9:call AC (m+7) 81 [pt h.next,ou] g8=.ok (AI AT 0) g9:=k9;refine⟨g9,h.next,c9,AGM,w,fv,ks3,ks,?_,(Fx.of o8.x).trans f9,s9',hcs,AIR.symm,IT _,a9⟩;rw[oZ rfl,pu,p1,jF];simp only[BJ,Ay,q1,A7,BA];rw[jE,p3,jG];simp only[BJ,Ay,q8,A7,BA];unfold rW;simp only[sT,By,BY,reduceIte,AN,AP,v9,lb8,cA0,v18,k9,AK,AJ,c0',lb9,BG,DR]
end
end
noncomputable section
open Go
set_option maxRecDepth 100000
structure AFi (np:Nat)(T M:List Nat)(ks:List Kt)(fr:List Nat):Prop where
 len:M.length=64*(3*np)
 hd:∀ k∈ks,sec M (3*k.p)=AEb T k.a k.b k.c k.s k.l
 dt:∀ k∈ks,dat M k.p k.l.length=k.l
 bl:∀ p∈fr,∀ r,r<64->M.getD (64*(3*p)+r) 0=0
 rs:∀ k∈ks,AEP k.a k.b k.c k.s k.l.length=true/\k.l.length<=100
 pl:∀ p∈fr,p<np
abbrev Med(T M:List Nat)(ks:List Kt)(fr:List Nat):Prop:=AFi 8 T M ks fr
def Com(ks:List Kt):Prop:=∀ x∈ks,∀ y∈ks,y.a=x.a->y.b=x.b->y.s=2->y.c<=x.c
section
variable {T M M':List Nat}{ks ks':List Kt}{fr fr' ps:List Nat}{kd a b c:Int}{l H:List Nat}{n p q k np:Nat}
theorem Mz(h1:M'.length=M.length)(h:∀ x,x/64=q->M'.getD x 0=M.getD x 0):sec M' q=sec M q:=by
 have hl:∀ M:List Nat,(sec M q).length=min 64 (M.length - 64*q):=fun M=>by unfold sec;rw[yM,yk]
 refine JH (by rw[hl,hl,h1]) fun i hi=>?_
 rw[hl]at hi;rw[Jk (by omega),Jk (by omega),h _ (by omega)]
theorem JF(h1:M'.length=M.length)(hk:k<=128)(h:∀ x,x/64=3*p+1\/x/64=3*p+2->M'.getD x 0=M.getD x 0):dat M' p k=dat M p k:=by
 have hl:∀ M:List Nat,(dat M p k).length=min k (M.length - 64*(3*p+1)):=fun M=>by unfold dat;rw[yM,yk]
 refine JH (by rw[hl,hl,h1]) fun i hi=>?_
 rw[hl]at hi;rw[L8 (by omega),L8 (by omega),h _ (by omega)]
theorem TG(h1:M.length=64*n)(hq:q<n)(hH:H.length=64)(h:∀ r,r<64->M.getD (64*q+r) 0=H.getD r 0):sec M q=H:=by
 have hl:=Jl h1 hq;refine JH (by rw[hl,hH]) fun i hi=>?_
 rw[Jk (by omega),h i (by omega)]
theorem qE(h1:M.length=64*n)(hp:3*p+3<=n)(hl:l.length<=128)(h:∀ r,r<l.length->M.getD (64*(3*p+1)+r) 0=l.getD r 0):dat M p l.length=l:=by
 have hd:(dat M p l.length).length=l.length:=by unfold dat;rw[yM,yk];omega
 refine JH hd fun i hi=>?_
 rw[hd]at hi;rw[L8 hi,h i hi]
theorem ZM(hM:M.length=64*n)(hp:3*p+3<=n)(hl:l.length<=100)(hH:H.length=64):
  (Dw T M p l H).length=64*n/\sec (Dw T M p l H) (3*p)=H/\dat (Dw T M p l H) p l.length=l/\∀ x,x/192≠p->(Dw T M p l H).getD x 0=M.getD x 0:=by
 rcases Nat.eq_zero_or_pos l.length with h0|h0
 ·obtain rfl:=List.eq_nil_of_length_eq_zero h0
  have e:Dw T M p [] H=IM M (p*3) H:=rfl;have hL:=DT hM (show p*3<n by omega) hH;rw[e];refine⟨hL,TG hL (by omega) hH fun r hr=>?_,List.take_zero,fun x hx=>?_⟩
  ·rw[EQ hM (by omega) hH,if_pos (by omega),show(64*(3*p)+r) % 64=r by omega]
  ·rw[EQ hM (by omega) hH,if_neg (by omega)]
 ·obtain⟨hL,hx⟩:=ZN (T:=T) hM hp ⟨h0,hl⟩ hH
  refine⟨hL,TG hL (by omega) hH fun r hr=>?_,qE hL hp (by omega) fun r hr=>?_,fun x hn=>?_⟩
  ·rw[hx,if_pos (by omega),show(64*(3*p)+r) % 64=r by omega]
  ·rw[hx,if_neg (by omega)]
   by_cases h1:r<64
   ·rw[if_pos (by omega),show(64*(3*p+1)+r) % 64=r by omega]
   ·rw[if_neg (by omega),if_pos ⟨by omega,by omega⟩,show 64+(64*(3*p+1)+r) % 64=r by omega]
  ·rw[hx,if_neg (by omega),if_neg (by omega),if_neg (by omega)]
theorem bo:∀ (ps:List Nat) {M:List Nat},M.length=64*n->(∀ p∈ps,3*p+3<=n)->(Gy M ps).length=64*n/\∀ x,(Gy M ps).getD x 0=if x % 192<64/\x/192∈ps then 0 else M.getD x 0
 |[],M,hM,_=>⟨hM,fun x=>by rw[if_neg (fun h=>by cases h.2)];rfl⟩
 |p::ps,M,hM,hp=>by
  have h3:=hp p xa;have e:Gy M (p::ps)=Gy (IM M (p*3) Bg) ps:=rfl;have hz:Bg.length=64:=List.length_replicate;have hL:=DT hM (show p*3<n by omega) hz;obtain⟨g1,g2⟩:=bo ps hL fun q hq=>hp q (xZ _ hq)
  rw[e];refine⟨g1,fun x=>?_⟩;rw[g2,EQ hM (by omega) hz];by_cases h1:x % 192<64/\x/192∈ps
  ·rw[if_pos h1,if_pos ⟨h1.1,xZ _ h1.2⟩]
  ·rw[if_neg h1]
   by_cases h2:x/64=p*3
   ·rw[if_pos h2,if_pos ⟨by omega,by rw[show x/192=p by omega];exact xa⟩]
    unfold Bg;exact RI
   ·rw[if_neg h2,if_neg]
    rintro⟨q1,q2⟩;rcases xz.1 q2 with q2|q2
    ·omega
    ·exact h1 ⟨q1,q2⟩
theorem Na:∀ (out:List Kt) (M:List Nat),IU M out=Gy M (out.map Kt.plc)
 |[],_=>rfl
 |x::out,M=>Na out (Gy M [x.p])
theorem AFi.cut(m:AFi np T M ks fr)(hs:∀ k∈ks',k∈ks/\k.p∉ps)(hf:∀ p∈fr',p∈fr\/p∈ps)(hp:∀ p∈ps,3*p+3<=3*np):AFi np T (Gy M ps) ks' fr':=by
 obtain⟨g1,g2⟩:=bo ps m.len hp;have hn:∀ k∈ks',∀ x,x/192=k.p->(Gy M ps).getD x 0=M.getD x 0:=fun k hk x hx=>by
  rw[g2,if_neg];rintro⟨_,q2⟩;rw[hx]at q2;exact(hs k hk).2 q2
 refine⟨g1,fun k hk=>?_,fun k hk=>?_,fun p hp r hr=>?_,fun k hk=>m.rs k (hs k hk).1,fun p hp'=>?_⟩
 ·rw[Mz (g1.trans m.len.symm) fun x hx=>hn k hk x (by omega)]
  exact m.hd k (hs k hk).1
 ·rw[JF (g1.trans m.len.symm) (by have:=(m.rs k (hs k hk).1).2;omega) fun x hx=>hn k hk x (by omega)]
  exact m.dt k (hs k hk).1
 ·rw[g2]
  by_cases h1:(64*(3*p)+r) % 192<64/\(64*(3*p)+r)/192∈ps
  ·rw[if_pos h1]
  ·rw[if_neg h1]
   rcases hf p hp with h|h
   ·exact m.bl p h r hr
   ·exact absurd ⟨by omega,by rw[show(64*(3*p)+r)/192=p by omega];exact h⟩ h1
 ·rcases hf p hp' with h|h
  ·exact m.pl p h
  ·have:=hp p h;omega
theorem AFi.go(m:AFi np T M ks fr)(i:AFN np ks fr)(P:Kt->Bool){out:List Kt}(ho:out.Perm (ks.filter P)):AFi np T (Gy M (out.map Kt.plc)) (ks.filter fun k=> !P k) (frE fr out):=by
 refine m.cut (fun k hk=>?_) (fun p hp=>?_) fun p hp=>?_
 ·obtain⟨h1,h2⟩:=yY.1 hk
  refine⟨h1,fun hp=>?_⟩;obtain⟨y,hy,hyp⟩:=yz.1 hp;obtain⟨h3,h4⟩:=yY.1 (ho.mem_iff.1 hy);rw[FN i.nd h3 h1 hyp]at h4;rw[h4]at h2;cases h2
 ·have:=(JP out fr).mem_iff.1 hp
  exact yL.1 this
 ·obtain⟨y,hy,rfl⟩:=yz.1 hp
  exact i.lt y (yY.1 (ho.mem_iff.1 hy)).1
theorem RZ(hc:Com ks)(hst:CW a b c ks=false):∀ y∈ks,y.a=a->y.b=b->y.s=2->y.c<c:=fun y hy h1 h2 h3=>by
 unfold CW at hst;cases hf:ks.find? (Md a b)with
 |none=>
  refine absurd ?_ (List.find?_eq_none.1 hf y hy);unfold Md;rw[decide_eq_true h1,decide_eq_true h2,decide_eq_true h3];rfl
 |some k=>
  rw[hf]at hst;have hk:=ABJ hf;unfold Md at hk;rw[yA,yA]at hk;have k1:=of_decide_eq_true hk.1.1;have k2:=of_decide_eq_true hk.1.2;have k3:=of_decide_eq_true hk.2;have hkm:=AB0 hf;have:=hc k hkm y hy (h1.trans k1.symm) (h2.trans k2.symm) h3;have h4:¬ c<=k.c:=of_decide_eq_false hst;omega
theorem mem_set{x y z:Kt}{j:Nat}(hj:ks[j]? =some x)(hz:z∈ks.set j y):z=y\/z∈ks:=(List.mem_or_eq_of_mem_set hz).symm
theorem ji{x y z:Kt}{j:Nat}(hj:ks[j]? =some x)(hz:z∈ks)(hne:z≠x):z∈ks.set j y:=by
 obtain⟨i,hi⟩:=ABH.1 hz;refine ABH.2 ⟨i,?_⟩;rw[List.getElem?_set,if_neg]
 ·exact hi
 ·intro h
  rw[<- h,hj]at hi;exact hne (Option.some.inj hi).symm
theorem LY{x y:Kt}(h:x.core=y.core):x.a=y.a/\x.b=y.b/\x.c=y.c/\x.s=y.s/\x.l=y.l/\x.p=y.p:=⟨congrArg Kc.a h,congrArg Kc.b h,congrArg Kc.c h,congrArg Kc.s h,congrArg Kc.l h,congrArg Kc.p h⟩
theorem Jr(i:AFN np ks fr)(m:AFi np T M ks fr)(hc:Com ks)(t:Pb T M ks fr kd a b c l M' ks' fr'):AFi np T M' ks' fr'/\Com ks'/\(∀ k,¬ (k.a=a/\k.b=b)->(k∈ks'↔k∈ks)):=by
 rcases t with ⟨hk,hz,p,k',rfl,rfl,hcr,rfl⟩|⟨hk,j,kx,hj,AFO,hst,rfl,rfl,rfl⟩|⟨rfl,j,kx,hj,AFO,hst,rfl,rfl,rfl⟩|⟨rfl,rfl,rfl,rfl⟩
 ·unfold HE at hz
  split at hz
  ·cases hz
  rename_i hn;split at hz
  ·split at hz<;>cases hz
  split at hz
  ·cases hz
  rename_i hst;have AGU:CW a b c ks=false:=by
   cases hq:CW a b c ks
   ·rfl
   ·exact absurd hq hst
  have hr:AEP a b c 1 l.length=true:=by
   cases hq:AEP a b c 1 l.length
   ·exact absurd (.inl hq) hn
   ·rfl
  have AGS:l.length<=100:=Nat.le_of_not_lt fun h=>hn (.inr h)
  have e1:k'.a=a:=congrArg Kc.a hcr;have e2:k'.b=b:=congrArg Kc.b hcr;have e3:k'.c=c:=congrArg Kc.c hcr;have e4:k'.s=1:=congrArg Kc.s hcr;have e5:k'.l=l:=congrArg Kc.l hcr;have e6:k'.p=p:=congrArg Kc.p hcr;have hp8:=m.pl p xa;obtain⟨g1,g2,g3,g4⟩:=ZM (T:=T) (p:=p) (H:=AEb T a b c 1 l) m.len (by omega) AGS (GO hr);have hnd:(ks.map Kt.plc++(p::fr')).Nodup:=i.plc.nodup_iff.2 ABg;have hmem:∀ k,k∈Ds (ks++[k'])↔k∈ks\/k=k':=fun k=>by rw[GW,yL,yE]
  have hkp:∀ k∈ks,k.p≠p:=fun k hk h=>(AAw.1 hnd).2.2 k.p (yz.2 ⟨k,hk,rfl⟩) p xa h
  have hfp:∀ q∈fr',q≠p:=fun q hq h=>(AAW.1 (AAw.1 hnd).2.1).1 (h ▸ hq)
  have hs:∀ k∈ks,∀ x,x/192=k.p->(Dw T M p l (AEb T a b c 1 l)).getD x 0=M.getD x 0:=fun k hk x hx=>g4 x (by rw[hx];exact hkp k hk)
  refine⟨⟨g1,fun k hk=>?_,fun k hk=>?_,fun q hq r hr=>?_,fun k hk=>?_,fun q hq=>m.pl q (xZ _ hq)⟩,fun x hx y hy h1 h2 h3=>?_,fun k hne=>?_⟩
  ·rcases (hmem k).1 hk with hk|rfl
   ·rw[Mz (g1.trans m.len.symm) fun x hx=>hs k hk x (by omega)]
    exact m.hd k hk
   ·rw[e6,g2,e1,e2,e3,e4,e5]
  ·rcases (hmem k).1 hk with hk|rfl
   ·rw[JF (g1.trans m.len.symm) (by have:=(m.rs k hk).2;omega) fun x hx=>hs k hk x (by omega)]
    exact m.dt k hk
   ·rw[e6,e5,g3]
  ·rw[g4 _ (by have:=hfp q hq;omega)]
   exact m.bl q (xZ _ hq) r hr
  ·rcases (hmem k).1 hk with hk|rfl
   ·exact m.rs k hk
   ·rw[e1,e2,e3,e4,e5];exact⟨hr,AGS⟩
  ·rcases (hmem y).1 hy with hyk|hyk
   ·rcases (hmem x).1 hx with hxk|hxk
    ·exact hc x hxk y hyk h1 h2 h3
    ·rw[hxk]at h1 h2 ⊢
     have:=RZ hc AGU y hyk (h1.trans e1) (h2.trans e2) h3;rw[e3];omega
   ·rw[hyk]at h3
    omega
  ·rw[hmem]
   refine⟨fun h=>h.resolve_right fun h1=>hne (by rw[h1];exact⟨e1,e2⟩),.inl⟩
 ·have hjl:=(yD.1 hj).1
  have hkm:=xp hj;obtain⟨rfl,rfl,rfl⟩:=AFO;have hp3:=i.lt kx hkm;have hr0:=m.rs kx hkm;have hr2:AEP kx.a kx.b kx.c 2 kx.l.length=true:=by
   obtain⟨g1,g2,g3,g4,g5,g6,g7,g8⟩:=EF hr0.1;exact decide_eq_true ⟨g1,g2,g3,g4,g5,g6,.inr rfl,g8⟩
  obtain⟨g1,g2⟩:=Y4 m.len (p:=kx.p) hp3 (GO (T:=T) hr2);have i2:=i.set (y:={kx with s:=2}) hj rfl rfl;have AEl:∀ z∈ks.set j {kx with s:=2},z={kx with s:=2}\/(z∈ks/\z.p≠kx.p):=fun z hz=>by
   rcases mem_set hj hz with h|h
   ·exact .inl h
   ·by_cases hzp:z.p=kx.p
    ·have hX:({kx with s:=2}:Kt)∈ks.set j {kx with s:=2}:=List.mem_set hjl _
     exact .inl (FN i2.nd hz hX hzp)
    ·exact .inr ⟨h,hzp⟩
  have hs:∀ z∈ks,z.p≠kx.p->∀ x,x/192=z.p->(G7 M kx.p (AEb T kx.a kx.b kx.c 2 kx.l)).getD x 0=M.getD x 0:=fun z hz hzp x hx=>by rw[g2,if_neg (by omega)]
  have m2:AFi np T (G7 M kx.p (AEb T kx.a kx.b kx.c 2 kx.l)) (ks.set j {kx with s:=2}) fr:=by
   refine⟨g1,fun k hk=>?_,fun k hk=>?_,fun q hq r hr=>?_,fun k hk=>?_,m.pl⟩
   ·rcases AEl k hk with rfl|⟨h1,h2⟩
    ·exact TG g1 (by show 3*kx.p<3*np;omega) (GO hr2) fun r hr=>by rw[g2,if_pos (show(64*(3*kx.p)+r)/64=3*kx.p by omega),show(64*(3*kx.p)+r) % 64=r by omega]
    ·rw[Mz (g1.trans m.len.symm) fun x hx=>hs k h1 h2 x (by omega)]
     exact m.hd k h1
   ·rcases AEl k hk with rfl|⟨h1,h2⟩
    ·show dat _ kx.p kx.l.length=kx.l
     rw[JF (g1.trans m.len.symm) (by omega) fun x hx=>by rw[g2,if_neg (by omega)]];exact m.dt kx hkm
    ·rw[JF (g1.trans m.len.symm) (by have:=(m.rs k h1).2;omega) fun x hx=>hs k h1 h2 x (by omega)]
     exact m.dt k h1
   ·have hnd:(ks.map Kt.plc++fr).Nodup:=i.plc.nodup_iff.2 ABg
    have hqk:kx.p≠q:=(AAw.1 hnd).2.2 kx.p (yz.2 ⟨kx,hkm,rfl⟩) q hq;rw[g2,if_neg (by omega)];exact m.bl q hq r hr
   ·rcases AEl k hk with rfl|⟨h1,h2⟩
    ·exact⟨hr2,hr0.2⟩
    ·exact m.rs k h1
  have m3:=m2.go i2 (elB kx.a kx.b kx.c) (out:=(ks.set j {kx with s:=2}).filter (elB kx.a kx.b kx.c)) (.refl _);refine⟨m3,fun x hx y hy h1 h2 h3=>?_,fun k hne=>?_⟩
  ·obtain⟨hx1,hx2⟩:=yY.1 hx
   obtain⟨hy1,hy2⟩:=yY.1 hy;rcases AEl y hy1 with rfl|⟨hy3,hy4⟩
   ·refine Int.not_lt.1 fun hlt=>?_
    have hlt:x.c<kx.c:=hlt;have h1:kx.a=x.a:=h1;have h2:kx.b=x.b:=h2;unfold elB at hx2;rw[decide_eq_true h1.symm,decide_eq_true h2.symm,decide_eq_true hlt]at hx2;cases hx2
   ·rcases AEl x hx1 with rfl|⟨hx3,hx4⟩
    ·have h1:y.a=kx.a:=h1
     have h2:y.b=kx.b:=h2;have hlt:=RZ hc hst y hy3 h1 h2 h3;unfold elB at hy2;rw[decide_eq_true h1,decide_eq_true h2,decide_eq_true hlt]at hy2;cases hy2
    ·exact hc x hx3 y hy3 h1 h2 h3
  ·rw[yY]
   constructor
   ·rintro⟨h1,_⟩
    rcases AEl k h1 with rfl|⟨h2,_⟩
    ·exact absurd ⟨rfl,rfl⟩ hne
    ·exact h2
   ·intro h1
    refine⟨ji hj h1 fun h=>hne (by rw[h];exact⟨rfl,rfl⟩),?_⟩;cases hq:elB kx.a kx.b kx.c k
    ·rfl
    ·unfold elB at hq
     rw[yA,yA]at hq;exact absurd ⟨of_decide_eq_true hq.1.1,of_decide_eq_true hq.1.2⟩ hne
 ·obtain⟨AFj,hPl⟩:=O6 hj
  obtain⟨rfl,rfl,rfl⟩:=AFO;have hkm:=xp hj;have hp3:=i.lt kx hkm;have hnd:=i.nd;have hsub:∀ k∈ks.take j++ks.drop (j+1),k∈ks/\k.p≠kx.p:=fun k hk=>by
   have hkk:k∈ks:=by
    rcases yL.1 hk with h|h
    ·exact zV h
    ·exact AAm h
   refine⟨hkk,fun hp=>?_⟩;have e:=FN hnd hkk hkm hp;rw[AFj]at hnd;have pm:(ks.take j++kx::ks.drop (j+1)).Perm (kx::(ks.take j++ks.drop (j+1))):=List.perm_middle;have kn:=(pm.map Kt.plc).nodup_iff.1 hnd;rw[AAx,AAW]at kn;exact kn.1 (yz.2 ⟨k,hk,hp⟩)
  refine⟨m.cut (fun k hk=>⟨(hsub k hk).1,fun h=>(hsub k hk).2 (yE.1 h)⟩) (fun p hp=>yL.1 ((Gx _).mem_iff.1 hp)) (fun p hp=>by rw[yE.1 hp];exact hp3),fun x hx y hy=>hc x (hsub x hx).1 y (hsub y hy).1,fun k hne=>⟨fun h=>(hsub k h).1,fun h=>?_⟩⟩;rw[AFj]at h;rcases yL.1 h with h|h
  ·exact List.mem_append_left _ h
  ·rcases xz.1 h with h|h
   ·exact absurd ⟨by rw[h],by rw[h]⟩ hne
   ·exact List.mem_append_right _ h
 ·refine⟨by rw[Na];exact m.go i (drB a b c) (List.reverse_perm _),fun x hx y hy=>hc x (yY.1 hx).1 y (yY.1 hy).1,fun k hne=>?_⟩
  rw[yY];refine⟨fun h=>h.1,fun h=>⟨h,?_⟩⟩;cases hq:drB a b c k
  ·rfl
  ·unfold drB at hq
   rw[yA,yA]at hq;exact absurd ⟨of_decide_eq_true hq.1.1,of_decide_eq_true hq.1.2⟩ hne
end
end
noncomputable section
open Go
set_option maxRecDepth 100000
theorem Ze{F:Nat->Option Kc}:∀ {ks:List Kt},(∀ k∈ks,F k.p=some k.core)->(ks.map Kt.plc).filterMap F=ks.map Kt.core
 |[],_=>rfl
 |k::ks,h=>by
  show(k.p::ks.map Kt.plc).filterMap F=_;rw[List.filterMap_cons_some (h k xa),Ze fun x hx=>h x (xZ _ hx),AAx]
theorem Ud{F:Nat->Option Kc}:∀ {fr:List Nat},(∀ p∈fr,F p=none)->fr.filterMap F=[]
 |[],_=>rfl
 |p::fr,h=>by rw[List.filterMap_cons_none (h p xa),Ud fun x hx=>h x (xZ _ hx)]
def vH(c:Kc):Int×Int×Int:=(c.a,c.b,c.c)
theorem VD(ks:List Kt):ks.map Kt.key=(ks.map Kt.core).map vH:=by rw[List.map_map];rfl
theorem L3{ks ks0:List Kt}(pm:(ks0.map Kt.core).Perm (ks.map Kt.core)){x:Kt}(hx:x∈ks0):∃ y∈ks,y.core=x.core:=yz.1 (pm.mem_iff.1 (yz.2 ⟨x,hx,rfl⟩))
section
variable {h h' h0:Hp}{T M:List Nat}{c0 m k p bl bd bm bc tb np:Nat}{arm:Int}{ks ks0:List Kt}{fr:List Nat}{lv fv:IN}
theorem AFi.find(i:AFN np ks fr)(md:AFi np T M ks fr):(kcs T M np).Perm (ks.map Kt.core)/\AFK T M np=[]/\∀ p∈mrk T M np,∃ k∈ks,k.p=p:=by
 have hold:=fun (k:Kt) (hk:k∈ks)=>QO (p:=k.p) (md.rs k hk).1 (md.rs k hk).2 (md.hd k hk) (md.dt k hk)
 have AHf:=fun (p:Nat) (hp:p∈fr)=>ZX (T:=T) md.len (show 3*p<3*np by have:=md.pl p hp;omega) (md.bl p hp)
 have hall:∀ p∈List.range np,(∃ k∈ks,k.p=p)\/p∈fr:=fun p hp=>by
  rcases yL.1 (i.plc.mem_iff.2 hp)with h|h
  ·obtain⟨k,hk,hkp⟩:=yz.1 h
   exact .inl ⟨k,hk,hkp⟩
  ·exact .inr h
 refine⟨?_,ACM.2 fun p hp hb=>?_,fun p hp=>?_⟩
 ·have h1:(kcs T M np).Perm ((ks.map Kt.plc++fr).filterMap fun p=>(lkN T M p).map (XY M p)):=by
   unfold kcs;exact(i.plc.symm).filterMap _
  rw[List.filterMap_append,Ze (fun k hk=>by
   obtain⟨_,h2,h3,_⟩:=hold k hk;rw[h2];exact congrArg some h3),Ud (fun p hp=>by rw[(AHf p hp).1];rfl),xx]at h1
  exact h1
 ·rcases hall p hp with ⟨k,hk,rfl⟩|h
  ·rw[(hold k hk).2.2.2]at hb;cases hb
  ·rw[(AHf p h).2]at hb;cases hb
 ·obtain⟨h1,h2⟩:=yY.1 hp
  rcases hall p h1 with h|h
  ·exact h
  ·rw[(AHf p h).1,(AHf p h).2]at h2
   cases h2
theorem AFi.cnt(i:AFN np ks fr)(md:AFi np T M ks fr)(hc:Com ks)(h0:ks0.map Kt.core=kcs T M np):Cnt ks0:=by
 have pm:(ks0.map Kt.core).Perm (ks.map Kt.core):=by rw[h0];exact(md.find i).1
 refine⟨fun x hx y hy hh=>?_,by rw[VD];exact(pm.map vH).nodup_iff.2 (by rw[<- VD];exact i.key)⟩;obtain⟨x',hx',ex⟩:=L3 pm hx;obtain⟨y',hy',ey⟩:=L3 pm hy;obtain⟨x1,x2,x3,x4,x5,x6⟩:=LY ex;obtain⟨y1,y2,y3,y4,y5,y6⟩:=LY ey;obtain⟨g1,g2,g3,g4,g5⟩:=hh;have hle:=hc x' hx' y' hy' (by rw[y1,x1,g1]) (by rw[y2,x2,g2]) (by rw[y4,g4]);have hcc:y'.c=x'.c:=by
  rw[y3,x3]at hle ⊢;rcases g5 with g5|g5
  ·omega
  ·exact g5.1
 have:=FN i.key hy' hx' (by
  show(y'.a,y'.b,y'.c)=(x'.a,x'.b,x'.c);rw[hcc,y1,x1,g1,y2,x2,g2])
 rw[this]at y6;exact g3 (y6.symm.trans x6)
theorem ac(W:h.Wf)(d:Dk h bd bm bc 24 M c0 [] arm false)(Rt:h.Row tb 0 (T.map wv))(hT:AE4 T)(htb:tb≠bd/\tb≠bm/\tb≠bc)(i:sy ks fr)(md:Med T M ks fr)(hc:Com ks)(ha:CA arm (k+60)):
  ∃ h' bs c1 AEd lv fv ks3,call AC (m+8) 47 [pt bd,pt tb,AI AT 100] h=.ok (.tuple ⟨[pt bs,AI AT 0]⟩) h'/\Fx (fun b=>b=bd\/b=bm\/b=bc) h h'/\
   Sl h' ⟨bs,bd,bm,bc,tb,24⟩ T M c1 AEd ks3 (AFR ks3 8) lv fv 0 false/\(ks3.map Kt.core).Perm (ks.map Kt.core)/\h.next<=bs/\CA AEd k:=by
 obtain⟨z1,z2,z3⟩:=md.find i;have hlen:(kcs T M (24/3)).length<=12:=by
  show(kcs T M 8).length<=12;have:=i.len;rw[z1.length_eq,OF];omega
 obtain⟨h',bs,c1,AEd,lv,fv,ks3,ks0,k1,f1,s1,AIT,AIR,hbs,a1⟩:=aa (m:=m) (k:=k) W d Rt hT (by omega) htb (fun ks0 h0=>md.cnt i hc h0) hlen ha;have AIT:ks0.map Kt.core=kcs T M 8:=AIT;have pm:(ks3.map Kt.core).Perm (ks.map Kt.core):=by
  rw[AIR];exact((Gw ks0).map Kt.core).trans (by rw[AIT];exact z1)
 have ho:AGF ks3 (mrk T M 8) 8=[]:=ACM.2 fun p hp hb=>by
  rw[yA]at hb;obtain⟨k,hk,hkp⟩:=z3 p (of_decide_eq_true hb.2);obtain⟨y,hy,ey⟩:=L3 pm.symm hk;have hyp:=(LY ey).2.2.2.2.2;have:(ks3.any fun x=>decide (x.p=p))=true:=List.any_eq_true.2 ⟨y,hy,decide_eq_true (hyp.trans hkp)⟩;rw[this]at hb;cases hb.1
 have s1:Sl h' ⟨bs,bd,bm,bc,tb,24⟩ T (Gy M (AGF ks3 (mrk T M 8) 8)) c1 AEd ks3 (AFR ks3 8) lv fv (AFK T M 8).length false:=s1;rw[ho,z2]at s1;exact⟨h',bs,c1,AEd,lv,fv,ks3,k1,f1,s1,pm,hbs,a1⟩
def H33(one two:List Nat)(ks:List Kt):Prop:=(∃ k∈ks,k.a=3/\k.b=3/\k.c=5/\k.s=2/\k.l=one)/\(∃ k∈ks,k.a=3/\k.b=3/\k.c=8/\k.s=1/\k.l=two)/\∀ k∈ks,k.a=3->k.b=3->k.c=5\/k.c=8
theorem AFi.AIU(md:AFi np T M ks fr){x:Kt}(hx:x∈ks):YR T M x:=by
 obtain⟨h1,_,h3,_⟩:=QO (p:=x.p) (md.rs x hx).1 (md.rs x hx).2 (md.hd x hx) (md.dt x hx);have h4:XY M x.p _=x.core:=h3;exact⟨_,h1,congrArg Kc.a h4,congrArg Kc.b h4,congrArg Kc.c h4,congrArg Kc.s h4,congrArg Kc.l h4⟩
end
end
noncomputable section
open Go
set_option maxRecDepth 100000
def Stp(T:List Nat)(ks:List Kt)(fr:List Nat)(kd a b c:Int)(l:List Nat)(z:Int)(ks':List Kt)(fr':List Nat):Prop:=
 (kK ks fr.length kd a b c l z/\ks'=ks/\fr'=fr)\/(z=0/\∃ M M',Pb T M ks fr kd a b c l M' ks' fr')
def UpX(X:Nat->Prop)(h:Hp)(A:At)(T:List Nat)(ks:List Kt)(fr:List Nat)(k:Nat):Prop:=
 (∃ M c0 arm lv fv,Sl h A T M c0 arm ks fr lv fv 0 false/\AFN 8 ks fr/\AFi 8 T M ks fr/\Com ks/\CA arm k)/\∀ x∈ks,∀ b,AEc x.u b->¬ X b
section
variable {e:Env}{h h':Hp}{S X:Nat->Prop}{A:At}{T M:List Nat}{c0 m k n r:Nat}{arm a b c z kd:Int}{ks ks':List Kt}{fr fr' l:List Nat}{lv fv u:IN}{x:Kt}
theorem PP(s:Stp T ks fr kd a b c l z ks' fr'):z≠120:=by
 rcases s with ⟨q,_⟩|⟨rfl,_⟩
 ·rcases q with ⟨_,e⟩|⟨_,e⟩|⟨_,e⟩|⟨_,_,e⟩|⟨_,_,_,_,_,e⟩
  ·unfold HE at e
   split at e
   ·cases e;omega
   ·split at e
    ·split at e<;>cases e<;>omega
    ·split at e
     ·cases e;omega
     ·split at e<;>cases e<;>omega
  ·unfold JB at e
   split at e
   ·split at e
    ·cases e;omega
    ·split at e<;>cases e<;>omega
   ·split at e<;>cases e<;>omega
  ·unfold abE at e
   split at e
   ·cases e;omega
   ·split at e<;>cases e<;>omega
  ·omega
  ·omega
 ·omega
theorem UpX.le(U:UpX X h A T ks fr k)(hk:n<=k):UpX X h A T ks fr n:=by
 obtain⟨⟨M,c0,arm,lv,fv,s,iv,md,hc,ha⟩,hx⟩:=U;exact⟨⟨M,c0,arm,lv,fv,s,iv,md,hc,ha.le hk⟩,hx⟩
theorem UpX.ext(U:UpX X h A T ks fr k)(W:h.Wf)(y:h.Ext h'):UpX X h' A T ks fr k:=by
 obtain⟨⟨M,c0,arm,lv,fv,s,q⟩,hx⟩:=U;exact⟨⟨M,c0,arm,lv,fv,s.ext W y,q⟩,hx⟩
theorem UpX.same(U:UpX X h A T ks fr k)(hb:h'.bl=h.bl):UpX X h' A T ks fr k:=by
 obtain⟨⟨M,c0,arm,lv,fv,s,q⟩,hx⟩:=U;exact⟨⟨M,c0,arm,lv,fv,s.same hb,q⟩,hx⟩
theorem UpX.more(U:UpX X h A T ks fr k)(W:h.Wf)(hr:h.next<=r):UpX (fun b=>X b\/b=r) h A T ks fr k:=by
 obtain⟨⟨M,c0,arm,lv,fv,s,q⟩,hx⟩:=U;refine⟨⟨M,c0,arm,lv,fv,s,q⟩,fun x hx' b hb e=>?_⟩;rcases e with e|e
 ·exact hx x hx' b hb e
 ·obtain⟨o,n,c,e2⟩:=hb
  rcases (s.ko x hx').1 with ⟨h1,_⟩|⟨b',off,c',el,L,h1,_,h3,_⟩
  ·rw[h1]at e2;cases e2
  ·rw[h1]at e2
   injection e2 with e2
   injection e2 with e2
   injection e2 with e2
   have:=h3.lt W;omega
theorem UpX.less(U:UpX X h A T ks fr k)(hS:∀ b,S b->X b):UpX S h A T ks fr k:=⟨U.1,fun x hx b hb hs=>U.2 x hx b hb (hS b hs)⟩
def Odd(L:List IN):Prop:=(L.length<6\/∀ s:Int,L[3]?≠some (.int .u8 s))/\∃ z∈L,∀ q,z≠AI AT q
theorem UpX.wr{L L':List IN}(W:h.Wf)(U:UpX X h A T ks fr k)(hX:X r)(R:h.Row r 0 L)(R':h'.Row r 0 L')(f:Fx (fun b=>b=r) h h')(hD:¬ A.D r)(ht:A.tb≠r)(o:Odd L):UpX X h' A T ks fr k:=by
 obtain⟨⟨M,c0,arm,lv,fv,s,q⟩,hx⟩:=U;refine⟨⟨M,c0,arm,lv,fv,⟨f.row W s.row fun h=>hD (by rw[<- h];exact .inl rfl),s.dk.fr W f (fun h=>hD (by rw[<- h];exact .inr (.inl rfl))) (fun h=>hD (by rw[<- h];exact .inr (.inr (.inl rfl)))) (fun h=>hD (by rw[<- h];exact .inr (.inr (.inr rfl)))),f.row W s.tab ht,s.tok,?_,fun k hk=>⟨?_,(s.ko k hk).2⟩,?_,s.ne,s.le⟩,q⟩,hx⟩
 ·rcases s.ls with h1|⟨b,c,el,K,h1,h2,h3,h4,h5,h6,h7⟩
  ·exact .inl h1
  ·by_cases e:b=r
   ·subst e
    have e1:=RM h3 R;subst e1;cases ks with
    |nil=>exact .inr ⟨b,c,0,L',h1,h2,R',yK _,rfl,.inr rfl,h7⟩
    |cons z zs=>
     rcases o.1 with o1|o1
     ·rw[xY]at h4
      omega
     ·have h8:=congrArg (fun l=>l[3]?) h5
      simp only[List.getElem?_take]at h8;rw[if_pos (by rw[xY];omega)]at h8;exact absurd (h8.trans (show(flK (z::zs))[3]? =some (.int .u8 (z.s:Int))from rfl)) (o1 _)
   ·exact .inr ⟨b,c,el,K,h1,h2,f.row W h3 e,h4,h5,h6,h7⟩
 ·rcases (s.ko k hk).1 with h1|⟨b,off,c,el,K,h1,h2,h3,h4,h5,h6,h7⟩
  ·exact .inl h1
  ·exact .inr ⟨b,off,c,el,K,h1,h2,f.row W h3 fun e=>hx k hk b ⟨off,_,c,h1⟩ (e ▸ hX),h4,h5,h6,h7⟩
 ·rcases s.fs with h1|⟨b,el,h1,h2,h3,h4⟩
  ·exact .inl h1
  ·refine .inr ⟨b,el,h1,f.row W h2 fun e=>?_,h3,h4⟩
   subst e;obtain⟨z,hz,hq⟩:=o.2;rw[<- RM h2 R]at hz;obtain⟨y,_,hy⟩:=yz.1 hz;exact hq _ hy.symm
theorem UpX.lt(U:UpX X h A T ks fr k)(W:h.Wf):∀ b,A.D b->b<h.next:=by
 obtain⟨⟨M,c0,arm,lv,fv,s,q⟩,hx⟩:=U;exact s.AGk W
theorem UpX.tab(U:UpX X h A T ks fr k):h.Row A.tb 0 (T.map wv)/\AE4 T/\¬ A.D A.tb:=by
 obtain⟨⟨M,c0,arm,lv,fv,s,q⟩,hx⟩:=U;exact⟨s.tab,s.tok,s.ne.2.2.2.1⟩
theorem sK(W:h.Wf)(hA:A.n=24)(U:UpX X h A T ks fr (k+40))(hX:∀ b,X b->b<h.next)(V:h.VE u (l.map bv))(hb:∀ x∈l,x<256)(hl:l.length<=1000):
  ∃ z h' ks' fr',call AC (m+8) 58 [pt A.bs,AI AT a,AI AT b,AI AT c,u] h=.ok (AI AT z) h'/\Fx A.D h h'/\UpX X h' A T ks' fr' k/\Stp T ks fr 1 a b c l z ks' fr':=by
 obtain⟨⟨M,c0,arm,lv,fv,s,iv,md,hc,ha⟩,hx⟩:=U;have hln:=iv.len;rcases bB (m:=m) (k:=k) W s (a:=a) (b:=b) (c:=c) V hb hl (by omega) (ha.le (by omega))with ⟨z,h2,hz,k2,y2⟩|⟨hz,p,fr2,h2,c1,AEd,lv',fv',k',hf,k2,f2,s2,hk,a2,hu⟩
 ·exact⟨z,h2,ks,fr,k2,.of y2,⟨⟨M,c0,arm,lv,fv,s.ext W y2,iv,md,hc,ha.le (by omega)⟩,hx⟩,.inl ⟨.inl ⟨.inl rfl,hz⟩,rfl,rfl⟩⟩
 ·have t:Pb T M ks fr 1 a b c l (Dw T M p l (AEb T a b c 1 l)) (Ds (ks++[k'])) fr2:=.inl ⟨.inl rfl,hz,p,k',hf,rfl,hk,rfl⟩
  obtain⟨md',hc',_⟩:=Jr iv md hc t;refine⟨0,h2,_,fr2,k2,f2,⟨⟨_,c1,AEd,lv',fv',s2,(Ho iv t).1,md',hc',a2⟩,fun x hx' b hb hXb=>?_⟩,.inr ⟨rfl,M,_,t⟩⟩;rw[GW,yL,yE]at hx';rcases hx' with h1|rfl
  ·exact hx x h1 b hb hXb
  ·have h1:=hu b hb
   have h2:=hX b hXb;omega
theorem sI(W:h.Wf)(hA:A.n=24)(U:UpX X h A T ks fr (k+40))(a b c:Int):
  ∃ z h' ks' fr',call AC (m+8) 59 [pt A.bs,AI AT a,AI AT b,AI AT c] h=.ok (AI AT z) h'/\Fx A.D h h'/\UpX X h' A T ks' fr' k/\Stp T ks fr 5 a b c [] z ks' fr':=by
 obtain⟨⟨M,c0,arm,lv,fv,s,iv,md,hc,ha⟩,hx⟩:=U;have hln:=iv.len;rcases Y2 (m:=m) (k:=k) W s (a:=a) (b:=b) (c:=c) (by omega) (fun z hz=>by rw[hA];exact iv.lt z hz) iv.nd (ha.le (by omega))with ⟨z,h2,hz,k2,y2⟩|⟨hz,j,kx,h2,c1,AEd,lv',fv',hj,AFO,hs,hf,hst,k2,f2,s2,a2⟩
 ·exact⟨z,h2,ks,fr,k2,.of y2,⟨⟨M,c0,arm,lv,fv,s.ext W y2,iv,md,hc,ha.le (by omega)⟩,hx⟩,.inl ⟨.inr (.inl ⟨.inl rfl,hz⟩),rfl,rfl⟩⟩
 ·have t:Pb T M ks fr 5 a b c [] _ _ _:=.inr (.inl ⟨.inl rfl,j,kx,hj,AFO,hst,rfl,rfl,rfl⟩)
  obtain⟨md',hc',_⟩:=Jr iv md hc t;refine⟨0,h2,_,_,k2,f2,⟨⟨_,c1,AEd,lv',fv',s2,(Ho iv t).1,md',hc',a2⟩,fun x hx'=>?_⟩,.inr ⟨rfl,M,_,t⟩⟩;rcases mem_set hj (yY.1 hx').1 with rfl|h1
  ·exact hx kx (xp hj)
  ·exact hx x h1
theorem sH(W:h.Wf)(hA:A.n=24)(U:UpX X h A T ks fr (k+40))(a b c:Int):
  ∃ z h' ks' fr',call AC (m+9) 60 [pt A.bs,AI AT a,AI AT b,AI AT c] h=.ok (AI AT z) h'/\Fx A.D h h'/\UpX X h' A T ks' fr' k/\Stp T ks fr 7 a b c [] z ks' fr':=by
 obtain⟨⟨M,c0,arm,lv,fv,s,iv,md,hc,ha⟩,hx⟩:=U;have hln:=iv.len;rcases WH (m:=m) (k:=k) W s (a:=a) (b:=b) (c:=c) (by omega) (fun z hz=>by rw[hA];exact iv.lt z hz) (ha.le (by omega))with ⟨z,h2,hz,k2,y2⟩|⟨hz,j,kx,h2,c1,AEd,lv',fv',hj,AFO,hf,hst,k2,f2,s2,a2⟩
 ·exact⟨z,h2,ks,fr,k2,.of y2,⟨⟨M,c0,arm,lv,fv,s.ext W y2,iv,md,hc,ha.le (by omega)⟩,hx⟩,.inl ⟨.inr (.inr (.inl ⟨rfl,hz⟩)),rfl,rfl⟩⟩
 ·have t:Pb T M ks fr 7 a b c [] _ _ _:=.inr (.inr (.inl ⟨rfl,j,kx,hj,AFO,hst,rfl,rfl,rfl⟩))
  obtain⟨md',hc',_⟩:=Jr iv md hc t;refine⟨0,h2,_,_,k2,f2,⟨⟨_,c1,AEd,lv',fv',s2,(Ho iv t).1,md',hc',a2⟩,fun x hx'=>hx x ?_⟩,.inr ⟨rfl,M,_,t⟩⟩;rcases yL.1 hx' with h1|h1
  ·exact zV h1
  ·exact AAm h1
theorem sJ(W:h.Wf)(hA:A.n=24)(U:UpX X h A T ks fr (k+40))(a b c:Int):
  ∃ z h' ks' fr',call AC (m+9) 67 [pt A.bs,AI AT a,AI AT b,AI AT c] h=.ok (AI AT z) h'/\Fx A.D h h'/\UpX X h' A T ks' fr' k/\Stp T ks fr 8 a b c [] z ks' fr':=by
 obtain⟨⟨M,c0,arm,lv,fv,s,iv,md,hc,ha⟩,hx⟩:=U;have hln:=iv.len;have hle:(drO a b c ks).length<=8:=by
  unfold drO;rw[List.length_reverse];have:=zW (drB a b c) ks;omega
 obtain⟨h2,c1,AEd,lv',fv',k2,f2,s2,a2⟩:=ZU (m:=m) (k:=k) W s a b c (by omega) (fun z hz=>by rw[hA];exact iv.lt z hz) (ha.le (by omega));have t:Pb T M ks fr 8 a b c [] _ _ _:=.inr (.inr (.inr ⟨rfl,rfl,rfl,rfl⟩));obtain⟨md',hc',_⟩:=Jr iv md hc t;exact⟨0,h2,_,_,k2,f2,⟨⟨_,c1,AEd,lv',fv',s2,(Ho iv t).1,md',hc',a2⟩,fun x hx'=>hx x (yY.1 hx').1⟩,.inr ⟨rfl,M,_,t⟩⟩
end
end
noncomputable section
open Go
set_option maxRecDepth 100000
def D4(AEY seq:Int)(op:Nat)(err:Int)(iv bw:IN)(room:Int):List IN:=[AI AT AEY,AI AT seq,.int .u8 (op:Int),AI AT err,iv,bw,AI AT room]
def CB(AEY seq:Int)(op:Nat)(err:Int)(iv bw:IN)(room:Int):IN:=.agg ⟨D4 AEY seq op err iv bw room⟩
abbrev F7:List IN:=D4 0 0 0 0 AEF AEF 0
theorem D7:Bt .mt 0 F7=some Ch:=by kernel_rfl
theorem PV:G1.zero=F7:=by kernel_rfl
theorem E6{AEY seq err room:Int}{op:Nat}{iv bw:IN}:Odd (D4 AEY seq op err iv bw room):=⟨.inr (fun s h=>by cases h),.int .u8 (op:Int),xZ _ (xZ _ xa),(fun q h=>by cases h)⟩
section
variable {F:AEA}{e:Env}{h h' g:Hp}{S X:Nat->Prop}{A:At}{T:List Nat}{m k n nb r op:Nat}{AEY lf sq a b c z err room:Int}{ks ks':List Kt}{fr fr' l:List Nat}{v u iv bw:IN}{x:Kt}
theorem Hv{g1:O}(h1:g1 e=AI AT z):BC G1.zero [(3,1,g1)] F e h=.ok (CB 0 0 0 z AEF AEF 0) h:=by
 rw[CQ,PV,As (hk:=by rw[h1];rfl),h1];simp only[Cq,yg,xY,yS,D4,over,ABY,ABR,AAH,yU,zb,IS,zr,if_true,Bu,reduceIte];rfl
theorem du:BC G1.zero [] F e h=.ok (CB 0 0 0 0 AEF AEF 0) h:=by
 rw[CQ,PV,Bu];rfl
theorem Tq{g1:O}(h1:g1 e=iv)(hc:cellsOf iv=[iv])(hk:known iv=true):BC G1.zero [(4,1,g1)] F e h=.ok (CB 0 0 0 0 iv AEF 0) h:=by
 rw[CQ,PV,As (hk:=by rw[h1];exact hk),h1,hc];simp only[Cq,yg,xY,yS,D4,over,ABY,ABR,AAH,yU,zb,IS,zr,if_true,Bu,reduceIte];rfl
theorem Ym{g1 g2:O}(h1:g1 e=iv)(h2:g2 e=bw)(hc:cellsOf iv=[iv])(hk:known iv=true)(hc2:cellsOf bw=[bw])(hk2:known bw=true):BC G1.zero [(4,1,g1),(5,1,g2)] F e h=.ok (CB 0 0 0 0 iv bw 0) h:=by
 rw[CQ,PV,As (hk:=by rw[h1];exact hk),h1,As (hk:=by rw[h2];exact hk2),h2,hc,hc2];simp only[Cq,yg,xY,yS,D4,over,ABY,ABR,AAH,yU,zb,IS,zr,if_true,Bu,reduceIte];rfl
theorem aX(hi:oneCell iv=true)(hb:oneCell bw=true):Ba (D4 lf sq op err iv bw room)=true:=by
 show(bif oneCell iv then(bif oneCell bw then true else false)else false)=true;rw[hi,hb];rfl
theorem EU{L:List IN}(W:h.Wf)(R:h.Row r 0 L)(hL:L.length=7)(AEK:256<=r)(hi:oneCell iv=true)(hb:oneCell bw=true):
  ∃ h',AEH 7 (pt r) (CB lf sq op err iv bw room) h=.ok AED h'/\Fx (fun b=>b=r) h h'/\h'.Row r 0 (D4 lf sq op err iv bw room):=by
 have ho:0+(D4 lf sq op err iv bw room).length<=L.length:=by rw[hL];exact IT _
 have st:=R.AEH (n:=7) (off:=0) W AEK (v:=CB lf sq op err iv bw room) rfl ho (aX hi hb);have wr:=R.AEM W ho;rw[Em (show L.length=(D4 lf sq op err iv bw room).length from hL)]at wr;exact⟨_,st,Fx.wr W R ho rfl,wr⟩
theorem Fd{L:List IN}(W:h.Wf)(R:h.Row r 0 L)(hL:L.length=7)(AEK:256<=r)(hi:oneCell iv=true)(hb:oneCell bw=true):
  ∃ h',(∀ (F:AEA) (e:Env) (g1 g2:O),g1 e=pt r->g2 e=CB lf sq op err iv bw room->Ae .free (Ah 7 g1 g2) F e h=.ok AED h')/\Fx (fun b=>b=r) h h'/\h'.Row r 0 (D4 lf sq op err iv bw room):=by
 obtain⟨h1,st,f1,R1⟩:=EU (h:=h.quiet) (lf:=lf) (sq:=sq) (op:=op) (err:=err) (room:=room) W.quiet (R.same (h':=h.quiet) rfl) hL AEK hi hb;refine⟨h.back h1,fun F e g1 g2 e1 e2=>?_,f1.back,R1.same rfl⟩;refine BL ?_;rw[AX,e1,e2];exact st
theorem DJ(R:h.Row r 0 (D4 lf sq op err iv bw room)):KX 7 (pt r) h=.ok (CB lf sq op err iv bw room) h:=by
 rw[Am];exact R.loadN (off:=0) (n:=7) (by show 0+7<=7;omega)
theorem Fx.new{h1:Hp}(x:h.Ext h1)(f:Fx A.D h1 g)(f2:Fx (fun b=>b=r) g h')(hr:h.next<=r):Fx A.D h h':=
 Fx.drop (((Fx.of x).trans (f.mono fun b hb=>.inl hb)).trans (f2.mono fun b hb=>.inr (by rw[hb];exact hr)))
theorem rG(W:h.Wf)(hA:A.n=24)(Rn:h.Row nb 0 (AEa A.bd A.tb A.bs AEY))(U:UpX X h A T ks fr (k+40))(hX:∀ b,X b->b<h.next)(V:h.VE u (l.map bv))(hb:∀ x∈l,x<256)(hl:l.length<=1000):
  ∃ z h' ks' fr',call AC (m+10) 34 [pt nb,Cp lf sq op a b c u] h=.ok (CB 0 0 0 z AEF AEF 0) h'/\Fx A.D h h'/\UpX X h' A T ks' fr' k/\Stp T ks fr 1 a b c l z ks' fr':=by
 have bx:=fun (F:AEA) (e:Env) (he:J 1 e=Cp lf sq op a b c u)=>FE (F:=F) W he
 have x1:=(Hp.Ext.refl W).AD9 0 (CZ lf sq op a b c u);have R1:=Hp.Row.new W 0 (CZ lf sq op a b c u);have n1:(h.AD9 0 (CZ lf sq op a b c u)).next=h.next+1:=rfl;generalize h.AD9 0 (CZ lf sq op a b c u)=h1 at bx x1 R1 n1;have al:=fun (F:AEA) (e:Env)=>BQ (F:=F) (e:=e) x1.wf (n:=7) (t:=Ch)
 have Ra:=Hp.Row.alloc x1.wf D7 (show F7.length=7 from rfl);have y2:h1.Ext (h1.push (.cells Ch 7 0)):=(Hp.Ext.refl x1.wf).push _;have n2:(h1.push (.cells Ch 7 0)).next=h1.next+1:=rfl;generalize h1.push (.cells Ch 7 0)=h2 at al Ra y2 n2;have x2:=x1.trans y2;have U2:=((U.ext W x1).more x1.wf (IT h1.next)).ext x1.wf y2;obtain⟨_,_,_,l3,l4,l5,l6,_⟩:=CP ((R1.ext x1.wf y2).same (h':=h2.marked) rfl);obtain⟨_,_,nd,_⟩:=Cg ((Rn.ext W x2).same (h':=h2.marked) rfl);have xm:=x2.marked;obtain⟨z,g,ks',fr',k3,f3,U3,st⟩:=sK (m:=m+1) (k:=k) (X:=fun b=>X b\/b=h1.next) xm.quiet.wf hA (U2.same (h':=h2.marked.quiet) rfl) (fun b hb=>by
  show b<h2.next;rcases hb with hb|hb
  ·have:=hX b hb
   omega
  ·omega) ((V.ext W x2).same rfl) hb hl
 have q3:∀ e:Env,J 8 e=pt A.bs->J 10 e=AI AT a->J 12 e=AI AT b->J 14 e=AI AT c->J 16 e=u->Ae .free (AU 58 [J 8,J 10,J 12,J 14,J 16]) (call AC (m+9)) e h2.marked=.ok (AI AT z) (h2.marked.back g):=fun e e1 e2 e3 e4 e5=>by
  refine BL ?_;rw[BO,AV,AV,AV,AV,AV,A2,e1,e2,e3,e4,e5];exact k3
 have f3':=f3.back;have U3':=U3.same (h':=h2.marked.back g) rfl;generalize h2.marked.back g=h3 at q3 f3' U3';have hDn:¬ A.D h1.next:=fun hb=>by
  have:=U.lt W _ hb;omega
 have R3:=f3'.row xm.wf ((Ra.same (h':=h2.marked) rfl)) hDn;have big:=W.big;obtain⟨h4,q4,f4,R4⟩:=Fd (lf:=0) (sq:=0) (op:=0) (err:=z) (iv:=AEF) (bw:=AEF) (room:=0) f3'.wf R3 rfl (by omega) rfl rfl;have U4:=(U3'.wr f3'.wf (.inr rfl) R3 R4 f4 hDn (fun e=>by
  have:=(U.tab).1.lt W;omega) E6).less (S:=X) fun b hb=>.inl hb
 refine⟨z,h4,ks',fr',?_,Fx.new xm f3' f4 (by omega),U4,st⟩;have bd:=fun (F:AEA) (e:Env) (e1:J 17 e=AI AT z)=>Hv (F:=F) (h:=h3) e1
 have q4':=fun (F:AEA) (e:Env) (e1:J 4 e=pt h1.next) (e2:J 18 e=CB 0 0 0 z AEF AEF 0)=>q4 F e (J 4) (J 18) e1 e2
 have hrun:∃ e2,d34 (call AC (m+9)) (AS e0 0 [pt nb,Cp lf sq op a b c u]) h=.ret e2 h4/\J 4 e2=pt h1.next:=by
  unfold d34;simp only[iN,IS,sT,By,BY,reduceIte,bx,al,A0,Ax,Al,AH,AO,If,AN,AP,nd,l3,l4,l5,l6,q3,bd,q4'];exact⟨_,rfl,by simp[AG]⟩
 obtain⟨e2,r1,r2⟩:=hrun;rw[oQ rfl,r1,BG,DW (h':=h4) (v:=CB 0 0 0 z AEF AEF 0) (by rw[r2];exact DJ R4)]
theorem rH(W:h.Wf)(hA:A.n=24)(Rn:h.Row nb 0 (AEa A.bd A.tb A.bs AEY))(U:UpX X h A T ks fr (k+40))(hX:∀ b,X b->b<h.next):
  ∃ z h' ks' fr',call AC (m+10) 35 [pt nb,Cp lf sq op a b c u] h=.ok (CB 0 0 0 z AEF AEF 0) h'/\Fx A.D h h'/\UpX X h' A T ks' fr' k/\Stp T ks fr 5 a b c [] z ks' fr':=by
 have bx:=fun (F:AEA) (e:Env) (he:J 1 e=Cp lf sq op a b c u)=>FE (F:=F) W he
 have x1:=(Hp.Ext.refl W).AD9 0 (CZ lf sq op a b c u);have R1:=Hp.Row.new W 0 (CZ lf sq op a b c u);have n1:(h.AD9 0 (CZ lf sq op a b c u)).next=h.next+1:=rfl;generalize h.AD9 0 (CZ lf sq op a b c u)=h1 at bx x1 R1 n1;have al:=fun (F:AEA) (e:Env)=>BQ (F:=F) (e:=e) x1.wf (n:=7) (t:=Ch)
 have Ra:=Hp.Row.alloc x1.wf D7 (show F7.length=7 from rfl);have y2:h1.Ext (h1.push (.cells Ch 7 0)):=(Hp.Ext.refl x1.wf).push _;have n2:(h1.push (.cells Ch 7 0)).next=h1.next+1:=rfl;generalize h1.push (.cells Ch 7 0)=h2 at al Ra y2 n2;have x2:=x1.trans y2;have U2:=((U.ext W x1).more x1.wf (IT h1.next)).ext x1.wf y2;obtain⟨_,_,_,l3,l4,l5,l6,_⟩:=CP ((R1.ext x1.wf y2).same (h':=h2.marked) rfl);obtain⟨_,_,nd,_⟩:=Cg ((Rn.ext W x2).same (h':=h2.marked) rfl);have xm:=x2.marked;obtain⟨z,g,ks',fr',k3,f3,U3,st⟩:=sI (m:=m+1) (k:=k) (X:=fun b=>X b\/b=h1.next) xm.quiet.wf hA (U2.same (h':=h2.marked.quiet) rfl) a b c;have q3:∀ e:Env,J 8 e=pt A.bs->J 10 e=AI AT a->J 12 e=AI AT b->J 14 e=AI AT c->Ae .free (AU 59 [J 8,J 10,J 12,J 14]) (call AC (m+9)) e h2.marked=.ok (AI AT z) (h2.marked.back g):=fun e e1 e2 e3 e4=>by
  refine BL ?_;rw[BO,AV,AV,AV,AV,A2,e1,e2,e3,e4];exact k3
 have f3':=f3.back;have U3':=U3.same (h':=h2.marked.back g) rfl;generalize h2.marked.back g=h3 at q3 f3' U3';have hDn:¬ A.D h1.next:=fun hb=>by
  have:=U.lt W _ hb;omega
 have R3:=f3'.row xm.wf ((Ra.same (h':=h2.marked) rfl)) hDn;have big:=W.big;obtain⟨h4,q4,f4,R4⟩:=Fd (lf:=0) (sq:=0) (op:=0) (err:=z) (iv:=AEF) (bw:=AEF) (room:=0) f3'.wf R3 rfl (by omega) rfl rfl;have U4:=(U3'.wr f3'.wf (.inr rfl) R3 R4 f4 hDn (fun e=>by
  have:=(U.tab).1.lt W;omega) E6).less (S:=X) fun b hb=>.inl hb
 refine⟨z,h4,ks',fr',?_,Fx.new xm f3' f4 (by omega),U4,st⟩;have bd:=fun (F:AEA) (e:Env) (e1:J 15 e=AI AT z)=>Hv (F:=F) (h:=h3) e1
 have q4':=fun (F:AEA) (e:Env) (e1:J 4 e=pt h1.next) (e2:J 16 e=CB 0 0 0 z AEF AEF 0)=>q4 F e (J 4) (J 16) e1 e2
 have hrun:∃ e2,d35 (call AC (m+9)) (AS e0 0 [pt nb,Cp lf sq op a b c u]) h=.ret e2 h4/\J 4 e2=pt h1.next:=by
  unfold d35;simp only[iN,IS,sT,By,BY,reduceIte,bx,al,A0,Ax,Al,AH,AO,If,AN,AP,nd,l3,l4,l5,l6,q3,bd,q4'];exact⟨_,rfl,by simp[AG]⟩
 obtain⟨e2,r1,r2⟩:=hrun;rw[oR rfl,r1,BG,DW (h':=h4) (v:=CB 0 0 0 z AEF AEF 0) (by rw[r2];exact DJ R4)]
theorem rI(W:h.Wf)(hA:A.n=24)(Rn:h.Row nb 0 (AEa A.bd A.tb A.bs AEY))(U:UpX X h A T ks fr (k+40))(hX:∀ b,X b->b<h.next):
  ∃ z h' ks' fr',call AC (m+10) 36 [pt nb,Cp lf sq op a b c u] h=.ok (CB 0 0 0 z AEF AEF 0) h'/\Fx A.D h h'/\UpX X h' A T ks' fr' k/\Stp T ks fr 7 a b c [] z ks' fr':=by
 have bx:=fun (F:AEA) (e:Env) (he:J 1 e=Cp lf sq op a b c u)=>FE (F:=F) W he
 have x1:=(Hp.Ext.refl W).AD9 0 (CZ lf sq op a b c u);have R1:=Hp.Row.new W 0 (CZ lf sq op a b c u);have n1:(h.AD9 0 (CZ lf sq op a b c u)).next=h.next+1:=rfl;generalize h.AD9 0 (CZ lf sq op a b c u)=h1 at bx x1 R1 n1;have al:=fun (F:AEA) (e:Env)=>BQ (F:=F) (e:=e) x1.wf (n:=7) (t:=Ch)
 have Ra:=Hp.Row.alloc x1.wf D7 (show F7.length=7 from rfl);have y2:h1.Ext (h1.push (.cells Ch 7 0)):=(Hp.Ext.refl x1.wf).push _;have n2:(h1.push (.cells Ch 7 0)).next=h1.next+1:=rfl;generalize h1.push (.cells Ch 7 0)=h2 at al Ra y2 n2;have x2:=x1.trans y2;have U2:=((U.ext W x1).more x1.wf (IT h1.next)).ext x1.wf y2;obtain⟨_,_,_,l3,l4,l5,l6,_⟩:=CP ((R1.ext x1.wf y2).same (h':=h2.marked) rfl);obtain⟨_,_,nd,_⟩:=Cg ((Rn.ext W x2).same (h':=h2.marked) rfl);have xm:=x2.marked;obtain⟨z,g,ks',fr',k3,f3,U3,st⟩:=sH (m:=m) (k:=k) (X:=fun b=>X b\/b=h1.next) xm.quiet.wf hA (U2.same (h':=h2.marked.quiet) rfl) a b c;have q3:∀ e:Env,J 8 e=pt A.bs->J 10 e=AI AT a->J 12 e=AI AT b->J 14 e=AI AT c->Ae .free (AU 60 [J 8,J 10,J 12,J 14]) (call AC (m+9)) e h2.marked=.ok (AI AT z) (h2.marked.back g):=fun e e1 e2 e3 e4=>by
  refine BL ?_;rw[BO,AV,AV,AV,AV,A2,e1,e2,e3,e4];exact k3
 have f3':=f3.back;have U3':=U3.same (h':=h2.marked.back g) rfl;generalize h2.marked.back g=h3 at q3 f3' U3';have hDn:¬ A.D h1.next:=fun hb=>by
  have:=U.lt W _ hb;omega
 have R3:=f3'.row xm.wf ((Ra.same (h':=h2.marked) rfl)) hDn;have big:=W.big;obtain⟨h4,q4,f4,R4⟩:=Fd (lf:=0) (sq:=0) (op:=0) (err:=z) (iv:=AEF) (bw:=AEF) (room:=0) f3'.wf R3 rfl (by omega) rfl rfl;have U4:=(U3'.wr f3'.wf (.inr rfl) R3 R4 f4 hDn (fun e=>by
  have:=(U.tab).1.lt W;omega) E6).less (S:=X) fun b hb=>.inl hb
 refine⟨z,h4,ks',fr',?_,Fx.new xm f3' f4 (by omega),U4,st⟩;have bd:=fun (F:AEA) (e:Env) (e1:J 15 e=AI AT z)=>Hv (F:=F) (h:=h3) e1
 have q4':=fun (F:AEA) (e:Env) (e1:J 4 e=pt h1.next) (e2:J 16 e=CB 0 0 0 z AEF AEF 0)=>q4 F e (J 4) (J 16) e1 e2
 have hrun:∃ e2,d36 (call AC (m+9)) (AS e0 0 [pt nb,Cp lf sq op a b c u]) h=.ret e2 h4/\J 4 e2=pt h1.next:=by
  unfold d36;simp only[iN,IS,sT,By,BY,reduceIte,bx,al,A0,Ax,Al,AH,AO,If,AN,AP,nd,l3,l4,l5,l6,q3,bd,q4'];exact⟨_,rfl,by simp[AG]⟩
 obtain⟨e2,r1,r2⟩:=hrun;rw[oS rfl,r1,BG,DW (h':=h4) (v:=CB 0 0 0 z AEF AEF 0) (by rw[r2];exact DJ R4)]
theorem rJ(W:h.Wf)(hA:A.n=24)(Rn:h.Row nb 0 (AEa A.bd A.tb A.bs AEY))(U:UpX X h A T ks fr (k+40))(hX:∀ b,X b->b<h.next):
  ∃ z h' ks' fr',call AC (m+10) 39 [pt nb,Cp lf sq op a b c u] h=.ok (CB 0 0 0 z AEF AEF 0) h'/\Fx A.D h h'/\UpX X h' A T ks' fr' k/\Stp T ks fr 8 a b c [] z ks' fr':=by
 have bx:=fun (F:AEA) (e:Env) (he:J 1 e=Cp lf sq op a b c u)=>FE (F:=F) W he
 have x1:=(Hp.Ext.refl W).AD9 0 (CZ lf sq op a b c u);have R1:=Hp.Row.new W 0 (CZ lf sq op a b c u);have n1:(h.AD9 0 (CZ lf sq op a b c u)).next=h.next+1:=rfl;generalize h.AD9 0 (CZ lf sq op a b c u)=h1 at bx x1 R1 n1;have al:=fun (F:AEA) (e:Env)=>BQ (F:=F) (e:=e) x1.wf (n:=7) (t:=Ch)
 have Ra:=Hp.Row.alloc x1.wf D7 (show F7.length=7 from rfl);have y2:h1.Ext (h1.push (.cells Ch 7 0)):=(Hp.Ext.refl x1.wf).push _;have n2:(h1.push (.cells Ch 7 0)).next=h1.next+1:=rfl;generalize h1.push (.cells Ch 7 0)=h2 at al Ra y2 n2;have x2:=x1.trans y2;have U2:=((U.ext W x1).more x1.wf (IT h1.next)).ext x1.wf y2;obtain⟨_,_,_,l3,l4,l5,l6,_⟩:=CP ((R1.ext x1.wf y2).same (h':=h2.marked) rfl);obtain⟨_,_,nd,_⟩:=Cg ((Rn.ext W x2).same (h':=h2.marked) rfl);have xm:=x2.marked;obtain⟨z,g,ks',fr',k3,f3,U3,st⟩:=sJ (m:=m) (k:=k) (X:=fun b=>X b\/b=h1.next) xm.quiet.wf hA (U2.same (h':=h2.marked.quiet) rfl) a b c;have q3:∀ e:Env,J 8 e=pt A.bs->J 10 e=AI AT a->J 12 e=AI AT b->J 14 e=AI AT c->Ae .free (AU 67 [J 8,J 10,J 12,J 14]) (call AC (m+9)) e h2.marked=.ok (AI AT z) (h2.marked.back g):=fun e e1 e2 e3 e4=>by
  refine BL ?_;rw[BO,AV,AV,AV,AV,A2,e1,e2,e3,e4];exact k3
 have f3':=f3.back;have U3':=U3.same (h':=h2.marked.back g) rfl;generalize h2.marked.back g=h3 at q3 f3' U3';have hDn:¬ A.D h1.next:=fun hb=>by
  have:=U.lt W _ hb;omega
 have R3:=f3'.row xm.wf ((Ra.same (h':=h2.marked) rfl)) hDn;have big:=W.big;obtain⟨h4,q4,f4,R4⟩:=Fd (lf:=0) (sq:=0) (op:=0) (err:=z) (iv:=AEF) (bw:=AEF) (room:=0) f3'.wf R3 rfl (by omega) rfl rfl;have U4:=(U3'.wr f3'.wf (.inr rfl) R3 R4 f4 hDn (fun e=>by
  have:=(U.tab).1.lt W;omega) E6).less (S:=X) fun b hb=>.inl hb
 refine⟨z,h4,ks',fr',?_,Fx.new xm f3' f4 (by omega),U4,st⟩;have bd:=fun (F:AEA) (e:Env) (e1:J 15 e=AI AT z)=>Hv (F:=F) (h:=h3) e1
 have q4':=fun (F:AEA) (e:Env) (e1:J 4 e=pt h1.next) (e2:J 16 e=CB 0 0 0 z AEF AEF 0)=>q4 F e (J 4) (J 16) e1 e2
 have hrun:∃ e2,d39 (call AC (m+9)) (AS e0 0 [pt nb,Cp lf sq op a b c u]) h=.ret e2 h4/\J 4 e2=pt h1.next:=by
  unfold d39;simp only[iN,IS,sT,By,BY,reduceIte,bx,al,A0,Ax,Al,AH,AO,If,AN,AP,nd,l3,l4,l5,l6,q3,bd,q4'];exact⟨_,rfl,by simp[AG]⟩
 obtain⟨e2,r1,r2⟩:=hrun;rw[oV rfl,r1,BG,DW (h':=h4) (v:=CB 0 0 0 z AEF AEF 0) (by rw[r2];exact DJ R4)]
end
end
noncomputable section
open Go
set_option maxRecDepth 100000
theorem bG:rdS=BI (Ab 0 rdB) rdE:=rfl
theorem rj:rdM=rk:=rfl
theorem SW:d37=XJ:=rfl
section
variable {F:AEA}{e:Env}{h h' g:Hp}{S:Nat->Prop}{A:At}{T M:List Nat}{c0 bad m k n nb r op:Nat}{arm AEY lf sq a b c z err room:Int}{ks:List Kt}{fr l:List Nat}{v lv fv u w iv bw:IN}{ov:Bool}{x:Kt}
theorem Sj(o:h.IL k v ks):cellsOf v=[v]/\known v=true/\oneCell v=true:=by
 rcases o with ⟨rfl,_⟩|⟨b,rfl,_⟩<;>exact⟨rfl,rfl,rfl⟩
theorem Hp.IL.fx(o:h.IL k v ks)(W:h.Wf)(f:Fx S h h')(hS:∀ b,S b->b<k):h'.IL k v ks:=by
 rcases o with h1|⟨b,h1,h2,h3⟩
 ·exact .inl h1
 ·exact .inr ⟨b,h1,f.row W h2 fun hb=>by have:=hS b hb;omega,h3⟩
theorem TB{L:List IN}{v:IN}(W:h.Wf)(R:h.Row r 0 L)(hL:L.length=5)(AEK:256<=r)(hv5:(cellsOf v).length=5)(hv1:Ba (cellsOf v)=true):
  ∃ h',(∀ (F:AEA) (e:Env) (g1 g2:O),g1 e=pt r->g2 e=v->Ae .free (Ah 5 g1 g2) F e h=.ok AED h')/\Fx (fun b=>b=r) h h'/\h'.Row r 0 (cellsOf v)/\h'.mark=h.mark:=by
 have Rq:h.quiet.Row r 0 L:=R.same rfl;have ho:0+(cellsOf v).length<=L.length:=by rw[hL,hv5];exact IT _
 have st:=Rq.AEH (n:=5) (off:=0) W.quiet AEK (v:=v) hv5 ho hv1;have wr:=Rq.AEM W.quiet ho;rw[Em (show L.length=(cellsOf v).length by rw[hL,hv5])]at wr;refine⟨_,fun F e g1 g2 e1 e2=>BL (by rw[AX,e1,e2];exact st),Fx.back (Fx.wr W.quiet Rq ho rfl),wr.same rfl,rfl⟩
theorem Pf{n:Nat}{L:List IN}{z:VT}(W:h.Wf)(hz:Bt .mt 0 L=some z)(hL:L.length=n)(hm:h.mark<=h.next):
  ∃ h',(∀ (F:AEA) (e:Env),Ae .AER (BV n z) F e h=.ok (pt h.next) h')/\h.Ext h'/\h'.Row h.next 0 L/\h'.mark=h.mark:=by
 refine⟨h.back (h.quiet.push (.cells z n 0)),fun F e=>Ck (BQ (F:=F) (e:=e) W.quiet) ((Hp.Ext.refl W.quiet).push _) hm,Hp.Ext.back ((Hp.Ext.refl W.quiet).push _),?_,rfl⟩;exact(Hp.Row.alloc W.quiet hz hL).same rfl
theorem vN(W:h.Wf)(Rn:h.Row nb 0 (AEa A.bd A.tb A.bs AEY))(s:Sl h A T M c0 arm ks fr lv fv bad ov)(hl:ks.length<=49):
  ∃ h' k iv,call AC (m+10) 38 [pt nb,Cp lf sq op a b c u] h=.ok (CB 0 0 0 0 iv AEF 0) h'/\h.Ext h'/\h.next<=k/\h'.IL k iv (ks.filter fun x=>LE x a b c):=by
 have bx:=fun (F:AEA) (e:Env) (he:J 1 e=Cp lf sq op a b c u)=>FE (F:=F) W he
 have x1:=(Hp.Ext.refl W).AD9 0 (CZ lf sq op a b c u);have R1:=Hp.Row.new W 0 (CZ lf sq op a b c u);have n1:(h.AD9 0 (CZ lf sq op a b c u)).next=h.next+1:=rfl;generalize h.AD9 0 (CZ lf sq op a b c u)=h1 at bx x1 R1 n1;have al:=fun (F:AEA) (e:Env)=>BQ (F:=F) (e:=e) x1.wf (n:=7) (t:=Ch)
 have Ra:=Hp.Row.alloc x1.wf D7 (show F7.length=7 from rfl);have y2:h1.Ext (h1.push (.cells Ch 7 0)):=(Hp.Ext.refl x1.wf).push _;have n2:(h1.push (.cells Ch 7 0)).next=h1.next+1:=rfl;generalize h1.push (.cells Ch 7 0)=h2 at al Ra y2 n2;have x2:=x1.trans y2;have R2:=R1.ext x1.wf y2;obtain⟨h3,k3,iv,c3,x3,hk,I3⟩:=QR (m:=m+4) (P:=fun x=>LE x a b c) x2.wf (Rn.ext W x2) (s.ext W x2) hl (w:=.func (.func 66) ⟨[]⟩ ⟨[pt h.next]⟩) fun g k u xg=>qa (m:=m+7) xg.wf (R2.ext x2.wf xg)
 obtain⟨i1,i2,i3⟩:=Sj I3;have big:=W.big;obtain⟨h4,st4,f4,R4⟩:=EU (lf:=0) (sq:=0) (op:=0) (err:=0) (iv:=iv) (bw:=AEF) (room:=0) x3.wf (Ra.ext y2.wf x3) rfl (by omega) i3 rfl;have bd:=fun (F:AEA) (e:Env) (e1:J 7 e=iv)=>Tq (F:=F) (h:=h3) e1 i1 i2
 have hn2:h2.next<=k3:=hk;refine⟨h4,k3,iv,?_,Fx.xtF (x2.trans x3) f4 (fun b hb=>by rw[hb];omega),by omega,I3.fx x3.wf f4 fun b hb=>by rw[hb];omega⟩;have hrun:∃ e2,d38 (call AC (m+9)) (AS e0 0 [pt nb,Cp lf sq op a b c u]) h=.ret e2 h4/\J 4 e2=pt h1.next:=by
  unfold d38;simp only[iN,IS,sT,By,BY,reduceIte,bx,al,Df,AV,A2,BO,c3,bd,AX,st4];exact⟨_,rfl,by simp[AG]⟩
 obtain⟨e2,r1,r2⟩:=hrun;rw[oU rfl,r1,BG,DW (h':=h4) (v:=CB 0 0 0 0 iv AEF 0) (by rw[r2];exact DJ R4)]
theorem vQ(W:h.Wf)(Rn:h.Row nb 0 (AEa A.bd A.tb A.bs AEY))(s:Sl h A T M c0 arm ks fr lv fv bad ov)(hl:ks.length<=49)(ht:∀ x∈ks,YR T M x)(hp:∀ x∈ks,3*x.p+3<=A.n):
  ∃ h' k z iv bw,call AC (m+10) 37 [pt nb,Cp lf sq op a b c u] h=.ok (CB 0 0 0 z iv bw 0) h'/\h.Ext h'/\h.next<=k/\oneCell iv=true/\oneCell bw=true/\
   ((c=0/\z=0/\bw=AEF/\h'.IL k iv (ks.filter fun x=>decide (x.a=a) && decide (x.b=b)))\/(c≠0/\ks.find? (Bq a b c)=none/\z=60/\iv=AEF/\bw=AEF)\/
    (c≠0/\∃ kx,ks.find? (Bq a b c)=some kx/\z=0/\(∃ b,iv=.slice (some ⟨b,0,none⟩) 1 1/\h'.Row b 0 (Bs kx)/\k<=b)/\h'.BS (fun b=>k<=b) bw (kx.l.map bv))):=by
 have bx:=fun (F:AEA) (e:Env) (he:J 1 e=Cp lf sq op a b c u)=>FE (F:=F) W he
 have x1:=(Hp.Ext.refl W).AD9 0 (CZ lf sq op a b c u);have R1:=Hp.Row.new W 0 (CZ lf sq op a b c u);have n1:(h.AD9 0 (CZ lf sq op a b c u)).next=h.next+1:=rfl;generalize h.AD9 0 (CZ lf sq op a b c u)=h1 at bx x1 R1 n1;have al:=fun (F:AEA) (e:Env)=>BQ (F:=F) (e:=e) x1.wf (n:=7) (t:=Ch)
 have Ra:=Hp.Row.alloc x1.wf D7 (show F7.length=7 from rfl);have y2:h1.Ext (h1.push (.cells Ch 7 0)):=(Hp.Ext.refl x1.wf).push _;have n2:(h1.push (.cells Ch 7 0)).next=h1.next+1:=rfl;generalize h1.push (.cells Ch 7 0)=h2 at al Ra y2 n2;have x2:=x1.trans y2;have R2:=R1.ext x1.wf y2;have s2:=s.ext W x2;have big:=W.big;obtain⟨_,_,_,q3,q4,q5,_,_⟩:=CP R2;by_cases hc:c=0
 ·have c1:iEq c 0=true:=CL hc
  obtain⟨h3,k3,iv,c3,x3,hk,I3⟩:=QR (m:=m+4) (P:=fun x=>decide (x.a=a) && decide (x.b=b)) x2.wf (Rn.ext W x2) s2 hl (w:=.func (.func 62) ⟨[]⟩ ⟨[pt h.next]⟩) fun g k u xg=>qZ (m:=m+7) xg.wf (R2.ext x2.wf xg)
  obtain⟨i1,i2,i3⟩:=Sj I3;obtain⟨h4,st4,f4,R4⟩:=EU (lf:=0) (sq:=0) (op:=0) (err:=0) (iv:=iv) (bw:=AEF) (room:=0) x3.wf (Ra.ext y2.wf x3) rfl (by omega) i3 rfl;have bd:=fun (F:AEA) (e:Env) (e1:J 12 e=iv)=>Tq (F:=F) (h:=h3) e1 i1 i2
  refine⟨h4,k3,0,iv,AEF,?_,Fx.xtF (x2.trans x3) f4 (fun b hb=>by rw[hb];omega),by omega,i3,rfl,.inl ⟨hc,rfl,rfl,I3.fx x3.wf f4 fun b hb=>by rw[hb];omega⟩⟩;have hrun:∃ e2,XJ (call AC (m+9)) (AS e0 0 [pt nb,Cp lf sq op a b c u]) h=.ret e2 h4/\J 4 e2=pt h1.next:=by
   unfold XJ;simp only[iN,IS,sT,By,BY,reduceIte,bx,al,AH,AO,If,AN,AP,q5,AK,AJ,c1,Df,AV,A2,BO,c3,bd,AX,st4];exact⟨_,rfl,by simp[AG]⟩
  obtain⟨e2,r1,r2⟩:=hrun;rw[SM rfl,SW,r1,BG,DW (h':=h4) (v:=CB 0 0 0 0 iv AEF 0) (by rw[r2];exact DJ R4)]
 ·have c1:iEq c 0=false:=B6 hc
  have sm:=s2.same (h':=h2.marked.quiet) rfl;have xm:=x2.marked;obtain⟨_,_,nd,_⟩:=Cg ((Rn.ext W x2).same (h':=h2.marked) rfl);obtain⟨_,_,_,p3,p4,p5,_,_⟩:=CP (R2.same (h':=h2.marked) rfl);obtain⟨g3,v3,c3,x3,hv5,hv1,hfind⟩:=gd (m:=m+4) xm.quiet.wf sm.row sm.ls.ks (fun k hk=>⟨(sm.ko k hk).1.vs.vals,by have:=(sm.ko k hk).2.2.1;omega⟩) (by omega) a b c;have qg:∀ e:Env,J 18 e=pt A.bs->J 20 e=AI AT a->J 22 e=AI AT b->J 24 e=AI AT c->Ae .weak (AU 63 [J 18,J 20,J 22,J 24]) (call AC (m+9)) e h2.marked=.ok (.tuple ⟨[v3,.bool (ks.find? (Bq a b c)).isSome]⟩) (h2.marked.back g3):=fun e e1 e2 e3 e4=>by
   refine Ck ?_ x3 (IT _);rw[BO,AV,AV,AV,AV,A2,e1,e2,e3,e4];exact c3
  have y3:h2.Ext (h2.marked.back g3):=(Hp.Ext.refl x2.wf).marked.trans (.back x3);have m3:(h2.marked.back g3).mark=h2.next:=rfl;have F3:=fun kx (hk:ks.find? (Bq a b c)=some kx)=>hfind kx hk
  have V3:∀ (u:IN) (l:List IN),g3.BS (fun b=>h2.next<=b) u l->(h2.marked.back g3).BS (fun b=>h2.next<=b) u l:=fun u l V=>V.same rfl
  generalize h2.marked.back g3=h3 at qg y3 m3 V3;have n3:=y3.next;obtain⟨h4,al5,y4,Ra5,m4⟩:=Pf y3.wf Ew (show(A4 0 0 0 0 AEF).length=5 from rfl) (by rw[m3];exact n3);obtain⟨h5,st5,f5,R5,m5⟩:=TB (v:=v3) y4.wf Ra5 rfl (by omega) hv5 hv1;have y5:h3.Ext h5:=Fx.xtF y4 f5 fun b hb=>by rw[hb];exact IT _
  have y25:=y3.trans y5;have x5:=x2.trans y25;have W5:=x5.wf;have Ra4:=Ra.ext y2.wf y25;have Rk:=R2.ext x2.wf y25;obtain⟨e1,p1,t0,t3,t4⟩:∃ e1,XJ (call AC (m+9)) (AS e0 0 [pt nb,Cp lf sq op a b c u]) h=rdM (call AC (m+9)) e1 h2/\J 0 e1=pt nb/\J 3 e1=pt h.next/\J 4 e1=pt h1.next:=by
   unfold XJ;simp only[iN,IS,sT,By,BY,reduceIte,bx,al,AH,AO,If,AN,AP,q5,AK,AJ,c1];exact⟨_,rfl,by simp[AG]⟩
  have AKY:=fun (F:AEA) (e:Env) (e1:J 5 e=pt h3.next) (e2:J 26 e=v3)=>st5 F e (J 5) (J 26) e1 e2
  obtain⟨e2,p2,u0,u3,u4,u5,u6⟩:∃ e2,rdM (call AC (m+9)) e1 h2=rdS (call AC (m+9)) e2 h5/\J 0 e2=pt nb/\J 3 e2=pt h.next/\J 4 e2=pt h1.next/\J 5 e2=pt h3.next/\J 6 e2=.bool (ks.find? (Bq a b c)).isSome:=by
   rw[rj];unfold rk;simp only[sT,By,BY,reduceIte,A0,Ax,t0,Al,AH,AO,If,AN,AP,nd,t3,p3,p4,p5,qg,A8,BB,BH,al5,AKY];exact⟨_,rfl,by simp[AG,t0,t3,t4]⟩
  cases hf:ks.find? (Bq a b c)with
  |none=>
   rw[hf]at u6;have u6:J 6 e2=.bool false:=u6;obtain⟨h6,st6,f6,R6⟩:=EU (lf:=0) (sq:=0) (op:=0) (err:=60) (iv:=AEF) (bw:=AEF) (room:=0) W5 Ra4 rfl (by omega) rfl rfl;have bd:=fun (F:AEA) (e:Env)=>Hv (F:=F) (e:=e) (h:=h5) (g1:=kV (AI AT 60)) rfl
   refine⟨h6,h.next,60,AEF,AEF,?_,Fx.xtF x5 f6 (fun b hb=>by rw[hb];omega),IT _,rfl,rfl,.inr (.inl ⟨hc,rfl,rfl,rfl,rfl⟩)⟩;have hrun:∃ e3,rdS (call AC (m+9)) e2 h5=.ret e3 h6/\J 4 e3=pt h1.next:=by
     rw[bG];unfold rdB;simp only[sT,By,BY,reduceIte,BZ,BX,u6,yh,bd,AX,u4,st6];exact⟨_,rfl,by simp[AG,u4]⟩
   obtain⟨e3,r1,r2⟩:=hrun;rw[SM rfl,SW,p1,p2,r1,BG,DW (h':=h6) (v:=CB 0 0 0 60 AEF AEF 0) (by rw[r2];exact DJ R6)]
  |some kx=>
   rw[hf]at u6;have u6:J 6 e2=.bool true:=u6;obtain⟨uk,hv,Vk⟩:=F3 kx hf;have VkB:=V3 _ _ Vk;have hkm:=AB0 hf;have AFO:=H3 (ABJ hf);obtain⟨j,hj,hix⟩:∃ j:Nat,ks[j]? =some kx/\FV (Bq a b c) 0 ks=(j:Int):=by
     rcases Dp (Bq a b c) ks 0 with ⟨h1,_⟩|⟨j,k',h1,h2,h3⟩
     ·rw[hf]at h1;cases h1
     ·rw[hf]at h1
      cases h1;exact⟨j,h2,by rw[h3,If]⟩
   have s5:=(s.ext W x5).same (h':=h5.marked.quiet) rfl;have xm5:=x5.marked;obtain⟨g6,rr,k6,x6,hr⟩:=bg (m:=m+3) xm5.quiet.wf s5 hj hix AFO (hp kx hkm);have hrr:rr=true:=hr.2 (ht kx hkm);subst hrr;have qs:∀ e:Env,J 36 e=pt A.bs->J 38 e=AI AT a->J 40 e=AI AT b->J 42 e=AI AT c->Ae .free (AU 64 [J 36,J 38,J 40,J 42]) (call AC (m+9)) e h5.marked=.ok (.bool true) (h5.marked.back g6):=fun e e1 e2 e3 e4=>by
     refine BL ?_;rw[BO,AV,AV,AV,AV,A2,e1,e2,e3,e4];exact k6
   have y6:h5.Ext (h5.marked.back g6):=(Hp.Ext.refl W5).marked.trans (.back x6);generalize h5.marked.back g6=h6 at qs y6;obtain⟨_,_,nd5,_⟩:=Cg ((Rn.ext W x5).same (h':=h5.marked) rfl);obtain⟨_,_,_,z3,z4,z5,_,_⟩:=CP (Rk.same (h':=h5.marked) rfl);obtain⟨e3,p3',w4,w5⟩:∃ e3,rdS (call AC (m+9)) e2 h5=rdE (call AC (m+9)) e3 h6/\J 4 e3=pt h1.next/\J 5 e3=pt h3.next:=by
     rw[bG];unfold rdB;simp only[sT,By,BY,reduceIte,BZ,BX,u6,yi,A0,Ax,u0,Al,AH,AO,If,AN,AP,nd5,u3,z3,z4,z5,qs];exact⟨_,rfl,by simp[AG,u4,u5]⟩
   rw[hv]at R5;have x56:=x5.trans y6;have W6:=x56.wf;have R5':=(R5.ext W5 y6).same (h':=h6.marked) rfl;have xm6:=x56.marked;obtain⟨_,_,_,_,lu,ldk⟩:=Bh R5';have hmx:h3.next<h6.marked.mark:=(R5.ext W5 y6).lt W6;obtain⟨g7,ki,x7⟩:=Uu (m:=m+8) (x:=kx) (u:=uk) xm6.quiet.wf;have qi:∀ e:Env,J 46 e=Bk kx.a kx.b kx.c kx.s uk->Ae .weak (AU 65 [J 46]) (call AC (m+9)) e h6.marked=.ok (DG kx) (h6.marked.back g7):=fun e e1=>by
     refine Ck ?_ x7 (IT _);rw[BO,AV,A2,e1];exact ki
   have y7:h6.Ext (h6.marked.back g7):=(Hp.Ext.refl W6).marked.trans (.back x7);have m7:(h6.marked.back g7).mark=h6.next:=rfl;generalize h6.marked.back g7=h7 at qi y7 m7;have W7:=y7.wf;have n7:=y7.next;have qsl:∀ (F:AEA) (e:Env),J 47 e=DG kx->Ae .AER (Ar 1 (Bc Jt.zero 1) [(0,4,J 47)]) F e h7=.ok (.slice (some ⟨h7.next,0,none⟩) 1 1) (h7.back (h7.quiet.AD9 0 (Bs kx))):=fun F e e1=>by
     have:=MO (F:=F) (e:=e) W7.quiet (g:=J 47) e1;exact Ck this ((Hp.Ext.refl W7.quiet).AD9 _ _) (by rw[m7];exact n7)
   have y8:h7.Ext (h7.back (h7.quiet.AD9 0 (Bs kx))):=.back ((Hp.Ext.refl W7.quiet).AD9 _ _);have R8:(h7.back (h7.quiet.AD9 0 (Bs kx))).Row h7.next 0 (Bs kx):=(Hp.Row.new W7.quiet 0 (Bs kx)).same rfl;have m8:(h7.back (h7.quiet.AD9 0 (Bs kx))).mark=h6.next:=m7;generalize h7.back (h7.quiet.AD9 0 (Bs kx))=h8 at qsl y8 R8 m8;have n8:=y8.next;have R58:=(((R5.ext W5 y6).ext W6 y7).ext W7 y8);obtain⟨_,_,_,_,lu8,_⟩:=Bh R58;have AKZ:∀ {k:C} {F:AEA} {e:Env},Iq (.pointer (some ⟨h3.next,4,none⟩)) k F e h8=k F e h8:=Dg (by rw[m8];exact hmx);obtain⟨b1,b2,b3⟩:=ND VkB.vs.vals;have Ra8:=(((Ra4.ext W5 y6).ext W6 y7).ext W7 y8);have W8:=y8.wf;obtain⟨h9,q9,f9,R9⟩:=Fd (lf:=0) (sq:=0) (op:=0) (err:=0) (iv:=.slice (some ⟨h7.next,0,none⟩) 1 1) (bw:=uk) (room:=0) W8 Ra8 rfl (by omega) rfl b3;have q9':=fun (F:AEA) (e:Env) (e1:J 4 e=pt h1.next) (e2:J 51 e=CB 0 0 0 0 (.slice (some ⟨h7.next,0,none⟩) 1 1) uk 0)=>q9 F e (J 4) (J 51) e1 e2
   have bd:=fun (F:AEA) (e:Env) (e1:J 48 e=.slice (some ⟨h7.next,0,none⟩) 1 1) (e2:J 50 e=uk)=>Ym (F:=F) (h:=h8) e1 e2 rfl rfl b2 b1
   have x8:=(x56.trans y7).trans y8;refine⟨h9,h.next,0,_,uk,?_,Fx.xtF x8 f9 (fun b hb=>by rw[hb];omega),IT _,rfl,b3,.inr (.inr ⟨hc,kx,rfl,rfl,⟨h7.next,rfl,f9.row W8 R8 fun hb=>by
     have hb:h7.next=h1.next:=hb;have:=y25.next;have:=y6.next;omega,((x56.trans y7).next)⟩,?_⟩)⟩
   rotate_left
   · refine(((((VkB.ext y3.wf y5).ext W5 y6).ext W6 y7).ext W7 y8).AFG fun b el L hb _ r=>⟨f9.row W8 r (by omega),?_⟩)
     have:=x2.next;have hb:h2.next<=b:=hb;show h.next<=b;omega
   have hrun:∃ e4,rdE (call AC (m+9)) e3 h6=.ret e4 h9/\J 4 e4=pt h1.next:=by
     unfold rdE;simp only[sT,By,BY,reduceIte,A0,Av,Am,w5,ldk,qi,qsl,AH,AO,If,D5,AKZ,DQ,AN,AP,lu8,bd,w4,q9'];exact⟨_,rfl,by simp[AG,w4]⟩
   obtain⟨e4,r1,r2⟩:=hrun;rw[SM rfl,SW,p1,p2,p3',r1,BG,DW (h':=h9) (v:=CB 0 0 0 0 (.slice (some ⟨h7.next,0,none⟩) 1 1) uk 0) (by rw[r2];exact DJ R9)]
end
end
end Go.Proofs.YtbjadbhkogcfeaaGreat
