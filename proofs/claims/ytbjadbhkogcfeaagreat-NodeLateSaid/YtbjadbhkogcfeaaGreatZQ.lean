/-
  Part ZQ of what Lawlt stands on: printed by program, names and spaces cut.
-/
import Derived.Test.YtbjadbhkogcfeaaGreatZP
open Go.Value renaming int→AI
open Go.IntKind renaming i64→AT
open Nat renaming reduceEqDiff→BY,reduceLT→By,reduceAdd→IS,le_refl→IT,zero_add→If,zero_le→zL,le_trans→zO,reduceLeDiff→AA5
open Go renaming Value→IN
open List renaming length_append→No,length_map→OF,length_cons→yh,mem_cons_of_mem→yj,mem_cons_self→yk,mem_cons→yv,append_nil→yw,mem_of_getElem?→yz,mem_singleton→zB,getElem?_eq_some_iff→zG,length_take→zJ,mem_append→zK,mem_filter→zQ,length_nil→zS,nil_append→zU,length_singleton→zh,length_drop→zl,mem_map→zq,getElem?_map→zy,mem_range→AAM,mem_of_mem_take→AAN,length_filter_le→AAR,cons_append→AAl,filter_append→AA3,nodup_range→ABG,nodup_cons→ABH,nodup_append→ABI,append_eq→ABN,map_cons→ABV,mem_of_mem_drop→ABZ,mem_iff_getElem?→AB9,find?_some→ACB,filter_nil→ACC,drop→ACo,take→ACw,mem_of_find?_eq_some→ACx,filter_eq_nil_iff→ADL
open Bool renaming and_eq_true→yr,not_true→ze,not_false→zg,false_and→AAe,true_and→ABS,and_false→ABk
set_option linter.unusedVariables false
set_option linter.unusedSimpArgs false
namespace Go.Proofs.YtbjadbhkogcfeaaGreat
noncomputable section
open Go
set_option maxRecDepth 100000
def CP(AF7 seq:Int)(op:Nat)(a b c:Int)(u:IN):List IN:=[AI AT AF7,AI AT seq,.int .u8 (op:Int),AI AT a,AI AT b,AI AT c,u]
def Ck(AF7 seq:Int)(op:Nat)(a b c:Int)(u:IN):IN:=.agg ⟨CP AF7 seq op a b c u⟩
def wiQ(n lo hi:Int):Bool:=decide (lo<=n/\n<=hi)
def hdQ(AF7 seq:Int)(op:Nat):Bool:=wiQ AF7 1 1099511627776 && wiQ seq 1 1099511627776 && decide (1<=op/\op<=6)
def nmQ(a b c least:Int):Bool:=wiQ a 0 1099511627776 && wiQ b 0 254 && wiQ c least 1099511627776
def Dd(op:Nat):Int:=if op=4\/op=5 then 0 else 1
def DL(AF7 seq:Int)(op:Nat)(a b c:Int)(n:Nat):Bool:=hdQ AF7 seq op && nmQ a b c (Dd op) && (if op=1 then decide (n<=65536)else decide (n=0))
section
variable {F:AFi}{e:Env}{h h':Hp}{m n op r:Nat}{AF7 seq a b c least lo hi:Int}{u:IN}
theorem FK(W:h.Wf){g:O}(hg:g e=Ck AF7 seq op a b c u):Ce g F e h=.ok (pt h.next) (h.AFh 0 (CP AF7 seq op a b c u)):=by rw[EF,hg,EC W];rfl
theorem B5(R:h.Row r 0 (CP AF7 seq op a b c u)):AFk ⟨r,0,none⟩ h=.ok (AI AT AF7) h/\AFk ⟨r,1,none⟩ h=.ok (AI AT seq) h/\AFk ⟨r,2,none⟩ h=.ok (.int .u8 (op:Int)) h/\AFk ⟨r,3,none⟩ h=.ok (AI AT a) h/\AFk ⟨r,4,none⟩ h=.ok (AI AT b) h/\AFk ⟨r,5,none⟩ h=.ok (AI AT c) h/\AFk ⟨r,6,none⟩ h=.ok u h/\loadN 7 ⟨r,0,none⟩ h=.ok (Ck AF7 seq op a b c u) h:=
 ⟨R.AFk (off:=0) (by show 0<7;omega),R.AFk (off:=1) (by show 1<7;omega),R.AFk (off:=2) (by show 2<7;omega),R.AFk (off:=3) (by show 3<7;omega),R.AFk (off:=4) (by show 4<7;omega),R.AFk (off:=5) (by show 5<7;omega),R.AFk (off:=6) (by show 6<7;omega),R.loadN (off:=0) (n:=7) (by show 0+7<=7;omega)⟩
theorem SV{n:Int}:call AC (m+1) 89 [AI AT n,AI AT lo,AI AT hi] h=.ok (.bool (wiQ n lo hi)) h:=by
 rw[qD rfl];unfold d89 wiQ;by_cases h1:lo<=n
 ·have c1:iGe n lo=true:=F7 h1
  by_cases h2:n<=hi
  ·have c2:iLe n hi=true:=Hc h2
   rw[decide_eq_true ⟨h1,h2⟩];simp only[iN,IS,sT,By,BY,reduceIte,gD,AK,AJ,c1,c2,lV0]
  ·have c2:iLe n hi=false:=Jg h2
   rw[decide_eq_false fun g=>h2 g.2];simp only[iN,IS,sT,By,BY,reduceIte,gD,AK,AJ,c1,c2,lV0]
 ·have c1:iGe n lo=false:=E8 h1
  rw[decide_eq_false fun g=>h1 g.1];simp only[iN,IS,sT,By,BY,reduceIte,gD,AK,AJ,c1,lV0]
theorem wA:call AC (m+2) 55 [AI AT AF7,AI AT seq,.int .u8 (op:Int)] h=.ok (.bool (hdQ AF7 seq op)) h:=by
 have k1:=SV (m:=m) (h:=h) (n:=AF7) (lo:=1) (hi:=1099511627776);have k2:=SV (m:=m) (h:=h) (n:=seq) (lo:=1) (hi:=1099511627776);rw[pV rfl];unfold d55 hdQ;cases h1:wiQ AF7 1 1099511627776
 ·rw[h1]at k1
  simp only[iN,IS,sT,By,BY,reduceIte,gD,cA0,k1,AAe,lV0]
 ·rw[h1]at k1
  cases h2:wiQ seq 1 1099511627776
  ·rw[h2]at k2
   simp only[iN,IS,sT,By,BY,reduceIte,gD,cA0,k1,k2,AAe,ABk,lV0]
  ·rw[h2]at k2
   by_cases h3:1<=op
   ·have c1:iGe (op:Int) 1=true:=F7 (by omega)
    by_cases h4:op<=6
    ·have c2:iLe (op:Int) 6=true:=Hc (by omega)
     rw[decide_eq_true ⟨h3,h4⟩];simp only[iN,IS,sT,By,BY,reduceIte,gD,cA0,k1,k2,AK,AJ,c1,c2,Bool.and_true,lV0]
    ·have c2:iLe (op:Int) 6=false:=Jg (by omega)
     rw[decide_eq_false fun g=>h4 g.2];simp only[iN,IS,sT,By,BY,reduceIte,gD,cA0,k1,k2,AK,AJ,c1,c2,ABk,lV0]
   ·have c1:iGe (op:Int) 1=false:=E8 (by omega)
    rw[decide_eq_false fun g=>h3 g.1];simp only[iN,IS,sT,By,BY,reduceIte,gD,cA0,k1,k2,AK,AJ,c1,ABk,lV0]
theorem wM:call AC (m+2) 56 [AI AT a,AI AT b,AI AT c,AI AT least] h=.ok (.bool (nmQ a b c least)) h:=by
 have k1:=SV (m:=m) (h:=h) (n:=a) (lo:=0) (hi:=1099511627776);have k2:=SV (m:=m) (h:=h) (n:=b) (lo:=0) (hi:=254);have k3:=SV (m:=m) (h:=h) (n:=c) (lo:=least) (hi:=1099511627776);rw[pW rfl];unfold d56 nmQ;cases h1:wiQ a 0 1099511627776
 ·rw[h1]at k1
  simp only[iN,IS,sT,By,BY,reduceIte,gD,cA0,k1,AAe,lV0]
 ·rw[h1]at k1
  cases h2:wiQ b 0 254
  ·rw[h2]at k2
   simp only[iN,IS,sT,By,BY,reduceIte,gD,cA0,k1,k2,AAe,ABk,lV0]
  ·rw[h2]at k2
   simp only[iN,IS,sT,By,BY,reduceIte,gD,cA0,k1,k2,k3,ABS,lV0]
theorem Yc(W:h.Wf)(hop:op<256){l:Nat}(U:∀ g:Hp,AGQ u g=.ok (AI AT (l:Int)) g):
  ∃ h',call AC (m+3) 32 [Ck AF7 seq op a b c u] h=.ok (.bool (DL AF7 seq op a b c l)) h'/\h.Ext h':=by
 have bx:=fun (F:AFi) (e:Env) (he:J 0 e=Ck AF7 seq op a b c u)=>FK (F:=F) W he
 have x1:=(Hp.Ext.refl W).AFh 0 (CP AF7 seq op a b c u);have R:=Hp.Row.new W 0 (CP AF7 seq op a b c u);generalize h.AFh 0 (CP AF7 seq op a b c u)=h1 at bx x1 R;obtain⟨l0,l1,l2,l3,l4,l5,l6,_⟩:=B5 R;have ln:=U h1;have k1:=wA (m:=m) (h:=h1) (AF7:=AF7) (seq:=seq) (op:=op);have k2:=fun (least:Int)=>wM (m:=m) (h:=h1) (a:=a) (b:=b) (c:=c) (least:=least)
 refine⟨h1,?_,x1⟩;rw[pI rfl];unfold d32;have fin:∀ (q:Bool),hdQ AF7 seq op=q->DL AF7 seq op a b c l=(q && nmQ a b c (Dd op) && (if op=1 then decide (l<=65536)else decide (l=0))):=fun q hq=>by unfold DL;rw[hq]
 cases hh:hdQ AF7 seq op
 ·rw[fin _ hh,AAe,AAe]
  rw[hh]at k1;by_cases h4:op=4
  ·have c1:iNe (op:Int) 4=false:=CH (by omega)
   simp only[iN,IS,sT,By,BY,reduceIte,gD,bx,AH,AN,If,AM,AP,l0,l1,l2,AK,AJ,c1,cA0,k1,Be,Bd,zg,lV0]
  ·have c1:iNe (op:Int) 4=true:=F8 (by omega)
   by_cases h5:op=5
   ·have c2:iNe (op:Int) 5=false:=CH (by omega)
    simp only[iN,IS,sT,By,BY,reduceIte,gD,bx,AH,AN,If,AM,AP,l0,l1,l2,AK,AJ,c1,c2,cA0,k1,Be,Bd,zg,lV0]
   ·have c2:iNe (op:Int) 5=true:=F8 (by omega)
    simp only[iN,IS,sT,By,BY,reduceIte,gD,bx,AH,AN,If,AM,AP,l0,l1,l2,AK,AJ,c1,c2,cA0,k1,Be,Bd,zg,lV0]
 ·rw[fin _ hh,ABS]
  rw[hh]at k1;have rest:∀ (q:Bool),nmQ a b c (Dd op)=q->(op=1\/op≠1):=fun _ _=>by omega
  cases hn:nmQ a b c (Dd op)
  ·rw[AAe]
   by_cases h4:op=4
   ·have c1:iNe (op:Int) 4=false:=CH (by omega)
    have k3:=k2 0;rw[show(0:Int)=Dd op from(if_pos (.inl h4)).symm,hn,show Dd op=0 from if_pos (.inl h4)]at k3;simp only[iN,IS,sT,By,BY,reduceIte,gD,bx,AH,AN,If,AM,AP,l0,l1,l2,l3,l4,l5,AK,AJ,c1,cA0,k1,k3,Be,Bd,zg,ze,lV0]
   ·have c1:iNe (op:Int) 4=true:=F8 (by omega)
    by_cases h5:op=5
    ·have c2:iNe (op:Int) 5=false:=CH (by omega)
     have k3:=k2 0;rw[show(0:Int)=Dd op from(if_pos (.inr h5)).symm,hn,show Dd op=0 from if_pos (.inr h5)]at k3;simp only[iN,IS,sT,By,BY,reduceIte,gD,bx,AH,AN,If,AM,AP,l0,l1,l2,l3,l4,l5,AK,AJ,c1,c2,cA0,k1,k3,Be,Bd,zg,ze,lV0]
    ·have c2:iNe (op:Int) 5=true:=F8 (by omega)
     have k3:=k2 1;rw[show(1:Int)=Dd op from(if_neg (fun g=>g.elim h4 h5)).symm,hn,show Dd op=1 from if_neg (fun g=>g.elim h4 h5)]at k3;simp only[iN,IS,sT,By,BY,reduceIte,gD,bx,AH,AN,If,AM,AP,l0,l1,l2,l3,l4,l5,AK,AJ,c1,c2,cA0,k1,k3,Be,Bd,zg,ze,lV0]
  ·rw[ABS]
   by_cases h4:op=4
   ·have c1:iNe (op:Int) 4=false:=CH (by omega)
    have c3:iEq (op:Int) 1=false:=B6 (by omega);have k3:=k2 0;rw[show(0:Int)=Dd op from(if_pos (.inl h4)).symm,hn,show Dd op=0 from if_pos (.inl h4)]at k3;rw[if_neg (show ¬ op=1 by omega)];have c4:iEq (l:Int) 0=decide (l=0):=by rw[Dc];by_cases q:l=0<;>simp[q]
    simp only[iN,IS,sT,By,BY,reduceIte,gD,bx,AH,AN,If,AM,AP,l0,l1,l2,l3,l4,l5,l6,AK,AJ,c1,c3,c4,cA0,k1,k3,Be,Bd,zg,ze,Ah,ln,lV0]
   ·have c1:iNe (op:Int) 4=true:=F8 (by omega)
    by_cases h5:op=5
    ·have c2:iNe (op:Int) 5=false:=CH (by omega)
     have c3:iEq (op:Int) 1=false:=B6 (by omega);have k3:=k2 0;rw[show(0:Int)=Dd op from(if_pos (.inr h5)).symm,hn,show Dd op=0 from if_pos (.inr h5)]at k3;rw[if_neg (show ¬ op=1 by omega)];have c4:iEq (l:Int) 0=decide (l=0):=by rw[Dc];by_cases q:l=0<;>simp[q]
     simp only[iN,IS,sT,By,BY,reduceIte,gD,bx,AH,AN,If,AM,AP,l0,l1,l2,l3,l4,l5,l6,AK,AJ,c1,c2,c3,c4,cA0,k1,k3,Be,Bd,zg,ze,Ah,ln,lV0]
    ·have c2:iNe (op:Int) 5=true:=F8 (by omega)
     have k3:=k2 1;rw[show(1:Int)=Dd op from(if_neg (fun g=>g.elim h4 h5)).symm,hn,show Dd op=1 from if_neg (fun g=>g.elim h4 h5)]at k3;by_cases h1:op=1
     ·have c3:iEq (op:Int) 1=true:=Cb (by omega)
      rw[if_pos h1];have c4:iLe (l:Int) 65536=decide (l<=65536):=by rw[O5];by_cases q:l<=65536<;>simp[q]<;>omega
      simp only[iN,IS,sT,By,BY,reduceIte,gD,bx,AH,AN,If,AM,AP,l0,l1,l2,l3,l4,l5,l6,AK,AJ,c1,c2,c3,c4,cA0,k1,k3,Be,Bd,zg,ze,Ah,ln,lV0]
     ·have c3:iEq (op:Int) 1=false:=B6 (by omega)
      rw[if_neg h1];have c4:iEq (l:Int) 0=decide (l=0):=by rw[Dc];by_cases q:l=0<;>simp[q]
      simp only[iN,IS,sT,By,BY,reduceIte,gD,bx,AH,AN,If,AM,AP,l0,l1,l2,l3,l4,l5,l6,AK,AJ,c1,c2,c3,c4,cA0,k1,k3,Be,Bd,zg,ze,Ah,ln,lV0]
end
end
noncomputable section
open Go
set_option maxRecDepth 100000
theorem sQ:nfS=BL (Ae 0 (A9 nfB)) nfE:=rfl
theorem qh:d61=hU:=rfl
def CO(k:Kt):List IN:=[AI AT k.a,AI AT k.b,AI AT k.c,.int .u8 (k.s:Int)]
def Hf(k:Kt):IN:=.agg ⟨CO k⟩
def flI(ks:List Kt):List IN:=ks.flatMap CO
theorem Uz:∀ ks:List Kt,(flI ks).length=ks.length*4
 |[]=>rfl
 |k::l=>by
  show(CO k++flI l).length=_;rw[No,Uz l,yh];show 4+l.length*4=_;omega
theorem iP(a b:List Kt):flI (a++b)=flI a++flI b:=List.flatMap_append
def Hp.IL(h:Hp)(k:Nat)(v:IN)(ks:List Kt):Prop:=(v=AFn/\ks=[])\/∃ b,v=.slice (some ⟨b,0,none⟩) ks.length ks.length/\h.Row b 54 (flI ks)/\k<=b
theorem lI:Bt .mt 0 (CO K0)=some dU:=by kernel_rfl
theorem lE:Bb NS.zero 1=CO K0:=by kernel_rfl
theorem tm:NS.zero=CO K0:=by kernel_rfl
section
variable {F:AFi}{e:Env}{h h' h0 g:Hp}{A:At}{T M:List Nat}{c0 bad m k n nb r:Nat}{arm AF7:Int}{ks:List Kt}{fr:List Nat}{v lv fv u w:IN}{ov:Bool}{x:Kt}{P:Kt->Bool}
theorem yO(W0:h.Wf)(x:h.Ext g){r:Nat}(hr:h.next<=r){L:List IN}(R:g.Row r 0 L)(hL:L.length=4)(k:Kt):
  AFr 4 (pt r) (Hf k) g=.ok AFl (g.wr r 0 (CO k))/\h.Ext (g.wr r 0 (CO k))/\(g.wr r 0 (CO k)).Row r 0 (CO k):=by
 have AFs:256<=r:=by have:=W0.big;omega
 have ho:0+(CO k).length<=L.length:=by rw[hL];exact IT _
 have st:=R.AFr (n:=4) (off:=0) x.wf AFs (v:=Hf k) rfl ho rfl;have wr:=R.AFu x.wf ho;rw[Fi (show L.length=(CO k).length from hL)]at wr;exact⟨st,R.AGE x hr ho,wr⟩
theorem oq{g1 g2 g3 g4:O}(h1:g1 e=AI AT x.a)(h2:g2 e=AI AT x.b)(h3:g3 e=AI AT x.c)(h4:g4 e=.int .u8 (x.s:Int)):
  BK NS.zero [(0,1,g1),(1,1,g2),(2,1,g3),(3,1,g4)] F e h=.ok (Hf x) h:=by
 rw[CS,tm,Af (hk:=by rw[h1];rfl),h1,Af (hk:=by rw[h2];rfl),h2,Af (hk:=by rw[h3];rfl),h3,Af (hk:=by rw[h4];rfl),h4];simp only[Ch,zh,yh,zS,CO,over,ACw,ACo,ABN,zU,AAl,IS,AA5,if_true,Bs,reduceIte];rfl
theorem Mj(W:h.Wf){g:O}(hg:g e=Hf x):As 1 (Bb NS.zero 1) [(0,4,g)] F e h=.ok (.slice (some ⟨h.next,0,none⟩) 1 1) (h.AFh 0 (CO x)):=by
 rw[lE,CR,Af (hk:=by rw[hg];rfl),hg,show cellsOf (Hf x)=CO x from rfl,if_pos (show(CO x).length=4 from rfl),if_pos (show 0+4<=(CO K0).length from IT _),Bs,C9 W];rfl
theorem VU(W:h.Wf):∃ h',call AC (m+1) 65 [Bu x.a x.b x.c x.s u] h=.ok (Hf x) h'/\h.Ext h':=by
 have bx:=fun (F:AFi) (e:Env) (he:J 0 e=Bu x.a x.b x.c x.s u)=>To (F:=F) W he
 have x1:=(Hp.Ext.refl W).AFh 0 (A8 x.a x.b x.c x.s u);have R1:=Hp.Row.new W 0 (A8 x.a x.b x.c x.s u);generalize h.AFh 0 (A8 x.a x.b x.c x.s u)=h1 at bx x1 R1;have al:=fun (F:AFi) (e:Env)=>BW (F:=F) (e:=e) x1.wf (n:=4) (t:=dU)
 have Ra:=Hp.Row.alloc x1.wf lI (show(CO K0).length=4 from rfl);have y2:h1.Ext (h1.push (.cells dU 4 0)):=(Hp.Ext.refl x1.wf).push _;generalize h1.push (.cells dU 4 0)=h2 at al Ra y2;obtain⟨l0,l1,l2,l3,_,_⟩:=Bz (R1.ext x1.wf y2);have bd:=fun (F:AFi) (e:Env) (e1:J 4 e=AI AT x.a) (e2:J 6 e=AI AT x.b) (e3:J 8 e=AI AT x.c) (e4:J 10 e=.int .u8 (x.s:Int))=>oq (F:=F) (h:=h2) e1 e2 e3 e4
 obtain⟨st,x3,R3⟩:=yO x1.wf y2 (IT _) Ra rfl x;have ld:loadN 4 ⟨h1.next,0,none⟩ (h2.wr h1.next 0 (CO x))=.ok (Hf x) (h2.wr h1.next 0 (CO x)):=R3.loadN (off:=0) (n:=4) (by show 0+4<=4;omega);generalize h2.wr h1.next 0 (CO x)=h3 at st x3 R3 ld;refine⟨h3,?_,x1.trans x3⟩;have hrun:∃ e2,d65 (call AC m) (AS e0 0 [Bu x.a x.b x.c x.s u]) h=.ret e2 h3/\J 2 e2=pt h1.next:=by
  unfold d65;simp only[iN,IS,sT,By,BY,reduceIte,bx,al,AH,AN,If,AM,AP,l0,l1,l2,l3,bd,AX,st];exact⟨_,rfl,by simp[AG]⟩
 obtain⟨e2,r1,r2⟩:=hrun;rw[ph rfl,r1,BI,Da (h':=h3) (v:=Hf x) (by rw[r2,Am];exact ld)]
theorem rK{seq:Int}{op:Nat}{a b c:Int}{l:IN}(W:h.Wf)(R:h.Row r 0 (CP AF7 seq op a b c l)):∃ h',call AC (m+1) 62 [Bu x.a x.b x.c x.s u,pt r] h=.ok (.bool (decide (x.a=a) && decide (x.b=b))) h'/\h.Ext h':=by
 have bx:=fun (F:AFi) (e:Env) (he:J 0 e=Bu x.a x.b x.c x.s u)=>To (F:=F) W he
 have x1:=(Hp.Ext.refl W).AFh 0 (A8 x.a x.b x.c x.s u);have R1:=Hp.Row.new W 0 (A8 x.a x.b x.c x.s u);generalize h.AFh 0 (A8 x.a x.b x.c x.s u)=h1 at bx x1 R1;obtain⟨l0,l1,_⟩:=Bz R1;obtain⟨_,_,_,q3,q4,_⟩:=B5 (R.ext W x1);refine⟨h1,?_,x1⟩;rw[pZ rfl];unfold d62;rcases Ih x.a a with ⟨c1,e1⟩|⟨c1,e1⟩
 ·rw[decide_eq_true e1,ABS]
  have c2:iEq x.b b=decide (x.b=b):=by rw[Dc];by_cases q:x.b=b<;>simp[q]
  simp only[iN,IS,sT,By,BY,reduceIte,gD,bx,AH,AN,If,AM,AP,l0,l1,q3,q4,AK,AJ,c1,c2,lV0]
 ·rw[decide_eq_false e1,AAe]
  simp only[iN,IS,sT,By,BY,reduceIte,gD,bx,AH,AN,If,AM,AP,l0,l1,q3,q4,AK,AJ,c1,lV0]
def ZA(x:Kt)(a b c:Int):Bool:=if x.a=a then(if x.b=b then decide (c<x.c)else decide (b<x.b))else decide (a<x.a)
theorem rL{seq:Int}{op:Nat}{a b c:Int}{l:IN}(W:h.Wf)(R:h.Row r 0 (CP AF7 seq op a b c l)):∃ h',call AC (m+1) 66 [Bu x.a x.b x.c x.s u,pt r] h=.ok (.bool (ZA x a b c)) h'/\h.Ext h':=by
 have bx:=fun (F:AFi) (e:Env) (he:J 0 e=Bu x.a x.b x.c x.s u)=>To (F:=F) W he
 have x1:=(Hp.Ext.refl W).AFh 0 (A8 x.a x.b x.c x.s u);have R1:=Hp.Row.new W 0 (A8 x.a x.b x.c x.s u);generalize h.AFh 0 (A8 x.a x.b x.c x.s u)=h1 at bx x1 R1;obtain⟨l0,l1,l2,_⟩:=Bz R1;obtain⟨_,_,_,q3,q4,q5,_⟩:=B5 (R.ext W x1);have gt:∀ p q:Int,iGt p q=decide (q<p):=Gr;refine⟨h1,?_,x1⟩;rw[pi rfl];unfold d66 ZA;by_cases h1:x.a=a
 ·have c1:iNe x.a a=false:=CH h1
  rw[if_pos h1];by_cases h2:x.b=b
  ·have c2:iNe x.b b=false:=CH h2
   rw[if_pos h2];simp only[iN,IS,sT,By,BY,reduceIte,gD,bx,AH,AN,If,AM,AP,l0,l1,l2,q3,q4,q5,AK,AJ,c1,c2,gt,lV0]
  ·have c2:iNe x.b b=true:=F8 h2
   rw[if_neg h2];simp only[iN,IS,sT,By,BY,reduceIte,gD,bx,AH,AN,If,AM,AP,l0,l1,l2,q3,q4,q5,AK,AJ,c1,c2,gt,lV0]
 ·have c1:iNe x.a a=true:=F8 h1
  rw[if_neg h1];simp only[iN,IS,sT,By,BY,reduceIte,gD,bx,AH,AN,If,AM,AP,l0,l1,l2,q3,q4,q5,AK,AJ,c1,gt,lV0]
def AF9(bd tb bs:Nat)(AF7:Int):List IN:=[pt bd,pt tb,pt bs,AI AT AF7]
theorem Cz{bd tb bs:Nat}(R:h.Row nb 0 (AF9 bd tb bs AF7)):AFk ⟨nb,0,none⟩ h=.ok (pt bd) h/\AFk ⟨nb,1,none⟩ h=.ok (pt tb) h/\AFk ⟨nb,2,none⟩ h=.ok (pt bs) h/\AFk ⟨nb,3,none⟩ h=.ok (AI AT AF7) h:=
 ⟨R.AFk (off:=0) (by show 0<4;omega),R.AFk (off:=1) (by show 1<4;omega),R.AFk (off:=2) (by show 2<4;omega),R.AFk (off:=3) (by show 3<4;omega)⟩
theorem Qg(W:h.Wf)(Rn:h.Row nb 0 (AF9 A.bd A.tb A.bs AF7))(s:Sl h A T M c0 arm ks fr lv fv bad ov)(hl:ks.length<=49){w:IN}(hP:∀ (g:Hp) (k:Kt) (u:IN),h.Ext g->∃ g',KK (call AC (m+4)) w [Bu k.a k.b k.c k.s u] g=.ok (.bool (P k)) g'/\g.Ext g'):
  ∃ h' k v,call AC (m+5) 61 [pt nb,w] h=.ok v h'/\h.Ext h'/\h.next<=k/\h'.IL k v (ks.filter P):=by
 obtain⟨_,_,n2,_⟩:=Cz Rn;obtain⟨h1,v1,k1,x1,V⟩:=dX (m:=m) W s.row s.ls (Sl.all s) (by omega);have ln:=V.len h1;obtain⟨e1,p1,t1,t5,t12,t13,t14⟩:∃ e1,hU (call AC (m+4)) (AS e0 0 [pt nb,w]) h=nfS (call AC (m+4)) e1 h1/\J 1 e1=w/\J 5 e1=AFn/\J 12 e1=v1/\J 13 e1=AI AT (ks.length:Int)/\J 14 e1=AI AT ((0:Nat):Int):=by
  unfold hU;simp only[iN,IS,sT,By,BY,reduceIte,Ax,Al,AH,AN,If,AM,AP,n2,cA0,k1,Ah,ln];exact⟨_,rfl,by simp[AG]⟩
 have run:∃ e2 h2 v,A9 nfB (call AC (m+4)) e1 h1=.exit 0 e2 h2/\h1.Ext h2/\J 5 e2=v/\h2.IL h1.next v (ks.filter P):=by
  refine Bh (I:=fun i e' h'=>∃ v,h1.Ext h'/\J 1 e'=w/\J 5 e'=v/\J 12 e'=v1/\J 13 e'=AI AT (ks.length:Int)/\J 14 e'=AI AT (i:Int)/\i<=ks.length/\h'.IL h1.next v ((ks.take i).filter P))
   (Q:=fun x=>∃ e2 h2 v,x=.exit 0 e2 h2/\h1.Ext h2/\J 5 e2=v/\h2.IL h1.next v (ks.filter P)) ks.length (by omega) (fun i e' h' ⟨v,x',u1,u5,u12,u13,u14,hi,hv⟩=>?_) ⟨AFn,.refl x1.wf,t1,t5,t12,t13,t14,zL _,.inl ⟨rfl,rfl⟩⟩
  have W':=x'.wf;by_cases hlt:i<ks.length
  ·left
   have c1:=E9 hlt;obtain⟨k,hk⟩:∃ k,ks[i]? =some k:=⟨_,List.getElem?_eq_getElem hlt⟩;obtain⟨b,u,ix,ld,U⟩:=(V.ext x1.wf x').at hk;obtain⟨_,_,uo⟩:=NV U;have htk:ks.take (i+1)=ks.take i++[k]:=by rw[List.take_add_one,hk];rfl
   have al:=fun (F:AFi) (e:Env)=>BW (F:=F) (e:=e) W' (n:=5) (t:=DP)
   have Ra:=Hp.Row.alloc W' FQ (show(A8 0 0 0 0 AFn).length=5 from rfl);have y1:h'.Ext (h'.push (.cells DP 5 0)):=(Hp.Ext.refl W').push _;generalize h'.push (.cells DP 5 0)=h3 at al Ra y1;obtain⟨st,ld2,y2,R5,n5⟩:=Lh W' y1 (IT _) Ra rfl (a:=k.a) (b:=k.b) (c:=k.c) (s:=k.s) uo;generalize h3.wr h'.next 0 (A8 k.a k.b k.c k.s u)=h4 at st ld2 y2 R5 n5;have x4:=x'.trans y2;obtain⟨h5,ka,x5⟩:=hP h4 k u (x1.trans x4);have x45:=x4.trans x5;cases hp:P k
   ·rw[hp]at ka
    have a3:=Cc (i:=i) (h:=h5) (by omega);obtain⟨e2,r1,r2,r3,r4,r5,r6⟩:∃ e2,nfB (call AC (m+4)) e' h'=.norm e2 h5/\J 1 e2=w/\J 5 e2=v/\J 12 e2=v1/\J 13 e2=AI AT (ks.length:Int)/\J 14 e2=AI AT ((i+1:Nat):Int):=by
     unfold nfB;simp only[sT,By,BY,reduceIte,gD,AK,AJ,u14,u13,c1,BB,u12,ix,Au,Am,ld,al,AX,st,ld2,Ca,AV,A3,u1,ka,BM,a3];exact⟨_,rfl,by simp[AG,u1,u5,u12,u13]⟩
    refine⟨hlt,e2,h5,r1,v,x45,r2,r3,r4,r5,r6,hlt,?_⟩;rw[htk,AA3,List.filter_cons_of_neg (by rw[hp];decide),ACC,yw];rcases hv with h0|⟨b,q1,q2,q3⟩
    ·exact .inl h0
    ·exact .inr ⟨b,q1,(q2.ext W' y2).ext y2.wf x5,q3⟩
   ·rw[hp]at ka
    have lnv:AGQ v h5=.ok (AI AT (((ks.take i).filter P).length:Int)) h5:=by
     rcases hv with ⟨q1,q2⟩|⟨b,q1,_⟩
     ·rw[q1,q2];rfl
     ·rw[q1];rfl
    have hfl:((ks.take i).filter P).length<=49:=by
     have h1:=AAR P (ks.take i);rw[zJ]at h1;omega
    have c50:iLt (((ks.take i).filter P).length:Int) 50=true:=Hd (by omega);have ld5:loadN 5 ⟨h'.next,0,none⟩ h5=.ok (Bu k.a k.b k.c k.s u) h5:=(R5.ext y2.wf x5).loadN (off:=0) (n:=5) (by show 0+5<=5;omega);obtain⟨h6,ki,x6⟩:=VU (m:=m+3) (x:=k) (u:=u) x5.wf;have sl:=fun (F:AFi) (e:Env) (he:J 28 e=Hf k)=>Mj (F:=F) x6.wf he
    have x46:=x45.trans x6;have y7:=(Hp.Ext.refl x6.wf).AFh 0 (CO k);have Rw:=Hp.Row.new x6.wf 0 (CO k);have hn7:h6.next<=(h6.AFh 0 (CO k)).next:=y7.next;generalize h6.AFh 0 (CO k)=h7 at sl y7 Rw hn7;have x47:=x46.trans y7;have hs:∀ K:List IN->R,BP h7 4 (.slice (some ⟨h6.next,0,none⟩) 1 1) 1 K=K (CO k):=fun K=>Rw.AHh (es:=4) (off:=0) (n:=1) (by show 0+1 * 4<=4;omega)
    have big:=x1.wf.big;obtain⟨h8,v8,k8,x8,hv8⟩:∃ h8 v8,DU 4 32 53 v (.slice (some ⟨h6.next,0,none⟩) 1 1) h7=.ok v8 h8/\h1.Ext h8/\h8.IL h1.next v8 ((ks.take i).filter P++[k]):=by
     rcases hv with ⟨q1,q2⟩|⟨b,q1,q2,q3⟩
     ·obtain⟨h8,a1,a2,a3,_⟩:=Jm (eb:=32) (en:=53) x47 hs rfl rfl rfl (by omega)
      exact⟨h8,_,by rw[q1];exact a1,a2,by rw[q2];exact .inr ⟨_,rfl,a3,x47.next⟩⟩
     ·have q5:=((q2.ext W' y2).ext y2.wf x5).ext x5.wf (x6.trans y7)
      obtain⟨h8,a1,a2,a3,_⟩:=Je (eb:=32) (en:=53) x47 hs rfl rfl (by omega) rfl q5 (Uz _) q3 (by omega) (by omega);refine⟨h8,_,by rw[q1];exact a1,a2,.inr ⟨_,by rw[No];rfl,?_,x47.next⟩⟩;rw[iP];exact a3
    have a3:=Cc (i:=i) (h:=h8) (by omega);obtain⟨e2,r1,r2,r3,r4,r5,r6⟩:∃ e2,nfB (call AC (m+4)) e' h'=.norm e2 h8/\J 1 e2=w/\J 5 e2=v8/\J 12 e2=v1/\J 13 e2=AI AT (ks.length:Int)/\J 14 e2=AI AT ((i+1:Nat):Int):=by
     unfold nfB;simp only[sT,By,BY,reduceIte,gD,AK,AJ,u14,u13,c1,BB,u12,ix,Au,Am,ld,al,AX,st,ld2,Ca,AV,A3,u1,ka,Ah,u5,lnv,c50,ld5,BR,ki,sl,BN,k8,BM,a3];exact⟨_,rfl,by simp[AG,u1,u12,u13]⟩
    refine⟨hlt,e2,h8,r1,v8,x8,r2,r3,r4,r5,r6,hlt,?_⟩;rw[htk,AA3,List.filter_cons_of_pos hp,ACC];exact hv8
  ·right
   obtain rfl:i=ks.length:=by omega
   have c1:=DJ (IT ks.length);obtain⟨e2,r1,r5⟩:∃ e2,nfB (call AC (m+4)) e' h'=.exit 0 e2 h'/\J 5 e2=v:=by
    unfold nfB;simp only[sT,By,BY,reduceIte,AK,AJ,u14,u13,c1];exact⟨_,rfl,by simp[AG,u5]⟩
   rw[r1];rw[List.take_length]at hv;exact⟨rfl,e2,h',v,rfl,x',r5,hv⟩
 obtain⟨e2,h2,v,r1,x2,r5,hv⟩:=run;refine⟨h2,_,v,?_,x1.trans x2,x1.next,hv⟩;rw[pY rfl,qh,p1,sQ];simp only[BJ,Az,r1,BD,BA];unfold nfE;simp only[sT,By,BY,reduceIte,r5,lV0]
end
end
noncomputable section
open Go
set_option maxRecDepth 100000
def Cnt(ks:List Kt):Prop:=(∀ x∈ks,∀ y∈ks,¬ rT x y)/\(ks.map Kt.key).Nodup
section
variable {F:AFi}{e:Env}{h g g':Hp}{T M:List Nat}{bd bm bc tb n m c0 k:Nat}{arm:Int}{v:IN}{ks:List Kt}
structure O3 (h g:Hp)(T M:List Nat)(bs r9 k1 bd tb i:Nat)(v mv:IN)(ks:List Kt):Prop where
 x:h.Ext g
 row:g.Row bs 0 (slL bd tb AFn AFn (AGs T M i).length false)
 rb:g.Row r9 0 [pt bs]
 ko:g.KO k1 v ks
 ok:∀ k∈ks,AHy g (fun b=>r9<b) k
 ms:g.Own k1 3 mv (ints .i64 ((mrk T M i).map Int.ofNat))
 le:k1<=g.next
theorem O3.ext{g g':Hp}{bs r9 k1 i:Nat}{mv:IN}(o:O3 h g T M bs r9 k1 bd tb i v mv ks)(x:g.Ext g'):O3 h g' T M bs r9 k1 bd tb i v mv ks:=
 have W:=o.x.wf
 ⟨o.x.trans x,o.row.ext W x,o.rb.ext W x,o.ko.ext W x,fun k hk=>⟨(o.ok k hk).1.ext W x,(o.ok k hk).2⟩,o.ms.ext W x,zO o.le x.next⟩
theorem kQ{g:Hp}{r9 k1 i:Nat}{mv:IN}(W:h.Wf)(o:O1 h g T M h.next r9 k1 bd tb i v mv ks)(hl:ks.length<=12)(h1:h.next<r9)(h2:r9<k1):
  ∃ g',call AC (m+7) 74 [v,.func (.func 75) ⟨[]⟩ ⟨[]⟩] g=.ok AFl g'/\O3 h g' T M h.next r9 k1 bd tb i v mv (EN ks):=by
 have Wg:=o.x.wf;rcases o.ko with ⟨rfl,rfl⟩|⟨b,rfl,R,hb,AFs⟩
 ·obtain⟨g3,k3,x3⟩:=kO (m:=m+1) Wg (S:=fun _=>True) (ks:=[]) (.inl ⟨rfl,rfl⟩) (zL _) fun i x y hx _=>by cases hx
  have o3:=o.ext x3;exact⟨g3,k3,⟨o3.x,o3.row,o3.rb,o3.ko,o3.ok,o3.ms,o3.le⟩⟩
 ·have hu:∀ k∈ks,oneCell k.u=true:=fun k hk=>(o.ok k hk).1.vs.one.2.1
  obtain⟨g3,k3,f3,R3⟩:=SJ (m:=m+1) (Z:=[]) (n:=ks.length) (c:=ks.length) Wg (by rw[yw];exact R) AFs rfl (IT _) hl hu;rw[yw]at R3;refine⟨g3,k3,⟨Fx.xtF o.x f3 fun i hi=>by rw[hi];omega,f3.row Wg o.row (by omega),f3.row Wg o.rb (by omega),.inr ⟨b,by rw[IV],R3,hb,AFs⟩,fun k hk=>?_,?_,zO o.le f3.next⟩⟩
  ·have hk:=Gh.1 hk
   exact⟨(o.ok k hk).1.keep fun b' el L _ he r=>f3.row Wg r (EE r R (by omega)),(o.ok k hk).2⟩
  ·rcases o.ms with h1|⟨b',h1,h2,h3,h4⟩
   ·exact .inl h1
   ·exact .inr ⟨b',h1,f3.row Wg h2 (EE h2 R (by omega)),h3,h4⟩
theorem bo(W:h.Wf)(d:Dk h bd bm bc n M c0 [] arm false)(Rt:h.Row tb 0 (T.map wv))(hT:AGc T)(hn:3<=n/\n<=90)(htb:tb≠bd/\tb≠bm/\tb≠bc)
  (hI:∀ ks:List Kt,ks.map Kt.core=kcs T M (n/3)->Cnt ks)(hl:(kcs T M (n/3)).length<=12)(ha:CB arm (k+60)):
  ∃ h' bs c1 AGB lv fv ks ks0,call AC (m+8) 47 [pt bd,pt tb,AI AT 100] h=.ok (.tuple ⟨[pt bs,AI AT 0]⟩) h'/\Fx (fun b=>b=bd\/b=bm\/b=bc) h h'/\
   Sl h' ⟨bs,bd,bm,bc,tb,n⟩ T (G9 M (AHl ks (mrk T M (n/3)) (n/3))) c1 AGB ks (AGh ks (n/3)) lv fv (AGs T M (n/3)).length false/\ks0.map Kt.core=kcs T M (n/3)/\ks=EN ks0/\h.next<=bs/\CB AGB k:=by
 have big:=W.big;have s57:∀ (mm:Nat) (g:Hp),call AC (mm+1) 72 [AI AT 100] g=.ok (AI AT 3) g:=fun mm g=>by
  have:=WH (n:=mm) (h:=g) (z:=100);rw[OX]at this;exact this
 have AKj:=fun g=>s57 (m+6) g
 have k1:=kM (m:=m+5) d;have k2:=Us (m:=m+5) d;have c1:iEq (n:Int) 0=false:=B6 (by omega);have c2:iEq 3 0=false:=B6 (by omega);have c3:iGt 3 (n:Int)=false:=Fa (by omega);have ne:∀ (F:AFi) (e:Env),J 27 e=pt tb->oEq SR.k false (J 27) (kV (.pointer none)) F e h=.ok (.bool false) h:=fun F e he=>Gz mX he
 have bl:∀ (F:AFi) (e:Env),J 0 e=pt bd->J 1 e=pt tb->J 2 e=AI AT 100->BK SP.zero [(0,1,J 0),(1,1,J 1),(2,1,J 2)] F e h=.ok (.agg ⟨slL bd tb AFn AFn 0 false⟩) h:=fun F e a b c=>ee a b c
 have bx:∀ (F:AFi) (e:Env),J 46 e=.agg ⟨slL bd tb AFn AFn 0 false⟩->Ce (J 46) F e h=.ok (pt h.next) (h.AFh 0 (slL bd tb AFn AFn 0 false)):=fun F e he=>by rw[EF,he,EC W];rfl
 have x1:=(Hp.Ext.refl W).AFh 0 (slL bd tb AFn AFn 0 false);have R1:=Hp.Row.new W 0 (slL bd tb AFn AFn 0 false);have n1:(h.AFh 0 (slL bd tb AFn AFn 0 false)).next=h.next+1:=rfl;generalize h.AFh 0 (slL bd tb AFn AFn 0 false)=h1 at bx x1 R1 n1;obtain⟨h2,al,st,y2,R9,n2,_⟩:=JO x1.wf lJ (v:=pt h.next) rfl rfl;have x2:=x1.trans y2;have dv:=fun g=>yK (h:=g) (n:=n) (by omega)
 have pre:∃ e1,gz (call AC (m+7)) (AS e0 0 [pt bd,pt tb,AI AT 100]) h=sv (call AC (m+7)) e1 h2/\J 2 e1=AI AT 100/\J 8 e1=AI AT (n:Int)/\J 9 e1=pt h1.next/\J 10 e1=AFn/\J 11 e1=AFn/\J 51 e1=AI AT ((n/3:Nat):Int)/\J 52 e1=AI AT ((0:Nat):Int):=by
  unfold gz;simp only[iN,IS,sT,By,BY,reduceIte,gD,cA0,k1,AK,AJ,c1,ne,AKj,c2,c3,k2,bl,bx,al,AX,st,Jt,dv];exact⟨_,rfl,by simp[AG]⟩
 obtain⟨e1,p1,s2,s8,s9,s10,s11,s51,s52⟩:=pre;have hbs:h.next<=h.next/\h.next<h1.next/\h1.next<h2.next:=⟨IT _,by omega,by omega⟩;have o0:O1 h h2 T M h.next h1.next h2.next bd tb 0 AFn AFn []:=⟨x2,R1.ext x1.wf y2,R9,.inl ⟨rfl,rfl⟩,rfl,fun k hk=>(by cases hk),.inl ⟨rfl,rfl⟩,IT _⟩;have ALw:∃ e' g v mv ks,A9 Lf (call AC (m+7)) e1 h2=.exit 1 e' g/\O1 h g T M h.next h1.next h2.next bd tb (n/3) v mv ks/\J 10 e'=v/\J 11 e'=mv/\J 2 e'=AI AT 100/\J 8 e'=AI AT (n:Int)/\J 9 e'=pt h1.next:=by
  refine Bh (I:=fun i e' g=>∃ v mv ks,O1 h g T M h.next h1.next h2.next bd tb i v mv ks/\i<=n/3/\J 10 e'=v/\J 11 e'=mv/\J 52 e'=AI AT (i:Int)/\J 2 e'=AI AT 100/\J 8 e'=AI AT (n:Int)/\J 9 e'=pt h1.next/\J 51 e'=AI AT ((n/3:Nat):Int))
   (Q:=fun x=>∃ e' g v mv ks,x=.exit 1 e' g/\O1 h g T M h.next h1.next h2.next bd tb (n/3) v mv ks/\J 10 e'=v/\J 11 e'=mv/\J 2 e'=AI AT 100/\J 8 e'=AI AT (n:Int)/\J 9 e'=pt h1.next) (n/3) (by omega) (fun i e' g ⟨v,mv,ks,o,hi,t10,t11,t52,t2,t8,t9,t51⟩=>?_) ⟨_,_,_,o0,zL _,s10,s11,s52,s2,s8,s9,s51⟩
  by_cases hlt:i<n/3
  ·left
   obtain⟨e2,g2,v2,mv2,ks2,r1,o2,r2,r3,r4,r5⟩:=bi (m:=m+1) W d Rt hT o hbs hlt t9 t10 t11 t51 t52;exact⟨hlt,e2,g2,r1,v2,mv2,ks2,o2,hlt,r2,r3,r4,(r5 2 (by omega)).trans t2,(r5 8 (by omega)).trans t8,(r5 9 (by omega)).trans t9,(r5 51 (by omega)).trans t51⟩
  ·right
   have hie:i=n/3:=by omega
   have c1:iLt (i:Int) ((n/3:Nat):Int)=false:=DJ (by omega);have hrun:∃ e2,Lf (call AC (m+7)) e' g=.exit 1 e2 g/\∀ j,j=10\/j=11\/j=2\/j=8\/j=9->J j e2=J j e':=by
    unfold Lf;simp only[sT,By,BY,reduceIte,AK,AJ,t52,t51,c1];refine⟨_,rfl,fun j hj=>?_⟩;rcases hj with rfl|rfl|rfl|rfl|rfl<;>simp only[AG,By,BY,reduceIte]
   obtain⟨e2,r1,r2⟩:=hrun;rw[r1];exact⟨rfl,e2,g,v,mv,ks,rfl,hie ▸ o,(r2 10 (by omega)).trans t10,(r2 11 (by omega)).trans t11,(r2 2 (by omega)).trans t2,(r2 8 (by omega)).trans t8,(r2 9 (by omega)).trans t9⟩
 obtain⟨e2,g2,v,mv,ks,q1,o,t10,t11,t2,t8,t9⟩:=ALw;have hkl:ks.length<=12:=by rw[<- OF (f:=Kt.core),o.cs];exact hl
 obtain⟨g3,k3,o3⟩:=kQ (m:=m) W o hkl hbs.2.1 hbs.2.2;have hC:=hI ks o.cs;have hcs:=o.cs;clear o;have hm3:∀ k,k∈EN ks↔k∈ks:=fun k=>Gh
 have hl3:(EN ks).length<=12:=by rw[IV];exact hkl
 have hn3:((EN ks).map Kt.key).Nodup:=((G6 ks).map Kt.key).nodup_iff.2 hC.2;generalize AJw:EN ks=ks3 at o3 hm3 hl3 hn3;have o4:=o3.ext (Hp.Ext.refl o3.x.wf).marked;have lb:=DK o4.rb;have old:∀ (kk:C) (F:AFi) (e:Env),JA (pt h1.next) kk F e g3.marked=kk F e g3.marked:=fun kk F e=>Dl (by
  show h1.next<g3.next;have:=o3.le;omega)
 obtain⟨g5,w,k5,x5,kw,kz⟩:=QE (m:=m+3) o4.x.wf.quiet (o4.ko.lst.same (h':=g3.marked.quiet) rfl) (by omega) (fun k hk=>(o4.ok k hk).1.vs.one.2.1) (fun x hx y hy=>hC.1 x ((hm3 x).1 hx) y ((hm3 y).1 hy)) fun i j x y hx hy hij ht=>absurd ((List.getElem?_inj (i:=i) (j:=j) (by rw[OF];exact(zG.1 hx).1) hn3).1 (by rw[zy,zy,hx,hy];obtain⟨e1,e2,e3,_⟩:=ht;show some (x.a,x.b,x.c)=some (y.a,y.b,y.c);rw[e1,e2,e3])) (by omega)
 have q5:∀ e:Env,J 10 e=v->Ad .weak (AU 76 [J 10]) (call AC (m+7)) e g3.marked=.ok w (g3.marked.back g5):=fun e he=>by
  refine Cp ?_ x5 (IT _);rw[BR,AV,A3,he];exact k5
 have y5:g3.marked.Ext (g3.marked.back g5):=.back x5;have kw5:(g3.marked.back g5).KO g3.marked.quiet.next w ks3:=kw.same rfl;generalize g3.marked.back g5=g6 at q5 y5 kw5;have o6:=o4.ext y5;have AKk:cellsOf w=[w]/\oneCell w=true:=⟨kw5.lst.one.1,kw5.lst.one.2.1⟩;obtain⟨g7,k7,AJx,n7,_,fx7,ex7⟩:=Mc o6.x.wf o6.row (off:=3) (show 3<7 by omega) big AKk.1 AKk.2;have x7:=ex7 h o6.x (IT _);have kp7:∀ b el L,b≠h.next->g6.Row b el L->g7.Row b el L:=fun b el L hb r=>fx7.row o6.x.wf r hb
 have AJx:g7.Row h.next 0 (slL bd tb w AFn (AGs T M (n/3)).length false):=AJx;have hk2:h2.next<=g3.marked.quiet.next:=o3.le;have ALx:∀ {u:IN} {xs:List IN},g6.Own h2.next 3 u xs->g7.Own h2.next 3 u xs:=fun o=>by
  rcases o with h1'|⟨b,h1',h2',h3',h4'⟩
  ·exact .inl h1'
  ·exact .inr ⟨b,h1',kp7 b _ _ (by omega) h2',h3',h4'⟩
 have ko7:g7.KO h2.next w ks3:=by
  rcases kw5 with h1'|⟨b,h1',h2',h3',h4'⟩
  ·exact .inl h1'
  ·exact .inr ⟨b,h1',kp7 b _ _ (by omega) h2',by omega,h4'⟩
 have p0:O2 h g7 (mrk T M (n/3)) h.next h1.next h2.next bd tb 0 (AGs T M (n/3)).length w mv AFn AFn ks3:=⟨x7,AJx,kp7 _ _ _ (by omega) o6.rb,ko7,fun k hk=>⟨(o6.ok k hk).1.keep fun b el L hb he r=>kp7 b el L (by have hb:h1.next<b:=hb;omega) r,(o6.ok k hk).2⟩,.inl ⟨rfl,rfl⟩,.inl ⟨rfl,rfl⟩,ALx o6.ms,fun b=>⟨fun h=>absurd h GQ,fun h=>absurd h GQ⟩,by rw[n7];exact o6.le⟩;have mid:∃ e3,Vx (call AC (m+7)) e2 g2=sx (call AC (m+7)) e3 g7/\J 9 e3=pt h1.next/\J 11 e3=mv/\J 17 e3=.func (.func 77) ⟨[]⟩ ⟨[pt h1.next]⟩/\J 18 e3=AFn/\J 102 e3=AI AT ((n/3:Nat):Int)/\J 103 e3=AI AT ((0:Nat):Int):=by
  unfold Vx;simp only[sT,By,BY,reduceIte,cA0,t10,k3,A1,ED,t9,old,DV,AM,AP,lb,q5,Ax,Al,AH,AN,If];rw[k7 _ _ _ _ (by simp[AG]) (by simp[AG])];simp only[sT,By,BY,reduceIte,cA0,DX,t9,t2,AKj,t8,Jt,dv];exact⟨_,rfl,by simp[AG,t9,t11]⟩
 obtain⟨e3,p3,u9,u11,u17,u18,ALy,ALz⟩:=mid;have AL0:∃ e' g fv ou,A9 Lg (call AC (m+7)) e3 g7=.exit 4 e' g/\O2 h g (mrk T M (n/3)) h.next h1.next h2.next bd tb (n/3) (AGs T M (n/3)).length w mv fv ou ks3/\J 9 e'=pt h1.next/\J 18 e'=ou:=by
  refine Bh (I:=fun i e' g=>∃ fv ou,O2 h g (mrk T M (n/3)) h.next h1.next h2.next bd tb i (AGs T M (n/3)).length w mv fv ou ks3/\i<=n/3/\J 9 e'=pt h1.next/\J 11 e'=mv/\J 17 e'=.func (.func 77) ⟨[]⟩ ⟨[pt h1.next]⟩/\J 18 e'=ou/\J 102 e'=AI AT ((n/3:Nat):Int)/\J 103 e'=AI AT (i:Int))
   (Q:=fun x=>∃ e' g fv ou,x=.exit 4 e' g/\O2 h g (mrk T M (n/3)) h.next h1.next h2.next bd tb (n/3) (AGs T M (n/3)).length w mv fv ou ks3/\J 9 e'=pt h1.next/\J 18 e'=ou) (n/3) (by omega) (fun i e' g ⟨fv,ou,o,hi,t9,t11,t17,t18,SN,Pc⟩=>?_) ⟨_,_,p0,zL _,u9,u11,u17,u18,ALy,ALz⟩
  by_cases hlt:i<n/3
  ·left
   have hml:(mrk T M (n/3)).length<=n/3:=Dx _ _;obtain⟨e2,g2,fv2,ou2,r1,o2,r2,r3,r4⟩:=bj (m:=m+1) W o hbs hlt (by omega) (by omega) (by omega) t9 t11 t17 t18 SN Pc;exact⟨hlt,e2,g2,r1,fv2,ou2,o2,hlt,(r4 9 (by omega)).trans t9,(r4 11 (by omega)).trans t11,(r4 17 (by omega)).trans t17,r2,(r4 102 (by omega)).trans SN,r3⟩
  ·right
   have hie:i=n/3:=by omega
   have c1:iLt (i:Int) ((n/3:Nat):Int)=false:=DJ (by omega);have hrun:∃ e2,Lg (call AC (m+7)) e' g=.exit 4 e2 g/\J 9 e2=pt h1.next/\J 18 e2=ou:=by
    unfold Lg;simp only[sT,By,BY,reduceIte,AK,AJ,Pc,SN,c1];exact⟨_,rfl,by simp[AG,t9,t18]⟩
   obtain⟨e2,r1,r2,r3⟩:=hrun;rw[r1];exact⟨rfl,e2,g,fv,ou,rfl,hie ▸ o,r2,r3⟩
 obtain⟨e4,g8,fv,ou,q8,o8,v9,v18⟩:=AL0;have W8:=o8.x.wf;have lt:=d.lt W;have nD:∀ b,h.next<b->¬ (⟨h.next,bd,bm,bc,tb,n⟩:At).D b:=fun b hb=>by
  rintro (h1|h1|h1|h1)
  ·have h1:b=h.next:=h1
   omega
  ·have h1:b=bd:=h1
   omega
  ·have h1:b=bm:=h1
   omega
  ·have h1:b=bc:=h1
   omega
 have hbl:(AGs T M (n/3)).length<=n/3:=Dx _ _;have hfl:(AGh ks3 (n/3)).length<=n/3:=Dx _ _;have hol:(AHl ks3 (mrk T M (n/3)) (n/3)).length<=n/3:=Dx _ _;have AML:=Rt.lt W;have sl:Sl g8 ⟨h.next,bd,bm,bc,tb,n⟩ T M c0 arm ks3 (AGh ks3 (n/3)) w fv (AGs T M (n/3)).length false:=by
  refine⟨o8.row,d.ext W o8.x,Rt.ext W o8.x,hT,?_,fun k hk=>⟨(o8.ok k hk).1.mono fun b hb=>nD b (by have hb:h1.next<b:=hb;omega),(o8.ok k hk).2⟩,?_,⟨by show h.next≠bd;omega,by show h.next≠bm;omega,by show h.next≠bc;omega,?_,big⟩,⟨by omega,by omega,by omega,fun p hp=>?_⟩⟩
  ·refine Hp.KW.ks ?_
   rcases o8.ko with h1'|⟨b,h1',h2',h3',_⟩
   ·exact .inl h1'
   ·exact .inr ⟨b,h1',h2',nD b (by omega)⟩
  ·rcases o8.fs with h1'|⟨b,h1',h2',h3',_⟩
   ·exact .inl h1'
   ·exact .inr ⟨b,4,h1',h2',.inl rfl,nD b (by omega)⟩
  ·rintro (h1|h1|h1|h1)
   ·have h1:tb=h.next:=h1
    omega
   ·exact htb.1 h1
   ·exact htb.2.1 h1
   ·exact htb.2.2 h1
  ·have:=AAM.1 (zQ.1 hp).1
   show 3*p+3<=n;omega
 obtain⟨g9,c9,AHt,k9,f9,s9',a9⟩:=LB (m:=m+1) (k:=k) W8 sl (ps:=AHl ks3 (mrk T M (n/3)) (n/3)) (pv:=ou) o8.os.vals (fun p hp=>by
  have:=AAM.1 (zQ.1 hp).1;show 3*p+3<=n;omega) (ABG.filter _) (by omega) (ha.le (by omega))
 have lb8:=DK o8.rb;have c0':iNe 0 0=false:=CH rfl;have lb9:=DK (f9.row W8 o8.rb (by
  rintro (q|q|q)
  ·have q:h1.next=bd:=q
   omega
  ·have q:h1.next=bm:=q
   omega
  ·have q:h1.next=bc:=q
   omega))
 have k9:call AC (m+7) 81 [pt h.next,ou] g8=.ok (AI AT 0) g9:=k9;refine⟨g9,h.next,c9,AHt,w,fv,ks3,ks,?_,(Fx.of o8.x).trans f9,s9',hcs,AJw.symm,IT _,a9⟩;rw[pS rfl,qe,p1,jv];simp only[BJ,Az,q1,BD,BA];rw[ju,p3,jw];simp only[BJ,Az,q8,BD,BA];unfold su;simp only[sT,By,BY,reduceIte,AM,AP,v9,lb8,cA0,v18,k9,AK,AJ,c0',lb9,BI,DH]
end
end
noncomputable section
open Go
set_option maxRecDepth 100000
structure AHA (np:Nat)(T M:List Nat)(ks:List Kt)(fr:List Nat):Prop where
 len:M.length=64*(3*np)
 hd:∀ k∈ks,sec M (3*k.p)=AF8 T k.a k.b k.c k.s k.l
 dt:∀ k∈ks,dat M k.p k.l.length=k.l
 bl:∀ p∈fr,∀ r,r<64->M.getD (64*(3*p)+r) 0=0
 rs:∀ k∈ks,AFx k.a k.b k.c k.s k.l.length=true/\k.l.length<=100
 pl:∀ p∈fr,p<np
abbrev Med(T M:List Nat)(ks:List Kt)(fr:List Nat):Prop:=AHA 8 T M ks fr
def Com(ks:List Kt):Prop:=∀ x∈ks,∀ y∈ks,y.a=x.a->y.b=x.b->y.s=2->y.c<=x.c
section
variable {T M M':List Nat}{ks ks':List Kt}{fr fr' ps:List Nat}{kd a b c:Int}{l H:List Nat}{n p q k np:Nat}
theorem NJ(h1:M'.length=M.length)(h:∀ x,x/64=q->M'.getD x 0=M.getD x 0):sec M' q=sec M q:=by
 have hl:∀ M:List Nat,(sec M q).length=min 64 (M.length - 64*q):=fun M=>by unfold sec;rw[zJ,zl]
 refine JU (by rw[hl,hl,h1]) fun i hi=>?_
 rw[hl]at hi;rw[J1 (by omega),J1 (by omega),h _ (by omega)]
theorem JS(h1:M'.length=M.length)(hk:k<=128)(h:∀ x,x/64=3*p+1\/x/64=3*p+2->M'.getD x 0=M.getD x 0):dat M' p k=dat M p k:=by
 have hl:∀ M:List Nat,(dat M p k).length=min k (M.length - 64*(3*p+1)):=fun M=>by unfold dat;rw[zJ,zl]
 refine JU (by rw[hl,hl,h1]) fun i hi=>?_
 rw[hl]at hi;rw[MT (by omega),MT (by omega),h _ (by omega)]
theorem Tf(h1:M.length=64*n)(hq:q<n)(hH:H.length=64)(h:∀ r,r<64->M.getD (64*q+r) 0=H.getD r 0):sec M q=H:=by
 have hl:=J2 h1 hq;refine JU (by rw[hl,hH]) fun i hi=>?_
 rw[J1 (by omega),h i (by omega)]
theorem qq(h1:M.length=64*n)(hp:3*p+3<=n)(hl:l.length<=128)(h:∀ r,r<l.length->M.getD (64*(3*p+1)+r) 0=l.getD r 0):dat M p l.length=l:=by
 have hd:(dat M p l.length).length=l.length:=by unfold dat;rw[zJ,zl];omega
 refine JU hd fun i hi=>?_
 rw[hd]at hi;rw[MT hi,h i hi]
theorem Zw(hM:M.length=64*n)(hp:3*p+3<=n)(hl:l.length<=100)(hH:H.length=64):
  (D5 T M p l H).length=64*n/\sec (D5 T M p l H) (3*p)=H/\dat (D5 T M p l H) p l.length=l/\∀ x,x/192≠p->(D5 T M p l H).getD x 0=M.getD x 0:=by
 rcases Nat.eq_zero_or_pos l.length with h0|h0
 ·obtain rfl:=List.eq_nil_of_length_eq_zero h0
  have e:D5 T M p [] H=IZ M (p*3) H:=rfl;have hL:=DY hM (show p*3<n by omega) hH;rw[e];refine⟨hL,Tf hL (by omega) hH fun r hr=>?_,List.take_zero,fun x hx=>?_⟩
  ·rw[Ea hM (by omega) hH,if_pos (by omega),show(64*(3*p)+r) % 64=r by omega]
  ·rw[Ea hM (by omega) hH,if_neg (by omega)]
 ·obtain⟨hL,hx⟩:=Zx (T:=T) hM hp ⟨h0,hl⟩ hH
  refine⟨hL,Tf hL (by omega) hH fun r hr=>?_,qq hL hp (by omega) fun r hr=>?_,fun x hn=>?_⟩
  ·rw[hx,if_pos (by omega),show(64*(3*p)+r) % 64=r by omega]
  ·rw[hx,if_neg (by omega)]
   by_cases h1:r<64
   ·rw[if_pos (by omega),show(64*(3*p+1)+r) % 64=r by omega]
   ·rw[if_neg (by omega),if_pos ⟨by omega,by omega⟩,show 64+(64*(3*p+1)+r) % 64=r by omega]
  ·rw[hx,if_neg (by omega),if_neg (by omega),if_neg (by omega)]
theorem cq:∀ (ps:List Nat) {M:List Nat},M.length=64*n->(∀ p∈ps,3*p+3<=n)->(G9 M ps).length=64*n/\∀ x,(G9 M ps).getD x 0=if x % 192<64/\x/192∈ps then 0 else M.getD x 0
 |[],M,hM,_=>⟨hM,fun x=>by rw[if_neg (fun h=>by cases h.2)];rfl⟩
 |p::ps,M,hM,hp=>by
  have h3:=hp p yk;have e:G9 M (p::ps)=G9 (IZ M (p*3) Bj) ps:=rfl;have hz:Bj.length=64:=List.length_replicate;have hL:=DY hM (show p*3<n by omega) hz;obtain⟨g1,g2⟩:=cq ps hL fun q hq=>hp q (yj _ hq)
  rw[e];refine⟨g1,fun x=>?_⟩;rw[g2,Ea hM (by omega) hz];by_cases h1:x % 192<64/\x/192∈ps
  ·rw[if_pos h1,if_pos ⟨h1.1,yj _ h1.2⟩]
  ·rw[if_neg h1]
   by_cases h2:x/64=p*3
   ·rw[if_pos h2,if_pos ⟨by omega,by rw[show x/192=p by omega];exact yk⟩]
    unfold Bj;exact Ri
   ·rw[if_neg h2,if_neg]
    rintro⟨q1,q2⟩;rcases yv.1 q2 with q2|q2
    ·omega
    ·exact h1 ⟨q1,q2⟩
theorem Nu:∀ (out:List Kt) (M:List Nat),Ig M out=G9 M (out.map Kt.plc)
 |[],_=>rfl
 |x::out,M=>Nu out (G9 M [x.p])
theorem AHA.cut(m:AHA np T M ks fr)(hs:∀ k∈ks',k∈ks/\k.p∉ps)(hf:∀ p∈fr',p∈fr\/p∈ps)(hp:∀ p∈ps,3*p+3<=3*np):AHA np T (G9 M ps) ks' fr':=by
 obtain⟨g1,g2⟩:=cq ps m.len hp;have hn:∀ k∈ks',∀ x,x/192=k.p->(G9 M ps).getD x 0=M.getD x 0:=fun k hk x hx=>by
  rw[g2,if_neg];rintro⟨_,q2⟩;rw[hx]at q2;exact(hs k hk).2 q2
 refine⟨g1,fun k hk=>?_,fun k hk=>?_,fun p hp r hr=>?_,fun k hk=>m.rs k (hs k hk).1,fun p hp'=>?_⟩
 ·rw[NJ (g1.trans m.len.symm) fun x hx=>hn k hk x (by omega)]
  exact m.hd k (hs k hk).1
 ·rw[JS (g1.trans m.len.symm) (by have:=(m.rs k (hs k hk).1).2;omega) fun x hx=>hn k hk x (by omega)]
  exact m.dt k (hs k hk).1
 ·rw[g2]
  by_cases h1:(64*(3*p)+r) % 192<64/\(64*(3*p)+r)/192∈ps
  ·rw[if_pos h1]
  ·rw[if_neg h1]
   rcases hf p hp with h|h
   ·exact m.bl p h r hr
   ·exact absurd ⟨by omega,by rw[show(64*(3*p)+r)/192=p by omega];exact h⟩ h1
 ·rcases hf p hp' with h|h
  ·exact m.pl p h
  ·have:=hp p h;omega
theorem AHA.go(m:AHA np T M ks fr)(i:AGy np ks fr)(P:Kt->Bool){out:List Kt}(ho:out.Perm (ks.filter P)):AHA np T (G9 M (out.map Kt.plc)) (ks.filter fun k=> !P k) (frE fr out):=by
 refine m.cut (fun k hk=>?_) (fun p hp=>?_) fun p hp=>?_
 ·obtain⟨h1,h2⟩:=zQ.1 hk
  refine⟨h1,fun hp=>?_⟩;obtain⟨y,hy,hyp⟩:=zq.1 hp;obtain⟨h3,h4⟩:=zQ.1 (ho.mem_iff.1 hy);rw[FU i.nd h3 h1 hyp]at h4;rw[h4]at h2;cases h2
 ·have:=(Jc out fr).mem_iff.1 hp
  exact zK.1 this
 ·obtain⟨y,hy,rfl⟩:=zq.1 hp
  exact i.lt y (zQ.1 (ho.mem_iff.1 hy)).1
theorem SM(hc:Com ks)(hst:CA a b c ks=false):∀ y∈ks,y.a=a->y.b=b->y.s=2->y.c<c:=fun y hy h1 h2 h3=>by
 unfold CA at hst;cases hf:ks.find? (HO a b)with
 |none=>
  refine absurd ?_ (List.find?_eq_none.1 hf y hy);unfold HO;rw[decide_eq_true h1,decide_eq_true h2,decide_eq_true h3];rfl
 |some k=>
  rw[hf]at hst;have hk:=ACB hf;unfold HO at hk;rw[yr,yr]at hk;have k1:=of_decide_eq_true hk.1.1;have k2:=of_decide_eq_true hk.1.2;have k3:=of_decide_eq_true hk.2;have hkm:=ACx hf;have:=hc k hkm y hy (h1.trans k1.symm) (h2.trans k2.symm) h3;have h4:¬ c<=k.c:=of_decide_eq_false hst;omega
theorem mem_set{x y z:Kt}{j:Nat}(hj:ks[j]? =some x)(hz:z∈ks.set j y):z=y\/z∈ks:=(List.mem_or_eq_of_mem_set hz).symm
theorem kJ{x y z:Kt}{j:Nat}(hj:ks[j]? =some x)(hz:z∈ks)(hne:z≠x):z∈ks.set j y:=by
 obtain⟨i,hi⟩:=AB9.1 hz;refine AB9.2 ⟨i,?_⟩;rw[List.getElem?_set,if_neg]
 ·exact hi
 ·intro h
  rw[<- h,hj]at hi;exact hne (Option.some.inj hi).symm
theorem Ew{x y:Kt}(h:x.core=y.core):x.a=y.a/\x.b=y.b/\x.c=y.c/\x.s=y.s/\x.l=y.l/\x.p=y.p:=⟨congrArg Kc.a h,congrArg Kc.b h,congrArg Kc.c h,congrArg Kc.s h,congrArg Kc.l h,congrArg Kc.p h⟩
theorem KB(i:AGy np ks fr)(m:AHA np T M ks fr)(hc:Com ks)(t:Pn T M ks fr kd a b c l M' ks' fr'):AHA np T M' ks' fr'/\Com ks'/\(∀ k,¬ (k.a=a/\k.b=b)->(k∈ks'↔k∈ks)):=by
 rcases t with ⟨hk,hz,p,k',rfl,rfl,hcr,rfl⟩|⟨hk,j,kx,hj,AGw,hst,rfl,rfl,rfl⟩|⟨rfl,j,kx,hj,AGw,hst,rfl,rfl,rfl⟩|⟨rfl,rfl,rfl,rfl⟩
 ·unfold Fk at hz
  split at hz
  ·cases hz
  rename_i hn;split at hz
  ·split at hz<;>cases hz
  split at hz
  ·cases hz
  rename_i hst;have AH1:CA a b c ks=false:=by
   cases hq:CA a b c ks
   ·rfl
   ·exact absurd hq hst
  have hr:AFx a b c 1 l.length=true:=by
   cases hq:AFx a b c 1 l.length
   ·exact absurd (.inl hq) hn
   ·rfl
  have AHs:l.length<=100:=Nat.le_of_not_lt fun h=>hn (.inr h)
  have e1:k'.a=a:=congrArg Kc.a hcr;have e2:k'.b=b:=congrArg Kc.b hcr;have e3:k'.c=c:=congrArg Kc.c hcr;have e4:k'.s=1:=congrArg Kc.s hcr;have e5:k'.l=l:=congrArg Kc.l hcr;have e6:k'.p=p:=congrArg Kc.p hcr;have hp8:=m.pl p yk;obtain⟨g1,g2,g3,g4⟩:=Zw (T:=T) (p:=p) (H:=AF8 T a b c 1 l) m.len (by omega) AHs (GY hr);have hnd:(ks.map Kt.plc++(p::fr')).Nodup:=i.plc.nodup_iff.2 ABG;have hmem:∀ k,k∈EN (ks++[k'])↔k∈ks\/k=k':=fun k=>by rw[Gh,zK,zB]
  have hkp:∀ k∈ks,k.p≠p:=fun k hk h=>(ABI.1 hnd).2.2 k.p (zq.2 ⟨k,hk,rfl⟩) p yk h
  have hfp:∀ q∈fr',q≠p:=fun q hq h=>(ABH.1 (ABI.1 hnd).2.1).1 (h ▸ hq)
  have hs:∀ k∈ks,∀ x,x/192=k.p->(D5 T M p l (AF8 T a b c 1 l)).getD x 0=M.getD x 0:=fun k hk x hx=>g4 x (by rw[hx];exact hkp k hk)
  refine⟨⟨g1,fun k hk=>?_,fun k hk=>?_,fun q hq r hr=>?_,fun k hk=>?_,fun q hq=>m.pl q (yj _ hq)⟩,fun x hx y hy h1 h2 h3=>?_,fun k hne=>?_⟩
  ·rcases (hmem k).1 hk with hk|rfl
   ·rw[NJ (g1.trans m.len.symm) fun x hx=>hs k hk x (by omega)]
    exact m.hd k hk
   ·rw[e6,g2,e1,e2,e3,e4,e5]
  ·rcases (hmem k).1 hk with hk|rfl
   ·rw[JS (g1.trans m.len.symm) (by have:=(m.rs k hk).2;omega) fun x hx=>hs k hk x (by omega)]
    exact m.dt k hk
   ·rw[e6,e5,g3]
  ·rw[g4 _ (by have:=hfp q hq;omega)]
   exact m.bl q (yj _ hq) r hr
  ·rcases (hmem k).1 hk with hk|rfl
   ·exact m.rs k hk
   ·rw[e1,e2,e3,e4,e5];exact⟨hr,AHs⟩
  ·rcases (hmem y).1 hy with hyk|hyk
   ·rcases (hmem x).1 hx with hxk|hxk
    ·exact hc x hxk y hyk h1 h2 h3
    ·rw[hxk]at h1 h2 ⊢
     have:=SM hc AH1 y hyk (h1.trans e1) (h2.trans e2) h3;rw[e3];omega
   ·rw[hyk]at h3
    omega
  ·rw[hmem]
   refine⟨fun h=>h.resolve_right fun h1=>hne (by rw[h1];exact⟨e1,e2⟩),.inl⟩
 ·have hjl:=(zG.1 hj).1
  have hkm:=yz hj;obtain⟨rfl,rfl,rfl⟩:=AGw;have hp3:=i.lt kx hkm;have hr0:=m.rs kx hkm;have hr2:AFx kx.a kx.b kx.c 2 kx.l.length=true:=by
   obtain⟨g1,g2,g3,g4,g5,g6,g7,g8⟩:=EL hr0.1;exact decide_eq_true ⟨g1,g2,g3,g4,g5,g6,.inr rfl,g8⟩
  obtain⟨g1,g2⟩:=Zd m.len (p:=kx.p) hp3 (GY (T:=T) hr2);have i2:=i.set (y:={kx with s:=2}) hj rfl rfl;have AGJ:∀ z∈ks.set j {kx with s:=2},z={kx with s:=2}\/(z∈ks/\z.p≠kx.p):=fun z hz=>by
   rcases mem_set hj hz with h|h
   ·exact .inl h
   ·by_cases hzp:z.p=kx.p
    ·have hX:({kx with s:=2}:Kt)∈ks.set j {kx with s:=2}:=List.mem_set hjl _
     exact .inl (FU i2.nd hz hX hzp)
    ·exact .inr ⟨h,hzp⟩
  have hs:∀ z∈ks,z.p≠kx.p->∀ x,x/192=z.p->(HI M kx.p (AF8 T kx.a kx.b kx.c 2 kx.l)).getD x 0=M.getD x 0:=fun z hz hzp x hx=>by rw[g2,if_neg (by omega)]
  have m2:AHA np T (HI M kx.p (AF8 T kx.a kx.b kx.c 2 kx.l)) (ks.set j {kx with s:=2}) fr:=by
   refine⟨g1,fun k hk=>?_,fun k hk=>?_,fun q hq r hr=>?_,fun k hk=>?_,m.pl⟩
   ·rcases AGJ k hk with rfl|⟨h1,h2⟩
    ·exact Tf g1 (by show 3*kx.p<3*np;omega) (GY hr2) fun r hr=>by rw[g2,if_pos (show(64*(3*kx.p)+r)/64=3*kx.p by omega),show(64*(3*kx.p)+r) % 64=r by omega]
    ·rw[NJ (g1.trans m.len.symm) fun x hx=>hs k h1 h2 x (by omega)]
     exact m.hd k h1
   ·rcases AGJ k hk with rfl|⟨h1,h2⟩
    ·show dat _ kx.p kx.l.length=kx.l
     rw[JS (g1.trans m.len.symm) (by omega) fun x hx=>by rw[g2,if_neg (by omega)]];exact m.dt kx hkm
    ·rw[JS (g1.trans m.len.symm) (by have:=(m.rs k h1).2;omega) fun x hx=>hs k h1 h2 x (by omega)]
     exact m.dt k h1
   ·have hnd:(ks.map Kt.plc++fr).Nodup:=i.plc.nodup_iff.2 ABG
    have hqk:kx.p≠q:=(ABI.1 hnd).2.2 kx.p (zq.2 ⟨kx,hkm,rfl⟩) q hq;rw[g2,if_neg (by omega)];exact m.bl q hq r hr
   ·rcases AGJ k hk with rfl|⟨h1,h2⟩
    ·exact⟨hr2,hr0.2⟩
    ·exact m.rs k h1
  have m3:=m2.go i2 (elB kx.a kx.b kx.c) (out:=(ks.set j {kx with s:=2}).filter (elB kx.a kx.b kx.c)) (.refl _);refine⟨m3,fun x hx y hy h1 h2 h3=>?_,fun k hne=>?_⟩
  ·obtain⟨hx1,hx2⟩:=zQ.1 hx
   obtain⟨hy1,hy2⟩:=zQ.1 hy;rcases AGJ y hy1 with rfl|⟨hy3,hy4⟩
   ·refine Int.not_lt.1 fun hlt=>?_
    have hlt:x.c<kx.c:=hlt;have h1:kx.a=x.a:=h1;have h2:kx.b=x.b:=h2;unfold elB at hx2;rw[decide_eq_true h1.symm,decide_eq_true h2.symm,decide_eq_true hlt]at hx2;cases hx2
   ·rcases AGJ x hx1 with rfl|⟨hx3,hx4⟩
    ·have h1:y.a=kx.a:=h1
     have h2:y.b=kx.b:=h2;have hlt:=SM hc hst y hy3 h1 h2 h3;unfold elB at hy2;rw[decide_eq_true h1,decide_eq_true h2,decide_eq_true hlt]at hy2;cases hy2
    ·exact hc x hx3 y hy3 h1 h2 h3
  ·rw[zQ]
   constructor
   ·rintro⟨h1,_⟩
    rcases AGJ k h1 with rfl|⟨h2,_⟩
    ·exact absurd ⟨rfl,rfl⟩ hne
    ·exact h2
   ·intro h1
    refine⟨kJ hj h1 fun h=>hne (by rw[h];exact⟨rfl,rfl⟩),?_⟩;cases hq:elB kx.a kx.b kx.c k
    ·rfl
    ·unfold elB at hq
     rw[yr,yr]at hq;exact absurd ⟨of_decide_eq_true hq.1.1,of_decide_eq_true hq.1.2⟩ hne
 ·obtain⟨AHG,hPl⟩:=PJ hj
  obtain⟨rfl,rfl,rfl⟩:=AGw;have hkm:=yz hj;have hp3:=i.lt kx hkm;have hnd:=i.nd;have hsub:∀ k∈ks.take j++ks.drop (j+1),k∈ks/\k.p≠kx.p:=fun k hk=>by
   have hkk:k∈ks:=by
    rcases zK.1 hk with h|h
    ·exact AAN h
    ·exact ABZ h
   refine⟨hkk,fun hp=>?_⟩;have e:=FU hnd hkk hkm hp;rw[AHG]at hnd;have pm:(ks.take j++kx::ks.drop (j+1)).Perm (kx::(ks.take j++ks.drop (j+1))):=List.perm_middle;have kn:=(pm.map Kt.plc).nodup_iff.1 hnd;rw[ABV,ABH]at kn;exact kn.1 (zq.2 ⟨k,hk,hp⟩)
  refine⟨m.cut (fun k hk=>⟨(hsub k hk).1,fun h=>(hsub k hk).2 (zB.1 h)⟩) (fun p hp=>zK.1 ((G7 _).mem_iff.1 hp)) (fun p hp=>by rw[zB.1 hp];exact hp3),fun x hx y hy=>hc x (hsub x hx).1 y (hsub y hy).1,fun k hne=>⟨fun h=>(hsub k h).1,fun h=>?_⟩⟩;rw[AHG]at h;rcases zK.1 h with h|h
  ·exact List.mem_append_left _ h
  ·rcases yv.1 h with h|h
   ·exact absurd ⟨by rw[h],by rw[h]⟩ hne
   ·exact List.mem_append_right _ h
 ·refine⟨by rw[Nu];exact m.go i (drB a b c) (List.reverse_perm _),fun x hx y hy=>hc x (zQ.1 hx).1 y (zQ.1 hy).1,fun k hne=>?_⟩
  rw[zQ];refine⟨fun h=>h.1,fun h=>⟨h,?_⟩⟩;cases hq:drB a b c k
  ·rfl
  ·unfold drB at hq
   rw[yr,yr]at hq;exact absurd ⟨of_decide_eq_true hq.1.1,of_decide_eq_true hq.1.2⟩ hne
end
end
noncomputable section
open Go
set_option maxRecDepth 100000
theorem aF{F:Nat->Option Kc}:∀ {ks:List Kt},(∀ k∈ks,F k.p=some k.core)->(ks.map Kt.plc).filterMap F=ks.map Kt.core
 |[],_=>rfl
 |k::ks,h=>by
  show(k.p::ks.map Kt.plc).filterMap F=_;rw[List.filterMap_cons_some (h k yk),aF fun x hx=>h x (yj _ hx),ABV]
theorem VD{F:Nat->Option Kc}:∀ {fr:List Nat},(∀ p∈fr,F p=none)->fr.filterMap F=[]
 |[],_=>rfl
 |p::fr,h=>by rw[List.filterMap_cons_none (h p yk),VD fun x hx=>h x (yj _ hx)]
def wF(c:Kc):Int×Int×Int:=(c.a,c.b,c.c)
theorem Vi(ks:List Kt):ks.map Kt.key=(ks.map Kt.core).map wF:=by rw[List.map_map];rfl
theorem D4{ks ks0:List Kt}(pm:(ks0.map Kt.core).Perm (ks.map Kt.core)){x:Kt}(hx:x∈ks0):∃ y∈ks,y.core=x.core:=zq.1 (pm.mem_iff.1 (zq.2 ⟨x,hx,rfl⟩))
section
variable {h h' h0:Hp}{T M:List Nat}{c0 m k p bl bd bm bc tb np:Nat}{arm:Int}{ks ks0:List Kt}{fr:List Nat}{lv fv:IN}
theorem AHA.find(i:AGy np ks fr)(md:AHA np T M ks fr):(kcs T M np).Perm (ks.map Kt.core)/\AGs T M np=[]/\∀ p∈mrk T M np,∃ k∈ks,k.p=p:=by
 have hold:=fun (k:Kt) (hk:k∈ks)=>Qd (p:=k.p) (md.rs k hk).1 (md.rs k hk).2 (md.hd k hk) (md.dt k hk)
 have AJC:=fun (p:Nat) (hp:p∈fr)=>Z7 (T:=T) md.len (show 3*p<3*np by have:=md.pl p hp;omega) (md.bl p hp)
 have hall:∀ p∈List.range np,(∃ k∈ks,k.p=p)\/p∈fr:=fun p hp=>by
  rcases zK.1 (i.plc.mem_iff.2 hp)with h|h
  ·obtain⟨k,hk,hkp⟩:=zq.1 h
   exact .inl ⟨k,hk,hkp⟩
  ·exact .inr h
 refine⟨?_,ADL.2 fun p hp hb=>?_,fun p hp=>?_⟩
 ·have h1:(kcs T M np).Perm ((ks.map Kt.plc++fr).filterMap fun p=>(lkN T M p).map (Xy M p)):=by
   unfold kcs;exact(i.plc.symm).filterMap _
  rw[List.filterMap_append,aF (fun k hk=>by
   obtain⟨_,h2,h3,_⟩:=hold k hk;rw[h2];exact congrArg some h3),VD (fun p hp=>by rw[(AJC p hp).1];rfl),yw]at h1
  exact h1
 ·rcases hall p hp with ⟨k,hk,rfl⟩|h
  ·rw[(hold k hk).2.2.2]at hb;cases hb
  ·rw[(AJC p h).2]at hb;cases hb
 ·obtain⟨h1,h2⟩:=zQ.1 hp
  rcases hall p h1 with h|h
  ·exact h
  ·rw[(AJC p h).1,(AJC p h).2]at h2
   cases h2
theorem AHA.cnt(i:AGy np ks fr)(md:AHA np T M ks fr)(hc:Com ks)(h0:ks0.map Kt.core=kcs T M np):Cnt ks0:=by
 have pm:(ks0.map Kt.core).Perm (ks.map Kt.core):=by rw[h0];exact(md.find i).1
 refine⟨fun x hx y hy hh=>?_,by rw[Vi];exact(pm.map wF).nodup_iff.2 (by rw[<- Vi];exact i.key)⟩;obtain⟨x',hx',ex⟩:=D4 pm hx;obtain⟨y',hy',ey⟩:=D4 pm hy;obtain⟨x1,x2,x3,x4,x5,x6⟩:=Ew ex;obtain⟨y1,y2,y3,y4,y5,y6⟩:=Ew ey;obtain⟨g1,g2,g3,g4,g5⟩:=hh;have hle:=hc x' hx' y' hy' (by rw[y1,x1,g1]) (by rw[y2,x2,g2]) (by rw[y4,g4]);have hcc:y'.c=x'.c:=by
  rw[y3,x3]at hle ⊢;rcases g5 with g5|g5
  ·omega
  ·exact g5.1
 have:=FU i.key hy' hx' (by
  show(y'.a,y'.b,y'.c)=(x'.a,x'.b,x'.c);rw[hcc,y1,x1,g1,y2,x2,g2])
 rw[this]at y6;exact g3 (y6.symm.trans x6)
theorem RK(W:h.Wf)(d:Dk h bd bm bc 24 M c0 [] arm false)(Rt:h.Row tb 0 (T.map wv))(hT:AGc T)(htb:tb≠bd/\tb≠bm/\tb≠bc)(i:uB ks fr)(md:Med T M ks fr)(hc:Com ks)(ha:CB arm (k+60)):
  ∃ h' bs c1 AGB lv fv ks3,call AC (m+8) 47 [pt bd,pt tb,AI AT 100] h=.ok (.tuple ⟨[pt bs,AI AT 0]⟩) h'/\Fx (fun b=>b=bd\/b=bm\/b=bc) h h'/\
   Sl h' ⟨bs,bd,bm,bc,tb,24⟩ T M c1 AGB ks3 (AGh ks3 8) lv fv 0 false/\(ks3.map Kt.core).Perm (ks.map Kt.core)/\h.next<=bs/\CB AGB k:=by
 obtain⟨z1,z2,z3⟩:=md.find i;have hlen:(kcs T M (24/3)).length<=12:=by
  show(kcs T M 8).length<=12;have:=i.len;rw[z1.length_eq,OF];omega
 obtain⟨h',bs,c1,AGB,lv,fv,ks3,ks0,k1,f1,s1,AJy,AJw,hbs,a1⟩:=bo (m:=m) (k:=k) W d Rt hT (by omega) htb (fun ks0 h0=>md.cnt i hc h0) hlen ha;have AJy:ks0.map Kt.core=kcs T M 8:=AJy;have pm:(ks3.map Kt.core).Perm (ks.map Kt.core):=by
  rw[AJw];exact((G6 ks0).map Kt.core).trans (by rw[AJy];exact z1)
 have ho:AHl ks3 (mrk T M 8) 8=[]:=ADL.2 fun p hp hb=>by
  rw[yr]at hb;obtain⟨k,hk,hkp⟩:=z3 p (of_decide_eq_true hb.2);obtain⟨y,hy,ey⟩:=D4 pm.symm hk;have hyp:=(Ew ey).2.2.2.2.2;have:(ks3.any fun x=>decide (x.p=p))=true:=List.any_eq_true.2 ⟨y,hy,decide_eq_true (hyp.trans hkp)⟩;rw[this]at hb;cases hb.1
 have s1:Sl h' ⟨bs,bd,bm,bc,tb,24⟩ T (G9 M (AHl ks3 (mrk T M 8) 8)) c1 AGB ks3 (AGh ks3 8) lv fv (AGs T M 8).length false:=s1;rw[ho,z2]at s1;exact⟨h',bs,c1,AGB,lv,fv,ks3,k1,f1,s1,pm,hbs,a1⟩
def H33(one two:List Nat)(ks:List Kt):Prop:=(∃ k∈ks,k.a=3/\k.b=3/\k.c=5/\k.s=2/\k.l=one)/\(∃ k∈ks,k.a=3/\k.b=3/\k.c=8/\k.s=1/\k.l=two)/\∀ k∈ks,k.a=3->k.b=3->k.c=5\/k.c=8
theorem AHA.AJz(md:AHA np T M ks fr){x:Kt}(hx:x∈ks):Y0 T M x:=by
 obtain⟨h1,_,h3,_⟩:=Qd (p:=x.p) (md.rs x hx).1 (md.rs x hx).2 (md.hd x hx) (md.dt x hx);have h4:Xy M x.p _=x.core:=h3;exact⟨_,h1,congrArg Kc.a h4,congrArg Kc.b h4,congrArg Kc.c h4,congrArg Kc.s h4,congrArg Kc.l h4⟩
end
end
noncomputable section
open Go
set_option maxRecDepth 100000
def Stp(T:List Nat)(ks:List Kt)(fr:List Nat)(kd a b c:Int)(l:List Nat)(z:Int)(ks':List Kt)(fr':List Nat):Prop:=
 (lM ks fr.length kd a b c l z/\ks'=ks/\fr'=fr)\/(z=0/\∃ M M',Pn T M ks fr kd a b c l M' ks' fr')
def UpX(X:Nat->Prop)(h:Hp)(A:At)(T:List Nat)(ks:List Kt)(fr:List Nat)(k:Nat):Prop:=
 (∃ M c0 arm lv fv,Sl h A T M c0 arm ks fr lv fv 0 false/\AGy 8 ks fr/\AHA 8 T M ks fr/\Com ks/\CB arm k)/\∀ x∈ks,∀ b,AGA x.u b->¬ X b
section
variable {e:Env}{h h':Hp}{S X:Nat->Prop}{A:At}{T M:List Nat}{c0 m k n r:Nat}{arm a b c z kd:Int}{ks ks':List Kt}{fr fr' l:List Nat}{lv fv u:IN}{x:Kt}
theorem Pa(s:Stp T ks fr kd a b c l z ks' fr'):z≠120:=by
 rcases s with ⟨q,_⟩|⟨rfl,_⟩
 ·rcases q with ⟨_,e⟩|⟨_,e⟩|⟨_,e⟩|⟨_,_,e⟩|⟨_,_,_,_,_,e⟩
  ·unfold Fk at e
   split at e
   ·cases e;omega
   ·split at e
    ·split at e<;>cases e<;>omega
    ·split at e
     ·cases e;omega
     ·split at e<;>cases e<;>omega
  ·unfold Ie at e
   split at e
   ·split at e
    ·cases e;omega
    ·split at e<;>cases e<;>omega
   ·split at e<;>cases e<;>omega
  ·unfold abE at e
   split at e
   ·cases e;omega
   ·split at e<;>cases e<;>omega
  ·omega
  ·omega
 ·omega
theorem UpX.le(U:UpX X h A T ks fr k)(hk:n<=k):UpX X h A T ks fr n:=by
 obtain⟨⟨M,c0,arm,lv,fv,s,iv,md,hc,ha⟩,hx⟩:=U;exact⟨⟨M,c0,arm,lv,fv,s,iv,md,hc,ha.le hk⟩,hx⟩
theorem UpX.ext(U:UpX X h A T ks fr k)(W:h.Wf)(y:h.Ext h'):UpX X h' A T ks fr k:=by
 obtain⟨⟨M,c0,arm,lv,fv,s,q⟩,hx⟩:=U;exact⟨⟨M,c0,arm,lv,fv,s.ext W y,q⟩,hx⟩
theorem UpX.same(U:UpX X h A T ks fr k)(hb:h'.bl=h.bl):UpX X h' A T ks fr k:=by
 obtain⟨⟨M,c0,arm,lv,fv,s,q⟩,hx⟩:=U;exact⟨⟨M,c0,arm,lv,fv,s.same hb,q⟩,hx⟩
theorem UpX.more(U:UpX X h A T ks fr k)(W:h.Wf)(hr:h.next<=r):UpX (fun b=>X b\/b=r) h A T ks fr k:=by
 obtain⟨⟨M,c0,arm,lv,fv,s,q⟩,hx⟩:=U;refine⟨⟨M,c0,arm,lv,fv,s,q⟩,fun x hx' b hb e=>?_⟩;rcases e with e|e
 ·exact hx x hx' b hb e
 ·obtain⟨o,n,c,e2⟩:=hb
  rcases (s.ko x hx').1 with ⟨h1,_⟩|⟨b',off,c',el,L,h1,_,h3,_⟩
  ·rw[h1]at e2;cases e2
  ·rw[h1]at e2
   injection e2 with e2
   injection e2 with e2
   injection e2 with e2
   have:=h3.lt W;omega
theorem UpX.less(U:UpX X h A T ks fr k)(hS:∀ b,S b->X b):UpX S h A T ks fr k:=⟨U.1,fun x hx b hb hs=>U.2 x hx b hb (hS b hs)⟩
def Odd(L:List IN):Prop:=(L.length<6\/∀ s:Int,L[3]?≠some (.int .u8 s))/\∃ z∈L,∀ q,z≠AI AT q
theorem UpX.wr{L L':List IN}(W:h.Wf)(U:UpX X h A T ks fr k)(hX:X r)(R:h.Row r 0 L)(R':h'.Row r 0 L')(f:Fx (fun b=>b=r) h h')(hD:¬ A.D r)(ht:A.tb≠r)(o:Odd L):UpX X h' A T ks fr k:=by
 obtain⟨⟨M,c0,arm,lv,fv,s,q⟩,hx⟩:=U;refine⟨⟨M,c0,arm,lv,fv,⟨f.row W s.row fun h=>hD (by rw[<- h];exact .inl rfl),s.dk.fr W f (fun h=>hD (by rw[<- h];exact .inr (.inl rfl))) (fun h=>hD (by rw[<- h];exact .inr (.inr (.inl rfl)))) (fun h=>hD (by rw[<- h];exact .inr (.inr (.inr rfl)))),f.row W s.tab ht,s.tok,?_,fun k hk=>⟨?_,(s.ko k hk).2⟩,?_,s.ne,s.le⟩,q⟩,hx⟩
 ·rcases s.ls with h1|⟨b,c,el,K,h1,h2,h3,h4,h5,h6,h7⟩
  ·exact .inl h1
  ·by_cases e:b=r
   ·subst e
    have e1:=Ru h3 R;subst e1;cases ks with
    |nil=>exact .inr ⟨b,c,0,L',h1,h2,R',zL _,rfl,.inr rfl,h7⟩
    |cons z zs=>
     rcases o.1 with o1|o1
     ·rw[yh]at h4
      omega
     ·have h8:=congrArg (fun l=>l[3]?) h5
      simp only[List.getElem?_take]at h8;rw[if_pos (by rw[yh];omega)]at h8;exact absurd (h8.trans (show(flK (z::zs))[3]? =some (.int .u8 (z.s:Int))from rfl)) (o1 _)
   ·exact .inr ⟨b,c,el,K,h1,h2,f.row W h3 e,h4,h5,h6,h7⟩
 ·rcases (s.ko k hk).1 with h1|⟨b,off,c,el,K,h1,h2,h3,h4,h5,h6,h7⟩
  ·exact .inl h1
  ·exact .inr ⟨b,off,c,el,K,h1,h2,f.row W h3 fun e=>hx k hk b ⟨off,_,c,h1⟩ (e ▸ hX),h4,h5,h6,h7⟩
 ·rcases s.fs with h1|⟨b,el,h1,h2,h3,h4⟩
  ·exact .inl h1
  ·refine .inr ⟨b,el,h1,f.row W h2 fun e=>?_,h3,h4⟩
   subst e;obtain⟨z,hz,hq⟩:=o.2;rw[<- Ru h2 R]at hz;obtain⟨y,_,hy⟩:=zq.1 hz;exact hq _ hy.symm
theorem UpX.lt(U:UpX X h A T ks fr k)(W:h.Wf):∀ b,A.D b->b<h.next:=by
 obtain⟨⟨M,c0,arm,lv,fv,s,q⟩,hx⟩:=U;exact s.AHz W
theorem UpX.tab(U:UpX X h A T ks fr k):h.Row A.tb 0 (T.map wv)/\AGc T/\¬ A.D A.tb:=by
 obtain⟨⟨M,c0,arm,lv,fv,s,q⟩,hx⟩:=U;exact⟨s.tab,s.tok,s.ne.2.2.2.1⟩
theorem tL(W:h.Wf)(hA:A.n=24)(U:UpX X h A T ks fr (k+40))(hX:∀ b,X b->b<h.next)(V:h.VE u (l.map bv))(hb:∀ x∈l,x<256)(hl:l.length<=1000):
  ∃ z h' ks' fr',call AC (m+8) 58 [pt A.bs,AI AT a,AI AT b,AI AT c,u] h=.ok (AI AT z) h'/\Fx A.D h h'/\UpX X h' A T ks' fr' k/\Stp T ks fr 1 a b c l z ks' fr':=by
 obtain⟨⟨M,c0,arm,lv,fv,s,iv,md,hc,ha⟩,hx⟩:=U;have hln:=iv.len;rcases cI (m:=m) (k:=k) W s (a:=a) (b:=b) (c:=c) V hb hl (by omega) (ha.le (by omega))with ⟨z,h2,hz,k2,y2⟩|⟨hz,p,fr2,h2,c1,AGB,lv',fv',k',hf,k2,f2,s2,hk,a2,hu⟩
 ·exact⟨z,h2,ks,fr,k2,.of y2,⟨⟨M,c0,arm,lv,fv,s.ext W y2,iv,md,hc,ha.le (by omega)⟩,hx⟩,.inl ⟨.inl ⟨.inl rfl,hz⟩,rfl,rfl⟩⟩
 ·have t:Pn T M ks fr 1 a b c l (D5 T M p l (AF8 T a b c 1 l)) (EN (ks++[k'])) fr2:=.inl ⟨.inl rfl,hz,p,k',hf,rfl,hk,rfl⟩
  obtain⟨md',hc',_⟩:=KB iv md hc t;refine⟨0,h2,_,fr2,k2,f2,⟨⟨_,c1,AGB,lv',fv',s2,(KA iv t).1,md',hc',a2⟩,fun x hx' b hb hXb=>?_⟩,.inr ⟨rfl,M,_,t⟩⟩;rw[Gh,zK,zB]at hx';rcases hx' with h1|rfl
  ·exact hx x h1 b hb hXb
  ·have h1:=hu b hb
   have h2:=hX b hXb;omega
theorem tJ(W:h.Wf)(hA:A.n=24)(U:UpX X h A T ks fr (k+40))(a b c:Int):
  ∃ z h' ks' fr',call AC (m+8) 59 [pt A.bs,AI AT a,AI AT b,AI AT c] h=.ok (AI AT z) h'/\Fx A.D h h'/\UpX X h' A T ks' fr' k/\Stp T ks fr 5 a b c [] z ks' fr':=by
 obtain⟨⟨M,c0,arm,lv,fv,s,iv,md,hc,ha⟩,hx⟩:=U;have hln:=iv.len;rcases Zb (m:=m) (k:=k) W s (a:=a) (b:=b) (c:=c) (by omega) (fun z hz=>by rw[hA];exact iv.lt z hz) iv.nd (ha.le (by omega))with ⟨z,h2,hz,k2,y2⟩|⟨hz,j,kx,h2,c1,AGB,lv',fv',hj,AGw,hs,hf,hst,k2,f2,s2,a2⟩
 ·exact⟨z,h2,ks,fr,k2,.of y2,⟨⟨M,c0,arm,lv,fv,s.ext W y2,iv,md,hc,ha.le (by omega)⟩,hx⟩,.inl ⟨.inr (.inl ⟨.inl rfl,hz⟩),rfl,rfl⟩⟩
 ·have t:Pn T M ks fr 5 a b c [] _ _ _:=.inr (.inl ⟨.inl rfl,j,kx,hj,AGw,hst,rfl,rfl,rfl⟩)
  obtain⟨md',hc',_⟩:=KB iv md hc t;refine⟨0,h2,_,_,k2,f2,⟨⟨_,c1,AGB,lv',fv',s2,(KA iv t).1,md',hc',a2⟩,fun x hx'=>?_⟩,.inr ⟨rfl,M,_,t⟩⟩;rcases mem_set hj (zQ.1 hx').1 with rfl|h1
  ·exact hx kx (yz hj)
  ·exact hx x h1
theorem tI(W:h.Wf)(hA:A.n=24)(U:UpX X h A T ks fr (k+40))(a b c:Int):
  ∃ z h' ks' fr',call AC (m+9) 60 [pt A.bs,AI AT a,AI AT b,AI AT c] h=.ok (AI AT z) h'/\Fx A.D h h'/\UpX X h' A T ks' fr' k/\Stp T ks fr 7 a b c [] z ks' fr':=by
 obtain⟨⟨M,c0,arm,lv,fv,s,iv,md,hc,ha⟩,hx⟩:=U;have hln:=iv.len;rcases Wa (m:=m) (k:=k) W s (a:=a) (b:=b) (c:=c) (by omega) (fun z hz=>by rw[hA];exact iv.lt z hz) (ha.le (by omega))with ⟨z,h2,hz,k2,y2⟩|⟨hz,j,kx,h2,c1,AGB,lv',fv',hj,AGw,hf,hst,k2,f2,s2,a2⟩
 ·exact⟨z,h2,ks,fr,k2,.of y2,⟨⟨M,c0,arm,lv,fv,s.ext W y2,iv,md,hc,ha.le (by omega)⟩,hx⟩,.inl ⟨.inr (.inr (.inl ⟨rfl,hz⟩)),rfl,rfl⟩⟩
 ·have t:Pn T M ks fr 7 a b c [] _ _ _:=.inr (.inr (.inl ⟨rfl,j,kx,hj,AGw,hst,rfl,rfl,rfl⟩))
  obtain⟨md',hc',_⟩:=KB iv md hc t;refine⟨0,h2,_,_,k2,f2,⟨⟨_,c1,AGB,lv',fv',s2,(KA iv t).1,md',hc',a2⟩,fun x hx'=>hx x ?_⟩,.inr ⟨rfl,M,_,t⟩⟩;rcases zK.1 hx' with h1|h1
  ·exact AAN h1
  ·exact ABZ h1
theorem tK(W:h.Wf)(hA:A.n=24)(U:UpX X h A T ks fr (k+40))(a b c:Int):
  ∃ z h' ks' fr',call AC (m+9) 67 [pt A.bs,AI AT a,AI AT b,AI AT c] h=.ok (AI AT z) h'/\Fx A.D h h'/\UpX X h' A T ks' fr' k/\Stp T ks fr 8 a b c [] z ks' fr':=by
 obtain⟨⟨M,c0,arm,lv,fv,s,iv,md,hc,ha⟩,hx⟩:=U;have hln:=iv.len;have hle:(drO a b c ks).length<=8:=by
  unfold drO;rw[List.length_reverse];have:=AAR (drB a b c) ks;omega
 obtain⟨h2,c1,AGB,lv',fv',k2,f2,s2,a2⟩:=Z4 (m:=m) (k:=k) W s a b c (by omega) (fun z hz=>by rw[hA];exact iv.lt z hz) (ha.le (by omega));have t:Pn T M ks fr 8 a b c [] _ _ _:=.inr (.inr (.inr ⟨rfl,rfl,rfl,rfl⟩));obtain⟨md',hc',_⟩:=KB iv md hc t;exact⟨0,h2,_,_,k2,f2,⟨⟨_,c1,AGB,lv',fv',s2,(KA iv t).1,md',hc',a2⟩,fun x hx'=>hx x (zQ.1 hx').1⟩,.inr ⟨rfl,M,_,t⟩⟩
end
end
noncomputable section
open Go
set_option maxRecDepth 100000
def EB(AF7 seq:Int)(op:Nat)(err:Int)(iv bw:IN)(room:Int):List IN:=[AI AT AF7,AI AT seq,.int .u8 (op:Int),AI AT err,iv,bw,AI AT room]
def CC(AF7 seq:Int)(op:Nat)(err:Int)(iv bw:IN)(room:Int):IN:=.agg ⟨EB AF7 seq op err iv bw room⟩
abbrev GI:List IN:=EB 0 0 0 0 AFn AFn 0
theorem EG:Bt .mt 0 GI=some Cm:=by kernel_rfl
theorem Pg:HD.zero=GI:=by kernel_rfl
theorem FC{AF7 seq err room:Int}{op:Nat}{iv bw:IN}:Odd (EB AF7 seq op err iv bw room):=⟨.inr (fun s h=>by cases h),.int .u8 (op:Int),yj _ (yj _ yk),(fun q h=>by cases h)⟩
section
variable {F:AFi}{e:Env}{h h' g:Hp}{S X:Nat->Prop}{A:At}{T:List Nat}{m k n nb r op:Nat}{AF7 lf sq a b c z err room:Int}{ks ks':List Kt}{fr fr' l:List Nat}{v u iv bw:IN}{x:Kt}
theorem H6{g1:O}(h1:g1 e=AI AT z):BK HD.zero [(3,1,g1)] F e h=.ok (CC 0 0 0 z AFn AFn 0) h:=by
 rw[CS,Pg,Af (hk:=by rw[h1];rfl),h1];simp only[Ch,zh,yh,zS,EB,over,ACw,ACo,ABN,zU,AAl,IS,AA5,if_true,Bs,reduceIte];rfl
theorem ef:BK HD.zero [] F e h=.ok (CC 0 0 0 0 AFn AFn 0) h:=by
 rw[CS,Pg,Bs];rfl
theorem UQ{g1:O}(h1:g1 e=iv)(hc:cellsOf iv=[iv])(hk:known iv=true):BK HD.zero [(4,1,g1)] F e h=.ok (CC 0 0 0 0 iv AFn 0) h:=by
 rw[CS,Pg,Af (hk:=by rw[h1];exact hk),h1,hc];simp only[Ch,zh,yh,zS,EB,over,ACw,ACo,ABN,zU,AAl,IS,AA5,if_true,Bs,reduceIte];rfl
theorem ZJ{g1 g2:O}(h1:g1 e=iv)(h2:g2 e=bw)(hc:cellsOf iv=[iv])(hk:known iv=true)(hc2:cellsOf bw=[bw])(hk2:known bw=true):BK HD.zero [(4,1,g1),(5,1,g2)] F e h=.ok (CC 0 0 0 0 iv bw 0) h:=by
 rw[CS,Pg,Af (hk:=by rw[h1];exact hk),h1,Af (hk:=by rw[h2];exact hk2),h2,hc,hc2];simp only[Ch,zh,yh,zS,EB,over,ACw,ACo,ABN,zU,AAl,IS,AA5,if_true,Bs,reduceIte];rfl
theorem bh(hi:oneCell iv=true)(hb:oneCell bw=true):Bc (EB lf sq op err iv bw room)=true:=by
 show(bif oneCell iv then(bif oneCell bw then true else false)else false)=true;rw[hi,hb];rfl
theorem Ed{L:List IN}(W:h.Wf)(R:h.Row r 0 L)(hL:L.length=7)(AFs:256<=r)(hi:oneCell iv=true)(hb:oneCell bw=true):
  ∃ h',AFr 7 (pt r) (CC lf sq op err iv bw room) h=.ok AFl h'/\Fx (fun b=>b=r) h h'/\h'.Row r 0 (EB lf sq op err iv bw room):=by
 have ho:0+(EB lf sq op err iv bw room).length<=L.length:=by rw[hL];exact IT _
 have st:=R.AFr (n:=7) (off:=0) W AFs (v:=CC lf sq op err iv bw room) rfl ho (bh hi hb);have wr:=R.AFu W ho;rw[Fi (show L.length=(EB lf sq op err iv bw room).length from hL)]at wr;exact⟨_,st,Fx.wr W R ho rfl,wr⟩
theorem Fs{L:List IN}(W:h.Wf)(R:h.Row r 0 L)(hL:L.length=7)(AFs:256<=r)(hi:oneCell iv=true)(hb:oneCell bw=true):
  ∃ h',(∀ (F:AFi) (e:Env) (g1 g2:O),g1 e=pt r->g2 e=CC lf sq op err iv bw room->Ad .free (Ac 7 g1 g2) F e h=.ok AFl h')/\Fx (fun b=>b=r) h h'/\h'.Row r 0 (EB lf sq op err iv bw room):=by
 obtain⟨h1,st,f1,R1⟩:=Ed (h:=h.quiet) (lf:=lf) (sq:=sq) (op:=op) (err:=err) (room:=room) W.quiet (R.same (h':=h.quiet) rfl) hL AFs hi hb;refine⟨h.back h1,fun F e g1 g2 e1 e2=>?_,f1.back,R1.same rfl⟩;refine BO ?_;rw[AX,e1,e2];exact st
theorem DN(R:h.Row r 0 (EB lf sq op err iv bw room)):Ky 7 (pt r) h=.ok (CC lf sq op err iv bw room) h:=by
 rw[Am];exact R.loadN (off:=0) (n:=7) (by show 0+7<=7;omega)
theorem Fx.new{h1:Hp}(x:h.Ext h1)(f:Fx A.D h1 g)(f2:Fx (fun b=>b=r) g h')(hr:h.next<=r):Fx A.D h h':=
 Fx.drop (((Fx.of x).trans (f.mono fun b hb=>.inl hb)).trans (f2.mono fun b hb=>.inr (by rw[hb];exact hr)))
theorem sM(W:h.Wf)(hA:A.n=24)(Rn:h.Row nb 0 (AF9 A.bd A.tb A.bs AF7))(U:UpX X h A T ks fr (k+40))(hX:∀ b,X b->b<h.next)(V:h.VE u (l.map bv))(hb:∀ x∈l,x<256)(hl:l.length<=1000):
  ∃ z h' ks' fr',call AC (m+10) 34 [pt nb,Ck lf sq op a b c u] h=.ok (CC 0 0 0 z AFn AFn 0) h'/\Fx A.D h h'/\UpX X h' A T ks' fr' k/\Stp T ks fr 1 a b c l z ks' fr':=by
 have bx:=fun (F:AFi) (e:Env) (he:J 1 e=Ck lf sq op a b c u)=>FK (F:=F) W he
 have x1:=(Hp.Ext.refl W).AFh 0 (CP lf sq op a b c u);have R1:=Hp.Row.new W 0 (CP lf sq op a b c u);have n1:(h.AFh 0 (CP lf sq op a b c u)).next=h.next+1:=rfl;generalize h.AFh 0 (CP lf sq op a b c u)=h1 at bx x1 R1 n1;have al:=fun (F:AFi) (e:Env)=>BW (F:=F) (e:=e) x1.wf (n:=7) (t:=Cm)
 have Ra:=Hp.Row.alloc x1.wf EG (show GI.length=7 from rfl);have y2:h1.Ext (h1.push (.cells Cm 7 0)):=(Hp.Ext.refl x1.wf).push _;have n2:(h1.push (.cells Cm 7 0)).next=h1.next+1:=rfl;generalize h1.push (.cells Cm 7 0)=h2 at al Ra y2 n2;have x2:=x1.trans y2;have U2:=((U.ext W x1).more x1.wf (IT h1.next)).ext x1.wf y2;obtain⟨_,_,_,l3,l4,l5,l6,_⟩:=B5 ((R1.ext x1.wf y2).same (h':=h2.marked) rfl);obtain⟨_,_,nd,_⟩:=Cz ((Rn.ext W x2).same (h':=h2.marked) rfl);have xm:=x2.marked;obtain⟨z,g,ks',fr',k3,f3,U3,st⟩:=tL (m:=m+1) (k:=k) (X:=fun b=>X b\/b=h1.next) xm.quiet.wf hA (U2.same (h':=h2.marked.quiet) rfl) (fun b hb=>by
  show b<h2.next;rcases hb with hb|hb
  ·have:=hX b hb
   omega
  ·omega) ((V.ext W x2).same rfl) hb hl
 have q3:∀ e:Env,J 8 e=pt A.bs->J 10 e=AI AT a->J 12 e=AI AT b->J 14 e=AI AT c->J 16 e=u->Ad .free (AU 58 [J 8,J 10,J 12,J 14,J 16]) (call AC (m+9)) e h2.marked=.ok (AI AT z) (h2.marked.back g):=fun e e1 e2 e3 e4 e5=>by
  refine BO ?_;rw[BR,AV,AV,AV,AV,AV,A3,e1,e2,e3,e4,e5];exact k3
 have f3':=f3.back;have U3':=U3.same (h':=h2.marked.back g) rfl;generalize h2.marked.back g=h3 at q3 f3' U3';have hDn:¬ A.D h1.next:=fun hb=>by
  have:=U.lt W _ hb;omega
 have R3:=f3'.row xm.wf ((Ra.same (h':=h2.marked) rfl)) hDn;have big:=W.big;obtain⟨h4,q4,f4,R4⟩:=Fs (lf:=0) (sq:=0) (op:=0) (err:=z) (iv:=AFn) (bw:=AFn) (room:=0) f3'.wf R3 rfl (by omega) rfl rfl;have U4:=(U3'.wr f3'.wf (.inr rfl) R3 R4 f4 hDn (fun e=>by
  have:=(U.tab).1.lt W;omega) FC).less (S:=X) fun b hb=>.inl hb
 refine⟨z,h4,ks',fr',?_,Fx.new xm f3' f4 (by omega),U4,st⟩;have bd:=fun (F:AFi) (e:Env) (e1:J 17 e=AI AT z)=>H6 (F:=F) (h:=h3) e1
 have q4':=fun (F:AFi) (e:Env) (e1:J 4 e=pt h1.next) (e2:J 18 e=CC 0 0 0 z AFn AFn 0)=>q4 F e (J 4) (J 18) e1 e2
 have hrun:∃ e2,d34 (call AC (m+9)) (AS e0 0 [pt nb,Ck lf sq op a b c u]) h=.ret e2 h4/\J 4 e2=pt h1.next:=by
  unfold d34;simp only[iN,IS,sT,By,BY,reduceIte,bx,al,A1,Ax,Al,AH,AN,If,AM,AP,nd,l3,l4,l5,l6,q3,bd,q4'];exact⟨_,rfl,by simp[AG]⟩
 obtain⟨e2,r1,r2⟩:=hrun;rw[pK rfl,r1,BI,Da (h':=h4) (v:=CC 0 0 0 z AFn AFn 0) (by rw[r2];exact DN R4)]
theorem sN(W:h.Wf)(hA:A.n=24)(Rn:h.Row nb 0 (AF9 A.bd A.tb A.bs AF7))(U:UpX X h A T ks fr (k+40))(hX:∀ b,X b->b<h.next):
  ∃ z h' ks' fr',call AC (m+10) 35 [pt nb,Ck lf sq op a b c u] h=.ok (CC 0 0 0 z AFn AFn 0) h'/\Fx A.D h h'/\UpX X h' A T ks' fr' k/\Stp T ks fr 5 a b c [] z ks' fr':=by
 have bx:=fun (F:AFi) (e:Env) (he:J 1 e=Ck lf sq op a b c u)=>FK (F:=F) W he
 have x1:=(Hp.Ext.refl W).AFh 0 (CP lf sq op a b c u);have R1:=Hp.Row.new W 0 (CP lf sq op a b c u);have n1:(h.AFh 0 (CP lf sq op a b c u)).next=h.next+1:=rfl;generalize h.AFh 0 (CP lf sq op a b c u)=h1 at bx x1 R1 n1;have al:=fun (F:AFi) (e:Env)=>BW (F:=F) (e:=e) x1.wf (n:=7) (t:=Cm)
 have Ra:=Hp.Row.alloc x1.wf EG (show GI.length=7 from rfl);have y2:h1.Ext (h1.push (.cells Cm 7 0)):=(Hp.Ext.refl x1.wf).push _;have n2:(h1.push (.cells Cm 7 0)).next=h1.next+1:=rfl;generalize h1.push (.cells Cm 7 0)=h2 at al Ra y2 n2;have x2:=x1.trans y2;have U2:=((U.ext W x1).more x1.wf (IT h1.next)).ext x1.wf y2;obtain⟨_,_,_,l3,l4,l5,l6,_⟩:=B5 ((R1.ext x1.wf y2).same (h':=h2.marked) rfl);obtain⟨_,_,nd,_⟩:=Cz ((Rn.ext W x2).same (h':=h2.marked) rfl);have xm:=x2.marked;obtain⟨z,g,ks',fr',k3,f3,U3,st⟩:=tJ (m:=m+1) (k:=k) (X:=fun b=>X b\/b=h1.next) xm.quiet.wf hA (U2.same (h':=h2.marked.quiet) rfl) a b c;have q3:∀ e:Env,J 8 e=pt A.bs->J 10 e=AI AT a->J 12 e=AI AT b->J 14 e=AI AT c->Ad .free (AU 59 [J 8,J 10,J 12,J 14]) (call AC (m+9)) e h2.marked=.ok (AI AT z) (h2.marked.back g):=fun e e1 e2 e3 e4=>by
  refine BO ?_;rw[BR,AV,AV,AV,AV,A3,e1,e2,e3,e4];exact k3
 have f3':=f3.back;have U3':=U3.same (h':=h2.marked.back g) rfl;generalize h2.marked.back g=h3 at q3 f3' U3';have hDn:¬ A.D h1.next:=fun hb=>by
  have:=U.lt W _ hb;omega
 have R3:=f3'.row xm.wf ((Ra.same (h':=h2.marked) rfl)) hDn;have big:=W.big;obtain⟨h4,q4,f4,R4⟩:=Fs (lf:=0) (sq:=0) (op:=0) (err:=z) (iv:=AFn) (bw:=AFn) (room:=0) f3'.wf R3 rfl (by omega) rfl rfl;have U4:=(U3'.wr f3'.wf (.inr rfl) R3 R4 f4 hDn (fun e=>by
  have:=(U.tab).1.lt W;omega) FC).less (S:=X) fun b hb=>.inl hb
 refine⟨z,h4,ks',fr',?_,Fx.new xm f3' f4 (by omega),U4,st⟩;have bd:=fun (F:AFi) (e:Env) (e1:J 15 e=AI AT z)=>H6 (F:=F) (h:=h3) e1
 have q4':=fun (F:AFi) (e:Env) (e1:J 4 e=pt h1.next) (e2:J 16 e=CC 0 0 0 z AFn AFn 0)=>q4 F e (J 4) (J 16) e1 e2
 have hrun:∃ e2,d35 (call AC (m+9)) (AS e0 0 [pt nb,Ck lf sq op a b c u]) h=.ret e2 h4/\J 4 e2=pt h1.next:=by
  unfold d35;simp only[iN,IS,sT,By,BY,reduceIte,bx,al,A1,Ax,Al,AH,AN,If,AM,AP,nd,l3,l4,l5,l6,q3,bd,q4'];exact⟨_,rfl,by simp[AG]⟩
 obtain⟨e2,r1,r2⟩:=hrun;rw[pL rfl,r1,BI,Da (h':=h4) (v:=CC 0 0 0 z AFn AFn 0) (by rw[r2];exact DN R4)]
theorem sO(W:h.Wf)(hA:A.n=24)(Rn:h.Row nb 0 (AF9 A.bd A.tb A.bs AF7))(U:UpX X h A T ks fr (k+40))(hX:∀ b,X b->b<h.next):
  ∃ z h' ks' fr',call AC (m+10) 36 [pt nb,Ck lf sq op a b c u] h=.ok (CC 0 0 0 z AFn AFn 0) h'/\Fx A.D h h'/\UpX X h' A T ks' fr' k/\Stp T ks fr 7 a b c [] z ks' fr':=by
 have bx:=fun (F:AFi) (e:Env) (he:J 1 e=Ck lf sq op a b c u)=>FK (F:=F) W he
 have x1:=(Hp.Ext.refl W).AFh 0 (CP lf sq op a b c u);have R1:=Hp.Row.new W 0 (CP lf sq op a b c u);have n1:(h.AFh 0 (CP lf sq op a b c u)).next=h.next+1:=rfl;generalize h.AFh 0 (CP lf sq op a b c u)=h1 at bx x1 R1 n1;have al:=fun (F:AFi) (e:Env)=>BW (F:=F) (e:=e) x1.wf (n:=7) (t:=Cm)
 have Ra:=Hp.Row.alloc x1.wf EG (show GI.length=7 from rfl);have y2:h1.Ext (h1.push (.cells Cm 7 0)):=(Hp.Ext.refl x1.wf).push _;have n2:(h1.push (.cells Cm 7 0)).next=h1.next+1:=rfl;generalize h1.push (.cells Cm 7 0)=h2 at al Ra y2 n2;have x2:=x1.trans y2;have U2:=((U.ext W x1).more x1.wf (IT h1.next)).ext x1.wf y2;obtain⟨_,_,_,l3,l4,l5,l6,_⟩:=B5 ((R1.ext x1.wf y2).same (h':=h2.marked) rfl);obtain⟨_,_,nd,_⟩:=Cz ((Rn.ext W x2).same (h':=h2.marked) rfl);have xm:=x2.marked;obtain⟨z,g,ks',fr',k3,f3,U3,st⟩:=tI (m:=m) (k:=k) (X:=fun b=>X b\/b=h1.next) xm.quiet.wf hA (U2.same (h':=h2.marked.quiet) rfl) a b c;have q3:∀ e:Env,J 8 e=pt A.bs->J 10 e=AI AT a->J 12 e=AI AT b->J 14 e=AI AT c->Ad .free (AU 60 [J 8,J 10,J 12,J 14]) (call AC (m+9)) e h2.marked=.ok (AI AT z) (h2.marked.back g):=fun e e1 e2 e3 e4=>by
  refine BO ?_;rw[BR,AV,AV,AV,AV,A3,e1,e2,e3,e4];exact k3
 have f3':=f3.back;have U3':=U3.same (h':=h2.marked.back g) rfl;generalize h2.marked.back g=h3 at q3 f3' U3';have hDn:¬ A.D h1.next:=fun hb=>by
  have:=U.lt W _ hb;omega
 have R3:=f3'.row xm.wf ((Ra.same (h':=h2.marked) rfl)) hDn;have big:=W.big;obtain⟨h4,q4,f4,R4⟩:=Fs (lf:=0) (sq:=0) (op:=0) (err:=z) (iv:=AFn) (bw:=AFn) (room:=0) f3'.wf R3 rfl (by omega) rfl rfl;have U4:=(U3'.wr f3'.wf (.inr rfl) R3 R4 f4 hDn (fun e=>by
  have:=(U.tab).1.lt W;omega) FC).less (S:=X) fun b hb=>.inl hb
 refine⟨z,h4,ks',fr',?_,Fx.new xm f3' f4 (by omega),U4,st⟩;have bd:=fun (F:AFi) (e:Env) (e1:J 15 e=AI AT z)=>H6 (F:=F) (h:=h3) e1
 have q4':=fun (F:AFi) (e:Env) (e1:J 4 e=pt h1.next) (e2:J 16 e=CC 0 0 0 z AFn AFn 0)=>q4 F e (J 4) (J 16) e1 e2
 have hrun:∃ e2,d36 (call AC (m+9)) (AS e0 0 [pt nb,Ck lf sq op a b c u]) h=.ret e2 h4/\J 4 e2=pt h1.next:=by
  unfold d36;simp only[iN,IS,sT,By,BY,reduceIte,bx,al,A1,Ax,Al,AH,AN,If,AM,AP,nd,l3,l4,l5,l6,q3,bd,q4'];exact⟨_,rfl,by simp[AG]⟩
 obtain⟨e2,r1,r2⟩:=hrun;rw[pM rfl,r1,BI,Da (h':=h4) (v:=CC 0 0 0 z AFn AFn 0) (by rw[r2];exact DN R4)]
theorem sP(W:h.Wf)(hA:A.n=24)(Rn:h.Row nb 0 (AF9 A.bd A.tb A.bs AF7))(U:UpX X h A T ks fr (k+40))(hX:∀ b,X b->b<h.next):
  ∃ z h' ks' fr',call AC (m+10) 39 [pt nb,Ck lf sq op a b c u] h=.ok (CC 0 0 0 z AFn AFn 0) h'/\Fx A.D h h'/\UpX X h' A T ks' fr' k/\Stp T ks fr 8 a b c [] z ks' fr':=by
 have bx:=fun (F:AFi) (e:Env) (he:J 1 e=Ck lf sq op a b c u)=>FK (F:=F) W he
 have x1:=(Hp.Ext.refl W).AFh 0 (CP lf sq op a b c u);have R1:=Hp.Row.new W 0 (CP lf sq op a b c u);have n1:(h.AFh 0 (CP lf sq op a b c u)).next=h.next+1:=rfl;generalize h.AFh 0 (CP lf sq op a b c u)=h1 at bx x1 R1 n1;have al:=fun (F:AFi) (e:Env)=>BW (F:=F) (e:=e) x1.wf (n:=7) (t:=Cm)
 have Ra:=Hp.Row.alloc x1.wf EG (show GI.length=7 from rfl);have y2:h1.Ext (h1.push (.cells Cm 7 0)):=(Hp.Ext.refl x1.wf).push _;have n2:(h1.push (.cells Cm 7 0)).next=h1.next+1:=rfl;generalize h1.push (.cells Cm 7 0)=h2 at al Ra y2 n2;have x2:=x1.trans y2;have U2:=((U.ext W x1).more x1.wf (IT h1.next)).ext x1.wf y2;obtain⟨_,_,_,l3,l4,l5,l6,_⟩:=B5 ((R1.ext x1.wf y2).same (h':=h2.marked) rfl);obtain⟨_,_,nd,_⟩:=Cz ((Rn.ext W x2).same (h':=h2.marked) rfl);have xm:=x2.marked;obtain⟨z,g,ks',fr',k3,f3,U3,st⟩:=tK (m:=m) (k:=k) (X:=fun b=>X b\/b=h1.next) xm.quiet.wf hA (U2.same (h':=h2.marked.quiet) rfl) a b c;have q3:∀ e:Env,J 8 e=pt A.bs->J 10 e=AI AT a->J 12 e=AI AT b->J 14 e=AI AT c->Ad .free (AU 67 [J 8,J 10,J 12,J 14]) (call AC (m+9)) e h2.marked=.ok (AI AT z) (h2.marked.back g):=fun e e1 e2 e3 e4=>by
  refine BO ?_;rw[BR,AV,AV,AV,AV,A3,e1,e2,e3,e4];exact k3
 have f3':=f3.back;have U3':=U3.same (h':=h2.marked.back g) rfl;generalize h2.marked.back g=h3 at q3 f3' U3';have hDn:¬ A.D h1.next:=fun hb=>by
  have:=U.lt W _ hb;omega
 have R3:=f3'.row xm.wf ((Ra.same (h':=h2.marked) rfl)) hDn;have big:=W.big;obtain⟨h4,q4,f4,R4⟩:=Fs (lf:=0) (sq:=0) (op:=0) (err:=z) (iv:=AFn) (bw:=AFn) (room:=0) f3'.wf R3 rfl (by omega) rfl rfl;have U4:=(U3'.wr f3'.wf (.inr rfl) R3 R4 f4 hDn (fun e=>by
  have:=(U.tab).1.lt W;omega) FC).less (S:=X) fun b hb=>.inl hb
 refine⟨z,h4,ks',fr',?_,Fx.new xm f3' f4 (by omega),U4,st⟩;have bd:=fun (F:AFi) (e:Env) (e1:J 15 e=AI AT z)=>H6 (F:=F) (h:=h3) e1
 have q4':=fun (F:AFi) (e:Env) (e1:J 4 e=pt h1.next) (e2:J 16 e=CC 0 0 0 z AFn AFn 0)=>q4 F e (J 4) (J 16) e1 e2
 have hrun:∃ e2,d39 (call AC (m+9)) (AS e0 0 [pt nb,Ck lf sq op a b c u]) h=.ret e2 h4/\J 4 e2=pt h1.next:=by
  unfold d39;simp only[iN,IS,sT,By,BY,reduceIte,bx,al,A1,Ax,Al,AH,AN,If,AM,AP,nd,l3,l4,l5,l6,q3,bd,q4'];exact⟨_,rfl,by simp[AG]⟩
 obtain⟨e2,r1,r2⟩:=hrun;rw[pO rfl,r1,BI,Da (h':=h4) (v:=CC 0 0 0 z AFn AFn 0) (by rw[r2];exact DN R4)]
end
end
noncomputable section
open Go
set_option maxRecDepth 100000
theorem cM:rdS=BL (Ae 0 rdB) rdE:=rfl
theorem tC:rdM=tD:=rfl
theorem Sv:d37=Xf:=rfl
section
variable {F:AFi}{e:Env}{h h' g:Hp}{S:Nat->Prop}{A:At}{T M:List Nat}{c0 bad m k n nb r op:Nat}{arm AF7 lf sq a b c z err room:Int}{ks:List Kt}{fr l:List Nat}{v lv fv u w iv bw:IN}{ov:Bool}{x:Kt}
theorem S8(o:h.IL k v ks):cellsOf v=[v]/\known v=true/\oneCell v=true:=by
 rcases o with ⟨rfl,_⟩|⟨b,rfl,_⟩<;>exact⟨rfl,rfl,rfl⟩
theorem Hp.IL.fx(o:h.IL k v ks)(W:h.Wf)(f:Fx S h h')(hS:∀ b,S b->b<k):h'.IL k v ks:=by
 rcases o with h1|⟨b,h1,h2,h3⟩
 ·exact .inl h1
 ·exact .inr ⟨b,h1,f.row W h2 fun hb=>by have:=hS b hb;omega,h3⟩
theorem Tb{L:List IN}{v:IN}(W:h.Wf)(R:h.Row r 0 L)(hL:L.length=5)(AFs:256<=r)(hv5:(cellsOf v).length=5)(hv1:Bc (cellsOf v)=true):
  ∃ h',(∀ (F:AFi) (e:Env) (g1 g2:O),g1 e=pt r->g2 e=v->Ad .free (Ac 5 g1 g2) F e h=.ok AFl h')/\Fx (fun b=>b=r) h h'/\h'.Row r 0 (cellsOf v)/\h'.mark=h.mark:=by
 have Rq:h.quiet.Row r 0 L:=R.same rfl;have ho:0+(cellsOf v).length<=L.length:=by rw[hL,hv5];exact IT _
 have st:=Rq.AFr (n:=5) (off:=0) W.quiet AFs (v:=v) hv5 ho hv1;have wr:=Rq.AFu W.quiet ho;rw[Fi (show L.length=(cellsOf v).length by rw[hL,hv5])]at wr;refine⟨_,fun F e g1 g2 e1 e2=>BO (by rw[AX,e1,e2];exact st),Fx.back (Fx.wr W.quiet Rq ho rfl),wr.same rfl,rfl⟩
theorem Pr{n:Nat}{L:List IN}{z:VT}(W:h.Wf)(hz:Bt .mt 0 L=some z)(hL:L.length=n)(hm:h.mark<=h.next):
  ∃ h',(∀ (F:AFi) (e:Env),Ad .AFz (Ba n z) F e h=.ok (pt h.next) h')/\h.Ext h'/\h'.Row h.next 0 L/\h'.mark=h.mark:=by
 refine⟨h.back (h.quiet.push (.cells z n 0)),fun F e=>Cp (BW (F:=F) (e:=e) W.quiet) ((Hp.Ext.refl W.quiet).push _) hm,Hp.Ext.back ((Hp.Ext.refl W.quiet).push _),?_,rfl⟩;exact(Hp.Row.alloc W.quiet hz hL).same rfl
theorem wL(W:h.Wf)(Rn:h.Row nb 0 (AF9 A.bd A.tb A.bs AF7))(s:Sl h A T M c0 arm ks fr lv fv bad ov)(hl:ks.length<=49):
  ∃ h' k iv,call AC (m+10) 38 [pt nb,Ck lf sq op a b c u] h=.ok (CC 0 0 0 0 iv AFn 0) h'/\h.Ext h'/\h.next<=k/\h'.IL k iv (ks.filter fun x=>ZA x a b c):=by
 have bx:=fun (F:AFi) (e:Env) (he:J 1 e=Ck lf sq op a b c u)=>FK (F:=F) W he
 have x1:=(Hp.Ext.refl W).AFh 0 (CP lf sq op a b c u);have R1:=Hp.Row.new W 0 (CP lf sq op a b c u);have n1:(h.AFh 0 (CP lf sq op a b c u)).next=h.next+1:=rfl;generalize h.AFh 0 (CP lf sq op a b c u)=h1 at bx x1 R1 n1;have al:=fun (F:AFi) (e:Env)=>BW (F:=F) (e:=e) x1.wf (n:=7) (t:=Cm)
 have Ra:=Hp.Row.alloc x1.wf EG (show GI.length=7 from rfl);have y2:h1.Ext (h1.push (.cells Cm 7 0)):=(Hp.Ext.refl x1.wf).push _;have n2:(h1.push (.cells Cm 7 0)).next=h1.next+1:=rfl;generalize h1.push (.cells Cm 7 0)=h2 at al Ra y2 n2;have x2:=x1.trans y2;have R2:=R1.ext x1.wf y2;obtain⟨h3,k3,iv,c3,x3,hk,I3⟩:=Qg (m:=m+4) (P:=fun x=>ZA x a b c) x2.wf (Rn.ext W x2) (s.ext W x2) hl (w:=.func (.func 66) ⟨[]⟩ ⟨[pt h.next]⟩) fun g k u xg=>rL (m:=m+7) xg.wf (R2.ext x2.wf xg)
 obtain⟨i1,i2,i3⟩:=S8 I3;have big:=W.big;obtain⟨h4,st4,f4,R4⟩:=Ed (lf:=0) (sq:=0) (op:=0) (err:=0) (iv:=iv) (bw:=AFn) (room:=0) x3.wf (Ra.ext y2.wf x3) rfl (by omega) i3 rfl;have bd:=fun (F:AFi) (e:Env) (e1:J 7 e=iv)=>UQ (F:=F) (h:=h3) e1 i1 i2
 have hn2:h2.next<=k3:=hk;refine⟨h4,k3,iv,?_,Fx.xtF (x2.trans x3) f4 (fun b hb=>by rw[hb];omega),by omega,I3.fx x3.wf f4 fun b hb=>by rw[hb];omega⟩;have hrun:∃ e2,d38 (call AC (m+9)) (AS e0 0 [pt nb,Ck lf sq op a b c u]) h=.ret e2 h4/\J 4 e2=pt h1.next:=by
  unfold d38;simp only[iN,IS,sT,By,BY,reduceIte,bx,al,DX,AV,A3,BR,c3,bd,AX,st4];exact⟨_,rfl,by simp[AG]⟩
 obtain⟨e2,r1,r2⟩:=hrun;rw[pN rfl,r1,BI,Da (h':=h4) (v:=CC 0 0 0 0 iv AFn 0) (by rw[r2];exact DN R4)]
theorem wO(W:h.Wf)(Rn:h.Row nb 0 (AF9 A.bd A.tb A.bs AF7))(s:Sl h A T M c0 arm ks fr lv fv bad ov)(hl:ks.length<=49)(ht:∀ x∈ks,Y0 T M x)(hp:∀ x∈ks,3*x.p+3<=A.n):
  ∃ h' k z iv bw,call AC (m+10) 37 [pt nb,Ck lf sq op a b c u] h=.ok (CC 0 0 0 z iv bw 0) h'/\h.Ext h'/\h.next<=k/\oneCell iv=true/\oneCell bw=true/\
   ((c=0/\z=0/\bw=AFn/\h'.IL k iv (ks.filter fun x=>decide (x.a=a) && decide (x.b=b)))\/(c≠0/\ks.find? (Bo a b c)=none/\z=60/\iv=AFn/\bw=AFn)\/
    (c≠0/\∃ kx,ks.find? (Bo a b c)=some kx/\z=0/\(∃ b,iv=.slice (some ⟨b,0,none⟩) 1 1/\h'.Row b 0 (CO kx)/\k<=b)/\h'.BS (fun b=>k<=b) bw (kx.l.map bv))):=by
 have bx:=fun (F:AFi) (e:Env) (he:J 1 e=Ck lf sq op a b c u)=>FK (F:=F) W he
 have x1:=(Hp.Ext.refl W).AFh 0 (CP lf sq op a b c u);have R1:=Hp.Row.new W 0 (CP lf sq op a b c u);have n1:(h.AFh 0 (CP lf sq op a b c u)).next=h.next+1:=rfl;generalize h.AFh 0 (CP lf sq op a b c u)=h1 at bx x1 R1 n1;have al:=fun (F:AFi) (e:Env)=>BW (F:=F) (e:=e) x1.wf (n:=7) (t:=Cm)
 have Ra:=Hp.Row.alloc x1.wf EG (show GI.length=7 from rfl);have y2:h1.Ext (h1.push (.cells Cm 7 0)):=(Hp.Ext.refl x1.wf).push _;have n2:(h1.push (.cells Cm 7 0)).next=h1.next+1:=rfl;generalize h1.push (.cells Cm 7 0)=h2 at al Ra y2 n2;have x2:=x1.trans y2;have R2:=R1.ext x1.wf y2;have s2:=s.ext W x2;have big:=W.big;obtain⟨_,_,_,q3,q4,q5,_,_⟩:=B5 R2;by_cases hc:c=0
 ·have c1:iEq c 0=true:=Cb hc
  obtain⟨h3,k3,iv,c3,x3,hk,I3⟩:=Qg (m:=m+4) (P:=fun x=>decide (x.a=a) && decide (x.b=b)) x2.wf (Rn.ext W x2) s2 hl (w:=.func (.func 62) ⟨[]⟩ ⟨[pt h.next]⟩) fun g k u xg=>rK (m:=m+7) xg.wf (R2.ext x2.wf xg)
  obtain⟨i1,i2,i3⟩:=S8 I3;obtain⟨h4,st4,f4,R4⟩:=Ed (lf:=0) (sq:=0) (op:=0) (err:=0) (iv:=iv) (bw:=AFn) (room:=0) x3.wf (Ra.ext y2.wf x3) rfl (by omega) i3 rfl;have bd:=fun (F:AFi) (e:Env) (e1:J 12 e=iv)=>UQ (F:=F) (h:=h3) e1 i1 i2
  refine⟨h4,k3,0,iv,AFn,?_,Fx.xtF (x2.trans x3) f4 (fun b hb=>by rw[hb];omega),by omega,i3,rfl,.inl ⟨hc,rfl,rfl,I3.fx x3.wf f4 fun b hb=>by rw[hb];omega⟩⟩;have hrun:∃ e2,Xf (call AC (m+9)) (AS e0 0 [pt nb,Ck lf sq op a b c u]) h=.ret e2 h4/\J 4 e2=pt h1.next:=by
   unfold Xf;simp only[iN,IS,sT,By,BY,reduceIte,bx,al,AH,AN,If,AM,AP,q5,AK,AJ,c1,DX,AV,A3,BR,c3,bd,AX,st4];exact⟨_,rfl,by simp[AG]⟩
  obtain⟨e2,r1,r2⟩:=hrun;rw[Sm rfl,Sv,r1,BI,Da (h':=h4) (v:=CC 0 0 0 0 iv AFn 0) (by rw[r2];exact DN R4)]
 ·have c1:iEq c 0=false:=B6 hc
  have sm:=s2.same (h':=h2.marked.quiet) rfl;have xm:=x2.marked;obtain⟨_,_,nd,_⟩:=Cz ((Rn.ext W x2).same (h':=h2.marked) rfl);obtain⟨_,_,_,p3,p4,p5,_,_⟩:=B5 (R2.same (h':=h2.marked) rfl);obtain⟨g3,v3,c3,x3,hv5,hv1,hfind⟩:=iW (m:=m+4) xm.quiet.wf sm.row sm.ls.ks (fun k hk=>⟨(sm.ko k hk).1.vs.vals,by have:=(sm.ko k hk).2.2.1;omega⟩) (by omega) a b c;have qg:∀ e:Env,J 18 e=pt A.bs->J 20 e=AI AT a->J 22 e=AI AT b->J 24 e=AI AT c->Ad .weak (AU 63 [J 18,J 20,J 22,J 24]) (call AC (m+9)) e h2.marked=.ok (.tuple ⟨[v3,.bool (ks.find? (Bo a b c)).isSome]⟩) (h2.marked.back g3):=fun e e1 e2 e3 e4=>by
   refine Cp ?_ x3 (IT _);rw[BR,AV,AV,AV,AV,A3,e1,e2,e3,e4];exact c3
  have y3:h2.Ext (h2.marked.back g3):=(Hp.Ext.refl x2.wf).marked.trans (.back x3);have m3:(h2.marked.back g3).mark=h2.next:=rfl;have F3:=fun kx (hk:ks.find? (Bo a b c)=some kx)=>hfind kx hk
  have V3:∀ (u:IN) (l:List IN),g3.BS (fun b=>h2.next<=b) u l->(h2.marked.back g3).BS (fun b=>h2.next<=b) u l:=fun u l V=>V.same rfl
  generalize h2.marked.back g3=h3 at qg y3 m3 V3;have n3:=y3.next;obtain⟨h4,al5,y4,Ra5,m4⟩:=Pr y3.wf FQ (show(A8 0 0 0 0 AFn).length=5 from rfl) (by rw[m3];exact n3);obtain⟨h5,st5,f5,R5,m5⟩:=Tb (v:=v3) y4.wf Ra5 rfl (by omega) hv5 hv1;have y5:h3.Ext h5:=Fx.xtF y4 f5 fun b hb=>by rw[hb];exact IT _
  have y25:=y3.trans y5;have x5:=x2.trans y25;have W5:=x5.wf;have Ra4:=Ra.ext y2.wf y25;have Rk:=R2.ext x2.wf y25;obtain⟨e1,p1,t0,t3,t4⟩:∃ e1,Xf (call AC (m+9)) (AS e0 0 [pt nb,Ck lf sq op a b c u]) h=rdM (call AC (m+9)) e1 h2/\J 0 e1=pt nb/\J 3 e1=pt h.next/\J 4 e1=pt h1.next:=by
   unfold Xf;simp only[iN,IS,sT,By,BY,reduceIte,bx,al,AH,AN,If,AM,AP,q5,AK,AJ,c1];exact⟨_,rfl,by simp[AG]⟩
  have AL1:=fun (F:AFi) (e:Env) (e1:J 5 e=pt h3.next) (e2:J 26 e=v3)=>st5 F e (J 5) (J 26) e1 e2
  obtain⟨e2,p2,u0,u3,u4,u5,u6⟩:∃ e2,rdM (call AC (m+9)) e1 h2=rdS (call AC (m+9)) e2 h5/\J 0 e2=pt nb/\J 3 e2=pt h.next/\J 4 e2=pt h1.next/\J 5 e2=pt h3.next/\J 6 e2=.bool (ks.find? (Bo a b c)).isSome:=by
   rw[tC];unfold tD;simp only[sT,By,BY,reduceIte,A1,Ax,t0,Al,AH,AN,If,AM,AP,nd,t3,p3,p4,p5,qg,A7,BC,BE,al5,AL1];exact⟨_,rfl,by simp[AG,t0,t3,t4]⟩
  cases hf:ks.find? (Bo a b c)with
  |none=>
   rw[hf]at u6;have u6:J 6 e2=.bool false:=u6;obtain⟨h6,st6,f6,R6⟩:=Ed (lf:=0) (sq:=0) (op:=0) (err:=60) (iv:=AFn) (bw:=AFn) (room:=0) W5 Ra4 rfl (by omega) rfl rfl;have bd:=fun (F:AFi) (e:Env)=>H6 (F:=F) (e:=e) (h:=h5) (g1:=kV (AI AT 60)) rfl
   refine⟨h6,h.next,60,AFn,AFn,?_,Fx.xtF x5 f6 (fun b hb=>by rw[hb];omega),IT _,rfl,rfl,.inr (.inl ⟨hc,rfl,rfl,rfl,rfl⟩)⟩;have hrun:∃ e3,rdS (call AC (m+9)) e2 h5=.ret e3 h6/\J 4 e3=pt h1.next:=by
     rw[cM];unfold rdB;simp only[sT,By,BY,reduceIte,Be,Bd,u6,zg,bd,AX,u4,st6];exact⟨_,rfl,by simp[AG,u4]⟩
   obtain⟨e3,r1,r2⟩:=hrun;rw[Sm rfl,Sv,p1,p2,r1,BI,Da (h':=h6) (v:=CC 0 0 0 60 AFn AFn 0) (by rw[r2];exact DN R6)]
  |some kx=>
   rw[hf]at u6;have u6:J 6 e2=.bool true:=u6;obtain⟨uk,hv,Vk⟩:=F3 kx hf;have VkB:=V3 _ _ Vk;have hkm:=ACx hf;have AGw:=IE (ACB hf);obtain⟨j,hj,hix⟩:∃ j:Nat,ks[j]? =some kx/\Fc (Bo a b c) 0 ks=(j:Int):=by
     rcases Du (Bo a b c) ks 0 with ⟨h1,_⟩|⟨j,k',h1,h2,h3⟩
     ·rw[hf]at h1;cases h1
     ·rw[hf]at h1
      cases h1;exact⟨j,h2,by rw[h3,If]⟩
   have s5:=(s.ext W x5).same (h':=h5.marked.quiet) rfl;have xm5:=x5.marked;obtain⟨g6,rr,k6,x6,hr⟩:=ch (m:=m+3) xm5.quiet.wf s5 hj hix AGw (hp kx hkm);have hrr:rr=true:=hr.2 (ht kx hkm);subst hrr;have qs:∀ e:Env,J 36 e=pt A.bs->J 38 e=AI AT a->J 40 e=AI AT b->J 42 e=AI AT c->Ad .free (AU 64 [J 36,J 38,J 40,J 42]) (call AC (m+9)) e h5.marked=.ok (.bool true) (h5.marked.back g6):=fun e e1 e2 e3 e4=>by
     refine BO ?_;rw[BR,AV,AV,AV,AV,A3,e1,e2,e3,e4];exact k6
   have y6:h5.Ext (h5.marked.back g6):=(Hp.Ext.refl W5).marked.trans (.back x6);generalize h5.marked.back g6=h6 at qs y6;obtain⟨_,_,nd5,_⟩:=Cz ((Rn.ext W x5).same (h':=h5.marked) rfl);obtain⟨_,_,_,z3,z4,z5,_,_⟩:=B5 (Rk.same (h':=h5.marked) rfl);obtain⟨e3,p3',w4,w5⟩:∃ e3,rdS (call AC (m+9)) e2 h5=rdE (call AC (m+9)) e3 h6/\J 4 e3=pt h1.next/\J 5 e3=pt h3.next:=by
     rw[cM];unfold rdB;simp only[sT,By,BY,reduceIte,Be,Bd,u6,ze,A1,Ax,u0,Al,AH,AN,If,AM,AP,nd5,u3,z3,z4,z5,qs];exact⟨_,rfl,by simp[AG,u4,u5]⟩
   rw[hv]at R5;have x56:=x5.trans y6;have W6:=x56.wf;have R5':=(R5.ext W5 y6).same (h':=h6.marked) rfl;have xm6:=x56.marked;obtain⟨_,_,_,_,lu,ldk⟩:=Bz R5';have hmx:h3.next<h6.marked.mark:=(R5.ext W5 y6).lt W6;obtain⟨g7,ki,x7⟩:=VU (m:=m+8) (x:=kx) (u:=uk) xm6.quiet.wf;have qi:∀ e:Env,J 46 e=Bu kx.a kx.b kx.c kx.s uk->Ad .weak (AU 65 [J 46]) (call AC (m+9)) e h6.marked=.ok (Hf kx) (h6.marked.back g7):=fun e e1=>by
     refine Cp ?_ x7 (IT _);rw[BR,AV,A3,e1];exact ki
   have y7:h6.Ext (h6.marked.back g7):=(Hp.Ext.refl W6).marked.trans (.back x7);have m7:(h6.marked.back g7).mark=h6.next:=rfl;generalize h6.marked.back g7=h7 at qi y7 m7;have W7:=y7.wf;have n7:=y7.next;have qsl:∀ (F:AFi) (e:Env),J 47 e=Hf kx->Ad .AFz (As 1 (Bb NS.zero 1) [(0,4,J 47)]) F e h7=.ok (.slice (some ⟨h7.next,0,none⟩) 1 1) (h7.back (h7.quiet.AFh 0 (CO kx))):=fun F e e1=>by
     have:=Mj (F:=F) (e:=e) W7.quiet (g:=J 47) e1;exact Cp this ((Hp.Ext.refl W7.quiet).AFh _ _) (by rw[m7];exact n7)
   have y8:h7.Ext (h7.back (h7.quiet.AFh 0 (CO kx))):=.back ((Hp.Ext.refl W7.quiet).AFh _ _);have R8:(h7.back (h7.quiet.AFh 0 (CO kx))).Row h7.next 0 (CO kx):=(Hp.Row.new W7.quiet 0 (CO kx)).same rfl;have m8:(h7.back (h7.quiet.AFh 0 (CO kx))).mark=h6.next:=m7;generalize h7.back (h7.quiet.AFh 0 (CO kx))=h8 at qsl y8 R8 m8;have n8:=y8.next;have R58:=(((R5.ext W5 y6).ext W6 y7).ext W7 y8);obtain⟨_,_,_,_,lu8,_⟩:=Bz R58;have AL2:∀ {k:C} {F:AFi} {e:Env},JA (.pointer (some ⟨h3.next,4,none⟩)) k F e h8=k F e h8:=Dl (by rw[m8];exact hmx);obtain⟨b1,b2,b3⟩:=NV VkB.vs.vals;have Ra8:=(((Ra4.ext W5 y6).ext W6 y7).ext W7 y8);have W8:=y8.wf;obtain⟨h9,q9,f9,R9⟩:=Fs (lf:=0) (sq:=0) (op:=0) (err:=0) (iv:=.slice (some ⟨h7.next,0,none⟩) 1 1) (bw:=uk) (room:=0) W8 Ra8 rfl (by omega) rfl b3;have q9':=fun (F:AFi) (e:Env) (e1:J 4 e=pt h1.next) (e2:J 51 e=CC 0 0 0 0 (.slice (some ⟨h7.next,0,none⟩) 1 1) uk 0)=>q9 F e (J 4) (J 51) e1 e2
   have bd:=fun (F:AFi) (e:Env) (e1:J 48 e=.slice (some ⟨h7.next,0,none⟩) 1 1) (e2:J 50 e=uk)=>ZJ (F:=F) (h:=h8) e1 e2 rfl rfl b2 b1
   have x8:=(x56.trans y7).trans y8;refine⟨h9,h.next,0,_,uk,?_,Fx.xtF x8 f9 (fun b hb=>by rw[hb];omega),IT _,rfl,b3,.inr (.inr ⟨hc,kx,rfl,rfl,⟨h7.next,rfl,f9.row W8 R8 fun hb=>by
     have hb:h7.next=h1.next:=hb;have:=y25.next;have:=y6.next;omega,((x56.trans y7).next)⟩,?_⟩)⟩
   rotate_left
   · refine(((((VkB.ext y3.wf y5).ext W5 y6).ext W6 y7).ext W7 y8).AGp fun b el L hb _ r=>⟨f9.row W8 r (by omega),?_⟩)
     have:=x2.next;have hb:h2.next<=b:=hb;show h.next<=b;omega
   have hrun:∃ e4,rdE (call AC (m+9)) e3 h6=.ret e4 h9/\J 4 e4=pt h1.next:=by
     unfold rdE;simp only[sT,By,BY,reduceIte,A1,Au,Am,w5,ldk,qi,qsl,AH,AN,If,ED,AL2,DV,AM,AP,lu8,bd,w4,q9'];exact⟨_,rfl,by simp[AG,w4]⟩
   obtain⟨e4,r1,r2⟩:=hrun;rw[Sm rfl,Sv,p1,p2,p3',r1,BI,Da (h':=h9) (v:=CC 0 0 0 0 (.slice (some ⟨h7.next,0,none⟩) 1 1) uk 0) (by rw[r2];exact DN R9)]
end
end
end Go.Proofs.YtbjadbhkogcfeaaGreat
