/-
  'SlotsOnce' of layer 06 answers true, whatever memory it is called in, whatever calls it is handed and whatever the tape answers: no condition. What the canonical machine gives is shown for any of them (YtedbmmfebjfibaaGreatSoj); that machine is sound for the model (YtedbmmfebjfibaaGreatFns).
-/
import Derived.Test.YtedbmmfebjfibaaGreatZP
import Derived.Test.YtedbmmfebjfibaaGreatRows
import Derived.ProofKit
import Derived.OpenShut
import Derived.Carry
set_option linter.unusedVariables false
set_option linter.unusedSimpArgs false
namespace Go.Proofs.YtedbmmfebjfibaaGreat
noncomputable section
open Go
set_option maxRecDepth 100000
theorem S6:∀ (ks:List Kt) (i:Nat) (k:Kt),ks[i]? =some k→((flS ks).drop (5 * i)).take 5=JJ k
 |[],i,k,h=>by cases h
 |x::ks,0,k,h=>by
  have h:some x=some k:=h
  cases h
  show((JJ x++flS ks).drop 0).take 5=_
  rw[List.drop_zero]
  exact List.take_left' rfl
 |x::ks,i+1,k,h=>by
  rw[List.getElem?_cons_succ]at h
  show((JJ x++flS ks).drop (5 * (i+1))).take 5=_
  have:5 * (i+1)=(JJ x).length+5 * i:=by show _=5+_;omega
  rw[this,List.drop_length_add_append]
  exact S6 ks i k h
section
variable {F:CallF}{e:Env}{h h':Hp}{S:Nat→Prop}{A:At}{T M:List Nat}{c0 bad m k n bl:Nat}{arm:Int}{ks:List Kt}{fr:List Nat}{v lv fv w:Value}{ov:Bool}
theorem Hp.AL.len(o:h.AL k v ks)(g:Hp):lenSR v g=.ok (.int .i64 (ks.length:Int)) g:=by
 rcases o with ⟨rfl,rfl⟩|⟨b,L,rfl,_⟩<;>rfl
theorem Hp.AL.keep(o:h.AL k v ks)(hk:∀ b el L,k≤b→h.Row b el L→h'.Row b el L):h'.AL k v ks:=by
 rcases o with h1|⟨b,L,h1,h2,h3,h4,h5⟩
 ·exact .inl h1
 ·exact .inr ⟨b,L,h1,hk _ _ _ h4 h2,h3,h4,fun x hx=>(h5 x hx).keep fun b el L hb _ r=>hk b el L hb r⟩
theorem Hp.AL.fx(o:h.AL k v ks)(W:h.Wf)(x:Fx S h h')(hs:∀ b,S b→b<k):h'.AL k v ks:=o.keep fun b el L hb r=>x.row W r fun h1=>by have:=hs b h1;omega
theorem Hp.AL.ext(o:h.AL k v ks)(W:h.Wf)(x:h.Ext h'):h'.AL k v ks:=o.keep fun b el L _ r=>r.ext W x
theorem Hp.AL.at(o:h.AL k v ks){i:Nat}{x:Kt}(hi:ks[i]? =some x):∃ b u,idxSR 5 v (.int .i64 (i:Int)) h=.ok (.pointer (some ⟨b,5 * i,none⟩)) h∧loadN 5 ⟨b,5 * i,none⟩ h=.ok (B1 x.a x.b x.c x.s u) h∧h.Vals u (x.l.map bv):=by
 have hil:=(List.getElem?_eq_some_iff.1 hi).1
 rcases o with ⟨rfl,rfl⟩|⟨b,L,rfl,h2,h3,h4,h5⟩
 ·cases hi
 ·have hLl:L.length=ks.length:=by rw[← List.length_map (f:=Kt.core),h3,List.length_map]
  obtain⟨y,hy⟩:∃ y,L[i]? =some y:=⟨_,List.getElem?_eq_getElem (by omega)⟩
  have hc:=S6 L i y hy
  have hyx:y.core=x.core:=by
   have h6:=congrArg (fun l=>l[i]?) h3
   simp only[List.getElem?_map,hy,hi,Option.map_some]at h6
   injection h6
  have e1:y.a=x.a:=congrArg Kc.a hyx
  have e2:y.b=x.b:=congrArg Kc.b hyx
  have e3:y.c=x.c:=congrArg Kc.c hyx
  have e4:y.s=x.s:=congrArg Kc.s hyx
  have e5:y.l=x.l:=congrArg Kc.l hyx
  refine⟨b,y.u,?_,?_,?_⟩
  ·have:=DJ (h:=h) (n:=ks.length) (c:=ks.length) (es:=5) (b:=b) (off:=0) (i:=i) (k:=.i64) hil
   rwa [Nat.zero_add,Nat.mul_comm]at this
  ·rw[h2.loadN (by rw[Nl,hLl];omega),hc,← e1,← e2,← e3,← e4];rfl
  ·rw[← e5];exact(h5 y (List.mem_of_getElem? hy)).vs.vals
theorem Y6(W:h.Wf){g:O}{a b c:Int}{s:Nat}{u:Value}(hg:g e=B1 a b c s u):Cv g F e h=.ok (pt h.next) (h.pushRow 0 (A3 a b c s u)):=by rw[ET,hg,EN W];rfl
theorem Yq(W:h.Wf){a b c:Int}{s:Nat}{u w:Value}{l:List Nat}(U:h.Vals u (l.map bv))(V:h.Vals w (l.map bv))(hl:∀ x∈l,x<256):
  ∃ h',call AF (m+2) 32 [B1 a b c s u,B1 a b c s w] h=.ok (.bool true) h'∧h.Ext h':=by
 have b1:=fun (F:CallF) (e:Env) (he:AB 0 e=B1 a b c s u)=>Y6 (F:=F) W he
 have x1:=(Hp.Ext.refl W).pushRow 0 (A3 a b c s u)
 have R1:=Hp.Row.new W 0 (A3 a b c s u)
 generalize h.pushRow 0 (A3 a b c s u)=h1 at b1 x1 R1
 have b2:=fun (F:CallF) (e:Env) (he:AB 1 e=B1 a b c s w)=>Y6 (F:=F) x1.wf he
 have y2:=(Hp.Ext.refl x1.wf).pushRow 0 (A3 a b c s w)
 have R2:=Hp.Row.new x1.wf 0 (A3 a b c s w)
 generalize h1.pushRow 0 (A3 a b c s w)=h2 at b2 y2 R2
 have x2:=x1.trans y2
 obtain⟨l0,l1,l2,l3,l4,_⟩:=B9 (R1.ext x1.wf y2)
 obtain⟨m0,m1,m2,m3,m4,_⟩:=B9 R2
 have ca:∀ z:Int,iEq z z=true:=fun z=>CM rfl
 have k1:=oZ (n:=m) (U.ext W x2) (V.ext W x2) hl hl
 rw[decide_eq_true rfl]at k1
 refine⟨h2,?_,x2⟩
 rw[iB rfl]
 unfold d32
 simp only[iN,Nat.reduceAdd,sT,Nat.reduceLT,Nat.reduceEqDiff,reduceIte,gD,b1,b2,AJ,AQ,Nat.zero_add,AP,AU,l0,l1,l2,l3,l4,m0,m1,m2,m3,m4,AO,AN,ca,cA0,k1,lV0]
def smL:C:=(AE (AC 13) (BD (AB 0))
(AE (AC 14) (AW iLt .i64 (AB 5) (AB 13))
(AS (AB 14)
(A2 (AY 1 (BW (AE (AC 19) (BF 5 (AB 0) (AB 5))
(AE (AC 20) (Ax 5 (AB 19))
(AE (AC 23) (BF 5 (AB 1) (AB 5))
(AE (AC 24) (Ax 5 (AB 23))
(AE (AC 25) (Ac .free (AM 32 [(AB 20),(AB 24)]))
(AE (AC 26) (CI (AB 25))
(AS (AB 26)
(AE (AC 4) (AD (kV (.bool false)))
Ad)
AX)))))))))
(AE (AC 16) (BZ .i64 (Ar .i64) (AB 5) (kV (.int .i64 1)))
(AE (AC 5) (AD (AB 16))
AX)))
(BK 0))))
def smE:C:=(AE (AC 4) (AD (kV (.bool true)))
Ad)
theorem lC:smS=A2 (AY 0 (Az smL)) smE:=rfl
theorem jQ:d25=aE:=rfl
theorem Tu{ks':List Kt}{k':Nat}(W:h.Wf)(V:h.AL k v ks)(V':h.AL k' w ks')(hc:ks.map Kt.core=ks'.map Kt.core)(hb:∀ x∈ks,∀ y∈x.l,y<256)(hl:ks.length≤1000):
  ∃ h',call AF (m+3) 25 [v,w] h=.ok (.bool true) h'∧h.Ext h':=by
 have hll:ks.length=ks'.length:=by rw[← List.length_map (f:=Kt.core),hc,List.length_map]
 have ln:=V.len h
 have ln':=V'.len h
 have c00:iNe (ks.length:Int) (ks'.length:Int)=false:=CT (by rw[hll])
 have pre:∃ e1,aE (call AF (m+2)) (AV e0 0 [v,w]) h=smS (call AF (m+2)) e1 h∧AB 0 e1=v∧AB 1 e1=w∧AB 5 e1=.int .i64 ((0:Nat):Int):=by
  unfold aE
  simp only[iN,Nat.reduceAdd,sT,Nat.reduceLT,Nat.reduceEqDiff,reduceIte,Am,ln,ln',AO,AN,c00]
  exact⟨_,rfl,by simp[AH]⟩
 obtain⟨e1,p1,t0,t1,t5⟩:=pre
 have run:∃ e2 h2,Az smL (call AF (m+2)) e1 h=.exit 0 e2 h2∧h.Ext h2:=by
  refine Be (I:=fun i e' h'=>h.Ext h'∧AB 0 e'=v∧AB 1 e'=w∧AB 5 e'=.int .i64 (i:Int)∧i≤ks.length)
   (Q:=fun x=>∃ e2 h2,x=.exit 0 e2 h2∧h.Ext h2) ks.length (by omega) (fun i e' h' ⟨x',u0,u1,u5,hi⟩=>?_) ⟨.refl W,t0,t1,t5,Nat.zero_le _⟩
  have W':=x'.wf
  have ln:=V.len h'
  by_cases hlt:i<ks.length
  ·left
   have c1:=Eo hlt
   obtain⟨x,hx⟩:∃ x,ks[i]? =some x:=⟨_,List.getElem?_eq_getElem hlt⟩
   obtain⟨y,hy⟩:∃ y,ks'[i]? =some y:=⟨_,List.getElem?_eq_getElem (by omega)⟩
   have hyx:x.core=y.core:=by
    have h6:=congrArg (fun l=>l[i]?) hc
    simp only[List.getElem?_map,hy,hx,Option.map_some]at h6
    injection h6
   have e1:x.a=y.a:=congrArg Kc.a hyx
   have e2:x.b=y.b:=congrArg Kc.b hyx
   have e3:x.c=y.c:=congrArg Kc.c hyx
   have e4:x.s=y.s:=congrArg Kc.s hyx
   have e5:x.l=y.l:=congrArg Kc.l hyx
   have xm:=x'.marked
   obtain⟨b1,u,ix1,ld1,U⟩:=(V.ext W xm).at hx
   obtain⟨b2,u',ix2,ld2,U'⟩:=(V'.ext W xm).at hy
   rw[← e1,← e2,← e3,← e4]at ld2
   rw[← e5]at U'
   obtain⟨g,k6,x6⟩:=Yq (m:=m) (a:=x.a) (b:=x.b) (c:=x.c) (s:=x.s) xm.quiet.wf (U.same (h':=h'.marked.quiet) rfl) (U'.same (h':=h'.marked.quiet) rfl) (hb x (List.mem_of_getElem? hx))
   have q6:∀ e:Env,AB 20 e=B1 x.a x.b x.c x.s u→AB 24 e=B1 x.a x.b x.c x.s u'→Ac .free (AM 32 [AB 20,AB 24]) (call AF (m+2)) e h'.marked=.ok (.bool true) (h'.marked.back g):=fun e e1 e2=>by
    refine Bb ?_
    rw[Bk,Ah,Ah,A7,e1,e2];exact k6
   have y7:h'.Ext (h'.marked.back g):=(Hp.Ext.refl W').marked.trans (.back x6)
   generalize h'.marked.back g=h7 at q6 y7
   have a3:=CR (i:=i) (h:=h7) (by omega)
   have hrun:∃ e2,smL (call AF (m+2)) e' h'=.norm e2 h7∧AB 0 e2=v∧AB 1 e2=w∧AB 5 e2=.int .i64 ((i+1:Nat):Int):=by
    unfold smL
    simp only[sT,Nat.reduceLT,Nat.reduceEqDiff,reduceIte,Am,u0,ln,AO,AN,u5,c1,BA,A8,ix1,Aw,Av,ld1,u1,ix2,ld2,q6,Bt,Br,Bool.not_true,BR,a3]
    exact⟨_,rfl,by simp[AH,u0,u1]⟩
   obtain⟨e2,r1,r2,r3,r4⟩:=hrun
   exact⟨hlt,e2,h7,r1,x'.trans y7,r2,r3,r4,hlt⟩
  ·right
   have c1:=DD (show ks.length≤i by omega)
   obtain⟨e2,r1⟩:∃ e2,smL (call AF (m+2)) e' h'=.exit 0 e2 h':=by
    unfold smL
    simp only[sT,Nat.reduceLT,Nat.reduceEqDiff,reduceIte,Am,u0,ln,AO,AN,u5,c1]
    exact⟨_,rfl⟩
   rw[r1]
   exact⟨rfl,e2,h',rfl,x'⟩
 obtain⟨e2,h2,r1,x2⟩:=run
 refine⟨h2,?_,x2⟩
 rw[gy rfl,jQ,p1,lC]
 simp only[BP,A1,r1,A5,BJ]
 unfold smE
 simp only[sT,Nat.reduceLT,Nat.reduceEqDiff,reduceIte,lV0]
theorem WD(W:h.Wf)(s:Sl h A T M c0 arm ks fr lv fv bad ov){z:Int}(hz:0≤z):
  ∃ h',call AF (m+2) 26 [pt A.bd,.int .i64 z] h=.ok noRes h'∧Fx A.K h h'∧Sl h' A T M c0 z ks fr lv fv bad ov:=by
 have d:=s.dk
 have k1:=Ig (m:=m) d
 obtain⟨_,_,_,l3⟩:=Cm d.disk
 have mx:=fun (F:CallF) (e:Env) (he:AB 1 e=.int .i64 z)=>Xm (F:=F) (h:=h) (y:=kV (.int .i64 0)) he rfl
 rw[show max z 0=z by omega]at mx
 obtain⟨h1,st,R1,n1,f1,_⟩:=F8 (v:=.int .i64 z) W d.disk (off:=2) (show 2<4 by omega) d.big.1 rfl rfl
 have R1:h1.Row A.bd 0 (dkL A.bm A.bc A.n z false):=R1
 have fK:Fx A.K h h1:=f1.mono fun b hb=>.inl hb
 have d1:Dk h1 A.bd A.bm A.bc A.n M c0 [] z false:=⟨R1,f1.row W d.med (fun h=>d.bdm h.symm),d.len,d.byt,by rw[f1.get _ (d.lt W).2.2 (fun h=>d.bdc h.symm)];exact d.map,d.big,d.n1⟩
 refine⟨h1,?_,fK,(s.sc.fx W fK).sl d1⟩
 rw[gz rfl]
 unfold d26
 simp only[iN,Nat.reduceAdd,sT,Nat.reduceLT,Nat.reduceEqDiff,reduceIte,gD,cA0,k1,Bt,Br,Bool.not_false,Ay,Aq,AJ,AQ,Nat.zero_add,AP,AU,l3,mx,Ao,st,Dc,DW]
theorem dM{k:TK}{t:Nat}{a:Addr}{g:O}(hk:k=.ptr t)(hg:g e=.pointer (some a)):oEq k true g (kV (.pointer none)) F e h=.ok (.bool true) h:=by
 subst hk
 show(match eqV (.ptr t) (g e) (.pointer none)with|some r=>okB (true != r) h|none=>.no)=_
 rw[hg]
 exact E5
theorem dE(R:h.Row A.bs 0 (slL A.bd A.tb lv fv bad ov)):call AF (m+1) 27 [pt A.bs] h=.ok (.bool ov) h:=by
 obtain⟨_,_,_,_,_,_,l6⟩:=BC R
 have p1:∀ (F:CallF) (e:Env) (g:Hp),AB 0 e=pt A.bs→oEq Jk.k true (AB 0) (kV (.pointer none)) F e g=.ok (.bool true) g:=fun F e g he=>dM ZE he
 rw[hJ rfl]
 unfold d27
 simp only[iN,Nat.reduceAdd,sT,Nat.reduceLT,Nat.reduceEqDiff,reduceIte,gD,p1,Ay,Aq,AJ,AQ,Nat.zero_add,AP,AU,l6,lV0]
theorem SQ(W:h.Wf){r bc clk:Nat}(R:h.Row r 0 [.map (some bc)])(hr:256≤r)(hm:h.bl.get bc=.map [] clk):call AF (m+1) 66 [.func (.func 94) ⟨[]⟩ ⟨[pt r]⟩] h=.ok nilS h:=by
 have hb:AF.get 66=some bS:=by kernel_rfl
 have hs:Kf 3 h (.map (some bc))=.ok nilS h:=by
  show(match aZ (h.bl.get bc)with|.ok es clk=>(match Nat.ble (BB es) 1000000 with|true=>(match PY clk es 0 with|some ks=>Iy 3 h (Ej ks)|none=>.no)|false=>.no)|.no=>.no)=_
  rw[hm];rfl
 obtain⟨c,hc,hl⟩:=R.rowOf
 have hA:Ix 3 ⟨r,0,none⟩ h=.ok nilS h:=by
  unfold Ix
  have e1:(Nat.beq 0 0 && Nat.ble 256 r)=true:=by rw[Al.2 hr];rfl
  simp only[e1,hc]
  have e2:c.get 0=.map (some bc):=(hl 0 (by show 0<1;omega)).2
  show(match Nat.beq 0 0 && Nat.blt 0 1 with|true=>Kf 3 h (c.get 0)|false=>.no)=_
  rw[e2];exact hs
 rw[An hb]
 exact hA
theorem Uf(W:h.Wf)(s:Sl h A T M c0 arm ks fr lv fv bad ov):∃ h',call AF (m+2) 28 [pt A.bd] h=.ok nilS h'∧h.Ext h':=by
 have d:=s.dk
 have k1:=Ig (m:=m) d
 obtain⟨_,l1,_,_⟩:=Cm d.disk
 have bx:=fun (F:CallF) (e:Env) (he:AB 0 e=.map (some A.bc))=>show Cv (AB 0) F e h=.ok (pt h.next) (h.pushRow 0 [.map (some A.bc)])by rw[ET,he,EN W];rfl
 have x1:=(Hp.Ext.refl W).pushRow 0 [Value.map (some A.bc)]
 have R1:=Hp.Row.new W 0 [Value.map (some A.bc)]
 have big:=W.big
 have hm:=d.map
 generalize h.pushRow 0 [Value.map (some A.bc)]=h1 at bx x1 R1
 have k67:call AF (m+1) 67 [.map (some A.bc)] h=.ok (.func (.func 94) ⟨[]⟩ ⟨[pt h.next]⟩) h1:=by
  rw[iZ rfl]
  unfold d67
  simp only[iN,Nat.reduceAdd,sT,Nat.reduceLT,Nat.reduceEqDiff,reduceIte,bx,DZ,Ah,A7,lV0]
 have k66:=SQ (m:=m) x1.wf R1 big (clk:=c0) (by rw[x1.get _ (d.lt W).2.2];exact hm)
 refine⟨h1,?_,x1⟩
 rw[hU rfl]
 unfold d28
 simp only[iN,Nat.reduceAdd,sT,Nat.reduceLT,Nat.reduceEqDiff,reduceIte,cA0,k1,Ay,Aq,AJ,AQ,Nat.zero_add,AP,AU,l1,k67,k66,lV0]
end
end
noncomputable section
open Go
set_option maxRecDepth 100000
def opL(kd a b c n:Int)(u w:Value):List Value:=[.int .i64 kd,.int .i64 a,.int .i64 b,.int .i64 c,.int .i64 n,u,w]
def opV(kd a b c n:Int)(u w:Value):Value:=.agg ⟨opL kd a b c n u w⟩
def JW(kd:Int):Prop:=kd=1∨kd=2∨kd=3∨kd=4
def Sd(ks:List Kt)(n:Nat)(kd a b c:Int)(l:List Nat)(z:Int):Prop:=
 (JW kd∧Hd ks n a b c l=some z)∨((kd=5∨kd=6)∧Js ks a b c=some z)∨(kd=7∧abE ks a b c=some z)∨(kd=8∧drO a b c ks=[]∧z=0)∨(¬ JW kd∧kd≠5∧kd≠6∧kd≠7∧kd≠8∧z=0)
def lZ(ks:List Kt)(fr:List Nat)(kd a b c:Int)(l:List Nat)(ks':List Kt)(fr':List Nat):Prop:=
 (JW kd∧Hd ks fr.length a b c l=none∧∃ p k',fr=p::fr'∧ks'=GU (ks++[k'])∧k'.core=⟨a,b,c,1,l,p⟩)∨
 ((kd=5∨kd=6)∧∃ j kx,ks[j]? =some kx∧(kx.a=a∧kx.b=b∧kx.c=c)∧ks'=((ks.set j {kx with s:=2}).filter fun k=> !elB a b c k)∧fr'=frE fr ((ks.set j {kx with s:=2}).filter (elB a b c)))∨
 (kd=7∧∃ j kx,ks[j]? =some kx∧(kx.a=a∧kx.b=b∧kx.c=c)∧Cg a b c ks=false∧ks'=ks.take j++ks.drop (j+1)∧fr'=D6 (fr++[kx.p]))∨
 (kd=8∧ks'=(ks.filter fun k=> !drB a b c k)∧fr'=frE fr (drO a b c ks))
section
variable {F:CallF}{e:Env}{h h':Hp}{A:At}{T M:List Nat}{c0 bad m k p n:Nat}{arm:Int}{ks:List Kt}{fr:List Nat}{lv fv w u:Value}{kd a b c no z:Int}{l:List Nat}
theorem Lw(W:h.Wf){g:O}(hg:g e=opV kd a b c no u w):Cv g F e h=.ok (pt h.next) (h.pushRow 0 (opL kd a b c no u w)):=by rw[ET,hg,EN W];rfl
theorem Gy{r:Nat}(R:h.Row r 0 (opL kd a b c no u w)):load1 ⟨r,0,none⟩ h=.ok (.int .i64 kd) h∧load1 ⟨r,1,none⟩ h=.ok (.int .i64 a) h∧load1 ⟨r,2,none⟩ h=.ok (.int .i64 b) h∧load1 ⟨r,3,none⟩ h=.ok (.int .i64 c) h∧load1 ⟨r,5,none⟩ h=.ok u h:=
 ⟨R.load1 (off:=0) (by show 0<7;omega),R.load1 (off:=1) (by show 1<7;omega),R.load1 (off:=2) (by show 2<7;omega),R.load1 (off:=3) (by show 3<7;omega),R.load1 (off:=5) (by show 5<7;omega)⟩
theorem LC{g:Hp}(W:h.Wf)(hk:JW kd)(k1:call AF (m+9) 11 [pt A.bs,.int .i64 a,.int .i64 b,.int .i64 c,u] (h.pushRow 0 (opL kd a b c no u w))=.ok (.int .i64 z) g):call AF (m+10) 22 [pt A.bs,opV kd a b c no u w] h=.ok (.int .i64 z) g:=by
 have bx:=fun (F:CallF) (e:Env) (he:AB 1 e=opV kd a b c no u w)=>Lw (F:=F) W he
 have R:=Hp.Row.new W 0 (opL kd a b c no u w)
 generalize h.pushRow 0 (opL kd a b c no u w)=h1 at bx R k1
 obtain⟨l0,l1,l2,l3,l5⟩:=Gy R
 rw[Kz rfl]
 unfold d22
 rcases hk with rfl|rfl|rfl|rfl
 ·have c1:iEq 1 1=true:=CM rfl
  simp only[iN,Nat.reduceAdd,sT,Nat.reduceLT,Nat.reduceEqDiff,reduceIte,gD,bx,AJ,AQ,Nat.zero_add,AP,AU,l0,l1,l2,l3,l5,AO,AN,c1,cA0,k1,lV0]
 ·have c1:iEq 2 1=false:=Bd (by omega)
  have c2:iEq 2 2=true:=CM rfl
  simp only[iN,Nat.reduceAdd,sT,Nat.reduceLT,Nat.reduceEqDiff,reduceIte,gD,bx,AJ,AQ,Nat.zero_add,AP,AU,l0,l1,l2,l3,l5,AO,AN,c1,c2,cA0,k1,lV0]
 ·have c1:iEq 3 1=false:=Bd (by omega)
  have c2:iEq 3 2=false:=Bd (by omega)
  have c3:iEq 3 3=true:=CM rfl
  simp only[iN,Nat.reduceAdd,sT,Nat.reduceLT,Nat.reduceEqDiff,reduceIte,gD,bx,AJ,AQ,Nat.zero_add,AP,AU,l0,l1,l2,l3,l5,AO,AN,c1,c2,c3,cA0,k1,lV0]
 ·have c1:iEq 4 1=false:=Bd (by omega)
  have c2:iEq 4 2=false:=Bd (by omega)
  have c3:iEq 4 3=false:=Bd (by omega)
  have c4:iEq 4 4=true:=CM rfl
  simp only[iN,Nat.reduceAdd,sT,Nat.reduceLT,Nat.reduceEqDiff,reduceIte,gD,bx,AJ,AQ,Nat.zero_add,AP,AU,l0,l1,l2,l3,l5,AO,AN,c1,c2,c3,c4,cA0,k1,lV0]
theorem LA{g:Hp}(W:h.Wf)(hk:kd=5∨kd=6)(k1:call AF (m+9) 12 [pt A.bs,.int .i64 a,.int .i64 b,.int .i64 c] (h.pushRow 0 (opL kd a b c no u w))=.ok (.int .i64 z) g):call AF (m+10) 22 [pt A.bs,opV kd a b c no u w] h=.ok (.int .i64 z) g:=by
 have bx:=fun (F:CallF) (e:Env) (he:AB 1 e=opV kd a b c no u w)=>Lw (F:=F) W he
 have R:=Hp.Row.new W 0 (opL kd a b c no u w)
 generalize h.pushRow 0 (opL kd a b c no u w)=h1 at bx R k1
 obtain⟨l0,l1,l2,l3,l5⟩:=Gy R
 rw[Kz rfl]
 unfold d22
 rcases hk with rfl|rfl
 ·have c1:iEq 5 1=false:=Bd (by omega)
  have c2:iEq 5 2=false:=Bd (by omega)
  have c3:iEq 5 3=false:=Bd (by omega)
  have c4:iEq 5 4=false:=Bd (by omega)
  have c5:iEq 5 5=true:=CM rfl
  simp only[iN,Nat.reduceAdd,sT,Nat.reduceLT,Nat.reduceEqDiff,reduceIte,gD,bx,AJ,AQ,Nat.zero_add,AP,AU,l0,l1,l2,l3,AO,AN,c1,c2,c3,c4,c5,cA0,k1,lV0]
 ·have c1:iEq 6 1=false:=Bd (by omega)
  have c2:iEq 6 2=false:=Bd (by omega)
  have c3:iEq 6 3=false:=Bd (by omega)
  have c4:iEq 6 4=false:=Bd (by omega)
  have c5:iEq 6 5=false:=Bd (by omega)
  have c6:iEq 6 6=true:=CM rfl
  simp only[iN,Nat.reduceAdd,sT,Nat.reduceLT,Nat.reduceEqDiff,reduceIte,gD,bx,AJ,AQ,Nat.zero_add,AP,AU,l0,l1,l2,l3,AO,AN,c1,c2,c3,c4,c5,c6,cA0,k1,lV0]
theorem JM{g:Hp}(W:h.Wf)(k1:call AF (m+9) 29 [pt A.bs,.int .i64 a,.int .i64 b,.int .i64 c] (h.pushRow 0 (opL 7 a b c no u w))=.ok (.int .i64 z) g):call AF (m+10) 22 [pt A.bs,opV 7 a b c no u w] h=.ok (.int .i64 z) g:=by
 have bx:=fun (F:CallF) (e:Env) (he:AB 1 e=opV 7 a b c no u w)=>Lw (F:=F) W he
 have R:=Hp.Row.new W 0 (opL 7 a b c no u w)
 generalize h.pushRow 0 (opL 7 a b c no u w)=h1 at bx R k1
 obtain⟨l0,l1,l2,l3,l5⟩:=Gy R
 have c1:iEq 7 1=false:=Bd (by omega)
 have c2:iEq 7 2=false:=Bd (by omega)
 have c3:iEq 7 3=false:=Bd (by omega)
 have c4:iEq 7 4=false:=Bd (by omega)
 have c5:iEq 7 5=false:=Bd (by omega)
 have c6:iEq 7 6=false:=Bd (by omega)
 have c7:iEq 7 7=true:=CM rfl
 rw[Kz rfl]
 unfold d22
 simp only[iN,Nat.reduceAdd,sT,Nat.reduceLT,Nat.reduceEqDiff,reduceIte,gD,bx,AJ,AQ,Nat.zero_add,AP,AU,l0,l1,l2,l3,AO,AN,c1,c2,c3,c4,c5,c6,c7,cA0,k1,lV0]
theorem Ox{g:Hp}(W:h.Wf)(k1:call AF (m+9) 30 [pt A.bs,.int .i64 a,.int .i64 b,.int .i64 c] (h.pushRow 0 (opL 8 a b c no u w))=.ok (.int .i64 z) g):call AF (m+10) 22 [pt A.bs,opV 8 a b c no u w] h=.ok (.int .i64 z) g:=by
 have bx:=fun (F:CallF) (e:Env) (he:AB 1 e=opV 8 a b c no u w)=>Lw (F:=F) W he
 have R:=Hp.Row.new W 0 (opL 8 a b c no u w)
 generalize h.pushRow 0 (opL 8 a b c no u w)=h1 at bx R k1
 obtain⟨l0,l1,l2,l3,l5⟩:=Gy R
 have c1:iEq 8 1=false:=Bd (by omega)
 have c2:iEq 8 2=false:=Bd (by omega)
 have c3:iEq 8 3=false:=Bd (by omega)
 have c4:iEq 8 4=false:=Bd (by omega)
 have c5:iEq 8 5=false:=Bd (by omega)
 have c6:iEq 8 6=false:=Bd (by omega)
 have c7:iEq 8 7=false:=Bd (by omega)
 have c8:iEq 8 8=true:=CM rfl
 rw[Kz rfl]
 unfold d22
 simp only[iN,Nat.reduceAdd,sT,Nat.reduceLT,Nat.reduceEqDiff,reduceIte,gD,bx,AJ,AQ,Nat.zero_add,AP,AU,l0,l1,l2,l3,AO,AN,c1,c2,c3,c4,c5,c6,c7,c8,cA0,k1,lV0]
theorem Oy(W:h.Wf)(h14:¬ JW kd)(h5:kd≠5)(h6:kd≠6)(h7:kd≠7)(h8:kd≠8):call AF (m+10) 22 [pt A.bs,opV kd a b c no u w] h=.ok (.int .i64 0) (h.pushRow 0 (opL kd a b c no u w)):=by
 have bx:=fun (F:CallF) (e:Env) (he:AB 1 e=opV kd a b c no u w)=>Lw (F:=F) W he
 have R:=Hp.Row.new W 0 (opL kd a b c no u w)
 generalize h.pushRow 0 (opL kd a b c no u w)=h1 at bx R
 obtain⟨l0,l1,l2,l3,l5⟩:=Gy R
 have c1:iEq kd 1=false:=Bd fun h=>h14 (.inl h)
 have c2:iEq kd 2=false:=Bd fun h=>h14 (.inr (.inl h))
 have c3:iEq kd 3=false:=Bd fun h=>h14 (.inr (.inr (.inl h)))
 have c4:iEq kd 4=false:=Bd fun h=>h14 (.inr (.inr (.inr h)))
 have c5:iEq kd 5=false:=Bd h5
 have c6:iEq kd 6=false:=Bd h6
 have c7:iEq kd 7=false:=Bd h7
 have c8:iEq kd 8=false:=Bd h8
 rw[Kz rfl]
 unfold d22
 simp only[iN,Nat.reduceAdd,sT,Nat.reduceLT,Nat.reduceEqDiff,reduceIte,gD,bx,AJ,AQ,Nat.zero_add,AP,AU,l0,AO,AN,c1,c2,c3,c4,c5,c6,c7,c8,lV0]
theorem VZ(W:h.Wf)(s:Sl h A T M c0 arm ks fr lv fv bad false)(V:h.VE u (l.map bv))(hl:l.length≤1000)(hkl:fr.length+ks.length≤11)(hp3:∀ k∈ks,3 * k.p+3≤A.n)(hq:Sd ks fr.length kd a b c l z)(ha:Bu arm k):
  ∃ h' c1 arm' lv' fv',call AF (m+10) 22 [pt A.bs,opV kd a b c no u w] h=.ok (.int .i64 z) h'∧Fx A.D h h'∧Sl h' A T M c1 arm' ks fr lv' fv' bad false∧Bu arm' k:=by
 have x1:=(Hp.Ext.refl W).pushRow 0 (opL kd a b c no u w)
 have s1:=s.ext W x1
 rcases hq with ⟨hk,hz⟩|⟨hk,hz⟩|⟨rfl,hz⟩|⟨rfl,hd,rfl⟩|⟨q1,q2,q3,q4,q5,rfl⟩
 ·obtain⟨h2,k2,y2⟩:=QO (m:=m+1) x1.wf s1 (V.ext W x1) hl hz
  exact⟨h2,c0,arm,lv,fv,LC W hk k2,.of (x1.trans y2),s1.ext x1.wf y2,ha⟩
 ·obtain⟨h2,k2,y2⟩:=Oq (m:=m+1) x1.wf s1 hz
  exact⟨h2,c0,arm,lv,fv,LA W hk k2,.of (x1.trans y2),s1.ext x1.wf y2,ha⟩
 ·obtain⟨h2,k2,y2⟩:=V8 (m:=m) x1.wf s1 hz
  exact⟨h2,c0,arm,lv,fv,JM W k2,.of (x1.trans y2),s1.ext x1.wf y2,ha⟩
 ·obtain⟨h2,c1,arm',lv',fv',k2,f2,s2,a2⟩:=O0 (m:=m) (k:=k) x1.wf s1 a b c hkl hp3 (by rw[hd];exact ha)
  rw[hd]at s2
  have hf:ks.filter (fun k=> !drB a b c k)=ks:=List.filter_eq_self.2 fun x hx=>by
   cases hq:drB a b c x
   ·rfl
   ·have:x∈drO a b c ks:=List.mem_reverse.2 (List.mem_filter.2 ⟨hx,hq⟩)
    rw[hd]at this;cases this
  rw[hf]at s2
  exact⟨h2,c1,arm',lv',fv',Ox W k2,(Fx.of x1).trans f2,s2,a2⟩
 ·exact⟨_,c0,arm,lv,fv,Oy W q1 q2 q3 q4 q5,.of x1,s1,ha⟩
theorem aV(W:h.Wf)(s:Sl h A T M c0 arm ks fr lv fv bad false)(V:h.VE u (l.map bv))(hb:∀ x∈l,x<256)(hl:l.length≤1000)(hk10:ks.length≤10)(hkl:fr.length+ks.length≤11)(hp3:∀ k∈ks,3 * k.p+3≤A.n)(hnd:(ks.map (·.p)).Nodup)(ha:Bu arm (k+40))(kd a b c no:Int)(w:Value):
  (∃ z h' c1 arm' lv' fv',Sd ks fr.length kd a b c l z∧call AF (m+10) 22 [pt A.bs,opV kd a b c no u w] h=.ok (.int .i64 z) h'∧Fx A.D h h'∧Sl h' A T M c1 arm' ks fr lv' fv' bad false∧Bu arm' k)∨
  (∃ ks' fr' M' h' c1 arm' lv' fv',lZ ks fr kd a b c l ks' fr'∧call AF (m+10) 22 [pt A.bs,opV kd a b c no u w] h=.ok (.int .i64 0) h'∧Fx A.D h h'∧Sl h' A T M' c1 arm' ks' fr' lv' fv' bad false∧Bu arm' k):=by
 have x1:=(Hp.Ext.refl W).pushRow 0 (opL kd a b c no u w)
 have s1:=s.ext W x1
 by_cases h14:JW kd
 ·rcases Yf (m:=m+1) (k:=k) x1.wf s1 (a:=a) (b:=b) (c:=c) (V.ext W x1) hb hl hk10 (ha.le (by omega))with ⟨z,h2,hz,k2,y2⟩|⟨hz,p,fr2,h2,c1,arm',lv',fv',k',rfl,k2,f2,s2,hc,a2⟩
  ·exact .inl ⟨z,h2,c0,arm,lv,fv,.inl ⟨h14,hz⟩,LC W h14 k2,.of (x1.trans y2),s1.ext x1.wf y2,ha.le (by omega)⟩
  ·exact .inr ⟨_,_,_,h2,c1,arm',lv',fv',.inl ⟨h14,hz,p,k',rfl,rfl,hc⟩,LC W h14 k2,(Fx.of x1).trans f2,s2,a2⟩
 by_cases h56:kd=5∨kd=6
 ·rcases Wl (m:=m+1) (k:=k) x1.wf s1 (a:=a) (b:=b) (c:=c) hkl hp3 hnd (ha.le (by omega))with ⟨z,h2,hz,k2,y2⟩|⟨hz,j,kx,h2,c1,arm',lv',fv',q1,q2,q3,q4,q5,k2,f2,s2,a2⟩
  ·exact .inl ⟨z,h2,c0,arm,lv,fv,.inr (.inl ⟨h56,hz⟩),LA W h56 k2,.of (x1.trans y2),s1.ext x1.wf y2,ha.le (by omega)⟩
  ·exact .inr ⟨_,_,_,h2,c1,arm',lv',fv',.inr (.inl ⟨h56,j,kx,q1,q2,rfl,rfl⟩),LA W h56 k2,(Fx.of x1).trans f2,s2,a2⟩
 by_cases h7:kd=7
 ·subst h7
  rcases UO (m:=m) (k:=k) x1.wf s1 (a:=a) (b:=b) (c:=c) hkl hp3 (ha.le (by omega))with ⟨z,h2,hz,k2,y2⟩|⟨hz,j,kx,h2,c1,arm',lv',fv',q1,q2,q3,q4,k2,f2,s2,a2⟩
  ·exact .inl ⟨z,h2,c0,arm,lv,fv,.inr (.inr (.inl ⟨rfl,hz⟩)),JM W k2,.of (x1.trans y2),s1.ext x1.wf y2,ha.le (by omega)⟩
  ·exact .inr ⟨_,_,_,h2,c1,arm',lv',fv',.inr (.inr (.inl ⟨rfl,j,kx,q1,q2,q4,rfl,rfl⟩)),JM W k2,(Fx.of x1).trans f2,s2,a2⟩
 by_cases h8:kd=8
 ·subst h8
  have hdl:(drO a b c ks).length≤10:=by
   unfold drO
   rw[List.length_reverse]
   exact Nat.le_trans (List.length_filter_le _ _) hk10
  obtain⟨h2,c1,arm',lv',fv',k2,f2,s2,a2⟩:=O0 (m:=m) (k:=k) x1.wf s1 a b c hkl hp3 (ha.le (by omega))
  exact .inr ⟨_,_,_,h2,c1,arm',lv',fv',.inr (.inr (.inr ⟨rfl,rfl,rfl⟩)),Ox W k2,(Fx.of x1).trans f2,s2,a2⟩
 ·exact .inl ⟨0,_,c0,arm,lv,fv,.inr (.inr (.inr (.inr ⟨h14,fun h=>h56 (.inl h),fun h=>h56 (.inr h),h7,h8,rfl⟩))),Oy W h14 (fun h=>h56 (.inl h)) (fun h=>h56 (.inr h)) h7 h8,.of x1,s1,ha.le (by omega)⟩
end
end
noncomputable section
open Go
set_option maxRecDepth 100000
theorem Uz:∀ (A:List Kt) (x:Kt),(Hx A x).Perm (x::A):=fun A x=>by
 unfold Hx
 refine(List.reverse_perm _).trans ?_
 have:∀ l:List Kt,(Hw x l).Perm (x::l):=fun l=>by
  induction l with
  |nil=>exact .refl _
  |cons y r ih=>
   rw[Mx]
   split
   ·exact(ih.cons y).trans (.swap x y r)
   ·exact .refl _
 exact(this _).trans ((List.reverse_perm A).cons x)
theorem Qo:∀ (B A:List Kt),(srt A B).Perm (A++B)
 |[],A=>by
  rw[List.append_nil];exact .refl _
 |x::B,A=>by
  show(srt (Hx A x) B).Perm _
  exact(Qo B _).trans (((Uz A x).append_right B).trans List.perm_middle.symm)
theorem SP(l:List Kt):(GU l).Perm l:=by
 unfold GU
 have:=Qo (l.drop 1) (l.take 1)
 rwa [List.take_append_drop]at this
def Kt.key(k:Kt):Int×Int×Int:=(k.a,k.b,k.c)
def Kt.plc(k:Kt):Nat:=k.p
structure InvS (ks:List Kt)(fr:List Nat):Prop where
 key:(ks.map Kt.key).Nodup
 plc:(ks.map Kt.plc++fr).Perm [0,1,2,3,4,5,6,7]
section
variable {ks ks':List Kt}{fr fr':List Nat}{kd a b c:Int}{l:List Nat}
theorem InvS.len(i:InvS ks fr):ks.length+fr.length=8:=by
 have:=i.plc.length_eq
 rw[List.length_append,List.length_map]at this
 exact this
theorem InvS.lt(i:InvS ks fr):∀ k∈ks,3 * k.p+3≤24:=fun k hk=>by
 have h1:k.p∈ks.map Kt.plc++fr:=List.mem_append_left _ (List.mem_map.2 ⟨k,hk,rfl⟩)
 have h2:=i.plc.mem_iff.1 h1
 simp only[List.mem_cons,List.not_mem_nil,or_false]at h2
 omega
theorem InvS.nd(i:InvS ks fr):(ks.map Kt.plc).Nodup:=(List.nodup_append.1 (i.plc.nodup_iff.2 (by decide))).1
theorem NA{α β:Type}{f:α→β}:∀ {l:List α},(l.map f).Nodup→∀ {x y:α},x∈l→y∈l→f x=f y→x=y
 |[],_,x,y,hx,_,_=>by cases hx
 |w::l,h,x,y,hx,hy,hf=>by
  rw[List.map_cons,List.nodup_cons]at h
  rcases List.mem_cons.1 hx with h1|h1
  ·rcases List.mem_cons.1 hy with h2|h2
   ·rw[h1,h2]
   ·exact absurd (List.mem_map.2 ⟨y,h2,by rw[← hf,h1]⟩) h.1
  ·rcases List.mem_cons.1 hy with h2|h2
   ·exact absurd (List.mem_map.2 ⟨x,h1,by rw[hf,h2]⟩) h.1
   ·exact NA h.2 h1 h2 hf
theorem PB{x:Kt}(h:CG a b c x=true):x.key=(a,b,c):=by
 obtain⟨rfl,rfl,rfl⟩:=JR h
 rfl
theorem Mf{x:Kt}(h:x.key=(a,b,c)):CG a b c x=true:=by
 unfold Kt.key at h
 injection h with h1 h2
 injection h2 with h2 h3
 unfold CG
 rw[decide_eq_true h1,decide_eq_true h2,decide_eq_true h3];rfl
theorem PC(hn:(ks.map Kt.key).Nodup){x:Kt}(hx:x∈ks)(hk:x.key=(a,b,c)):ks.find? (CG a b c)=some x:=by
 cases h:ks.find? (CG a b c)with
 |none=>exact absurd (Mf hk) (List.find?_eq_none.1 h x hx)
 |some y=>rw[NA hn (List.mem_of_find?_eq_some h) hx ((PB (List.find?_some h)).trans hk.symm)]
theorem JQ(P:Kt→Bool):∀ l:List Kt,(l.filter P++l.filter fun k=> !P k).Perm l
 |[]=>.refl _
 |x::l=>by
  cases h:P x
  ·rw[List.filter_cons_of_neg (by rw[h];decide),List.filter_cons_of_pos (by rw[h];rfl)]
   exact List.perm_middle.trans ((JQ P l).cons x)
  ·rw[List.filter_cons_of_pos h,List.filter_cons_of_neg (by rw[h];decide)]
   exact(JQ P l).cons x
theorem InvS.cut(i:InvS ks fr)(P:Kt→Bool){out:List Kt}(ho:out.Perm (ks.filter P)):InvS (ks.filter fun k=> !P k) (frE fr out):=by
 refine⟨List.Pairwise.sublist (List.filter_sublist.map _) i.key,?_⟩
 have h1:(frE fr out).Perm (fr++(ks.filter P).map Kt.plc):=(LQ out fr).trans ((ho.map Kt.plc).append_left fr)
 have h2:((ks.filter fun k=> !P k).map Kt.plc++(fr++(ks.filter P).map Kt.plc)).Perm (ks.map Kt.plc++fr):=by
  rw[← List.append_assoc]
  refine(List.perm_append_comm).trans ?_
  rw[← List.append_assoc,← List.map_append]
  exact((JQ P ks).map Kt.plc).append_right fr
 exact(h1.append_left _).trans (h2.trans i.plc)
theorem InvS.set(i:InvS ks fr){j:Nat}{x y:Kt}(hj:ks[j]? =some x)(h1:y.key=x.key)(h2:y.p=x.p):InvS (ks.set j y) fr:=by
 have e1:(ks.set j y).map Kt.key=ks.map Kt.key:=by rw[List.map_set,h1];exact MD (by rw[List.getElem?_map,hj];rfl)
 have e2:(ks.set j y).map Kt.plc=ks.map Kt.plc:=by
  rw[List.map_set,show y.plc=x.plc from h2];exact MD (by rw[List.getElem?_map,hj];rfl)
 exact⟨e1 ▸ i.key,e2 ▸ i.plc⟩
theorem XL{P Q:List Kt}(p:Kt→Bool):(P++Q).find? p=(P.find? p).or (Q.find? p):=List.find?_append
theorem ZB(i:InvS ks fr)(t:lZ ks fr kd a b c l ks' fr'):InvS ks' fr'∧Sd ks' fr'.length kd a b c l 0:=by
 rcases t with ⟨hk,hz,p,k',rfl,rfl,hc⟩|⟨hk,j,kx,hj,habc,rfl,rfl⟩|⟨rfl,j,kx,hj,habc,hst,rfl,rfl⟩|⟨rfl,rfl,rfl⟩
 ·unfold Hd at hz
  split at hz
  ·cases hz
  rename_i hn
  split at hz
  ·split at hz<;>cases hz
  rename_i hfd
  have ek:k'.key=(a,b,c):=by
   show(k'.core.a,k'.core.b,k'.core.c)=_
   rw[hc]
  have ep:k'.p=p:=congrArg Kc.p hc
  have el:k'.l=l:=congrArg Kc.l hc
  have pm:=SP (ks++[k'])
  have kn:((ks++[k']).map Kt.key).Nodup:=by
   rw[List.map_append,List.nodup_append]
   refine⟨i.key,List.nodup_cons.2 ⟨List.not_mem_nil,List.nodup_nil⟩,fun x hx y hy hxy=>?_⟩
   rw[List.mem_singleton.1 hy]at hxy
   obtain⟨w,hw,rfl⟩:=List.mem_map.1 hx
   exact absurd (Mf (hxy.trans ek)) (List.find?_eq_none.1 hfd w hw)
  have kn':((GU (ks++[k'])).map Kt.key).Nodup:=(pm.map Kt.key).nodup_iff.2 kn
  refine⟨⟨kn',?_⟩,.inl ⟨hk,?_⟩⟩
  ·refine((pm.map Kt.plc).append_right fr').trans (List.Perm.trans ?_ i.plc)
   rw[List.map_append,List.append_assoc]
   show(ks.map Kt.plc++([k'.p]++fr')).Perm _
   rw[ep];exact .refl _
  ·unfold Hd
   rw[if_neg hn,PC kn' (pm.mem_iff.2 (List.mem_append_right _ (List.mem_singleton.2 rfl))) ek]
   simp only
   rw[if_pos el]
 ·have kk:({kx with s:=2}:Kt).key=(a,b,c):=by obtain⟨rfl,rfl,rfl⟩:=habc;rfl
  have i2:=i.set (y:={kx with s:=2}) hj rfl rfl
  have hX:({kx with s:=2}:Kt)∈ks.set j {kx with s:=2}:=List.mem_set (List.getElem?_eq_some_iff.1 hj).1 _
  generalize ks.set j {kx with s:=2}=ksX at i2 hX
  have i3:=i2.cut (elB a b c) (out:=ksX.filter (elB a b c)) (.refl _)
  refine⟨i3,.inr (.inl ⟨hk,?_⟩)⟩
  have hel:elB a b c {kx with s:=2}=false:=by
   obtain⟨rfl,rfl,rfl⟩:=habc
   unfold elB
   rw[decide_eq_false (Int.lt_irrefl _),Bool.and_false]
  unfold Js
  rw[PC i3.key (List.mem_filter.2 ⟨hX,by rw[hel];rfl⟩) kk]
  exact if_pos rfl
 ·obtain⟨hcut,hPl⟩:=Tg hj
  have kk:kx.key=(a,b,c):=by obtain⟨rfl,rfl,rfl⟩:=habc;rfl
  generalize ks.take j=P at *
  generalize ks.drop (j+1)=Q at *
  subst hcut
  have pm:(P++kx::Q).Perm (kx::(P++Q)):=List.perm_middle
  have kn:((kx::(P++Q)).map Kt.key).Nodup:=(pm.map Kt.key).nodup_iff.1 i.key
  rw[List.map_cons,List.nodup_cons]at kn
  refine⟨⟨kn.2,?_⟩,.inr (.inr (.inl ⟨rfl,?_⟩))⟩
  ·refine((IB (fr++[kx.p])).append_left _).trans (List.Perm.trans ?_ i.plc)
   rw[← List.append_assoc]
   refine List.perm_append_comm.trans ?_
   show(kx.plc::((P++Q).map Kt.plc++fr)).Perm _
   exact((pm.map Kt.plc).symm).append_right fr
  ·have hne:(P++Q).find? (CG a b c)=none:=List.find?_eq_none.2 fun x hx hf=>kn.1 (List.mem_map.2 ⟨x,hx,(PB hf).trans kk.symm⟩)
   have hst':Cg a b c (P++Q)=false:=by
    unfold Cg at hst ⊢
    rw[XL]at hst ⊢
    cases hP:P.find? (Pp a b)with
    |some y=>
     rw[hP]at hst
     exact hst
    |none=>
     rw[hP]at hst
     rw[Option.none_or]at hst ⊢
     cases hx:Pp a b kx
     ·rw[List.find?_cons_of_neg (by rw[hx];decide)]at hst
      exact hst
     ·rw[List.find?_cons_of_pos hx]at hst
      simp only at hst
      have:=of_decide_eq_false hst
      exact absurd (Int.le_of_eq habc.2.2.symm) this
   unfold abE
   rw[hst',hne,if_neg (by decide)]
 ·have i3:=i.cut (drB a b c) (out:=drO a b c ks) (List.reverse_perm _)
  refine⟨i3,.inr (.inr (.inr (.inl ⟨rfl,?_,rfl⟩)))⟩
  unfold drO
  rw[List.filter_filter,List.filter_eq_nil_iff.2 (fun x _=>by cases drB a b c x<;>decide)];rfl
end
end
noncomputable section
open Go
set_option maxRecDepth 100000
theorem Uw{l:List Nat}{n i:Nat}(h:i<n):(l.take n).getD i 0=l.getD i 0:=by
 rw[List.getD_eq_getElem?_getD,List.getD_eq_getElem?_getD,List.getElem?_take,if_pos h]
theorem Uv{l:List Nat}{n i:Nat}:(l.drop n).getD i 0=l.getD (n+i) 0:=by
 rw[List.getD_eq_getElem?_getD,List.getD_eq_getElem?_getD,List.getElem?_drop]
theorem Tq:∀ (k:Nat) (l:List Nat) (p:Nat) (ns:List Nat) (q:Nat),rdN k l p=some (ns,q)→ns.length=k
 |0,l,p,ns,q,h=>by cases h;rfl
 |k+1,l,p,ns,q,h=>by
  rw[QU]at h
  cases hu:FI 0 0 (l.drop p)with
  |none=>rw[hu]at h;cases h
  |some vj=>
   obtain⟨v,j⟩:=vj
   rw[hu]at h
   simp only at h
   by_cases hv:v≤1099511627776
   ·rw[if_pos hv]at h
    cases hr:rdN k l (p+j)with
    |none=>rw[hr]at h;cases h
    |some y=>
     obtain⟨vs,q'⟩:=y
     rw[hr]at h
     cases h
     rw[List.length_cons,Tq k l (p+j) vs _ hr]
   ·rw[if_neg hv]at h;cases h
theorem QI{T:List Nat}{ns:List Nat}{l:List Nat}(hl:l.length=64)(hz:∀ x∈l,x=0):¬ Kk T l ns:=fun h=>by
 have hlt:∀ x∈l,x<256:=fun x hx=>by rw[hz x hx];decide
 obtain⟨q,h1,h2,h3⟩:=(YY hlt).1 h
 have hlen:=Tq _ _ _ _ _ h1
 obtain⟨_,_,_,h4⟩:=h2
 have hs:=(G4 h4).2.2.2.2.2.2.1
 cases ns with
 |nil=>cases hlen
 |cons n ns=>
  have hn:n=1∨n=2:=hs
  have hu:B5 n=[n]:=by
   unfold B5
   rw[dif_pos (by omega)]
  have:n∈l:=by
   rw[← h3]
   unfold Ed MN OL
   refine List.mem_append_left _ (List.mem_append_left _ ?_)
   rw[Ef,hu]
   exact List.mem_append_left _ List.mem_cons_self
  have:=hz n this
  omega
end
noncomputable section
open Go
set_option maxRecDepth 100000
theorem Ym{n x:Nat}:(List.replicate n 0).getD x 0=0:=by
 rw[List.getD_eq_getElem?_getD,List.getElem?_replicate]
 split<;>rfl
def Rh:List Nat:=List.replicate (64 * 24) 0
section
variable {T b:List Nat}(hl:1≤b.length∧b.length≤100)
include hl
end
theorem Yr{M:List Nat}{i r:Nat}(hr:r<64):(sec M i).getD r 0=M.getD (64 * i+r) 0:=by
 unfold sec
 rw[Uw hr,Uv]
theorem XH{T M:List Nat}{n p:Nat}(hM:M.length=64 * n)(hp:3 * p<n)(h:∀ r,r<64→M.getD (64 * (3 * p)+r) 0=0):lkN T M p=none∧DX T M p=false:=by
 have hl:=Ka hM hp
 have hz:∀ x∈sec M (3 * p),x=0:=fun x hx=>by
  obtain⟨i,hi⟩:=List.mem_iff_getElem?.1 hx
  have hil:=(List.getElem?_eq_some_iff.1 hi).1
  have:=Yr (M:=M) (i:=3 * p) (r:=i) (by omega)
  rw[h i (by omega),List.getD_eq_getElem?_getD,hi]at this
  exact this
 have hno:¬ ∃ ns,Jn T M p ns:=fun⟨ns,h1,_⟩=>QI hl hz h1
 refine⟨Ph hno,?_⟩
 cases hb:DX T M p
 ·rfl
 ·rcases (IZ.1 hb).2 with ⟨x,hx,h1⟩|⟨ns,h1,_⟩
  ·exact absurd (hz x hx) h1
  ·exact absurd h1 (QI hl hz)
end
noncomputable section
open Go
set_option maxRecDepth 100000
theorem SK:List.range 8=[0,1,2,3,4,5,6,7]:=rfl
structure Trn (b:List Nat)(hd:Bool)(k:Nat)(ts:List Nat):Prop where
 lt:∀ t∈ts,t<256
 win:k+ts.length≤if hd=true then 60 else b.length
 four:ts.length≤4
def chg(ts:List Nat):Bool:=ts.any fun t=>decide (t≠0)
section
variable {b ts:List Nat}{hd:Bool}{k:Nat}
variable (hl:1≤b.length∧b.length≤100)(hb:∀ x∈b,x<256)(t:Trn b hd k ts)
include hl t
end
theorem nu{T M:List Nat}{o0 o1:Option (List Nat)}(h0:lkN T M 0=o0)(h1:lkN T M 1=o1)(h2:∀ p,2≤p∧p<8→lkN T M p=none):kcs T M 8=(o0.map (XZ M 0)).toList++(o1.map (XZ M 1)).toList:=by
 unfold kcs
 rw[SK]
 simp only[List.filterMap_cons,List.filterMap_nil,h0,h1,h2 2 (by omega),h2 3 (by omega),h2 4 (by omega),h2 5 (by omega),h2 6 (by omega),h2 7 (by omega),Option.map_none]
 cases o0<;>cases o1<;>rfl
theorem gi{T M:List Nat}{o0:Bool}(h0:DX T M 0=o0)(h1:DX T M 1=false)(h2:∀ p,2≤p∧p<8→DX T M p=false):bads T M 8=if o0=true then [0]else []:=by
 unfold bads
 rw[SK]
 simp only[List.filter_cons,List.filter_nil,h0,h1,h2 2 (by omega),h2 3 (by omega),h2 4 (by omega),h2 5 (by omega),h2 6 (by omega),h2 7 (by omega)]
 cases o0<;>rfl
theorem Tb{T:List Nat}{p:Nat}(hp:p<8):lkN T Rh p=none∧DX T Rh p=false:=XH (n:=24) List.length_replicate (by omega) fun r hr=>Ym
theorem U6{T:List Nat}:kcs T Rh 8=[]∧bads T Rh 8=[]∧mrk T Rh 8=[]:=by
 have n0:=fun p hp=>(Tb (T:=T) (p:=p) hp).1
 have b0:=fun p hp=>(Tb (T:=T) (p:=p) hp).2
 refine⟨nu (n0 0 (by omega)) (n0 1 (by omega)) fun p hp=>n0 p hp.2,gi (b0 0 (by omega)) (b0 1 (by omega)) fun p hp=>b0 p hp.2,?_⟩
 unfold mrk
 rw[SK]
 simp only[List.filter_cons,List.filter_nil,n0 0 (by omega),n0 1 (by omega),n0 2 (by omega),n0 3 (by omega),n0 4 (by omega),n0 5 (by omega),n0 6 (by omega),n0 7 (by omega),b0 0 (by omega),b0 1 (by omega),b0 2 (by omega),b0 3 (by omega),b0 4 (by omega),b0 5 (by omega),b0 6 (by omega),b0 7 (by omega),Option.isSome_none,Bool.or_self,Bool.false_eq_true,if_false]
theorem Uu:freeL [] 8=[0,1,2,3,4,5,6,7]:=rfl
theorem YU{ks:List Kt}:outL ks [] 8=[]:=by
 unfold outL
 refine List.filter_eq_nil_iff.2 fun p _=>?_
 rw[decide_eq_false (List.not_mem_nil),Bool.and_false]
 decide
end
noncomputable section
open Go
set_option maxRecDepth 100000
theorem dz:B3 .mt 0 dh.zero=some Ob:=by kernel_rfl
theorem Qw:∀ {L:List Value},(∀ v∈L,isW v=true)→∃ T:List Nat,L=T.map wv∧∀ x∈T,x<4294967296
 |[],_=>⟨[],rfl,fun x hx=>by cases hx⟩
 |v::L,h=>by
  obtain⟨n,rfl,hn⟩:=Ny (h v List.mem_cons_self)
  obtain⟨T,rfl,hT⟩:=Qw fun x hx=>h x (List.mem_cons_of_mem _ hx)
  refine⟨n::T,rfl,fun x hx=>?_⟩
  rcases List.mem_cons.1 hx with rfl|hx
  ·exact hn
  ·exact hT x hx
theorem lH{T:List Nat}(h1:T.length=256)(h2:∀ x∈T,x<4294967296):TblOk T:=⟨h1,fun i=>by
 rw[List.getD_eq_getElem?_getD]
 cases h:T[i]? with
 |none=>decide
 |some x=>exact h2 x (List.mem_of_getElem? h)⟩
theorem MW:∀ T:List Nat,Bh (T.map wv)=true
 |[]=>rfl
 |x::T=>MW T
theorem kl{h g:Hp}(W0:h.Wf)(x:h.Ext g){r:Nat}(hr:h.next≤r){L:List Value}(R:g.Row r 0 L)(hL:L.length=256){T:List Nat}(hT:T.length=256):
  storeR 256 (pt r) (.agg ⟨T.map wv⟩) g=.ok noRes (g.wr r 0 (T.map wv))∧h.Ext (g.wr r 0 (T.map wv))∧(g.wr r 0 (T.map wv)).Row r 0 (T.map wv):=by
 have h256:256≤r:=by have:=W0.big;omega
 have hl:(T.map wv).length=256:=by rw[List.length_map];exact hT
 have ho:0+(T.map wv).length≤L.length:=by omega
 have st:=R.storeR (n:=256) (off:=0) x.wf h256 (v:=.agg ⟨T.map wv⟩) hl ho (MW T)
 have wr:=R.wr_self x.wf ho
 rw[H5 (show L.length=(T.map wv).length by omega)]at wr
 exact⟨st,R.wr_ext x hr ho,wr⟩
theorem Fx.ext{S:Nat→Prop}{h h':Hp}(x:Fx S h h')(hs:∀ b,S b→h.next≤b):h.Ext h':=⟨x.next,fun i hi=>x.get i hi fun s=>by have:=hs i s;omega,x.low _ (Nat.min_le_left _ _) (Nat.min_le_right _ _) fun b hb=>Nat.le_trans (Nat.min_le_right _ _) (hs b hb),x.wf⟩
theorem Fx.extF{S:Nat→Prop}{h0 h h':Hp}(x0:h0.Ext h)(x:Fx S h h')(hs:∀ b,S b→h0.next≤b):h0.Ext h':=Fx.ext (S:=S) ((Fx.of x0).trans x) hs
theorem Y5{M:List Nat}:Qp M []=M:=rfl
theorem ql(k:Nat):Bu (-1) k:=⟨by omega,by omega,.inl (by omega)⟩
theorem VW{m k tb:Nat}{T:List Nat}{h:Hp}(W:h.Wf)(Rt:h.Row tb 0 (T.map wv))(hT:TblOk T):
  ∃ h' bs bd bm bc lv fv c1 arm',call AF (m+9) 10 [pt tb,.int .i64 24] h=.ok (.tuple ⟨[pt bd,pt bs,.bool true]⟩) h'∧h.Ext h'∧Sl h' ⟨bs,bd,bm,bc,tb,24⟩ T Rh c1 arm' [] [0,1,2,3,4,5,6,7] lv fv 0 false∧lv=.slice none 0 0∧h.next≤bs∧h.next≤bd∧h.next≤bm∧h.next≤bc∧Bu arm' k:=by
 obtain⟨h1,bd,bm,bc,k1,x1,d,l1,l2,l3⟩:=aU (m:=m+7) (n:=24) W (by omega)
 have htb:=Rt.lt W
 obtain⟨z1,z2,z3⟩:=U6 (T:=T)
 have d:Dk h1 bd bm bc 24 Rh 0 [] (-1) false:=d
 obtain⟨h2,bs,c1,arm',lv,fv,ks,k2,f2,s2,hks,l4,ha,hz⟩:=dB (m:=m) (k:=k) x1.wf d (Rt.ext W x1) hT (by omega) ⟨by omega,by omega,by omega⟩ (fun i x y hx _=>by
  rw[show 24 / 3=8 from rfl,z1]at hx;cases hx) (fun i j x y hx _ _=>by
  rw[show 24 / 3=8 from rfl,z1]at hx;cases hx) (by rw[show 24 / 3=8 from rfl,z1];exact Nat.zero_le _) (ql _)
 rw[show 24 / 3=8 from rfl,z1]at hks
 obtain rfl:=List.map_eq_nil_iff.1 hks
 rw[show 24 / 3=8 from rfl,z2,z3,YU,Y5,Uu]at s2
 have k2:call AF (m+8) 16 [pt bd,pt tb,.int .i64 100] h1=.ok (.tuple ⟨[pt bs,.int .i64 0]⟩) h2:=k2
 have k1:call AF (m+8) 35 [.int .i64 24] h=.ok (.tuple ⟨[pt bd,.int .i64 0]⟩) h1:=k1
 have x2:h.Ext h2:=Fx.extF x1 f2 fun b hb=>by rcases hb with rfl|rfl|rfl<;>assumption
 refine⟨h2,bs,bd,bm,bc,lv,fv,c1,arm',?_,x2,s2,hz rfl,Nat.le_trans x1.next l4,l1,l2,l3,ha⟩
 have c0:iEq 0 0=true:=CM rfl
 rw[gq rfl]
 unfold d10
 simp only[iN,Nat.reduceAdd,sT,Nat.reduceLT,Nat.reduceEqDiff,reduceIte,gD,cA0,k1,BV,Bj,Bo,k2,AO,AN,c0,Bp,LO]
end
noncomputable section
open Go
set_option maxRecDepth 100000
structure OpsS (h:Hp)(v:Value)(n cap:Nat):Prop where
 len:∀ g:Hp,lenSR v g=.ok (.int .i64 (n:Int)) g
 get:∀ i,i<n→i<cap→∃ (r:Nat) (kd a b c no:Int) (u w:Value) (l:List Nat),(∀ g:Hp,h.Ext g→idxSR 7 v (.int .i64 (i:Int)) g=.ok (.pointer (some ⟨r,i * 7,none⟩)) g∧loadN 7 ⟨r,i * 7,none⟩ g=.ok (opV kd a b c no u w) g∧load1 ⟨r,i * 7+5,none⟩ g=.ok u g)∧h.VE u (l.map bv)∧∀ x∈l,x<256
def onF:C:=(AE (AC 87) (AM 26 [(AB 4),(kV (.int .i64 1048576))])
(AE (AC 89) (AM 20 [(AB 5)])
(AE (AC 91) (BD (AB 11))
(AE (AC 92) (Bf Int.sub .i64 (kV (.int .i64 8)) (AB 91))
(AE (AC 93) (AW iNe .i64 (AB 89) (AB 92))
(cG (AB 93) false (AC 95) (AD (AB 4))
(cG (AB 93) false (AC 96) (AM 28 [(AB 95)])
(cG (AB 93) false (AC 97) (BD (AB 96))
(cG (AB 93) false (AC 98) (AW iNe .i64 (AB 97) (kV (.int .i64 0)))
(AE (AC 99) (Aj (AB 93) (kV (.bool true)) (AB 98))
(AS (AB 99)
(AE (AC 2) (AD (kV (.bool false)))
Ad)
AX)))))))))))
def onD:C:=(AE (AC 65) (AM 26 [(AB 4),(kV (.int .i64 0))])
(AE (AC 69) (BF 7 (AB 0) (AB 7))
(AE (AC 70) (Ax 7 (AB 69))
(AE (AC 71) (AM 22 [(AB 5),(AB 70)])
(AE (AC 12) (AD (AB 71))
(AE (AC 74) (AW iNe .i64 (AB 12) (AB 10))
(cG (AB 74) false (AC 76) (AD (AB 5))
(cG (AB 74) false (AC 77) (AM 21 [(AB 76)])
(cG (AB 74) false (AC 78) (AD (AB 11))
(cG (AB 74) false (AC 79) (AM 25 [(AB 77),(AB 78)])
(cG (AB 74) false (AC 80) (CI (AB 79))
(AE (AC 81) (Aj (AB 74) (kV (.bool true)) (AB 80))
(cG (AB 81) false (AC 83) (AD (AB 5))
(cG (AB 81) false (AC 84) (AM 27 [(AB 83)])
(AE (AC 85) (Aj (AB 81) (kV (.bool true)) (AB 84))
(AS (AB 85)
(AE (AC 2) (AD (kV (.bool false)))
Ad)
(AE (AC 87) (AM 26 [(AB 4),(kV (.int .i64 1048576))])
(AE (AC 89) (AM 20 [(AB 5)])
(AE (AC 91) (BD (AB 11))
(AE (AC 92) (Bf Int.sub .i64 (kV (.int .i64 8)) (AB 91))
(AE (AC 93) (AW iNe .i64 (AB 89) (AB 92))
(cG (AB 93) false (AC 95) (AD (AB 4))
(cG (AB 93) false (AC 96) (AM 28 [(AB 95)])
(cG (AB 93) false (AC 97) (BD (AB 96))
(cG (AB 93) false (AC 98) (AW iNe .i64 (AB 97) (kV (.int .i64 0)))
(AE (AC 99) (Aj (AB 93) (kV (.bool true)) (AB 98))
(AS (AB 99)
(AE (AC 2) (AD (kV (.bool false)))
Ad)
AX)))))))))))))))))))))))))))
def oO:C:=(AE (AC 65) (AM 26 [(AB 4),(kV (.int .i64 0))])
(AE (AC 69) (BF 7 (AB 0) (AB 7))
(AE (AC 70) (Ax 7 (AB 69))
(AE (AC 71) (AM 22 [(AB 5),(AB 70)])
(AE (AC 12) (AD (AB 71))
(AE (AC 74) (AW iNe .i64 (AB 12) (AB 10))
(cG (AB 74) false (AC 76) (AD (AB 5))
(cG (AB 74) false (AC 77) (AM 21 [(AB 76)])
(cG (AB 74) false (AC 78) (AD (AB 11))
(cG (AB 74) false (AC 79) (AM 25 [(AB 77),(AB 78)])
(cG (AB 74) false (AC 80) (CI (AB 79))
(AE (AC 81) (Aj (AB 74) (kV (.bool true)) (AB 80))
(cG (AB 81) false (AC 83) (AD (AB 5))
(cG (AB 81) false (AC 84) (AM 27 [(AB 83)])
(AE (AC 85) (Aj (AB 81) (kV (.bool true)) (AB 84))
(AS (AB 85)
(AE (AC 2) (AD (kV (.bool false)))
Ad)
onF))))))))))))))))
def onC:C:=(AE (AC 39) (AM 21 [(AB 5)])
(AE (AC 41) (AM 20 [(AB 5)])
(AE (AC 8) (AD (AB 39))
(AE (AC 9) (AD (AB 41))
(AE (AC 45) (BF 7 (AB 0) (AB 7))
(AE (AC 46) (Ax 7 (AB 45))
(AE (AC 47) (AM 22 [(AB 5),(AB 46)])
(AE (AC 10) (AD (AB 47))
(AE (AC 49) (AM 21 [(AB 5)])
(AE (AC 11) (AD (AB 49))
(AE (AC 51) (AW iNe .i64 (AB 10) (kV (.int .i64 0)))
(cG (AB 51) true (AC 53) (AD (AB 8))
(cG (AB 51) true (AC 54) (AD (AB 11))
(cG (AB 51) true (AC 55) (AM 25 [(AB 53),(AB 54)])
(cG (AB 51) true (AC 56) (CI (AB 55))
(cG (AB 51) true (AC 57) (AD (AB 56))
(cG (AB 57) false (AC 58) (AD (AB 5))
(cG (AB 57) false (AC 59) (AM 20 [(AB 58)])
(cG (AB 57) false (AC 60) (AD (AB 9))
(cG (AB 57) false (AC 61) (AW iNe .i64 (AB 59) (AB 60))
(cG (AB 51) true (AC 62) (Aj (AB 57) (kV (.bool true)) (AB 61))
(AE (AC 63) (Aj (AB 51) (AB 62) (kV (.bool false)))
(AS (AB 63)
(AE (AC 2) (AD (kV (.bool false)))
Ad)
(AE (AC 65) (AM 26 [(AB 4),(kV (.int .i64 0))])
(AE (AC 69) (BF 7 (AB 0) (AB 7))
(AE (AC 70) (Ax 7 (AB 69))
(AE (AC 71) (AM 22 [(AB 5),(AB 70)])
(AE (AC 12) (AD (AB 71))
(AE (AC 74) (AW iNe .i64 (AB 12) (AB 10))
(cG (AB 74) false (AC 76) (AD (AB 5))
(cG (AB 74) false (AC 77) (AM 21 [(AB 76)])
(cG (AB 74) false (AC 78) (AD (AB 11))
(cG (AB 74) false (AC 79) (AM 25 [(AB 77),(AB 78)])
(cG (AB 74) false (AC 80) (CI (AB 79))
(AE (AC 81) (Aj (AB 74) (kV (.bool true)) (AB 80))
(cG (AB 81) false (AC 83) (AD (AB 5))
(cG (AB 81) false (AC 84) (AM 27 [(AB 83)])
(AE (AC 85) (Aj (AB 81) (kV (.bool true)) (AB 84))
(AS (AB 85)
(AE (AC 2) (AD (kV (.bool false)))
Ad)
(AE (AC 87) (AM 26 [(AB 4),(kV (.int .i64 1048576))])
(AE (AC 89) (AM 20 [(AB 5)])
(AE (AC 91) (BD (AB 11))
(AE (AC 92) (Bf Int.sub .i64 (kV (.int .i64 8)) (AB 91))
(AE (AC 93) (AW iNe .i64 (AB 89) (AB 92))
(cG (AB 93) false (AC 95) (AD (AB 4))
(cG (AB 93) false (AC 96) (AM 28 [(AB 95)])
(cG (AB 93) false (AC 97) (BD (AB 96))
(cG (AB 93) false (AC 98) (AW iNe .i64 (AB 97) (kV (.int .i64 0)))
(AE (AC 99) (Aj (AB 93) (kV (.bool true)) (AB 98))
(AS (AB 99)
(AE (AC 2) (AD (kV (.bool false)))
Ad)
AX))))))))))))))))))))))))))))))))))))))))))))))))))
def cr:C:=(AE (AC 39) (AM 21 [(AB 5)])
(AE (AC 41) (AM 20 [(AB 5)])
(AE (AC 8) (AD (AB 39))
(AE (AC 9) (AD (AB 41))
(AE (AC 45) (BF 7 (AB 0) (AB 7))
(AE (AC 46) (Ax 7 (AB 45))
(AE (AC 47) (AM 22 [(AB 5),(AB 46)])
(AE (AC 10) (AD (AB 47))
(AE (AC 49) (AM 21 [(AB 5)])
(AE (AC 11) (AD (AB 49))
(AE (AC 51) (AW iNe .i64 (AB 10) (kV (.int .i64 0)))
(cG (AB 51) true (AC 53) (AD (AB 8))
(cG (AB 51) true (AC 54) (AD (AB 11))
(cG (AB 51) true (AC 55) (AM 25 [(AB 53),(AB 54)])
(cG (AB 51) true (AC 56) (CI (AB 55))
(cG (AB 51) true (AC 57) (AD (AB 56))
(cG (AB 57) false (AC 58) (AD (AB 5))
(cG (AB 57) false (AC 59) (AM 20 [(AB 58)])
(cG (AB 57) false (AC 60) (AD (AB 9))
(cG (AB 57) false (AC 61) (AW iNe .i64 (AB 59) (AB 60))
(cG (AB 51) true (AC 62) (Aj (AB 57) (kV (.bool true)) (AB 61))
(AE (AC 63) (Aj (AB 51) (AB 62) (kV (.bool false)))
(AS (AB 63)
(AE (AC 2) (AD (kV (.bool false)))
Ad)
onD)))))))))))))))))))))))
def onB:C:=(AE (AC 33) (BF 7 (AB 0) (AB 7))
(AE (AC 34) (AG 5 (AB 33))
(AE (AC 35) (AK (AB 34))
(AE (AC 36) (BD (AB 35))
(AE (AC 37) (AW iGt .i64 (AB 36) (kV (.int .i64 150)))
(AS (AB 37)
(BK 1)
(AE (AC 39) (AM 21 [(AB 5)])
(AE (AC 41) (AM 20 [(AB 5)])
(AE (AC 8) (AD (AB 39))
(AE (AC 9) (AD (AB 41))
(AE (AC 45) (BF 7 (AB 0) (AB 7))
(AE (AC 46) (Ax 7 (AB 45))
(AE (AC 47) (AM 22 [(AB 5),(AB 46)])
(AE (AC 10) (AD (AB 47))
(AE (AC 49) (AM 21 [(AB 5)])
(AE (AC 11) (AD (AB 49))
(AE (AC 51) (AW iNe .i64 (AB 10) (kV (.int .i64 0)))
(cG (AB 51) true (AC 53) (AD (AB 8))
(cG (AB 51) true (AC 54) (AD (AB 11))
(cG (AB 51) true (AC 55) (AM 25 [(AB 53),(AB 54)])
(cG (AB 51) true (AC 56) (CI (AB 55))
(cG (AB 51) true (AC 57) (AD (AB 56))
(cG (AB 57) false (AC 58) (AD (AB 5))
(cG (AB 57) false (AC 59) (AM 20 [(AB 58)])
(cG (AB 57) false (AC 60) (AD (AB 9))
(cG (AB 57) false (AC 61) (AW iNe .i64 (AB 59) (AB 60))
(cG (AB 51) true (AC 62) (Aj (AB 57) (kV (.bool true)) (AB 61))
(AE (AC 63) (Aj (AB 51) (AB 62) (kV (.bool false)))
(AS (AB 63)
(AE (AC 2) (AD (kV (.bool false)))
Ad)
(AE (AC 65) (AM 26 [(AB 4),(kV (.int .i64 0))])
(AE (AC 69) (BF 7 (AB 0) (AB 7))
(AE (AC 70) (Ax 7 (AB 69))
(AE (AC 71) (AM 22 [(AB 5),(AB 70)])
(AE (AC 12) (AD (AB 71))
(AE (AC 74) (AW iNe .i64 (AB 12) (AB 10))
(cG (AB 74) false (AC 76) (AD (AB 5))
(cG (AB 74) false (AC 77) (AM 21 [(AB 76)])
(cG (AB 74) false (AC 78) (AD (AB 11))
(cG (AB 74) false (AC 79) (AM 25 [(AB 77),(AB 78)])
(cG (AB 74) false (AC 80) (CI (AB 79))
(AE (AC 81) (Aj (AB 74) (kV (.bool true)) (AB 80))
(cG (AB 81) false (AC 83) (AD (AB 5))
(cG (AB 81) false (AC 84) (AM 27 [(AB 83)])
(AE (AC 85) (Aj (AB 81) (kV (.bool true)) (AB 84))
(AS (AB 85)
(AE (AC 2) (AD (kV (.bool false)))
Ad)
(AE (AC 87) (AM 26 [(AB 4),(kV (.int .i64 1048576))])
(AE (AC 89) (AM 20 [(AB 5)])
(AE (AC 91) (BD (AB 11))
(AE (AC 92) (Bf Int.sub .i64 (kV (.int .i64 8)) (AB 91))
(AE (AC 93) (AW iNe .i64 (AB 89) (AB 92))
(cG (AB 93) false (AC 95) (AD (AB 4))
(cG (AB 93) false (AC 96) (AM 28 [(AB 95)])
(cG (AB 93) false (AC 97) (BD (AB 96))
(cG (AB 93) false (AC 98) (AW iNe .i64 (AB 97) (kV (.int .i64 0)))
(AE (AC 99) (Aj (AB 93) (kV (.bool true)) (AB 98))
(AS (AB 99)
(AE (AC 2) (AD (kV (.bool false)))
Ad)
AX))))))))))))))))))))))))))))))))))))))))))))))))))))))))
def kM:C:=(AE (AC 33) (BF 7 (AB 0) (AB 7))
(AE (AC 34) (AG 5 (AB 33))
(AE (AC 35) (AK (AB 34))
(AE (AC 36) (BD (AB 35))
(AE (AC 37) (AW iGt .i64 (AB 36) (kV (.int .i64 150)))
(AS (AB 37)
(BK 1)
onC))))))
def onI:C:=(AE (AC 30) (BZ .i64 (Ar .i64) (AB 7) (kV (.int .i64 1)))
(AE (AC 7) (AD (AB 30))
AX))
def onL:C:=(AE (AC 23) (BD (AB 0))
(AE (AC 24) (AW iLt .i64 (AB 7) (AB 23))
(cG (AB 24) true (AC 26) (AD (AB 7))
(cG (AB 24) true (AC 27) (AW iLt .i64 (AB 26) (kV (.int .i64 25)))
(AE (AC 28) (Aj (AB 24) (AB 27) (kV (.bool false)))
(AS (AB 28)
(A2 (AY 1 (AE (AC 33) (BF 7 (AB 0) (AB 7))
(AE (AC 34) (AG 5 (AB 33))
(AE (AC 35) (AK (AB 34))
(AE (AC 36) (BD (AB 35))
(AE (AC 37) (AW iGt .i64 (AB 36) (kV (.int .i64 150)))
(AS (AB 37)
(BK 1)
(AE (AC 39) (AM 21 [(AB 5)])
(AE (AC 41) (AM 20 [(AB 5)])
(AE (AC 8) (AD (AB 39))
(AE (AC 9) (AD (AB 41))
(AE (AC 45) (BF 7 (AB 0) (AB 7))
(AE (AC 46) (Ax 7 (AB 45))
(AE (AC 47) (AM 22 [(AB 5),(AB 46)])
(AE (AC 10) (AD (AB 47))
(AE (AC 49) (AM 21 [(AB 5)])
(AE (AC 11) (AD (AB 49))
(AE (AC 51) (AW iNe .i64 (AB 10) (kV (.int .i64 0)))
(cG (AB 51) true (AC 53) (AD (AB 8))
(cG (AB 51) true (AC 54) (AD (AB 11))
(cG (AB 51) true (AC 55) (AM 25 [(AB 53),(AB 54)])
(cG (AB 51) true (AC 56) (CI (AB 55))
(cG (AB 51) true (AC 57) (AD (AB 56))
(cG (AB 57) false (AC 58) (AD (AB 5))
(cG (AB 57) false (AC 59) (AM 20 [(AB 58)])
(cG (AB 57) false (AC 60) (AD (AB 9))
(cG (AB 57) false (AC 61) (AW iNe .i64 (AB 59) (AB 60))
(cG (AB 51) true (AC 62) (Aj (AB 57) (kV (.bool true)) (AB 61))
(AE (AC 63) (Aj (AB 51) (AB 62) (kV (.bool false)))
(AS (AB 63)
(AE (AC 2) (AD (kV (.bool false)))
Ad)
(AE (AC 65) (AM 26 [(AB 4),(kV (.int .i64 0))])
(AE (AC 69) (BF 7 (AB 0) (AB 7))
(AE (AC 70) (Ax 7 (AB 69))
(AE (AC 71) (AM 22 [(AB 5),(AB 70)])
(AE (AC 12) (AD (AB 71))
(AE (AC 74) (AW iNe .i64 (AB 12) (AB 10))
(cG (AB 74) false (AC 76) (AD (AB 5))
(cG (AB 74) false (AC 77) (AM 21 [(AB 76)])
(cG (AB 74) false (AC 78) (AD (AB 11))
(cG (AB 74) false (AC 79) (AM 25 [(AB 77),(AB 78)])
(cG (AB 74) false (AC 80) (CI (AB 79))
(AE (AC 81) (Aj (AB 74) (kV (.bool true)) (AB 80))
(cG (AB 81) false (AC 83) (AD (AB 5))
(cG (AB 81) false (AC 84) (AM 27 [(AB 83)])
(AE (AC 85) (Aj (AB 81) (kV (.bool true)) (AB 84))
(AS (AB 85)
(AE (AC 2) (AD (kV (.bool false)))
Ad)
(AE (AC 87) (AM 26 [(AB 4),(kV (.int .i64 1048576))])
(AE (AC 89) (AM 20 [(AB 5)])
(AE (AC 91) (BD (AB 11))
(AE (AC 92) (Bf Int.sub .i64 (kV (.int .i64 8)) (AB 91))
(AE (AC 93) (AW iNe .i64 (AB 89) (AB 92))
(cG (AB 93) false (AC 95) (AD (AB 4))
(cG (AB 93) false (AC 96) (AM 28 [(AB 95)])
(cG (AB 93) false (AC 97) (BD (AB 96))
(cG (AB 93) false (AC 98) (AW iNe .i64 (AB 97) (kV (.int .i64 0)))
(AE (AC 99) (Aj (AB 93) (kV (.bool true)) (AB 98))
(AS (AB 99)
(AE (AC 2) (AD (kV (.bool false)))
Ad)
AX)))))))))))))))))))))))))))))))))))))))))))))))))))))))))
(AE (AC 30) (BZ .i64 (Ar .i64) (AB 7) (kV (.int .i64 1)))
(AE (AC 7) (AD (AB 30))
AX)))
(BK 0)))))))
def onK:C:=(A2 (AY 1 (AE (AC 33) (BF 7 (AB 0) (AB 7))
(AE (AC 34) (AG 5 (AB 33))
(AE (AC 35) (AK (AB 34))
(AE (AC 36) (BD (AB 35))
(AE (AC 37) (AW iGt .i64 (AB 36) (kV (.int .i64 150)))
(AS (AB 37)
(BK 1)
(AE (AC 39) (AM 21 [(AB 5)])
(AE (AC 41) (AM 20 [(AB 5)])
(AE (AC 8) (AD (AB 39))
(AE (AC 9) (AD (AB 41))
(AE (AC 45) (BF 7 (AB 0) (AB 7))
(AE (AC 46) (Ax 7 (AB 45))
(AE (AC 47) (AM 22 [(AB 5),(AB 46)])
(AE (AC 10) (AD (AB 47))
(AE (AC 49) (AM 21 [(AB 5)])
(AE (AC 11) (AD (AB 49))
(AE (AC 51) (AW iNe .i64 (AB 10) (kV (.int .i64 0)))
(cG (AB 51) true (AC 53) (AD (AB 8))
(cG (AB 51) true (AC 54) (AD (AB 11))
(cG (AB 51) true (AC 55) (AM 25 [(AB 53),(AB 54)])
(cG (AB 51) true (AC 56) (CI (AB 55))
(cG (AB 51) true (AC 57) (AD (AB 56))
(cG (AB 57) false (AC 58) (AD (AB 5))
(cG (AB 57) false (AC 59) (AM 20 [(AB 58)])
(cG (AB 57) false (AC 60) (AD (AB 9))
(cG (AB 57) false (AC 61) (AW iNe .i64 (AB 59) (AB 60))
(cG (AB 51) true (AC 62) (Aj (AB 57) (kV (.bool true)) (AB 61))
(AE (AC 63) (Aj (AB 51) (AB 62) (kV (.bool false)))
(AS (AB 63)
(AE (AC 2) (AD (kV (.bool false)))
Ad)
(AE (AC 65) (AM 26 [(AB 4),(kV (.int .i64 0))])
(AE (AC 69) (BF 7 (AB 0) (AB 7))
(AE (AC 70) (Ax 7 (AB 69))
(AE (AC 71) (AM 22 [(AB 5),(AB 70)])
(AE (AC 12) (AD (AB 71))
(AE (AC 74) (AW iNe .i64 (AB 12) (AB 10))
(cG (AB 74) false (AC 76) (AD (AB 5))
(cG (AB 74) false (AC 77) (AM 21 [(AB 76)])
(cG (AB 74) false (AC 78) (AD (AB 11))
(cG (AB 74) false (AC 79) (AM 25 [(AB 77),(AB 78)])
(cG (AB 74) false (AC 80) (CI (AB 79))
(AE (AC 81) (Aj (AB 74) (kV (.bool true)) (AB 80))
(cG (AB 81) false (AC 83) (AD (AB 5))
(cG (AB 81) false (AC 84) (AM 27 [(AB 83)])
(AE (AC 85) (Aj (AB 81) (kV (.bool true)) (AB 84))
(AS (AB 85)
(AE (AC 2) (AD (kV (.bool false)))
Ad)
(AE (AC 87) (AM 26 [(AB 4),(kV (.int .i64 1048576))])
(AE (AC 89) (AM 20 [(AB 5)])
(AE (AC 91) (BD (AB 11))
(AE (AC 92) (Bf Int.sub .i64 (kV (.int .i64 8)) (AB 91))
(AE (AC 93) (AW iNe .i64 (AB 89) (AB 92))
(cG (AB 93) false (AC 95) (AD (AB 4))
(cG (AB 93) false (AC 96) (AM 28 [(AB 95)])
(cG (AB 93) false (AC 97) (BD (AB 96))
(cG (AB 93) false (AC 98) (AW iNe .i64 (AB 97) (kV (.int .i64 0)))
(AE (AC 99) (Aj (AB 93) (kV (.bool true)) (AB 98))
(AS (AB 99)
(AE (AC 2) (AD (kV (.bool false)))
Ad)
AX)))))))))))))))))))))))))))))))))))))))))))))))))))))))))
(AE (AC 30) (BZ .i64 (Ar .i64) (AB 7) (kV (.int .i64 1)))
(AE (AC 7) (AD (AB 30))
AX)))
theorem kP:onK=A2 (AY 1 onB) onI:=rfl
def cu:C:=(AE (AC 23) (BD (AB 0))
(AE (AC 24) (AW iLt .i64 (AB 7) (AB 23))
(cG (AB 24) true (AC 26) (AD (AB 7))
(cG (AB 24) true (AC 27) (AW iLt .i64 (AB 26) (kV (.int .i64 25)))
(AE (AC 28) (Aj (AB 24) (AB 27) (kV (.bool false)))
(AS (AB 28)
onK
(BK 0)))))))
def onE:C:=(AE (AC 100) (AM 8 [])
(AE (AC 2) (AD (AB 100))
Ad))
theorem kQ:onS=A2 (AY 0 (Az onL)) onE:=rfl
theorem nf:d5=d5h:=rfl
theorem kN:onD=oO:=rfl
theorem SH:onC=cr:=rfl
theorem YO:onB=kM:=rfl
theorem SI:onL=cu:=rfl
section
variable {F:CallF}{e:Env}{h h' h0:Hp}{A:At}{T M:List Nat}{c0 bad m k n bl i:Nat}{arm:Int}{ks:List Kt}{fr:List Nat}{v lv fv w u nw:Value}{ov:Bool}{kd a b c no z:Int}{l:List Nat}
theorem Sl.all(s:Sl h A T M c0 arm ks fr lv fv bad ov):∀ k∈ks,h.Vals k.u (k.l.map bv)∧k.l.length≤1000∧A0 k.u=true:=fun x hx=>⟨(s.ko x hx).1.vs.vals,by have:=(s.ko x hx).2.2.1;omega,(s.ko x hx).1.vs.one.2.1⟩
theorem kO(W:h.Wf)(s:Sl h A T M c0 arm ks fr lv fv bad false)(iv:InvS ks fr)(Nw:h.AL k nw ks)(s4:AB 4 e=pt A.bd)(s5:AB 5 e=pt A.bs)(s11:AB 11 e=nw):
  ∃ e' h',onF (call AF (m+10)) e h=.norm e' h'∧AB 0 e'=AB 0 e∧AB 4 e'=AB 4 e∧AB 5 e'=AB 5 e∧AB 7 e'=AB 7 e∧Fx A.D h h'∧Sl h' A T M c0 1048576 ks fr lv fv bad false:=by
 have hln:=iv.len
 obtain⟨h1,k1,f1,s1⟩:=WD (m:=m+8) (z:=1048576) W s (by omega)
 have k2:=OR (m:=m+9) s1.row s1.fs.vals
 have ln:=Nw.len h1
 have a8:FE Int.sub .i64 (.int .i64 8) (.int .i64 (ks.length:Int)) h1=.ok (.int .i64 (fr.length:Int)) h1:=by
  have:Int.sub 8 (ks.length:Int)=(fr.length:Int):=by
   show(8:Int) - (ks.length:Int)=_
   omega
  rw[CO,this,Bg (by omega)]
 have c1:iNe (fr.length:Int) (fr.length:Int)=false:=CT rfl
 obtain⟨h2,k3,x2⟩:=Uf (m:=m+8) f1.wf s1
 have ln0:lenSR nilS h2=.ok (.int .i64 0) h2:=rfl
 have c2:iNe 0 0=false:=CT rfl
 have k1:call AF (m+10) 26 [pt A.bd,.int .i64 1048576] h=.ok noRes h1:=k1
 have k2:call AF (m+10) 20 [pt A.bs] h1=.ok (.int .i64 (fr.length:Int)) h1:=k2
 have k3:call AF (m+10) 28 [pt A.bd] h1=.ok nilS h2:=k3
 have hrun:∃ e',onF (call AF (m+10)) e h=.norm e' h2∧AB 0 e'=AB 0 e∧AB 4 e'=AB 4 e∧AB 5 e'=AB 5 e∧AB 7 e'=AB 7 e:=by
  unfold onF
  simp only[sT,Nat.reduceLT,Nat.reduceEqDiff,reduceIte,gD,cA0,s4,k1,s5,k2,Am,s11,ln,Bz,a8,AO,AN,c1,k3,ln0,c2]
  exact⟨_,rfl,by simp[AH,s4,s5]⟩
 obtain⟨e',r1,r2,r3,r4,r5⟩:=hrun
 exact⟨e',h2,r1,r2,r3,r4,r5,(f1.mono fun b hb=>.inr hb).trans (.of x2),s1.ext f1.wf x2⟩
theorem OI{r:Nat}(W0:h0.Wf)(x0:h0.Ext h)(hD0:∀ b,A.D b→h0.next≤b)(hn:A.n=24)(hop:∀ g:Hp,h0.Ext g→idxSR 7 v (.int .i64 (i:Int)) g=.ok (.pointer (some ⟨r,i * 7,none⟩)) g∧loadN 7 ⟨r,i * 7,none⟩ g=.ok (opV kd a b c no u w) g∧load1 ⟨r,i * 7+5,none⟩ g=.ok u g)(V:h0.VE u (l.map bv))(hl:l.length≤150)
  (s:Sl h A T M c0 arm ks fr lv fv bad false)(iv:InvS ks fr)(hk:∀ b,A.D b→b<k)(Nw:h.AL k nw ks)(hq:Sd ks fr.length kd a b c l z)(s0:AB 0 e=v)(s4:AB 4 e=pt A.bd)(s5:AB 5 e=pt A.bs)(s7:AB 7 e=.int .i64 (i:Int))(s10:AB 10 e=.int .i64 z)(s11:AB 11 e=nw):
  ∃ e' h' c1 lv' fv',onD (call AF (m+10)) e h=.norm e' h'∧AB 0 e'=v∧AB 4 e'=pt A.bd∧AB 5 e'=pt A.bs∧AB 7 e'=.int .i64 (i:Int)∧Fx A.D h h'∧Sl h' A T M c1 1048576 ks fr lv' fv' bad false:=by
 have W:=x0.wf
 have hln:=iv.len
 obtain⟨h1,k1,f1,s1⟩:=WD (m:=m+8) (z:=0) W s (by omega)
 have f1':Fx A.D h h1:=f1.mono fun b hb=>.inr hb
 have x1:=Fx.xtF x0 f1' hD0
 obtain⟨q1,q2,_⟩:=hop h1 x1
 obtain⟨h2,c2,arm2,lv2,fv2,k2,f2,s2,_⟩:=VZ (m:=m) (k:=0) (no:=no) (w:=w) f1.wf s1 (V.ext W0 x1) (by omega) (by omega) (fun x hx=>by rw[hn];exact iv.lt x hx) hq ⟨by omega,by omega,.inr (by omega)⟩
 have hz:iNe z z=false:=CT rfl
 obtain⟨h3,v3,k3,y3,a3⟩:=KH (m:=m+6) f2.wf s2.row s2.ls.ks s2.all (by omega)
 have s3:=s2.ext f2.wf y3
 have Nw3:h3.AL k nw ks:=((Nw.fx W f1' hk).fx f1.wf f2 hk).ext f2.wf y3
 obtain⟨h4,k4,y4⟩:=Tu (m:=m+7) y3.wf a3 Nw3 rfl (fun x hx=>(s3.ko x hx).2.1) (by omega)
 have s4':=s3.ext y3.wf y4
 have k5:=dE (m:=m+9) s4'.row
 have k1:call AF (m+10) 26 [pt A.bd,.int .i64 0] h=.ok noRes h1:=k1
 have k3:call AF (m+10) 21 [pt A.bs] h2=.ok v3 h3:=k3
 have k4:call AF (m+10) 25 [v3,nw] h3=.ok (.bool true) h4:=k4
 have k5:call AF (m+10) 27 [pt A.bs] h4=.ok (.bool false) h4:=k5
 have pre:∃ e1,onD (call AF (m+10)) e h=onF (call AF (m+10)) e1 h4∧AB 0 e1=v∧AB 4 e1=pt A.bd∧AB 5 e1=pt A.bs∧AB 7 e1=.int .i64 (i:Int)∧AB 11 e1=nw:=by
  rw[kN]
  unfold oO
  simp only[sT,Nat.reduceLT,Nat.reduceEqDiff,reduceIte,gD,cA0,s4,k1,A8,s0,s7,q1,Aw,Av,q2,s5,k2,AO,AN,s10,hz,k3,s11,k4,Bt,Br,Bool.not_true,k5]
  exact⟨_,rfl,by simp[AH,s0,s4,s5,s7,s11]⟩
 obtain⟨e1,p1,t0,t4,t5,t7,t11⟩:=pre
 obtain⟨e2,h5,r1,r2,r3,r4,r5,f5,s6⟩:=kO (m:=m) y4.wf s4' iv (Nw3.ext y3.wf y4) t4 t5 t11
 exact⟨e2,h5,c2,lv2,fv2,p1.trans r1,r2.trans t0,r3.trans t4,r4.trans t5,r5.trans t7,((f1'.trans f2).trans (.of (y3.trans y4))).trans f5,s6⟩
theorem cq{r:Nat}(W0:h0.Wf)(x0:h0.Ext h)(hD0:∀ b,A.D b→h0.next≤b)(hn:A.n=24)(hop:∀ g:Hp,h0.Ext g→idxSR 7 v (.int .i64 (i:Int)) g=.ok (.pointer (some ⟨r,i * 7,none⟩)) g∧loadN 7 ⟨r,i * 7,none⟩ g=.ok (opV kd a b c no u w) g∧load1 ⟨r,i * 7+5,none⟩ g=.ok u g)(V:h0.VE u (l.map bv))(hlb:∀ x∈l,x<256)(hl:l.length≤150)
  (s:Sl h A T M c0 arm ks fr lv fv bad false)(iv:InvS ks fr)(ha:Bu arm 80)(s0:AB 0 e=v)(s4:AB 4 e=pt A.bd)(s5:AB 5 e=pt A.bs)(s7:AB 7 e=.int .i64 (i:Int)):
  ∃ e' h' M' c1 ks' fr' lv' fv',onC (call AF (m+10)) e h=.norm e' h'∧AB 0 e'=v∧AB 4 e'=pt A.bd∧AB 5 e'=pt A.bs∧AB 7 e'=.int .i64 (i:Int)∧Fx A.D h h'∧Sl h' A T M' c1 1048576 ks' fr' lv' fv' bad false∧InvS ks' fr':=by
 have W:=x0.wf
 have hln:=iv.len
 have hD:=s.D_lt W
 obtain⟨h1,v1,k1,y1,a1⟩:=KH (m:=m+6) W s.row s.ls.ks s.all (by omega)
 have s1:=s.ext W y1
 have x1:=x0.trans y1
 have k2:=OR (m:=m+9) s1.row s1.fs.vals
 obtain⟨q1,q2,_⟩:=hop h1 x1
 have k1:call AF (m+10) 21 [pt A.bs] h=.ok v1 h1:=k1
 have k2:call AF (m+10) 20 [pt A.bs] h1=.ok (.int .i64 (fr.length:Int)) h1:=k2
 rcases aV (m:=m) (k:=40) y1.wf s1 (V.ext W0 x1) hlb (by omega) (by omega) (by omega) (fun x hx=>by rw[hn];exact iv.lt x hx) iv.nd ha kd a b c no w with ⟨z,h2,c2,arm2,lv2,fv2,hq,k3,f2,s2,_⟩|⟨ks',fr',M',h2,c2,arm2,lv2,fv2,ht,k3,f2,s2,_⟩
 ·have x2:=Fx.xtF x1 f2 hD0
  have hD2:=s2.D_lt f2.wf
  obtain⟨h3,v3,k4,y3,a3⟩:=KH (m:=m+6) f2.wf s2.row s2.ls.ks s2.all (by omega)
  have s3:=s2.ext f2.wf y3
  have k4:call AF (m+10) 21 [pt A.bs] h2=.ok v3 h3:=k4
  by_cases hz:z=0
  ·subst hz
   have c1:iNe 0 0=false:=CT rfl
   have pre:∃ e1,onC (call AF (m+10)) e h=onD (call AF (m+10)) e1 h3∧AB 0 e1=v∧AB 4 e1=pt A.bd∧AB 5 e1=pt A.bs∧AB 7 e1=.int .i64 (i:Int)∧AB 10 e1=.int .i64 0∧AB 11 e1=v3:=by
    rw[SH]
    unfold cr
    simp only[sT,Nat.reduceLT,Nat.reduceEqDiff,reduceIte,gD,cA0,s5,k1,k2,A8,s0,s7,q1,Aw,Av,q2,k3,k4,AO,AN,c1]
    exact⟨_,rfl,by simp[AH,s0,s4,s5,s7]⟩
   obtain⟨e1,p1,t0,t4,t5,t7,t10,t11⟩:=pre
   obtain⟨e2,h5,c5,lv5,fv5,r1,r2,r3,r4,r5,f5,s5'⟩:=OI (m:=m) W0 (x2.trans y3) hD0 hn hop V hl s3 iv hD2 a3 hq t0 t4 t5 t7 t10 t11
   exact⟨e2,h5,M,c5,ks,fr,lv5,fv5,p1.trans r1,r2,r3,r4,r5,(((Fx.of y1).trans f2).trans (.of y3)).trans f5,s5',iv⟩
  ·have c1:iNe z 0=true:=Mu hz
   obtain⟨h4,k5,y4⟩:=Tu (m:=m+7) y3.wf ((a1.fx y1.wf f2 hD).ext f2.wf y3) a3 rfl (fun x hx=>(s3.ko x hx).2.1) (by omega)
   have s4':=s3.ext y3.wf y4
   have k6:=OR (m:=m+9) s4'.row s4'.fs.vals
   have c2':iNe (fr.length:Int) (fr.length:Int)=false:=CT rfl
   have k5:call AF (m+10) 25 [v1,v3] h3=.ok (.bool true) h4:=k5
   have k6:call AF (m+10) 20 [pt A.bs] h4=.ok (.int .i64 (fr.length:Int)) h4:=k6
   have pre:∃ e1,onC (call AF (m+10)) e h=onD (call AF (m+10)) e1 h4∧AB 0 e1=v∧AB 4 e1=pt A.bd∧AB 5 e1=pt A.bs∧AB 7 e1=.int .i64 (i:Int)∧AB 10 e1=.int .i64 z∧AB 11 e1=v3:=by
    rw[SH]
    unfold cr
    simp only[sT,Nat.reduceLT,Nat.reduceEqDiff,reduceIte,gD,cA0,s5,k1,k2,A8,s0,s7,q1,Aw,Av,q2,k3,k4,AO,AN,c1,k5,Bt,Br,Bool.not_true,k6,c2']
    exact⟨_,rfl,by simp[AH,s0,s4,s5,s7]⟩
   obtain⟨e1,p1,t0,t4,t5,t7,t10,t11⟩:=pre
   obtain⟨e2,h5,c5,lv5,fv5,r1,r2,r3,r4,r5,f5,s5'⟩:=OI (m:=m) W0 ((x2.trans y3).trans y4) hD0 hn hop V hl s4' iv hD2 (a3.ext y3.wf y4) hq t0 t4 t5 t7 t10 t11
   exact⟨e2,h5,M,c5,ks,fr,lv5,fv5,p1.trans r1,r2,r3,r4,r5,(((Fx.of y1).trans f2).trans (.of (y3.trans y4))).trans f5,s5',iv⟩
 ·obtain⟨iv',hq⟩:=ZB iv ht
  have hln':=iv'.len
  have x2:=Fx.xtF x1 f2 hD0
  have hD2:=s2.D_lt f2.wf
  obtain⟨h3,v3,k4,y3,a3⟩:=KH (m:=m+6) f2.wf s2.row s2.ls.ks s2.all (by omega)
  have s3:=s2.ext f2.wf y3
  have k4:call AF (m+10) 21 [pt A.bs] h2=.ok v3 h3:=k4
  have c1:iNe 0 0=false:=CT rfl
  have pre:∃ e1,onC (call AF (m+10)) e h=onD (call AF (m+10)) e1 h3∧AB 0 e1=v∧AB 4 e1=pt A.bd∧AB 5 e1=pt A.bs∧AB 7 e1=.int .i64 (i:Int)∧AB 10 e1=.int .i64 0∧AB 11 e1=v3:=by
   rw[SH]
   unfold cr
   simp only[sT,Nat.reduceLT,Nat.reduceEqDiff,reduceIte,gD,cA0,s5,k1,k2,A8,s0,s7,q1,Aw,Av,q2,k3,k4,AO,AN,c1]
   exact⟨_,rfl,by simp[AH,s0,s4,s5,s7]⟩
  obtain⟨e1,p1,t0,t4,t5,t7,t10,t11⟩:=pre
  obtain⟨e2,h5,c5,lv5,fv5,r1,r2,r3,r4,r5,f5,s5'⟩:=OI (m:=m) W0 (x2.trans y3) hD0 hn hop V hl s3 iv' hD2 a3 hq t0 t4 t5 t7 t10 t11
  exact⟨e2,h5,M',c5,ks',fr',lv5,fv5,p1.trans r1,r2,r3,r4,r5,(((Fx.of y1).trans f2).trans (.of y3)).trans f5,s5',iv'⟩
theorem cw(W0:h0.Wf)(x0:h0.Ext h)(hD0:∀ b,A.D b→h0.next≤b)(hn:A.n=24)(O:OpsS h0 v n 25)(s:Sl h A T M c0 arm ks fr lv fv bad false)(iv:InvS ks fr)(ha:Bu arm 80)(s0:AB 0 e=v)(s4:AB 4 e=pt A.bd)(s5:AB 5 e=pt A.bs)(s7:AB 7 e=.int .i64 ((0:Nat):Int)):
  ∃ e' h',Az onL (call AF (m+10)) e h=.exit 0 e' h'∧h0.Ext h':=by
 refine Be (I:=fun i e' h'=>h0.Ext h'∧AB 0 e'=v∧AB 4 e'=pt A.bd∧AB 5 e'=pt A.bs∧AB 7 e'=.int .i64 (i:Int)∧∃ M c0 arm ks fr lv fv,Sl h' A T M c0 arm ks fr lv fv bad false∧InvS ks fr∧Bu arm 80)
  (Q:=fun x=>∃ e' h',x=.exit 0 e' h'∧h0.Ext h') 25 (by omega) (fun i e' h' ⟨x',t0,t4,t5,t7,M,c0,arm,ks,fr,lv,fv,s,iv,ha⟩=>?_) ⟨x0,s0,s4,s5,s7,M,c0,arm,ks,fr,lv,fv,s,iv,ha⟩
 have ln:=O.len h'
 by_cases hin:i<n
 ·have c1:=Eo hin
  by_cases hi25:i<25
  ·left
   have c2:iLt (i:Int) 25=true:=Jy (by omega)
   obtain⟨r,kd,a,b,c,no,u,w,l,hop,V,hlb⟩:=O.get i hin hi25
   have vl:=V.bl h'
   have W':=x'.wf
   obtain⟨q1,q2,q3⟩:=hop h' x'
   have a3:=fun g:Hp=>CR (i:=i) (h:=g) (by omega)
   have pre:∃ e1,onL (call AF (m+10)) e' h'=onK (call AF (m+10)) e1 h'∧AB 0 e1=v∧AB 4 e1=pt A.bd∧AB 5 e1=pt A.bs∧AB 7 e1=.int .i64 (i:Int):=by
    rw[SI]
    unfold cu
    simp only[sT,Nat.reduceLT,Nat.reduceEqDiff,reduceIte,gD,Am,t0,ln,AO,AN,t7,c1,c2]
    exact⟨_,rfl,by simp[AH,t0,t4,t5,t7]⟩
   obtain⟨e1,p1,u0,u4,u5,u7⟩:=pre
   have rnd:∃ e2 h2,Hj 1 (onB (call AF (m+10)) e1 h')=.norm e2 h2∧AB 0 e2=v∧AB 4 e2=pt A.bd∧AB 5 e2=pt A.bs∧AB 7 e2=.int .i64 (i:Int)∧h0.Ext h2∧∃ M c0 arm ks fr lv fv,Sl h2 A T M c0 arm ks fr lv fv bad false∧InvS ks fr∧Bu arm 80:=by
    by_cases h150:150<l.length
    ·have c3:iGt (l.length:Int) 150=true:=Fl (by omega)
     have hrun:∃ e2,onB (call AF (m+10)) e1 h'=.exit 1 e2 h'∧AB 0 e2=v∧AB 4 e2=pt A.bd∧AB 5 e2=pt A.bs∧AB 7 e2=.int .i64 (i:Int):=by
      rw[YO]
      unfold kM
      simp only[sT,Nat.reduceLT,Nat.reduceEqDiff,reduceIte,A8,u0,u7,q1,AJ,AQ,AP,AU,q3,Am,vl,AO,AN,c3]
      exact⟨_,rfl,by simp[AH,u0,u4,u5,u7]⟩
     obtain⟨e2,r1,r2,r3,r4,r5⟩:=hrun
     exact⟨e2,h',by rw[r1,A5],r2,r3,r4,r5,x',M,c0,arm,ks,fr,lv,fv,s,iv,ha⟩
    ·have c3:iGt (l.length:Int) 150=false:=Ei (by omega)
     have hrun:∃ e2,onB (call AF (m+10)) e1 h'=onC (call AF (m+10)) e2 h'∧AB 0 e2=v∧AB 4 e2=pt A.bd∧AB 5 e2=pt A.bs∧AB 7 e2=.int .i64 (i:Int):=by
      rw[YO]
      unfold kM
      simp only[sT,Nat.reduceLT,Nat.reduceEqDiff,reduceIte,A8,u0,u7,q1,AJ,AQ,AP,AU,q3,Am,vl,AO,AN,c3]
      exact⟨_,rfl,by simp[AH,u0,u4,u5,u7]⟩
     obtain⟨e2,r1,r2,r3,r4,r5⟩:=hrun
     obtain⟨e3,h3,M',c1',ks',fr',lv',fv',g1,g2,g3,g4,g5,g6,g7,g8⟩:=cq (m:=m) W0 x' hD0 hn hop V hlb (by omega) s iv ha r2 r3 r4 r5
     exact⟨e3,h3,by rw[r1,g1,Df],g2,g3,g4,g5,Fx.xtF x' g6 hD0,M',c1',1048576,ks',fr',lv',fv',g7,g8,⟨by omega,by omega,.inr (by omega)⟩⟩
   obtain⟨e2,h2,r1,r2,r3,r4,r5,r6,r7⟩:=rnd
   have fin:∃ e3,onI (call AF (m+10)) e2 h2=.norm e3 h2∧AB 0 e3=v∧AB 4 e3=pt A.bd∧AB 5 e3=pt A.bs∧AB 7 e3=.int .i64 ((i+1:Nat):Int):=by
    unfold onI
    simp only[sT,Nat.reduceLT,Nat.reduceEqDiff,reduceIte,BR,r5,a3]
    exact⟨_,rfl,by simp[AH,r2,r3,r4]⟩
   obtain⟨e3,f1,f2,f3,f4,f5⟩:=fin
   refine⟨hi25,e3,h2,?_,r6,f2,f3,f4,f5,r7⟩
   rw[p1,kP]
   simp only[BP,A1,r1,BJ,f1]
  ·right
   have c2:iLt (i:Int) 25=false:=GT (by omega)
   obtain⟨e2,r1⟩:∃ e2,onL (call AF (m+10)) e' h'=.exit 0 e2 h':=by
    rw[SI]
    unfold cu
    simp only[sT,Nat.reduceLT,Nat.reduceEqDiff,reduceIte,gD,Am,t0,ln,AO,AN,t7,c1,c2]
    exact⟨_,rfl⟩
   rw[r1]
   exact⟨rfl,e2,h',rfl,x'⟩
 ·right
  have c1:=DD (show n≤i by omega)
  obtain⟨e2,r1⟩:∃ e2,onL (call AF (m+10)) e' h'=.exit 0 e2 h':=by
   rw[SI]
   unfold cu
   simp only[sT,Nat.reduceLT,Nat.reduceEqDiff,reduceIte,gD,Am,t0,ln,AO,AN,t7,c1]
   exact⟨_,rfl⟩
  rw[r1]
  exact⟨rfl,e2,h',rfl,x'⟩
theorem db:∃ T:List Nat,MG=T.map wv∧TblOk T:=by
 obtain⟨_,_,h1,h2⟩:=SW
 obtain⟨T,h3,h4⟩:=Qw h2
 have hl:T.length=256:=by rw[h3,List.length_map]at h1;exact h1
 exact⟨T,h3,lH hl h4⟩
theorem cx(W:h.Wf)(O:OpsS h v n 25):∃ h',call AF (m+11) 5 [v] h=.ok (.bool true) h'∧h.Ext h':=by
 have k9:call AF (m+10) 9 [] h=.ok (.agg ⟨MG⟩) h:=Ug (n:=m+9) Y9
 obtain⟨T,hTl,hT⟩:=db
 rw[hTl]at k9
 have hz:dh.zero.length=256:=by kernel_rfl
 have f9:=fun (F:CallF) (e:Env)=>B7 (F:=F) (e:=e) (n:=256) (t:=Ob) W
 have y2:=(Hp.Ext.refl W).push (.cells Ob 256 0)
 have R9:(h.push (.cells Ob 256 0)).Row h.next 0 dh.zero:=Hp.Row.alloc W dz hz
 generalize h.push (.cells Ob 256 0)=h2 at f9 y2 R9
 obtain⟨st,y3,R9'⟩:=kl W y2 (Nat.le_refl _) R9 hz hT.1
 generalize h2.wr h.next 0 (T.map wv)=h3 at st y3 R9'
 obtain⟨h4,bs,bd,bm,bc,lv,fv,c4,arm4,k4,x4,s4,hlv,l1,l2,l3,l4,a4⟩:=VW (m:=m+1) (k:=80) y3.wf R9' hT
 have k4:call AF (m+10) 10 [pt h.next,.int .i64 24] h3=.ok (.tuple ⟨[pt bd,pt bs,.bool true]⟩) h4:=k4
 have x04:=y3.trans x4
 have hD0:∀ b,At.D ⟨bs,bd,bm,bc,h.next,24⟩ b→h.next≤b:=fun b hb=>by
  have:=y3.next
  rcases hb with h1|h1|h1|h1<;>rw[h1]
  ·show h.next≤bs;omega
  ·show h.next≤bd;omega
  ·show h.next≤bm;omega
  ·show h.next≤bc;omega
 have pre:∃ e1,d5h (call AF (m+10)) (AV e0 0 [v]) h=onS (call AF (m+10)) e1 h4∧AB 0 e1=v∧AB 4 e1=pt bd∧AB 5 e1=pt bs∧AB 7 e1=.int .i64 ((0:Nat):Int):=by
  unfold d5h
  simp only[iN,Nat.reduceAdd,sT,Nat.reduceLT,Nat.reduceEqDiff,reduceIte,cA0,k9,f9,Ao,st,k4,BV,Bj,Bo,C1,Bt,Br,Bool.not_true]
  exact⟨_,rfl,by simp[AH]⟩
 obtain⟨e1,p1,t0,t4,t5,t7⟩:=pre
 obtain⟨e2,h5,r1,x5⟩:=cw (m:=m) W x04 hD0 rfl O s4 ⟨List.nodup_nil,.refl _⟩ a4 t0 t4 t5 t7
 have aw:=RB (bs:=AF) (n:=m+9) (f:=8) WH (h:=h5)
 refine⟨h5,?_,x5⟩
 rw[na rfl,nf,p1,kQ]
 simp only[BP,A1,r1,A5,BJ]
 unfold onE
 simp only[sT,Nat.reduceLT,Nat.reduceEqDiff,reduceIte,cA0,aw,lV0]
end
end
noncomputable section
open Go Go.RowKit Go.WideShapes Go.ChangeShapes
set_option maxRecDepth 100000
theorem WQ{W:World}{a:Addr}{v:Value}(h:W.cell? a=some v):a.spot=none∧∃ cs tt fr,W.heap[a.block]? =some (.cells cs tt fr)∧cs[a.off]? =some v:=by
 unfold World.cell? at h
 split at h
 ·rename_i cs tt fr hb
  split at h
  ·cases h
  ·rename_i hs
   refine⟨?_,cs,tt,fr,hb,h⟩
   cases hsp:a.spot with
   |none=>rfl
   |some s=>rw[hsp]at hs;exact(hs rfl).elim
 ·cases h
theorem Yn{W:World}{a:Addr}{L:List Value}{cs:Array Value}{tt:TypeId}{fr:Nat×Nat}(hb:W.heap[a.block]? =some (.cells cs tt fr))(hc:∀ j,j<L.length→cs[a.off+j]? =some (L.getD j noRes))(hf:∀ j,j<L.length→W.frozen? ⟨a.block,a.off+j,none⟩=false):Jo W a L:=by
 refine⟨cs,tt,fr,hb,hc,fun i hi hh=>?_⟩
 have h6:=hf i hi
 obtain⟨lo,hi'⟩:=fr
 simp only[World.frozen?,hb]at h6
 simp only at hh
 simp only[Bool.and_eq_false_iff,decide_eq_false_iff_not]at h6
 omega
theorem TZ{α:Type}{Q:Nat→α→Prop}:∀ n,(∀ i,i<n→∃ x,Q i x)→∃ xs:List α,xs.length=n∧∀ i x,xs[i]? =some x→Q i x
 |0,_=>⟨[],rfl,fun i x h=>by cases h⟩
 |n+1,h=>by
  obtain⟨xs,hl,hx⟩:=TZ n fun i hi=>h i (by omega)
  obtain⟨y,hy⟩:=h n (by omega)
  refine⟨xs++[y],by rw[List.length_append,hl];rfl,fun i x hi=>?_⟩
  rcases Nat.lt_or_ge i xs.length with h1|h1
  ·rw[List.getElem?_append_left h1]at hi;exact hx i x hi
  ·rw[List.getElem?_append_right h1]at hi
   have h2:i - xs.length< [y].length:=(List.getElem?_eq_some_iff.1 hi).1
   have h2:i - xs.length<1:=h2
   have h3:i - xs.length=0:=by omega
   rw[h3]at hi
   cases hi
   rw[show i=n by omega];exact hy
theorem Fk{s:Nat}:∀ {Ls:List (List Value)},(∀ l∈Ls,l.length=s)→Ls.flatten.length=Ls.length * s
 |[],_=>by simp
 |l::Ls,h=>by
  rw[List.flatten_cons,List.length_append,h l List.mem_cons_self,Fk fun x hx=>h x (List.mem_cons_of_mem _ hx),List.length_cons,Nat.succ_mul,Nat.add_comm]
theorem PJ{s:Nat}:∀ {Ls:List (List Value)} {i r:Nat} {l:List Value},(∀ l∈Ls,l.length=s)→Ls[i]? =some l→r<s→Ls.flatten[i * s+r]? =l[r]?
 |[],i,_,_,_,h,_=>by cases h
 |x::Ls,0,r,l,h,hi,hr=>by
  cases hi
  rw[List.flatten_cons,Nat.zero_mul,Nat.zero_add,List.getElem?_append_left (by rw[h x List.mem_cons_self];exact hr)]
 |x::Ls,i+1,r,l,h,hi,hr=>by
  have hx:=h x List.mem_cons_self
  rw[List.flatten_cons,List.getElem?_append_right (by rw[hx,Nat.succ_mul];omega),hx]
  have:(i+1) * s+r - s=i * s+r:=by rw[Nat.succ_mul];omega
  rw[this]
  exact PJ (fun y hy=>h y (List.mem_cons_of_mem _ hy)) hi hr
theorem Mh{s:Nat}:∀ {Ls:List (List Value)} {i:Nat} {l:List Value} (R:List Value),(∀ l∈Ls,l.length=s)→Ls[i]? =some l→((Ls.flatten++R).drop (i * s)).take s=l
 |[],i,_,_,_,h=>by cases h
 |x::Ls,0,l,R,h,hi=>by
  cases hi
  rw[Nat.zero_mul,List.drop_zero,List.flatten_cons,List.append_assoc]
  exact List.take_left' (h x List.mem_cons_self)
 |x::Ls,i+1,l,R,h,hi=>by
  have hx:=h x List.mem_cons_self
  have:(i+1) * s=s+i * s:=by rw[Nat.succ_mul,Nat.add_comm]
  rw[this,← List.drop_drop,List.flatten_cons,List.append_assoc,List.drop_left' hx]
  exact Mh R (fun y hy=>h y (List.mem_cons_of_mem _ hy)) hi
def Hh(W:World)(Q:List Value→Prop)(s:Nat)(v:Value)(n:Nat)(Ls:List (List Value)):Prop:=(∀ l∈Ls,l.length=s∧Q l)∧n≤Ls.length∧
 ((v=nilS∧Ls=[])∨(∃ a,v=.slice (some a) 0 0∧Ls=[])∨∃ a,v=.slice (some a) n Ls.length∧0<Ls.length∧a.spot=none∧Jo W a Ls.flatten)
theorem OT{H:Type}{enc:TypeId×Value→H}{P:Program}{t e:TypeId}{s:Nat}(ht:P.underlying t=some (.slice e))(hs:P.cellsOf e=s)(h0:0<s){W:World}{fuel:Nat}{v:Value}{x:DataW H×List MemPlace}{Q:List Value→Prop}
  (dec:∀ (m:Nat) (l:List Value) (y:DataW H×List MemPlace),l.length=s→DataW.trod enc P W 0 (fun _=>true) true m e l=some y→(∀ b off,MemPlace.cell b off∈y.2→W.frozen? ⟨b,off,none⟩=false)→Q l)
  (hf:DataW.trod enc P W 0 (fun _=>true) true fuel t [v]=some x)(hfz:∀ b off,MemPlace.cell b off∈x.2→W.frozen? ⟨b,off,none⟩=false):∃ n Ls,Hh W Q s v n Ls:=by
 rcases DataW.trod_slice ht hf with ⟨hcs,_⟩|⟨a,n,c,elems,rest,m,_,hcs,hx,_,hl,hm,hlen,hel,hsp,_⟩
 ·have:v=nilS:=by simpa using hcs
  exact⟨0,[],(fun l hl=>by cases hl),Nat.le_refl _,.inl ⟨this,rfl⟩⟩
 ·have:v=.slice (some a) n c:=by simpa using hcs
  subst this
  obtain⟨hrl,hr⟩:=hsp rfl
  subst hx
  rcases Nat.eq_zero_or_pos c with hc|hc
  ·subst hc
   have:n=0:=by omega
   subst this
   exact⟨0,[],(fun l hl=>by cases hl),Nat.le_refl _,.inr (.inl ⟨a,rfl,rfl⟩)⟩
  ·have htot:(elems++rest).length=c:=by rw[List.length_append];omega
   have each:∀ i,i<c→∃ l:List Value,(l.length=s∧Q l)∧∀ j,j<s→W.cell? ((a.add (i * s)).add j)=l[j]?:=fun i hi=>by
    have hi':i<(elems++rest).length:=by omega
    have hb:(W.cells? 0 (a.add (i * P.cellsOf e)) (P.cellsOf e)).bind (DataW.trod enc P W 0 (fun _=>true) true m e)=some ((elems++rest)[i]'hi'):=by
     rcases Nat.lt_or_ge i n with h4|h4
     ·have:=hel i h4
      rw[this,← List.getElem?_eq_getElem hi',List.getElem?_append_left (by omega)]
     ·have:=hr (i - n) (by omega)
      rw[show n+(i - n)=i by omega]at this
      rw[this,← List.getElem?_eq_getElem hi',List.getElem?_append_right (by omega),hlen]
    rw[hs,Option.bind_eq_some_iff]at hb
    obtain⟨l,h4,h5⟩:=hb
    obtain⟨_,h6,h7⟩:=World.cells?_some h4
    exact⟨l,⟨h6,dec m l _ h6 h5 fun b off hm=>hfz b off (List.mem_append_right _ (List.mem_flatMap.2 ⟨_,List.getElem_mem hi',hm⟩))⟩,h7⟩
   obtain⟨Ls,hLl,hLs⟩:=TZ c each
   have hall:∀ l∈Ls,l.length=s∧Q l:=fun l hl=>by
    obtain⟨i,hi,rfl⟩:=List.mem_iff_getElem.1 hl
    exact(hLs i _ (List.getElem?_eq_getElem hi)).1
   have hls:∀ l∈Ls,l.length=s:=fun l hl=>(hall l hl).1
   have hz:0<Ls.length:=by omega
   have c0:=(hLs 0 _ (List.getElem?_eq_getElem hz)).2 0 h0
   have hl0:0<(Ls[0]'hz).length:=by rw[hls _ (List.getElem_mem hz)];exact h0
   rw[List.getElem?_eq_getElem hl0,Nat.zero_mul]at c0
   have c0:W.cell? a=some ((Ls[0]'hz)[0]'hl0):=c0
   obtain⟨hsp0,cs,tt,fr,hb,_⟩:=WQ c0
   obtain⟨ab,ao,spot⟩:=a
   simp only at hsp0
   subst hsp0
   have hfl:=Fk hls
   refine⟨n,Ls,hall,by omega,.inr (.inr ⟨⟨ab,ao,none⟩,by rw[hLl],hz,rfl,Yn hb (fun j hj=>?_) fun j hj=>hfz ab (ao+j) (List.mem_append_left _ ?_)⟩)⟩
   ·rw[hfl]at hj
    have hi:j / s<Ls.length:=Nat.div_lt_of_lt_mul (by rw[Nat.mul_comm];exact hj)
    have hr:j % s<s:=Nat.mod_lt _ h0
    have e:j / s * s+j % s=j:=by rw[Nat.mul_comm];exact Nat.div_add_mod j s
    have hx:=List.getElem?_eq_getElem hi
    have q:=(hLs _ _ hx).2 _ hr
    have g:=PJ hls hx hr
    rw[e]at g
    have hll:j % s<(Ls[j / s]'hi).length:=by rw[hls _ (List.getElem_mem hi)];exact hr
    rw[List.getElem?_eq_getElem hll]at q g
    rw[Addr.add_is,Addr.add_is,HE hb]at q
    rw[List.getD_eq_getElem?_getD,g]
    show cs[ao+j]? =some _
    have:ao+j / s * s+j % s=ao+j:=by omega
    rw[← this];exact q
   ·simp only[MemPlace.row,List.mem_map,List.mem_range]
    exact⟨j,by rw[hfl]at hj;rw[hs,hlen,hrl,show n+(c - n)=c by omega,← hLl];exact hj,rfl⟩
theorem Ty{φ:Phi}{a:Addr}{n c i m:Nat}(hs:a.spot=none)(hn:n≤c)(hc:0<c)(hm:0<m)(hp:φ i=some (OM a m)):RelV φ (.slice (some ⟨i,0,none⟩) n c) (.slice (some a) n c):=by
 refine .slice hn ⟨rfl,hs,_,hp,rfl,.inl ⟨hc,?_,.inl rfl⟩⟩
 show a.off=(if m=0 then 0 else a.off)+0
 rw[if_neg (by omega),Nat.add_zero]
theorem Hh.rel{W:World}{Q:List Value→Prop}{s n:Nat}{v:Value}{Ls:List (List Value)}(b:Hh W Q s v n Ls)(h0:0<s)(rf:∀ l,Q l→∀ φ,RelL φ l l)(i:Nat):∃ (u:Value) (q:Option Pl),V3 W Ls.flatten q∧(∀ φ,RelL φ Ls.flatten Ls.flatten)∧(∀ φ:Phi,φ i=q→RelV φ u v)∧
  ((u=nilS∧Ls=[])∨(u=.chan (some 0)∧Ls=[])∨u=.slice (some ⟨i,0,none⟩) n Ls.length):=by
 obtain⟨h1,h2,h3⟩:=b
 have hrel:∀ φ,RelL φ Ls.flatten Ls.flatten:=fun φ=>by
  clear h2 h3
  induction Ls with
  |nil=>exact .nil
  |cons l Ls ih=>
   rw[List.flatten_cons]
   exact(rf l (h1 l List.mem_cons_self).2 φ).append (ih fun l hl=>h1 l (List.mem_cons_of_mem _ hl))
 rcases h3 with ⟨rfl,rfl⟩|⟨a,rfl,rfl⟩|⟨a,rfl,h4,h5,h6⟩
 ·exact⟨nilS,none,.inl rfl,hrel,fun _ _=>.slice0,.inl ⟨rfl,rfl⟩⟩
 ·have:n=0:=by simpa using h2
  subst this
  exact⟨.chan (some 0),none,.inl rfl,hrel,fun _ _=>.slcE,.inr (.inl ⟨rfl,rfl⟩)⟩
 ·have hfl:=Fk fun l hl=>(h1 l hl).1
  refine⟨.slice (some ⟨i,0,none⟩) n Ls.length,some (OM a Ls.flatten.length),.inr ⟨a,rfl,h6⟩,hrel,fun φ hφ=>Ty h5 h2 h4 (by rw[hfl];exact Nat.mul_pos h4 h0) hφ,.inr (.inr rfl)⟩
def QB(l:List Value):Prop:=∃ x:Nat,l=[bv x]∧x<256
def QL(l:List Value):Prop:=∃ b:Bool,l=[.bool b]
theorem eX{l:List Value}(h:QB l)(φ:Phi):RelL φ l l:=by
 obtain⟨x,rfl,_⟩:=h
 exact .cons (.int _ _) .nil
theorem eY{l:List Value}(h:QL l)(φ:Phi):RelL φ l l:=by
 obtain⟨x,rfl⟩:=h
 exact .cons (.bool _) .nil
theorem QC:∀ xs:List Nat,(xs.map fun x=>[bv x]).flatten=xs.map bv
 |[]=>rfl
 |a::xs=>by rw[List.map_cons,List.flatten_cons,QC xs];rfl
theorem MZ:∀ {Ls:List (List Value)},(∀ l∈Ls,QB l)→∃ xs:List Nat,Ls=xs.map (fun x=>[bv x])∧∀ x∈xs,x<256
 |[],_=>⟨[],rfl,fun x hx=>by cases hx⟩
 |l::Ls,h=>by
  obtain⟨x,rfl,hx⟩:=h l List.mem_cons_self
  obtain⟨xs,rfl,hxs⟩:=MZ fun l hl=>h l (List.mem_cons_of_mem _ hl)
  exact⟨x::xs,rfl,fun y hy=>by
   rcases List.mem_cons.1 hy with rfl|hy
   ·exact hx
   ·exact hxs y hy⟩
theorem gk{W:World}{v:Value}{n:Nat}{Ls:List (List Value)}(b:Hh W QB 1 v n Ls):∃ l:List Nat,(∀ x∈l,x<256)∧∀ (i:Nat) (u:Value),((u=nilS∧Ls=[])∨(u=.chan (some 0)∧Ls=[])∨u=.slice (some ⟨i,0,none⟩) n Ls.length)→∀ h:Hp,h.Row i 0 Ls.flatten→h.VE u (l.map bv):=by
 obtain⟨h1,h2,_⟩:=b
 obtain⟨xs,rfl,hxs⟩:=MZ fun l hl=>(h1 l hl).2
 rw[List.length_map]at h2
 refine⟨xs.take n,fun x hx=>hxs x (List.mem_of_mem_take hx),fun i u hu h hr=>?_⟩
 rw[QC]at hr
 rcases hu with ⟨rfl,hx⟩|⟨rfl,hx⟩|rfl
 ·have:xs=[]:=by simpa using hx
  subst this
  exact .inl (.inl ⟨rfl,by simp⟩)
 ·have:xs=[]:=by simpa using hx
  subst this
  exact .inr ⟨⟨0,rfl⟩,by simp⟩
 ·have hl:(xs.take n).length=n:=by rw[List.length_take];omega
  refine .inl (.inr ⟨i,0,(xs.map fun x=>[bv x]).length,0,xs.map bv,?_,hr,?_,?_⟩)
  ·rw[List.length_map,List.length_map,hl]
  ·rw[List.length_map,hl,List.length_map];omega
  ·rw[List.length_map,hl,List.drop_zero,List.map_take]
structure OD where
 kd:Int
 a:Int
 b:Int
 c:Int
 no:Int
 u:Value
 w:Value
def OD.cells(x:OD):List Value:=opL x.kd x.a x.b x.c x.no x.u x.w
def V5(W:World)(x:OD):Prop:=(∃ n Ls,Hh W QB 1 x.u n Ls)∧∃ n Ls,Hh W QL 1 x.w n Ls
theorem kW{φ:Phi}{kd a b c no:Int}{ui ub vi vb:Value}(h1:RelV φ ui vi)(h2:RelV φ ub vb):RelL φ (opL kd a b c no ui ub) (opL kd a b c no vi vb):=
 .cons (.int _ _) (.cons (.int _ _) (.cons (.int _ _) (.cons (.int _ _) (.cons (.int _ _) (.cons h1 (.cons h2 .nil))))))
theorem Tn{W:World}:∀ (xs:List OD),(∀ x∈xs,V5 W x)→∀ k:Nat,∃ (us:List OD) (qs:List (Option Pl)) (Zs:List (List Value)),us.length=xs.length∧qs.length=2 * xs.length∧Zs.length=2 * xs.length∧
  (∀ (i:Nat) (q:Option Pl) (L:List Value),qs[i]? =some q→Zs[i]? =some L→V3 W L q∧∀ φ,RelL φ L L)∧(∀ φ:Phi,(∀ (i:Nat) (q:Option Pl),qs[i]? =some q→φ (i+k)=q)→RelL φ (us.flatMap OD.cells) (xs.flatMap OD.cells))∧
  (∀ h:Hp,(∀ (i:Nat) (L:List Value),Zs[i]? =some L→h.Row (i+k) 0 L)→∀ u∈us,∃ l:List Nat,h.VE u.u (l.map bv)∧∀ x∈l,x<256)
 |[],_,k=>⟨[],[],[],rfl,rfl,rfl,(fun i q L h=>by cases h),(fun φ _=>.nil),fun h _ x hx=>by cases hx⟩
 |x::xs,hx,k=>by
  obtain⟨us,qs,Zs,l1,l2,l3,h1,h2,h3⟩:=Tn xs (fun y hy=>hx y (List.mem_cons_of_mem _ hy)) (k+2)
  obtain⟨⟨n,LI,bI⟩,⟨n',LB,bB⟩⟩:=hx x List.mem_cons_self
  obtain⟨ui,q0,i1,i2,i3,i4⟩:=bI.rel (by omega) (fun l h φ=>eX h φ) k
  obtain⟨ub,q1,j1,j2,j3,j4⟩:=bB.rel (by omega) (fun l h φ=>eY h φ) (k+1)
  obtain⟨lb,hlb,hB⟩:=gk bI
  refine⟨⟨x.kd,x.a,x.b,x.c,x.no,ui,ub⟩::us,q0::q1::qs,LI.flatten::LB.flatten::Zs,by rw[List.length_cons,List.length_cons,l1],by simp only[List.length_cons];omega,by simp only[List.length_cons];omega,fun i q' L e1 e2=>?_,fun φ hφ=>?_,fun h hr y hy=>?_⟩
  ·match i,e1,e2 with
   |0,e1,e2=>cases e1;cases e2;exact⟨i1,i2⟩
   |1,e1,e2=>cases e1;cases e2;exact⟨j1,j2⟩
   |i+2,e1,e2=>exact h1 i q' L e1 e2
  ·rw[List.flatMap_cons,List.flatMap_cons]
   refine(kW (i3 φ (by have:=hφ 0 q0 rfl;rwa [Nat.zero_add]at this)) (j3 φ (by have:=hφ 1 q1 rfl;rwa [Nat.add_comm]at this))).append (h2 φ fun i q' e=>?_)
   have:=hφ (i+2) q' e
   rwa [show i+2+k=i+(k+2)by omega]at this
  ·rcases List.mem_cons.1 hy with rfl|hy
   ·exact⟨lb,hB k ui i4 h (by have:=hr 0 _ rfl;rwa [Nat.zero_add]at this),hlb⟩
   ·refine h3 h (fun i L e=>?_) y hy
    have:=hr (i+2) L e
    rwa [show i+2+k=i+(k+2)by omega]at this
theorem UJ(φ:Phi):∀ L:List Value,RelL φ (List.replicate L.length (Value.chan none)) L
 |[]=>.nil
 |_::L=>.cons .unk (UJ φ L)
def V4(W:World)(φ:Phi)(L:List Value)(q:Option Pl):Prop:=q=none∨∃ a L',q=some (OM a L.length)∧Jo W a L'∧RelL φ L L'
theorem V3.irel{W:World}{φ:Phi}{L:List Value}{q:Option Pl}(h:V3 W L q)(r:RelL φ L L):V4 W φ L q:=by
 rcases h with h|⟨a,ha,hr⟩
 ·exact .inl h
 ·exact .inr ⟨a,L,ha,hr,r⟩
theorem Yo{W:World}{ty:TTy}{ps:List (Option Pl)}{Ls:List (List Value)}(h256:Ls.length≤256)(hlen:ps.length=Ls.length)
  (h:∀ (i:Nat) (q:Option Pl) (L:List Value),ps[i]? =some q→Ls[i]? =some L→V4 W (Mv ps) L q):RelW ty (Mv ps) nil (inH Ls) W:=
 j0 h256 fun i p e=>by
  have e:(ps[i]?).getD none=some p:=e
  cases hq:ps[i]? with
  |none=>rw[hq]at e;cases e
  |some q=>
   rw[hq]at e
   have e:q=some p:=e
   subst e
   have hi:=(List.getElem?_eq_some_iff.1 hq).1
   have hL:=List.getElem?_eq_getElem (l:=Ls) (i:=i) (by omega)
   rcases h i _ _ hq hL with h|⟨a,L',ha,hr,hrl⟩
   ·cases h
   ·obtain rfl:=Option.some.inj ha
    exact⟨a,_,rfl,hL,hr.lt,Yd hr hrl⟩
theorem Il(xs:List OD):xs.flatMap OD.cells=(xs.map OD.cells).flatten:=by rw[List.flatMap_def]
theorem kX{W:World}{v:Value}{n:Nat}{Ls:List (List Value)}(b:Hh W (fun l=>∃ x:OD,l=x.cells∧V5 W x) 7 v n Ls)(i k cap:Nat):
  ∃ (u:Value) (q:Option Pl) (L0:List Value) (qs:List (Option Pl)) (Zs:List (List Value)),qs.length=2 * min n cap∧Zs.length=2 * min n cap∧
  (∀ φ:Phi,φ i=q→(∀ (j:Nat) (q':Option Pl),qs[j]? =some q'→φ (j+k)=q')→V4 W φ L0 q∧RelV φ u v)∧(∀ (j:Nat) (q':Option Pl) (L:List Value),qs[j]? =some q'→Zs[j]? =some L→V3 W L q'∧∀ φ,RelL φ L L)∧
  (∀ h:Hp,h.Wf→h.Row i 0 L0→(∀ (j:Nat) (L:List Value),Zs[j]? =some L→h.Row (j+k) 0 L)→OpsS h u n cap):=by
 obtain⟨h1,h2,h3⟩:=b
 rcases h3 with ⟨rfl,rfl⟩|⟨a,rfl,rfl⟩|⟨a,rfl,h4,h5,h6⟩
 ·have:n=0:=by simpa using h2
  subst this
  exact⟨nilS,none,[],[],[],by simp,by simp,fun φ _ _=>⟨.inl rfl,.slice0⟩,(fun j q' L h=>by cases h),fun h _ _ _=>⟨fun g=>rfl,fun i hi=>absurd hi (Nat.not_lt_zero _)⟩⟩
 ·have:n=0:=by simpa using h2
  subst this
  exact⟨.chan (some 0),none,[],[],[],by simp,by simp,fun φ _ _=>⟨.inl rfl,.slcE⟩,(fun j q' L h=>by cases h),fun h _ _ _=>⟨fun g=>rfl,fun i hi=>absurd hi (Nat.not_lt_zero _)⟩⟩
 ·obtain⟨xs,hxs⟩:∃ xs:List OD,Ls=xs.map OD.cells∧∀ x∈xs,V5 W x:=by
   clear h2 h4 h5 h6
   induction Ls with
   |nil=>exact⟨[],rfl,fun x hx=>by cases hx⟩
   |cons l Ls ih=>
    obtain⟨_,x,rfl,hx⟩:=h1 l List.mem_cons_self
    obtain⟨xs,rfl,hxs⟩:=ih fun l hl=>h1 l (List.mem_cons_of_mem _ hl)
    exact⟨x::xs,rfl,fun y hy=>by
     rcases List.mem_cons.1 hy with rfl|hy
     ·exact hx
     ·exact hxs y hy⟩
  obtain⟨rfl,hok⟩:=hxs
  rw[List.length_map]at h2 h4
  have hml:(xs.take (min n cap)).length=min n cap:=by rw[List.length_take];omega
  obtain⟨us,qs,Zs,l1,l2,l3,r1,r2,r3⟩:=Tn (xs.take (min n cap)) (fun x hx=>hok x (List.mem_of_mem_take hx)) k
  have hsplit:(xs.map OD.cells).flatten=(xs.take (min n cap)).flatMap OD.cells++(xs.drop (min n cap)).flatMap OD.cells:=by
   rw[← Il,← List.flatMap_append,List.take_append_drop]
  have hcl:∀ (ys:List OD),∀ l∈ys.map OD.cells,l.length=7:=fun ys l hl=>by
   obtain⟨x,_,rfl⟩:=List.mem_map.1 hl;rfl
  have ul:(us.flatMap OD.cells).length=(xs.take (min n cap)).length * 7:=by rw[Il,Fk (hcl us),List.length_map,l1]
  have vl:((xs.take (min n cap)).flatMap OD.cells).length=(xs.take (min n cap)).length * 7:=by rw[Il,Fk (hcl _),List.length_map]
  have hlen0:(us.flatMap OD.cells++List.replicate ((xs.drop (min n cap)).flatMap OD.cells).length (Value.chan none)).length=(xs.map OD.cells).flatten.length:=by
   rw[hsplit,List.length_append,List.length_append,List.length_replicate,ul,vl]
  have hpos:0<(xs.map OD.cells).flatten.length:=by rw[Fk (hcl xs),List.length_map];omega
  refine⟨.slice (some ⟨i,0,none⟩) n (xs.map OD.cells).length,some (OM a (xs.map OD.cells).flatten.length),us.flatMap OD.cells++List.replicate ((xs.drop (min n cap)).flatMap OD.cells).length (Value.chan none),qs,Zs,by rw[l2,hml],by rw[l3,hml],fun φ hφ hq=>⟨.inr ⟨a,(xs.map OD.cells).flatten,by rw[hlen0],h6,?_⟩,Ty h5 (by rw[List.length_map];exact h2) (by rw[List.length_map];exact h4) hpos hφ⟩,r1,fun h Wh hrow hrows=>⟨fun g=>Ea,fun j hj hj80=>?_⟩⟩
  ·rw[hsplit]
   exact(r2 φ hq).append (UJ φ _)
  ·have hju:j<us.length:=by rw[l1,hml];omega
   have hx:us[j]? =some (us[j]'hju):=List.getElem?_eq_getElem hju
   obtain⟨lb,hB,hlb⟩:=r3 h hrows _ (List.getElem_mem hju)
   refine⟨i,(us[j]'hju).kd,(us[j]'hju).a,(us[j]'hju).b,(us[j]'hju).c,(us[j]'hju).no,(us[j]'hju).u,(us[j]'hju).w,lb,fun g xg=>?_,hB,hlb⟩
   have hm:(us.map OD.cells)[j]? =some (us[j]'hju).cells:=by rw[List.getElem?_map,hx];rfl
   have hd:=Mh (List.replicate ((xs.drop (min n cap)).flatMap OD.cells).length (Value.chan none)) (hcl us) hm
   rw[← Il]at hd
   refine⟨?_,?_,?_⟩
   ·have:=DJ (h:=g) (n:=n) (c:=(xs.map OD.cells).length) (es:=7) (b:=i) (off:=0) (k:=.i64) hj
    rwa [Nat.zero_add]at this
   ·rw[(hrow.ext Wh xg).loadN (by rw[List.length_append,ul];omega),hd];rfl
   ·rw[(hrow.ext Wh xg).load1 (by rw[List.length_append,ul];omega)]
    have h5:((us.flatMap OD.cells++List.replicate ((xs.drop (min n cap)).flatMap OD.cells).length (Value.chan none)).drop (j * 7)).take 7=(us[j]'hju).cells:=hd
    have h6:=congrArg (fun l=>l[5]?) h5
    simp only[List.getElem?_take,List.getElem?_drop]at h6
    rw[if_pos (by omega)]at h6
    rw[List.getD_eq_getElem?_getD,h6];rfl
end
end Go.Proofs.YtedbmmfebjfibaaGreat
namespace Go.Proofs.YtedbmmfebjfibaaGreat.slotsOnce
noncomputable section
open Go Go.ChangeShapes Go.WideShapes Go.ChangeAt Go.RowKit
set_option linter.unusedVariables false
theorem own:ownKnob Tryz.prog.godebug=none:=by kernel_rfl
theorem bK:laidOutB Tryz.prog=true:=by kernel_rfl
theorem jC:Tryz.prog.cellsOf 4=1:=by kernel_rfl
theorem jD:Tryz.prog.cellsOf 5=1:=by kernel_rfl
theorem Zu:Tryz.prog.cellsOf 54=7:=by kernel_rfl
theorem slc{H:Type}{enc:TypeId×Value→H}{P:Program}{W:World}{base t e:Nat}{v:Value}{x:DataW H}{p:List MemPlace}(ht:P.underlying t=some (.slice e))(h:Value.okWide P W .any base t v)(tx:DataW.Trod enc P W 0 (fun _=>true) true t v x p):
  ∃ fuel,DataW.trod enc P W 0 (fun _=>true) true fuel t [v]=some (x,p):=by
 have h':Cell.okWide P W .any base t v:=by
  unfold Value.okWide at h
  rw[ht]at h
  exact h
 obtain⟨fuel,hf⟩:=tx
 refine⟨fuel,?_⟩
 rcases SO ht h' with rfl|⟨a,n,c,rfl,_⟩<;>exact hf
section
variable {H:Type}{enc:TypeId×Value→H}{w:World}
theorem qn(m:Nat)(l:List Value)(y:DataW H×List MemPlace)(hl:l.length=1)(h:DataW.trod enc Tryz.prog w 0 (fun _=>true) true m 5 l=some y)(_:∀ b off,MemPlace.cell b off∈y.2→w.frozen? ⟨b,off,none⟩=false):QB l:=by
 obtain⟨a0,e0,_,hw⟩:=DataW.trod_int Tryz.underlying5 h
 have:=bounds_u8 hw
 subst e0
 exact⟨a0.toNat,by
  show [Value.int .u8 a0]=[Value.int .u8 ((a0.toNat:Nat):Int)]
  rw[Int.toNat_of_nonneg this.1],by omega⟩
theorem qo(m:Nat)(l:List Value)(y:DataW H×List MemPlace)(hl:l.length=1)(h:DataW.trod enc Tryz.prog w 0 (fun _=>true) true m 4 l=some y)(_:∀ b off,MemPlace.cell b off∈y.2→w.frozen? ⟨b,off,none⟩=false):QL l:=by
 obtain⟨a0,e0,_⟩:=DataW.trod_bool Tryz.underlying4 h
 exact⟨a0,e0⟩
theorem Rg{n:Nat}{l:List Value}(h:l.length=n+1):∃ a l',l=a::l'∧l'.length=n:=by
 cases l with
 |nil=>cases h
 |cons a l'=>exact⟨a,l',rfl,Nat.succ.inj h⟩
theorem qt{l:List Value}(h:l.length=7):∃ c0 c1 c2 c3 c4 c5 c6,l=[c0,c1,c2,c3,c4,c5,c6]:=by
 obtain⟨c0,l0,rfl,h0⟩:=Rg h
 obtain⟨c1,l1,rfl,h1⟩:=Rg h0
 obtain⟨c2,l2,rfl,h2⟩:=Rg h1
 obtain⟨c3,l3,rfl,h3⟩:=Rg h2
 obtain⟨c4,l4,rfl,h4⟩:=Rg h3
 obtain⟨c5,l5,rfl,h5⟩:=Rg h4
 obtain⟨c6,l6,rfl,h6⟩:=Rg h5
 obtain rfl:=List.eq_nil_of_length_eq_zero h6
 exact⟨c0,c1,c2,c3,c4,c5,c6,rfl⟩
set_option maxRecDepth 100000 in
theorem qp(m:Nat)(l:List Value)(y:DataW H×List MemPlace)(hl:l.length=7)(h:DataW.trod enc Tryz.prog w 0 (fun _=>true) true m 54 l=some y)(hfz:∀ b off,MemPlace.cell b off∈y.2→w.frozen? ⟨b,off,none⟩=false):∃ x:OD,l=x.cells∧V5 w x:=by
 obtain⟨c0,c1,c2,c3,c4,c5,c6,rfl⟩:=qt hl
 obtain⟨ys,k,_,rfl,_,hys,hfs⟩:=DataW.trod_struct Tryz.underlying54 h
 have hys:ys.length=7:=hys
 have g0:=hfs 0 _ rfl
 have g1:=hfs 1 _ rfl
 have g2:=hfs 2 _ rfl
 have g3:=hfs 3 _ rfl
 have g4:=hfs 4 _ rfl
 have g5:=hfs 5 _ rfl
 have g6:=hfs 6 _ rfl
 have g0:DataW.trod enc Tryz.prog w 0 (fun _=>true) true k 3 [c0]=some (ys[0]'(by omega)):=g0.trans (List.getElem?_eq_getElem _)
 have g1:DataW.trod enc Tryz.prog w 0 (fun _=>true) true k 3 [c1]=some (ys[1]'(by omega)):=g1.trans (List.getElem?_eq_getElem _)
 have g2:DataW.trod enc Tryz.prog w 0 (fun _=>true) true k 3 [c2]=some (ys[2]'(by omega)):=g2.trans (List.getElem?_eq_getElem _)
 have g3:DataW.trod enc Tryz.prog w 0 (fun _=>true) true k 3 [c3]=some (ys[3]'(by omega)):=g3.trans (List.getElem?_eq_getElem _)
 have g4:DataW.trod enc Tryz.prog w 0 (fun _=>true) true k 3 [c4]=some (ys[4]'(by omega)):=g4.trans (List.getElem?_eq_getElem _)
 have g5:DataW.trod enc Tryz.prog w 0 (fun _=>true) true k 22 [c5]=some (ys[5]'(by omega)):=g5.trans (List.getElem?_eq_getElem _)
 have g6:DataW.trod enc Tryz.prog w 0 (fun _=>true) true k 52 [c6]=some (ys[6]'(by omega)):=g6.trans (List.getElem?_eq_getElem _)
 obtain⟨a0,e0,_⟩:=DataW.trod_int Tryz.underlying3 g0
 obtain⟨a1,e1,_⟩:=DataW.trod_int Tryz.underlying3 g1
 obtain⟨a2,e2,_⟩:=DataW.trod_int Tryz.underlying3 g2
 obtain⟨a3,e3,_⟩:=DataW.trod_int Tryz.underlying3 g3
 obtain⟨a4,e4,_⟩:=DataW.trod_int Tryz.underlying3 g4
 have hB:=OT Tryz.underlying22 jD (by omega) (Q:=QB) qn g5 (fun b off hm=>hfz b off (List.mem_flatMap.2 ⟨_,List.getElem_mem (by omega),hm⟩))
 have hL:=OT Tryz.underlying52 jC (by omega) (Q:=QL) qo g6 (fun b off hm=>hfz b off (List.mem_flatMap.2 ⟨_,List.getElem_mem (by omega),hm⟩))
 cases e0;cases e1;cases e2;cases e3;cases e4
 exact⟨⟨a0,a1,a2,a3,a4,c5,c6⟩,rfl,hB,hL⟩
end
set_option maxRecDepth 100000 in
theorem lM{H:Type}{enc:TypeId×Value→H}(o:Value)(w:World){base:Nat}{d:DataW H}{p:List MemPlace}(ho:Value.okWide Tryz.prog w .any base 51 o)
  (to_:DataW.Trod enc Tryz.prog w 0 (fun _=>true) true 51 o d p)(fo:∀ b off,MemPlace.cell b off∈p→w.frozen? ⟨b,off,none⟩=false):
  Calls Tryz.prog 5 #[o] w fun e w'=>e=.returned (.bool true)∧Below w.heap.size w w':=by
 obtain⟨fuel,hf⟩:=slc Tryz.underlying51 ho to_
 obtain⟨n,Ls,R⟩:=OT Tryz.underlying51 Zu (by omega) (Q:=fun l=>∃ x:OD,l=x.cells∧V5 w x) qp hf fo
 obtain⟨u,q,L0,qs,Zs,l1,l2,r1,r2,r3⟩:=kX R 0 1 25
 have h256:(L0::Zs).length≤256:=by simp only[List.length_cons];omega
 have W0:(inH (L0::Zs)).Wf:=XT h256
 have O:=r3 _ W0 (TQ h256 (i:=0) rfl) (fun j L e=>TQ h256 (i:=j+1) e)
 obtain⟨h',hr,hx'⟩:=cx (m:=53) W0 O
 obtain⟨g1,g2⟩:=r1 (Mv (q::qs)) rfl (fun j q' e=>by
  show((q::qs)[j+1]?).getD none=q'
  have e:(q::qs)[j+1]? =some q':=e
  rw[e];rfl)
 refine dR Wg hr hx' rfl (.cons g2 .nil) (Yo (ps:=q::qs) h256 (by simp only[List.length_cons];omega) fun i q' L e1 e2=>?_)
 match i,e1,e2 with
 |0,e1,e2=>cases e1;cases e2;exact g1
 |i+1,e1,e2=>
  obtain⟨s1,s2⟩:=r2 i q' L e1 e2
  exact s1.irel (s2 _)
set_option maxRecDepth 100000 in
theorem kB(os:Os)(started:os.Started)(H:Type)(enc:TypeId×Value→H):
  ReturnsInHanded {} Tryz.checked os 5 .any (Rows.slotsOnceSpec.pre6 enc Tryz.prog Tryz.f5 Rows.slotsOnceRow.domain false) (Rows.slotsOnceSpec.post enc Tryz.prog Tryz.f5 false true false false):=by
 refine returnsInHanded_of_change (C:=Tryz.checked) own started (by kernel_rfl) Tryz.func5
  (ChangeSpec.witness6 (enc:=enc) (C:=Tryz.checked) false ⟨#[],#[.slice none 0 0],[]⟩ 8 (by kernel_rfl) (by kernel_rfl) (by kernel_rfl) (by kernel_rfl)) ?_
 intro W base args ds gs before hval0 hW hcnd _
 have hval:∀ (j:Nat) t v,Tryz.f5.params[j]? =some t→args[j]? =some v→Value.okWide Tryz.prog W .any base t v:=hval0
 have hW':=hW
 obtain⟨p,q,hA0,hV,rfl,hfz,hnd⟩:=hW
 have hA:DataW.TrodAll enc Tryz.prog W 0 (fun _=>true) true Tryz.f5.params.toList args.toList ds p:=hA0
 rw[Tryz.params5]at hA hval
 obtain⟨v0,vs0,d0,ds0,p0,q0,hargs,rfl,rfl,h0,r0⟩:=trodAll_cons hA
 obtain⟨rfl,rfl,rfl⟩:=trodAll_nil r0
 obtain rfl:args= #[v0]:=by cases args;simp_all
 obtain⟨rfl,rfl⟩:=trodVars_none hV
 clear hA0 hval0
 simp only[List.append_nil]at hW' hfz
 refine(lM v0 W (hval 0 51 v0 rfl rfl) h0 (fun b off hm=>hfz b off hm)).mono fun e W' ⟨he,hb⟩=>?_
 subst he
 refine⟨_,rfl,MT (pa:=p0) (pv:=[]) hW' (fun _ _ _=>(trodAll_cons_mk (shut_bool Tryz.underlying4 _) trodAll_mk0)) (fun sp hsp=>?_) (fun _ _=>rfl) (by simp) hb (ok_one (by kernel_rfl) rfl (okWide_bool_mk Tryz.underlying4 _))⟩
 have s0:=WideElems.Trod_stays bK (by kernel_rfl) (of_decide_eq_true (by kernel_rfl)) h0 (fun x hx=>hb.same (hW'.lt x hx)) (fun x hx=>hsp x hx)
 have:=trodAll_cons_mk s0 (trodAll_mk0 (enc:=enc) (P:=Tryz.prog) (w:=W') (base:=0) (spare:=sp) (held:=true))
 rw[List.append_nil]at this
 exact this
theorem over:Rows.slotsOnceRow.holds Tryz.pinned (OpenSpec.ofChange Rows.slotsOnceSpec):=
 OpenClaim.holds_of_wide 5 Tryz.f5 rfl rfl rfl rfl rfl rfl rfl ⟨rfl,rfl,rfl,rfl,rfl⟩ rfl rfl rfl rfl rfl (by kernel_rfl) Tryz.func5 (by kernel_rfl)
  (of_decide_eq_true (by kernel_rfl)) (by unfold Func.isWrapper;first|(rw[if_pos (by decide +kernel)];kernel_rfl)|(rw[if_neg (by decide +kernel)];exact⟨rfl,rfl⟩))
  (fun os started H enc _=>kB os started H enc)
theorem proved:Rows.SlotsOnceSaid:=
 over
#print axioms proved
end
end Go.Proofs.YtedbmmfebjfibaaGreat.slotsOnce
