/-
  'SlotsReuse' of layer 06 answers true, whatever memory it is called in, whatever bytes, choices and keeps it is handed and whatever the tape answers: no condition. What the canonical machine gives is shown for any of them (YtedbmmfebjfibaaGreatFdd); that machine is sound for the model (YtedbmmfebjfibaaGreatFns).
-/
import Derived.Test.YtedbmmfebjfibaaGreatZQ
import Derived.Test.YtedbmmfebjfibaaGreatRows
import Derived.ProofKit
import Derived.OpenShut
import Derived.Carry
open Nat renaming reduceEqDiff→AI,reduceLT→AT,reduceAdd→By,le_refl→IN,zero_add→sh
open Go renaming Value→BY,World→vt,Program→wK,MemPlace→ADN
open List renaming length_map→If,getElem?_eq_getElem→No,getD_eq_getElem?_getD→OF,replicate→vL,mem_singleton→vM,append_nil→vR,mem_append_right→vV,getElem?_eq_some_iff→vW,mem_append_left→vk,range→wI,getElem?_map→wN,take_nil→ACN
open Go.Proofs.Tryz renaming prog→vK,underlying22→xO,underlying5→yr,underlying4→zG,checked→AA3,f6→ABP,underlying52→ABa,func6→ACw
open Int renaming ofNat→wC
open Go.Value renaming okWide→wa,bool→zu
open Go.WideElems renaming Trod_stays→xL
open Go.MemPlace renaming cell→yW
open Go.Cell renaming okWide→yc
open Go.DataW renaming Trod→AAZ,trod→AAz
open Bool renaming and_false→ACF
open Go.ChangeSpec renaming witness6→ADH
open Go.OpenClaim renaming holds_of_wide→ADL
set_option linter.unusedVariables false
set_option linter.unusedSimpArgs false
namespace Go.Proofs.YtedbmmfebjfibaaGreat
noncomputable section
open Go
set_option maxRecDepth 100000
theorem nX:ruS=BK (Ad 1 (Ay ruL)) ruE:=rfl
theorem nR:ruD=nS:=rfl
theorem nY:ruT=BK (Ad 0 ruC) ruD:=rfl
theorem nP:ruB=nQ:=rfl
theorem nW:ruQ=BK ruA ruB:=rfl
theorem YI:d6=d6h:=rfl
def UpR(h:Hp)(A:At)(np:Nat)(T:List Nat)(s:Nat)(one two:List Nat):Prop:=
 ∃ M c0 arm ks fr lv fv,Sl h A T M c0 arm ks fr lv fv 0 false∧AEH np ks fr∧AEN np T M ks fr∧Com ks∧AEJ false arm∧∀ x∈ks,Reu s one two x
def StR(h:Hp)(A:At)(np:Nat)(T:List Nat)(s:Nat)(one two:List Nat):Prop:=St h A np T fun ks=>∀ x∈ks,Reu s one two x
section
variable {F:ADS}{e:Env}{h h' h0:Hp}{A:At}{T M one two:List Nat}{m k n np tb i s r15 r16 how arm:Nat}{ks:List Kt}{fr:List Nat}{v u w u1 u2 kv:BY}{bs:List Bool}
theorem nO{c:Int}{s n:Nat}(hc:c=1∨c=2)(hs:s=1∨s=2)(hn:n≤100):ADc 5 2 c s n=true:=decide_eq_true ⟨by omega,by omega,by omega,by omega,by omega,by omega,hs,by omega⟩
theorem aG{b el el':Nat}{L L':List BY}(r:h.Row b el L)(r':h.Row b el' L'):L=L':=by
 obtain⟨c,hc,hl⟩:=r;obtain⟨c',hc',hl'⟩:=r';rw[hc]at hc';injection hc' with e1 e2 e3
 subst e1;refine List.ext_getElem e2 fun i h1 h2=>?_
 have a1:=(hl i h1).2;have a2:=(hl' i h2).2;rw[a1,OF,OF,No h1,No h2]at a2;exact a2
theorem Sl.put(W:h.Wf){X:Kt}{c0 bad:Nat}{a:Int}{lv fv:BY}{ov:Bool}(s:Sl h A T M c0 a [X] fr lv fv bad ov){r:Nat}{x y z:Int}{t:Nat}(f:Fx (fun b=>b=r) h h')(R:h.Row r 0 (Aq x y z t u))(hD:¬ A.D r)(ht:A.tb≠r)(ku:h.BS (fun b=>¬ A.D b∧b≠r) X.u (X.l.map bv)):Sl h' A T M c0 a [X] fr lv fv bad ov:=by
 have hu:∀ {b el:Nat} {L:List BY},h.Row b el L→b=r→L=Aq x y z t u:=fun hb e=>by
  subst e;exact aG hb R
 refine⟨f.row W s.row fun h=>hD (by rw[← h];exact .inl rfl),s.dk.fr W f (fun h=>hD (by rw[← h];exact .inr (.inl rfl))) (fun h=>hD (by rw[← h];exact .inr (.inr (.inl rfl)))) (fun h=>hD (by rw[← h];exact .inr (.inr (.inr rfl)))),f.row W s.tab ht,s.tok,?_,fun k hk=>?_,?_,s.ne,s.le⟩
 ·rcases s.ls with h1|⟨b,c,el,L,h1,h2,h3,h4,h5,h6,h7⟩
  ·exact .inl h1
  ·refine .inr ⟨b,c,el,L,h1,h2,f.row W h3 fun e=>?_,h4,h5,h6,h7⟩
   have:=hu h3 e;rw[this]at h4;have h4:6*1≤5:=h4;omega
 ·have e:=vM.1 hk
  subst e;exact⟨ku.AEW fun b el L hb _ r=>⟨f.row W r hb.2,hb.1⟩,(s.ko k hk).2⟩
 ·rcases s.fs with h1|⟨b,el,h1,h2,h3,h4⟩
  ·exact .inl h1
  ·refine .inr ⟨b,el,h1,f.row W h2 fun e=>?_,h3,h4⟩
   have e1:=hu h2 e;have e2:(ints .i64 (fr.map wC))[3]? =some (.int .u8 (t:Int)):=by rw[e1];rfl
   unfold ints at e2;rw[wN]at e2;cases hq:(fr.map wC)[3]? with
   |none=>rw[hq]at e2;cases e2
   |some w=>rw[hq]at e2;cases e2
theorem fg(W:h.Wf)(hA:A.n=3*np)(hnp:np≤8){q1:Kt}{c0:Nat}{a:Int}{lv fv:BY}(sl:Sl h A T M c0 a [q1] fr lv fv 0 false)(iv:AEH np [q1] fr)(md:AEN np T M [q1] fr)(hc:Com [q1])(ha:AEJ false a)(g1:q1.a=5)(g2:q1.b=2)(g3:q1.c=1)(g4:q1.s=1)(g5:q1.l=one)
  (R15:h.Row r15 0 (Aq 5 2 1 1 u1))(hD:¬ A.D r15)(ht:A.tb≠r15)(ku:h.BS (fun b=>¬ A.D b∧b≠r15) q1.u (q1.l.map bv))(ADg:256≤r15)(s13:AB 13 e=pt A.bs)(s15:AB 15 e=pt r15)(s54:AB 54 e=.bool (decide (0<how % 3))):
  ∃ e' h' st,ruA (call AD (m+10)) e h=.norm e' h'∧Fx (fun b=>A.D b∨b=r15) h h'∧UpR h' A np T st one two∧h'.Row r15 0 (Aq 5 2 1 st u1)∧∀ j,(j=1∨j=2∨j=3∨j=4∨j=11∨j=12∨j=13∨j=15)→AB j e'=AB j e:=by
 by_cases h0:0<how % 3
 ·rw[decide_eq_true h0]at s54
  have hf1:CN 5 2 1 q1=true:=J6 (by show(q1.a,q1.b,q1.c)=_;rw[g1,g2,g3]);have e1:Iz [q1] 5 2 1=none:=by
   have h2:KH 5 2 q1=false:=by
    unfold KH;rw[show decide (q1.s=2)=false from decide_eq_false (by omega),ACF]
   have h3:Bp 5 2 1 [q1]=false:=by
    unfold Bp;rw[List.find?_cons_of_neg (by rw[h2];decide)];rfl
   unfold Iz;rw[List.find?_cons_of_pos hf1];show(if q1.s=2 then some 0 else if Bp 5 2 1 [q1]=true then some 61 else none)=none;rw[if_neg (by omega),h3,if_neg (by decide)]
  have hln:1+fr.length=np:=iv.len;obtain⟨j,kx,hj,AEi,hs1,hst,rr⟩:=Pe (m:=m+2) W sl (a:=5) (b:=2) (c:=1) (by show fr.length+1≤11;omega) (fun x hx=>by have:=iv.lt x hx;omega) iv.nd ha e1;rcases rr with ⟨h6,c6,AJr,lv6,fv6,k6,f6,s6,a6⟩|⟨_,_,_,_,_,dd⟩|⟨_,_,_,_,_,dd⟩
  rotate_left
  ·cases dd.may
  ·cases dd.may
  have t2:SE T M [q1] fr 5 5 2 1 [] _ _ _:=.inr (.inl ⟨.inl rfl,j,kx,hj,AEi,hst,rfl,rfl,rfl⟩);obtain⟨iv2,_⟩:=Ji iv t2;obtain⟨md2,hc2,_⟩:=Hg iv md hc t2;have hj0:j=0:=by
   have:j< [q1].length:=(vW.1 hj).1;have:j<1:=this;omega
  subst hj0;have hkx:q1=kx:=Option.some.inj hj;subst hkx;have eX:([q1].set 0 {q1 with s:=2}).filter (fun k=> !elB 5 2 1 k)=[{q1 with s:=2}]:=by
   show [({q1 with s:=2}:Kt)].filter (fun k=> !elB 5 2 1 k)=_;rw[List.filter_cons_of_pos (by
    unfold elB;rw[show decide ((q1.c:Int)<1)=false from decide_eq_false (by omega),ACF];rfl)]
   rfl
  have eE:elB q1.a q1.b q1.c=elB 5 2 1:=by rw[g1,g2,g3]
  unfold cmO cmK at s6;rw[eE]at s6;rw[eX]at s6 iv2 md2 hc2;have k6:call AD (m+10) 12 [pt A.bs,.int .i64 5,.int .i64 2,.int .i64 1] h=.ok (.int .i64 0) h6:=k6;have c00:iNe 0 0=false:=CV rfl;have R6:=f6.row W R15 hD;obtain⟨h7,st7,R7,_,f7,_⟩:=DK (v:=.int .u8 2) f6.wf R6 (off:=3) (show 3<5 by omega) ADg rfl rfl;have R7:h7.Row r15 0 (Aq 5 2 1 2 u1):=R7;have s7:=Sl.put f6.wf s6 f7 R6 hD ht (ku.AEW fun b el L hb _ r=>⟨f6.row W r hb.1,hb⟩);obtain⟨e2,r1,r2⟩:∃ e2,ruA (call AD (m+10)) e h=.norm e2 h7∧∀ j,(j=1∨j=2∨j=3∨j=4∨j=11∨j=12∨j=13∨j=15)→AB j e2=AB j e:=by
   unfold ruA;simp only[sT,AT,AI,reduceIte,gD,s54,s13,cA0,k6,AM,AK,c00,AJ,AO,sh,s15,Aa,st7];refine⟨_,rfl,fun j hj=>?_⟩;rcases hj with rfl|rfl|rfl|rfl|rfl|rfl|rfl|rfl<;>simp only[AF,AT,AI,reduceIte]
  refine⟨e2,h7,2,r1,(f6.mono fun b hb=>.inl hb).trans (f7.mono fun b hb=>.inr hb),⟨_,c6,AJr,_,_,lv6,fv6,s7,iv2,md2,hc2,a6,fun x hx=>?_⟩,R7,r2⟩;rw[vM.1 hx];exact⟨g1,g2,.inl ⟨g3,rfl,g5⟩⟩
 ·rw[decide_eq_false h0]at s54
  refine⟨e,h,1,?_,.refl W,⟨M,c0,a,[q1],fr,lv,fv,sl,iv,md,hc,ha,fun x hx=>?_⟩,R15,fun _ _=>rfl⟩
  ·unfold ruA
   simp only[sT,AT,AI,reduceIte,s54]
  ·rw[vM.1 hx]
   exact⟨g1,g2,.inl ⟨g3,g4,g5⟩⟩
theorem fh{st:Nat}(W:h.Wf)(U:UpR h A np T st one two)(U2:h.ADo u2 (two.map bv))(R15:h.Row r15 0 (Aq 5 2 1 st u1))(hD:¬ A.D r15)(s1:AB 1 e=u2)(s2:AB 2 e=.int .u8 (how:Int))(s3:AB 3 e=.int .u8 (arm:Int))(s12:AB 12 e=pt A.bd)(s15:AB 15 e=pt r15):
  ∃ e' h' r16,ruB (call AD (m+10)) e h=ruT (call AD (m+10)) e' h'∧Fx A.D h h'∧StR h' A np T st one two∧h'.Row r15 0 (Aq 5 2 1 st u1)∧h'.Row r16 0 (Aq 5 2 2 1 u2)∧¬ A.D r16∧AB 15 e'=pt r15∧AB 16 e'=pt r16∧AB 67 e'=.int .u8 ((how % 3:Nat):Int)∧∀ j,(j=1∨j=4∨j=11∨j=12∨j=13)→AB j e'=AB j e:=by
 obtain⟨M,c0,a,ks,fr,lv,fv,s,iv,md,hc,ha,hG⟩:=U;obtain⟨u2k,u2c,u2o⟩:=Jk U2;have bd:=fun (F:ADS) (e:Env) (he:AB 1 e=u2)=>Iq (F:=F) (e:=e) (h:=h) (g1:=kV (.int .i64 5)) (g2:=kV (.int .i64 2)) (g3:=kV (.int .i64 2)) (g5:=AB 1) rfl rfl rfl he u2c u2k
 have al1:=fun (F:ADS) (e:Env)=>Bm (F:=F) (e:=e) W (n:=5) (t:=Cc)
 have Ra:=Hp.Row.alloc W Ei (show(Aq 0 0 0 0 ADj).length=5 from rfl);have y1:h.Ext (h.push (.cells Cc 5 0)):=(Hp.Ext.refl W).push _;generalize h.push (.cells Cc 5 0)=h1 at al1 Ra y1;obtain⟨st1,_,y2,R16,_⟩:=KU W y1 (IN _) Ra rfl (a:=5) (b:=2) (c:=2) (s:=1) u2o;generalize h1.wr h.next 0 (Aq 5 2 2 1 u2)=h2 at st1 y2 R16;have AGA:¬ A.D h.next:=fun hb=>by
  have:=s.AF5 W _ hb;omega
 have q20:NG .u8 (.int .u8 (arm:Int)) (.int .u8 20) h2=.ok (.int .u8 ((arm % 20:Nat):Int)) h2:=O9 (k:=20) (by omega);have cv:DH .i64 (.int .u8 ((arm % 20:Nat):Int)) h2=.ok (.int .i64 ((arm % 20:Nat):Int)) h2:=by rw[CU,BW (by omega)]
 obtain⟨h3,k3,f3,s3'⟩:=iR (m:=m+8) y2.wf (s.ext W y2) (z:=((arm % 20:Nat):Int)) (by omega);have k3:call AD (m+10) 26 [pt A.bd,.int .i64 ((arm % 20:Nat):Int)] h2=.ok ADV h3:=k3;have q3:NG .u8 (.int .u8 (how:Int)) (.int .u8 3) h3=.ok (.int .u8 ((how % 3:Nat):Int)) h3:=O9 (k:=3) (by omega);have nK:∀ r,¬ A.D r→¬ A.K r:=fun r hr hk=>hr (.inr hk)
 obtain⟨e1,p1,t15,t16,t67,tj⟩:∃ e1,ruB (call AD (m+10)) e h=ruT (call AD (m+10)) e1 h3∧AB 15 e1=pt r15∧AB 16 e1=pt h.next∧AB 67 e1=.int .u8 ((how % 3:Nat):Int)∧∀ j,(j=1∨j=4∨j=11∨j=12∨j=13)→AB j e1=AB j e:=by
  rw[nP];unfold nQ;rw[F3 (by omega),bd _ _ s1];simp only[sT,AT,AI,reduceIte,gD,al1,Aa,st1,H4,s3,q20,B8,cv,s12,cA0,k3,s2,q3];refine⟨_,rfl,by simp[AF,s15],by simp[AF],by simp[AF],fun j hj=>?_⟩;rcases hj with rfl|rfl|rfl|rfl|rfl<;>simp only[AF,AT,AI,reduceIte]
 exact⟨e1,h3,h.next,p1,(Fx.of y2).trans (f3.mono fun b hb=>.inr hb),.up M c0 _ ks fr lv fv s3' iv md hc (.may (by omega) (by omega)) hG,f3.row y2.wf (R15.ext W y2) (nK _ hD),f3.row y2.wf R16 (nK _ AGA),AGA,t15,t16,t67,tj⟩
theorem fj{st:Nat}(W:h.Wf)(U:StR h A np T st one two)(hA:A.n=3*np)(hnp:np≤8)(s13:AB 13 e=pt A.bs)(s67:AB 67 e=.int .u8 ((how % 3:Nat):Int)):
  ∃ e' h',ruC (call AD (m+10)) e h=.norm e' h'∧Fx A.D h h'∧StR h' A np T st one two∧∀ j,(j=1∨j=4∨j=11∨j=12∨j=13∨j=15∨j=16)→AB j e'=AB j e:=by
 rcases (show how % 3=0∨how % 3=1∨how % 3=2 by omega)with h0|h0|h0
 ·obtain⟨z,h2,k2,f2,U2⟩:=U.abort (m:=m+1) (a:=5) (b:=2) (c:=1) W hA hnp
  have k2:call AD (m+10) 29 [pt A.bs,.int .i64 5,.int .i64 2,.int .i64 1] h=.ok (.int .i64 z) h2:=k2;have c1:iEq ((how % 3:Nat):Int) 0=true:=DM (by omega);obtain⟨e1,p1,tj⟩:∃ e1,ruC (call AD (m+10)) e h=.norm e1 h2∧∀ j,(j=1∨j=4∨j=11∨j=12∨j=13∨j=15∨j=16)→AB j e1=AB j e:=by
   unfold ruC;simp only[sT,AT,AI,reduceIte,gD,AM,AK,s67,c1,s13,cA0,k2];refine⟨_,rfl,fun j hj=>?_⟩;rcases hj with rfl|rfl|rfl|rfl|rfl|rfl|rfl<;>simp only[AF,AT,AI,reduceIte]
  exact⟨e1,h2,p1,f2,U2,tj⟩
 ·obtain⟨z,h2,k2,f2,U2⟩:=U.drop (m:=m+1) (a:=5) (b:=2) (c:=1) W hA hnp
  have k2:call AD (m+10) 30 [pt A.bs,.int .i64 5,.int .i64 2,.int .i64 1] h=.ok (.int .i64 z) h2:=k2;have c1:iEq ((how % 3:Nat):Int) 0=false:=DL (by omega);have c2:iEq ((how % 3:Nat):Int) 1=true:=DM (by omega);obtain⟨e1,p1,tj⟩:∃ e1,ruC (call AD (m+10)) e h=.norm e1 h2∧∀ j,(j=1∨j=4∨j=11∨j=12∨j=13∨j=15∨j=16)→AB j e1=AB j e:=by
   unfold ruC;simp only[sT,AT,AI,reduceIte,gD,AM,AK,s67,c1,c2,s13,cA0,k2];refine⟨_,rfl,fun j hj=>?_⟩;rcases hj with rfl|rfl|rfl|rfl|rfl|rfl|rfl<;>simp only[AF,AT,AI,reduceIte]
  exact⟨e1,h2,p1,f2,U2,tj⟩
 ·have c1:iEq ((how % 3:Nat):Int) 0=false:=DL (by omega)
  have c2:iEq ((how % 3:Nat):Int) 1=false:=DL (by omega);obtain⟨e1,p1,tj⟩:∃ e1,ruC (call AD (m+10)) e h=.norm e1 h∧∀ j,(j=1∨j=4∨j=11∨j=12∨j=13∨j=15∨j=16)→AB j e1=AB j e:=by
   unfold ruC;simp only[sT,AT,AI,reduceIte,gD,AM,AK,s67,c1,c2];refine⟨_,rfl,fun j hj=>?_⟩;rcases hj with rfl|rfl|rfl|rfl|rfl|rfl|rfl<;>simp only[AF,AT,AI,reduceIte]
  exact⟨e1,h,p1,.refl W,U,tj⟩
theorem aB{st:Nat}{x y:Kt}(e:y.core=x.core)(G:Reu st one two y):Reu st one two x:=by
 obtain⟨e1,e2,e3,e4,e5,_⟩:=Ud e;unfold Reu at *;rw[← e1,← e2,← e3,← e4,← e5];exact G
theorem fl{st:Nat}(W0:h0.Wf)(x0:h0.Ext h)(hD0:∀ b,A.D b→h0.next≤b)(Kb:KB h0 kv bs)(U:StR h A np T st one two)(hA:A.n=3*np)(hnp:1≤np∧np≤8)(U1:h0.ADo u1 (one.map bv))(U2:h0.ADo u2 (two.map bv))(b1:∀ x∈one,x<256)(b2:∀ x∈two,x<256)(h2l:two.length≤100)
  (R15:h.Row r15 0 (Aq 5 2 1 st u1))(R16:h.Row r16 0 (Aq 5 2 2 1 u2))(AGJ:¬ A.D r15)(AGA:¬ A.D r16)
  (s1:AB 1 e=u2)(s4:AB 4 e=kv)(s11:AB 11 e=pt A.tb)(s12:AB 12 e=pt A.bd)(s13:AB 13 e=pt A.bs)(s15:AB 15 e=pt r15)(s16:AB 16 e=pt r16):
  ∃ e' h',ruD (call AD (m+10)) e h=.ret e' h'∧AB 10 e'=.bool true∧h0.Ext h':=by
 have W:=x0.wf;obtain⟨z2,h2,k2,f2,S2⟩:=St.AJo (m:=m+2) (a:=5) (b:=2) (c:=2) W U hA hnp.2 (.inl (U2.ext W0 x0)) b2 (by omega) ⟨fun _ k e1 e2 e3 e4 e5=>⟨e1,e2,.inr ⟨e3,.inl e4,e5⟩⟩,fun h=>by omega⟩;have k2:call AD (m+10) 11 [pt A.bs,.int .i64 5,.int .i64 2,.int .i64 2,u2] h=.ok (.int .i64 z2) h2:=k2;obtain⟨z3,h3,k3,f3,S3⟩:=St.comm (m:=m+2) (a:=5) (b:=2) (c:=2) f2.wf S2 hA hnp.2 ⟨fun h=>by unfold EW at h;omega,fun _ k G e1 e2 e3=>⟨e1,e2,.inr ⟨e3,.inr rfl,by
  rcases G.2.2 with ⟨q,_⟩|⟨_,_,q⟩
  ·rw[e3]at q;omega
  ·exact q⟩⟩⟩
 have k3:call AD (m+10) 12 [pt A.bs,.int .i64 5,.int .i64 2,.int .i64 2] h2=.ok (.int .i64 z3) h3:=k3;have f03:=f2.trans f3;have x3:=Fx.xtF x0 f03 hD0;obtain⟨h4,M4,c4,ks4,fr4,k4,f4,d4,R4,hT,htD,iv4,md4,G4⟩:=St.AHk (m:=m+7) W0 x3 hD0 S3 hA hnp.2 Kb;have k4:call AD (m+10) 31 [pt A.bd,kv] h3=.ok ADV h4:=k4;have f04:=f03.trans (f4.mono fun b hb=>show A.D b from .inr hb);have htb:A.tb≠A.bd∧A.tb≠A.bm∧A.tb≠A.bc:=⟨fun e=>htD (.inr (.inl e)),fun e=>htD (.inr (.inr (.inl e))),fun e=>htD (.inr (.inr (.inr e)))⟩;rcases Zo (m:=m+2) (fa:=false) f4.wf d4 R4 hT hA hnp htb iv4 md4 (.no (by omega) (by omega))with ⟨h5,bs5,M5,c5,AGw,lv5,fv5,ks5,fr5,ks0,k5,f5,sl5,pm5,e5,_⟩|⟨_,_,_,_,_,_,_,dd,_⟩
 case inr=>cases dd.may
 have k5:call AD (m+10) 16 [pt A.bd,pt A.tb,.int .i64 100] h4=.ok (.tuple ⟨[pt bs5,.int .i64 0]⟩) h5:=k5;have f05:=f04.trans (f5.mono fun b hb=>show A.D b from .inr hb);have x5:=Fx.xtF x0 f05 hD0;have k6:call AD (m+10) 19 [pt bs5] h5=.ok (.int .i64 0) h5:=bh (m:=m+9) sl5.row;have hl5:ks5.length≤1000:=sl5.le.1;obtain⟨h7,v7,k7,x7,V7⟩:=bT (m:=m+6) f5.wf sl5.row sl5.ls (Sl.all sl5) hl5;have k7:call AD (m+10) 21 [pt bs5] h5=.ok v7 h7:=k7;have hG:∀ x∈ks5,Reu st one two x:=fun x hx=>by
  rw[e5]at hx;have hx0:x∈ks0:=FG.1 (List.mem_filter.1 hx).1;obtain⟨y,hy,ey⟩:=X2 pm5 hx0;exact aB ey (G4 y hy)
 have ln7:=V7.len h7;have c00:iNe 0 0=false:=CV rfl;have W5:=f5.wf;obtain⟨e1,p1,t15,t16,t97,t98,t99⟩:∃ e1,ruD (call AD (m+10)) e h=ruS (call AD (m+10)) e1 h7∧AB 15 e1=pt r15∧AB 16 e1=pt r16∧AB 97 e1=v7∧AB 98 e1=.int .i64 (ks5.length:Int)∧AB 99 e1=.int .i64 ((0:Nat):Int):=by
  rw[nR];unfold nS;simp only[sT,AT,AI,reduceIte,gD,s13,s1,cA0,k2,k3,s12,s4,k4,s11,k5,BL,BR,Ba,AM,AK,c00,k6,k7,Af,ln7];exact⟨_,rfl,by simp[AF,s15,s16]⟩
 have x57:=x5.trans x7;obtain⟨e2,h8,r1,x8⟩:=aC (m:=m+8) x7.wf V7 hl5 hG ((f05.row W R15 AGJ).ext W5 x7) ((f05.row W R16 AGA).ext W5 x7) (U1.ext W0 x57) (U2.ext W0 x57) b1 b2 t15 t16 t97 t98 t99;have r1:Ay ruL (call AD (m+10)) e1 h7=.exit 1 e2 h8:=r1;have aw:=Lo (bs:=AD) (n:=m+9) (f:=8) PW (h:=h8);obtain⟨e3,r3,r4⟩:∃ e3,ruE (call AD (m+10)) e2 h8=.ret e3 h8∧AB 10 e3=.bool true:=by
  unfold ruE;simp only[sT,AT,AI,reduceIte,cA0,aw];exact⟨_,rfl,by simp[AF]⟩
 refine⟨e3,h8,?_,r4,x57.trans x8⟩;rw[p1,nX];simp only[BE,Ax,r1,A2,BA,r3]
end
end
noncomputable section
open Go
set_option maxRecDepth 100000
theorem gU:an.zero=(vL 256 0).map wv:=by kernel_rfl
theorem tN:AEM (vL 256 0):=⟨List.length_replicate,fun i=>by rw[JX];omega⟩
section
variable {F:ADS}{e:Env}{h h':Hp}{A:At}{one two:List Nat}{m k n np s r16 how arm:Nat}{u u1 u2 kv:BY}{bs:List Bool}
theorem qq(hl:one.length≤100)(hn:1≤np):Ev [] (wI np).length 5 2 1 one=none:=by
 unfold Ev;rw[if_neg (fun h=>by
  rcases h with h|h
  ·rw[nO (.inl rfl) (.inl rfl) hl]at h;cases h
  ·omega)]
 show(if Bp 5 2 1 []=true then some 61 else if(wI np).length=0 then some 62 else none)=none;rw[if_neg (show ¬ Bp 5 2 1 []=true by decide),if_neg (by rw[List.length_range];omega)]
theorem aE(W:h.Wf)(U1:h.ADo u1 (one.map bv))(U2:h.ADo u2 (two.map bv))(b1:∀ x∈one,x<256)(b2:∀ x∈two,x<256)(hh:how<256)(Kb:KB h kv bs):
  ∃ h',call AD (m+11) 6 [u1,u2,.int .u8 (how:Int),.int .u8 (arm:Int),kv] h=.ok (.bool true) h'∧h.Ext h':=by
 have ln1:=U1.bl h;have ln2:=U2.bl h;have aw:=Lo (bs:=AD) (n:=m+9) (f:=8) PW (h:=h);by_cases h1:100<one.length
 ·have c1:iGt (one.length:Int) 100=true:=FM (by omega)
  refine⟨h,?_,.refl W⟩;rw[Xg rfl,YI];unfold d6h;simp only[iN,By,sT,AT,AI,reduceIte,gD,Af,ln1,AM,AK,c1,cA0,aw,lV0]
 have c1:iGt (one.length:Int) 100=false:=Eq (by omega);by_cases h2:100<two.length
 ·have c2:iGt (two.length:Int) 100=true:=FM (by omega)
  refine⟨h,?_,.refl W⟩;rw[Xg rfl,YI];unfold d6h;simp only[iN,By,sT,AT,AI,reduceIte,gD,Af,ln1,ln2,AM,AK,c1,c2,cA0,aw,lV0]
 have c2:iGt (two.length:Int) 100=false:=Eq (by omega);have hz:an.zero.length=256:=by kernel_rfl
 have f9:=fun (F:ADS) (e:Env)=>Bm (F:=F) (e:=e) (n:=256) (t:=PN) W
 have y2:=(Hp.Ext.refl W).push (.cells PN 256 0);have R9:(h.push (.cells PN 256 0)).Row h.next 0 an.zero:=Hp.Row.alloc W gY hz;rw[gU]at R9;generalize h.push (.cells PN 256 0)=h3 at f9 y2 R9;have hnp:1≤1+how / 3 % 2∧1+how / 3 % 2≤8:=by omega
 have d1:OR .u8 (.int .u8 (how:Int)) (.int .u8 3) h3=.ok (.int .u8 ((how/3:Nat):Int)) h3:=nN hh;have d2:NG .u8 (.int .u8 ((how/3:Nat):Int)) (.int .u8 2) h3=.ok (.int .u8 ((how/3 % 2:Nat):Int)) h3:=O9 (k:=2) (by omega);have d3:DH .i64 (.int .u8 ((how/3 % 2:Nat):Int)) h3=.ok (.int .i64 ((how/3 % 2:Nat):Int)) h3:=by rw[CU,BW (by omega)]
 have d4:Fc Int.mul .i64 (.int .i64 3) (.int .i64 ((how/3 % 2:Nat):Int)) h3=.ok (.int .i64 ((3*(how/3 % 2):Nat):Int)) h3:=iB (a:=3) (b:=how/3 % 2) (by omega);have d5:FH .i64 (.int .i64 3) (.int .i64 ((3*(how/3 % 2):Nat):Int)) h3=.ok (.int .i64 ((3*(1+how/3 % 2):Nat):Int)) h3:=by
  have:=PP (h:=h3) (a:=3) (b:=3*(how/3 % 2)) (by omega);rw[show 3+3*(how/3 % 2)=3*(1+how/3 % 2)by omega]at this;exact this
 generalize 1+how / 3 % 2=np at hnp d5;obtain⟨h4,bs',bd,bm,bc,lv,fv,c4,AKD,k4,x4,s4,l1,l2,l3,l4,a4⟩:=TG (m:=m+1) (np:=np) y2.wf R9 tN hnp;have k4:call AD (m+10) 10 [pt h.next,.int .i64 ((3 * np:Nat):Int)] h3=.ok (.tuple ⟨[pt bd,pt bs',.bool true]⟩) h4:=k4;have x04:=y2.trans x4;have hD0:∀ b,At.D ⟨bs',bd,bm,bc,h.next,3 * np⟩ b→h.next≤b:=fun b hb=>by
  have:=y2.next;rcases hb with h1|h1|h1|h1<;>rw[h1]
  ·show h.next≤bs';omega
  ·show h.next≤bd;omega
  ·show h.next≤bm;omega
  ·show h.next≤bc;omega
 have e5:Ev [] (wI np).length 5 2 1 one=none:=qq (by omega) hnp.1;obtain⟨p1,fr1,AJs,rr⟩:=Nv (m:=m+2) x04.wf s4 (a:=5) (b:=2) (c:=1) (.inl (U1.ext W x04)) b1 (by omega) (Nat.zero_le _) a4 e5;rcases rr with ⟨h5,c5,AGw,lv5,fv5,q1,k5,f5,s5,hq1,a5⟩|⟨_,_,_,_,_,dd⟩
 rotate_left
 ·cases dd.may
 have t1:SE (vL 256 0) (vL (64*(3*np)) 0) [] (wI np) 1 5 2 1 one (DI (vL 256 0) (vL (64*(3*np)) 0) p1 one (ADa (vL 256 0) 5 2 1 1 one)) [q1] fr1:=.inl ⟨.inl rfl,e5,p1,q1,AJs,rfl,hq1,rfl⟩;obtain⟨iv1,_⟩:=Ji (mZ np) t1;obtain⟨md1,hc1,_⟩:=Hg (mZ np) (iA np) (fun x hx=>by cases hx) t1;have s5:Sl h5 ⟨bs',bd,bm,bc,h.next,3*np⟩ (vL 256 0) _ c5 AGw [q1] fr1 lv5 fv5 0 false:=s5;have x5:=Fx.xtF x04 f5 hD0;have k5:call AD (m+10) 11 [pt bs',.int .i64 5,.int .i64 2,.int .i64 1,u1] h4=.ok (.int .i64 0) h5:=k5;have c00:iNe 0 0=false:=CV rfl;obtain⟨u1k,u1c,u1o⟩:=Jk U1;have AJt:=fun (F:ADS) (e:Env) (he:AB 0 e=u1)=>Iq (F:=F) (e:=e) (h:=h5) (g1:=kV (.int .i64 5)) (g2:=kV (.int .i64 2)) (g3:=kV (.int .i64 1)) (g5:=AB 0) rfl rfl rfl he u1c u1k
 have al1:=fun (F:ADS) (e:Env)=>Bm (F:=F) (e:=e) x5.wf (n:=5) (t:=Cc)
 have Ra:=Hp.Row.alloc x5.wf Ei (show(Aq 0 0 0 0 ADj).length=5 from rfl);have y6:h5.Ext (h5.push (.cells Cc 5 0)):=(Hp.Ext.refl x5.wf).push _;generalize h5.push (.cells Cc 5 0)=h6 at al1 Ra y6;obtain⟨st1,_,y7,R15,_⟩:=KU x5.wf y6 (IN _) Ra rfl (a:=5) (b:=2) (c:=1) (s:=1) u1o;generalize h6.wr h5.next 0 (Aq 5 2 1 1 u1)=h7 at st1 y7 R15;have x7:=x5.trans y7;have AGJ:¬ At.D ⟨bs',bd,bm,bc,h.next,3 * np⟩ h5.next:=fun hb=>by
  have:=s5.AF5 x5.wf _ hb;omega
 have htb:h.next≠h5.next:=by
  have:=s5.tab.lt x5.wf;have:h.next<h5.next:=this;omega
 have ku:h7.BS (fun b=>¬ At.D ⟨bs',bd,bm,bc,h.next,3*np⟩ b∧b≠h5.next) q1.u (q1.l.map bv):=(s5.ko q1 List.mem_cons_self).1.AEW fun b el L hb _ r=>⟨r.ext x5.wf y7,hb,by have:=r.lt x5.wf;omega⟩
 have r3:NG .u8 (.int .u8 (how:Int)) (.int .u8 3) h7=.ok (.int .u8 ((how % 3:Nat):Int)) h7:=O9 (k:=3) (by omega);have g3:iGt ((how % 3:Nat):Int) 0=decide (0<how % 3):=by
  by_cases hp:0<how % 3
  ·rw[decide_eq_true hp];exact FM (by omega)
  ·rw[decide_eq_false hp];exact Eq (by omega)
 obtain⟨e1,pr1,t1',t2,t3,t4,t11,t12,t13,t15,t54⟩:∃ e1,d6h (call AD (m+10)) (AS e0 0 [u1,u2,.int .u8 (how:Int),.int .u8 (arm:Int),kv]) h=ruQ (call AD (m+10)) e1 h7∧AB 1 e1=u2∧AB 2 e1=.int .u8 (how:Int)∧AB 3 e1=.int .u8 (arm:Int)∧AB 4 e1=kv∧AB 11 e1=pt h.next∧AB 12 e1=pt bd∧AB 13 e1=pt bs'∧AB 15 e1=pt h5.next∧AB 54 e1=.bool (decide (0<how % 3)):=by
  unfold d6h;simp only[iN,By,sT,AT,AI,reduceIte,gD,Af,ln1,ln2,AM,AK,c1,c2,f9,H3,d1,H4,d2,B8,d3,Br,d4,BF,d5,cA0,k4,BL,BR,Ba,C5,Bj,Bh,Bool.not_true,k5,c00];rw[AJt _ _ (by simp[AF])];simp only[sT,AT,AI,reduceIte,gD,al1,Aa,st1,H4,r3,AM,AK,g3];exact⟨_,rfl,by simp[AF]⟩
 obtain⟨e2,h8,st,r8,f8,U8,R8,j8⟩:=fg (m:=m) (A:=⟨bs',bd,bm,bc,h.next,3*np⟩) (one:=one) (two:=two) (how:=how) y7.wf rfl hnp.2 (s5.ext x5.wf y7) iv1 md1 hc1 a5 (congrArg Kc.a hq1) (congrArg Kc.b hq1) (congrArg Kc.c hq1) (congrArg Kc.s hq1) (congrArg Kc.l hq1) R15 AGJ htb ku (by have:=x5.wf.big;omega) t13 t15 t54;have x8:h.Ext h8:=Fx.xtF x7 f8 fun b hb=>by
  rcases hb with hb|hb
  ·exact hD0 b hb
  ·rw[hb];exact x5.next
 have W8:=x8.wf;obtain⟨e3,h9,r16,r9,f9',U9,AHo,AHl,AGA,z15,z16,z67,j9⟩:=fh (m:=m) (A:=⟨bs',bd,bm,bc,h.next,3*np⟩) (arm:=arm) (how:=how) W8 U8 (U2.ext W x8) R8 AGJ ((j8 1 (by omega)).trans t1') ((j8 2 (by omega)).trans t2) ((j8 3 (by omega)).trans t3) ((j8 12 (by omega)).trans t12) ((j8 15 (by omega)).trans t15);have x9:=Fx.xtF x8 f9' hD0;have W9:=x9.wf;obtain⟨e4,h10,r10,f10,U10,j10⟩:=fj (m:=m) (A:=⟨bs',bd,bm,bc,h.next,3*np⟩) (how:=how) W9 U9 rfl hnp.2 ((j9 13 (by omega)).trans ((j8 13 (by omega)).trans t13)) z67;have x10:=Fx.xtF x9 f10 hD0;have jj:=fun (j:Nat) (q:j=1∨j=4∨j=11∨j=12∨j=13)=>(j10 j (by omega)).trans ((j9 j q).trans (j8 j (by omega)))
 obtain⟨e5',h11,r11,t10,x11⟩:=fl (m:=m) (A:=⟨bs',bd,bm,bc,h.next,3*np⟩) W x10 hD0 Kb U10 rfl hnp U1 U2 b1 b2 (by omega) (f10.row W9 AHo AGJ) (f10.row W9 AHl AGA) AGJ AGA ((jj 1 (by omega)).trans t1') ((jj 4 (by omega)).trans t4) ((jj 11 (by omega)).trans t11) ((jj 12 (by omega)).trans t12) ((jj 13 (by omega)).trans t13) ((j10 15 (by omega)).trans z15) ((j10 16 (by omega)).trans z16);refine⟨h11,?_,x11⟩;rw[Xg rfl,YI,pr1,nW];simp only[BE,r8,BA,r9,nY,Ax,r10,DR,r11,lV0,t10]
end
end
end Go.Proofs.YtedbmmfebjfibaaGreat
namespace Go.Proofs.YtedbmmfebjfibaaGreat.slotsReuse
noncomputable section
open Go Go.ChangeShapes Go.WideShapes Go.ChangeAt Go.RowKit
set_option linter.unusedVariables false
theorem own:ownKnob vK.godebug=none:=by kernel_rfl
theorem JJ:laidOutB vK=true:=by kernel_rfl
theorem lQ:vK.cellsOf 4=1:=by kernel_rfl
theorem Xt:vK.cellsOf 5=1:=by kernel_rfl
theorem gQ{P:wK}{W:vt}{base t:Nat}{v:BY}(ht:P.underlying t=some (.int .u8))(h:yc P W .any base t v):∃ n:Nat,v=.int .u8 (n:Int)∧n<256:=by
 unfold yc at h;rw[ht]at h;have h:Cell.ok P W .any base t v:=by cases v<;>exact h
 unfold Cell.ok at h;rw[ht]at h;split at h<;>first|(exact h.elim;done)|skip
 all_goals (rename_i n e1 _;cases e1)
 have h1:0≤n:=h.2.1;have h2:n≤255:=h.2.2;obtain⟨m,rfl⟩:=Int.eq_ofNat_of_zero_le h1;exact⟨m,by rw[h.1],by omega⟩
theorem ay{P:wK}{W:vt}{base t:Nat}{v:BY}(ht:P.underlying t=some (.int .u8))(h:wa P W .any base t v):∃ n:Nat,v=.int .u8 (n:Int)∧n<256:=by
 unfold wa at h;rw[ht]at h;exact gQ ht h
theorem PZ{l:List Int}(h:∀ z∈l,(Lit.int .u8 z).wf=true):∃ m:List Nat,ints .u8 l=m.map bv∧∀ x∈m,x<256:=by
 refine⟨l.map Int.toNat,?_,fun x hx=>?_⟩
 ·unfold ints
  rw[List.map_map];refine List.map_congr_left fun z hz=>?_
  have:=bounds_u8 (h z hz);show Value.int .u8 z=.int .u8 ((z.toNat:Nat):Int);rw[Int.toNat_of_nonneg this.1]
 ·obtain⟨z,hz,rfl⟩:=List.mem_map.1 hx
  have:=bounds_u8 (h z hz);omega
theorem IG{P:wK}{W:vt}{base t e:Nat}{v:BY}(ht:P.underlying t=some (.slice e))(h:wa P W .any base t v):yc P W .any base t v:=by
 unfold wa at h;rw[ht]at h;exact h
theorem slc{H:Type}{enc:TypeId×BY→H}{P:wK}{W:vt}{base t e:Nat}{v:BY}{x:DataW H}{p:List ADN}(ht:P.underlying t=some (.slice e))(h:wa P W .any base t v)(tx:AAZ enc P W 0 (fun _=>true) true t v x p):
  ∃ fuel,AAz enc P W 0 (fun _=>true) true fuel t [v]=some (x,p):=by
 have h':yc P W .any base t v:=by
  unfold wa at h;rw[ht]at h;exact h
 obtain⟨fuel,hf⟩:=tx;refine⟨fuel,?_⟩;rcases Mv ht h' with rfl|⟨a,n,c,rfl,_⟩<;>exact hf
section
variable {H:Type}{enc:TypeId×BY→H}{w:vt}
theorem tI(m:Nat)(l:List BY)(y:DataW H×List ADN)(hl:l.length=1)(h:AAz enc vK w 0 (fun _=>true) true m 4 l=some y)(_:∀ b off,yW b off∈y.2→w.frozen? ⟨b,off,none⟩=false):QL l:=by
 obtain⟨a0,e0,_⟩:=DataW.trod_bool zG h;exact⟨a0,e0⟩
end
theorem L9:∀ xs:List Bool,(xs.map fun x=>[zu x]).flatten=xs.map zu
 |[]=>rfl
 |a::xs=>by rw[List.map_cons,List.flatten_cons,L9 xs];rfl
theorem mg{W:vt}{v:BY}{n:Nat}{Ls:List (List BY)}(b:OE W QL 1 v n Ls):∃ bs:List Bool,∀ (i:Nat) (u:BY),((u=ADj∧Ls=[])∨(u=.chan (some 0)∧Ls=[])∨u=.slice (some ⟨i,0,none⟩) n Ls.length)→∀ h:Hp,h.Wf→h.Row i 0 Ls.flatten→KB h u bs:=by
 obtain⟨h1,h2,_⟩:=b;obtain⟨xs,rfl⟩:=Y8 (f:=fun x:Bool=>[zu x]) fun l hl=>(h1 l hl).2
 rw[If]at h2;refine⟨xs.take n,fun i u hu h W hr=>?_⟩;rw[L9]at hr;have hl:(xs.take n).length=n:=by rw[List.length_take];omega
 rcases hu with ⟨rfl,hx⟩|⟨rfl,hx⟩|rfl
 ·have hx:xs=[]:=by simpa using hx
  subst hx;rw[ACN];exact⟨fun g=>rfl,fun i b h=>by cases h⟩
 ·have hx:xs=[]:=by simpa using hx
  subst hx;rw[ACN];exact⟨fun g=>rfl,fun i b h=>by cases h⟩
 ·refine⟨fun g=>by rw[hl];rfl,fun j b hj g x=>?_⟩
  have hjn:j<n:=by rw[← hl];exact(vW.1 hj).1
  have hj:xs[j]? =some b:=by rw[List.getElem?_take,if_pos hjn]at hj;exact hj
  have ix:=DD (h:=g) (n:=n) (c:=(xs.map fun x=>[zu x]).length) (es:=1) (b:=i) (off:=0) (i:=j) (k:=.i64) hjn;rw[sh,Nat.mul_one]at ix;have ld:=(hr.ext W x).ADW (off:=j) (by rw[If];omega);rw[OF,wN,hj]at ld;exact⟨_,ix,ld⟩
set_option maxRecDepth 100000 in
theorem nw{H:Type}{enc:TypeId×BY→H}(x y z o k:BY)(w:vt){base:Nat}{d1 d2 d3:DataW H}{p1 p2 p3:List ADN}(hx:wa vK w .any base 22 x)(hy:wa vK w .any base 22 y)(hz:wa vK w .any base 5 z)(ho:wa vK w .any base 5 o)(hk:wa vK w .any base 52 k)
  (tx:AAZ enc vK w 0 (fun _=>true) true 22 x d1 p1)(fx:∀ b off,yW b off∈p1→w.frozen? ⟨b,off,none⟩=false)
  (t_y:AAZ enc vK w 0 (fun _=>true) true 22 y d2 p2)(fy:∀ b off,yW b off∈p2→w.frozen? ⟨b,off,none⟩=false)
  (tk:AAZ enc vK w 0 (fun _=>true) true 52 k d3 p3)(fk:∀ b off,yW b off∈p3→w.frozen? ⟨b,off,none⟩=false):
  Calls vK 6 #[x,y,z,o,k] w fun e w'=>e=.returned (.bool true)∧Below w.heap.size w w':=by
 obtain⟨how,rfl,AJu⟩:=ay yr hz;obtain⟨arm,rfl,_⟩:=ay yr ho;obtain⟨AJv,hfx⟩:=slc xO hx tx;obtain⟨bs1,AJw,I1⟩:=UZ xO yr Xt (IG xO hx) hfx fx;obtain⟨m1,hm1,AJx⟩:=PZ AJw;obtain⟨u1,q1,Z1,i1,i2,i3⟩:=I1.rel 0;obtain⟨AJy,hfy⟩:=slc xO hy t_y;obtain⟨bs2,AJz,I2⟩:=UZ xO yr Xt (IG xO hy) hfy fy;obtain⟨m2,hm2,AJ0⟩:=PZ AJz;obtain⟨u2,q2,Z2,j1,j2,j3⟩:=I2.rel 1;obtain⟨fuel,hf⟩:=slc ABa hk tk;obtain⟨n,Ls,R⟩:=fq ABa lQ (by omega) (Q:=QL) tI hf fk;obtain⟨bs,hK⟩:=mg R;obtain⟨u,q,l1,l2,l3,l4⟩:=R.rel (by omega) (fun l h=>iJ h) 2;have ADg:[ints .u8 Z1,ints .u8 Z2,Ls.flatten].length≤256:=by show 3≤256;omega
 have W0:(inH [ints .u8 Z1,ints .u8 Z2,Ls.flatten]).Wf:=Yq ADg;have V1:=i3 _ (Of ADg (i:=0) rfl);have V2:=j3 _ (Of ADg (i:=1) rfl);rw[hm1]at V1;rw[hm2]at V2;have K:=hK 2 u l4 _ W0 (Of ADg (i:=2) rfl);obtain⟨h',hr,hx'⟩:=aE (m:=53) (how:=how) (arm:=arm) W0 V1 V2 AJx AJ0 AJu K;refine fz Xs hr hx' rfl (.cons (i2 (Na [q1,q2,q]) rfl) (.cons (j2 _ rfl) (.cons (.int _ _) (.cons (.int _ _) (.cons (l3 _ rfl) .nil))))) (aH (ps:=[q1,q2,q]) ADg rfl fun i q' L e1 e2=>?_)
 match i,e1,e2 with
 |0,e1,e2=>cases e1;cases e2;exact i1.AHc (MK _ _ _)
 |1,e1,e2=>cases e1;cases e2;exact j1.AHc (MK _ _ _)
 |2,e1,e2=>cases e1;cases e2;exact l1.AHc (l2 _)
set_option maxRecDepth 100000 in
theorem mj(os:Os)(started:os.Started)(H:Type)(enc:TypeId×BY→H):
  ReturnsInHanded {} AA3 os 6 .any (Rows.slotsReuseSpec.pre6 enc vK ABP Rows.slotsReuseRow.domain false) (Rows.slotsReuseSpec.post enc vK ABP false true false false):=by
 refine returnsInHanded_of_change (C:=AA3) own started (by kernel_rfl) ACw
  (ADH (enc:=enc) (C:=AA3) false ⟨#[],#[.slice none 0 0,.slice none 0 0,.int .u8 0,.int .u8 0,.slice none 0 0],[]⟩ 8 (by kernel_rfl) (by kernel_rfl) (by kernel_rfl) (by kernel_rfl)) ?_
 intro W base args ds gs before AGi hW AKE _;have hval:∀ (j:Nat) t v,ABP.params[j]? =some t→args[j]? =some v→wa vK W .any base t v:=AGi;have hW':=hW;obtain⟨p,q,hA0,hV,rfl,hfz,hnd⟩:=hW;have hA:DataW.TrodAll enc vK W 0 (fun _=>true) true ABP.params.toList args.toList ds p:=hA0;rw[Tryz.params6]at hA hval;obtain⟨v0,vs0,d0,ds0,p0,q0,hargs,rfl,rfl,h0,r0⟩:=trodAll_cons hA;obtain⟨v1,vs1,d1,ds1,p1,q1,rfl,rfl,rfl,h1,r1⟩:=trodAll_cons r0;obtain⟨v2,vs2,d2,ds2,p2,q2,rfl,rfl,rfl,h2,r2⟩:=trodAll_cons r1;obtain⟨v3,vs3,d3,ds3,p3,q3,rfl,rfl,rfl,h3,r3⟩:=trodAll_cons r2;obtain⟨v4,vs4,d4,ds4,p4,q4,rfl,rfl,rfl,h4,r4⟩:=trodAll_cons r3;obtain⟨rfl,rfl,rfl⟩:=trodAll_nil r4;obtain rfl:args= #[v0,v1,v2,v3,v4]:=by cases args;simp_all
 obtain⟨rfl,rfl⟩:=trodVars_none hV;clear hA0 AGi;simp only[vR]at hW' hfz;have hlt:∀ x∈p0++(p1++(p2++(p3++p4))),x.block<W.heap.size:=fun x hx=>hW'.lt x hx
 have i0:∀ x∈p0,x∈p0++(p1++(p2++(p3++p4))):=fun x hx=>vk _ hx
 have i1:∀ x∈p1,x∈p0++(p1++(p2++(p3++p4))):=fun x hx=>vV _ (vk _ hx)
 have i2:∀ x∈p2,x∈p0++(p1++(p2++(p3++p4))):=fun x hx=>vV _ (vV _ (vk _ hx))
 have i3:∀ x∈p3,x∈p0++(p1++(p2++(p3++p4))):=fun x hx=>vV _ (vV _ (vV _ (vk _ hx)))
 have i4:∀ x∈p4,x∈p0++(p1++(p2++(p3++p4))):=fun x hx=>vV _ (vV _ (vV _ (vV _ hx)))
 refine(nw v0 v1 v2 v3 v4 W (hval 0 22 v0 rfl rfl) (hval 1 22 v1 rfl rfl) (hval 2 5 v2 rfl rfl) (hval 3 5 v3 rfl rfl) (hval 4 52 v4 rfl rfl) h0 (fun b off hm=>hfz b off (i0 _ hm)) h1 (fun b off hm=>hfz b off (i1 _ hm)) h4 (fun b off hm=>hfz b off (i4 _ hm))).mono fun e W' ⟨he,hb⟩=>?_
 subst he;refine⟨_,rfl,NF (pa:=p0++(p1++(p2++(p3++p4)))) (pv:=[]) hW' (fun _ _ _=>(trodAll_cons_mk (shut_bool zG _) trodAll_mk0)) (fun sp hsp=>?_) (fun _ _=>rfl) (by simp) hb (ok_one (by kernel_rfl) rfl (okWide_bool_mk zG _))⟩;have s0:=xL JJ (by kernel_rfl) (of_decide_eq_true (by kernel_rfl)) h0 (fun x hx=>hb.same (hlt x (i0 x hx))) (fun x hx=>hsp x (i0 x hx));have s1:=xL JJ (by kernel_rfl) (of_decide_eq_true (by kernel_rfl)) h1 (fun x hx=>hb.same (hlt x (i1 x hx))) (fun x hx=>hsp x (i1 x hx));have s2:=xL JJ (by kernel_rfl) (of_decide_eq_true (by kernel_rfl)) h2 (fun x hx=>hb.same (hlt x (i2 x hx))) (fun x hx=>hsp x (i2 x hx));have s3:=xL JJ (by kernel_rfl) (of_decide_eq_true (by kernel_rfl)) h3 (fun x hx=>hb.same (hlt x (i3 x hx))) (fun x hx=>hsp x (i3 x hx));have s4:=xL JJ (by kernel_rfl) (of_decide_eq_true (by kernel_rfl)) h4 (fun x hx=>hb.same (hlt x (i4 x hx))) (fun x hx=>hsp x (i4 x hx));have:=trodAll_cons_mk s0 (trodAll_cons_mk s1 (trodAll_cons_mk s2 (trodAll_cons_mk s3 (trodAll_cons_mk s4 (trodAll_mk0 (enc:=enc) (P:=vK) (w:=W') (base:=0) (spare:=sp) (held:=true))))));rw[vR]at this;exact this
theorem over:Rows.slotsReuseRow.holds Tryz.pinned (OpenSpec.ofChange Rows.slotsReuseSpec):=
 ADL 6 ABP rfl rfl rfl rfl rfl rfl rfl ⟨rfl,rfl,rfl,rfl,rfl⟩ rfl rfl rfl rfl rfl (by kernel_rfl) ACw (by kernel_rfl)
  (of_decide_eq_true (by kernel_rfl)) (by unfold Func.isWrapper;first|(rw[if_pos (by decide +kernel)];kernel_rfl)|(rw[if_neg (by decide +kernel)];exact⟨rfl,rfl⟩))
  (fun os started H enc _=>mj os started H enc)
theorem proved:Rows.SlotsReuseSaid:=
 over
#print axioms proved
end
end Go.Proofs.YtedbmmfebjfibaaGreat.slotsReuse
