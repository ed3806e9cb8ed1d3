/-
  'NodeLate' of layer 11 answers true, whatever memory it is called in, whatever bytes, version, asks and marks it is handed and whatever the tape answers: no condition. What the canonical machine gives is shown for any of them (YtbjadbhkogcfeaaGreatNle); that machine is sound for the model (YtbjadbhkogcfeaaGreatFns).
-/
import Derived.Test.YtbjadbhkogcfeaaGreatZR
import Derived.Test.YtbjadbhkogcfeaaGreatRows
import Derived.ProofKit
import Derived.OpenShut
import Derived.Carry
open Go.Value renaming int→AI
open Go.IntKind renaming i64→AT
open Nat renaming reduceEqDiff→BY,reduceLT→By,reduceAdd→IS,le_refl→IT,zero_add→If,not_lt_zero→ABs
open Go renaming Value→IN,MemPlace→ADq
open List renaming getElem?_eq_getElem→sh,length_cons→yh,append_nil→yw,mem_append_right→zE,mem_append_left→zR
open Go.Proofs.Tryz renaming prog→yi,underlying3→AAO,underlying5→ABl,underlying4→ABw,underlying34→ACO,checked→ADR,f5→ADg,underlying58→ADu,underlying22→ADv,func5→AFG
open Go.Value renaming int→zd,okWide→AAI
open Bool renaming not_true→ze
open Go.DataW renaming trod→AAa,trod_int→AAq,Trod→AC1
open Go.MemPlace renaming cell→AAs
open Go.WideElems renaming Trod_stays→AA2
open Int renaming toNat_of_nonneg→ABd
open Go.Cell renaming okWide→ADE
open Go.ChangeSpec renaming witness6→AFa
open Go.OpenClaim renaming holds_of_wide→AFe
set_option linter.unusedVariables false
set_option linter.unusedSimpArgs false
namespace Go.Proofs.YtbjadbhkogcfeaaGreat
noncomputable section
open Go
set_option maxRecDepth 100000
theorem ru:laK=BL (Ae 1 laB) laI:=rfl
theorem aZ:laL=im:=rfl
structure Kbn (h:Hp)(kv:IN)(n:Nat):Prop where
 len:∀ g:Hp,AGQ kv g=.ok (AI AT (n:Int)) g
 get:∀ i,i<n->∃ b,∀ g:Hp,h.Ext g->∃ p,AGa 1 kv (AI AT (i:Int)) g=.ok (.pointer (some p)) g/\AFk p g=.ok (.bool b) g
def uq(j:Nat):Prop:=j=0\/j=3\/j=9\/j=10\/j=13\/j=78\/j=79\/j=80
section
variable {F:AFi}{e:Env}{h h' h0 hB:Hp}{S0:Nat->Prop}{T b0:List Nat}{c0 m k kk n nn nb r i j op bd bm bc tb:Nat}{sq b c room v:Int}{l:List Nat}{u ub an vl w iv bw:IN}{fl:Bool}{x:Ak}{xs:List Ak}
theorem rt(C:Lcx h0 hB S0 bd bm bc tb kk)(s:Lst hB S0 T bd bm bc tb v b0 j nb h)(hv:5<=v/\v<=9)(Vb:h0.VE ub (b0.map bv))(hb0:∀ x∈b0,x<256)(s0:J 0 e=ub)(s11:J 11 e=pt nb)(s13:J 13 e=AI AT v):
  ∃ e' h',laE (call AC (m+12)) e h=.norm e' h'/\Lst hB S0 T bd bm bc tb v b0 j nb h'/\∀ j,uq j\/j=11->J j e'=J j e:=by
 have bd1:∀ (F:AFi) (e:Env),J 13 e=AI AT v->BK KC.zero [(0,1,kV (AI AT 1)),(1,1,kV (AI AT 3)),(2,1,kV (.int .u8 4)),(3,1,kV (AI AT 3)),(4,1,kV (AI AT 1)),(5,1,J 13)] F e h=.ok (Ck 1 3 4 3 1 v AFn) h:=fun F e e1=>by
  rw[CS,Tx,Af (hk:=by rfl),Af (hk:=by rfl),Af (hk:=by rfl),Af (hk:=by rfl),Af (hk:=by rfl),Af (hk:=by rw[e1];rfl),e1];rfl
 obtain⟨iv,bw,room,r,kx,h2,k1,s2,hi,hw,rfl,R2,hs,Vw⟩:=X5 (m:=m) C s (by omega);have W2:=s2.f.wf;obtain⟨g1,h3,al,st,y3,R24,_⟩:=Nq W2 EG rfl (vs:=EB 1 3 4 0 (.slice (some ⟨r,0,none⟩) 1 1) bw room) rfl (NQ hi hw);have st:AFr 7 (pt h2.next) (CC 1 3 4 0 (.slice (some ⟨r,0,none⟩) 1 1) bw room) g1=.ok AFl h3:=st;have s3:=s2.ext y3;obtain⟨t3,t4,t5,_⟩:=HC R24;have k6:call AC (m+12) 18 [bw,ub] h3=.ok (.bool true) h3:=tE (n:=m+11) (Vw.ext W2 y3) (Vb.ext C.W0 (C.ext s3)) hb0;have ln:AGQ (.slice (some ⟨r,0,none⟩) 1 1) h3=.ok (AI AT 1) h3:=rfl;have ix:AGa 4 (.slice (some ⟨r,0,none⟩) 1 1) (AI AT 0) h3=.ok (.pointer (some ⟨r,0,none⟩)) h3:=by
  have:=DB (h:=h3) (n:=1) (c:=1) (es:=4) (b:=r) (off:=0) (i:=0) (k:=.i64) (by omega);exact this
 have l3:AFk ⟨r,3,none⟩ h3=.ok (.int .u8 (kx.s:Int)) h3:=(R2.ext W2 y3).AFk (off:=3) (by show 3<4;omega);have c0:iNe 0 0=false:=CH rfl;have c1:iNe 1 1=false:=CH rfl;have c2:iNe (kx.s:Int) 2=false:=CH (by omega);refine(show ∃ e',laE (call AC (m+12)) e h=.norm e' h3/\∀ j,uq j\/j=11->J j e'=J j e from ?_).elim fun e' ⟨p1,p2⟩=>⟨e',h3,p1,s3,p2⟩
 unfold laE;simp only[sT,By,BY,reduceIte,gD,s0,s11,s13,bd1,cA0,k1,A7,BC,BE,al,AX,st,AK,AJ,c0,AH,AN,If,AM,AP,t3,t5,k6,Be,Bd,ze,t4,Ah,ln,c1,BB,Fd,ix,l3,c2];refine⟨_,rfl,fun j hj=>?_⟩;rcases hj with (rfl|rfl|rfl|rfl|rfl|rfl|rfl|rfl)|rfl<;>simp only[AG,By,BY,reduceIte]
theorem rq(C:Lcx h0 hB S0 bd bm bc tb kk)(s:Lst hB S0 T bd bm bc tb v b0 j nb h)(s9:J 9 e=pt tb)(s10:J 10 e=pt bd)(s11:J 11 e=pt nb)(AKm:J 120 e=.bool fl):
  ∃ e' h' nb',laC (call AC (m+12)) e h=.norm e' h'/\Lst hB S0 T bd bm bc tb v b0 j nb' h'/\J 11 e'=pt nb'/\∀ j,uq j->J j e'=J j e:=by
 cases fl
 ·refine(show ∃ e',laC (call AC (m+12)) e h=.norm e' h/\J 11 e'=pt nb/\∀ j,uq j->J j e'=J j e from ?_).elim fun e' ⟨p1,p2,p3⟩=>⟨e',h,nb,p1,s,p2,p3⟩
  unfold laC;simp only[sT,By,BY,reduceIte,AKm];exact⟨_,rfl,s11,fun _ _=>rfl⟩
 ·obtain⟨h1,h2,nb',k1,k2,s2⟩:=X3 (m:=m) C s j
  have c0:iNe 0 0=false:=CH rfl;refine(show ∃ e',laC (call AC (m+12)) e h=.norm e' h2/\J 11 e'=pt nb'/\∀ j,uq j->J j e'=J j e from ?_).elim fun e' ⟨p1,p2,p3⟩=>⟨e',h2,nb',p1,s2,p2,p3⟩
  unfold laC;simp only[sT,By,BY,reduceIte,AKm,cA0,s9,s10,Fd,k1,k2,A7,BC,BE,AK,AJ,c0];refine⟨_,rfl,by simp[AG],fun j hj=>?_⟩;rcases hj with rfl|rfl|rfl|rfl|rfl|rfl|rfl|rfl<;>simp only[AG,By,BY,reduceIte]
theorem rz(C:Lcx h0 hB S0 bd bm bc tb kk)(s:Lst hB S0 T bd bm bc tb v b0 (j+40) nb h)(hv:5<=v/\v<=9)(K:hB.KL kk vl xs)(hi:xs[i]? =some x)(ok:AH2 h0 x)(AJD:x.l.length<=150)(B:Kbn h0 an nn)(Vb:h0.VE ub (b0.map bv))(hb0:∀ x∈b0,x<256)
  (s0:J 0 e=ub)(s3:J 3 e=an)(s9:J 9 e=pt tb)(s10:J 10 e=pt bd)(s11:J 11 e=pt nb)(s13:J 13 e=AI AT v)(s78:J 78 e=vl)(s80:J 80 e=AI AT (i:Int)):
  ∃ e' h' nb',laB (call AC (m+12)) e h=.norm e' h'/\Lst hB S0 T bd bm bc tb v b0 j nb' h'/\J 11 e'=pt nb'/\∀ j,uq j->J j e'=J j e:=by
 have W:=s.f.wf;have x0:=C.ext s;have big:=C.W0.big;have hn0:=x0.next;have Kh:=K.fx C.x0.wf s.f fun b hb hs=>by have:=(C.hS b hs).2;omega
 obtain⟨b,ix,ld⟩:=Kh.at hi;obtain⟨g1,h1,al1,st1,y1,R1,q1⟩:=Nq W Pj rfl (vs:=x.cells) rfl (x.one ok.2.2.1);have st1:AFr 7 (pt h.next) x.val g1=.ok AFl h1:=st1;obtain⟨h2,st2,R2,n2,f2,xt2⟩:=Dt (v:=AI AT 1) y1.wf R1 (off:=0) (by show 0<7;omega) (by omega) rfl rfl;have y2:h.Ext h2:=xt2 h y1 (IT _);obtain⟨h3,st3,R3,n3,f3,xt3⟩:=Dt (v:=AI AT 3) y2.wf R2 (off:=3) (by show 3<7;omega) (by omega) rfl rfl;have y3:h.Ext h3:=xt3 h y2 (IT _);obtain⟨h4,st4,R4,n4,f4,xt4⟩:=Dt (v:=AI AT 1) y3.wf R3 (off:=4) (by show 4<7;omega) (by omega) rfl rfl;have y4:h.Ext h4:=xt4 h y3 (IT _);have R4:h4.Row h.next 0 (CP 1 x.sq x.op 3 1 x.c x.u):=R4;obtain⟨_,_,l2,_⟩:=B5 R4;obtain⟨e1,p1,pj,p20,p21,p89⟩:∃ e1,laB (call AC (m+12)) e h=laW (call AC (m+12)) e1 h4/\(∀ j,uq j\/j=11->J j e1=J j e)/\J 20 e1=AI AT (i:Int)/\J 21 e1=pt h.next/\J 89 e1=.int .u8 (x.op:Int):=by
  rw[rn];unfold ro;simp only[sT,By,BY,reduceIte,BB,s78,s80,ix,Au,Am,ld,al1,AX,st1,AH,AN,If,st2,st3,st4,AM,AP,l2];refine⟨_,rfl,fun j hj=>?_,by simp[AG]⟩;rcases hj with (rfl|rfl|rfl|rfl|rfl|rfl|rfl|rfl)|rfl<;>simp only[AG,By,BY,reduceIte]
 obtain⟨e2,h5,c',r2,R5,f5,xt5,AL3,hc6,wj⟩:=rx (m:=m) y4.wf R4 (by omega) hv ((pj 13 (.inl (by unfold uq;omega))).trans s13) p21 p89;have y5:h.Ext h5:=xt5 h y4 (IT _);have s5:=s.ext y5;obtain⟨_,_,_,_,_,_,_,lda⟩:=B5 R5;obtain⟨w,h6,k6,s6⟩:=iq (m:=m) (j:=j) (sq:=x.sq) (op:=x.op) (c:=c') C s5 ok.1 ok.2.1 (by omega) ok.2.2.2 AL3 hc6;have u:=fun j (hj:uq j\/j=11)=>(wj j (by unfold vq;unfold uq at hj;omega)).trans (pj j hj)
 have w20:=(wj 20 (by unfold vq;omega)).trans p20;have w21:=(wj 21 (by unfold vq;omega)).trans p21;have u3:=(u 3 (.inl (by unfold uq;omega))).trans s3;have u11:=(u 11 (.inr rfl)).trans s11;have ln:=B.len h6;obtain⟨e3,fl,p3,AL4,qj⟩:∃ e3 fl,laR (call AC (m+12)) e2 h5=laQ (call AC (m+12)) e3 h6/\J 120 e3=.bool fl/\∀ j,uq j\/j=11->J j e3=J j e2:=by
  by_cases hin:i<nn
  ·have c1:=E9 hin
   obtain⟨bb,hg⟩:=B.get i hin;obtain⟨p,g1,g2⟩:=hg h6 (C.ext s6);refine(show ∃ e3,laR (call AC (m+12)) e2 h5=laQ (call AC (m+12)) e3 h6/\J 120 e3=.bool bb/\∀ j,uq j\/j=11->J j e3=J j e2 from ?_).elim fun e3 q=>⟨e3,bb,q⟩
   rw[aa];unfold io;simp only[sT,By,BY,reduceIte,gD,Au,Am,w21,lda,cA0,u11,k6,Ah,u3,ln,AK,AJ,w20,c1,BB,g1,AM,AP,g2];refine⟨_,rfl,by simp[AG],fun j hj=>?_⟩;rcases hj with (rfl|rfl|rfl|rfl|rfl|rfl|rfl|rfl)|rfl<;>simp only[AG,By,BY,reduceIte]
  ·have c1:=DJ (show nn<=i by omega)
   refine(show ∃ e3,laR (call AC (m+12)) e2 h5=laQ (call AC (m+12)) e3 h6/\J 120 e3=.bool false/\∀ j,uq j\/j=11->J j e3=J j e2 from ?_).elim fun e3 q=>⟨e3,false,q⟩
   rw[aa];unfold io;simp only[sT,By,BY,reduceIte,gD,Au,Am,w21,lda,cA0,u11,k6,Ah,u3,ln,AK,AJ,w20,c1];refine⟨_,rfl,by simp[AG],fun j hj=>?_⟩;rcases hj with (rfl|rfl|rfl|rfl|rfl|rfl|rfl|rfl)|rfl<;>simp only[AG,By,BY,reduceIte]
 have t:=fun j (hj:uq j\/j=11)=>(qj j hj).trans (u j hj)
 obtain⟨e4,h7,nb',p4,s7,t11,tj⟩:=rq (m:=m) C s6 ((t 9 (.inl (by unfold uq;omega))).trans s9) ((t 10 (.inl (by unfold uq;omega))).trans s10) ((t 11 (.inr rfl)).trans s11) AL4;have t4:=fun j (hj:uq j)=>(tj j hj).trans (t j (.inl hj))
 obtain⟨e5,h8,p5,s8,zj⟩:=rt (m:=m) C s7 hv Vb hb0 ((t4 0 (by unfold uq;omega)).trans s0) t11 ((t4 13 (by unfold uq;omega)).trans s13);refine⟨e5,h8,nb',?_,s8,(zj 11 (.inr rfl)).trans t11,fun j hj=>(zj j (.inl hj)).trans (t4 j hj)⟩;rw[p1,ry,BJ,r2,BA,p3,rv,BJ,p4,BA,p5]
theorem ip(C:Lcx h0 hB S0 bd bm bc tb kk)(s:Lst hB S0 T bd bm bc tb v b0 1000 nb h)(hv:5<=v/\v<=9)(K:hB.KL kk vl xs)(hl:xs.length<=25)(hx:∀ x∈xs,AH2 h0 x/\x.l.length<=150)(B:Kbn h0 an nn)(Vb:h0.VE ub (b0.map bv))(hb0:∀ x∈b0,x<256)
  (s0:J 0 e=ub)(s3:J 3 e=an)(s9:J 9 e=pt tb)(s10:J 10 e=pt bd)(s11:J 11 e=pt nb)(s13:J 13 e=AI AT v)(s78:J 78 e=vl)(s79:J 79 e=AI AT (xs.length:Int))(s80:J 80 e=AI AT ((0:Nat):Int)):
  ∃ e' h',A9 laL (call AC (m+12)) e h=.exit 0 e' h'/\h0.Ext h':=by
 refine Bh (I:=fun i e' h'=>∃ nb',Lst hB S0 T bd bm bc tb v b0 (1000 - 40*i) nb' h'/\J 11 e'=pt nb'/\(∀ j,uq j->j≠80->J j e'=J j e)/\J 80 e'=AI AT (i:Int)/\i<=xs.length)
  (Q:=fun q=>∃ e' h',q=.exit 0 e' h'/\h0.Ext h') xs.length (by omega) (fun i e' h' ⟨nb',s',t11,tj,t80,hi⟩=>?_) ⟨nb,s,s11,fun _ _ _=>rfl,s80,Nat.zero_le _⟩
 have t79:=(tj 79 (by unfold uq;omega) (by omega)).trans s79;by_cases hlt:i<xs.length
 ·left
  have c1:=E9 hlt;obtain⟨x,hxi⟩:∃ x,xs[i]? =some x:=⟨_,sh hlt⟩;obtain⟨ok,AJD⟩:=hx x (List.mem_of_getElem? hxi);obtain⟨e1,p1,uj⟩:∃ e1,laL (call AC (m+12)) e' h'=laK (call AC (m+12)) e1 h'/\∀ j,uq j\/j=11->J j e1=J j e':=by
   rw[aZ];unfold im;simp only[sT,By,BY,reduceIte,AK,AJ,t80,t79,c1];refine⟨_,rfl,fun j hj=>?_⟩;rcases hj with (rfl|rfl|rfl|rfl|rfl|rfl|rfl|rfl)|rfl<;>simp only[AG,By,BY,reduceIte]
  have w:=fun j (hj:uq j) (hn:j≠80)=>(uj j (.inl hj)).trans (tj j hj hn)
  obtain⟨e2,h2,nb2,r1,s2,v11,vj⟩:=rz (m:=m) (j:=1000 - 40*(i+1)) C (by rw[show 1000 - 40*(i+1)+40=1000 - 40*i by omega];exact s') hv K hxi ok AJD B Vb hb0 ((w 0 (by unfold uq;omega) (by omega)).trans s0) ((w 3 (by unfold uq;omega) (by omega)).trans s3) ((w 9 (by unfold uq;omega) (by omega)).trans s9) ((w 10 (by unfold uq;omega) (by omega)).trans s10) ((uj 11 (.inr rfl)).trans t11) ((w 13 (by unfold uq;omega) (by omega)).trans s13) ((w 78 (by unfold uq;omega) (by omega)).trans s78) ((uj 80 (.inl (by unfold uq;omega))).trans t80);have v80:=(vj 80 (by unfold uq;omega)).trans ((uj 80 (.inl (by unfold uq;omega))).trans t80);have a3:=Cc (i:=i) (h:=h2) (by omega);obtain⟨e3,f1,f80,f11,fj⟩:∃ e3,laI (call AC (m+12)) e2 h2=.norm e3 h2/\J 80 e3=AI AT ((i+1:Nat):Int)/\J 11 e3=pt nb2/\∀ j,uq j->j≠80->J j e3=J j e2:=by
   unfold laI;simp only[sT,By,BY,reduceIte,BM,v80,a3];refine⟨_,rfl,by simp[AG],by simp[AG,v11],fun j hj hn=>?_⟩;rcases hj with rfl|rfl|rfl|rfl|rfl|rfl|rfl|rfl<;>first|exact absurd rfl hn|simp only[AG,By,BY,reduceIte]
  refine⟨hlt,e3,h2,?_,nb2,s2,f11,fun j hj hn=>(fj j hj hn).trans ((vj j hj).trans (w j hj hn)),f80,hlt⟩;rw[p1,ru];simp only[BJ,Az,r1,CT,BA,f1]
 ·right
  obtain rfl:i=xs.length:=by omega
  have c1:=DJ (IT xs.length);obtain⟨e1,p1⟩:∃ e1,laL (call AC (m+12)) e' h'=.exit 0 e1 h':=by
   rw[aZ];unfold im;simp only[sT,By,BY,reduceIte,AK,AJ,t80,t79,c1];exact⟨_,rfl⟩
  rw[p1];exact⟨rfl,e1,h',rfl,C.ext s'⟩
end
end
noncomputable section
open Go
set_option maxRecDepth 100000
theorem sI:ldS=BL (Ae 0 (A9 laL)) ldE:=rfl
theorem sE:ldF=sF:=rfl
theorem sG:ldM=sH:=rfl
theorem sC:ld2=sD:=rfl
theorem sA:ld1=sB:=rfl
theorem mQ:d5=d5h:=rfl
section
variable {F:AFi}{e:Env}{h h' h0:Hp}{T b0:List Nat}{m n nn nb vb:Nat}{v:Int}{ub an w:IN}
theorem ot{g1 g2:O}(h1:g1 e=AI AT v)(h2:g2 e=ub)(hc:cellsOf ub=[ub])(hk:known ub=true):
  BK KC.zero [(0,1,kV (AI AT 1)),(1,1,kV (AI AT 1)),(2,1,kV (.int .u8 1)),(3,1,kV (AI AT 3)),(4,1,kV (AI AT 1)),(5,1,g1),(6,1,g2)] F e h=.ok (Ck 1 1 1 3 1 v ub) h:=by
 rw[CS,Tx,Af (hk:=by rfl),Af (hk:=by rfl),Af (hk:=by rfl),Af (hk:=by rfl),Af (hk:=by rfl),Af (hk:=by rw[h1];rfl),h1,Af (hk:=by rw[h2];exact hk),h2,hc];simp only[Fd,Ch,List.length_singleton,yh,List.length_nil,CP,over,List.take,List.drop,List.append_eq,List.nil_append,List.cons_append,IS,Nat.reduceLeDiff,if_true,Bs,reduceIte];rfl
theorem oo{g1:O}(h1:g1 e=AI AT v):
  BK KC.zero [(0,1,kV (AI AT 1)),(1,1,kV (AI AT 2)),(2,1,kV (.int .u8 2)),(3,1,kV (AI AT 3)),(4,1,kV (AI AT 1)),(5,1,g1)] F e h=.ok (Ck 1 2 2 3 1 v AFn) h:=by
 rw[CS,Tx,Af (hk:=by rfl),Af (hk:=by rfl),Af (hk:=by rfl),Af (hk:=by rfl),Af (hk:=by rfl),Af (hk:=by rw[h1];rfl),h1];rfl
theorem ae(h:Hp)(hb:vb<256):∃ v:Int,Tc .u8 (.int .u8 (vb:Int)) (.int .u8 5) h=.ok (.int .u8 (v - 5)) h/\Di .i64 (.int .u8 (v - 5)) h=.ok (AI AT (v - 5)) h/\Ez .i64 (AI AT 5) (AI AT (v - 5)) h=.ok (AI AT v) h/\5<=v/\v<=9:=by
 have e1:(vb:Int).tmod 5=((vb % 5:Nat):Int):=rfl;have hm:=Nat.mod_lt vb (show 5 > 0 by omega);refine⟨((5+vb % 5:Nat):Int),?_,?_,?_,by omega,by omega⟩
 ·rw[Lz (by omega),e1,show((5+vb % 5:Nat):Int) - 5=((vb % 5:Nat):Int)by omega]
 ·rw[show((5+vb % 5:Nat):Int) - 5=((vb % 5:Nat):Int)by omega,Cw,Bf (by omega)]
 ·rw[show((5+vb % 5:Nat):Int) - 5=((vb % 5:Nat):Int)by omega,Dq,show(5:Int)+((vb % 5:Nat):Int)=((5+vb % 5:Nat):Int)by omega,Bf (by omega)]
theorem ir(W:h.Wf)(Vb:h.VE ub (b0.map bv))(hb0:∀ x∈b0,x<256)(hvb:vb<256)(O:AJ0 h w n 25)(B:Kbn h an nn):∃ h',call AC (m+13) 5 [ub,.int .u8 (vb:Int),w,an] h=.ok (.bool true) h'/\h.Ext h':=by
 have lb:=Vb.bl h;obtain⟨ku,cu,ou⟩:=tZ Vb;by_cases AHs:100<b0.length
 ·have c0:iGt (b0.length:Int) 100=true:=GZ (by omega)
  have aw:=ML (bs:=AC) (n:=m+11) (f:=16) Pw (h:=h);refine⟨h,?_,.refl W⟩;rw[mN rfl,mQ];unfold d5h;simp only[iN,IS,sT,By,BY,reduceIte,Ah,lb,AK,AJ,c0,cA0,aw,lV0]
 have c0:iGt (b0.length:Int) 100=false:=Fa (by omega);have k9:call AC (m+12) 8 [] h=.ok (.agg ⟨NO⟩) h:=Xa (n:=m+11) cx;obtain⟨T,hTl,hT⟩:=kU;rw[hTl]at k9;have hz:kY.zero.length=256:=by kernel_rfl
 have f9:=fun (F:AFi) (e:Env)=>BW (F:=F) (e:=e) (n:=256) (t:=Ph) W
 have y2:=(Hp.Ext.refl W).push (.cells Ph 256 0);have R9:(h.push (.cells Ph 256 0)).Row h.next 0 kY.zero:=Hp.Row.alloc W lG hz;generalize h.push (.cells Ph 256 0)=h2 at f9 y2 R9;obtain⟨st,y3,R9'⟩:=tB W y2 (IT _) R9 hz hT.1;generalize h2.wr h.next 0 (T.map wv)=h3 at st y3 R9';have W3:=y3.wf;have htb:=R9'.lt W3;have big:=W.big;obtain⟨h4,bs,bd,bm,bc,nb,k4,x4,U4,Rn4,hD4,hn4⟩:=YW (m:=m+2) (k:=1080) W3 R9' hT;have k4:call AC (m+12) 9 [pt h.next] h3=.ok (.tuple ⟨[pt bd,pt nb,.bool true]⟩) h4:=k4;have x04:=y3.trans x4;have W4:=x04.wf;have AMN:=Rn4.lt W4;have n3:=y3.next;obtain⟨v,r1,r2,r3,v5,v9⟩:=ae h4 hvb;have bP:∀ (F:AFi) (e:Env),J 13 e=AI AT v->J 0 e=ub->BK KC.zero [(0,1,kV (AI AT 1)),(1,1,kV (AI AT 1)),(2,1,kV (.int .u8 1)),(3,1,kV (AI AT 3)),(4,1,kV (AI AT 1)),(5,1,J 13),(6,1,J 0)] F e h4=.ok (Ck 1 1 1 3 1 v ub) h4:=fun F e e1 e2=>ot e1 e2 cu ku
 obtain⟨g5,h5,al5,st5,y5,R14,q5⟩:=Nq W4 Pj rfl (vs:=CP 1 1 1 3 1 v ub) rfl (by show(bif oneCell ub then true else false)=true;rw[ou];rfl);have st5:AFr 7 (pt h4.next) (Ck 1 1 1 3 1 v ub) g5=.ok AFl h5:=st5;have W5:=y5.wf;have bC:∀ (F:AFi) (e:Env),J 13 e=AI AT v->BK KC.zero [(0,1,kV (AI AT 1)),(1,1,kV (AI AT 2)),(2,1,kV (.int .u8 2)),(3,1,kV (AI AT 3)),(4,1,kV (AI AT 1)),(5,1,J 13)] F e h5=.ok (Ck 1 2 2 3 1 v AFn) h5:=fun F e e1=>oo e1
 obtain⟨g6,h6,al6,st6,y6,R15,q6⟩:=Nq W5 Pj rfl (vs:=CP 1 2 2 3 1 v AFn) rfl rfl;have st6:AFr 7 (pt h5.next) (Ck 1 2 2 3 1 v AFn) g6=.ok AFl h6:=st6;have W6:=y6.wf;have y46:=y5.trans y6;have x06:=x04.trans y46;obtain⟨_,_,_,_,_,_,_,lda⟩:=B5 (R14.ext W5 y6);have n4:=y5.next;have n5:=y6.next;obtain⟨e1,p1,s0,s2,s3,s9,s10,s11,s12,s13,s14,s15⟩:∃ e1,d5h (call AC (m+12)) (AS e0 0 [ub,.int .u8 (vb:Int),w,an]) h=ld1 (call AC (m+12)) e1 h6/\J 0 e1=ub/\J 2 e1=w/\J 3 e1=an/\J 9 e1=pt h.next/\J 10 e1=pt bd/\J 11 e1=pt nb/\J 12 e1=.bool true/\J 13 e1=AI AT v/\J 14 e1=pt h4.next/\J 15 e1=pt h5.next:=by
  unfold d5h;simp only[iN,IS,sT,By,BY,reduceIte,Ah,lb,AK,AJ,c0,cA0,k9,f9,AX,st,k4,A7,BC,BE,Cx,IO,Fd,r1,CX,r2,BM,r3,bP,al5,st5,bC,al6,st6];exact⟨_,rfl,by simp[AG]⟩
 have U6:=U4.ext W4 y46;have Rn6:=Rn4.ext W4 y46;have V6:=Vb.ext W x06;have nD:¬ At.D ⟨bs,bd,bm,bc,h.next,24⟩ nb:=fun h=>by have:=hD4 _ h;omega
 have htn:h.next≠nb:=by omega
 have huo:∀ b,AGA ub b->b≠nb:=fun b hb=>by
  have:=Vb.lt W b hb;omega
 have rq1:DL 1 1 1 3 1 v b0.length=true:=xW (.inl rfl) ⟨by omega,by omega⟩ ⟨by omega,by omega⟩ (by omega) (by omega);obtain⟨z7,iv7,bw7,AIs,h7,ks7,fr7,k7,f7,Rn7,U7,_,hi7,hw7,rd7⟩:=Sy (m:=m) (k:=1040) (lf:=1) (sq:=1) (op:=1) (a:=3) (b:=1) (c:=v) W6 rfl Rn6 U6 (fun b hb=>by rw[hb];exact Rn6.lt W6) rfl nD htn (by omega) V6 hb0 (by omega) huo rq1 (by omega);obtain⟨hz7,kx,rfl,hkx⟩:=X4 (v:=v) ⟨by omega,by omega⟩ (by omega) (List.cons_ne_nil _ _) rd7;subst hz7;have W7:=f7.wf;have nDr:∀ r,h4.next<=r->¬ (At.D ⟨bs,bd,bm,bc,h.next,24⟩ r\/r=nb):=fun r hr h=>by
  rcases h with h|h
  ·have:=hD4 _ h
   omega
  ·omega
 obtain⟨g8,h8,al8,st8,y8,R16,q8⟩:=Nq W7 EG rfl (vs:=EB 1 1 1 0 iv7 bw7 AIs) rfl (NQ hi7 hw7);have st8:AFr 7 (pt h7.next) (CC 1 1 1 0 iv7 bw7 AIs) g8=.ok AFl h8:=st8;have W8:=y8.wf;obtain⟨e2,p2,t0,t2,t3,t9,t10,t11,t12,t13,t15,t16,t17⟩:∃ e2,ld1 (call AC (m+12)) e1 h6=ld2 (call AC (m+12)) e2 h8/\J 0 e2=ub/\J 2 e2=w/\J 3 e2=an/\J 9 e2=pt h.next/\J 10 e2=pt bd/\J 11 e2=pt nb/\J 12 e2=.bool true/\J 13 e2=AI AT v/\J 15 e2=pt h5.next/\J 16 e2=pt h7.next/\J 17 e2=AI AT 0:=by
  rw[sA];unfold sB;simp only[sT,By,BY,reduceIte,Au,Am,s14,lda,cA0,s11,k7,A7,BC,BE,al8,AX,st8];exact⟨_,rfl,by simp[AG,s0,s2,s3,s9,s10,s11,s12,s13,s15]⟩
 have U8:=U7.ext W7 y8;have Rn8:=Rn7.ext W7 y8;have rq2:DL 1 2 2 3 1 v ([]:List Nat).length=true:=xW (.inr rfl) ⟨by omega,by omega⟩ ⟨by omega,by omega⟩ (by show 0<=65536;omega) (fun _=>rfl);obtain⟨z9,iv9,bw9,AIt,h9,ks9,fr9,k9',f9',Rn9,U9,_,hi9,hw9,rd9⟩:=Sy (m:=m) (k:=1000) (l:=[]) (lf:=1) (sq:=2) (op:=2) (a:=3) (b:=1) (c:=v) (u:=AFn) W8 rfl Rn8 U8 (fun b hb=>by rw[hb];exact Rn8.lt W8) rfl nD htn (by omega) (.inl (.inl ⟨rfl,rfl⟩)) (fun x hx=>by cases hx) (by show 0<=1000;omega) (fun b hb=>by obtain⟨_,_,_,hb⟩:=hb;cases hb) rq2 (by omega);obtain⟨hz9,H9⟩:=X2 hkx rd9;subst hz9;have W9:=f9'.wf;have n7:=f7.next;have n8:=y8.next;have AL5:=f9'.row W8 R16 (nDr _ (by omega));have AL6:loadN 7 ⟨h5.next,0,none⟩ h8=.ok (Ck 1 2 2 3 1 v AFn) h8:=(B5 ((f7.row W6 R15 (nDr _ (by omega))).ext W7 y8)).2.2.2.2.2.2.2;obtain⟨g10,h10,dW,AJ4,y10,R18,q10⟩:=Nq W9 EG rfl (vs:=EB 1 2 2 0 iv9 bw9 AIt) rfl (NQ hi9 hw9);have AJ4:AFr 7 (pt h9.next) (CC 1 2 2 0 iv9 bw9 AIt) g10=.ok AFl h10:=AJ4;have W10:=y10.wf;obtain⟨e3,p3,u0,u2,u3,u9,u10,u11,u12,u13,u16,u17,u18,u19⟩:∃ e3,ld2 (call AC (m+12)) e2 h8=ldM (call AC (m+12)) e3 h10/\J 0 e3=ub/\J 2 e3=w/\J 3 e3=an/\J 9 e3=pt h.next/\J 10 e3=pt bd/\J 11 e3=pt nb/\J 12 e3=.bool true/\J 13 e3=AI AT v/\J 16 e3=pt h7.next/\J 17 e3=AI AT 0/\J 18 e3=pt h9.next/\J 19 e3=AI AT 0:=by
  rw[sC];unfold sD;simp only[sT,By,BY,reduceIte,Au,Am,t15,AL6,cA0,t11,k9',A7,BC,BE,dW,AX,AJ4];exact⟨_,rfl,by simp[AG,t0,t2,t3,t9,t10,t11,t12,t13,t16,t17]⟩
 obtain⟨a3,_⟩:=HC (AL5.ext W9 y10);obtain⟨b3,_⟩:=HC R18;have c1:iNe 0 0=false:=CH rfl;obtain⟨e4,p4,w0,w2,w3,w9,w10,w11,w13⟩:∃ e4,ldM (call AC (m+12)) e3 h10=ldF (call AC (m+12)) e4 h10/\J 0 e4=ub/\J 2 e4=w/\J 3 e4=an/\J 9 e4=pt h.next/\J 10 e4=pt bd/\J 11 e4=pt nb/\J 13 e4=AI AT v:=by
  rw[sG];unfold sH;simp only[sT,By,BY,reduceIte,gD,Be,Bd,u12,ze,u17,u19,AK,AJ,c1,AH,AN,If,AM,AP,u16,u18,a3,b3];exact⟨_,rfl,by simp[AG,u0,u2,u3,u9,u10,u11,u13]⟩
 have x10:h.Ext h10:=by
  have hS:∀ b,(At.D ⟨bs,bd,bm,bc,h.next,24⟩ b\/b=nb)->h.next<=b:=fun b hb=>by
   rcases hb with hb|hb
   ·have:=hD4 _ hb
    omega
   ·omega
  exact(Fx.xtF ((Fx.xtF x06 f7 hS).trans y8) f9' hS).trans y10
 obtain⟨h11,v11,xs,k11,x11,K11,AL7,AL8⟩:=rF (m:=m+11) (h0:=h) W10 x10 W O;have k11:call AC (m+12) 10 [w] h10=.ok v11 h11:=k11;have W11:=x11.wf;have ln:=K11.len h11;have n9:=f9'.next;have n10:=y10.next;have n11:=x11.next;have C:Lcx h h11 (fun b=>At.D ⟨bs,bd,bm,bc,h.next,24⟩ b\/b=nb) bd bm bc h.next h10.next:=⟨W,x10.trans x11,fun b hb=>by
  rcases hb with hb|hb
  ·have:=hD4 _ hb
   omega
  ·omega,⟨.inl (.inr (.inl rfl)),.inl (.inr (.inr (.inl rfl))),.inl (.inr (.inr (.inr rfl)))⟩,by omega,n11⟩
 have AL9:Lst h11 (fun b=>At.D ⟨bs,bd,bm,bc,h.next,24⟩ b\/b=nb) T bd bm bc h.next v b0 1000 nb h11:=⟨.refl W11,bs,ks9,fr9,1,(U9.ext W9 y10).ext W10 x11,(Rn9.ext W9 y10).ext W10 x11,Int.le_refl _,H9,.inl (.inl (.inl rfl)),.inl (.inr rfl),nD,htn⟩;obtain⟨e5,p5,z0,z3,z9',z10,z11,z13,z78,z79,z80⟩:∃ e5,ldF (call AC (m+12)) e4 h10=ldS (call AC (m+12)) e5 h11/\J 0 e5=ub/\J 3 e5=an/\J 9 e5=pt h.next/\J 10 e5=pt bd/\J 11 e5=pt nb/\J 13 e5=AI AT v/\J 78 e5=v11/\J 79 e5=AI AT (xs.length:Int)/\J 80 e5=AI AT ((0:Nat):Int):=by
  rw[sE];unfold sF;simp only[sT,By,BY,reduceIte,cA0,w2,k11,Ah,ln];exact⟨_,rfl,by simp[AG,w0,w3,w9,w10,w11,w13]⟩
 obtain⟨e6,h12,r6,x12⟩:=ip (m:=m) C AL9 ⟨v5,v9⟩ K11 AL7 AL8 B Vb hb0 z0 z3 z9' z10 z11 z13 z78 z79 z80;have aw:=ML (bs:=AC) (n:=m+11) (f:=16) Pw (h:=h12);refine⟨h12,?_,x12⟩;rw[mN rfl,mQ,p1,p2,p3,p4,p5,sI];simp only[BJ,Az,r6,BD,BA];unfold ldE;simp only[sT,By,BY,reduceIte,cA0,aw,lV0]
end
end
end Go.Proofs.YtbjadbhkogcfeaaGreat
namespace Go.Proofs.YtbjadbhkogcfeaaGreat.nodeLate
noncomputable section
open Go Go.ChangeShapes Go.WideShapes Go.ChangeAt Go.RowKit
set_option linter.unusedVariables false
theorem own:ownKnob yi.godebug=none:=by kernel_rfl
theorem Lt:laidOutB yi=true:=by kernel_rfl
theorem ZX:yi.cellsOf 5=1:=by kernel_rfl
theorem fd:yi.cellsOf 36=7:=by kernel_rfl
theorem slc{H:Type}{enc:TypeId×IN->H}{P:Program}{W:World}{base t e:Nat}{v:IN}{x:DataW H}{p:List ADq}(ht:P.underlying t=some (.slice e))(h:AAI P W .any base t v)(tx:AC1 enc P W 0 (fun _=>true) true t v x p):
  ∃ fuel,AAa enc P W 0 (fun _=>true) true fuel t [v]=some (x,p):=by
 have h':ADE P W .any base t v:=by
  unfold AAI at h;rw[ht]at h;exact h
 obtain⟨fuel,hf⟩:=tx;refine⟨fuel,?_⟩;rcases Th ht h' with rfl|⟨a,n,c,rfl,_⟩<;>exact hf
section
variable {H:Type}{enc:TypeId×IN->H}{w:World}
theorem vw(m:Nat)(l:List IN)(y:DataW H×List ADq)(hl:l.length=1)(h:AAa enc yi w 0 (fun _=>true) true m 5 l=some y)(_:∀ b off,AAs b off∈y.2->w.frozen? ⟨b,off,none⟩=false):QB l:=by
 obtain⟨a0,e0,_,hw⟩:=AAq ABl h;have:=bounds_u8 hw;subst e0;exact⟨a0.toNat,by
  show [zd .u8 a0]=[zd .u8 ((a0.toNat:Nat):Int)];rw[ABd this.1],by omega⟩
theorem TM{n:Nat}{l:List IN}(h:l.length=n+1):∃ a l',l=a::l'/\l'.length=n:=by
 cases l with
 |nil=>cases h
 |cons a l'=>exact⟨a,l',rfl,Nat.succ.inj h⟩
theorem yM{l:List IN}(h:l.length=7):∃ c0 c1 c2 c3 c4 c5 c6,l=[c0,c1,c2,c3,c4,c5,c6]:=by
 obtain⟨c0,l0,rfl,h0⟩:=TM h;obtain⟨c1,l1,rfl,h1⟩:=TM h0;obtain⟨c2,l2,rfl,h2⟩:=TM h1;obtain⟨c3,l3,rfl,h3⟩:=TM h2;obtain⟨c4,l4,rfl,h4⟩:=TM h3;obtain⟨c5,l5,rfl,h5⟩:=TM h4;obtain⟨c6,l6,rfl,h6⟩:=TM h5;obtain rfl:=List.eq_nil_of_length_eq_zero h6;exact⟨c0,c1,c2,c3,c4,c5,c6,rfl⟩
set_option maxRecDepth 100000 in
theorem yI(m:Nat)(l:List IN)(y:DataW H×List ADq)(hl:l.length=7)(h:AAa enc yi w 0 (fun _=>true) true m 36 l=some y)(hfz:∀ b off,AAs b off∈y.2->w.frozen? ⟨b,off,none⟩=false):∃ x:AD,l=x.cells/\Yt w x:=by
 obtain⟨c0,c1,c2,c3,c4,c5,c6,rfl⟩:=yM hl;obtain⟨ys,k,_,rfl,_,hys,hfs⟩:=DataW.trod_struct Tryz.underlying36 h;have hys:ys.length=7:=hys;have g0:=hfs 0 _ rfl;have g1:=hfs 1 _ rfl;have g2:=hfs 2 _ rfl;have g3:=hfs 3 _ rfl;have g4:=hfs 4 _ rfl;have g5:=hfs 5 _ rfl;have g6:=hfs 6 _ rfl;have g0:AAa enc yi w 0 (fun _=>true) true k 3 [c0]=some (ys[0]'(by omega)):=g0.trans (sh _);have g1:AAa enc yi w 0 (fun _=>true) true k 3 [c1]=some (ys[1]'(by omega)):=g1.trans (sh _);have g2:AAa enc yi w 0 (fun _=>true) true k 33 [c2]=some (ys[2]'(by omega)):=g2.trans (sh _);have g3:AAa enc yi w 0 (fun _=>true) true k 3 [c3]=some (ys[3]'(by omega)):=g3.trans (sh _);have g4:AAa enc yi w 0 (fun _=>true) true k 3 [c4]=some (ys[4]'(by omega)):=g4.trans (sh _);have g5:AAa enc yi w 0 (fun _=>true) true k 3 [c5]=some (ys[5]'(by omega)):=g5.trans (sh _);have g6:AAa enc yi w 0 (fun _=>true) true k 34 [c6]=some (ys[6]'(by omega)):=g6.trans (sh _);obtain⟨a0,e0,_⟩:=AAq AAO g0;obtain⟨a1,e1,_⟩:=AAq AAO g1;obtain⟨a2,e2,_,hw⟩:=AAq Tryz.underlying33 g2;obtain⟨a3,e3,_⟩:=AAq AAO g3;obtain⟨a4,e4,_⟩:=AAq AAO g4;obtain⟨a5,e5,_⟩:=AAq AAO g5;have hB:=L2 ACO ZX (by omega) (Q:=QB) vw g6 (fun b off hm=>hfz b off (List.mem_flatMap.2 ⟨_,List.getElem_mem (by omega),hm⟩));have b8:=bounds_u8 hw;cases e0;cases e1;cases e2;cases e3;cases e4;cases e5;refine⟨⟨a0,a1,a2.toNat,a3,a4,a5,c6⟩,?_,hB,by show a2.toNat<256;omega⟩;show [zd .i64 a0,zd .i64 a1,zd .u8 a2,zd .i64 a3,zd .i64 a4,zd .i64 a5,c6]=[zd .i64 a0,zd .i64 a1,zd .u8 ((a2.toNat:Nat):Int),zd .i64 a3,zd .i64 a4,zd .i64 a5,c6];rw[ABd b8.1]
set_option maxRecDepth 100000 in
theorem tW{base:Nat}{v:IN}(h:AAI yi w .any base 5 v):∃ n:Nat,v=.int .u8 (n:Int)/\n<256:=by
 unfold AAI at h;rw[ABl]at h;have h:ADE yi w .any base 5 v:=h;unfold ADE at h;rw[ABl]at h;have h:Cell.ok yi w .any base 5 v:=by cases v<;>exact h
 unfold Cell.ok at h;rw[ABl]at h;split at h<;>first|(exact h.elim;done)|skip
 all_goals (rename_i n e1 _;cases e1)
 obtain⟨ek,_,_⟩:=h;rename_i hl hr _ _;subst hl;have h1:(0:Int)<=_:=hr.1;have h2:_<=(255:Int):=hr.2;obtain⟨m,rfl⟩:=Int.eq_ofNat_of_zero_le h1;exact⟨m,rfl,by omega⟩
def QO(l:List IN):Prop:=∃ b:Bool,l=[.bool b]
theorem me{l:List IN}(h:QO l)(φ:Phi):AF3 φ l l:=by
 obtain⟨b,rfl⟩:=h;exact .cons (.bool _) .nil
theorem yJ(m:Nat)(l:List IN)(y:DataW H×List ADq)(hl:l.length=1)(h:AAa enc yi w 0 (fun _=>true) true m 4 l=some y)(_:∀ b off,AAs b off∈y.2->w.frozen? ⟨b,off,none⟩=false):QO l:=by
 obtain⟨a0,e0,_⟩:=DataW.trod_bool ABw h;exact⟨a0,e0⟩
theorem OI:∀ {Ls:List (List IN)},(∀ l∈Ls,QO l)->∃ xs:List Bool,Ls.flatten=xs.map Value.bool/\xs.length=Ls.length
 |[],_=>⟨[],rfl,rfl⟩
 |l::Ls,h=>by
  obtain⟨x,rfl⟩:=h l List.mem_cons_self;obtain⟨xs,e1,e2⟩:=OI fun l hl=>h l (List.mem_cons_of_mem _ hl)
  exact⟨x::xs,by rw[List.flatten_cons,e1];rfl,by rw[yh,yh,e2]⟩
theorem au{W:World}{v:IN}{n:Nat}{Ls:List (List IN)}(b:Im W QO 1 v n Ls){i:Nat}{u:IN}(hu:(u=AFn/\Ls=[])\/(u=.chan (some 0)/\Ls=[])\/u=.slice (some ⟨i,0,none⟩) n Ls.length){h:Hp}(Wh:h.Wf)(hr:h.Row i 0 Ls.flatten):Kbn h u n:=by
 obtain⟨h1,h2,_⟩:=b;obtain⟨xs,e1,e2⟩:=OI fun l hl=>(h1 l hl).2
 rcases hu with ⟨rfl,hx⟩|⟨rfl,hx⟩|rfl
 ·subst hx
  obtain rfl:n=0:=by simpa using h2
  exact⟨fun g=>rfl,fun i hi=>absurd hi (ABs _)⟩
 ·subst hx
  obtain rfl:n=0:=by simpa using h2
  exact⟨fun g=>rfl,fun i hi=>absurd hi (ABs _)⟩
 ·refine⟨fun g=>rfl,fun j hj=>?_⟩
  have hjx:j<xs.length:=by omega
  refine⟨xs[j]'hjx,fun g xg=>⟨⟨i,0+j*1,none⟩,DB (h:=g) (n:=n) (c:=Ls.length) (es:=1) (b:=i) (off:=0) (k:=.i64) hj,?_⟩⟩;have hl:Ls.flatten.length=xs.length:=by rw[e1,List.length_map]
  rw[(hr.ext Wh xg).AFk (by rw[hl];omega),e1,List.getD_eq_getElem?_getD,List.getElem?_map,If,Nat.mul_one,sh hjx];rfl
end
theorem qJ:yi.cellsOf 4=1:=by kernel_rfl
set_option maxRecDepth 100000 in
theorem tc{H:Type}{enc:TypeId×IN->H}(b z o k:IN)(w:World){base:Nat}{d0 d1 d2:DataW H}{p0 p1 p2:List ADq}(hb:AAI yi w .any base 34 b)(hz:AAI yi w .any base 5 z)(ho:AAI yi w .any base 22 o)(hk:AAI yi w .any base 58 k)
  (tb:AC1 enc yi w 0 (fun _=>true) true 34 b d0 p0)(fb:∀ b off,AAs b off∈p0->w.frozen? ⟨b,off,none⟩=false)
  (to_:AC1 enc yi w 0 (fun _=>true) true 22 o d1 p1)(fo:∀ b off,AAs b off∈p1->w.frozen? ⟨b,off,none⟩=false)
  (tk:AC1 enc yi w 0 (fun _=>true) true 58 k d2 p2)(fk:∀ b off,AAs b off∈p2->w.frozen? ⟨b,off,none⟩=false):
  Calls yi 5 #[b,z,o,k] w fun e w'=>e=.returned (.bool true)/\Below w.heap.size w w':=by
 obtain⟨vb,rfl,hvb⟩:=tW hz;obtain⟨AMA,hf0⟩:=slc ACO hb tb;obtain⟨n0,Ls0,R0⟩:=L2 ACO ZX (by omega) (Q:=QB) vw hf0 fb;obtain⟨u0,q0,A0,B0,C0,D0⟩:=R0.rel (by omega) (fun l h φ=>Yx h φ) 0;obtain⟨l0,hl0,E0⟩:=ZL R0;obtain⟨fuel,hf⟩:=slc ADv ho to_;obtain⟨n,Ls,R⟩:=L2 ADv fd (by omega) (Q:=fun l=>∃ x:AD,l=x.cells/\Yt w x) yI hf fo;obtain⟨u,q,L0,qs,Zs,l1,l2,r1,r2,r3⟩:=da R 1 3 25;obtain⟨fuel2,hf2⟩:=slc ADu hk tk;obtain⟨n2,Ls2,R2⟩:=L2 ADu qJ (by omega) (Q:=QO) yJ hf2 fk;obtain⟨u2,q2,A2,B2,C2,D2⟩:=R2.rel (by omega) (fun l h φ=>me h φ) 2;have AFs:(Ls0.flatten::L0::Ls2.flatten::Zs).length<=256:=by simp only[yh];omega
 have W0:(inH (Ls0.flatten::L0::Ls2.flatten::Zs)).Wf:=aO AFs;have O:=r3 _ W0 (Lq AFs (i:=1) rfl) (fun j L e=>Lq AFs (i:=j+3) e);have Vb:=E0 0 u0 D0 _ (Lq AFs (i:=0) rfl);have K:=au R2 D2 W0 (Lq AFs (i:=2) rfl);obtain⟨h',hr,hx'⟩:=ir (m:=51) W0 Vb hl0 hvb O K;obtain⟨g1,g2⟩:=r1 (Mi (q0::q::q2::qs)) rfl (fun j q' e=>by
  show((q0::q::q2::qs)[j+3]?).getD none=q';have e:(q0::q::q2::qs)[j+3]? =some q':=e;rw[e];rfl)
 refine kI ZW hr hx' rfl (.cons (C0 (Mi (q0::q::q2::qs)) rfl) (.cons (.int _ _) (.cons g2 (.cons (C2 _ rfl) .nil)))) (cU (ps:=q0::q::q2::qs) AFs (by simp only[yh];omega) fun i q' L e1 e2=>?_)
 match i,e1,e2 with
 |0,e1,e2=>cases e1;cases e2;exact A0.AJ1 (B0 _)
 |1,e1,e2=>cases e1;cases e2;exact g1
 |2,e1,e2=>cases e1;cases e2;exact A2.AJ1 (B2 _)
 |i+3,e1,e2=>
  have e1:qs[i]? =some q':=e1;have e2:Zs[i]? =some L:=e2;obtain⟨s1,s2⟩:=r2 i q' L e1 e2;exact s1.AJ1 (s2 _)
set_option maxRecDepth 100000 in
theorem sJ(os:Os)(started:os.Started)(H:Type)(enc:TypeId×IN->H):
  ReturnsInHanded {} ADR os 5 .any (Rows.nodeLateSpec.pre6 enc yi ADg Rows.nodeLateRow.domain false) (Rows.nodeLateSpec.post enc yi ADg false true false false):=by
 refine returnsInHanded_of_change (C:=ADR) own started (by kernel_rfl) AFG
  (AFa (enc:=enc) (C:=ADR) false ⟨#[],#[.slice none 0 0,.int .u8 0,.slice none 0 0,.slice none 0 0],[]⟩ 8 (by kernel_rfl) (by kernel_rfl) (by kernel_rfl) (by kernel_rfl)) ?_
 intro W base args ds gs before AIu hW AMO _;have hval:∀ (j:Nat) t v,ADg.params[j]? =some t->args[j]? =some v->AAI yi W .any base t v:=AIu;have hW':=hW;obtain⟨p,q,hA0,hV,rfl,hfz,hnd⟩:=hW;have hA:DataW.TrodAll enc yi W 0 (fun _=>true) true ADg.params.toList args.toList ds p:=hA0;rw[Tryz.params5]at hA hval;obtain⟨v0,vs0,d0,ds0,p0,q0,hargs,rfl,rfl,h0,r0⟩:=trodAll_cons hA;obtain⟨v1,vs1,d1,ds1,p1,q1,rfl,rfl,rfl,h1,r1⟩:=trodAll_cons r0;obtain⟨v2,vs2,d2,ds2,p2,q2,rfl,rfl,rfl,h2,r2⟩:=trodAll_cons r1;obtain⟨v3,vs3,d3,ds3,p3,q3,rfl,rfl,rfl,h3,r3⟩:=trodAll_cons r2;obtain⟨rfl,rfl,rfl⟩:=trodAll_nil r3;obtain rfl:args= #[v0,v1,v2,v3]:=by cases args;simp_all
 obtain⟨rfl,rfl⟩:=trodVars_none hV;clear hA0 AIu;simp only[yw]at hW' hfz;have hlt:∀ x∈p0++(p1++(p2++p3)),x.block<W.heap.size:=fun x hx=>hW'.lt x hx
 have i0:∀ x∈p0,x∈p0++(p1++(p2++p3)):=fun x hx=>zR _ hx
 have i1:∀ x∈p1,x∈p0++(p1++(p2++p3)):=fun x hx=>zE _ (zR _ hx)
 have i2:∀ x∈p2,x∈p0++(p1++(p2++p3)):=fun x hx=>zE _ (zE _ (zR _ hx))
 have i3:∀ x∈p3,x∈p0++(p1++(p2++p3)):=fun x hx=>zE _ (zE _ (zE _ hx))
 refine(tc v0 v1 v2 v3 W (hval 0 34 v0 rfl rfl) (hval 1 5 v1 rfl rfl) (hval 2 22 v2 rfl rfl) (hval 3 58 v3 rfl rfl) h0 (fun b off hm=>hfz b off (i0 _ hm)) h2 (fun b off hm=>hfz b off (i2 _ hm)) h3 (fun b off hm=>hfz b off (i3 _ hm))).mono fun e W' ⟨he,hb⟩=>?_
 subst he;refine⟨_,rfl,Ng (pa:=p0++(p1++(p2++p3))) (pv:=[]) hW' (fun _ _ _=>(trodAll_cons_mk (shut_bool ABw _) trodAll_mk0)) (fun sp hsp=>?_) (fun _ _=>rfl) (by simp) hb (ok_one (by kernel_rfl) rfl (okWide_bool_mk ABw _))⟩;have s0:=AA2 Lt (by kernel_rfl) (of_decide_eq_true (by kernel_rfl)) h0 (fun x hx=>hb.same (hlt x (i0 x hx))) (fun x hx=>hsp x (i0 x hx));have s1:=AA2 Lt (by kernel_rfl) (of_decide_eq_true (by kernel_rfl)) h1 (fun x hx=>hb.same (hlt x (i1 x hx))) (fun x hx=>hsp x (i1 x hx));have s2:=AA2 Lt (by kernel_rfl) (of_decide_eq_true (by kernel_rfl)) h2 (fun x hx=>hb.same (hlt x (i2 x hx))) (fun x hx=>hsp x (i2 x hx));have s3:=AA2 Lt (by kernel_rfl) (of_decide_eq_true (by kernel_rfl)) h3 (fun x hx=>hb.same (hlt x (i3 x hx))) (fun x hx=>hsp x (i3 x hx));have:=trodAll_cons_mk s0 (trodAll_cons_mk s1 (trodAll_cons_mk s2 (trodAll_cons_mk s3 (trodAll_mk0 (enc:=enc) (P:=yi) (w:=W') (base:=0) (spare:=sp) (held:=true)))));rw[yw]at this;exact this
theorem over:Rows.nodeLateRow.holds Tryz.pinned (OpenSpec.ofChange Rows.nodeLateSpec):=
 AFe 5 ADg rfl rfl rfl rfl rfl rfl rfl ⟨rfl,rfl,rfl,rfl,rfl⟩ rfl rfl rfl rfl rfl (by kernel_rfl) AFG (by kernel_rfl)
  (of_decide_eq_true (by kernel_rfl)) (by unfold Func.isWrapper;first|(rw[if_pos (by decide +kernel)];kernel_rfl)|(rw[if_neg (by decide +kernel)];exact⟨rfl,rfl⟩))
  (fun os started H enc _=>sJ os started H enc)
theorem proved:Rows.NodeLateSaid:=
 over
#print axioms proved
end
end Go.Proofs.YtbjadbhkogcfeaaGreat.nodeLate
