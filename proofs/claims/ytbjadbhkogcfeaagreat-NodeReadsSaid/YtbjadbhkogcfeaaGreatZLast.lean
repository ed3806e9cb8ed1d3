/-
  'NodeReads' of layer 11 answers true, whatever memory it is called in, whatever asks it is handed and whatever the tape answers: no condition. What the canonical machine gives is shown for any of them (YtbjadbhkogcfeaaGreatNre); that machine is sound for the model (YtbjadbhkogcfeaaGreatFns).
-/
import Derived.Test.YtbjadbhkogcfeaaGreatZR
import Derived.Test.YtbjadbhkogcfeaaGreatRows
import Derived.ProofKit
import Derived.OpenShut
import Derived.Carry
open Go.Value renaming int→AI
open Go.IntKind renaming i64→AT
open Nat renaming reduceEqDiff→BY,reduceLT→By,le_refl→IT,zero_add→If,le_trans→yP
open Go renaming Value→IN,MemPlace→ADR
open List renaming getElem?_eq_getElem→sh,length_cons→xY,append_nil→xx,length_eq_zero_iff→zi
open Go.Proofs.Tryz renaming prog→xc,underlying3→AAO,checked→ACP,f4→ACg,underlying22→ACq,underlying4→AC0,func4→ADr
open Go.Value renaming int→ye,okWide→AAN
open Bool renaming not_true→yi
open Go.DataW renaming trod→zj,trod_int→zu,Trod→ADm
open Int renaming toNat_of_nonneg→AAo,le_refl→ACV
open Go.MemPlace renaming cell→AA7
open Go.ChangeSpec renaming witness6→AD3
open Go.WideElems renaming Trod_stays→AD4
open Go.OpenClaim renaming holds_of_wide→AD6
set_option linter.unusedVariables false
set_option linter.unusedSimpArgs false
namespace Go.Proofs.YtbjadbhkogcfeaaGreat
noncomputable section
open Go
set_option maxRecDepth 100000
theorem rt:rrK=BI (Ab 7 rrB) rrI:=rfl
theorem bS:rrL=je:=rfl
section
variable {F:AEA}{e:Env}{h h' h0 hB:Hp}{X:Nat->Prop}{A:At}{T:List Nat}{m k kw n nb r r10 op i bd:Nat}{lf sq a b c z room:Int}{ks fl:List Kt}{fr l:List Nat}{u w iv bw:IN}{x y:Kt}
theorem M9{lf sq:Int}(hi:oneCell iv=true)(hw:oneCell bw=true):Ba (D4 lf sq op z iv bw room)=true:=by
 show(bif oneCell iv then(bif oneCell bw then true else false)else false)=true;rw[hi,hw];rfl
theorem Rcx.nD(C:Rcx h0 hB A T nb kw w ks fr)(hr:hB.next<=r):¬ (A.D r\/r=nb):=fun h=>by
 have:=C.nb0;have:=C.kwl;rcases h with h|h
 ·have:=C.hD r h
  omega
 ·omega
theorem lc(C:Rcx h0 hB A T nb kw w ks fr)(s:Rst hB A T nb ks fr X h)(hr:hB.next<=r10)(R10:h.Row r10 0 (Bs x))(hx:(0<=x.a/\x.a<=1099511627776)/\(0<=x.b/\x.b<=254)/\(0<=x.c/\x.c<=1099511627776))(hfl:ks.filter (fun y=>LE y x.a x.b x.c)=fl)
  (s5:J 5 e=pt nb)(s10:J 10 e=pt r10):
  ∃ e1 h1 iv k,Rst hB A T nb ks fr X h1/\h1.Row r10 0 (Bs x)/\h1.IL k iv fl/\r10<k/\(∀ j,cq j\/j=11->J j e1=J j e)/\
   ((fl=[]/\roB (call AC (m+12)) e h=.exit 2 e1 h1)\/(fl≠[]/\roB (call AC (m+12)) e h=rcT (call AC (m+12)) e1 h1/\J 73 e1=iv/\J 74 e1=AI AT (fl.length:Int)/\J 75 e1=AI AT ((0:Nat):Int))):=by
 have W:=s.f.wf;have l0:AEC ⟨r10,0,none⟩ h=.ok (AI AT x.a) h:=R10.AEC (off:=0) (by show 0<4;omega);have l1:AEC ⟨r10,1,none⟩ h=.ok (AI AT x.b) h:=R10.AEC (off:=1) (by show 1<4;omega);have l2:AEC ⟨r10,2,none⟩ h=.ok (AI AT x.c) h:=R10.AEC (off:=2) (by show 2<4;omega);have bd:∀ (F:AEA) (e:Env),J 52 e=AI AT x.a->J 54 e=AI AT x.b->J 56 e=AI AT x.c->BC Js.zero [(0,1,kV (AI AT 1)),(1,1,kV (AI AT 1)),(2,1,kV (.int .u8 5)),(3,1,J 52),(4,1,J 54),(5,1,J 56)] F e h=.ok (Cp 1 1 5 x.a x.b x.c AEF) h:=fun F e e1 e2 e3=>Yl e1 e2 e3 5
 obtain⟨z,iv,bw,room,h2,k1,s2,f2,hi,hw,rd⟩:=PK (m:=m) C s (.inr rfl) hx.1 hx.2.1 hx.2.2;have q:z=0/\bw=AEF/\h2.IL h.next iv fl:=by
  rcases rd with ⟨_,n5,_⟩|⟨_,_,⟨_,e1,e2,e3⟩|⟨n4,_⟩⟩
  ·omega
  ·rw[hfl]at e3
   exact⟨e1,e2,e3⟩
  ·omega
 obtain⟨rfl,rfl,I2⟩:=q;have R2:=f2.row W R10 (C.nD hr);obtain⟨g1,h3,al,st,y3,R12,_⟩:=UC s2.f.wf D7 rfl (vs:=D4 1 1 5 0 iv AEF room) rfl (M9 hi rfl);have st:AEH 7 (pt h2.next) (CB 1 1 5 0 iv AEF room) g1=.ok AED h3:=st;obtain⟨t3,t4,_⟩:=G0 R12;have I3:=I2.ext s2.f.wf y3;have ln:=I3.len h3;have c1:iNe 0 0=false:=CN rfl;have hlt:=R10.lt W;cases hf:fl with
 |nil=>
  rw[hf]at ln I3;have ln:AEs iv h3=.ok (AI AT 0) h3:=ln;have c2:iEq 0 0=true:=CL rfl;refine(show ∃ e1,roB (call AC (m+12)) e h=.exit 2 e1 h3/\(∀ j,cq j\/j=11->J j e1=J j e)from ?_).elim fun e1 ⟨p1,p2⟩=>⟨e1,h3,iv,h.next,s2.ext y3,R2.ext s2.f.wf y3,I3,hlt,p2,.inl ⟨rfl,p1⟩⟩
  rw[bO];unfold jb;simp only[sT,By,BY,reduceIte,gD,s10,AH,AO,If,AN,AP,l0,l1,l2,bd,cA0,s5,k1,A8,BB,BH,al,AX,st,AK,AJ,c1,t3,t4,Af,ln,c2];refine⟨_,rfl,fun j hj=>?_⟩;rcases hj with (rfl|rfl|rfl|rfl|rfl)|rfl<;>simp only[AG,By,BY,reduceIte]
 |cons f0 fs=>
  rw[<- hf];have c2:iEq (fl.length:Int) 0=false:=B6 (by rw[hf,xY];omega);refine(show ∃ e1,roB (call AC (m+12)) e h=rcT (call AC (m+12)) e1 h3/\(∀ j,cq j\/j=11->J j e1=J j e)/\J 73 e1=iv/\J 74 e1=AI AT (fl.length:Int)/\J 75 e1=AI AT ((0:Nat):Int)from ?_).elim fun e1 ⟨p1,p2,p3,p4,p5⟩=>⟨e1,h3,iv,h.next,s2.ext y3,R2.ext s2.f.wf y3,I3,hlt,p2,.inr ⟨by rw[hf];exact List.cons_ne_nil _ _,p1,p3,p4,p5⟩⟩
  rw[bO];unfold jb;simp only[sT,By,BY,reduceIte,gD,s10,AH,AO,If,AN,AP,l0,l1,l2,bd,cA0,s5,k1,A8,BB,BH,al,AX,st,AK,AJ,c1,t3,t4,Af,ln,c2];refine⟨_,rfl,fun j hj=>?_,by simp[AG]⟩;rcases hj with (rfl|rfl|rfl|rfl|rfl)|rfl<;>simp only[AG,By,BY,reduceIte]
def kq(j:Nat):Prop:=j=4\/j=5\/j=9\/j=10
theorem Z0{α:Type}{l:List α}{a:α}(h:l[l.length - 1]? =some a):∃ p,l=p++[a]:=by
 rw[<- List.getLast?_eq_getElem?]at h;exact List.getLast?_eq_some_iff.1 h
theorem jc(C:Rcx h0 hB A T nb kw w ks fr)(s:Rst hB A T nb ks fr X h)(hX:X r10)(hr:hB.next<=r10)(R10:h.Row r10 0 (Bs K0))(hl:ks.length<=1000)
  (s5:J 5 e=pt nb)(s9:J 9 e=w)(s10:J 10 e=pt r10)(s11:J 11 e=AI AT ((0:Nat):Int))(s47:J 47 e=AI AT ((0:Nat):Int)):
  ∃ e' h',A3 roL (call AC (m+12)) e h=.exit 2 e' h'/\Rst hB A T nb ks fr X h'/\(∀ j,kq j->J j e'=J j e)/\J 11 e'=AI AT (ks.length:Int):=by
 refine Bd (I:=fun i e' h'=>∃ y,Rst hB A T nb ks fr X h'/\h'.Row r10 0 (Bs y)/\(∀ j,kq j->J j e'=J j e)/\J 47 e'=AI AT (i:Int)/\((i=0/\y=K0/\J 11 e'=AI AT ((0:Nat):Int))\/(i=1/\(∃ p,ks=p++[y])/\J 11 e'=AI AT (ks.length:Int))))
  (Q:=fun q=>∃ e' h',q=.exit 2 e' h'/\Rst hB A T nb ks fr X h'/\(∀ j,kq j->J j e'=J j e)/\J 11 e'=AI AT (ks.length:Int)) 10 (by omega) (fun i e' h' ⟨y,s',R',tj,t47,hy⟩=>?_)
  ⟨K0,s,R10,fun _ _=>rfl,s47,.inl ⟨rfl,rfl,s11⟩⟩
 have hi:i<=1:=by rcases hy with ⟨h,_⟩|⟨h,_⟩<;>omega
 have c1:iLt (i:Int) 10=true:=HT (by omega);obtain⟨e1,p1,uj⟩:∃ e1,roL (call AC (m+12)) e' h'=roK (call AC (m+12)) e1 h'/\∀ j,cq j\/j=11->J j e1=J j e':=by
  rw[rn];unfold ro;simp only[sT,By,BY,reduceIte,AK,AJ,t47,c1];refine⟨_,rfl,fun j hj=>?_⟩;rcases hj with (rfl|rfl|rfl|rfl|rfl)|rfl<;>simp only[AG,By,BY,reduceIte]
 have u5:=(uj 5 (by unfold cq;omega)).trans ((tj 5 (by unfold kq;omega)).trans s5);have u9:=(uj 9 (by unfold cq;omega)).trans ((tj 9 (by unfold kq;omega)).trans s9);have u10:=(uj 10 (by unfold cq;omega)).trans ((tj 10 (by unfold kq;omega)).trans s10);have kc:∀ j,kq j->cq j\/j=11:=fun j hj=>by
  unfold cq;unfold kq at hj;omega
 have done:∀ e2 h2,roB (call AC (m+12)) e1 h'=.exit 2 e2 h2->Rst hB A T nb ks fr X h2->(∀ j,cq j\/j=11->J j e2=J j e1)->J 11 e'=AI AT (ks.length:Int)->(UU (roL (call AC (m+12)) e' h')=true/\∃ e2 h2,roL (call AC (m+12)) e' h'=.exit 2 e2 h2/\Rst hB A T nb ks fr X h2/\(∀ j,kq j->J j e2=J j e)/\J 11 e2=AI AT (ks.length:Int)):=fun e2 h2 r1 s2 wj h11=>by
  have q:roL (call AC (m+12)) e' h'=.exit 2 e2 h2:=by
   rw[p1,bP];simp only[BJ,Ay,r1];rfl
  rw[q];exact⟨rfl,e2,h2,rfl,s2,fun j hj=>(wj j (kc j hj)).trans ((uj j (kc j hj)).trans (tj j hj)),(wj 11 (.inr rfl)).trans ((uj 11 (.inr rfl)).trans h11)⟩
 rcases hy with ⟨rfl,rfl,t11⟩|⟨rfl,⟨p,hp⟩,t11⟩
 ·have hfl:ks.filter (fun y=>LE y K0.a K0.b K0.c)=ks:=df fun x hx=>by
   have:=C.info hx;omega
  obtain⟨e2,h2,iv,k,s2,R2,I2,hk,wj,q⟩:=lc (m:=m) C s' hr R' (x:=K0) ⟨⟨ACV _,by decide⟩,⟨ACV _,by decide⟩,ACV _,by decide⟩ hfl u5 u10;rcases q with ⟨q1,q2⟩|⟨q1,q2,w73,w74,w75⟩
  ·right
   exact done e2 h2 q2 s2 wj (by rw[t11,q1];rfl)
  ·left
   obtain⟨e3,h3,y3,r3,s3,R3,vj,v11,hy3⟩:=jV (m:=m) C s2 hX hr R2 I2 hk hl ((wj 9 (.inl (by unfold cq;omega))).trans u9) ((wj 10 (.inl (by unfold cq;omega))).trans u10) ((wj 11 (.inr rfl)).trans ((uj 11 (.inr rfl)).trans t11)) w73 w74 w75;have v47:J 47 e3=AI AT ((0:Nat):Int):=(vj 47 (by unfold cq;omega)).trans ((wj 47 (.inl (by unfold cq;omega))).trans ((uj 47 (.inl (by unfold cq;omega))).trans t47));have a3:=CI (i:=0) (h:=h3) (by omega);obtain⟨e4,f1,f47,f11,fj⟩:∃ e4,roI (call AC (m+12)) e3 h3=.norm e4 h3/\J 47 e4=AI AT ((0+1:Nat):Int)/\J 11 e4=AI AT (ks.length:Int)/\∀ j,kq j->J j e4=J j e3:=by
    unfold roI;simp only[sT,By,BY,reduceIte,BM,v47,a3];refine⟨_,rfl,by simp[AG],by simp[AG,v11],fun j hj=>?_⟩;rcases hj with rfl|rfl|rfl|rfl<;>simp only[AG,By,BY,reduceIte]
   have hpos:0<ks.length:=Nat.pos_of_ne_zero fun h=>q1 (zi.1 h)
   refine⟨by omega,e4,h3,?_,y3,s3,R3,fun j hj=>(fj j hj).trans ((vj j (by unfold cq;unfold kq at hj;omega)).trans ((wj j (kc j hj)).trans ((uj j (kc j hj)).trans (tj j hj)))),f47,.inr ⟨rfl,Z0 (hy3 hpos),f11⟩⟩;rw[p1,bP];simp only[BJ,Ay,q2,rh,r3,A7,Ca,BA,f1]
 ·right
  have hy:y∈ks:=by rw[hp];exact List.mem_append_right _ List.mem_cons_self
  have hfl:ks.filter (fun x=>LE x y.a y.b y.c)=[]:=by
   have ha:=C.asc;rw[hp]at ha ⊢;exact Yc ha
  obtain⟨o1,o2,o3,o4⟩:=C.info hy;obtain⟨e2,h2,iv,k,s2,R2,I2,hk,wj,q⟩:=lc (m:=m) C s' hr R' (x:=y) ⟨o1,o2,by omega,by omega⟩ hfl u5 u10;rcases q with ⟨_,q2⟩|⟨q1,_⟩
  ·exact done e2 h2 q2 s2 wj t11
  ·exact absurd rfl q1
theorem dr{g1 g2:O}(h1:g1 e=AI AT a)(h2:g2 e=AI AT b)(op:Nat):
  BC Js.zero [(0,1,kV (AI AT 1)),(1,1,kV (AI AT 1)),(2,1,kV (.int .u8 (op:Int))),(3,1,g1),(4,1,g2)] F e h=.ok (Cp 1 1 op a b 0 AEF) h:=by
 rw[CQ,cR,As (hk:=by rfl),As (hk:=by rfl),As (hk:=by rfl),As (hk:=by rw[h1];rfl),h1,As (hk:=by rw[h2];rfl),h2];rfl
def gq(j:Nat):Prop:=j=4\/j=5\/j=9\/j=11\/j=113\/j=114
theorem ru(C:Rcx h0 hB A T nb kw w ks fr)(s:Rst hB A T nb ks fr X h)(hi:ks[i]? =some x)(hl:ks.length<=1000)
  (s5:J 5 e=pt nb)(AIZ:J 113 e=w)(AIa:J 115 e=AI AT (i:Int)):
  ∃ e' h',rrB (call AC (m+12)) e h=.norm e' h'/\Rst hB A T nb ks fr X h'/\∀ j,gq j\/j=115->J j e'=J j e:=by
 have W:=s.f.wf;have hx:=List.mem_of_getElem? hi;obtain⟨o1,o2,o3,o4⟩:=C.info hx;obtain⟨b,u,hg⟩:=C.V.at5 hi;obtain⟨ix,ld,Vu,_⟩:=hg h (C.rows s);obtain⟨_,_,ou⟩:=ND Vu;have hB1:=s.f.next;obtain⟨g1,h1,al1,st1,y1,R17,_⟩:=Yy (n:=5) W Ew rfl (vs:=A4 x.a x.b x.c x.s u) rfl (by show(bif oneCell u then true else false)=true;rw[ou];rfl);have st1:AEH 5 (pt h.next) (Bk x.a x.b x.c x.s u) g1=.ok AED h1:=st1;obtain⟨l0,l1,l2,l3,l4,_⟩:=Bh R17;have s1:=s.ext y1;have bd1:∀ (F:AEA) (e:Env),J 122 e=AI AT x.a->J 124 e=AI AT x.b->J 126 e=AI AT x.c->BC Js.zero [(0,1,kV (AI AT 1)),(1,1,kV (AI AT 1)),(2,1,kV (.int .u8 4)),(3,1,J 122),(4,1,J 124),(5,1,J 126)] F e h1=.ok (Cp 1 1 4 x.a x.b x.c AEF) h1:=fun F e e1 e2 e3=>Yl e1 e2 e3 4
 obtain⟨z,iv1,bw1,AHM,h2,k1,s2,f2,hi1,hw1,rd⟩:=PK (m:=m) C s1 (.inl rfl) o1 o2 (show 0<=x.c/\_ by omega);have fnd:ks.find? (Bq x.a x.b x.c)=some x:=MF C.iv.key hx rfl;have q:z=0/\h2.BS (fun b=>h1.next<=b) bw1 (x.l.map bv):=by
  rcases rd with ⟨n4,_⟩|⟨_,_,⟨n5,_⟩|⟨_,⟨n0,_⟩|⟨_,n1,_⟩|⟨_,kx,n1,n2,_,n3⟩⟩⟩
  ·omega
  ·omega
  ·omega
  ·rw[fnd]at n1;cases n1
  ·rw[fnd]at n1
   cases n1;exact⟨n2,n3⟩
 obtain⟨rfl,B2⟩:=q;have W1:=s1.f.wf;have W2:=s2.f.wf;have n1:=s1.f.next;have n2:=s2.f.next;obtain⟨g3,h3,al3,st3,y3,R18,_⟩:=UC W2 D7 rfl (vs:=D4 1 1 4 0 iv1 bw1 AHM) rfl (M9 hi1 hw1);have st3:AEH 7 (pt h2.next) (CB 1 1 4 0 iv1 bw1 AHM) g3=.ok AED h3:=st3;have s3:=s2.ext y3;have W3:=s3.f.wf;have AJJ:=(f2.row W1 R17 (C.nD hB1)).ext W2 y3;obtain⟨b0,b1,_,_,_,_⟩:=Bh AJJ;have bd2:∀ (F:AEA) (e:Env),J 134 e=AI AT x.a->J 136 e=AI AT x.b->BC Js.zero [(0,1,kV (AI AT 1)),(1,1,kV (AI AT 1)),(2,1,kV (.int .u8 4)),(3,1,J 134),(4,1,J 136)] F e h3=.ok (Cp 1 1 4 x.a x.b 0 AEF) h3:=fun F e e1 e2=>dr e1 e2 4
 obtain⟨z2,iv2,bw2,AHN,h4,k4,s4,f4,hi2,hw2,rd2⟩:=PK (m:=m) C s3 (.inl rfl) o1 o2 (show(0:Int)<=0/\_ by omega);have q2:z2=0/\bw2=AEF/\h4.IL h3.next iv2 (ks.filter fun y=>decide (y.a=x.a) && decide (y.b=x.b)):=by
  rcases rd2 with ⟨n4,_⟩|⟨_,_,⟨n5,_⟩|⟨_,⟨_,n0⟩|⟨n1,_⟩|⟨n1,_⟩⟩⟩
  ·omega
  ·omega
  ·exact n0
  ·exact absurd rfl n1
  ·exact absurd rfl n1
 obtain⟨rfl,rfl,I4⟩:=q2;have W4:=s4.f.wf;obtain⟨g5,h5,al5,st5,y5,R20,_⟩:=UC W4 D7 rfl (vs:=D4 1 1 4 0 iv2 AEF AHN) rfl (M9 hi2 rfl);have st5:AEH 7 (pt h4.next) (CB 1 1 4 0 iv2 AEF AHN) g5=.ok AED h5:=st5;have s5':=s4.ext y5;have hn3:=s3.f.next;have AKd:=(f4.row W3 AJJ (C.nD hB1)).ext W4 y5;have AKe:=(f4.row W3 R18 (C.nD n2)).ext W4 y5;obtain⟨_,_,_,_,v4,_⟩:=Bh AKd;obtain⟨t3,_,t5,_⟩:=G0 AKe;obtain⟨_,z4,z5,_⟩:=G0 R20;have B5:h5.BS (fun b=>h1.next<=b) bw1 (x.l.map bv):=((B2.ext W2 y3).keep fun b el L hb _ r=>f4.row W3 r (C.nD (yP n1 hb))).ext W4 y5;obtain⟨_,_,V5,_⟩:=hg h5 (C.rows s5');have k6:=lg (n:=m+11) B5.vs.vals V5 (C.byt x hx) (C.byt x hx);rw[decide_eq_true rfl]at k6;have ln:=(I4.ext W4 y5).len h5;have hpos:(ks.filter fun y=>decide (y.a=x.a) && decide (y.b=x.b)).length≠0:=fun h0=>by
  have:=zi.1 h0;have hm:x∈ks.filter fun y=>decide (y.a=x.a) && decide (y.b=x.b):=List.mem_filter.2 ⟨hx,by rw[decide_eq_true rfl,decide_eq_true rfl];rfl⟩
  rw[this]at hm;cases hm
 generalize (ks.filter fun y=>decide (y.a=x.a) && decide (y.b=x.b)).length=fn at ln hpos;have c1:iNe 0 0=false:=CN rfl;have c2:iEq (fn:Int) 0=false:=B6 (by omega);have ln0:AEs AEF h5=.ok (AI AT 0) h5:=rfl;have k6:call AC (m+12) 18 [bw1,u] h5=.ok (.bool true) h5:=k6;refine(show ∃ e',rrB (call AC (m+12)) e h=.norm e' h5/\∀ j,gq j\/j=115->J j e'=J j e from ?_).elim fun e' ⟨p1,p2⟩=>⟨e',h5,p1,s5',p2⟩
 unfold rrB;simp only[sT,By,BY,reduceIte,gD,A9,AIZ,AIa,ix,Av,Am,ld,al1,AX,st1,AH,AO,If,AN,AP,l0,l1,l2,bd1,cA0,s5,k1,A8,BB,BH,al3,st3,b0,b1,bd2,k4,al5,st5,AK,AJ,c1,t3,t5,v4,k6,BZ,BX,yi,z4,z5,Af,ln,c2,ln0];refine⟨_,rfl,fun j hj=>?_⟩;rcases hj with (rfl|rfl|rfl|rfl|rfl|rfl)|rfl<;>simp only[AG,By,BY,reduceIte]
theorem jf(C:Rcx h0 hB A T nb kw w ks fr)(s:Rst hB A T nb ks fr X h)(hl:ks.length<=1000)
  (s5:J 5 e=pt nb)(AIZ:J 113 e=w)(AKf:J 114 e=AI AT (ks.length:Int))(AIa:J 115 e=AI AT ((0:Nat):Int)):
  ∃ e' h',A3 rrL (call AC (m+12)) e h=.exit 6 e' h'/\Rst hB A T nb ks fr X h'/\∀ j,gq j->J j e'=J j e:=by
 refine Bd (I:=fun i e' h'=>Rst hB A T nb ks fr X h'/\(∀ j,gq j->J j e'=J j e)/\J 115 e'=AI AT (i:Int)/\i<=ks.length)
  (Q:=fun q=>∃ e' h',q=.exit 6 e' h'/\Rst hB A T nb ks fr X h'/\∀ j,gq j->J j e'=J j e) ks.length (by omega) (fun i e' h' ⟨s',tj,br,hi⟩=>?_) ⟨s,fun _ _=>rfl,AIa,Nat.zero_le _⟩
 have sO:=(tj 114 (by unfold gq;omega)).trans AKf;by_cases hlt:i<ks.length
 ·left
  have c1:=EW hlt;obtain⟨x,hx⟩:∃ x,ks[i]? =some x:=⟨_,sh hlt⟩;obtain⟨e1,p1,uj⟩:∃ e1,rrL (call AC (m+12)) e' h'=rrK (call AC (m+12)) e1 h'/\∀ j,gq j\/j=115->J j e1=J j e':=by
   rw[bS];unfold je;simp only[sT,By,BY,reduceIte,AK,AJ,br,sO,c1];refine⟨_,rfl,fun j hj=>?_⟩;rcases hj with (rfl|rfl|rfl|rfl|rfl|rfl)|rfl<;>simp only[AG,By,BY,reduceIte]
  obtain⟨e2,h2,r1,s2,wj⟩:=ru (m:=m) C s' hx hl ((uj 5 (.inl (by unfold gq;omega))).trans ((tj 5 (by unfold gq;omega)).trans s5)) ((uj 113 (.inl (by unfold gq;omega))).trans ((tj 113 (by unfold gq;omega)).trans AIZ)) ((uj 115 (.inr rfl)).trans br);have AIb:=(wj 115 (.inr rfl)).trans ((uj 115 (.inr rfl)).trans br);have a3:=CI (i:=i) (h:=h2) (by omega);obtain⟨e3,f1,f115,fj⟩:∃ e3,rrI (call AC (m+12)) e2 h2=.norm e3 h2/\J 115 e3=AI AT ((i+1:Nat):Int)/\∀ j,gq j->J j e3=J j e2:=by
   unfold rrI;simp only[sT,By,BY,reduceIte,BM,AIb,a3];refine⟨_,rfl,by simp[AG],fun j hj=>?_⟩;rcases hj with rfl|rfl|rfl|rfl|rfl|rfl<;>simp only[AG,By,BY,reduceIte]
  refine⟨hlt,e3,h2,?_,s2,fun j hj=>(fj j hj).trans ((wj j (.inl hj)).trans ((uj j (.inl hj)).trans (tj j hj))),f115,hlt⟩;rw[p1,rt];simp only[BJ,Ay,r1,Ca,BA,f1]
 ·right
  obtain rfl:i=ks.length:=by omega
  have c1:=DD (IT ks.length);obtain⟨e1,p1,uj⟩:∃ e1,rrL (call AC (m+12)) e' h'=.exit 6 e1 h'/\∀ j,gq j->J j e1=J j e':=by
   rw[bS];unfold je;simp only[sT,By,BY,reduceIte,AK,AJ,br,sO,c1];refine⟨_,rfl,fun j hj=>?_⟩;rcases hj with rfl|rfl|rfl|rfl|rfl|rfl<;>simp only[AG,By,BY,reduceIte]
  rw[p1];exact⟨rfl,e1,h',rfl,s',fun j hj=>(uj j hj).trans (tj j hj)⟩
end
end
noncomputable section
open Go
set_option maxRecDepth 100000
theorem sC:rzR=BI (Ab 6 (A3 rrL)) rzZ:=rfl
theorem rx:rzE=ry:=rfl
theorem sB:rzO=BI (Ab 2 (A3 roL)) rzE:=rfl
theorem rz:rzM=sA:=rfl
theorem sD:rzS=BI (Ab 0 (A3 rlL)) rzM:=rfl
theorem uu:d4=d4h:=rfl
section
variable {F:AEA}{e:Env}{h h' h0 g:Hp}{A:At}{T:List Nat}{m n nb kk:Nat}{AEY:Int}{ks:List Kt}{fr:List Nat}{v:IN}
theorem dp(F:AEA)(e:Env):BC Jt.zero [] F e h=.ok (DG K0) h:=by
 rw[CQ,cS,Bu];rfl
theorem wQ(C0:Ctx h0 A nb kk)(x0:h0.Ext h)(U:UpX (fun b=>b=nb) h A T ks fr 0)(hA:ks.Pairwise LtK)(Rn:h.Row nb 0 (AEa A.bd A.tb A.bs AEY))(hlf:AEY<=1)(s4:J 4 e=pt A.bd)(s5:J 5 e=pt nb):
  ∃ e' h',rzM (call AC (m+12)) e h=.ret e' h'/\J 2 e'=.bool true/\h0.Ext h':=by
 have W:=x0.wf;have hnb:=Rn.lt W;have hU:=U;obtain⟨⟨M,c0,arm,lv,fv,s,iv,md,hc,ha⟩,hx⟩:=U;have hln:=iv.len;have hks:ks.length<=1000:=by omega
 obtain⟨h7,v7,k7,x7,V7⟩:∃ h' v,call AC (m+12) 13 [pt nb] h=.ok v h'/\h.Ext h'/\h'.AL h.next v ks:=VK (m:=m+7) W Rn s;have W7:=x7.wf;have s7:=s.ext W x7;obtain⟨h8,k8,f8,s8⟩:=mE (m:=m+10) (z:=0) W7 s7 (by omega);have k8:call AC (m+12) 17 [pt A.bd,AI AT 0] h7=.ok AED h8:=k8;have f8':Fx A.D h7 h8:=f8.mono fun b hb=>.inr hb
 have W8:=f8.wf;have x08:h0.Ext h8:=Fx.xtF (x0.trans x7) f8' fun b hb=>(C0.hD b hb).1
 have nD:¬ A.D nb:=fun h=>by have:=C0.hD _ h;omega
 have hDn:∀ b,A.D b->b<h.next:=fun b hb=>by have:=C0.hD b hb;omega
 have V8:=V7.fx W7 f8' hDn;have U8:UpX (fun b=>b=nb) h8 A T ks fr 0:=⟨⟨M,c0,0,lv,fv,s8,iv,md,hc,⟨by omega,by omega,.inr (by omega)⟩⟩,hx⟩;have Rn8:=f8'.row W7 (Rn.ext W x7) nD;have C:Rcx h0 h8 A T nb h.next v7 ks fr:=⟨C0.W0,x08,C0.n24,⟨C0.tb,(U8.tab).1.lt W8⟩,⟨C0.nb0,hnb⟩,yP x7.next f8.next,C0.hD,V8,hA,iv,fun x hx=>(md.rs x hx).1,fun x hx=>(s.ko x hx).2.1⟩;have S8:Rst h8 A T nb ks fr (fun b=>b=nb) h8:=⟨.refl W8,U8,⟨AEY,hlf,Rn8⟩,fun b hb=>by rw[hb];exact Rn8.lt W8,rfl⟩;obtain⟨g1,h9,al,st,y9,R10,q9⟩:=Yy (n:=4) W8 PY rfl (vs:=Bs K0) rfl rfl;have st:AEH 4 (pt h8.next) (DG K0) g1=.ok AED h9:=st;have S9:=S8.alloc rfl y9 q9;obtain⟨e1,p1,t4,t5,t9,t10,t11,t47⟩:∃ e1,rzM (call AC (m+12)) e h=rzO (call AC (m+12)) e1 h9/\J 4 e1=pt A.bd/\J 5 e1=pt nb/\J 9 e1=v7/\J 10 e1=pt h8.next/\J 11 e1=AI AT ((0:Nat):Int)/\J 47 e1=AI AT ((0:Nat):Int):=by
  rw[rz];unfold sA;simp only[sT,By,BY,reduceIte,cA0,s5,k7,s4,k8,dp,al,AX,st];exact⟨_,rfl,by simp[AG,s4,s5]⟩
 obtain⟨e2,h10,r2,S10,j2,t11⟩:=jc (m:=m) C S9 (.inr rfl) (IT _) R10 hks t5 t9 t10 t11 t47;have u4:=(j2 4 (by unfold kq;omega)).trans t4;have u5:=(j2 5 (by unfold kq;omega)).trans t5;have u9:=(j2 9 (by unfold kq;omega)).trans t9;have ln:=fun g:Hp=>C.V.len g
 obtain⟨e3,p3,w4,w5,w9,w11,AKg,AKh,AIb⟩:∃ e3,rzE (call AC (m+12)) e2 h10=rzR (call AC (m+12)) e3 h10/\J 4 e3=pt A.bd/\J 5 e3=pt nb/\J 9 e3=v7/\J 11 e3=AI AT (ks.length:Int)/\J 113 e3=v7/\J 114 e3=AI AT (ks.length:Int)/\J 115 e3=AI AT ((0:Nat):Int):=by
  rw[rx];unfold ry;simp only[sT,By,BY,reduceIte,u9,Af,ln];exact⟨_,rfl,by simp[AG,u4,u5,u9,t11]⟩
 obtain⟨e4,h11,r4,S11,j4⟩:=jf (m:=m) C S10 hks w5 AKg AKh AIb;have z4:=(j4 4 (by unfold gq;omega)).trans w4;have z5:=(j4 5 (by unfold gq;omega)).trans w5;have z9:=(j4 9 (by unfold gq;omega)).trans w9;have z11:=(j4 11 (by unfold gq;omega)).trans w11;have W11:=S11.f.wf;have V11:=C.V.fx W8 S11.f (fun b hb=>by
  rcases hb with hb|hb
  ·exact hDn b hb
  ·omega)
 obtain⟨⟨M',c0',AEd,lv',fv',s',_⟩,_⟩:=S11.U;obtain⟨AFJ,_,Rn'⟩:=S11.Rn;have kd:call AC (m+12) 19 [pt A.bd] h11=.ok (.bool false) h11:=Oa (m:=m+10) s'.dk;obtain⟨h12,v12,k12,x12,V12⟩:∃ h' v,call AC (m+12) 13 [pt nb] h11=.ok v h'/\h11.Ext h'/\h'.AL h11.next v ks:=VK (m:=m+7) W11 Rn' s';obtain⟨h13,k13,x13⟩:=jh (m:=m+9) x12.wf V12 (V11.ext W11 x12) rfl C.byt hks;have k13:call AC (m+12) 15 [v12,v7] h12=.ok (.bool true) h13:=k13;have aw:=SQ (bs:=AC) (n:=m+11) (f:=16) Ya (h:=h13);have c1:iEq (ks.length:Int) (ks.length:Int)=true:=CL rfl;have xe:h0.Ext h13:=(Fx.xtF x08 S11.f fun b hb=>by
  rcases hb with hb|hb
  ·exact(C0.hD b hb).1
  ·rw[hb];exact C0.nb0).trans (x12.trans x13)
 refine(show ∃ e',rzM (call AC (m+12)) e h=.ret e' h13/\J 2 e'=.bool true from ?_).elim fun e' ⟨q1,q2⟩=>⟨e',h13,q1,q2,xe⟩
 rw[p1,sB];simp only[BJ,Ay,r2,A7,BA];rw[p3,sC];simp only[BJ,Ay,r4,A7,BA];unfold rzZ;simp only[sT,By,BY,reduceIte,gD,cA0,z9,Af,ln,z11,AK,AJ,c1,z4,kd,BZ,BX,Bool.not_false,z5,k12,k13,aw];exact⟨_,rfl,by simp[AG]⟩
theorem bJ(W:h.Wf)(O:AIV h v n 25):∃ h',call AC (m+13) 4 [v] h=.ok (.bool true) h'/\h.Ext h':=by
 have k9:call AC (m+12) 8 [] h=.ok (.agg ⟨M7⟩) h:=XF (n:=m+11) bu;obtain⟨T,hTl,hT⟩:=ju;rw[hTl]at k9;have hz:jx.zero.length=256:=by kernel_rfl
 have f9:=fun (F:AEA) (e:Env)=>BQ (F:=F) (e:=e) (n:=256) (t:=PW) W
 have y2:=(Hp.Ext.refl W).push (.cells PW 256 0);have R9:(h.push (.cells PW 256 0)).Row h.next 0 jx.zero:=Hp.Row.alloc W kE hz;generalize h.push (.cells PW 256 0)=h2 at f9 y2 R9;obtain⟨st,y3,R9'⟩:=rc W y2 (IT _) R9 hz hT.1;generalize h2.wr h.next 0 (T.map wv)=h3 at st y3 R9';have W3:=y3.wf;have htb:=R9'.lt W3;obtain⟨h4,bs,bd,bm,bc,nb,k4,x4,U4,Rn4,hD4,hn4⟩:=Xy (m:=m+2) (k:=1000) W3 R9' hT;have k4:call AC (m+12) 9 [pt h.next] h3=.ok (.tuple ⟨[pt bd,pt nb,.bool true]⟩) h4:=k4;have x04:=y3.trans x4;have W4:=x04.wf;obtain⟨h5,v5,xs,k5,x5,K5,hl5,hx5⟩:=qU (m:=m+11) (h0:=h) W4 x04 W O;have k5:call AC (m+12) 10 [v] h4=.ok v5 h5:=k5;have x05:=x04.trans x5;have ln:=K5.len h5;have n3:=y3.next;have C0:Ctx h ⟨bs,bd,bm,bc,h.next,24⟩ nb h4.next:=⟨W,fun b hb=>by have:=hD4 b hb;omega,rfl,by omega,Rn4.lt W4,by show h.next≠nb;omega⟩;obtain⟨e1,p1,t4,t5,t31,t32,t33⟩:∃ e1,d4h (call AC (m+12)) (AS e0 0 [v]) h=rzS (call AC (m+12)) e1 h5/\J 4 e1=pt bd/\J 5 e1=pt nb/\J 31 e1=v5/\J 32 e1=AI AT (xs.length:Int)/\J 33 e1=AI AT ((0:Nat):Int):=by
  unfold d4h;simp only[iN,Nat.reduceAdd,sT,By,BY,reduceIte,cA0,k9,f9,AX,st,k4,A8,BB,BH,Cv,BZ,BX,yi,k5,Af,ln];exact⟨_,rfl,by simp[AG]⟩
 obtain⟨e2,h6,AEY,ks,fr,r1,x6,j6,hlf,U6,hA6,Rn6⟩:=ja (m:=m) C0 x05 K5 hl5 hx5 (Rn4.ext W4 x5) (U4.ext W4 x5) t5 t31 t32 t33;obtain⟨e3,h7,r3,t2,x7⟩:=wQ (m:=m) C0 x6 U6 hA6 Rn6 hlf ((j6 4 (by unfold rq;omega)).trans t4) ((j6 5 (by unfold rq;omega)).trans t5);refine⟨h7,?_,x7⟩;rw[ur rfl,uu,p1,sD];simp only[BJ,Ay,r1,A7,BA,r3];simp only[BG];rw[MG,t2]
end
end
end Go.Proofs.YtbjadbhkogcfeaaGreat
namespace Go.Proofs.YtbjadbhkogcfeaaGreat.nodeReads
noncomputable section
open Go Go.ChangeShapes Go.WideShapes Go.ChangeAt Go.RowKit
set_option linter.unusedVariables false
theorem own:ownKnob xc.godebug=none:=by kernel_rfl
theorem gv:laidOutB xc=true:=by kernel_rfl
theorem pR:xc.cellsOf 5=1:=by kernel_rfl
theorem eX:xc.cellsOf 36=7:=by kernel_rfl
theorem slc{H:Type}{enc:TypeId×IN->H}{P:Program}{W:World}{base t e:Nat}{v:IN}{x:DataW H}{p:List ADR}(ht:P.underlying t=some (.slice e))(h:AAN P W .any base t v)(tx:ADm enc P W 0 (fun _=>true) true t v x p):
  ∃ fuel,zj enc P W 0 (fun _=>true) true fuel t [v]=some (x,p):=by
 have h':Cell.okWide P W .any base t v:=by
  unfold AAN at h;rw[ht]at h;exact h
 obtain⟨fuel,hf⟩:=tx;refine⟨fuel,?_⟩;rcases TJ ht h' with rfl|⟨a,n,c,rfl,_⟩<;>exact hf
section
variable {H:Type}{enc:TypeId×IN->H}{w:World}
theorem xC(m:Nat)(l:List IN)(y:DataW H×List ADR)(hl:l.length=1)(h:zj enc xc w 0 (fun _=>true) true m 5 l=some y)(_:∀ b off,AA7 b off∈y.2->w.frozen? ⟨b,off,none⟩=false):QB l:=by
 obtain⟨a0,e0,_,hw⟩:=zu Tryz.underlying5 h;have:=bounds_u8 hw;subst e0;exact⟨a0.toNat,by
  show [ye .u8 a0]=[ye .u8 ((a0.toNat:Nat):Int)];rw[AAo this.1],by omega⟩
theorem Sw{n:Nat}{l:List IN}(h:l.length=n+1):∃ a l',l=a::l'/\l'.length=n:=by
 cases l with
 |nil=>cases h
 |cons a l'=>exact⟨a,l',rfl,Nat.succ.inj h⟩
theorem xF{l:List IN}(h:l.length=7):∃ c0 c1 c2 c3 c4 c5 c6,l=[c0,c1,c2,c3,c4,c5,c6]:=by
 obtain⟨c0,l0,rfl,h0⟩:=Sw h;obtain⟨c1,l1,rfl,h1⟩:=Sw h0;obtain⟨c2,l2,rfl,h2⟩:=Sw h1;obtain⟨c3,l3,rfl,h3⟩:=Sw h2;obtain⟨c4,l4,rfl,h4⟩:=Sw h3;obtain⟨c5,l5,rfl,h5⟩:=Sw h4;obtain⟨c6,l6,rfl,h6⟩:=Sw h5;obtain rfl:=List.eq_nil_of_length_eq_zero h6;exact⟨c0,c1,c2,c3,c4,c5,c6,rfl⟩
set_option maxRecDepth 100000 in
theorem xA(m:Nat)(l:List IN)(y:DataW H×List ADR)(hl:l.length=7)(h:zj enc xc w 0 (fun _=>true) true m 36 l=some y)(hfz:∀ b off,AA7 b off∈y.2->w.frozen? ⟨b,off,none⟩=false):∃ x:AD,l=x.cells/\YK w x:=by
 obtain⟨c0,c1,c2,c3,c4,c5,c6,rfl⟩:=xF hl;obtain⟨ys,k,_,rfl,_,hys,hfs⟩:=DataW.trod_struct Tryz.underlying36 h;have hys:ys.length=7:=hys;have g0:=hfs 0 _ rfl;have g1:=hfs 1 _ rfl;have g2:=hfs 2 _ rfl;have g3:=hfs 3 _ rfl;have g4:=hfs 4 _ rfl;have g5:=hfs 5 _ rfl;have g6:=hfs 6 _ rfl;have g0:zj enc xc w 0 (fun _=>true) true k 3 [c0]=some (ys[0]'(by omega)):=g0.trans (sh _);have g1:zj enc xc w 0 (fun _=>true) true k 3 [c1]=some (ys[1]'(by omega)):=g1.trans (sh _);have g2:zj enc xc w 0 (fun _=>true) true k 33 [c2]=some (ys[2]'(by omega)):=g2.trans (sh _);have g3:zj enc xc w 0 (fun _=>true) true k 3 [c3]=some (ys[3]'(by omega)):=g3.trans (sh _);have g4:zj enc xc w 0 (fun _=>true) true k 3 [c4]=some (ys[4]'(by omega)):=g4.trans (sh _);have g5:zj enc xc w 0 (fun _=>true) true k 3 [c5]=some (ys[5]'(by omega)):=g5.trans (sh _);have g6:zj enc xc w 0 (fun _=>true) true k 34 [c6]=some (ys[6]'(by omega)):=g6.trans (sh _);obtain⟨a0,e0,_⟩:=zu AAO g0;obtain⟨a1,e1,_⟩:=zu AAO g1;obtain⟨a2,e2,_,hw⟩:=zu Tryz.underlying33 g2;obtain⟨a3,e3,_⟩:=zu AAO g3;obtain⟨a4,e4,_⟩:=zu AAO g4;obtain⟨a5,e5,_⟩:=zu AAO g5;have hB:=Vd Tryz.underlying34 pR (by omega) (Q:=QB) xC g6 (fun b off hm=>hfz b off (List.mem_flatMap.2 ⟨_,List.getElem_mem (by omega),hm⟩));have b8:=bounds_u8 hw;cases e0;cases e1;cases e2;cases e3;cases e4;cases e5;refine⟨⟨a0,a1,a2.toNat,a3,a4,a5,c6⟩,?_,hB,by show a2.toNat<256;omega⟩;show [ye .i64 a0,ye .i64 a1,ye .u8 a2,ye .i64 a3,ye .i64 a4,ye .i64 a5,c6]=[ye .i64 a0,ye .i64 a1,ye .u8 ((a2.toNat:Nat):Int),ye .i64 a3,ye .i64 a4,ye .i64 a5,c6];rw[AAo b8.1]
end
set_option maxRecDepth 100000 in
theorem sY{H:Type}{enc:TypeId×IN->H}(o:IN)(w:World){base:Nat}{d1:DataW H}{p1:List ADR}(ho:AAN xc w .any base 22 o)
  (to_:ADm enc xc w 0 (fun _=>true) true 22 o d1 p1)(fo:∀ b off,AA7 b off∈p1->w.frozen? ⟨b,off,none⟩=false):
  Calls xc 4 #[o] w fun e w'=>e=.returned (.bool true)/\Below w.heap.size w w':=by
 obtain⟨fuel,hf⟩:=slc ACq ho to_;obtain⟨n,Ls,R⟩:=Vd ACq eX (by omega) (Q:=fun l=>∃ x:AD,l=x.cells/\YK w x) xA hf fo;obtain⟨u,q,L0,qs,Zs,l1,l2,r1,r2,r3⟩:=cg R 0 1 25;have AEK:(L0::Zs).length<=256:=by simp only[xY];omega
 have W0:(inH (L0::Zs)).Wf:=Zo AEK;have O:=r3 _ W0 (Ut AEK (i:=0) rfl) (fun j L e=>Ut AEK (i:=j+1) e);obtain⟨h',hr,hx'⟩:=bJ (m:=51) W0 O;obtain⟨g1,g2⟩:=r1 (Nr (q::qs)) rfl (fun j q' e=>by
  show((q::qs)[j+1]?).getD none=q';have e:(q::qs)[j+1]? =some q':=e;rw[e];rfl)
 refine jg Yx hr hx' rfl (.cons g2 .nil) (bR (ps:=q::qs) AEK (by simp only[xY];omega) fun i q' L e1 e2=>?_)
 match i,e1,e2 with
 |0,e1,e2=>cases e1;cases e2;exact g1
 |i+1,e1,e2=>
  have e1:qs[i]? =some q':=e1;have e2:Zs[i]? =some L:=e2;obtain⟨s1,s2⟩:=r2 i q' L e1 e2;exact s1.AKa (s2 _)
set_option maxRecDepth 100000 in
theorem rE(os:Os)(started:os.Started)(H:Type)(enc:TypeId×IN->H):
  ReturnsInHanded {} ACP os 4 .any (Rows.nodeReadsSpec.pre6 enc xc ACg Rows.nodeReadsRow.domain false) (Rows.nodeReadsSpec.post enc xc ACg false true false false):=by
 refine returnsInHanded_of_change (C:=ACP) own started (by kernel_rfl) ADr
  (AD3 (enc:=enc) (C:=ACP) false ⟨#[],#[.slice none 0 0],[]⟩ 8 (by kernel_rfl) (by kernel_rfl) (by kernel_rfl) (by kernel_rfl)) ?_
 intro W base args ds gs before AHO hW AKv _;have hval:∀ (j:Nat) t v,ACg.params[j]? =some t->args[j]? =some v->AAN xc W .any base t v:=AHO;have hW':=hW;obtain⟨p,q,hA0,hV,rfl,hfz,hnd⟩:=hW;have hA:DataW.TrodAll enc xc W 0 (fun _=>true) true ACg.params.toList args.toList ds p:=hA0;rw[Tryz.params4]at hA hval;obtain⟨v0,vs0,d0,ds0,p0,q0,hargs,rfl,rfl,h0,r0⟩:=trodAll_cons hA;obtain⟨rfl,rfl,rfl⟩:=trodAll_nil r0;obtain rfl:args= #[v0]:=by cases args;simp_all
 obtain⟨rfl,rfl⟩:=trodVars_none hV;clear hA0 AHO;simp only[xx]at hW' hfz;have hlt:∀ x∈p0,x.block<W.heap.size:=fun x hx=>hW'.lt x hx
 refine(sY v0 W (hval 0 22 v0 rfl rfl) h0 (fun b off hm=>hfz b off hm)).mono fun e W' ⟨he,hb⟩=>?_
 subst he;refine⟨_,rfl,NO (pa:=p0) (pv:=[]) hW' (fun _ _ _=>(trodAll_cons_mk (shut_bool AC0 _) trodAll_mk0)) (fun sp hsp=>?_) (fun _ _=>rfl) (by simp) hb (ok_one (by kernel_rfl) rfl (okWide_bool_mk AC0 _))⟩;have s0:=AD4 gv (by kernel_rfl) (of_decide_eq_true (by kernel_rfl)) h0 (fun x hx=>hb.same (hlt x hx)) (fun x hx=>hsp x hx);have:=trodAll_cons_mk s0 (trodAll_mk0 (enc:=enc) (P:=xc) (w:=W') (base:=0) (spare:=sp) (held:=true));rw[xx]at this;exact this
theorem over:Rows.nodeReadsRow.holds Tryz.pinned (OpenSpec.ofChange Rows.nodeReadsSpec):=
 AD6 4 ACg rfl rfl rfl rfl rfl rfl rfl ⟨rfl,rfl,rfl,rfl,rfl⟩ rfl rfl rfl rfl rfl (by kernel_rfl) ADr (by kernel_rfl)
  (of_decide_eq_true (by kernel_rfl)) (by unfold Func.isWrapper;first|(rw[if_pos (by decide +kernel)];kernel_rfl)|(rw[if_neg (by decide +kernel)];exact⟨rfl,rfl⟩))
  (fun os started H enc _=>rE os started H enc)
theorem proved:Rows.NodeReadsSaid:=
 over
#print axioms proved
end
end Go.Proofs.YtbjadbhkogcfeaaGreat.nodeReads
