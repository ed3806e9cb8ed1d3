/-
  Part ZK of what Lawan stands on: printed by program, names and spaces cut.
-/
import Derived.Test.YtbjadbhkogcfeaaGreatZJ
open Go.Value renaming int→AI
open Go.IntKind renaming i64→AT
open Nat renaming reduceEqDiff→BY,reduceLT→By,reduceAdd→IT,le_refl→If,zero_add→sh,succ→tk,beq→tm,ble→tz,zero_le→uD,lt_or_ge→uG,le_trans→uO,mul→ur,add_eq→vH,reduceLeDiff→vR,add_zero→vS,beq_refl→vT,mul_one→wD,mul_comm→wP,min_le_right→wg,sub_self→yd,add_comm→AAc,le_succ→AAs,add_assoc→AA1
open Go renaming Value→IN
open List renaming length_append→No,length_map→OF,getElem?_eq_getElem→tW,getD_eq_getElem?_getD→tY,length_cons→tZ,mem_cons_of_mem→td,mem_cons_self→te,replicate→th,mem_cons→uA,append_assoc→uC,mem_singleton→uF,append_nil→uH,getElem?_append_right→uI,getElem?_append_left→uJ,length_take→uL,nil_append→uN,mem_append→uP,length_nil→uR,length_singleton→uU,mem_append_right→uY,length_drop→ua,map_append→ud,length_replicate→uh,getElem?_map→uq,getElem?_cons_succ→vB,drop_of_length_le→vC,cons_append→vM,mem_of_mem_take→vQ,take_of_length_le→vX,append_eq→vZ,mem_of_mem_drop→wM,drop→wT,take→wh,getElem_mem→wl,drop_length→xe,map_drop→AAv
open Bool renaming not_true→uX,not_false→um,eq_iff_iff→vY
open Int renaming sub→uZ,toNat_natCast→vE,eq_ofNat_of_zero_le→wU
open Go.IntKind renaming i64→wC
open Classical renaming choose→ABE,choose_spec→ABO
set_option linter.unusedVariables false
set_option linter.unusedSimpArgs false
namespace Go.Proofs.YtbjadbhkogcfeaaGreat
noncomputable section
open Go
set_option maxRecDepth 100000
def nv(n:Nat):IN:=.int .u64 (n:Int)
theorem Hp.Own.apart{h:Hp}{k en b:Nat}{v:IN}{xs:List IN}(o:h.Own k en v xs)(hb:b<k):¬ ABw v b:=by
 rcases o with ⟨rfl,_⟩|⟨c,rfl,_,h3,_⟩
 ·exact JD
 ·exact LS (by omega)
theorem OL{h0 h:Hp}{k n:Nat}{v:IN}{xs:List Nat}(x0:h0.Ext h)(hk:h0.next<=k)(hk2:k<=h.next)(o:h.Own k 5 v (xs.map bv))(hn:0<n)(hm:xs.length+n<=1000000):
  ∃ h' v',Hx 1 1 5 ty5.zero v (.ok n) h=.ok v' h'/\h0.Ext h'/\h'.Own k 5 v' ((xs++th n 0).map bv)/\h.next<=h'.next:=by
 have W:=x0.wf;have hz:BX ty5.zero=true:=by kernel_rfl
 have hyl:((th n 0).map bv).length=n:=by simp
 rw[ud];have hx:(xs.map bv).length=xs.length:=OF ..;generalize hY:(th n 0).map bv=ys at hyl;rcases o with ⟨rfl,AFP⟩|⟨b,rfl,r,hb,hb2⟩
 ·rw[AFP]
  obtain⟨t1,t2⟩:=Hj ys;refine⟨h.push (.cells (ofL ys) ys.length 6),.slice (some ⟨h.next,0,none⟩) ys.length ys.length,?_,x0.push _,.inr ⟨h.next,rfl,⟨ofL ys,by rw[W.ABx,if_pos rfl];rfl,t2⟩,hk2,W.big⟩,AAs _⟩;unfold Hx;simp only[Am,vH,sh];have e1:tz n 0=false:=by
   cases e:tz n 0
   ·rfl
   ·have:=Ar.1 e;omega
  have e2:tz (ur (tk n) (tk 1)) It=true:=Ar.2 (Gv (by show(n+1)*2<=1099511627776;omega));rw[e1];simp only[e2,cond_true,hz,Lg,hY];unfold GU BI JY;simp only[uN,t1];unfold Ee;simp only[Bi];unfold CT;rw[Am,Cz W,hyl];rfl
 ·obtain⟨cc,hcc,hl⟩:=r.rowOf
  rw[hx]at hcc;obtain⟨t,h2,h3⟩:=Dy ys cc (xs.map bv) xs.length hl (.inr hx.symm);have h3:t.Is (xs.map bv++ys):=by
   have e:(xs.map bv).drop (xs.length+ys.length)=[]:=vC (by omega);have e':(xs.map bv).take xs.length=xs.map bv:=vX (by omega);rw[e,e']at h3
   simpa using h3
  have hlen:(xs.map bv++ys).length=xs.length+n:=by rw[No,hx,hyl]
  have hlt:=r.lt W;have W1:(h.put b .dead).Wf:=W.put hlt _;have x1:h0.Ext (h.put b .dead):=x0.put (by omega) hlt _;refine⟨(h.put b .dead).push (.cells t (xs.length+n) 6),.slice (some ⟨h.next,0,none⟩) (xs.length+n) (xs.length+n),?_,x1.push _,.inr ⟨h.next,by rw[hlen],⟨t,by
   have:=W1.ABx (.cells t (xs.length+n) 6) h.next;rw[this,if_pos (show h.next=(h.put b .dead).next from rfl),hlen],h3⟩,hk2,W.big⟩,AAs _⟩
  rw[hx];unfold Hx;simp only[Am,vH];have e1:tz (xs.length+n) xs.length=false:=by
   cases e:tz (xs.length+n) xs.length
   ·rfl
   ·have:=Ar.1 e;omega
  have e2:tz (ur (tk (xs.length+n)) (tk 1)) It=true:=Ar.2 (Gv (by show(xs.length+n+1)*2<=1099511627776;omega));rw[e1];simp only[e2,cond_true,hz,Lg,hY];unfold GU;have e3:tm xs.length (ur xs.length 1)=true:=A1.2 (wD _).symm;simp only[hcc,e3,h2];unfold Ee;have e4:Kv 0 xs.length 1 xs.length=true:=by
   unfold Kv;cases xs.length with
   |zero=>rfl
   |succ n=>exact A1.2 (by show 0+(n+1)*1=n+1;omega)
  simp only[hcc,Bi,vH,vT,cond_true,e4];rw[EM W hb2 hlt];unfold CT;rw[Am,Cz W1,hyl];rfl
theorem K7{F:ABZ}{e:Env}{h:Hp}{x y:O}{n:Nat}{v:IN}(hx:x e=v)(hy:y e=AI AT (n:Int)):E9 1 1 5 ty5.zero x y F e h=Hx 1 1 5 ty5.zero v (.ok n) h:=by
 unfold E9;rw[hx,hy,Db]
theorem ii:BO SJ.zero 6=[nv 0,nv 0,nv 0,nv 0,nv 0,nv 0]:=by kernel_rfl
theorem Yi{n:Nat}:cellsOf (nv n)=[nv n]:=rfl
theorem Xp{F:ABZ}{e:Env}{h:Hp}(W:h.Wf){g1 g2 g3 g4 g5 g6:O}{a b c d i j:Nat}(h1:g1 e=nv a)(h2:g2 e=nv b)(h3:g3 e=nv c)(h4:g4 e=nv d)(h5:g5 e=nv i)(h6:g6 e=nv j):
  Ab 6 (BO SJ.zero 6) [(0,1,g1),(1,1,g2),(2,1,g3),(3,1,g4),(4,1,g5),(5,1,g6)] F e h=.ok (.slice (some ⟨h.next,0,none⟩) 6 6) (h.ABY 0 ([a,b,c,d,i,j].map nv)):=by
 rw[Bq,ii,Ad (hk:=by rw[h1];rfl),h1,Ad (hk:=by rw[h2];rfl),h2,Ad (hk:=by rw[h3];rfl),h3,Ad (hk:=by rw[h4];rfl),h4,Ad (hk:=by rw[h5];rfl),h5,Ad (hk:=by rw[h6];rfl),h6];simp only[Yi,uU,tZ,uR,over,wh,wT,vZ,uN,vM,IT,vR,if_true,Bg,reduceIte];rw[CQ W];rfl
theorem oU:heS=BB (AY 0 (A4 heB)) heE:=rfl
theorem Y5:d98=Y6:=rfl
theorem fA{n:Nat}{h0 h:Hp}(x0:h0.Ext h){b6:Nat}(hb6:b6<h.next)(hk:h0.next<=h.next){ns:List Nat}(R6:h.Row b6 0 (ns.map nv))(hns:∀ v∈ns,v<18446744073709551616)(h6:ns.length=6){p:IN}{e:Env}
  (s0:J 0 e=p)(s6:J 6 e=.slice none 0 0)(s33:J 33 e=.slice (some ⟨b6,0,none⟩) 6 6)(s34:J 34 e=AI AT 6)(s35:J 35 e=AI AT ((0:Nat):Int)):
  ∃ e' h' v,A4 heB (call AC (n+1)) e h=.exit 0 e' h'/\h0.Ext h'/\h'.Own h.next 5 v ((B6 ns).map bv)/\J 0 e'=p/\J 6 e'=v/\h.next<=h'.next:=by
 refine Bb (I:=fun i e' h'=>∃ v,h0.Ext h'/\h'.Own h.next 5 v ((B6 (ns.take i)).map bv)/\h'.Row b6 0 (ns.map nv)/\J 0 e'=p/\J 6 e'=v/\J 33 e'=.slice (some ⟨b6,0,none⟩) 6 6/\J 34 e'=AI AT 6/\J 35 e'=AI AT (i:Int)/\h.next<=h'.next/\i<=6)
  (Q:=fun x=>∃ e' h' v,x=.exit 0 e' h'/\h0.Ext h'/\h'.Own h.next 5 v ((B6 ns).map bv)/\J 0 e'=p/\J 6 e'=v/\h.next<=h'.next) 6 (by omega) (fun i e' h' ⟨v,x',o',R',t0,t6,t33,t34,t35,hn,hi⟩=>?_)
  ⟨_,x0,.inl ⟨rfl,rfl⟩,R6,s0,s6,s33,s34,s35,If _,by omega⟩
 by_cases hlt:i<6
 ·left
  have c1:iLt (i:Int) 6=true:=EP (b:=6) hlt;have hil:i<ns.length:=by omega
  have i1:ACN 1 (.slice (some ⟨b6,0,none⟩) 6 6) (AI AT (i:Int)) h'=.ok (.pointer (some ⟨b6,i,none⟩)) h':=by
   have:=Ch (h:=h') (n:=6) (c:=6) (es:=1) (b:=b6) (off:=0) (i:=i) (k:=.i64) hlt
   rwa [sh,wD]at this
  have l1:ABa ⟨b6,i,none⟩ h'=.ok (.int .u64 ((ns[i]'hil:Nat):Int)) h':=by
   rw[R'.ABa (off:=i) (by rw[OF];exact hil),tY,uq,tW hil];rfl
  have htl:(B6 (ns.take i)).length<=1000000:=by
   have h1:=JA (ns:=ns.take i) fun v hv=>hns v (vQ hv)
   rw[uL]at h1;omega
  obtain⟨h2,v2,k2,x2,o2,hn2,fr⟩:=iS (n:=n) x' hk hn o' htl (hns _ (wl hil));have a3:=Cd (i:=i) (h:=h2) (by omega);have R2:=(fr b6 0 _ (o'.apart hb6) R').1;have htk:B6 (ns.take i)++Bx (ns[i]'hil)=B6 (ns.take (i+1)):=by
   rw[List.take_succ_eq_append_getElem hil,Ts];show _=_++(Bx _++[]);rw[uH]
  rw[htk]at o2;have hrun:∃ e2,heB (call AC (n+1)) e' h'=.norm e2 h2/\J 0 e2=p/\J 6 e2=v2/\J 33 e2=.slice (some ⟨b6,0,none⟩) 6 6/\J 34 e2=AI AT 6/\J 35 e2=AI AT ((i+1:Nat):Int):=by
   unfold heB;simp only[sT,By,BY,reduceIte,AK,AJ,t35,t34,c1,BA,t33,i1,AN,AQ,l1,cA0,t6,k2,BR,a3];exact⟨_,rfl,by simp[AG,t0,t33,t34]⟩
  obtain⟨e2,q1,q2,q3,q4,q5,q6⟩:=hrun;exact⟨by omega,e2,h2,q1,v2,x2,o2,R2,q2,q3,q4,q5,q6,by omega,by omega⟩
 ·right
  have hi6:i=6:=by omega
  subst hi6;have c1:iLt ((6:Nat):Int) 6=false:=Cv (a:=6) (b:=6) (by omega);have hrun:∃ e2,heB (call AC (n+1)) e' h'=.exit 0 e2 h'/\J 0 e2=p/\J 6 e2=v:=by
   unfold heB;simp only[sT,By,BY,reduceIte,AK,AJ,t35,t34,c1];exact⟨_,rfl,by simp[AG,t0,t6]⟩
  obtain⟨e2,q1,q2,q3⟩:=hrun;rw[q1];rw[vX (by omega)]at o';exact⟨rfl,e2,h',v,rfl,x',o',q2,q3,hn⟩
theorem VF{n:Nat}{h:Hp}(W:h.Wf){tb:Nat}{T:List Nat}(R:h.Row tb 0 (T.map wv))(hT:ACM T){a b c:Int}{s:Nat}{u:IN}{l:List Nat}(V:h.ABy u (l.map bv))(hb:∀ x∈l,x<256)(hs:s<256)(hl:l.length<=900000):
  ∃ h',h.Ext h'/\se T a b c s l h h' (call AC (n+3) 98 [pt tb,Bn a b c s u] h):=by
 have x1:=(Hp.Ext.refl W).ABY 0 (A7 a b c s u);have R1:=Hp.Row.new W 0 (A7 a b c s u);have bx:∀ e:Env,J 1 e=Bn a b c s u->CW (J 1) (call AC (n+2)) e h=.ok (.pointer (some ⟨h.next,0,none⟩)) (h.ABY 0 (A7 a b c s u)):=fun e he=>SA W he
 have n1:(h.ABY 0 (A7 a b c s u)).next=h.next+1:=rfl;generalize h.ABY 0 (A7 a b c s u)=h1 at x1 R1 bx n1;obtain⟨_,_,_,_,_,ln⟩:=Br R1;have k1:=Jn (n:=n+1) x1.wf (a:=a) (b:=b) (c:=c) (s:=s) (u:=u) V.bl;have y2:=(Hp.Ext.refl x1.wf).ABY 0 (A7 a b c s u);have n2:(h1.ABY 0 (A7 a b c s u)).next=h1.next+1:=rfl;generalize h1.ABY 0 (A7 a b c s u)=h2 at y2 k1 n2;have x2:=x1.trans y2;cases hr:ABp a b c s l.length with
 |false=>
  rw[hr]at k1;refine⟨h2,x2,.inr ⟨hr,?_⟩⟩;rw[Ye rfl,Y5];unfold Y6;simp only[iN,IT,sT,By,BY,reduceIte,bx,Ap,Aj,ln,cA0,k1,BM,BK,um,Ay,CP]
 |true=>
  rw[hr]at k1;obtain⟨ha1,ha2,hb1,hb2,hc1,hc2,hs2,hm⟩:=of_decide_eq_true hr;have xm:=x2.marked;have R2:h2.marked.Row h.next 0 (A7 a b c s u):=(R1.ext x1.wf y2).same rfl;obtain⟨m0,m1,m2,m3,m4,_⟩:=Br R2;have hmk:h.next<h2.marked.mark:=by show h.next<h2.next;omega
  have old:∀ (off:Nat) (k:C) (F:ABZ) (e:Env),I5 (.pointer (some ⟨h.next,off,none⟩)) k F e h2.marked=k F e h2.marked:=fun off k F e=>Dm hmk
  have Vl:=V.bl h2.marked;obtain⟨a',rfl⟩:=wU ha1;obtain⟨b',rfl⟩:=wU hb1;obtain⟨c',rfl⟩:=wU (show 0<=c by omega);have cs:=KG (k:=.u8) (n:=s) (by omega) (h:=h2.marked);have ca:=KG (k:=.i64) (n:=a') (by omega) (h:=h2.marked);have cb:=KG (k:=.i64) (n:=b') (by omega) (h:=h2.marked);have cc:=KG (k:=.i64) (n:=c') (by omega) (h:=h2.marked);have cm:=KG (k:=.i64) (n:=l.length) (by omega) (h:=h2.marked);obtain⟨hq,kq,hq2⟩:=bg (n:=n+1) (h:=h2.marked.quiet) (R.ext W xm.quiet) hT (V.ext W xm.quiet) hb hl;have yq:h2.marked.quiet.Ext hq:=by
   rcases hq2 with rfl|rfl
   ·exact Hp.Ext.refl xm.quiet.wf
   ·exact(Hp.Ext.refl xm.quiet.wf).marked
  have nq:hq.next=h2.next:=by rcases hq2 with rfl|rfl<;>rfl
  have q1:∀ e:Env,J 0 e=pt tb->J 30 e=u->Aa .weak (AS 48 [J 0,J 30]) (call AC (n+2)) e h2.marked=.ok (.int .u32 ((CG T l:Nat):Int)) (h2.marked.back hq):=fun e h0 h6=>by
   refine Cp ?_ yq (If _);rw[BP,AU,AU,A5,h0,h6];exact kq
  have yb:h2.marked.Ext (h2.marked.back hq):=Hp.Ext.back yq;have nb:(h2.marked.back hq).next=h2.next:=nq;have mb:(h2.marked.back hq).mark=h2.next:=rfl;generalize h2.marked.back hq=h3 at q1 yb nb mb;have x3:=xm.trans yb;have ct:=KG (k:=.u32) (n:=CG T l) (by have:=IJ T l;omega) (h:=h3);have y4:h3.quiet.Ext (h3.quiet.ABY 0 ((CN a' b' c' s l.length (CG T l)).map nv)):=(Hp.Ext.refl x3.quiet.wf).ABY _ _;have R4:=Hp.Row.new x3.quiet.wf 0 ((CN a' b' c' s l.length (CG T l)).map nv);have q2:∀ (F:ABZ) (e:Env),J 14 e=nv s->J 17 e=nv a'->J 20 e=nv b'->J 23 e=nv c'->J 27 e=nv l.length->J 32 e=nv (CG T l)->
    Aa .ABn (Ab 6 (BO SJ.zero 6) [(0,1,J 14),(1,1,J 17),(2,1,J 20),(3,1,J 23),(4,1,J 27),(5,1,J 32)]) F e h3=.ok (.slice (some ⟨h3.next,0,none⟩) 6 6) (h3.back (h3.quiet.ABY 0 ((CN a' b' c' s l.length (CG T l)).map nv))):=fun F e e1 e2 e3 e4 e5 e6=>
   Cp (Xp x3.quiet.wf e1 e2 e3 e4 e5 e6) y4 (by omega)
  have z4:h3.Ext (h3.back (h3.quiet.ABY 0 ((CN a' b' c' s l.length (CG T l)).map nv))):=Hp.Ext.back y4;have n4:(h3.back (h3.quiet.ABY 0 ((CN a' b' c' s l.length (CG T l)).map nv))).next=h3.next+1:=rfl;have R5:(h3.back (h3.quiet.ABY 0 ((CN a' b' c' s l.length (CG T l)).map nv))).Row h3.next 0 ((CN a' b' c' s l.length (CG T l)).map nv):=R4.same rfl;generalize h3.back (h3.quiet.ABY 0 ((CN a' b' c' s l.length (CG T l)).map nv))=h4 at q2 z4 n4 R5;have x4:=x3.trans z4;have hnl:=Z5 (a:=a') (b:=b') (c:=c') (s:=s) (m:=l.length) (t:=CG T l) (by omega) (by omega) (by omega) hs (by omega) (IJ T l);have hl7:=OE (a:=a') (b:=b') (c:=c') (s:=s) (m:=l.length) (t:=CG T l) (by omega) (by omega) (by omega) hs (by omega) (IJ T l);have pre:∃ e1,Y6 (call AC (n+2)) (As e0 0 [pt tb,Bn (a':Int) (b':Int) (c':Int) s u]) h=heS (call AC (n+2)) e1 h4/\J 0 e1=pt tb/\J 6 e1=.slice none 0 0/\J 33 e1=.slice (some ⟨h3.next,0,none⟩) 6 6/\J 34 e1=AI AT 6/\J 35 e1=AI AT ((0:Nat):Int):=by
   have cs:C3 .u64 (.int .u8 (s:Int)) h2.marked=.ok (nv s) h2.marked:=cs;have ca:C3 .u64 (AI AT (a':Int)) h2.marked=.ok (nv a') h2.marked:=ca;have cb:C3 .u64 (AI AT (b':Int)) h2.marked=.ok (nv b') h2.marked:=cb;have cc:C3 .u64 (AI AT (c':Int)) h2.marked=.ok (nv c') h2.marked:=cc;have cm:C3 .u64 (AI AT (l.length:Int)) h2.marked=.ok (nv l.length) h2.marked:=cm;have ct:C3 .u64 (.int .u32 ((CG T l:Nat):Int)) h3=.ok (nv (CG T l)) h3:=ct;unfold Y6;simp only[iN,IT,sT,By,BY,reduceIte,bx,Ap,Aj,ln,cA0,k1,BM,BK,uX,Az,AH,AO,EG,old,DU,AN,AQ,m0,m1,m2,m3,m4,Bl,cs,ca,cb,cc,AX,Vl,cm,q1,ct,q2,EC];exact⟨_,rfl,by simp[AG]⟩
  obtain⟨e1,p1,p2,p3,p4,p5,p6⟩:=pre;obtain⟨e2,h5,v5,r1,x5,o5,r2,r3,n5⟩:=fA (n:=n+1) x4 (b6:=h3.next) (by omega) x4.next R5 hnl rfl p2 p3 p4 p5 p6;have Vl5:=o5.vals.bl h5;have a1:FX uZ .i64 (AI AT 60) (AI AT ((B6 (CN a' b' c' s l.length (CG T l))).length:Int)) h5=.ok (AI AT ((60 - (B6 (CN a' b' c' s l.length (CG T l))).length:Nat):Int)) h5:=by
   have:uZ 60 ((B6 (CN a' b' c' s l.length (CG T l))).length:Int)=((60 - (B6 (CN a' b' c' s l.length (CG T l))).length:Nat):Int):=by
    show(60:Int) - _=_;omega
   rw[Ce,this,Bc (by omega)]
  obtain⟨h6,v6,k6,x6,o6,n6⟩:=OL x5 (k:=h4.next) x4.next n5 o5 (n:=60 - (B6 (CN a' b' c' s l.length (CG T l))).length) (by omega) (by omega);have ap:∀ (F:ABZ) (e:Env),J 6 e=v5->J 47 e=AI AT ((60 - (B6 (CN a' b' c' s l.length (CG T l))).length:Nat):Int)->E9 1 1 5 ty5.zero (J 6) (J 47) F e h5=.ok v6 h6:=fun F e e1 e2=>(K7 e1 e2).trans k6
  have hpl:=Mr (l:=B6 (CN a' b' c' s l.length (CG T l))) (by omega);have Vp:h6.ABy v6 ((PY (B6 (CN a' b' c' s l.length (CG T l)))).map bv):=o6.vals;obtain⟨h7,w,k7,y7,m7⟩:=Pe (n:=n) x6.wf (R.ext W x6) hT Vp (Vv Oa) (by omega);refine⟨h7,x6.trans y7,.inl ⟨hr,w,?_,?_⟩⟩
  ·rw[Ye rfl,Y5,p1,oU]
   simp only[A9,An,r1,A8,A3];unfold heE;simp only[sT,By,BY,reduceIte,AX,r3,Vl5,Bz,a1,ap,cA0,r2,k7,Ay,CP]
  ·rw[vE,vE,vE]
   exact m7.le x6.next
end
noncomputable section
open Go
set_option maxRecDepth 100000
abbrev ABc:IN:=.slice none 0 0
def okT(ns:List Nat):IN:=.tuple ⟨[Bn (at6 ns 1) (at6 ns 2) (at6 ns 3) (at6 ns 0) ABc,AI AT (at6 ns 4:Nat),.int .u32 (at6 ns 5:Nat),.bool true]⟩
def noT:IN:=.tuple ⟨[Bn 0 0 0 0 ABc,AI AT 0,.int .u32 0,.bool false]⟩
theorem Tu:IO.zero=A7 0 0 0 0 ABc:=by kernel_rfl
theorem FQ:Bo .mt 0 (A7 0 0 0 0 ABc)=some DL:=by kernel_rfl
theorem cY:Bo .mt 0 ([0,0,0,0,0,0].map nv)=some Od:=by kernel_rfl
theorem KP{e:Env}{h:Hp}{g g1 g2 g3:O}{n:Nat}{v:IN}(hv:Iq n (g e) h=.ok v h):El [.cN g n,.t g1,.t g2,.t g3] e h=.ok (.tuple ⟨[v,g1 e,g2 e,g3 e]⟩) h:=by
 have h1:FN e h (.cN g n)=.ok v h:=hv;show(match FN e h (.cN g n)with|.ok v _=>ABm v fun v=>ABm (g1 e) (fun x=>ABm (g2 e) fun y=>ABm (g3 e) fun z=>JS h [v,x,y,z])|.no=>.no)=_;rw[h1];simp only[BQ];rfl
theorem LN{h g:Hp}(W0:h.Wf)(x:h.Ext g){r:Nat}(hr:h.next<=r){L:List IN}(R:g.Row r 0 L)(hL:L.length=5){a b c:Int}{s:Nat}{u:IN}(hu:oneCell u=true):
  ABg 5 (pt r) (Bn a b c s u) g=.ok ABd (g.wr r 0 (A7 a b c s u))/\loadN 5 ⟨r,0,none⟩ (g.wr r 0 (A7 a b c s u))=.ok (Bn a b c s u) (g.wr r 0 (A7 a b c s u))/\h.Ext (g.wr r 0 (A7 a b c s u))/\(g.wr r 0 (A7 a b c s u)).Row r 0 (A7 a b c s u)/\(g.wr r 0 (A7 a b c s u)).next=g.next:=by
 have ABj:256<=r:=by have:=W0.big;omega
 have ho:0+(A7 a b c s u).length<=L.length:=by rw[hL];show 0+5<=5;omega
 have h1:BX (A7 a b c s u)=true:=by
  show(bif oneCell u then true else false)=true;rw[hu];rfl
 have st:=R.ABg (n:=5) (off:=0) x.wf ABj (v:=Bn a b c s u) rfl ho h1;have wr:=R.ABl x.wf ho;rw[EJ (show L.length=(A7 a b c s u).length from hL)]at wr;exact⟨st,(Br wr).2.2.2.2.2,R.AB3 x hr ho,wr,R.ACH ho⟩
theorem cr{F:ABZ}{e:Env}{h:Hp}{g1 g2 g3 g4:O}{a b c:Int}{s:Nat}(h1:g1 e=.int .u8 (s:Int))(h2:g2 e=AI AT a)(h3:g3 e=AI AT b)(h4:g4 e=AI AT c):
  BH IO.zero [(3,1,g1),(0,1,g2),(1,1,g3),(2,1,g4)] F e h=.ok (Bn a b c s ABc) h:=by
 rw[Cb,Tu,Ad (hk:=by rw[h1];rfl),h1,Ad (hk:=by rw[h2];rfl),h2,Ad (hk:=by rw[h3];rfl),h3,Ad (hk:=by rw[h4];rfl),h4];simp only[CZ,uU,tZ,uR,A7,over,wh,wT,vZ,uN,vM,IT,vR,if_true,Bg,reduceIte];rfl
theorem Du{F:ABZ}{e:Env}{h:Hp}:BH IO.zero [] F e h=.ok (Bn 0 0 0 0 ABc) h:=by
 rw[Cb,Bg,Tu];rfl
theorem Qi{r k:Nat}(hk:k<6){g:Hp}:NS 6 1 (pt r) (AI AT (k:Int)) g=.ok (.pointer (some ⟨r,k,none⟩)) g:=by
 have:=VK (h:=g) (n:=6) (es:=1) (b:=r) (off:=0) (i:=k) (k:=.i64) hk
 rwa [sh,wD]at this
theorem Q3{g:Hp}{r k:Nat}{ns:List Nat}(R:g.Row r 0 (ns.map nv))(h6:ns.length=6)(hk:k<6):ABa ⟨r,k,none⟩ g=.ok (.int .u64 ((at6 ns k:Nat):Int)) g:=by
 have hil:k<ns.length:=by omega
 unfold at6;rw[R.ABa (off:=k) (by rw[OF];exact hil),tY,uq,tY,tW hil];rfl
abbrev QR:IN:=.func (.func 135) ⟨[]⟩ ⟨[]⟩
theorem YM{n:Nat}{h:Hp}{c:Nat}:call AC (n+1) 135 [.int .u8 (c:Int)] h=.ok (.bool (iNe (c:Int) 0)) h:=by
 rw[dV rfl];unfold nB;simp only[iN,IT,sT,By,BY,reduceIte,AK,AJ,lV0]
theorem PA:ifS=BB (AY 0 (A4 ifB)) ifE:=rfl
theorem LV:mz=Nl:=rfl
theorem fC{n:Nat}{h:Hp}{u:IN}{l:List Nat}(V:h.ABy u (l.map bv))(hl:l.length<=900000){e:Env}(s0:J 0 e=u)(s1:J 1 e=QR)(s7:J 7 e=AI AT (l.length:Int))(s8:J 8 e=AI AT ((0:Nat):Int)):
  (∃ e',A4 ifB (call AC (n+1)) e h=.exit 0 e' h/\∀ x∈l,x=0)\/(∃ e' i,A4 ifB (call AC (n+1)) e h=.ret e' h/\J 4 e'=AI AT ((i:Nat):Int)/\∃ x∈l,x≠0):=by
 refine Bb (I:=fun i e' h'=>h'=h/\J 0 e'=u/\J 1 e'=QR/\J 7 e'=AI AT (l.length:Int)/\J 8 e'=AI AT (i:Int)/\i<=l.length/\((∀ x∈l,x=0)↔∀ x∈l.drop i,x=0))
  (Q:=fun x=>(∃ e',x=.exit 0 e' h/\∀ x∈l,x=0)\/(∃ e' i,x=.ret e' h/\J 4 e'=AI AT ((i:Nat):Int)/\∃ x∈l,x≠0)) l.length (by omega) (fun i e' h' ⟨hh,t0,t1,t7,t8,hi,hr⟩=>?_) ⟨rfl,s0,s1,s7,s8,uD _,by simp⟩
 subst hh;by_cases hlt:i<l.length
 ·obtain⟨a,g1,g2⟩:=JE V hlt
  have hmem:l.getD i 0∈l:=by
   rw[tY,tW hlt];exact wl hlt
  rw[GO hlt]at hr;generalize l.getD i 0=c at g2 hr hmem;have c1:=EP hlt;have k1:=YM (n:=n) (h:=h') (c:=c);by_cases hc:c=0
  ·left
   subst hc;have k1:call AC (n+1) 135 [.int .u8 ((0:Nat):Int)] h'=.ok (.bool false) h':=k1;have a3:=Cd (i:=i) (h:=h') (by omega);have hrun:∃ e2,ifB (call AC (n+1)) e' h'=.norm e2 h'/\J 0 e2=u/\J 1 e2=QR/\J 7 e2=AI AT (l.length:Int)/\J 8 e2=AI AT ((i+1:Nat):Int):=by
    unfold ifB;simp only[sT,By,BY,reduceIte,AK,AJ,t8,t7,c1,BA,t0,g1,AN,g2,Ck,t1,DC,AU,A5,uN,uH,k1,BR,a3];exact⟨_,rfl,by simp[AG,t0,t1,t7]⟩
   obtain⟨e2,q1,q2,q3,q4,q5⟩:=hrun;refine⟨hlt,e2,h',q1,rfl,q2,q3,q4,q5,hlt,hr.trans ?_⟩;simp
  ·right
   have c2:iNe (c:Int) 0=true:=by rw[Ha];simpa using hc
   rw[c2]at k1;have hrun:∃ e2,ifB (call AC (n+1)) e' h'=.ret e2 h'/\J 4 e2=AI AT (i:Int):=by
    unfold ifB;simp only[sT,By,BY,reduceIte,AK,AJ,t8,t7,c1,BA,t0,g1,AN,g2,Ck,t1,DC,AU,A5,uN,uH,k1];exact⟨_,rfl,by simp[AG]⟩
   obtain⟨e2,q1,q2⟩:=hrun;rw[q1];exact⟨rfl,.inr ⟨e2,i,rfl,q2,c,hmem,hc⟩⟩
 ·right
  have c1:=Cv (show l.length<=i by omega);have hrun:∃ e2,ifB (call AC (n+1)) e' h'=.exit 0 e2 h':=by
   unfold ifB;simp only[sT,By,BY,reduceIte,AK,AJ,t8,t7,c1];exact⟨_,rfl⟩
  obtain⟨e2,q1⟩:=hrun;rw[q1];refine⟨rfl,.inl ⟨e2,rfl,hr.2 ?_⟩⟩;rw[vC (by omega)];intro x hx;cases hx
theorem Wl{n:Nat}{h:Hp}{u:IN}{l:List Nat}(V:h.ABy u (l.map bv))(hl:l.length<=900000):∃ r:Bool,call AC (n+3) 110 [u,QR] h=.ok (.bool r) h/\(r=true↔∃ x∈l,x≠0):=by
 have Vl:=V.bl h;have pre:∃ e1,Nl (call AC (n+1)) (As e0 0 [u,QR]) h=ifS (call AC (n+1)) e1 h/\J 0 e1=u/\J 1 e1=QR/\J 7 e1=AI AT (l.length:Int)/\J 8 e1=AI AT ((0:Nat):Int):=by
  unfold Nl;simp only[iN,IT,sT,By,BY,reduceIte,AX,Vl];exact⟨_,rfl,by simp[AG]⟩
 obtain⟨e1,p1,p2,p3,p4,p5⟩:=pre;rcases fC (n:=n) V hl p2 p3 p4 p5 with ⟨e2,q1,q2⟩|⟨e2,i,q1,q2,q3⟩
 ·have k1:call AC (n+2) 134 [u,QR] h=.ok (AI AT (-1)) h:=by
   rw[LU rfl,LV,p1,PA];simp only[A9,An,q1,A8,A3];unfold ifE;simp only[sT,By,BY,reduceIte,lV0]
  refine⟨false,?_,by simp;exact q2⟩;have c1:iGe (-1) 0=false:=EK (by omega);rw[LT rfl];unfold Wr;simp only[iN,IT,sT,By,BY,reduceIte,cA0,k1,AK,AJ,c1,lV0]
 ·have k1:call AC (n+2) 134 [u,QR] h=.ok (AI AT (i:Int)) h:=by
   rw[LU rfl,LV,p1,PA];simp only[A9,An,q1,CE,Cq,lV0,q2]
  refine⟨true,?_,by simp only[true_iff];exact q3⟩;have c1:iGe (i:Int) 0=true:=F2 (by omega);rw[LT rfl];unfold Wr;simp only[iN,IT,sT,By,BY,reduceIte,cA0,k1,AK,AJ,c1,lV0]
theorem Nk{h:Hp}{k m:Nat}{v:IN}{l:List Nat}(M:Mk h k v l)(hm:m<=l.length):∃ w,(∃ a,w=.slice (some a) (l.length - m) (l.length - m))/\(∀ (F:ABZ) (e:Env) (x y:O),x e=v->y e=AI AT (m:Int)->Dd 5 1 x (some y) none none F e h=.ok w h)/\h.ABy w ((l.drop m).map bv):=by
 obtain⟨b,el,hv,hel,Rb,_⟩:=M;have hdl:(l.drop m).length=l.length - m:=ua;have key:∀ (F:ABZ) (e:Env) (x y:O),x e=v->y e=AI AT (m:Int)->Dd 5 1 x (some y) none none F e h=EH 5 1 (some ⟨b,0,none⟩) false m l.length l.length h:=fun F e x y hx hy=>by
  have hb:∀ K:Nat->R,Ci e (some y) 0 l.length K=K m:=fun K=>by
   show(match DS (y e)with|.ok n=>(bif tz n l.length then K n else .no)|.no=>.no)=_;rw[hy,Db];simp only;rw[Ar.2 hm];rfl
  show(match x e with|.slice a n c=>DO e n c (some y) none none (fun l hh m=>EH 5 1 a false l hh m h)|_=>.no)=_;rw[hx,hv];show Ci e none l.length l.length (fun hh=>Ci e (some y) 0 hh fun l'=>EH 5 1 (some ⟨b,0,none⟩) false l' hh l.length h)=_;show Ci e (some y) 0 l.length (fun l'=>EH 5 1 (some ⟨b,0,none⟩) false l' l.length l.length h)=_;rw[hb]
 have AF8:EH 5 1 (some ⟨b,0,none⟩) false m l.length l.length h=Bv (some ⟨b,0,none⟩) 1 m l.length l.length h:=by
  cases m with
  |zero=>rfl
  |succ m=>
   show(bif Ez 5 (some ⟨b,0,none⟩) h then Bv (some ⟨b,0,none⟩) 1 (m+1) l.length l.length h else .no)=_;have:Ez 5 (some ⟨b,0,none⟩) h=true:=by
    obtain⟨cc,hcc,_⟩:=Rb.rowOf;unfold Ez;simp only[hcc];rcases hel with rfl|rfl<;>rfl
   rw[this];rfl
 rcases uG m l.length with hlt|hge
 ·refine⟨.slice (some ⟨b,m,none⟩) (l.length - m) (l.length - m),⟨_,rfl⟩,?_,.inr ⟨b,m,l.length - m,el,_,by rw[OF,hdl],Rb,by rw[OF,OF,hdl];omega,?_⟩⟩
  ·intro F e x y hx hy
   rw[key F e x y hx hy,AF8];unfold Bv;simp only[Am];have e1:tm l.length m=false:=by
    cases e:tm l.length m
    ·rfl
    ·have:=A1.1 e;omega
   rw[e1];cases m with
   |zero=>rfl
   |succ m=>
    have e2:ur (m+1) 1=tk m:=wD _;simp only[e2,vH,sh];rfl
  ·rw[OF,hdl,<- AAv,vX (by rw[OF,hdl];exact If _)]
 ·have hml:m=l.length:=by omega
  subst hml;refine⟨.slice (some ⟨b,0,none⟩) 0 0,⟨⟨b,0,none⟩,by rw[yd]⟩,?_,.inr ⟨b,0,0,el,_,by rw[xe];rfl,Rb,by rw[xe];exact uD _,by rw[xe];rfl⟩⟩;intro F e x y hx hy;rw[key F e x y hx hy,AF8];unfold Bv;simp only[Am,Nat.sub_eq,yd,vT]
theorem QJ{h:Hp}{k m:Nat}{v:IN}{l:List Nat}(M:Mk h k v l)(hm:m<=l.length):∃ w,(∀ (F:ABZ) (e:Env) (x y:O),x e=v->y e=AI AT (m:Int)->Dd 5 1 x (some y) none none F e h=.ok w h)/\h.ABy w ((l.drop m).map bv):=by
 obtain⟨w,_,q1,q2⟩:=Nk M hm;exact⟨w,q1,q2⟩
end
noncomputable section
open Go
set_option maxRecDepth 100000
theorem Tb:paS=BB (AY 0 (A4 paB)) paE:=rfl
theorem JM:mW=Kx:=rfl
theorem RW(k:Nat)(l:List Nat)(p:Nat):rdN (k+1) l p=(match FP 0 0 (l.drop p)with
 |none=>none
 |some (v,j)=>if v<=1099511627776 then(match rdN k l (p+j)with
  |none=>none
  |some (vs,q)=>some (v::vs,q))else none):=rfl
def X7(h:Hp)(r4:Nat)(e:Env)(g:Hp):Prop:=h.Ext g/\J 4 e=pt r4/\J 5 e=AI AT 0/\J 6 e=.int .u32 0/\J 7 e=.bool false/\loadN 5 ⟨r4,0,none⟩ g=.ok (Bn 0 0 0 0 ABc) g
theorem gf{n:Nat}{h hB g:Hp}(W0:h.Wf)(xB:h.Ext hB)(x:hB.Ext g){r4 r10:Nat}(hr4:h.next<=r4)(AGz:hB.next<=r10)(R4:hB.Row r4 0 (A7 0 0 0 0 ABc)){v:IN}{l:List Nat}(V:hB.ABy v (l.map bv))(hb:∀ x∈l,x<256)(hl:l.length<=900000)
  (R10:g.Row r10 0 ([0,0,0,0,0,0].map nv)){e:Env}(s4:J 4 e=pt r4)(s8:J 8 e=v)(s10:J 10 e=pt r10)(s11:J 11 e=AI AT ((0:Nat):Int))(s29:J 29 e=AI AT ((0:Nat):Int)):
  (∃ e' g' ns q,A4 paB (call AC (n+1)) e g=.exit 0 e' g'/\hB.Ext g'/\g'.Row r10 0 (ns.map nv)/\rdN 6 l 0=some (ns,q)/\J 4 e'=pt r4/\J 8 e'=v/\J 10 e'=pt r10/\J 11 e'=AI AT (q:Int))\/
  (∃ e' g',A4 paB (call AC (n+1)) e g=.ret e' g'/\rdN 6 l 0=none/\X7 h r4 e' g'):=by
 have WB:=xB.wf;refine Bb (I:=fun i e' g'=>hB.Ext g'/\∃ (ns:List Nat) (Z:List IN) (p:Nat),ns.length=i/\Z.length=6 - i/\g'.Row r10 0 (ns.map nv++Z)/\J 4 e'=pt r4/\J 8 e'=v/\J 10 e'=pt r10/\J 11 e'=AI AT (p:Int)/\J 29 e'=AI AT (i:Int)/\p<=l.length/\i<=6/\
   rdN 6 l 0=(match rdN (6 - i) l p with|none=>none|some (vs,q)=>some (ns++vs,q)))
  (Q:=fun x=>(∃ e' g' ns q,x=.exit 0 e' g'/\hB.Ext g'/\g'.Row r10 0 (ns.map nv)/\rdN 6 l 0=some (ns,q)/\J 4 e'=pt r4/\J 8 e'=v/\J 10 e'=pt r10/\J 11 e'=AI AT (q:Int))\/
   (∃ e' g',x=.ret e' g'/\rdN 6 l 0=none/\X7 h r4 e' g')) 6 (by omega) (fun i e' g' ⟨x',ns,Z,p,hns,hZ,R',t4,t8,t10,t11,t29,hp,hi,hr⟩=>?_)
  ⟨x,[],_,0,rfl,rfl,R10,s4,s8,s10,s11,s29,uD _,by omega,by
   rw[Nat.sub_zero];cases rdN 6 l 0 with
   |none=>rfl
   |some y=>rfl⟩
 by_cases hlt:i<6
 ·have W:=x'.wf
  obtain⟨k,hk⟩:∃ k,6 - i=k+1:=⟨5 - i,by omega⟩;obtain⟨z,Z',rfl⟩:∃ z Z',Z=z::Z':=by
   cases Z with
   |nil=>rw[uR]at hZ;omega
   |cons z Z'=>exact⟨z,Z',rfl⟩
  rw[hk,RW k l p]at hr;have c1:iLt (i:Int) 6=true:=EP (b:=6) hlt;obtain⟨a,b,c,k1,AH4⟩:=S4 (n:=n) (V.ext WB x') hb hp (by omega);have i1:=Qi (r:=r10) hlt (g:=g');have hal:(ns.map nv).length=i:=by rw[OF];exact hns
  have ho:i+[Value.int .u64 a].length<=(ns.map nv++z::Z').length:=by
   simp only[No,tZ,uR,hal];omega
  have ABj:256<=r10:=by have:=WB.big;omega
  have st:=R'.ABg (n:=1) (off:=i) W ABj (v:=.int .u64 a) rfl ho rfl;rw[CZ]at st;have wr:=R'.ABl W (off:=i) (vs:=[.int .u64 a]) ho;have x2:=R'.AB3 x' AGz (off:=i) (vs:=[.int .u64 a]) ho;have hov:over (ns.map nv++z::Z') i [.int .u64 a]=ns.map nv++.int .u64 a::Z':=by
   have:=RJ (A:=ns.map nv) (B:=Z') (x:=z) (y:=.int .u64 a)
   rwa [hal]at this
  rw[hov]at wr;generalize g'.wr r10 i [.int .u64 a]=g2 at st wr x2;have i2:=Qi (r:=r10) hlt (g:=g2);have l2:ABa ⟨r10,i,none⟩ g2=.ok (.int .u64 a) g2:=by
   rw[wr.ABa (off:=i) (by simp only[No,tZ,hal];omega),tY,uI (by rw[hal];exact If _),hal,yd];rfl
  have a3:=Cd (i:=i) (h:=g2) (by omega);obtain⟨w1,w2,w3,_,_⟩:=LN W0 (xB.trans x2) hr4 (R4.ext WB x2) rfl (a:=0) (b:=0) (c:=0) (s:=0) (u:=ABc) rfl;have fail:rdN 6 l 0=none->(iNe c 0=true\/iNe c 0=false/\iGt a 1099511627776=true)->∃ e2,paB (call AC (n+1)) e' g'=.ret e2 (g2.wr r4 0 (A7 0 0 0 0 ABc))/\J 4 e2=pt r4/\J 5 e2=AI AT 0/\J 6 e2=.int .u32 0/\J 7 e2=.bool false:=fun _ hc=>by
   unfold paB;rcases hc with c2|⟨c2,c3⟩
   ·simp only[sT,By,BY,reduceIte,gD,AK,AJ,t29,c1,cA0,t8,t11,k1,Ao,Ax,A2,Bu,DT,t10,i1,AW,st,c2,Du,t4,w1]
    exact⟨_,rfl,by simp[AG,t4]⟩
   ·simp only[sT,By,BY,reduceIte,gD,AK,AJ,t29,c1,cA0,t8,t11,k1,Ao,Ax,A2,Bu,DT,t10,i1,AW,st,c2,i2,AN,AQ,l2,c3,Du,t4,w1]
    exact⟨_,rfl,by simp[AG,t4]⟩
  rcases AH4 with ⟨vv,j,hu,rfl,rfl,rfl⟩|⟨hu,hc⟩
  ·rw[hu]at hr
   simp only at hr;have c2:iNe 0 0=false:=B5 rfl;by_cases hv:vv<=1099511627776
   ·left
    rw[if_pos hv]at hr;have c3:iGt (vv:Int) 1099511627776=false:=E4 (by omega);have hbd:∀ x∈l.drop p,x<256:=fun x hx=>hb x (wM hx)
    have hj:=WV hbd hu;rw[ua]at hj;have hrun:∃ e2,paB (call AC (n+1)) e' g'=.norm e2 g2/\J 4 e2=pt r4/\J 8 e2=v/\J 10 e2=pt r10/\J 11 e2=AI AT ((p+j:Nat):Int)/\J 29 e2=AI AT ((i+1:Nat):Int):=by
     unfold paB;simp only[sT,By,BY,reduceIte,gD,AK,AJ,t29,c1,cA0,t8,t11,k1,Ao,Ax,A2,Bu,DT,t10,i1,AW,st,c2,i2,AN,AQ,l2,c3,BR,a3];exact⟨_,rfl,by simp[AG,t4,t8,t10]⟩
    obtain⟨e2,q1,q2,q3,q4,q5,q6⟩:=hrun;refine⟨hlt,e2,g2,q1,x2,ns++[vv],Z',p+j,by rw[No,hns];rfl,by rw[tZ]at hZ;omega,?_,q2,q3,q4,q5,q6,by omega,by omega,?_⟩
    ·rw[ud,uC];exact wr
    ·rw[hr,show 6 - (i+1)=k by omega]
     cases rdN k l (p+j)with
     |none=>rfl
     |some y=>
      obtain⟨vs,q⟩:=y;show some (ns++vv::vs,q)=some (ns++[vv]++vs,q);rw[uC];rfl
   ·right
    rw[if_neg hv]at hr;have hr:rdN 6 l 0=none:=hr;obtain⟨e2,q1,q2,q3,q4,q5⟩:=fail hr (.inr ⟨c2,Fc (by omega)⟩);rw[q1];exact⟨rfl,.inr ⟨e2,_,rfl,hr,w3,q2,q3,q4,q5,w2⟩⟩
  ·right
   rw[hu]at hr;have hr:rdN 6 l 0=none:=hr;obtain⟨e2,q1,q2,q3,q4,q5⟩:=fail hr (.inl (EB hc));rw[q1];exact⟨rfl,.inr ⟨e2,_,rfl,hr,w3,q2,q3,q4,q5,w2⟩⟩
 ·right
  have hi6:i=6:=by omega
  subst hi6;have c1:iLt ((6:Nat):Int) 6=false:=Cv (a:=6) (b:=6) (by omega);have hrun:∃ e2,paB (call AC (n+1)) e' g'=.exit 0 e2 g'/\J 4 e2=pt r4/\J 8 e2=v/\J 10 e2=pt r10/\J 11 e2=AI AT (p:Int):=by
   unfold paB;simp only[sT,By,BY,reduceIte,AK,AJ,t29,c1];exact⟨_,rfl,by simp[AG,t4,t8,t10,t11]⟩
  obtain⟨e2,q1,q2,q3,q4,q5⟩:=hrun;rw[q1];have hZ0:Z=[]:=List.eq_nil_of_length_eq_zero hZ;rw[hZ0,uH]at R';have hr:rdN 6 l 0=some (ns++[],p):=hr;rw[uH]at hr;exact⟨rfl,.inl ⟨e2,g',ns,p,rfl,x',R',hr,q2,q3,q4,q5⟩⟩
theorem YT{F:ABZ}{e:Env}{h:Hp}{x y z:O}{k:C}{a b c i j m:Nat}(hx:x e=.pointer (some ⟨a,i,none⟩))(hy:y e=.pointer (some ⟨b,j,none⟩))(hz:z e=.pointer (some ⟨c,m,none⟩))(h1:b≠a)(h2:c≠a):Cf x [y,z] k F e h=k F e h:=by
 have n1:tm b a=false:=by
  cases e:tm b a
  ·rfl
  ·exact absurd (A1.1 e) h1
 have n2:tm c a=false:=by
  cases e:tm c a
  ·rfl
  ·exact absurd (A1.1 e) h2
 unfold Cf;rw[hx];show(bif CY a e [y,z]then k F e h else .no)=_;have:CY a e [y,z]=true:=by
  unfold CY;rw[hy];show(bif tm b a then false else CY a e [z])=true;rw[n1];unfold CY;rw[hz];show(bif tm c a then false else CY a e [])=true;rw[n2];rfl
 rw[this];rfl
theorem fk{F:ABZ}{e:Env}{h:Hp}(W:h.Wf){x y:O}{r:Nat}{L:List IN}{a b c:Int}{s:Nat}{u:IN}(hx:x e=pt r)(hy:y e=Bn a b c s u)(R:h.Row r 0 L)(hL:L.length=5)(ABj:256<=r)(hu:oneCell u=true):
  Ix x (Ac 5 x y) F e h=.ok ABd (h.back (h.quiet.wr r 0 (A7 a b c s u))):=by
 have Rq:h.quiet.Row r 0 L:=R.same rfl;have ho:0+(A7 a b c s u).length<=L.length:=by rw[hL];show 0+5<=5;omega
 have h1:BX (A7 a b c s u)=true:=by
  show(bif oneCell u then true else false)=true;rw[hu];rfl
 have st:=Rq.ABg (n:=5) (off:=0) W.quiet ABj (v:=Bn a b c s u) rfl ho h1;have st:ABg 5 (pt r) (Bn a b c s u) h.quiet=.ok ABd (h.quiet.wr r 0 (A7 a b c s u)):=st;obtain⟨cc,_,hw,_⟩:=Rq.ACh ho;have AEH:(h.quiet.wr r 0 (A7 a b c s u)).low=r:=by
  rw[hw];show CC h.next r=r;have:=R.lt W;rw[BW];omega
 have ADN:(h.quiet.wr r 0 (A7 a b c s u)).high=r:=by
  rw[hw];show C5 0 r=r;rw[B7];omega
 show(match Ac 5 x y F e h.quiet with|.ok v h'=>bif Id (AB4 (x e)) h h'.low h'.high then Df h v h' else .no|.no=>.no)=_;rw[AW,hx,hy,st];show(bif Id (.ok r) h (h.quiet.wr r 0 (A7 a b c s u)).low (h.quiet.wr r 0 (A7 a b c s u)).high then Df h ABd (h.quiet.wr r 0 (A7 a b c s u))else .no)=_;rw[AEH,ADN];have:Id (.ok r) h r r=true:=by
  show(bif tz r r then tz r r else false)=true;rw[Ar.2 (If r)];rfl
 rw[this];show Df h ABd (h.quiet.wr r 0 (A7 a b c s u))=_;unfold Df;simp only[Am];rfl
end
noncomputable section
open Go
set_option maxRecDepth 100000
def Ok4(h:Hp)(r4:Nat)(ns:List Nat)(e:Env)(g:Hp):Prop:=h.Ext g/\J 4 e=pt r4/\J 5 e=AI AT (at6 ns 4:Nat)/\J 6 e=.int .u32 (at6 ns 5:Nat)/\J 7 e=.bool true/\loadN 5 ⟨r4,0,none⟩ g=.ok (Bn (at6 ns 1) (at6 ns 2) (at6 ns 3) (at6 ns 0) ABc) g
theorem Lf{h g:Hp}{r4:Nat}{e:Env}(D:X7 h r4 e g):He [.cN (J 4) 5,.t (J 5),.t (J 6),.t (J 7)] (.ret e g)=.ok noT g:=by
 obtain⟨_,h4,h5,h6,h7,hl⟩:=D;rw[Ay,KP (v:=Bn 0 0 0 0 ABc) (by rw[h4];exact hl),h5,h6,h7];rfl
theorem pO{h g:Hp}{r4:Nat}{ns:List Nat}{e:Env}(D:Ok4 h r4 ns e g):He [.cN (J 4) 5,.t (J 5),.t (J 6),.t (J 7)] (.ret e g)=.ok (okT ns) g:=by
 obtain⟨_,h4,h5,h6,h7,hl⟩:=D;rw[Ay,KP (v:=Bn (at6 ns 1) (at6 ns 2) (at6 ns 3) (at6 ns 0) ABc) (by rw[h4];exact hl),h5,h6,h7];rfl
theorem sH{n:Nat}{h hB g:Hp}(W0:h.Wf)(xB:h.Ext hB)(x:hB.Ext g){r4 r10 k q:Nat}(hr4:h.next<=r4)(AEa:r10≠r4)(R4:hB.Row r4 0 (A7 0 0 0 0 ABc)){v:IN}{l ns:List Nat}(M:Mk hB k v l)(hl:l.length<=900000)(hq:q<=l.length)
  (R10:g.Row r10 0 (ns.map nv))(h6:ns.length=6)(hns:∀ v∈ns,v<=1099511627776){e:Env}(s4:J 4 e=pt r4)(s8:J 8 e=v)(s10:J 10 e=pt r10)(s11:J 11 e=AI AT (q:Int)):
  (PU ns/\(∀ x∈l.drop q,x=0)/\∃ e2 g2,paE (call AC (n+3)) e g=.ret e2 g2/\Ok4 h r4 ns e2 g2)\/(¬ (PU ns/\∀ x∈l.drop q,x=0)/\∃ e2 g2,paE (call AC (n+3)) e g=.ret e2 g2/\X7 h r4 e2 g2):=by
 have W:=x.wf;have WB:=xB.wf;have hat:∀ i,at6 ns i<=1099511627776:=fun i=>by
  unfold at6;rw[tY];cases h:ns[i]? with
  |none=>exact uD _
  |some y=>exact hns y (List.mem_of_getElem? h)
 have i0:∀ g:Hp,NS 6 1 (pt r10) (AI AT 0) g=.ok (.pointer (some ⟨r10,0,none⟩)) g:=fun g=>Qi (k:=0) (by omega)
 have i1:∀ g:Hp,NS 6 1 (pt r10) (AI AT 1) g=.ok (.pointer (some ⟨r10,1,none⟩)) g:=fun g=>Qi (k:=1) (by omega)
 have i2:∀ g:Hp,NS 6 1 (pt r10) (AI AT 2) g=.ok (.pointer (some ⟨r10,2,none⟩)) g:=fun g=>Qi (k:=2) (by omega)
 have i3:∀ g:Hp,NS 6 1 (pt r10) (AI AT 3) g=.ok (.pointer (some ⟨r10,3,none⟩)) g:=fun g=>Qi (k:=3) (by omega)
 have i4:∀ g:Hp,NS 6 1 (pt r10) (AI AT 4) g=.ok (.pointer (some ⟨r10,4,none⟩)) g:=fun g=>Qi (k:=4) (by omega)
 have i5:∀ g:Hp,NS 6 1 (pt r10) (AI AT 5) g=.ok (.pointer (some ⟨r10,5,none⟩)) g:=fun g=>Qi (k:=5) (by omega)
 have l0:=Q3 R10 h6 (k:=0) (by omega);have l1:=Q3 R10 h6 (k:=1) (by omega);have l2:=Q3 R10 h6 (k:=2) (by omega);have l3:=Q3 R10 h6 (k:=3) (by omega);have a0:=hat 0;have a1:=hat 1;have a2:=hat 2;have a3:=hat 3;have a4:=hat 4;have a5:=hat 5;have hcast:min ((at6 ns 0:Nat):Int) 9=((min (at6 ns 0) 9:Nat):Int):=by omega
 have mn:∀ (F:ABZ) (e:Env),J 52 e=.int .u64 ((at6 ns 0:Nat):Int)->Xb (J 52) (kV (.int .u64 9)) F e g=.ok (.int .u64 ((min (at6 ns 0) 9:Nat):Int)) g:=fun F e he=>by rw[pC he rfl,hcast]
 have v0:C3 .u8 (.int .u64 ((min (at6 ns 0) 9:Nat):Int)) g=.ok (.int .u8 ((min (at6 ns 0) 9:Nat):Int)) g:=by rw[B4,G9,Nat.mod_eq_of_lt (by omega)]
 have cv:∀ (i:Nat) (g:Hp),C3 .i64 (.int .u64 ((at6 ns i:Nat):Int)) g=.ok (AI AT ((at6 ns i:Nat):Int)) g:=fun i g=>by rw[B4,Bc (by have:=hat i;omega)]
 have bd:∀ (F:ABZ) (e:Env),J 54 e=.int .u8 ((min (at6 ns 0) 9:Nat):Int)->J 57 e=AI AT ((at6 ns 1:Nat):Int)->J 60 e=AI AT ((at6 ns 2:Nat):Int)->J 63 e=AI AT ((at6 ns 3:Nat):Int)->
   BH IO.zero [(3,1,J 54),(0,1,J 57),(1,1,J 60),(2,1,J 63)] F e g=.ok (Bn (at6 ns 1) (at6 ns 2) (at6 ns 3) (min (at6 ns 0) 9) ABc) g:=fun F e h1 h2 h3 h4=>cr h1 h2 h3 h4
 have f1:=fun (F:ABZ) (e:Env)=>BL (F:=F) (e:=e) (n:=5) (t:=DL) W
 have x1:=(Hp.Ext.refl W).push (.cells DL 5 0);have R13:(g.push (.cells DL 5 0)).Row g.next 0 (A7 0 0 0 0 ABc):=Hp.Row.alloc W FQ rfl;generalize g.push (.cells DL 5 0)=g1 at f1 x1 R13;obtain⟨st,ld,x2,AF9,_⟩:=LN W x1 (If _) R13 rfl (a:=at6 ns 1) (b:=at6 ns 2) (c:=at6 ns 3) (s:=min (at6 ns 0) 9) (u:=ABc) rfl;generalize g1.wr g.next 0 (A7 (at6 ns 1) (at6 ns 2) (at6 ns 3) (min (at6 ns 0) 9) ABc)=g2 at st ld x2 AF9;have k24:=Jn (n:=n+2) x2.wf (a:=at6 ns 1) (b:=at6 ns 2) (c:=at6 ns 3) (s:=min (at6 ns 0) 9) (m:=0) (u:=ABc) (fun _=>rfl);have y3:=(Hp.Ext.refl x2.wf).ABY 0 (A7 (at6 ns 1) (at6 ns 2) (at6 ns 3) (min (at6 ns 0) 9) ABc);generalize g2.ABY 0 (A7 (at6 ns 1) (at6 ns 2) (at6 ns 3) (min (at6 ns 0) 9) ABc)=g3 at k24 y3;have x3:=x2.trans y3;have xB3:=x.trans x3;have xh3:=xB.trans xB3;obtain⟨w1,w2,w3,_,_⟩:=LN W0 xh3 hr4 (R4.ext WB xB3) rfl (a:=0) (b:=0) (c:=0) (s:=0) (u:=ABc) rfl;have AEb:=R10.ext W x3;have l4:=Q3 AEb h6 (k:=4) (by omega);have l5:=Q3 AEb h6 (k:=5) (by omega);have nok:¬ (PU ns/\∀ x∈l.drop q,x=0)->(∃ e2,paE (call AC (n+3)) e g=.ret e2 (g3.wr r4 0 (A7 0 0 0 0 ABc))/\J 4 e2=pt r4/\J 5 e2=AI AT 0/\J 6 e2=.int .u32 0/\J 7 e2=.bool false)->
   (PU ns/\(∀ x∈l.drop q,x=0)/\∃ e2 g2,paE (call AC (n+3)) e g=.ret e2 g2/\Ok4 h r4 ns e2 g2)\/(¬ (PU ns/\∀ x∈l.drop q,x=0)/\∃ e2 g2,paE (call AC (n+3)) e g=.ret e2 g2/\X7 h r4 e2 g2):=fun hn ⟨e2,q1,q2,q3,q4,q5⟩=>.inr ⟨hn,e2,_,q1,w3,q2,q3,q4,q5,w2⟩
 cases hr:ABp (at6 ns 1) (at6 ns 2) (at6 ns 3) (min (at6 ns 0) 9) 0 with
 |false=>
  rw[hr]at k24;refine nok (fun hh=>by rw[hh.1.1]at hr;cases hr) ?_;unfold paE;simp only[sT,By,BY,reduceIte,gD,DT,s10,i0,i1,i2,i3,AN,AQ,l0,l1,l2,l3,mn,Bl,v0,cv,bd,f1,AW,st,Ap,Aj,ld,cA0,k24,BM,BK,um,Du,s4,w1];exact⟨_,rfl,by simp[AG,s4]⟩
 |true=>
  rw[hr]at k24;by_cases h4:at6 ns 4<=65536
  ·have c4:iGt ((at6 ns 4:Nat):Int) 65536=false:=E4 (by omega)
   by_cases h5:at6 ns 5<=4294967295
   ·have c5:iGt ((at6 ns 5:Nat):Int) 4294967295=false:=E4 (by omega)
    have M3:=M.ext WB xB3;obtain⟨w,ct,Vw⟩:=QJ M3 hq;obtain⟨rb,kb,hrb⟩:=Wl (n:=n) Vw (by rw[ua];omega);have kb:call AC (n+3) 110 [w,.func (.func 135) #[] #[]] g3=.ok (.bool rb) g3:=kb;cases rb with
    |true=>
     obtain⟨y,hy1,hy2⟩:=hrb.1 rfl;refine nok (fun hh=>hy2 (hh.2 y hy1)) ?_;unfold paE;simp only[sT,By,BY,reduceIte,gD,DT,s10,i0,i1,i2,i3,i4,i5,AN,AQ,l0,l1,l2,l3,l4,l5,mn,Bl,v0,cv,bd,f1,AW,st,Ap,Aj,ld,cA0,k24,BM,BK,uX,AK,AJ,c4,c5,s8,s11,ct,kb,Du,s4,w1];exact⟨_,rfl,by simp[AG,s4]⟩
    |false=>
     have hz:∀ x∈l.drop q,x=0:=fun y hy=>by
      rcases Nat.eq_zero_or_pos y with h0|h0
      ·exact h0
      ·have:=hrb.2 ⟨y,hy,by omega⟩;cases this
     have hok:PU ns:=⟨hr,h4,h5⟩;have hmin:min (at6 ns 0) 9=at6 ns 0:=Nat.min_eq_left (uO (gU.1 hok).1 (by decide));left;refine⟨hok,hz,?_⟩;have xm:=x3.marked;have AGA:g3.marked.Row r10 0 (ns.map nv):=AEb.same rfl;have m4:=Q3 AGA h6 (k:=4) (by omega);have m5:=Q3 AGA h6 (k:=5) (by omega);have AG0:g3.marked.Row g.next 0 (A7 (at6 ns 1) (at6 ns 2) (at6 ns 3) (min (at6 ns 0) 9) ABc):=(AF9.ext x2.wf y3).same rfl;have mld:=(Br AG0).2.2.2.2.2;have v5:C3 .u32 (.int .u64 ((at6 ns 5:Nat):Int)) g3.marked=.ok (.int .u32 ((at6 ns 5:Nat):Int)) g3.marked:=by rw[B4,SQ h5]
     have ck:∀ (k:C) (F:ABZ) (e:Env),J 4 e=pt r4->J 87 e=.pointer (some ⟨r10,4,none⟩)->J 90 e=.pointer (some ⟨r10,5,none⟩)->Cf (J 4) [J 87,J 90] k F e g3.marked=k F e g3.marked:=fun k F e e1 e2 e3=>YT e1 e2 e3 AEa AEa
     have ABj:256<=r4:=by have:=W0.big;omega
     have R4m:g3.marked.Row r4 0 (A7 0 0 0 0 ABc):=(R4.ext WB xB3).same rfl;have ta:∀ (F:ABZ) (e:Env),J 4 e=pt r4->J 86 e=Bn (at6 ns 1) (at6 ns 2) (at6 ns 3) (min (at6 ns 0) 9) ABc->Ix (J 4) (Ac 5 (J 4) (J 86)) F e g3.marked=.ok ABd (g3.marked.back (g3.marked.quiet.wr r4 0 (A7 (at6 ns 1) (at6 ns 2) (at6 ns 3) (min (at6 ns 0) 9) ABc))):=fun F e e1 e2=>fk xm.wf e1 e2 R4m rfl ABj rfl
     have xhm:=xh3.marked;obtain⟨_,z2,z3,z4,_⟩:=LN W0 xhm.quiet hr4 (R4m.same (h':=g3.marked.quiet) rfl) rfl (a:=at6 ns 1) (b:=at6 ns 2) (c:=at6 ns 3) (s:=min (at6 ns 0) 9) (u:=ABc) rfl;have xf:h.Ext (g3.marked.back (g3.marked.quiet.wr r4 0 (A7 (at6 ns 1) (at6 ns 2) (at6 ns 3) (min (at6 ns 0) 9) ABc))):=Hp.Ext.ACe xhm z3;have Rf:(g3.marked.back (g3.marked.quiet.wr r4 0 (A7 (at6 ns 1) (at6 ns 2) (at6 ns 3) (min (at6 ns 0) 9) ABc))).Row r4 0 (A7 (at6 ns 1) (at6 ns 2) (at6 ns 3) (min (at6 ns 0) 9) ABc):=z4.same rfl;generalize g3.marked.back (g3.marked.quiet.wr r4 0 (A7 (at6 ns 1) (at6 ns 2) (at6 ns 3) (min (at6 ns 0) 9) ABc))=g4 at ta xf Rf;have ldf:=(Br Rf).2.2.2.2.2;rw[hmin]at ldf;have hrun:∃ e2,paE (call AC (n+3)) e g=.ret e2 g4/\J 4 e2=pt r4/\J 5 e2=AI AT (at6 ns 4:Nat)/\J 6 e2=.int .u32 (at6 ns 5:Nat)/\J 7 e2=.bool true:=by
      unfold paE;simp only[sT,By,BY,reduceIte,gD,DT,s10,i0,i1,i2,i3,i4,i5,AN,AQ,l0,l1,l2,l3,l4,l5,mn,Bl,v0,cv,bd,f1,AW,st,Ap,Aj,ld,cA0,k24,BM,BK,uX,AK,AJ,c4,c5,s8,s11,ct,kb,Az,mld,m4,m5,v5,s4,ck,ta];exact⟨_,rfl,by simp[AG,s4]⟩
     obtain⟨e2,q1,q2,q3,q4,q5⟩:=hrun;exact⟨e2,g4,q1,xf,q2,q3,q4,q5,ldf⟩
   ·have c5:iGt ((at6 ns 5:Nat):Int) 4294967295=true:=Fc (by omega)
    refine nok (fun hh=>h5 hh.1.2.2) ?_;unfold paE;simp only[sT,By,BY,reduceIte,gD,DT,s10,i0,i1,i2,i3,i4,i5,AN,AQ,l0,l1,l2,l3,l4,l5,mn,Bl,v0,cv,bd,f1,AW,st,Ap,Aj,ld,cA0,k24,BM,BK,uX,AK,AJ,c4,c5,Du,s4,w1];exact⟨_,rfl,by simp[AG,s4]⟩
  ·have c4:iGt ((at6 ns 4:Nat):Int) 65536=true:=Fc (by omega)
   refine nok (fun hh=>h4 hh.1.2.1) ?_;unfold paE;simp only[sT,By,BY,reduceIte,gD,DT,s10,i0,i1,i2,i3,i4,i5,AN,AQ,l0,l1,l2,l3,l4,mn,Bl,v0,cv,bd,f1,AW,st,Ap,Aj,ld,cA0,k24,BM,BK,uX,AK,AJ,c4,Du,s4,w1];exact⟨_,rfl,by simp[AG,s4]⟩
theorem ag{n:Nat}{h:Hp}(W:h.Wf){tb:Nat}{T:List Nat}(R:h.Row tb 0 (T.map wv))(hT:ACM T){u:IN}{l:List Nat}(V:h.ABy u (l.map bv))(hC:GL u)(hb:∀ x∈l,x<256)(hl:l.length<=900000):
  ∃ h',h.Ext h'/\((∃ ns,LF T l ns/\call AC (n+4) 112 [pt tb,u] h=.ok (okT ns) h')\/((¬ ∃ ns,LF T l ns)/\call AC (n+4) 112 [pt tb,u] h=.ok noT h')):=by
 have f1:=fun (F:ABZ) (e:Env)=>BL (F:=F) (e:=e) (n:=5) (t:=DL) W
 have x1:=(Hp.Ext.refl W).push (.cells DL 5 0);have R4:(h.push (.cells DL 5 0)).Row h.next 0 (A7 0 0 0 0 ABc):=Hp.Row.alloc W FQ rfl;have nA:(h.push (.cells DL 5 0)).next=h.next+1:=rfl;generalize h.push (.cells DL 5 0)=hA at f1 x1 R4 nA;obtain⟨hB,yB,U⟩:=Ob (n:=n) x1.wf (R.ext W x1) hT (V.ext W x1) hC hb hl;have xB:=x1.trans yB;have R4B:=R4.ext x1.wf yB;obtain⟨w1,w2,w3,_,_⟩:=LN W xB (If _) R4B rfl (a:=0) (b:=0) (c:=0) (s:=0) (u:=ABc) rfl;rcases U with ⟨body,v,hu,k1,M⟩|⟨hu,c,hc,k1⟩
 ·have c2:iNe 0 0=false:=B5 rfl
  have Vl:=M.vals.bl hB;by_cases h60:body.length=60
  ·have c3:iNe (body.length:Int) 60=false:=B5 (by omega)
   have f2:=fun (F:ABZ) (e:Env)=>BL (F:=F) (e:=e) (n:=6) (t:=Od) xB.wf
   have y2:=(Hp.Ext.refl xB.wf).push (.cells Od 6 0);have R10:(hB.push (.cells Od 6 0)).Row hB.next 0 ([0,0,0,0,0,0].map nv):=Hp.Row.alloc xB.wf cY rfl;generalize hB.push (.cells Od 6 0)=hC' at f2 y2 R10;have pre:∃ e1,Kx (call AC (n+3)) (As e0 0 [pt tb,u]) h=paS (call AC (n+3)) e1 hC'/\J 4 e1=pt h.next/\J 8 e1=v/\J 10 e1=pt hB.next/\J 11 e1=AI AT ((0:Nat):Int)/\J 29 e1=AI AT ((0:Nat):Int):=by
    unfold Kx;simp only[iN,IT,sT,By,BY,reduceIte,gD,f1,cA0,k1,Ao,Ax,A2,AK,AJ,c2,AX,Vl,c3,f2];exact⟨_,rfl,by simp[AG]⟩
   obtain⟨e1,p1,p2,p3,p4,p5,p6⟩:=pre;obtain⟨hsl,hbt⟩:=Jy hu;have hbb:∀ x∈body,x<256:=fun x hx=>hb x (by rw[hbt]at hx;exact vQ hx)
   rcases gf (n:=n+2) W xB y2 (If h.next) (If _) R4B M.vals hbb (by omega) R10 p2 p3 p4 p5 p6 with ⟨e2,g,ns,q,q1,x2,AEb,hrd,t4,t8,t10,t11⟩|⟨e2,g,q1,hrd,D⟩
   ·obtain⟨g1,g2,g3,g4,g5⟩:=Lc 6 body 0 ns q hbb (uD _) hrd
    have hn2:hB.next≠h.next:=by have:=yB.next;omega
    rcases sH (n:=n) W xB x2 (If _) hn2 R4B M (by omega) g4 AEb g1 g5 t4 t8 t10 t11 with ⟨ho,hz,e3,g',r1,D⟩|⟨hno,e3,g',r1,D⟩
    ·refine⟨g',D.1,.inl ⟨ns,⟨body,q,hu,h60,hrd,ho,hz⟩,?_⟩⟩
     rw[JH rfl,JM,p1,Tb];simp only[A9,An,q1,A8,A3,r1];exact pO D
    ·refine⟨g',D.1,.inr ⟨?_,?_⟩⟩
     ·rintro⟨ms,body',q',j1,j2,j3,j4,j5⟩
      rw[hu]at j1;cases j1;rw[hrd]at j3;cases j3;exact hno ⟨j4,j5⟩
     ·rw[JH rfl,JM,p1,Tb]
      simp only[A9,An,q1,A8,A3,r1];exact Lf D
   ·refine⟨g,D.1,.inr ⟨?_,?_⟩⟩
    ·rintro⟨ms,body',q',j1,j2,j3,j4,j5⟩
     rw[hu]at j1;cases j1;rw[hrd]at j3;cases j3
    ·rw[JH rfl,JM,p1,Tb]
     simp only[A9,An,q1,CE,Cq];exact Lf D
  ·have c3:iNe (body.length:Int) 60=true:=EB (by omega)
   have hrun:∃ e2,Kx (call AC (n+3)) (As e0 0 [pt tb,u]) h=.ret e2 (hB.wr h.next 0 (A7 0 0 0 0 ABc))/\J 4 e2=pt h.next/\J 5 e2=AI AT 0/\J 6 e2=.int .u32 0/\J 7 e2=.bool false:=by
    unfold Kx;simp only[iN,IT,sT,By,BY,reduceIte,gD,f1,cA0,k1,Ao,Ax,A2,AK,AJ,c2,AX,Vl,c3,Du,AW,w1];exact⟨_,rfl,by simp[AG]⟩
   obtain⟨e2,q1,q2,q3,q4,q5⟩:=hrun;refine⟨_,w3,.inr ⟨?_,?_⟩⟩
   ·rintro⟨ms,body',q',j1,j2,_⟩
    rw[hu]at j1;cases j1;exact h60 j2
   ·rw[JH rfl,JM,q1]
    exact Lf (h:=h) ⟨w3,q2,q3,q4,q5,w2⟩
 ·have c2:iNe c 0=true:=EB hc.1
  have hrun:∃ e2,Kx (call AC (n+3)) (As e0 0 [pt tb,u]) h=.ret e2 (hB.wr h.next 0 (A7 0 0 0 0 ABc))/\J 4 e2=pt h.next/\J 5 e2=AI AT 0/\J 6 e2=.int .u32 0/\J 7 e2=.bool false:=by
   unfold Kx;simp only[iN,IT,sT,By,BY,reduceIte,gD,f1,cA0,k1,Ao,Ax,A2,AK,AJ,c2,Du,AW,w1];exact⟨_,rfl,by simp[AG]⟩
  obtain⟨e2,q1,q2,q3,q4,q5⟩:=hrun;refine⟨_,w3,.inr ⟨?_,?_⟩⟩
  ·rintro⟨ms,body',q',j1,_⟩
   rw[hu]at j1;cases j1
  ·rw[JH rfl,JM,q1]
   exact Lf (h:=h) ⟨w3,q2,q3,q4,q5,w2⟩
end
noncomputable section
open Go
set_option maxRecDepth 100000
structure Fx (S:Nat->Prop)(h h':Hp):Prop where
 next:h.next<=h'.next
 get:∀ i,i<h.next->¬ S i->h'.bl.get i=h.bl.get i
 wf:h'.Wf
 low:∀ L,L<=h.low->L<=h.next->(∀ b,S b->L<=b)->L<=h'.low
theorem P9{h g:Hp}:(h.back g).low=min h.low g.low:=BW _ _
section
variable {S T:Nat->Prop}{h h' h1 h2:Hp}
theorem Fx.refl(W:h.Wf):Fx S h h:=⟨If _,fun _ _ _=>rfl,W,fun _ h1 _ _=>h1⟩
theorem Fx.of(x:h.Ext h'):Fx S h h':=⟨x.next,fun i hi _=>x.get i hi,x.wf,fun L h1 h2 _=>by have:=x.low;omega⟩
theorem Fx.trans(a:Fx S h h1)(b:Fx S h1 h2):Fx S h h2:=⟨uO a.next b.next,fun i hi hs=>by rw[b.get i (Nat.lt_of_lt_of_le hi a.next) hs,a.get i hi hs],b.wf,fun L h1 h2 h3=>b.low L (a.low L h1 h2 h3) (uO h2 a.next) h3⟩
theorem Fx.mono(a:Fx S h h')(hs:∀ i,S i->T i):Fx T h h':=⟨a.next,fun i hi ht=>a.get i hi fun s=>ht (hs i s),a.wf,fun L h1 h2 h3=>a.low L h1 h2 fun b hb=>h3 b (hs b hb)⟩
theorem iU(W:h.Wf)(hb:h'.bl=h.bl)(hn:h'.next=h.next):h'.Wf:=⟨by rw[hn];exact W.big,by rw[hn,hb];exact W.has,by rw[hn,hb];exact W.fresh⟩
theorem Fx.same(a:Fx S h h1)(hb:h2.bl=h1.bl)(hn:h2.next=h1.next)(hl:min h.low h1.low<=h2.low:=by first|exact Nat.le_of_eq P9.symm|exact Nat.min_le_right _ _):Fx S h h2:=⟨by rw[hn];exact a.next,fun i hi hs=>by rw[hb];exact a.get i hi hs,iU a.wf hb hn,fun L q1 q2 q3=>by have:=a.low L q1 q2 q3;omega⟩
theorem Fx.from(a:Fx S h1 h')(hb:h1.bl=h.bl)(hn:h1.next=h.next)(hl:min h.low h.next<=h1.low:=by first|exact Nat.min_le_left _ _|exact Nat.min_le_right _ _):Fx S h h':=⟨by rw[<- hn];exact a.next,fun i hi hs=>by rw[<- hb];exact a.get i (by rw[hn];exact hi) hs,a.wf,fun L q1 q2 q3=>a.low L (by omega) (by omega) q3⟩
theorem Fx.back(x:Fx S h.quiet h'):Fx S h (h.back h'):=⟨x.next,x.get,⟨x.wf.big,x.wf.has,x.wf.fresh⟩,fun L h1 h2 h3=>by
 have h2':L<=h.quiet.next:=h2;have:=x.low L h2 h2' h3;rw[P9];omega⟩
theorem Fx.row(x:Fx S h h')(W:h.Wf){b el:Nat}{l:List IN}(r:h.Row b el l)(hb:¬ S b):h'.Row b el l:=by
 have:=r.lt W;obtain⟨c,hc,hl⟩:=r;exact⟨c,(x.get b this hb).trans hc,hl⟩
theorem Fx.put(W:h.Wf){b:Nat}(hb:b<h.next)(hs:S b)(o:Blk):Fx S h (h.put b o):=⟨If _,fun i hi hn=>by
 rw[W.ACD hb];exact if_neg fun e=>hn (by rw[e];exact hs),W.put hb o,fun L h1 _ h3=>by
 have:=h3 b hs;have e:(h.put b o).low=min h.low b:=BW _ _;omega⟩
theorem Fx.wr(W:h.Wf){b el off:Nat}{l vs:List IN}(r:h.Row b el l)(ho:off+vs.length<=l.length)(hs:S b):Fx S h (h.wr b off vs):=by
 obtain⟨c,_,e,_⟩:=r.ACh ho;rw[e];exact Fx.put W (r.lt W) hs _
theorem qP{b el off bc:Nat}{l vs:List IN}{es:List Ent}{k:Nat}(W:h.Wf)(r:h.Row b el l)(ho:off+vs.length<=l.length)(m:h.bl.get bc=.map es k):(h.wr b off vs).bl.get bc=.map es k:=by
 obtain⟨c,_,e,_⟩:=r.ACh ho;rw[e,W.ACD (r.lt W),if_neg]
 ·exact m
 ·rintro rfl
  obtain⟨c,hc,_⟩:=r;rw[m]at hc;cases hc
end
def Hp.VS(h:Hp)(S:Nat->Prop)(v:IN)(xs:List IN):Prop:=(v=ABc/\xs=[])\/∃ b off c el L,v=.slice (some ⟨b,off,none⟩) xs.length c/\xs.length<=c/\h.Row b el L/\off+xs.length<=L.length/\(L.drop off).take xs.length=xs/\S b
section
variable {h h':Hp}{S S':Nat->Prop}{v:IN}{xs:List IN}
theorem Hp.VS.vals(o:h.VS S v xs):h.ABy v xs:=by
 rcases o with h1|⟨b,off,c,el,L,h1,h2,h3,h4,h5,_⟩
 ·exact .inl h1
 ·exact .inr ⟨b,off,c,el,L,h1,h3,h4,h5⟩
theorem Hp.VS.keep(o:h.VS S v xs)(hk:∀ b el L,S b->h.Row b el L->h'.Row b el L):h'.VS S v xs:=by
 rcases o with h1|⟨b,off,c,el,L,h1,h2,h3,h4,h5,h6⟩
 ·exact .inl h1
 ·exact .inr ⟨b,off,c,el,L,h1,h2,hk _ _ _ h6 h3,h4,h5,h6⟩
theorem Hp.VS.same(o:h.VS S v xs)(hb:h'.bl=h.bl):h'.VS S v xs:=o.keep fun _ _ _ _ r=>r.same hb
theorem Hp.VS.mono(o:h.VS S v xs)(hs:∀ b,S b->S' b):h.VS S' v xs:=by
 rcases o with h1|⟨b,off,c,el,L,h1,h2,h3,h4,h5,h6⟩
 ·exact .inl h1
 ·exact .inr ⟨b,off,c,el,L,h1,h2,h3,h4,h5,hs _ h6⟩
theorem Hp.VS.one(o:h.VS S v xs):cellsOf v=[v]/\oneCell v=true/\known v=true:=by
 rcases o with ⟨rfl,_⟩|⟨b,off,c,el,L,rfl,_⟩<;>exact⟨rfl,rfl,rfl⟩
theorem Hp.VS.fx(o:h.VS S v xs)(W:h.Wf){T:Nat->Prop}(x:Fx T h h')(hs:∀ b,S b->¬ T b):h'.VS S v xs:=o.keep fun b _ _ hb r=>x.row W r (hs b hb)
theorem PW{l:List IN}(h:∀ x∈l,oneCell x=true):BX l=true:=by
 induction l with
 |nil=>rfl
 |cons a l ih=>
  show(bif oneCell a then BX l else false)=true;rw[h a te,ih fun x hx=>h x (td _ hx)];rfl
end
def Hp.BS(h:Hp)(S:Nat->Prop)(v:IN)(xs:List IN):Prop:=(v=ABc/\xs=[])\/∃ b off c el L,v=.slice (some ⟨b,off,none⟩) xs.length c/\xs.length<=c/\h.Row b el L/\off+xs.length<=L.length/\(L.drop off).take xs.length=xs/\S b/\(el=0\/el=6)
section
variable {h h':Hp}{S S':Nat->Prop}{v:IN}{xs:List IN}
theorem Hp.BS.vs(o:h.BS S v xs):h.VS S v xs:=by
 rcases o with h1|⟨b,off,c,el,L,h1,h2,h3,h4,h5,h6,_⟩
 ·exact .inl h1
 ·exact .inr ⟨b,off,c,el,L,h1,h2,h3,h4,h5,h6⟩
theorem Hp.BS.keep(o:h.BS S v xs)(hk:∀ b el L,S b->(el=0\/el=6)->h.Row b el L->h'.Row b el L):h'.BS S v xs:=by
 rcases o with h1|⟨b,off,c,el,L,h1,h2,h3,h4,h5,h6,h7⟩
 ·exact .inl h1
 ·exact .inr ⟨b,off,c,el,L,h1,h2,hk _ _ _ h6 h7 h3,h4,h5,h6,h7⟩
theorem Hp.BS.ext(o:h.BS S v xs)(W:h.Wf)(x:h.Ext h'):h'.BS S v xs:=o.keep fun _ _ _ _ _ r=>r.ext W x
theorem Hp.BS.same(o:h.BS S v xs)(hb:h'.bl=h.bl):h'.BS S v xs:=o.keep fun _ _ _ _ _ r=>r.same hb
theorem Hp.BS.mono(o:h.BS S v xs)(hs:∀ b,S b->S' b):h.BS S' v xs:=by
 rcases o with h1|⟨b,off,c,el,L,h1,h2,h3,h4,h5,h6,h7⟩
 ·exact .inl h1
 ·exact .inr ⟨b,off,c,el,L,h1,h2,h3,h4,h5,hs _ h6,h7⟩
end
def Dp(l:List Nat):IN:=.agg ⟨l.map bv⟩
def ABr:Nat->List (Nat×List Nat)->List Ent
 |_,[]=>[]
 |i,x::r=>⟨AI AT (x.1:Int),Dp x.2,i⟩::ABr (i+1) r
def sec(M:List Nat)(i:Nat):List Nat:=(M.drop (64*i)).take 64
theorem Jq{M:List Nat}{n i:Nat}(hM:M.length=64*n)(hi:i<n):(sec M i).length=64:=by
 unfold sec;rw[uL,ua];omega
theorem pu{M:List Nat}(hb:∀ x∈M,x<256)(i:Nat):∀ x∈sec M i,x<256:=fun x hx=>hb x (wM (vQ hx))
def dkL(bm bc n:Nat)(arm:Int)(dn:Bool):List IN:=[.slice (some ⟨bm,0,none⟩) n n,.map (some bc),AI AT arm,.bool dn]
structure Dk (h:Hp)(bd bm bc n:Nat)(M:List Nat)(c0:Nat)(cs:List (Nat×List Nat))(arm:Int)(dn:Bool):Prop where
 disk:h.Row bd 0 (dkL bm bc n arm dn)
 med:h.Row bm 0 (M.map bv)
 len:M.length=64*n
 byt:∀ x∈M,x<256
 map:h.bl.get bc=.map (ABr c0 cs) (c0+cs.length)
 big:256<=bd/\256<=bm/\256<=bc
 n1:1<=n/\n<=65536
section
variable {F:ABZ}{e:Env}{h h':Hp}{S:Nat->Prop}{bd bm bc n c0:Nat}{M:List Nat}{cs:List (Nat×List Nat)}{arm:Int}{dn:Bool}
theorem fM{h:Hp}{b b' el el':Nat}{L L':List IN}(r:h.Row b el L)(r':h.Row b' el' L')(he:L.length≠L'.length):b≠b':=fun hb=>by
 subst hb;obtain⟨_,e1,_⟩:=r;obtain⟨_,e2,_⟩:=r';rw[e1]at e2;injection e2 with _ e3 _
 exact he e3
theorem Dk.bdm(d:Dk h bd bm bc n M c0 cs arm dn):bd≠bm:=fM d.disk d.med (by
 rw[OF,d.len];show 4≠_;have:=d.n1;omega)
theorem Jo{h:Hp}{b bc el k:Nat}{L:List IN}{es:List Ent}(r:h.Row b el L)(m:h.bl.get bc=.map es k):b≠bc:=fun hb=>by
 subst hb;obtain⟨_,e1,_⟩:=r;rw[e1]at m;cases m
theorem Dk.bdc(d:Dk h bd bm bc n M c0 cs arm dn):bd≠bc:=Jo d.disk d.map
theorem Dk.bmc(d:Dk h bd bm bc n M c0 cs arm dn):bm≠bc:=Jo d.med d.map
theorem Dk.lt(d:Dk h bd bm bc n M c0 cs arm dn)(W:h.Wf):bd<h.next/\bm<h.next/\bc<h.next:=⟨d.disk.lt W,d.med.lt W,by
 rcases uG bc h.next with h1|h1
 ·exact h1
 ·have:=W.fresh bc h1
  rw[d.map]at this;cases this⟩
theorem Dk.same(d:Dk h bd bm bc n M c0 cs arm dn)(hb:h'.bl=h.bl):Dk h' bd bm bc n M c0 cs arm dn:=⟨d.disk.same hb,d.med.same hb,d.len,d.byt,by rw[hb];exact d.map,d.big,d.n1⟩
theorem Dk.fr(d:Dk h bd bm bc n M c0 cs arm dn)(W:h.Wf)(x:Fx S h h')(h1:¬ S bd)(h2:¬ S bm)(h3:¬ S bc):Dk h' bd bm bc n M c0 cs arm dn:=⟨x.row W d.disk h1,x.row W d.med h2,d.len,d.byt,by rw[x.get bc (d.lt W).2.2 h3];exact d.map,d.big,d.n1⟩
theorem Dk.ext(d:Dk h bd bm bc n M c0 cs arm dn)(W:h.Wf)(x:h.Ext h'):Dk h' bd bm bc n M c0 cs arm dn:=d.fr (S:=fun _=>False) W (.of x) (fun h=>h) (fun h=>h) (fun h=>h)
theorem DV(R:h.Row bd 0 (dkL bm bc n arm dn)):ABa ⟨bd,0,none⟩ h=.ok (.slice (some ⟨bm,0,none⟩) n n) h/\ABa ⟨bd,1,none⟩ h=.ok (.map (some bc)) h/\ABa ⟨bd,2,none⟩ h=.ok (AI AT arm) h/\ABa ⟨bd,3,none⟩ h=.ok (.bool dn) h:=
 ⟨R.ABa (off:=0) (by show 0<4;omega),R.ABa (off:=1) (by show 1<4;omega),R.ABa (off:=2) (by show 2<4;omega),R.ABa (off:=3) (by show 3<4;omega)⟩
theorem FM{k:TK}{t:Nat}{a:Addr}{g:O}(hk:k=.ptr t)(hg:g e=.pointer (some a)):oEq k false g (kV (.pointer none)) F e h=.ok (.bool false) h:=by
 subst hk;show(match eqV (.ptr t) (g e) (.pointer none)with|some r=>okB (false != r) h|none=>.no)=_;rw[hg];exact Ff
theorem fO{k:TK}{a b r:Nat}{g:O}(hk:k=.map a b)(hg:g e=.map (some r)):oEq k false g (kV (.map none)) F e h=.ok (.bool false) h:=by
 subst hk;show(match eqV (.map a b) (g e) (.map none)with|some r=>okB (false != r) h|none=>.no)=_;rw[hg];exact Ff
theorem jF:Xy.k=.ptr 91:=by kernel_rfl
theorem sS:iQ.k=.map 3 95:=by kernel_rfl
theorem PM{m:Nat}(d:Dk h bd bm bc n M c0 cs arm dn):call AC (m+1) 45 [pt bd] h=.ok (.bool false) h:=by
 obtain⟨_,l1,_,_⟩:=DV d.disk;have e1:∀ e:Env,J 0 e=pt bd->oEq Xy.k false (J 0) (kV (.pointer none)) (call AC m) e h=.ok (.bool false) h:=fun e he=>FM jF he
 have e2:∀ e:Env,J 9 e=.map (some bc)->oEq iQ.k false (J 9) (kV (.map none)) (call AC m) e h=.ok (.bool false) h:=fun e he=>fO sS he
 rw[kj rfl];unfold d45;simp only[iN,IT,sT,By,BY,reduceIte,gD,e1,Au,Ai,AH,AO,AN,AQ,l1,e2,lV0]
theorem NF{m:Nat}(d:Dk h bd bm bc n M c0 cs arm false){i:Nat}(hi:i<n):call AC (m+2) 133 [pt bd,AI AT (i:Int)] h=.ok (AI AT 0) h:=by
 obtain⟨l0,_,_,l3⟩:=DV d.disk;have k1:=PM (m:=m) d;have c1:iLt (i:Int) 0=false:=E5 (by omega);have c2:iGe (i:Int) (n:Int)=false:=EK (by omega);rw[dU rfl];unfold my;simp only[iN,IT,sT,By,BY,reduceIte,gD,cA0,k1,Au,Ai,AH,AO,AN,AQ,l0,l3,AX,EC,AK,AJ,c1,c2,lV0]
theorem iD{m:Nat}(d:Dk h bd bm bc n M c0 cs arm dn):call AC (m+2) 71 [pt bd] h=.ok (AI AT (n:Int)) h:=by
 obtain⟨l0,_,_,l3⟩:=DV d.disk;have k1:=PM (m:=m) d;rw[lQ rfl];unfold d71;simp only[iN,IT,sT,By,BY,reduceIte,gD,cA0,k1,Au,Ai,AH,AO,AN,AQ,l0,l3,AX,EC,lV0]
theorem Uo{m:Nat}(d:Dk h bd bm bc n M c0 cs arm dn):call AC (m+2) 19 [pt bd] h=.ok (.bool dn) h:=by
 obtain⟨l0,_,_,l3⟩:=DV d.disk;have k1:=PM (m:=m) d;rw[kN rfl];unfold d19;simp only[iN,IT,sT,By,BY,reduceIte,gD,cA0,k1,BM,BK,um,Au,Ai,AH,AO,AN,AQ,l0,l3,lV0]
theorem pB{x y:O}{k j:IntKind}{a b:Int}(hx:x e=.int k a)(hy:y e=.int j b):Xa x y F e h=.ok (.int k (max a b)) h:=by
 show Hg false (x e) (y e) h=_;rw[hx,hy];show(bif iLt a b then R.ok (.int k b) h else .ok (.int k a) h)=_;rw[DR];by_cases hab:a<b
 ·rw[decide_eq_true hab,Int.max_eq_right (by omega)];rfl
 ·rw[decide_eq_false hab,Int.max_eq_left (by omega)];rfl
def GG(a:Int):Int:=max (a - 1) (-1)
def CI(a:Int)(k:Nat):Prop:=a<=1099511627776/\-1<=a/\(a<0\/(k:Int)<=a)
theorem CI.one{a:Int}{k:Nat}(h:CI a (k+1)):CI (GG a) k/\a≠0:=by
 unfold CI GG at *;omega
theorem CI.le{a:Int}{k j:Nat}(h:CI a k)(hj:j<=k):CI a j:=by
 unfold CI at *;omega
theorem Vr{m:Nat}(W:h.Wf)(d:Dk h bd bm bc n M c0 cs arm false){k:Nat}(ha:CI arm (k+1)):
  ∃ h',call AC (m+1) 147 [pt bd] h=.ok (AI AT 0) h'/\Fx (fun i=>i=bd) h h'/\Dk h' bd bm bc n M c0 cs (GG arm) false:=by
 obtain⟨_,_,l2,_⟩:=DV d.disk;obtain⟨_,hne⟩:=ha.one;have c1:iEq arm 0=false:=B9 hne;have hs:=d.disk.ABg (n:=1) (off:=2) W d.big.1 (v:=AI AT (GG arm)) rfl (by show 2+1<=4;omega) rfl;have fr:=Fx.wr (S:=fun i=>i=bd) W d.disk (off:=2) (vs:=[AI AT (GG arm)]) (by show 2+1<=4;omega) rfl;have r1:=d.disk.ABl W (off:=2) (vs:=[AI AT (GG arm)]) (by show 2+1<=4;omega);have hw:wC.wrap (uZ arm 1)=arm - 1:=by
  obtain⟨h1,h2,h3⟩:=ha;show wC.wrap (arm - 1)=_;rcases Int.lt_or_le arm 1 with hlt|hge
  ·have:arm= -1\/arm=0:=by omega
   rcases this with rfl|rfl<;>rfl
  ·exact cJ (by omega) (by omega)
 have mx:∀ e:Env,J 19 e=AI AT (arm - 1)->Xa (J 19) (kV (AI AT (-1))) (call AC m) e h=.ok (AI AT (GG arm)) h:=fun e he=>pB he rfl
 have hs:ABg 1 (.pointer (some ⟨bd,2,none⟩)) (AI AT (GG arm)) h=.ok ABd (h.wr bd 2 [AI AT (GG arm)]):=hs;refine⟨_,?_,fr,⟨r1,fr.row W d.med (fun h=>d.bdm h.symm),d.len,d.byt,qP W d.disk (by show 2+1<=4;omega) d.map,d.big,d.n1⟩⟩;rw[dX rfl];unfold nF;simp only[iN,IT,sT,By,BY,reduceIte,Au,Ai,AH,AO,AN,AQ,sh,l2,AK,AJ,c1,Bz,Ce,hw,mx,AW,hs,lV0]
end
end
noncomputable section
open Go
set_option maxRecDepth 100000
section
variable {F:ABZ}{e:Env}{h h':Hp}{S:Nat->Prop}{bd bm bc n c0:Nat}{M:List Nat}{cs:List (Nat×List Nat)}{arm:Int}{dn:Bool}
theorem oF{n:Nat}(hn:n<=9223372036854775807):GS ⟨false,[.i .i64]⟩ (AI AT (n:Int))=true:=by
 show(match (match Fj .i64 .i64 with|true=>tz n (BC .i64)|false=>false)with|true=>true|false=>false)=true;have h1:Fj .i64 .i64=true:=rfl;have h2:tz n (BC .i64)=true:=Ar.2 hn;simp only[h1,h2]
theorem tE{n m:Nat}(hm:m<=9223372036854775807):IW ⟨false,[.i .i64]⟩ (AI AT (n:Int)) (AI AT (m:Int))=some (decide (n=m)):=by
 unfold IW;rw[oF hm];show(match (match Fj .i64 .i64 with|true=>some (iEq (n:Int) (m:Int))|false=>none)with|some true=>some true|some false=>some false|none=>none)=_;have h1:Fj .i64 .i64=true:=rfl;simp only[h1,Dh];by_cases h:n=m
 ·subst h;simp
 ·have:((n:Int) == (m:Int))=false:=by rw[beq_eq_false_iff_ne];omega
  rw[this,decide_eq_false h]
theorem Rv{k:Nat}{v:IN}:∀ (cs:List (Nat×List Nat)) (i:Nat),(∀ x∈cs,x.1≠k/\x.1<=65536)->NZ ⟨false,[.i .i64]⟩ (AI AT (k:Int)) v (ABr i cs)=some none
 |[],_,_=>rfl
 |x::l,i,hx=>by
  obtain⟨h1,h2⟩:=hx x te;show(match IW ⟨false,[.i .i64]⟩ (AI AT (k:Int)) (AI AT (x.1:Int))with|some true=>some (some ((⟨AI AT (k:Int),v,i⟩:Ent)::ABr (i+1) l))|some false=>(match NZ ⟨false,[.i .i64]⟩ (AI AT (k:Int)) v (ABr (i+1) l)with|some (some l')=>some (some ((⟨AI AT (x.1:Int),Dp x.2,i⟩:Ent)::l'))|some none=>some none|none=>none)|none=>none)=some none;rw[tE (by omega),decide_eq_false (fun h=>h1 h.symm)];simp only;rw[Rv l (i+1) fun y hy=>hx y (td _ hy)]
theorem UF{k:Nat}{l:List Nat}:∀ (cs:List (Nat×List Nat)) (i:Nat),Wi ⟨AI AT (k:Int),Dp l,i+cs.length⟩ (ABr i cs)=ABr i (cs++[(k,l)])
 |[],i=>rfl
 |x::cs,i=>by
  show(⟨AI AT (x.1:Int),Dp x.2,i⟩:Ent)::Wi ⟨AI AT (k:Int),Dp l,i+(cs.length+1)⟩ (ABr (i+1) cs)=_::ABr (i+1) (cs++[(k,l)]);rw[<- UF cs (i+1),AA1,AAc 1]
theorem WZ:Ko.zero=(th 64 0).map bv:=by
 have:Ko.zero=BO ty5.zero 64:=by kernel_rfl
 rw[this,Lg]
theorem Wd:Bo .mt 0 ((th 64 0).map bv)=some JB:=by kernel_rfl
theorem fP(R:h.Row bm 0 (M.map bv))(hM:M.length=64*n){i:Nat}(hi:i<n):loadN 64 ⟨bm,0+i*64,none⟩ h=.ok (Dp (sec M i)) h:=by
 rw[R.loadN (by rw[OF];omega),<- AAv,<- List.map_take,sh,wP i 64];rfl
theorem Zv(d:Dk h bd bm bc n M c0 [] arm dn){z:IN}{x y:O}{i:Nat}(hx:x e=.map (some bc))(hy:y e=AI AT (i:Int))(hi:i<n):Gx ⟨false,[.i .i64]⟩ z true x y F e h=.ok (.tuple ⟨[z,.bool false]⟩) h:=by
 have:=d.n1;show IB ⟨false,[.i .i64]⟩ z (x e) (y e) true h=_;rw[hx,hy];have he:Bj h bc=.ok [] (c0+0):=by unfold Bj;rw[d.map];rfl
 unfold IB;rw[oF (by omega)];simp only[he,MI];unfold Ev;simp only[BQ]
theorem Wq{g:O}{r:Nat}(hg:g e=pt r):F8 64 1 g none none none F e h=.ok (.slice (some ⟨r,0,none⟩) 64 64) h:=by
 show(match Dz (g e)with|.ok a=>DO e 64 64 none none none fun l hh m=>Bv (some a) 1 l hh m h|.no=>.no)=_;rw[hg];rfl
theorem V4{m:Nat}(W:h.Wf)(d:Dk h bd bm bc n M c0 [] arm false){i:Nat}(hi:i<n):
  ∃ h' v,call AC (m+3) 109 [pt bd,AI AT (i:Int)] h=.ok (.tuple ⟨[v,AI AT 0]⟩) h'/\h.Ext h'/\Mk h' h.next v (sec M i)/\h'.next=h.next+1/\h'.mark=h.mark/\h.low=h.low:=by
 have k1:=NF (m:=m) d hi;obtain⟨l0,l1,_,_⟩:=DV d.disk;have c0':iNe 0 0=false:=B5 rfl;have lk:∀ e:Env,J 19 e=.map (some bc)->J 1 e=AI AT (i:Int)->Gx ⟨false,[.i .i64]⟩ (.agg ⟨Ko.zero⟩) true (J 19) (J 1) (call AC (m+2)) e h=.ok (.tuple ⟨[.agg ⟨Ko.zero⟩,.bool false]⟩) h:=fun e h1 h2=>Zv d h1 h2 hi
 have al:=fun (F:ABZ) (e:Env)=>BL (F:=F) (e:=e) W (n:=64) (t:=JB)
 have R1:=Hp.Row.alloc W Wd (by rw[OF,uh]);have x1:h.Ext (h.push (.cells JB 64 0)):=(Hp.Ext.refl W).push _;have n1:(h.push (.cells JB 64 0)).next=h.next+1:=rfl;have m1:(h.push (.cells JB 64 0)).mark=h.mark:=rfl;generalize h.push (.cells JB 64 0)=h1 at al R1 x1 n1 m1;have hz:((th 64 0).map bv).length=64:=by rw[OF,uh]
 have big:=W.big;have st:ABg 64 (pt h.next) (.agg ⟨Ko.zero⟩) h1=.ok ABd (h1.wr h.next 0 ((th 64 0).map bv)):=by
  rw[WZ];exact R1.ABg (n:=64) (off:=0) x1.wf big (v:=.agg ⟨(th 64 0).map bv⟩) hz (by show 0+((th 64 0).map bv).length<=_;omega) (DB _)
 have x2:=R1.AB3 x1 (If _) (off:=0) (vs:=(th 64 0).map bv) (by omega);have R2:=R1.ABl x1.wf (off:=0) (vs:=(th 64 0).map bv) (by omega);rw[EJ rfl]at R2;have n2:(h1.wr h.next 0 ((th 64 0).map bv)).next=h.next+1:=(R1.ACH (by omega)).trans n1;have m2:(h1.wr h.next 0 ((th 64 0).map bv)).mark=h.mark:=by
  obtain⟨_,_,e,_⟩:=R1.ACh (off:=0) (vs:=(th 64 0).map bv) (by omega);rw[e];exact m1
 generalize h1.wr h.next 0 ((th 64 0).map bv)=h2 at st x2 R2 n2 m2;have d2:=d.ext W x2;obtain⟨l0,_,_,_⟩:=DV d2.disk;have ix:ACN 64 (.slice (some ⟨bm,0,none⟩) n n) (AI AT (i:Int)) h2=.ok (.pointer (some ⟨bm,0+i * 64,none⟩)) h2:=Ch hi;have ld:=fP d2.med d2.len hi;have hsl:=Jq d2.len hi;have hsm:((sec M i).map bv).length=64:=by rw[OF,hsl]
 have st2:ABg 64 (pt h.next) (Dp (sec M i)) h2=.ok ABd (h2.wr h.next 0 ((sec M i).map bv)):=R2.ABg (n:=64) (off:=0) x2.wf big (v:=Dp (sec M i)) hsm (by show 0+((sec M i).map bv).length<=_;omega) (DB _);have x3:=R2.AB3 x2 (If _) (off:=0) (vs:=(sec M i).map bv) (by omega);have R3:=R2.ABl x2.wf (off:=0) (vs:=(sec M i).map bv) (by omega);rw[EJ (by omega)]at R3;have n3:(h2.wr h.next 0 ((sec M i).map bv)).next=h.next+1:=(R2.ACH (by omega)).trans n2;have m3:(h2.wr h.next 0 ((sec M i).map bv)).mark=h.mark:=by
  obtain⟨_,_,e,_⟩:=R2.ACh (off:=0) (vs:=(sec M i).map bv) (by omega);rw[e];exact m2
 generalize h2.wr h.next 0 ((sec M i).map bv)=h3 at st2 x3 R3 n3 m3;have ct:∀ e:Env,J 7 e=pt h.next->F8 64 1 (J 7) none none none (call AC (m+2)) e h3=.ok (.slice (some ⟨h.next,0,none⟩) 64 64) h3:=fun e he=>Wq he
 refine⟨h3,.slice (some ⟨h.next,0,none⟩) 64 64,?_,x3,⟨h.next,0,by rw[hsl],.inl rfl,R3,If _⟩,n3,m3,rfl⟩;obtain⟨_,l1,_,_⟩:=DV d.disk;rw[dE rfl];unfold mS;simp only[iN,IT,sT,By,BY,reduceIte,cA0,k1,AK,AJ,c0',Au,Ai,AH,AO,AN,AQ,sh,l1,lk,Ao,Ax,A2,al,AW,st,BM,BK,um,l0,BA,ix,Ap,Aj,ld,st2,ct,Ay,CP];simp only[sh]at ld;simp only[ld,sT,By,BY,reduceIte,AW,st2,ct,Ay,CP]
theorem qL(W:h.Wf)(d:Dk h bd bm bc n M c0 cs arm dn){i:Nat}(hi:i<n)(hc:∀ x∈cs,x.1≠i/\x.1<n){l:List Nat}{g1 g2 g3:O}(h1:g1 e=.map (some bc))(h2:g2 e=AI AT (i:Int))(h3:g3 e=Dp l):
  FK ⟨false,[.i .i64]⟩ g1 g2 g3 F e h=.ok ABd (h.put bc (.map (ABr c0 (cs++[(i,l)])) (tk (c0+cs.length))))/\Fx (fun b=>b=bc) h (h.put bc (.map (ABr c0 (cs++[(i,l)])) (tk (c0+cs.length))))/\Dk (h.put bc (.map (ABr c0 (cs++[(i,l)])) (tk (c0+cs.length)))) bd bm bc n M c0 (cs++[(i,l)]) arm dn:=by
 have hn:=d.n1;have hlt:=(d.lt W).2.2;have he:Bj h bc=.ok (ABr c0 cs) (c0+cs.length):=by unfold Bj;rw[d.map];rfl
 have fx:Fx (fun b=>b=bc) h (h.put bc (.map (ABr c0 (cs++[(i,l)])) (tk (c0+cs.length)))):=Fx.put (S:=fun b=>b=bc) W hlt rfl _;refine⟨?_,fx,⟨fx.row W d.disk d.bdc,fx.row W d.med d.bmc,d.len,d.byt,?_,d.big,d.n1⟩⟩
 ·show ABm (g2 e) (fun key=>ABm (g3 e) fun v=>Lj ⟨false,[.i .i64]⟩ (g1 e) key v h)=_
  rw[BQ,BQ,h1,h2,h3];unfold Lj;rw[oF (by omega)];simp only[he,Rv cs c0 fun x hx=>⟨(hc x hx).1,by have:=(hc x hx).2;omega⟩,UF];rw[EM W d.big.2.2 hlt];rfl
 ·rw[W.ACD hlt,if_pos rfl,No];rfl
theorem jP{g:O}{a:Addr}{c:Nat}(hg:g e=.slice (some a) 64 c):Q7 64 g F e h=.ok (.pointer (some a)) h:=by
 show(match g e with|.slice (some a) l _=>bif tz 64 l then R.ok (.pointer (some a)) h else .no|_=>.no)=_;rw[hg];rfl
theorem SR{m:Nat}(W:h.Wf)(d:Dk h bd bm bc n M c0 cs arm false){k:Nat}(ha:CI arm (k+1)){i:Nat}(hi:i<n)(hc:∀ x∈cs,x.1≠i/\x.1<n){u:IN}{l:List Nat}(U:h.VS (fun b=>b≠bd) u (l.map bv))(hl:l.length=64):
  ∃ h',call AC (m+3) 123 [pt bd,AI AT (i:Int),u] h=.ok (AI AT 0) h'/\Fx (fun b=>b=bd\/b=bc) h h'/\Dk h' bd bm bc n M c0 (cs++[(i,l)]) (GG arm) false:=by
 have k1:=NF (m:=m) d hi;have Ul:=U.vals.bl h;rw[hl]at Ul;obtain⟨h1,k2,f1,d1⟩:=Vr (m:=m+1) W d ha;have U1:=U.fx W f1 (fun b h1 h2=>h1 h2);have c1:iNe 0 0=false:=B5 rfl;have c2:iNe ((64:Nat):Int) 64=false:=B5 rfl;rcases U1 with ⟨_,hx⟩|⟨b,off,c,el,L,hu,_,R1,ho,hL,_⟩
 ·have:=congrArg List.length hx
  rw[OF,hl]at this;cases this
 rw[OF,hl]at hu ho hL;have d1m:=d1.same (h':=h1.marked) rfl;obtain⟨_,l1,_,_⟩:=DV d1m.disk;have Rm:h1.marked.Row b el L:=R1.same rfl;have ld:loadN 64 ⟨b,off,none⟩ h1.marked=.ok (Dp l) h1.marked:=by rw[Rm.loadN ho,hL];rfl
 have ar:∀ (F:ABZ) (e:Env),J 2 e=u->Q7 64 (J 2) F e h1.marked=.ok (.pointer (some ⟨b,off,none⟩)) h1.marked:=fun F e he=>jP (he.trans hu)
 have up:=fun (F:ABZ) (e:Env) (g1 g2 g3:O) (e1:g1 e=.map (some bc)) (e2:g2 e=AI AT (i:Int)) (e3:g3 e=Dp l)=>qL (F:=F) f1.wf.marked.quiet (d1m.same (h':=h1.marked.quiet) rfl) hi hc e1 e2 e3
 obtain⟨_,f2,d2⟩:=up (call AC m) e0 (kV (.map (some bc))) (kV (AI AT (i:Int))) (kV (Dp l)) rfl rfl rfl;have up:=fun F e g1 g2 g3 e1 e2 e3=>(up F e g1 g2 g3 e1 e2 e3).1
 generalize h1.marked.quiet.put bc (.map (ABr c0 (cs++[(i,l)])) (tk (c0+cs.length)))=h2 at up f2 d2;have u2:∀ (F:ABZ) (e:Env),J 26 e=.map (some bc)->J 1 e=AI AT (i:Int)->J 30 e=Dp l->Aa .free (FK ⟨false,[.i .i64]⟩ (J 26) (J 1) (J 30)) F e h1.marked=.ok ABd (h1.marked.back h2):=fun F e e1 e2 e3=>BF (up F e _ _ _ e1 e2 e3)
 refine⟨h1.marked.back h2,?_,?_,d2.same rfl⟩
 ·rw[dL rfl]
  unfold mh;simp only[iN,IT,sT,By,BY,reduceIte,cA0,k1,AK,AJ,c1,AX,Ul,c2,k2,Az,Au,Ai,AH,AO,AN,AQ,sh,l1,ar,Ap,Aj,ld,u2,lV0]
 ·exact(f1.mono fun i h=>.inl h).trans (((f2.mono fun i h=>.inr h).from (h:=h1.marked) rfl rfl).same (h2:=h1.marked.back h2) rfl rfl |>.from (h:=h1) rfl rfl)
theorem bJ:∀ n:Nat,BO Ko.zero n=(th (64*n) 0).map bv
 |0=>rfl
 |n+1=>by
  show Ko.zero++BO Ko.zero n=_;rw[bJ n,WZ,<- ud,List.replicate_append_replicate]
  congr 2;omega
theorem qf:iR.zero=[.slice none 0 0,.map none,AI AT 0,.bool false]:=by kernel_rfl
theorem eT{m:Nat}(W:h.Wf)(hn:1<=n/\n<=65536):
  ∃ h' bd bm bc,call AC (m+1) 30 [AI AT (n:Int)] h=.ok (.tuple ⟨[pt bd,AI AT 0]⟩) h'/\h.Ext h'/\Dk h' bd bm bc n (th (64*n) 0) 0 [] (-1) false/\h.next<=bd/\h.next<=bm/\h.next<=bc:=by
 have big:=W.big;have c1:iLt (n:Int) 1=false:=E5 (by omega);have c2:iGt (n:Int) 65536=false:=E4 (by omega);have mk:∀ (F:ABZ) (e:Env),J 0 e=AI AT (n:Int)->HH 64 Ko.zero (J 0) (J 0) F e h=.ok (.slice (some ⟨h.next,0,none⟩) n n) (h.ABY 0 ((th (64*n) 0).map bv)):=fun F e he=>by
  show Q0 64 Ko.zero (DS (J 0 e)) (DS (J 0 e)) h=_;rw[he,Db];unfold Q0;simp only;have e1:tz n n=true:=Ar.2 (If _);have e2:tz (ur (tk n) (tk 64)) most=true:=Ar.2 (by show(n+1)*65<=1099511627776;omega);rw[e1,e2,bJ];simp only[cond_true];rw[CQ W];rfl
 have x1:=(Hp.Ext.refl W).ABY 0 ((th (64 * n) 0).map bv);have R1:=Hp.Row.new W 0 ((th (64 * n) 0).map bv);have n1:(h.ABY 0 ((th (64 * n) 0).map bv)).next=h.next+1:=rfl;generalize h.ABY 0 ((th (64 * n) 0).map bv)=h1 at mk x1 R1 n1;have mp:∀ (F:ABZ) (e:Env),XZ F e h1=.ok (.map (some h1.next)) (h1.push (.map [] 0)):=fun F e=>by
  unfold XZ;rw[Cz x1.wf]
 have y2:h1.Ext (h1.push (.map [] 0)):=(Hp.Ext.refl x1.wf).push _;have M2:(h1.push (.map [] 0)).bl.get h1.next=.map [] 0:=by rw[x1.wf.ABx,if_pos rfl]
 have n2:(h1.push (.map [] 0)).next=h1.next+1:=rfl;generalize h1.push (.map [] 0)=h2 at mp y2 M2 n2;have x2:=x1.trans y2;have bl:∀ (F:ABZ) (e:Env),J 11 e=.slice (some ⟨h.next,0,none⟩) n n->J 12 e=.map (some h1.next)->BH iR.zero [(0,1,J 11),(1,1,J 12),(2,1,kV (AI AT (-1)))] F e h2=.ok (.agg ⟨dkL h.next h1.next n (-1) false⟩) h2:=fun F e e1 e2=>by
  rw[Cb,qf,Ad (hk:=by rw[e1];rfl),e1,Ad (hk:=by rw[e2];rfl),e2,Ad];simp only[show cellsOf (.slice (some ⟨h.next,0,none⟩) n n)=[.slice (some ⟨h.next,0,none⟩) n n]from rfl,show cellsOf (.map (some h1.next))=[.map (some h1.next)]from rfl,E6,CZ,uU,tZ,uR,over,wh,wT,vZ,uN,vM,IT,vR,if_true,Bg,reduceIte];rfl
 have bx:∀ (F:ABZ) (e:Env),J 13 e=.agg ⟨dkL h.next h1.next n (-1) false⟩->CW (J 13) F e h2=.ok (pt h2.next) (h2.ABY 0 (dkL h.next h1.next n (-1) false)):=fun F e he=>by
  rw[Dx,he,Dt x2.wf];rfl
 have y3:=(Hp.Ext.refl x2.wf).ABY 0 (dkL h.next h1.next n (-1) false);have R3:=Hp.Row.new x2.wf 0 (dkL h.next h1.next n (-1) false);generalize h2.ABY 0 (dkL h.next h1.next n (-1) false)=h3 at bx y3 R3;refine⟨h3,h2.next,h.next,h1.next,?_,x2.trans y3,⟨R3,(R1.ext x1.wf y2).ext x2.wf y3,uh,fun x hx=>by rw[List.eq_of_mem_replicate hx];decide,?_,⟨by omega,by omega,by omega⟩,hn⟩,by omega,If _,by omega⟩
 ·rw[kQ rfl]
  unfold d30;simp only[iN,IT,sT,By,BY,reduceIte,gD,AK,AJ,c1,c2,mk,mp,bl,bx,Ay,CP]
 ·rw[y3.get _ (by omega),M2];rfl
end
end
noncomputable section
open Go
set_option maxRecDepth 100000
theorem VT.ext:∀ (a b:VT),(∀ j,a.has j↔b.has j)->(∀ j,a.get j=b.get j)->a=b
 |.mt,.mt,_,_=>rfl
 |.mt,.nd v l r,h,_=>by
  have:=(h 0).2 (by unfold VT.has;trivial);unfold VT.has at this;exact this.elim
 |.nd v l r,.mt,h,_=>by
  have:=(h 0).1 (by unfold VT.has;trivial);unfold VT.has at this;exact this.elim
 |.nd v l r,.nd v' l' r',h,g=>by
  have e1:v=v':=g 0;have lo:∀ j,(2*j) % 2=0/\2*j/2=j:=fun j=>by omega
  have hi:∀ j,¬ (2*j+1) % 2=0/\(2*j+1)/2=j:=fun j=>by omega
  have e2:l=l':=VT.ext l l' (fun j=>by
   have:=h (2*j+1);rw[VT.ABk,VT.ABk,if_pos (lo j).1,if_pos (lo j).1,(lo j).2]at this;exact this) (fun j=>by
   have:=g (2*j+1);rw[VT.ABi,VT.ABi,if_pos (lo j).1,if_pos (lo j).1,(lo j).2]at this;exact this)
  have e3:r=r':=VT.ext r r' (fun j=>by
   have:=h (2*j+1+1);rw[VT.ABk,VT.ABk,if_neg (hi j).1,if_neg (hi j).1,(hi j).2]at this;exact this) (fun j=>by
   have:=g (2*j+1+1);rw[VT.ABi,VT.ABi,if_neg (hi j).1,if_neg (hi j).1,(hi j).2]at this;exact this)
  rw[e1,e2,e3]
theorem VT.ACx:∀ (t:VT) (i:Nat) (x:IN) (t':VT),t.set i x=some t'->t.has i->∀ j,t'.has j->t.has j
 |.mt,i,x,t',_,h,_,_=>by unfold VT.has at h;exact h.elim
 |.nd v l r,0,x,t',hs,_,j,hj=>by
  have hs:some (VT.nd x l r)=some t':=hs;cases hs;cases j with
  |zero=>unfold VT.has;trivial
  |succ k=>rw[VT.ABk]at hj ⊢;exact hj
 |.nd v l r,k+1,x,t',hs,h,j,hj=>by
  rw[VT.AB6]at hs;rw[VT.ABk]at h;by_cases hk:k % 2=0
  ·rw[if_pos hk]at hs h
   cases hl:l.set (k/2) x with
   |none=>rw[hl]at hs;cases hs
   |some l'=>
    rw[hl]at hs;cases hs;cases j with
    |zero=>unfold VT.has;trivial
    |succ m=>
     rw[VT.ABk]at hj ⊢;by_cases hm:m % 2=0
     ·rw[if_pos hm]at hj ⊢;exact VT.ACx l _ x l' hl h _ hj
     ·rw[if_neg hm]at hj ⊢;exact hj
  ·rw[if_neg hk]at hs h
   cases hl:r.set (k/2) x with
   |none=>rw[hl]at hs;cases hs
   |some l'=>
    rw[hl]at hs;cases hs;cases j with
    |zero=>unfold VT.has;trivial
    |succ m=>
     rw[VT.ABk]at hj ⊢;by_cases hm:m % 2=0
     ·rw[if_pos hm]at hj ⊢;exact hj
     ·rw[if_neg hm]at hj ⊢;exact VT.ACx r _ x l' hl h _ hj
theorem LB:∀ (vs:List IN) (t:VT) (i:Nat),(∀ j,j<i+vs.length->t.has j)->∃ t',Bo t i vs=some t'/\(∀ j,t'.has j↔t.has j)/\∀ j,t'.get j=if i<=j/\j<i+vs.length then vs.getD (j - i) ABd else t.get j
 |[],t,i,h=>⟨t,rfl,fun _=>Iff.rfl,fun j=>by rw[if_neg (by simp only[uR];omega)]⟩
 |v::vs,t,i,h=>by
  simp only[tZ]at h;have hh:∀ j,j<i->t.has j:=fun j hj=>h j (by omega)
  have hs:=VT.ACG (x:=v) hh;have h1:∀ j,(t.lay i v).has j↔t.has j:=fun j=>⟨VT.ACx t i v _ hs (h i (by omega)) j,fun hj=>VT.ACd hh j (.inr hj)⟩
  obtain⟨t',a1,a2,a3⟩:=LB vs (t.lay i v) (i+1) fun j hj=>(h1 j).2 (h j (by omega))
  refine⟨t',?_,fun j=>(a2 j).trans (h1 j),fun j=>?_⟩
  ·show(match t.set i v with|some t'=>Bo t' (tk i) vs|none=>none)=_
   rw[hs];exact a1
  ·rw[a3 j,VT.ACW hh]
   simp only[tZ];by_cases c1:i+1<=j/\j<i+1+vs.length
   ·rw[if_pos c1,if_pos (by omega),show j - i=(j - (i+1))+1 by omega];rfl
   ·rw[if_neg c1]
    by_cases c2:j=i
    ·rw[if_pos c2,if_pos (by omega),c2,yd];rfl
    ·rw[if_neg c2,if_neg (by omega)]
section
variable {F:ABZ}{e:Env}{h r:Hp}{k:Walk}{body:C}{b:Nat}
theorem Ou{b n0:Nat}{r h1:Hp}{tr:Rds}:Wy b n0 r h1 tr=true↔ZL b n0 r h1:=by
 unfold Wy;split
 ·rename_i h _;exact⟨fun _=>h,fun _=>rfl⟩
 ·rename_i h _;exact⟨fun e=>(by cases e),fun e=>absurd e h⟩
theorem Pw{f:Ent->Bool}:∀ {l:List Ent},(∀ x∈l,f x=true)->Pv f l=true
 |[],_=>rfl
 |x::l,h=>by
  show(bif f x then Pv f l else false)=true;rw[h x te,Pw fun y hy=>h y (td _ hy)];rfl
theorem Il{fin:Hp->Rds->Bool}:∀ (n:Nat) (h:Hp) (tr:Rds),Ky k body F e b fin n h tr=true->∃ p,S0 k body F e b n h tr=some p/\fin p.1 p.2=true
 |0,h,tr,hx=>by cases hx
 |n+1,h,tr,hx=>by
  unfold Ky N2 at hx;unfold S0 N2;cases hi:EW (h.bl.get b)with
  |no=>rw[hi]at hx;cases hx
  |cur _ _ _=>rw[hi]at hx;cases hx
  |pick _ _ _ _=>rw[hi]at hx;cases hx
  |ok m since seen last=>
   rw[hi]at hx;cases m with
   |none=>cases hx
   |some m=>
    simp only at hx ⊢;cases he:Bj h m with
    |no=>rw[he]at hx;cases hx
    |ok es c=>
     rw[he]at hx;simp only at hx ⊢;cases q1:tm c since with
     |false=>rw[q1]at hx;cases hx
     |true=>
      cases q2:tm c last with
      |false=>rw[q1,q2]at hx;cases hx
      |true=>
       cases q3:FO c 0 es with
       |false=>rw[q1,q2,q3]at hx;cases hx
       |true=>
        rw[q1,q2,q3]at hx;simp only[cond_true]at hx ⊢;cases hr:AB8 seen es with
        |nil=>rw[hr]at hx;exact⟨_,rfl,hx⟩
        |cons y l=>
         rw[hr]at hx;have hy:=Lo hx y te;simp only;cases hst:OW k body F e b m c seen h y with
         |none=>rw[hst]at hy;cases hy
         |some h1=>
          rw[hst]at hy;exact Il n h1 _ hy
theorem Sp(W:h.Wf)(S:Oe k body F e h b r)(hn:h.next<=r.next):
  ∃ h',Fy k body F e h b=.exit k.out (Env.set k.more (.bool false) (C8 e k.ws)) h'/\h'.Wf/\h'.next=r.next/\(∀ i,i<h.next->i≠b->h'.bl.get i=r.bl.get i)/\h'.mark=h.mark/\h'.low=min h.low r.low:=by
 obtain⟨p,hp,hend⟩:=Il _ _ _ S.2;obtain⟨q1,q2,q3,q4⟩:=Ou.1 hend;have ADf:=W.big;unfold Fy;split
 case h_2=>rename_i hx _;exact absurd ⟨r,S⟩ hx
 rename_i hx _;have S':=ABO hx;generalize ABE hx=r' at S';obtain⟨p',hp',AFQ⟩:=Il _ _ _ S'.2;obtain rfl:p'=p:=by rw[hp]at hp';exact(Option.some.inj hp').symm
 obtain⟨t1,t2,t3,t4⟩:=Ou.1 AFQ;refine⟨_,rfl,⟨?_,S'.1,fun i hi=>?_⟩,t1.symm.trans q1,fun i hi hib=>?_,rfl,(BW _ _).trans (by rw[t2,<- q2])⟩
 ·show 256<=r'.next;omega
 ·have hi:r'.next<=i:=hi
  show r'.bl.get i=_;rw[t4,if_pos (by omega)]
 ·show r'.bl.get i=_
  rw[t4,q4]
end
end
noncomputable section
open Go
set_option maxRecDepth 100000
def IM(M:List Nat)(k:Nat)(l:List Nat):List Nat:=M.take (64*k)++l++M.drop (64*k+64)
def F5:List Nat->List (Nat×List Nat)->List Nat
 |M,[]=>M
 |M,y::cs=>F5 (IM M y.1 y.2) cs
def ADb(cs:List (Nat×List Nat)):Prop:=∀ (i j:Nat) (y z:Nat×List Nat),cs[i]? =some y->cs[j]? =some z->y.1=z.1->i=j
def ACr(n:Nat)(cs:List (Nat×List Nat)):Prop:=∀ y∈cs,y.1<n/\y.2.length=64/\∀ x∈y.2,x<256
theorem DX{M l:List Nat}{n k:Nat}(hM:M.length=64*n)(hk:k<n)(hl:l.length=64):(IM M k l).length=64*n:=by
 unfold IM;rw[No,No,uL,ua];omega
theorem gu{M l:List Nat}{k:Nat}(hM:∀ x∈M,x<256)(hl:∀ x∈l,x<256):∀ x∈IM M k l,x<256:=fun x hx=>by
 rcases uP.1 hx with hx|hx
 ·rcases uP.1 hx with hx|hx
  ·exact hM x (vQ hx)
  ·exact hl x hx
 ·exact hM x (wM hx)
theorem EZ{M l:List Nat}{n k p:Nat}(hM:M.length=64*n)(hk:k<n)(hl:l.length=64):(IM M k l).getD p 0=if p/64=k then l.getD (p % 64) 0 else M.getD p 0:=by
 unfold IM;have e1:(M.take (64*k)).length=64*k:=by rw[uL];omega
 simp only[tY];by_cases h:p/64=k
 ·rw[if_pos h,uC,uI (by omega),uJ (by omega),e1,show p - 64*k=p % 64 by omega]
 ·rw[if_neg h]
  rcases uG p (64*k)with hp|hp
  ·rw[uC,uJ (by omega),List.getElem?_take,if_pos hp]
  ·rw[uI (by rw[No];omega),List.getElem?_drop,No,e1,hl]
   congr 2;omega
theorem GX:∀ {cs:List (Nat×List Nat)} {M:List Nat} {n:Nat},M.length=64*n->ACr n cs->(F5 M cs).length=64*n
 |[],_,_,h,_=>h
 |y::cs,M,n,h,hc=>GX (cs:=cs) (DX h (hc y te).1 (hc y te).2.1) fun z hz=>hc z (td _ hz)
theorem Qr:∀ {cs:List (Nat×List Nat)} {M:List Nat} {n:Nat},(∀ x∈M,x<256)->ACr n cs->∀ x∈F5 M cs,x<256
 |[],_,_,h,_=>h
 |y::cs,M,n,h,hc=>Qr (cs:=cs) (n:=n) (gu h (hc y te).2.2) fun z hz=>hc z (td _ hz)
theorem ADb.tail{y:Nat×List Nat}{cs:List (Nat×List Nat)}(h:ADb (y::cs)):ADb cs/\∀ z∈cs,z.1≠y.1:=⟨fun i j a b h1 h2 h3=>by
 have:=h (i+1) (j+1) a b (by rw[vB];exact h1) (by rw[vB];exact h2) h3;omega,fun z hz e=>by
 obtain⟨i,hi⟩:=List.mem_iff_getElem?.1 hz;have:=h (i+1) 0 z y (by rw[vB];exact hi) rfl e;omega⟩
theorem KY:∀ {cs:List (Nat×List Nat)} {M:List Nat} {n p:Nat},M.length=64*n->ACr n cs->(∀ y∈cs,p/64≠y.1)->(F5 M cs).getD p 0=M.getD p 0
 |[],_,_,_,_,_,_=>rfl
 |y::cs,M,n,p,h,hc,hp=>by
  obtain⟨c1,c2,c3⟩:=hc y te;show(F5 (IM M y.1 y.2) cs).getD p 0=_;rw[KY (cs:=cs) (DX h c1 c2) (fun z hz=>hc z (td _ hz)) fun z hz=>hp z (td _ hz),EZ h c1 c2,if_neg (hp y te)]
theorem Qq:∀ {cs:List (Nat×List Nat)} {M:List Nat} {n:Nat},M.length=64*n->ACr n cs->ADb cs->∀ y∈cs,∀ q,q<64->(F5 M cs).getD (64*y.1+q) 0=y.2.getD q 0
 |[],_,_,_,_,_,_,hy,_,_=>by cases hy
 |z::cs,M,n,h,hc,hK,y,hy,q,hq=>by
  obtain⟨c1,c2,c3⟩:=hc z te;obtain⟨k1,k2⟩:=hK.tail;show(F5 (IM M z.1 z.2) cs).getD _ 0=_;rcases uA.1 hy with rfl|hy
  ·rw[KY (cs:=cs) (DX h c1 c2) (fun z hz=>hc z (td _ hz)) (fun z hz=>by have:=k2 z hz;omega),EZ h c1 c2,if_pos (by omega),show(64*y.1+q) % 64=q by omega]
  ·exact Qq (DX h c1 c2) (fun z hz=>hc z (td _ hz)) k1 y hy q hq
def ACO(T0:VT)(done:List (Nat×List Nat))(T:VT):Prop:=(∀ j,T.has j↔T0.has j)/\(∀ y∈done,∀ q,q<64->T.get (64*y.1+q)=bv (y.2.getD q 0))/\∀ p,(∀ y∈done,p/64≠y.1)->T.get p=T0.get p
theorem ACO.nil(T:VT):ACO T [] T:=⟨fun _=>Iff.rfl,fun y hy=>(by cases hy),fun _ _=>rfl⟩
theorem ACO.step{T0 T:VT}{done:List (Nat×List Nat)}{k s:Nat}{l:List Nat}(h:ACO T0 done T)(hh:∀ j,j<s->T0.has j)(hk:64*k+64<=s)(hl:l.length=64)(hd:∀ y∈done,y.1≠k):∃ T',Bo T (64*k) (l.map bv)=some T'/\ACO T0 (done++[(k,l)]) T':=by
 have hll:(l.map bv).length=64:=by rw[OF,hl]
 obtain⟨T',a1,a2,a3⟩:=LB (l.map bv) T (64*k) fun j hj=>(h.1 j).2 (hh j (by omega))
 refine⟨T',a1,fun j=>(a2 j).trans (h.1 j),fun y hy q hq=>?_,fun p hp=>?_⟩
 ·rw[a3,hll]
  rcases uP.1 hy with hy|hy
  ·rw[if_neg (by have:=hd y hy;omega)]
   exact h.2.1 y hy q hq
  ·obtain rfl:=uF.1 hy
   have hq':64*k+q - 64*k=q:=by omega
   rw[if_pos ⟨Nat.le_add_right _ _,by show 64*k+q<_;omega⟩];show(l.map bv).getD (64*k+q - 64*k) ABd=bv (l.getD q 0);rw[hq',tY,uq,tY,tW (by omega)];rfl
 ·have:=hp (k,l) (uY _ (uF.2 rfl))
  rw[a3,hll,if_neg (by show ¬ _;have:p/64≠k:=this;omega)];exact h.2.2 p fun y hy=>hp y (List.mem_append_left _ hy)
theorem ACO.uniq{T0 T T':VT}{a b:List (Nat×List Nat)}(h:ACO T0 a T)(h':ACO T0 b T')(hm:∀ y,y∈a↔y∈b):T=T':=by
 refine VT.ext _ _ (fun j=>(h.1 j).trans (h'.1 j).symm) fun p=>?_
 by_cases hp:∃ y∈a,p/64=y.1
 ·obtain⟨y,hy,he⟩:=hp
  have h1:=h.2.1 y hy (p % 64) (by omega);have h2:=h'.2.1 y ((hm y).1 hy) (p % 64) (by omega);rw[show 64*y.1+p % 64=p by omega]at h1 h2;rw[h1,h2]
 ·rw[h.2.2 p fun y hy he=>hp ⟨y,hy,he⟩,h'.2.2 p fun y hy he=>hp ⟨y,(hm y).2 hy,he⟩]
theorem ACO.all{T0:VT}{n:Nat}(hh:∀ j,j<64*n->T0.has j):∀ (cs done:List (Nat×List Nat)) (T:VT),ACO T0 done T->ACr n cs->ADb cs->(∀ y∈cs,∀ z∈done,z.1≠y.1)->∃ T',ACO T0 (done++cs) T'
 |[],done,T,h,_,_,_=>⟨T,by rw[uH];exact h⟩
 |y::cs,done,T,h,hc,hK,hd=>by
  obtain⟨c1,c2,c3⟩:=hc y te;obtain⟨k1,k2⟩:=hK.tail;obtain⟨T1,_,h1⟩:=h.step hh (k:=y.1) (l:=y.2) (by omega) c2 (hd y te);obtain⟨T2,h2⟩:=ACO.all hh cs (done++[(y.1,y.2)]) T1 h1 (fun z hz=>hc z (td _ hz)) k1 fun z hz w hw=>by
   rcases uP.1 hw with hw|hw
   ·exact hd z (td _ hz) w hw
   ·obtain rfl:=uF.1 hw
    exact fun e=>k2 z hz e.symm
  exact⟨T2,by rw[uC]at h2;exact h2⟩
theorem ACO.is{T0 T:VT}{M:List Nat}{n:Nat}{cs:List (Nat×List Nat)}(h:ACO T0 cs T)(hT:T0.Is (M.map bv))(hM:M.length=64*n)(hc:ACr n cs)(hK:ADb cs):T.Is ((F5 M cs).map bv):=fun p hp=>by
 rw[OF,GX hM hc]at hp;have hp0:=hT p (by rw[OF];omega);refine⟨(h.1 p).2 hp0.1,?_⟩;have e1:∀ L:List Nat,p<L.length->(L.map bv).getD p ABd=bv (L.getD p 0):=fun L hL=>by
  rw[tY,uq,tY,tW hL];rfl
 rw[e1 _ (by rw[GX hM hc];exact hp)];by_cases hq:∃ y∈cs,p/64=y.1
 ·obtain⟨y,hy,he⟩:=hq
  have h1:=h.2.1 y hy (p % 64) (by omega);have h2:=Qq hM hc hK y hy (p % 64) (by omega);rw[show 64*y.1+p % 64=p by omega]at h1 h2;rw[h1,h2]
 ·rw[h.2.2 p fun y hy he=>hq ⟨y,hy,he⟩,KY hM hc fun y hy he=>hq ⟨y,hy,he⟩,hp0.2,e1 _ (by omega)]
theorem MG:∀ (cs:List (Nat×List Nat)) (c:Nat),(ABr c cs).length=cs.length
 |[],_=>rfl
 |x::cs,c=>by show(ABr (c+1) cs).length+1=_;rw[MG cs];rfl
theorem QP:∀ {cs:List (Nat×List Nat)} {c:Nat} {x:Ent},x∈ABr c cs->∃ (i:Nat) (y:Nat×List Nat),cs[i]? =some y/\x=⟨AI AT (y.1:Int),Dp y.2,c+i⟩
 |[],_,_,h=>by cases h
 |y::cs,c,x,h=>by
  rcases uA.1 h with h|h
  ·exact⟨0,y,rfl,h⟩
  ·obtain⟨i,z,h1,h2⟩:=QP h
   exact⟨i+1,z,by rw[vB];exact h1,by rw[h2,AA1,AAc 1]⟩
theorem H5:∀ {cs:List (Nat×List Nat)} {c i:Nat} {y:Nat×List Nat},cs[i]? =some y->GQ (c+i) (ABr c cs)=some ⟨AI AT (y.1:Int),Dp y.2,c+i⟩
 |[],_,_,_,h=>by cases h
 |z::cs,c,0,y,h=>by
  have h:some z=some y:=h;cases h;show(bif tm c (c+0)then some (⟨AI AT (z.1:Int),Dp z.2,c⟩:Ent)else GQ (c+0) (ABr (c+1) cs))=_;rw[vS,vT];rfl
 |z::cs,c,i+1,y,h=>by
  rw[vB]at h;show(bif tm c (c+(i+1))then some (⟨AI AT (z.1:Int),Dp z.2,c⟩:Ent)else GQ (c+(i+1)) (ABr (c+1) cs))=_;have:tm c (c+(i+1))=false:=by
   cases e:tm c (c+(i+1))
   ·rfl
   ·have:=A1.1 e;omega
  rw[this,show c+(i+1)=c+1+i by omega];exact H5 h
theorem LA:∀ {cs:List (Nat×List Nat)} {c lo clk:Nat},lo<=c->c+cs.length<=clk->FO clk lo (ABr c cs)=true
 |[],_,_,_,_,_=>rfl
 |x::cs,c,lo,clk,h1,h2=>by
  rw[tZ]at h2;show(bif tz lo c then(bif Nat.blt c clk then FO clk (tk c) (ABr (c+1) cs)else false)else false)=true;rw[Ar.2 h1,Ba.2 (by omega)];exact LA (If _) (by omega)
theorem F6{n:Nat}:∀ {l:List Nat},Ft n l=true↔n∈l
 |[]=>⟨fun h=>(by cases h),fun h=>(by cases h)⟩
 |x::l=>by
  show(bif tm x n then true else Ft n l)=true↔_;cases h:tm x n with
  |true=>exact⟨fun _=>by rw[A1.1 h];exact te,fun _=>rfl⟩
  |false=>
   refine Iff.trans (F6 (l:=l)) ⟨fun h1=>td _ h1,fun h1=>?_⟩;rcases uA.1 h1 with h1|h1
   ·rw[h1,vT]at h;cases h
   ·exact h1
theorem M0{seen:List Nat}:∀ {es:List Ent} {x:Ent},x∈AB8 seen es->x∈es/\x.born∉seen
 |[],_,h=>by cases h
 |y::es,x,h=>by
  have h:x∈(bif Ft y.born seen then AB8 seen es else y::AB8 seen es):=h;cases hm:Ft y.born seen with
  |true=>
   rw[hm]at h;obtain⟨h1,h2⟩:=M0 (es:=es) h;exact⟨td _ h1,h2⟩
  |false=>
   rw[hm]at h;rcases uA.1 h with h|h
   ·subst h
    exact⟨te,fun h1=>by rw[F6.2 h1]at hm;cases hm⟩
   ·obtain⟨h1,h2⟩:=M0 (es:=es) h
    exact⟨td _ h1,h2⟩
theorem ON{seen:List Nat}{s:Nat}:∀ {cs:List (Nat×List Nat)} {c:Nat},s<c->AB8 (seen++[s]) (ABr c cs)=AB8 seen (ABr c cs)
 |[],_,_=>rfl
 |x::cs,c,h=>by
  show(bif Ft c (seen++[s])then AB8 (seen++[s]) (ABr (c+1) cs)else _::AB8 (seen++[s]) (ABr (c+1) cs))=(bif Ft c seen then AB8 seen (ABr (c+1) cs)else _::AB8 seen (ABr (c+1) cs));rw[ON (cs:=cs) (by omega)];have:Ft c (seen++[s])=Ft c seen:=by
   rw[vY,F6,F6,uP,uF];exact⟨fun h1=>h1.elim (fun h=>h) fun h1=>by omega,.inl⟩
  rw[this]
theorem Ri{seen:List Nat}{i:Nat}:∀ {cs:List (Nat×List Nat)} {c:Nat},i<cs.length->c+i∉seen->(AB8 (seen++[c+i]) (ABr c cs)).length+1=(AB8 seen (ABr c cs)).length
 |[],_,h,_=>by cases h
 |x::cs,c,h,hs=>by
  show(bif Ft c (seen++[c+i])then AB8 (seen++[c+i]) (ABr (c+1) cs)else _::AB8 (seen++[c+i]) (ABr (c+1) cs)).length+1=(bif Ft c seen then AB8 seen (ABr (c+1) cs)else _::AB8 seen (ABr (c+1) cs)).length;cases i with
  |zero=>
   simp only[vS]at hs ⊢;have h1:Ft c seen=false:=by
    cases e:Ft c seen
    ·rfl
    ·exact absurd (F6.1 e) hs
   have h2:Ft c (seen++[c])=true:=F6.2 (uY _ (uF.2 rfl));rw[h1,h2,ON (cs:=cs) (Nat.lt_succ_self c)];rfl
  |succ i=>
   have h1:Ft c (seen++[c+(i+1)])=Ft c seen:=by
    rw[vY,F6,F6,uP,uF];exact⟨fun h1=>h1.elim (fun h=>h) fun h1=>by omega,.inl⟩
   have e:c+(i+1)=c+1+i:=by omega
   rw[e]at hs h1 ⊢;have ih:=Ri (seen:=seen) (i:=i) (cs:=cs) (c:=c+1) (by simp only[tZ]at h;omega) hs;rw[h1];cases Ft c seen with
   |true=>exact ih
   |false=>exact congrArg (· +1) ih
theorem Kj:∀ (es:List Ent),AB8 [] es=es
 |[]=>rfl
 |x::es=>by
  show x::AB8 [] es=_;rw[Kj es]
end
noncomputable section
open Go
set_option maxRecDepth 100000
def fB:C:=(G 22 (HI (J 21))
(G 23 (AV 0 (J 22))
(Bd 23
(AY 1 (G 24 (Iz (J 21))
(G 25 (AV 0 (J 24))
(G 26 (AV 1 (J 24))
(G 6 (BN 64 JB)
(G 5 (AZ 25)
(cDo (Ac 64 (J 6) (J 26))
(B2 (G 28 (Be (J 0))
(G 29 (AF 0 (J 28))
(G 30 (AM (J 29))
(G 32 (BE 64 (J 6))
(G 33 (CB 64 (J 30) (J 5))
(cDo (Aa .free (Ac 64 (J 33) (J 32)))
Aq))))))))))))))
(B8 0))))
def fK:Walk:=⟨21,22,23,0,[22,23,24,25,26,6,5,27,28,29,30,31,32,33],[]⟩
theorem i9:fW=JG fK fB:=rfl
theorem qy:fS=BB (AY 0 fW) fE:=rfl
theorem d8:mi=Uj:=rfl
section
variable {F:ABZ}{e:Env}{g g1:Hp}{it bd bm bc n k:Nat}{l:List Nat}{T:VT}{arm:Int}{dn:Bool}
theorem Tl{q:Hp}{s el off:Nat}{vs:List IN}{T':VT}(W:q.Wf)(hT:q.bl.get bm=.cells T s el)(ACB:Bo T off vs=some T')(ho:off+vs.length<=s)(h1:BX vs=true)(ABj:256<=bm)(hb:bm<q.next){K:Hp->R}:C6 ⟨bm,off,none⟩ vs q K=K (q.put bm (.cells T' s el)):=by
 have hr:rowOf q bm=.ok T s el:=by unfold rowOf;rw[hT];rfl
 unfold C6;simp only[hr,vH];rw[Bi,Ar.2 ho,h1];simp only[cond_true,ACB];rw[EM W ABj hb]
theorem Qa(W1:g1.Wf)(s0:J 0 e=pt bd)(s21:J 21 e=pt it)
  (nx:∀ e,J 21 e=pt it->HI (J 21) F e g=.ok (.tuple ⟨[.bool true,AI AT (k:Int),Dp l]⟩) g1)
  (en:∀ e,J 21 e=pt it->Iz (J 21) F e g1=.ok (.tuple ⟨[AI AT (k:Int),Dp l]⟩) g1)
  (D:g1.Row bd 0 (dkL bm bc n arm dn))(hT:g1.bl.get bm=.cells T (64*n) 0){T':VT}(hs:Bo T (64*k) (l.map bv)=some T')(hk:k<n)(hl:l.length=64)(ABj:256<=bm)(hbm:bm<g1.next):
  ∃ e' g',fB F e g=.norm e' g'/\J 0 e'=pt bd/\J 21 e'=pt it/\g'.Wf/\g'.next=g1.next+1/\g'.bl.get bm=.cells T' (64*n) 0/\(∀ i,i<g1.next->i≠bm->g'.bl.get i=g1.bl.get i)/\g'.low=min (min g1.low g1.next) bm/\g'.high=max (max g1.high g1.next) bm:=by
 have big:=W1.big;have hll:(l.map bv).length=64:=by rw[OF,hl]
 have al:=fun (F:ABZ) (e:Env)=>BL (F:=F) (e:=e) W1 (n:=64) (t:=JB)
 have R1:=Hp.Row.alloc W1 Wd (by rw[OF,uh]);have x1:g1.Ext (g1.push (.cells JB 64 0)):=(Hp.Ext.refl W1).push _;have n1:(g1.push (.cells JB 64 0)).next=g1.next+1:=rfl;have lo1:(g1.push (.cells JB 64 0)).low=g1.low:=rfl;have hi1:(g1.push (.cells JB 64 0)).high=g1.high:=rfl;generalize g1.push (.cells JB 64 0)=g2 at al R1 x1 n1 lo1 hi1;have hz:((th 64 0).map bv).length=64:=by rw[OF,uh]
 have st:ABg 64 (pt g1.next) (Dp l) g2=.ok ABd (g2.wr g1.next 0 (l.map bv)):=R1.ABg (n:=64) (off:=0) x1.wf big (v:=Dp l) hll (by show 0+(l.map bv).length<=_;omega) (DB _);have x2:=R1.AB3 x1 (If _) (off:=0) (vs:=l.map bv) (by omega);have R2:=R1.ABl x1.wf (off:=0) (vs:=l.map bv) (by omega);rw[EJ (by omega)]at R2;have n2:(g2.wr g1.next 0 (l.map bv)).next=g1.next+1:=(R1.ACH (by omega)).trans n1;obtain⟨_,_,ew,_⟩:=R1.ACh (off:=0) (vs:=l.map bv) (by omega);have lo2:(g2.wr g1.next 0 (l.map bv)).low=min g1.low g1.next:=by
  rw[ew];show CC g2.low g1.next=_;rw[BW,lo1]
 have hi2:(g2.wr g1.next 0 (l.map bv)).high=max g1.high g1.next:=by
  rw[ew];show C5 g2.high g1.next=_;rw[B7,hi1]
 generalize g2.wr g1.next 0 (l.map bv)=g3 at st x2 R2 n2 lo2 hi2;have D3:g3.marked.Row bd 0 (dkL bm bc n arm dn):=(D.ext W1 x2).same rfl;obtain⟨l0,_,_,_⟩:=DV D3;have R3:g3.marked.Row g1.next 0 (l.map bv):=R2.same rfl;have ld:loadN 64 ⟨g1.next,0,none⟩ g3.marked=.ok (Dp l) g3.marked:=by
  rw[R3.loadN (by omega),List.drop_zero,vX (by omega)];rfl
 have ix:ACN 64 (.slice (some ⟨bm,0,none⟩) n n) (AI AT (k:Int)) g3.marked=.ok (.pointer (some ⟨bm,0+k*64,none⟩)) g3.marked:=Ch hk;rw[sh,wP]at ix;have hTq:g3.marked.quiet.bl.get bm=.cells T (64*n) 0:=by
  show g3.bl.get bm=_;rw[x2.get bm hbm];exact hT
 have sq:ABg 64 (.pointer (some ⟨bm,64*k,none⟩)) (Dp l) g3.marked.quiet=.ok ABd (g3.marked.quiet.put bm (.cells T' (64*n) 0)):=by
  show(bif tm (Di (l.map bv)) 64 then C6 ⟨bm,64*k,none⟩ (l.map bv) g3.marked.quiet EI else .no)=_;rw[Bi,A1.2 hll,cond_true,Tl x2.wf.marked.quiet hTq hs (by omega) (DB _) ABj (by show bm<g3.next;omega)];rfl
 have q1:∀ (F:ABZ) (e:Env),J 33 e=.pointer (some ⟨bm,64*k,none⟩)->J 32 e=Dp l->Aa .free (Ac 64 (J 33) (J 32)) F e g3.marked=.ok ABd (g3.marked.back (g3.marked.quiet.put bm (.cells T' (64*n) 0))):=fun F e e1 e2=>by
  refine BF ?_;rw[AW,e1,e2];exact sq
 have pg:=x2.wf.marked.quiet.ACD (b:=bm) (show bm<g3.next by omega) (.cells T' (64*n) 0);have pw:=x2.wf.marked.quiet.put (b:=bm) (show bm<g3.next by omega) (.cells T' (64*n) 0);have AEH:(g3.marked.back (g3.marked.quiet.put bm (.cells T' (64*n) 0))).low=min (min g1.low g1.next) bm:=by
  show CC g3.low (CC g3.next bm)=_;rw[BW,BW,lo2,n2];omega
 have ADN:(g3.marked.back (g3.marked.quiet.put bm (.cells T' (64*n) 0))).high=max (max g1.high g1.next) bm:=by
  show C5 g3.high (C5 0 bm)=_;rw[B7,B7,hi2];omega
 have hrun:∃ e',fB F e g=.norm e' (g3.marked.back (g3.marked.quiet.put bm (.cells T' (64*n) 0)))/\J 0 e'=pt bd/\J 21 e'=pt it:=by
  unfold fB;have nx':=fun e he=>nx e he
  simp only[sT,By,BY,reduceIte,nx e s21,Ao,Ax,A2,Bu,en,s21,al,AW,st,Az,Au,s0,Ai,AH,AO,AN,AQ,l0,Ap,Aj,ld,BA,ix,q1];exact⟨_,rfl,by simp[AG,s0,s21]⟩
 obtain⟨e',r1,r2,r3⟩:=hrun;refine⟨e',_,r1,r2,r3,⟨pw.big,pw.has,pw.fresh⟩,by show g3.next=_;exact n2,?_,fun i hi hib=>?_,AEH,ADN⟩
 ·show(g3.marked.quiet.put bm _).bl.get bm=_
  rw[pg,if_pos rfl]
 ·show(g3.marked.quiet.put bm _).bl.get i=_
  rw[pg,if_neg hib];exact x2.get i hi
end
end
end Go.Proofs.YtbjadbhkogcfeaaGreat
