/-
  Part ZE of what Lawnk stands on: printed by program, names and spaces cut.
-/
import Derived.Test.YtldjiljipddebaaGreatZD
open Bool renaming true→IN,false→IS
open Option renaming none→By,some→BY
open Go.Value renaming int→AI
open Go.IntKind renaming i64→AT
open Nat renaming reduceEqDiff→OF,reduceLT→sh,reduceAdd→wA,le_refl→wB,zero_add→wC,succ→wQ,beq→wU,ble→wY,lt_or_ge→wh,zero_le→wl,le_trans→wy,mul→xW,add_zero→xy,beq_refl→yG,add_eq→yH,mul_comm→yR,reduceLeDiff→yn,min_eq_left→yz,min_le_right→zN,zero_mul→zX,mod_eq_of_lt→zg,succ_pos→AAB,mul_zero→ABw,add_comm→ACa,add_assoc→ADo
open Go renaming Value→vz,IntKind→we
open List renaming length_append→wD,getElem?_eq_getElem→wE,length_map→wF,getD_eq_getElem?_getD→wG,mem_cons_of_mem→wI,mem_cons_self→wJ,length_cons→wK,mem_of_getElem?→wO,mem_singleton→wP,replicate→wR,mem_cons→wS,append_nil→wT,getElem?_eq_some_iff→wW,getElem?_append_left→wX,append_assoc→wa,mem_append→wd,getElem?_append_right→wi,length_take→wu,mem_append_right→wz,map_append→w9,length_nil→xD,mem_append_left→xF,nil_append→xI,length_singleton→xM,length_drop→xT,drop_of_length_le→xV,drop_zero→xa,getElem?_map→xc,getElem?_cons_succ→xh,mem_of_mem_take→xk,range→xx,take_length→xz,length_replicate→yI,nodup_cons→yO,drop_eq_getElem_cons→yP,cons_append→yS,take_of_length_le→yU,getElem?_take→yY,filter_append→yk,range_succ→yu,mem_of_mem_drop→yx,singleton_append→zB,append_eq→zK,mem_iff_getElem?→zM,eq_of_mem_replicate→zb,find?_cons_of_neg→zl,length→zo,length_range→AAT,getElem?_drop→AAV,drop→AAZ,take→AAw,take_take→AA0,any_cons→ABC,map_take→ABX,take_left'→ADF,map_drop→ADa,map_nil→ADq
open Bool renaming not_true→xK,not_false→xP,eq_iff_iff→yW,not_not→ADv
open Int renaming sub→xO,ofNat→xR
open Classical renaming propDecidable→yL,choose_spec→ABg,choose→AB7,byContradiction→AEP
open Go.IntKind renaming i64→zV
set_option linter.unusedVariables false
set_option linter.unusedSimpArgs false
namespace Go.Proofs.YtldjiljipddebaaGreat
set_option maxRecDepth 100000
noncomputable section
open Go
def Ok4(h:Hp)(a:Nat)(ns:List Nat)(e:Env)(g:Hp):Prop:=h.Ext g/\J 4 e=pt a/\J 5 e=AI AT (at6 ns 4:Nat)/\J 6 e=.int .u32 (at6 ns 5:Nat)/\J 7 e=.bool IN/\loadN 5 ⟨a,0,By⟩ g=.ok (Bn (at6 ns 1) (at6 ns 2) (at6 ns 3) (at6 ns 0) AEW) g
theorem Mb{h g:Hp}{i:Nat}{e:Env}(D:Zu h i e g):IG [.cN (J 4) 5,.t (J 5),.t (J 6),.t (J 7)] (.ret e g)=.ok noT g:=by
 obtain⟨_,a,b,c,d,f⟩:=D;rw[A7,LM (v:=Bn 0 0 0 0 AEW) (by rw[a];exact f),b,c,d];rfl
theorem rc{h g:Hp}{i:Nat}{ns:List Nat}{e:Env}(D:Ok4 h i ns e g):IG [.cN (J 4) 5,.t (J 5),.t (J 6),.t (J 7)] (.ret e g)=.ok (okT ns) g:=by
 obtain⟨_,a,b,c,d,f⟩:=D;rw[A7,LM (v:=Bn (at6 ns 1) (at6 ns 2) (at6 ns 3) (at6 ns 0) AEW) (by rw[a];exact f),b,c,d];rfl
theorem uf{n:Nat}{h Y g:Hp}(W0:h.Wf)(xB:h.Ext Y)(x:Y.Ext g){f i k q:Nat}(b5:h.next<=f)(a9:i≠f)(R4:Y.Row f 0 (A5 0 0 0 0 AEW)){v:vz}{l ns:List Nat}(M:Mk Y k v l)(hl:l.length<=900000)(hq:q<=l.length)
  (D:g.Row i 0 (ns.map nv))(j:ns.length=6)(c6:∀v∈ns,v<=1099511627776){e:Env}(s4:J 4 e=pt f)(s8:J 8 e=v)(s10:J 10 e=pt i)(s11:J 11 e=AI AT (q:Int)):
  (QR ns/\(∀x∈l.drop q,x=0)/\∃d g2,paE (call AC (n+3)) e g=.ret d g2/\Ok4 h f ns d g2)\/(¬(QR ns/\∀x∈l.drop q,x=0)/\∃d g2,paE (call AC (n+3)) e g=.ret d g2/\Zu h f d g2):=by
 have E:=x.wf;have WB:=xB.wf;have r:∀o,at6 ns o<=1099511627776:=λo=>by
  unfold at6;rw[wG];cases h:ns[o]? with
  |none=>exact wl _
  |some B=>exact c6 B (wO h)
 have L:∀g:Hp,OD 6 1 (pt i) (AI AT 0) g=.ok (.pointer (BY ⟨i,0,By⟩)) g:=λg=>SB (k:=0) (by omega)
 have N:∀g:Hp,OD 6 1 (pt i) (AI AT 1) g=.ok (.pointer (BY ⟨i,1,By⟩)) g:=λg=>SB (k:=1) (by omega)
 have O:∀g:Hp,OD 6 1 (pt i) (AI AT 2) g=.ok (.pointer (BY ⟨i,2,By⟩)) g:=λg=>SB (k:=2) (by omega)
 have P:∀g:Hp,OD 6 1 (pt i) (AI AT 3) g=.ok (.pointer (BY ⟨i,3,By⟩)) g:=λg=>SB (k:=3) (by omega)
 have Z:∀g:Hp,OD 6 1 (pt i) (AI AT 4) g=.ok (.pointer (BY ⟨i,4,By⟩)) g:=λg=>SB (k:=4) (by omega)
 have i5:∀g:Hp,OD 6 1 (pt i) (AI AT 5) g=.ok (.pointer (BY ⟨i,5,By⟩)) g:=λg=>SB (k:=5) (by omega)
 have Q:=Sb D j (k:=0) (by omega);have R:=Sb D j (k:=1) (by omega);have S:=Sb D j (k:=2) (by omega);have T:=Sb D j (k:=3) (by omega);have a0:=r 0;have a1:=r 1;have a2:=r 2;have a3:=r 3;have a4:=r 4;have a5:=r 5;have c2:min ((at6 ns 0:Nat):Int) 9=((min (at6 ns 0) 9:Nat):Int):=by omega
 have U:∀(F:AES) (e:Env),J 52 e=.int .u64 ((at6 ns 0:Nat):Int)->ZN (J 52) (W (.int .u64 9)) F e g=.ok (.int .u64 ((min (at6 ns 0) 9:Nat):Int)) g:=λF e he=>by rw[rP he rfl,c2]
 have v0:Ds .u8 (.int .u64 ((min (at6 ns 0) 9:Nat):Int)) g=.ok (.int .u8 ((min (at6 ns 0) 9:Nat):Int)) g:=by rw[Cz,JC,zg (by omega)]
 have I:∀(o:Nat) (g:Hp),Ds .i64 (.int .u64 ((at6 ns o:Nat):Int)) g=.ok (AI AT ((at6 ns o:Nat):Int)) g:=λo g=>by rw[Cz,Bl (by have:=r o;omega)]
 have G:∀(F:AES) (e:Env),J 54 e=.int .u8 ((min (at6 ns 0) 9:Nat):Int)->J 57 e=AI AT ((at6 ns 1:Nat):Int)->J 60 e=AI AT ((at6 ns 2:Nat):Int)->J 63 e=AI AT ((at6 ns 3:Nat):Int)->
   BW JE.zero [(3,1,J 54),(0,1,J 57),(1,1,J 60),(2,1,J 63)] F e g=.ok (Bn (at6 ns 1) (at6 ns 2) (at6 ns 3) (min (at6 ns 0) 9) AEW) g:=λF e h1 h2 h3 X=>gM h1 h2 h3 X
 have y:=λ(F:AES) (e:Env)=>BU (F:=F) (e:=e) (n:=5) (t:=DT) E
 have x1:=(Hp.Ext.refl E).push (.cells DT 5 0);have b2:(g.push (.cells DT 5 0)).Row g.next 0 (A5 0 0 0 0 AEW):=Hp.Row.alloc E Fm rfl;generalize g.push (.cells DT 5 0)=g1 at y x1 b2;obtain⟨A,z,V,b0,_⟩:=MG E x1 (wB _) b2 rfl (a:=at6 ns 1) (b:=at6 ns 2) (c:=at6 ns 3) (s:=min (at6 ns 0) 9) (u:=AEW) rfl;generalize g1.wr g.next 0 (A5 (at6 ns 1) (at6 ns 2) (at6 ns 3) (min (at6 ns 0) 9) AEW)=g2 at A z V b0;have p:=KX (n:=n+2) V.wf (a:=at6 ns 1) (b:=at6 ns 2) (c:=at6 ns 3) (s:=min (at6 ns 0) 9) (m:=0) (u:=AEW) (λ_=>rfl);have y3:=(Hp.Ext.refl V.wf).AER 0 (A5 (at6 ns 1) (at6 ns 2) (at6 ns 3) (min (at6 ns 0) 9) AEW);generalize g2.AER 0 (A5 (at6 ns 1) (at6 ns 2) (at6 ns 3) (min (at6 ns 0) 9) AEW)=g3 at p y3;have x3:=V.trans y3;have a7:=x.trans x3;have b8:=xB.trans a7;obtain⟨w1,w2,w3,_,_⟩:=MG W0 b8 b5 (R4.ext WB a7) rfl (a:=0) (b:=0) (c:=0) (s:=0) (u:=AEW) rfl;have a8:=D.ext E x3;have l4:=Sb a8 j (k:=4) (by omega);have l5:=Sb a8 j (k:=5) (by omega);have a6:¬(QR ns/\∀x∈l.drop q,x=0)->(∃d,paE (call AC (n+3)) e g=.ret d (g3.wr f 0 (A5 0 0 0 0 AEW))/\J 4 d=pt f/\J 5 d=AI AT 0/\J 6 d=.int .u32 0/\J 7 d=.bool IS)->
   (QR ns/\(∀x∈l.drop q,x=0)/\∃d g2,paE (call AC (n+3)) e g=.ret d g2/\Ok4 h f ns d g2)\/(¬(QR ns/\∀x∈l.drop q,x=0)/\∃d g2,paE (call AC (n+3)) e g=.ret d g2/\Zu h f d g2):=λhn ⟨d,q1,q2,q3,q4,q5⟩=>.inr ⟨hn,d,_,q1,w3,q2,q3,q4,q5,w2⟩
 cases K:AEh (at6 ns 1) (at6 ns 2) (at6 ns 3) (min (at6 ns 0) 9) 0 with
 |false=>
  rw[K]at p;refine a6 (λw=>by rw[w.1.1]at K;cases K) ?_;unfold paE;simp only[sT,sh,OF,reduceIte,gD,Da,s10,L,N,O,P,AJ,AP,Q,R,S,T,U,CU,v0,I,G,y,AV,A,Ai,Ac,z,cA0,p,BO,BN,xP,D6,s4,w1];exact⟨_,rfl,by simp[AG,s4]⟩
 |true=>
  rw[K]at p;by_cases X:at6 ns 4<=65536
  ·have H:iGt ((at6 ns 4:Nat):Int) 65536=IS:=GQ (by omega)
   by_cases h5:at6 ns 5<=4294967295
   ·have c5:iGt ((at6 ns 5:Nat):Int) 4294967295=IS:=GQ (by omega)
    have M3:=M.ext WB a7;obtain⟨d1,ct,Vw⟩:=RI M3 hq;obtain⟨rb,kb,b6⟩:=YV (n:=n) Vw (by rw[xT];omega);have kb:call AC (n+3) 107 [d1,.func (.func 132) #[] #[]] g3=.ok (.bool rb) g3:=kb;cases rb with
    |true=>
     obtain⟨B,c8,c9⟩:=b6.1 rfl;refine a6 (λw=>c9 (w.2 B c8)) ?_;unfold paE;simp only[sT,sh,OF,reduceIte,gD,Da,s10,L,N,O,P,Z,i5,AJ,AP,Q,R,S,T,l4,l5,U,CU,v0,I,G,y,AV,A,Ai,Ac,z,cA0,p,BO,BN,xK,AM,AK,H,c5,s8,s11,ct,kb,D6,s4,w1];exact⟨_,rfl,by simp[AG,s4]⟩
    |false=>
     have hz:∀x∈l.drop q,x=0:=λB hy=>by
      rcases Nat.eq_zero_or_pos B with h0|h0
      ·exact h0
      ·have:=b6.2 ⟨B,hy,by omega⟩;cases this
     have b4:QR ns:=⟨K,X,h5⟩;have c3:min (at6 ns 0) 9=at6 ns 0:=yz (wy (kC.1 b4).1 (by decide));left;refine⟨b4,hz,?_⟩;have xm:=x3.marked;have b1:g3.marked.Row i 0 (ns.map nv):=a8.same rfl;have m4:=Sb b1 j (k:=4) (by omega);have m5:=Sb b1 j (k:=5) (by omega);have c1:g3.marked.Row g.next 0 (A5 (at6 ns 1) (at6 ns 2) (at6 ns 3) (min (at6 ns 0) 9) AEW):=(b0.ext V.wf y3).same rfl;have d0:=(Br c1).2.2.2.2.2;have v5:Ds .u32 (.int .u64 ((at6 ns 5:Nat):Int)) g3.marked=.ok (.int .u32 ((at6 ns 5:Nat):Int)) g3.marked:=by rw[Cz,Ts h5]
     have ck:∀(k:C) (F:AES) (e:Env),J 4 e=pt f->J 87 e=.pointer (BY ⟨i,4,By⟩)->J 90 e=.pointer (BY ⟨i,5,By⟩)->Ck (J 4) [J 87,J 90] k F e g3.marked=k F e g3.marked:=λk F e e1 d e3=>aL e1 d e3 a9 a9
     have c0:256<=f:=by have:=W0.big;omega
     have b3:g3.marked.Row f 0 (A5 0 0 0 0 AEW):=(R4.ext WB a7).same rfl;have ta:∀(F:AES) (e:Env),J 4 e=pt f->J 86 e=Bn (at6 ns 1) (at6 ns 2) (at6 ns 3) (min (at6 ns 0) 9) AEW->Ja (J 4) (Ad 5 (J 4) (J 86)) F e g3.marked=.ok AEU (g3.marked.back (g3.marked.quiet.wr f 0 (A5 (at6 ns 1) (at6 ns 2) (at6 ns 3) (min (at6 ns 0) 9) AEW))):=λF e e1 d=>je xm.wf e1 d b3 rfl c0 rfl
     have b9:=b8.marked;obtain⟨_,z2,z3,z4,_⟩:=MG W0 b9.quiet b5 (b3.same (h':=g3.marked.quiet) rfl) rfl (a:=at6 ns 1) (b:=at6 ns 2) (c:=at6 ns 3) (s:=min (at6 ns 0) 9) (u:=AEW) rfl;have xf:h.Ext (g3.marked.back (g3.marked.quiet.wr f 0 (A5 (at6 ns 1) (at6 ns 2) (at6 ns 3) (min (at6 ns 0) 9) AEW))):=Hp.Ext.AFY b9 z3;have Rf:(g3.marked.back (g3.marked.quiet.wr f 0 (A5 (at6 ns 1) (at6 ns 2) (at6 ns 3) (min (at6 ns 0) 9) AEW))).Row f 0 (A5 (at6 ns 1) (at6 ns 2) (at6 ns 3) (min (at6 ns 0) 9) AEW):=z4.same rfl;generalize g3.marked.back (g3.marked.quiet.wr f 0 (A5 (at6 ns 1) (at6 ns 2) (at6 ns 3) (min (at6 ns 0) 9) AEW))=g4 at ta xf Rf;have b7:=(Br Rf).2.2.2.2.2;rw[c3]at b7;have c7:∃d,paE (call AC (n+3)) e g=.ret d g4/\J 4 d=pt f/\J 5 d=AI AT (at6 ns 4:Nat)/\J 6 d=.int .u32 (at6 ns 5:Nat)/\J 7 d=.bool IN:=by
      unfold paE;simp only[sT,sh,OF,reduceIte,gD,Da,s10,L,N,O,P,Z,i5,AJ,AP,Q,R,S,T,l4,l5,U,CU,v0,I,G,y,AV,A,Ai,Ac,z,cA0,p,BO,BN,xK,AM,AK,H,c5,s8,s11,ct,kb,Ar,d0,m4,m5,v5,s4,ck,ta];exact⟨_,rfl,by simp[AG,s4]⟩
     obtain⟨d,q1,q2,q3,q4,q5⟩:=c7;exact⟨d,g4,q1,xf,q2,q3,q4,q5,b7⟩
   ·have c5:iGt ((at6 ns 5:Nat):Int) 4294967295=IN:=Hm (by omega)
    refine a6 (λw=>h5 w.1.2.2) ?_;unfold paE;simp only[sT,sh,OF,reduceIte,gD,Da,s10,L,N,O,P,Z,i5,AJ,AP,Q,R,S,T,l4,l5,U,CU,v0,I,G,y,AV,A,Ai,Ac,z,cA0,p,BO,BN,xK,AM,AK,H,c5,D6,s4,w1];exact⟨_,rfl,by simp[AG,s4]⟩
  ·have H:iGt ((at6 ns 4:Nat):Int) 65536=IN:=Hm (by omega)
   refine a6 (λw=>X w.1.2.1) ?_;unfold paE;simp only[sT,sh,OF,reduceIte,gD,Da,s10,L,N,O,P,Z,i5,AJ,AP,Q,R,S,T,l4,U,CU,v0,I,G,y,AV,A,Ai,Ac,z,cA0,p,BO,BN,xK,AM,AK,H,D6,s4,w1];exact⟨_,rfl,by simp[AG,s4]⟩
theorem eC{n:Nat}{h:Hp}(g:h.Wf){p:Nat}{T:List Nat}(R:h.Row p 0 (T.map wv))(hT:AFD T){u:vz}{l:List Nat}(a6:h.AEs u (l.map bv))(hC:Zp u)(hb:∀x∈l,x<256)(hl:l.length<=900000):
  ∃h',h.Ext h'/\((∃ns,L8 T l ns/\call AC (n+4) 109 [pt p,u] h=.ok (okT ns) h')\/((¬ ∃ns,L8 T l ns)/\call AC (n+4) 109 [pt p,u] h=.ok noT h')):=by
 have A:=λ(F:AES) (e:Env)=>BU (F:=F) (e:=e) (n:=5) (t:=DT) g
 have q:=(Hp.Ext.refl g).push (.cells DT 5 0);have Z:(h.push (.cells DT 5 0)).Row h.next 0 (A5 0 0 0 0 AEW):=Hp.Row.alloc g Fm rfl;have nA:(h.push (.cells DT 5 0)).next=h.next+1:=rfl;generalize h.push (.cells DT 5 0)=hA at A q Z nA;obtain⟨i,X,a5⟩:=Zn (n:=n) q.wf (R.ext g q) hT (a6.ext g q) hC hb hl;have r:=q.trans X;have G:=Z.ext q.wf X;obtain⟨w1,w2,C,_,_⟩:=MG g r (wB _) G rfl (a:=0) (b:=0) (c:=0) (s:=0) (u:=AEW) rfl;rcases a5 with ⟨o,v,m,B,E⟩|⟨m,c,hc,B⟩
 ·have z:iNe 0 0=IS:=CE rfl
  have Vl:=E.vals.bl i;by_cases a1:o.length=60
  ·have I:iNe (o.length:Int) 60=IS:=CE (by omega)
   have f2:=λ(F:AES) (e:Env)=>BU (F:=F) (e:=e) (n:=6) (t:=PU) r.wf
   have y2:=(Hp.Ext.refl r.wf).push (.cells PU 6 0);have Y:(i.push (.cells PU 6 0)).Row i.next 0 ([0,0,0,0,0,0].map nv):=Hp.Row.alloc r.wf fu rfl;generalize i.push (.cells PU 6 0)=a7 at f2 y2 Y;have b1:∃k,Lo (call AC (n+3)) (Ay e0 0 [pt p,u]) h=paS (call AC (n+3)) k a7/\J 4 k=pt h.next/\J 8 k=v/\J 10 k=pt i.next/\J 11 k=AI AT ((0:Nat):Int)/\J 29 k=AI AT ((0:Nat):Int):=by
    unfold Lo;simp only[iN,wA,sT,sh,OF,reduceIte,gD,A,cA0,B,Az,A8,A9,AM,AK,z,Aa,Vl,I,f2];exact⟨_,rfl,by simp[AG]⟩
   obtain⟨k,O,p2,p3,p4,p5,p6⟩:=b1;obtain⟨b2,a8⟩:=Kn m;have a2:∀x∈o,x<256:=λx hx=>hb x (by rw[a8]at hx;exact xk hx)
   rcases kK (n:=n+2) g r y2 (wB h.next) (wB _) G E.vals a2 (by omega) Y p2 p3 p4 p5 p6 with ⟨d,a0,ns,a3,j,x2,a4,w,t4,t8,t10,t11⟩|⟨d,a0,j,w,D⟩
   ·obtain⟨g1,g2,g3,g4,g5⟩:=MZ 6 o 0 ns a3 a2 (wl _) w
    have a9:i.next≠h.next:=by have:=X.next;omega
    rcases uf (n:=n) g r x2 (wB _) a9 G E (by omega) g4 a4 g1 g5 t4 t8 t10 t11 with ⟨ho,hz,e3,K,W,D⟩|⟨b0,e3,K,W,D⟩
    ·refine⟨K,D.1,.inl ⟨ns,⟨o,a3,m,a1,w,ho,hz⟩,?_⟩⟩
     rw[Jp rfl,Ju,O,VH];simp only[BC,Aw,j,A6,BA,W];exact rc D
    ·refine⟨K,D.1,.inr ⟨?_,?_⟩⟩
     ·rintro⟨N,H,P,f,M,y,j4,j5⟩
      rw[m]at f;cases f;rw[w]at y;cases y;exact b0 ⟨j4,j5⟩
     ·rw[Jp rfl,Ju,O,VH]
      simp only[BC,Aw,j,A6,BA,W];exact Mb D
   ·refine⟨a0,D.1,.inr ⟨?_,?_⟩⟩
    ·rintro⟨N,H,P,f,M,y,j4,j5⟩
     rw[m]at f;cases f;rw[w]at y;cases y
    ·rw[Jp rfl,Ju,O,VH]
     simp only[BC,Aw,j,B7,Ce];exact Mb D
  ·have I:iNe (o.length:Int) 60=IN:=De (by omega)
   have L:∃d,Lo (call AC (n+3)) (Ay e0 0 [pt p,u]) h=.ret d (i.wr h.next 0 (A5 0 0 0 0 AEW))/\J 4 d=pt h.next/\J 5 d=AI AT 0/\J 6 d=.int .u32 0/\J 7 d=.bool IS:=by
    unfold Lo;simp only[iN,wA,sT,sh,OF,reduceIte,gD,A,cA0,B,Az,A8,A9,AM,AK,z,Aa,Vl,I,D6,AV,w1];exact⟨_,rfl,by simp[AG]⟩
   obtain⟨d,j,Q,S,U,V⟩:=L;refine⟨_,C,.inr ⟨?_,?_⟩⟩
   ·rintro⟨N,H,P,f,M,_⟩
    rw[m]at f;cases f;exact a1 M
   ·rw[Jp rfl,Ju,j]
    exact Mb (h:=h) ⟨C,Q,S,U,V,w2⟩
 ·have z:iNe c 0=IN:=De hc.1
  have L:∃d,Lo (call AC (n+3)) (Ay e0 0 [pt p,u]) h=.ret d (i.wr h.next 0 (A5 0 0 0 0 AEW))/\J 4 d=pt h.next/\J 5 d=AI AT 0/\J 6 d=.int .u32 0/\J 7 d=.bool IS:=by
   unfold Lo;simp only[iN,wA,sT,sh,OF,reduceIte,gD,A,cA0,B,Az,A8,A9,AM,AK,z,D6,AV,w1];exact⟨_,rfl,by simp[AG]⟩
  obtain⟨d,j,Q,S,U,V⟩:=L;refine⟨_,C,.inr ⟨?_,?_⟩⟩
  ·rintro⟨N,H,P,f,_⟩
   rw[m]at f;cases f
  ·rw[Jp rfl,Ju,j]
   exact Mb (h:=h) ⟨C,Q,S,U,V,w2⟩
structure Fx (S:Nat->Prop)(h h':Hp):Prop where
 next:h.next<=h'.next
 get:∀i,i<h.next->¬S i->h'.bl.get i=h.bl.get i
 wf:h'.Wf
 low:∀L,L<=h.low->L<=h.next->(∀b,S b->L<=b)->L<=h'.low
theorem Q5{h g:Hp}:(h.back g).low=min h.low g.low:=BV _ _
section
variable {S T:Nat->Prop}{h h' h1 h2:Hp}
theorem Fx.refl(a:h.Wf):Fx S h h:=⟨wB _,λ_ _ _=>rfl,a,λ_ h1 _ _=>h1⟩
theorem Fx.of(x:h.Ext h'):Fx S h h':=⟨x.next,λb a _=>x.get b a,x.wf,λc h1 h2 _=>by have:=x.low;omega⟩
theorem Fx.trans(a:Fx S h h1)(b:Fx S h1 h2):Fx S h h2:=⟨wy a.next b.next,λg e f=>by rw[b.get g (Nat.lt_of_lt_of_le e a.next) f,a.get g e f],b.wf,λc h1 h2 d=>b.low c (a.low c h1 h2 d) (wy h2 a.next) d⟩
theorem Fx.mono(a:Fx S h h')(c:∀i,S i->T i):Fx T h h':=⟨a.next,λi g j=>a.get i g λk=>j (c i k),a.wf,λd h1 h2 e=>a.low d h1 h2 λb f=>e b (c b f)⟩
theorem lQ(a:h.Wf)(c:h'.bl=h.bl)(b:h'.next=h.next):h'.Wf:=⟨by rw[b];exact a.big,by rw[b,c];exact a.has,by rw[b,c];exact a.fresh⟩
theorem Fx.same(a:Fx S h h1)(b:h2.bl=h1.bl)(c:h2.next=h1.next)(l:min h.low h1.low<=h2.low:=by first|exact Nat.le_of_eq Q5.symm|exact Nat.min_le_right _ _):Fx S h h2:=⟨by rw[c];exact a.next,λg e f=>by rw[b];exact a.get g e f,lQ a.wf b c,λd i j k=>by have:=a.low d i j k;omega⟩
theorem Fx.from(a:Fx S h1 h')(d:h1.bl=h.bl)(b:h1.next=h.next)(j:min h.low h.next<=h1.low:=by first|exact Nat.min_le_left _ _|exact Nat.min_le_right _ _):Fx S h h':=⟨by rw[<- b];exact a.next,λg e f=>by rw[<- d];exact a.get g (by rw[b];exact e) f,a.wf,λc k l i=>a.low c (by omega) (by omega) i⟩
theorem Fx.back(x:Fx S h.quiet h'):Fx S h (h.back h'):=⟨x.next,x.get,⟨x.wf.big,x.wf.has,x.wf.fresh⟩,λa h1 h2 c=>by
 have b:a<=h.quiet.next:=h2;have:=x.low a h2 b c;rw[Q5];omega⟩
theorem Fx.row(x:Fx S h h')(c:h.Wf){b a:Nat}{l:List vz}(r:h.Row b a l)(e:¬S b):h'.Row b a l:=by
 have:=r.lt c;obtain⟨d,f,g⟩:=r;exact⟨d,(x.get b this e).trans f,g⟩
theorem Fx.put(a:h.Wf){b:Nat}(d:b<h.next)(e:S b)(o:Blk):Fx S h (h.put b o):=⟨wB _,λk j g=>by
 rw[a.AE1 d];exact If λc=>g (by rw[c];exact e),a.put d o,λi h1 _ f=>by
 have:=f b e;have c:(h.put b o).low=min h.low b:=BV _ _;omega⟩
theorem Fx.wr(a:h.Wf){b d off:Nat}{l vs:List vz}(r:h.Row b d l)(e:off+vs.length<=l.length)(f:S b):Fx S h (h.wr b off vs):=by
 obtain⟨g,_,c,_⟩:=r.AFf e;rw[c];exact Fx.put a (r.lt a) f _
theorem sS{b f off bc:Nat}{l vs:List vz}{es:List Ent}{k:Nat}(a:h.Wf)(r:h.Row b f l)(g:off+vs.length<=l.length)(m:h.bl.get bc=.map es k):(h.wr b off vs).bl.get bc=.map es k:=by
 obtain⟨d,_,e,_⟩:=r.AFf g;rw[e,a.AE1 (r.lt a),If]
 ·exact m
 ·rintro rfl
  obtain⟨d,c,_⟩:=r;rw[m]at c;cases c
end
def Hp.VS(h:Hp)(S:Nat->Prop)(v:vz)(xs:List vz):Prop:=(v=AEW/\xs=[])\/∃b c d e a,v=.slice (BY ⟨b,c,By⟩) xs.length d/\xs.length<=d/\h.Row b e a/\c+xs.length<=a.length/\(a.drop c).take xs.length=xs/\S b
section
variable {h h':Hp}{S S':Nat->Prop}{v:vz}{xs:List vz}
theorem Hp.VS.vals(o:h.VS S v xs):h.AEs v xs:=by
 rcases o with a|⟨c,j,d,e,b,a,k,f,g,i,_⟩
 ·exact .inl a
 ·exact .inr ⟨c,j,d,e,b,a,f,g,i⟩
theorem Hp.VS.keep(o:h.VS S v xs)(hk:∀b c a,S b->h.Row b c a->h'.Row b c a):h'.VS S v xs:=by
 rcases o with d|⟨b,l,f,c,a,d,g,i,j,k,e⟩
 ·exact .inl d
 ·exact .inr ⟨b,l,f,c,a,d,g,hk _ _ _ e i,j,k,e⟩
theorem Hp.VS.same(o:h.VS S v xs)(a:h'.bl=h.bl):h'.VS S v xs:=o.keep λ_ _ _ _ b=>b.same a
theorem Hp.VS.mono(o:h.VS S v xs)(l:∀b,S b->S' b):h.VS S' v xs:=by
 rcases o with a|⟨b,m,d,e,c,a,f,g,i,j,k⟩
 ·exact .inl a
 ·exact .inr ⟨b,m,d,e,c,a,f,g,i,j,l _ k⟩
theorem Hp.VS.one(o:h.VS S v xs):cellsOf v=[v]/\oneCell v=IN/\known v=IN:=by
 rcases o with ⟨rfl,_⟩|⟨b,e,c,d,a,rfl,_⟩<;>exact⟨rfl,rfl,rfl⟩
theorem Hp.VS.fx(o:h.VS S v xs)(a:h.Wf){T:Nat->Prop}(x:Fx T h h')(d:∀b,S b->¬T b):h'.VS S v xs:=o.keep λb _ _ c e=>x.row a e (d b c)
theorem QT{l:List vz}(h:∀x∈l,oneCell x=IN):Bd l=IN:=by
 induction l with
 |nil=>rfl
 |cons a l c=>
  show(bif oneCell a then Bd l else IS)=IN;rw[h a wJ,c λx b=>h x (wI _ b)];rfl
end
def Hp.BS(h:Hp)(S:Nat->Prop)(v:vz)(xs:List vz):Prop:=(v=AEW/\xs=[])\/∃b d e c a,v=.slice (BY ⟨b,d,By⟩) xs.length e/\xs.length<=e/\h.Row b c a/\d+xs.length<=a.length/\(a.drop d).take xs.length=xs/\S b/\(c=0\/c=6)
section
variable {h h':Hp}{S S':Nat->Prop}{v:vz}{xs:List vz}
theorem Hp.BS.vs(o:h.BS S v xs):h.VS S v xs:=by
 rcases o with a|⟨c,l,d,e,b,a,f,g,i,j,k,_⟩
 ·exact .inl a
 ·exact .inr ⟨c,l,d,e,b,a,f,g,i,j,k⟩
theorem Hp.BS.keep(o:h.BS S v xs)(hk:∀b a c,S b->(a=0\/a=6)->h.Row b a c->h'.Row b a c):h'.BS S v xs:=by
 rcases o with d|⟨b,m,g,a,c,d,i,j,k,l,e,f⟩
 ·exact .inl d
 ·exact .inr ⟨b,m,g,a,c,d,i,hk _ _ _ e f j,k,l,e,f⟩
theorem Hp.BS.ext(o:h.BS S v xs)(a:h.Wf)(x:h.Ext h'):h'.BS S v xs:=o.keep λ_ _ _ _ _ b=>b.ext a x
theorem Hp.BS.same(o:h.BS S v xs)(a:h'.bl=h.bl):h'.BS S v xs:=o.keep λ_ _ _ _ _ b=>b.same a
theorem Hp.BS.mono(o:h.BS S v xs)(m:∀b,S b->S' b):h.BS S' v xs:=by
 rcases o with a|⟨b,n,d,e,c,a,f,g,i,j,k,l⟩
 ·exact .inl a
 ·exact .inr ⟨b,n,d,e,c,a,f,g,i,j,m _ k,l⟩
end
def DR(l:List Nat):vz:=.agg ⟨l.map bv⟩
def AEg:Nat->List (Nat×List Nat)->List Ent
 |_,[]=>[]
 |i,a::b=>⟨AI AT (a.1:Int),DR a.2,i⟩::AEg (i+1) b
def sec(M:List Nat)(i:Nat):List Nat:=(M.drop (64*i)).take 64
theorem Ke{M:List Nat}{n i:Nat}(a:M.length=64*n)(hi:i<n):(sec M i).length=64:=by
 unfold sec;rw[wu,xT];omega
theorem ry{M:List Nat}(a:∀x∈M,x<256)(i:Nat):∀x∈sec M i,x<256:=λx b=>a x (yx (xk b))
def dkL(bm bc n:Nat)(arm:Int)(dn:Bool):List vz:=[.slice (BY ⟨bm,0,By⟩) n n,.map (BY bc),AI AT arm,.bool dn]
structure Dk (h:Hp)(bd bm bc n:Nat)(M:List Nat)(c0:Nat)(cs:List (Nat×List Nat))(arm:Int)(dn:Bool):Prop where
 disk:h.Row bd 0 (dkL bm bc n arm dn)
 med:h.Row bm 0 (M.map bv)
 len:M.length=64*n
 byt:∀x∈M,x<256
 map:h.bl.get bc=.map (AEg c0 cs) (c0+cs.length)
 big:256<=bd/\256<=bm/\256<=bc
 n1:1<=n/\n<=65536
section
variable {F:AES}{e:Env}{h h':Hp}{S:Nat->Prop}{bd bm bc n c0:Nat}{M:List Nat}{cs:List (Nat×List Nat)}{arm:Int}{dn:Bool}
theorem jI{h:Hp}{b b' g i:Nat}{a c:List vz}(r:h.Row b g a)(l:h.Row b' i c)(k:a.length≠c.length):b≠b':=λj=>by
 subst j;obtain⟨_,e,_⟩:=r;obtain⟨_,d,_⟩:=l;rw[e]at d;injection d with _ f _
 exact k f
theorem Dk.bdm(d:Dk h bd bm bc n M c0 cs arm dn):bd≠bm:=jI d.disk d.med (by
 rw[wF,d.len];show 4≠_;have:=d.n1;omega)
theorem I6{h:Hp}{b bc d k:Nat}{a:List vz}{es:List Ent}(r:h.Row b d a)(m:h.bl.get bc=.map es k):b≠bc:=λe=>by
 subst e;obtain⟨_,c,_⟩:=r;rw[c]at m;cases m
theorem Dk.bdc(d:Dk h bd bm bc n M c0 cs arm dn):bd≠bc:=I6 d.disk d.map
theorem Dk.bmc(d:Dk h bd bm bc n M c0 cs arm dn):bm≠bc:=I6 d.med d.map
theorem Dk.lt(d:Dk h bd bm bc n M c0 cs arm dn)(a:h.Wf):bd<h.next/\bm<h.next/\bc<h.next:=⟨d.disk.lt a,d.med.lt a,by
 rcases wh bc h.next with b|b
 ·exact b
 ·have:=a.fresh bc b
  rw[d.map]at this;cases this⟩
theorem Dk.same(d:Dk h bd bm bc n M c0 cs arm dn)(a:h'.bl=h.bl):Dk h' bd bm bc n M c0 cs arm dn:=⟨d.disk.same a,d.med.same a,d.len,d.byt,by rw[a];exact d.map,d.big,d.n1⟩
theorem Dk.fr(d:Dk h bd bm bc n M c0 cs arm dn)(a:h.Wf)(x:Fx S h h')(b:¬S bd)(h2:¬S bm)(c:¬S bc):Dk h' bd bm bc n M c0 cs arm dn:=⟨x.row a d.disk b,x.row a d.med h2,d.len,d.byt,by rw[x.get bc (d.lt a).2.2 c];exact d.map,d.big,d.n1⟩
theorem Dk.ext(d:Dk h bd bm bc n M c0 cs arm dn)(a:h.Wf)(x:h.Ext h'):Dk h' bd bm bc n M c0 cs arm dn:=d.fr (S:=λ_=>False) a (.of x) (λh=>h) (λh=>h) (λh=>h)
theorem Cb(R:h.Row bd 0 (dkL bm bc n arm dn)):AEV ⟨bd,0,By⟩ h=.ok (.slice (BY ⟨bm,0,By⟩) n n) h/\AEV ⟨bd,1,By⟩ h=.ok (.map (BY bc)) h/\AEV ⟨bd,2,By⟩ h=.ok (AI AT arm) h/\AEV ⟨bd,3,By⟩ h=.ok (.bool dn) h:=
 ⟨R.AEV (off:=0) (by show 0<4;omega),R.AEV (off:=1) (by show 1<4;omega),R.AEV (off:=2) (by show 2<4;omega),R.AEV (off:=3) (by show 3<4;omega)⟩
theorem Eo{k:TK}{t:Nat}{a:Addr}{g:O}(hk:k=.ptr t)(b:g e=.pointer (BY a)):oEq k IS g (W (.pointer By)) F e h=.ok (.bool IS) h:=by
 subst hk;show(match eqV (.ptr t) (g e) (.pointer By)with|some c=>okB (IS != c) h|none=>.no)=_;rw[b];exact Fd
theorem jL{k:TK}{a b r:Nat}{g:O}(hk:k=.map a b)(c:g e=.map (BY r)):oEq k IS g (W (.map By)) F e h=.ok (.bool IS) h:=by
 subst hk;show(match eqV (.map a b) (g e) (.map By)with|some r=>okB (IS != r) h|none=>.no)=_;rw[c];exact Fd
theorem fR:VZ.k=.ptr 69:=by kernel_rfl
theorem vE:lJ.k=.map 3 82:=by kernel_rfl
theorem Ix{m:Nat}(d:Dk h bd bm bc n M c0 cs arm dn):call AC (m+1) 26 [pt bd] h=.ok (.bool IS) h:=by
 obtain⟨_,f,_,_⟩:=Cb d.disk;have b:∀e:Env,J 0 e=pt bd->oEq VZ.k IS (J 0) (W (.pointer By)) (call AC m) e h=.ok (.bool IS) h:=λe a=>Eo fR a
 have c:∀e:Env,J 9 e=.map (BY bc)->oEq lJ.k IS (J 9) (W (.map By)) (call AC m) e h=.ok (.bool IS) h:=λe a=>jL vE a
 rw[nh rfl];unfold d26;simp only[iN,wA,sT,sh,OF,reduceIte,gD,b,An,AX,AH,AN,AJ,AP,f,c,lV0]
theorem Ic{m:Nat}(d:Dk h bd bm bc n M c0 cs arm IS){i:Nat}(hi:i<n):call AC (m+2) 130 [pt bd,AI AT (i:Int)] h=.ok (AI AT 0) h:=by
 obtain⟨e,_,_,f⟩:=Cb d.disk;have c:=Ix (m:=m) d;have a:iLt (i:Int) 0=IS:=GR (by omega);have b:iGe (i:Int) (n:Int)=IS:=E0 (by omega);rw[ge rfl];unfold po;simp only[iN,wA,sT,sh,OF,reduceIte,gD,cA0,c,An,AX,AH,AN,AJ,AP,e,f,Aa,EK,AM,AK,a,b,lV0]
theorem kZ{m:Nat}(d:Dk h bd bm bc n M c0 cs arm dn):call AC (m+2) 67 [pt bd] h=.ok (AI AT (n:Int)) h:=by
 obtain⟨b,_,_,c⟩:=Cb d.disk;have a:=Ix (m:=m) d;rw[oP rfl];unfold d67;simp only[iN,wA,sT,sh,OF,reduceIte,gD,cA0,a,An,AX,AH,AN,AJ,AP,b,c,Aa,EK,lV0]
theorem MQ{m:Nat}(d:Dk h bd bm bc n M c0 cs arm dn):call AC (m+2) 10 [pt bd] h=.ok (.bool dn) h:=by
 obtain⟨b,_,_,c⟩:=Cb d.disk;have a:=Ix (m:=m) d;rw[nW rfl];unfold d10;simp only[iN,wA,sT,sh,OF,reduceIte,gD,cA0,a,BO,BN,xP,An,AX,AH,AN,AJ,AP,b,c,lV0]
theorem cu{x y:O}{k j:we}{a b:Int}(d:x e=.int k a)(f:y e=.int j b):VG x y F e h=.ok (.int k (max a b)) h:=by
 show IK IS (x e) (y e) h=_;rw[d,f];show(bif iLt a b then R.ok (.int k b) h else .ok (.int k a) h)=_;rw[DG];by_cases c:a<b
 ·rw[decide_eq_true c,Int.max_eq_right (by omega)];rfl
 ·rw[decide_eq_false c,Int.max_eq_left (by omega)];rfl
def AFj(a:Int):Int:=max (a - 1) (-1)
def Gk(a:Int)(k:Nat):Prop:=a<=1099511627776/\-1<=a/\(a<0\/(k:Int)<=a)
theorem Gk.one{a:Int}{k:Nat}(h:Gk a (k+1)):Gk (AFj a) k/\a≠0:=by
 unfold Gk AFj at *;omega
theorem Xo{m:Nat}(a:h.Wf)(d:Dk h bd bm bc n M c0 cs arm IS){k:Nat}(c:Gk arm (k+1)):
  ∃h',call AC (m+1) 144 [pt bd] h=.ok (AI AT 0) h'/\Fx (λi=>i=bd) h h'/\Dk h' bd bm bc n M c0 cs (AFj arm) IS:=by
 obtain⟨_,_,o,_⟩:=Cb d.disk;obtain⟨_,j⟩:=c.one;have f:iEq arm 0=IS:=B8 j;have b:=d.disk.AEa (n:=1) (off:=2) a d.big.1 (v:=AI AT (AFj arm)) rfl (by show 2+1<=4;omega) rfl;have fr:=Fx.wr (S:=λi=>i=bd) a d.disk (off:=2) (vs:=[AI AT (AFj arm)]) (by show 2+1<=4;omega) rfl;have q:=d.disk.AEf a (off:=2) (vs:=[AI AT (AFj arm)]) (by show 2+1<=4;omega);have l:zV.wrap (xO arm 1)=arm - 1:=by
  obtain⟨r,s,t⟩:=c;show zV.wrap (arm - 1)=_;rcases Int.lt_or_le arm 1 with w|u
  ·have:arm= -1\/arm=0:=by omega
   rcases this with rfl|rfl<;>rfl
  ·exact fe (by omega) (by omega)
 have p:∀e:Env,J 19 e=AI AT (arm - 1)->VG (J 19) (W (AI AT (-1))) (call AC m) e h=.ok (AI AT (AFj arm)) h:=λe g=>cu g rfl
 have b:AEa 1 (.pointer (BY ⟨bd,2,By⟩)) (AI AT (AFj arm)) h=.ok AEU (h.wr bd 2 [AI AT (AFj arm)]):=b;refine⟨_,?_,fr,⟨q,fr.row a d.med (λh=>d.bdm h.symm),d.len,d.byt,sS a d.disk (by show 2+1<=4;omega) d.map,d.big,d.n1⟩⟩;rw[WP rfl];unfold iI;simp only[iN,wA,sT,sh,OF,reduceIte,An,AX,AH,AN,AJ,AP,wC,o,AM,AK,f,B6,Co,l,p,AV,b,lV0]
end
section
variable {F:AES}{e:Env}{h h':Hp}{S:Nat->Prop}{bd bm bc n c0:Nat}{M:List Nat}{cs:List (Nat×List Nat)}{arm:Int}{dn:Bool}
theorem ig{n:Nat}(c:n<=9223372036854775807):Gt ⟨IS,[.i .i64]⟩ (AI AT (n:Int))=IN:=by
 show(match (match F9 .i64 .i64 with|true=>wY n (BH .i64)|false=>IS)with|true=>IN|false=>IS)=IN;have a:F9 .i64 .i64=IN:=rfl;have b:wY n (BH .i64)=IN:=Am.2 c;simp only[a,b]
theorem tP{n m:Nat}(b:m<=9223372036854775807):ID ⟨IS,[.i .i64]⟩ (AI AT (n:Int)) (AI AT (m:Int))=BY (decide (n=m)):=by
 unfold ID;rw[ig b];show(match (match F9 .i64 .i64 with|true=>BY (iEq (n:Int) (m:Int))|false=>By)with|some IN=>BY IN|some IS=>BY IS|none=>By)=_;have a:F9 .i64 .i64=IN:=rfl;simp only[a,Dh];by_cases h:n=m
 ·subst h;simp
 ·have:((n:Int) == (m:Int))=IS:=by rw[beq_eq_false_iff_ne];omega
  rw[this,decide_eq_false h]
theorem TP{k:Nat}{v:vz}:∀(cs:List (Nat×List Nat)) (i:Nat),(∀x∈cs,x.1≠k/\x.1<=65536)->OL ⟨IS,[.i .i64]⟩ (AI AT (k:Int)) v (AEg i cs)=BY By
 |[],_,_=>rfl
 |x::a,i,b=>by
  obtain⟨c,g⟩:=b x wJ;show(match ID ⟨IS,[.i .i64]⟩ (AI AT (k:Int)) (AI AT (x.1:Int))with|some IN=>BY (BY ((⟨AI AT (k:Int),v,i⟩:Ent)::AEg (i+1) a))|some IS=>(match OL ⟨IS,[.i .i64]⟩ (AI AT (k:Int)) v (AEg (i+1) a)with|some (BY e)=>BY (BY ((⟨AI AT (x.1:Int),DR x.2,i⟩:Ent)::e))|some By=>BY By|none=>By)|none=>By)=BY By;rw[tP (by omega),decide_eq_false (λh=>c h.symm)];simp only;rw[TP a (i+1) λf d=>b f (wI _ d)]
theorem Vt{k:Nat}{l:List Nat}:∀(cs:List (Nat×List Nat)) (i:Nat),YR ⟨AI AT (k:Int),DR l,i+cs.length⟩ (AEg i cs)=AEg i (cs++[(k,l)])
 |[],i=>rfl
 |x::cs,i=>by
  show(⟨AI AT (x.1:Int),DR x.2,i⟩:Ent)::YR ⟨AI AT (k:Int),DR l,i+(cs.length+1)⟩ (AEg (i+1) cs)=_::AEg (i+1) (cs++[(k,l)]);rw[<- Vt cs (i+1),ADo,ACa 1]
theorem YN:Km.zero=(wR 64 0).map bv:=by
 have:Km.zero=BX ty5.zero 64:=by kernel_rfl
 rw[this,Mc]
theorem YP:Bt .mt 0 ((wR 64 0).map bv)=BY Jk:=by kernel_rfl
theorem jM(R:h.Row bm 0 (M.map bv))(a:M.length=64*n){i:Nat}(hi:i<n):loadN 64 ⟨bm,0+i*64,By⟩ h=.ok (DR (sec M i)) h:=by
 rw[R.loadN (by rw[wF];omega),<- ADa,<- ABX,wC,yR i 64];rfl
theorem cj(d:Dk h bd bm bc n M c0 [] arm dn){z:vz}{x y:O}{i:Nat}(b:x e=.map (BY bc))(c:y e=AI AT (i:Int))(hi:i<n):Fi ⟨IS,[.i .i64]⟩ z IN x y F e h=.ok (.tuple ⟨[z,.bool IS]⟩) h:=by
 have:=d.n1;show GT ⟨IS,[.i .i64]⟩ z (x e) (y e) IN h=_;rw[b,c];have a:Bi h bc=.ok [] (c0+0):=by unfold Bi;rw[d.map];rfl
 unfold GT;rw[ig (by omega)];simp only[a,JI];unfold El;simp only[BR]
theorem Yc{g:O}{r:Nat}(b:g e=pt r):GW 64 1 g By By By F e h=.ok (.slice (BY ⟨r,0,By⟩) 64 64) h:=by
 show(match EH (g e)with|.ok a=>Dr e 64 64 By By By λd c f=>Bq (BY a) 1 d c f h|.no=>.no)=_;rw[b];rfl
theorem Xx{m:Nat}(g:h.Wf)(d:Dk h bd bm bc n M c0 [] arm IS){i:Nat}(hi:i<n):
  ∃h' v,call AC (m+3) 106 [pt bd,AI AT (i:Int)] h=.ok (.tuple ⟨[v,AI AT 0]⟩) h'/\h.Ext h'/\Mk h' h.next v (sec M i)/\h'.next=h.next+1/\h'.mark=h.mark/\h.low=h.low:=by
 have Q:=Ic (m:=m) d hi;obtain⟨y,z,_,_⟩:=Cb d.disk;have K:iNe 0 0=IS:=CE rfl;have R:∀e:Env,J 19 e=.map (BY bc)->J 1 e=AI AT (i:Int)->Fi ⟨IS,[.i .i64]⟩ (.agg ⟨Km.zero⟩) IN (J 19) (J 1) (call AC (m+2)) e h=.ok (.tuple ⟨[.agg ⟨Km.zero⟩,.bool IS]⟩) h:=λe c a=>cj d c a hi
 have s:=λ(F:AES) (e:Env)=>BU (F:=F) (e:=e) g (n:=64) (t:=Jk)
 have f:=Hp.Row.alloc g YP (by rw[wF,yI]);have l:h.Ext (h.push (.cells Jk 64 0)):=(Hp.Ext.refl g).push _;have D:(h.push (.cells Jk 64 0)).next=h.next+1:=rfl;have A:(h.push (.cells Jk 64 0)).mark=h.mark:=rfl;generalize h.push (.cells Jk 64 0)=c at s f l D A;have O:((wR 64 0).map bv).length=64:=by rw[wF,yI]
 have u:=g.big;have H:AEa 64 (pt h.next) (.agg ⟨Km.zero⟩) c=.ok AEU (c.wr h.next 0 ((wR 64 0).map bv)):=by
  rw[YN];exact f.AEa (n:=64) (off:=0) l.wf u (v:=.agg ⟨(wR 64 0).map bv⟩) O (by show 0+((wR 64 0).map bv).length<=_;omega) (C8 _)
 have j:=f.AEy l (wB _) (off:=0) (vs:=(wR 64 0).map bv) (by omega);have b:=f.AEf l.wf (off:=0) (vs:=(wR 64 0).map bv) (by omega);rw[FF rfl]at b;have E:(c.wr h.next 0 ((wR 64 0).map bv)).next=h.next+1:=(f.AE7 (by omega)).trans D;have B:(c.wr h.next 0 ((wR 64 0).map bv)).mark=h.mark:=by
  obtain⟨_,_,e,_⟩:=f.AFf (off:=0) (vs:=(wR 64 0).map bv) (by omega);rw[e];exact A
 generalize c.wr h.next 0 ((wR 64 0).map bv)=a at H j b E B;have k:=d.ext g j;obtain⟨y,_,_,_⟩:=Cb k.disk;have P:AFM 64 (.slice (BY ⟨bm,0,By⟩) n n) (AI AT (i:Int)) a=.ok (.pointer (BY ⟨bm,0+i * 64,By⟩)) a:=DB hi;have q:=jM k.med k.len hi;have x:=Ke k.len hi;have N:((sec M i).map bv).length=64:=by rw[wF,x]
 have r:AEa 64 (pt h.next) (DR (sec M i)) a=.ok AEU (a.wr h.next 0 ((sec M i).map bv)):=b.AEa (n:=64) (off:=0) j.wf u (v:=DR (sec M i)) N (by show 0+((sec M i).map bv).length<=_;omega) (C8 _);have I:=b.AEy j (wB _) (off:=0) (vs:=(sec M i).map bv) (by omega);have o:=b.AEf j.wf (off:=0) (vs:=(sec M i).map bv) (by omega);rw[FF (by omega)]at o;have G:(a.wr h.next 0 ((sec M i).map bv)).next=h.next+1:=(b.AE7 (by omega)).trans E;have C:(a.wr h.next 0 ((sec M i).map bv)).mark=h.mark:=by
  obtain⟨_,_,e,_⟩:=b.AFf (off:=0) (vs:=(sec M i).map bv) (by omega);rw[e];exact B
 generalize a.wr h.next 0 ((sec M i).map bv)=p at r I o G C;have w:∀e:Env,J 7 e=pt h.next->GW 64 1 (J 7) By By By (call AC (m+2)) e p=.ok (.slice (BY ⟨h.next,0,By⟩) 64 64) p:=λe L=>Yc L
 refine⟨p,.slice (BY ⟨h.next,0,By⟩) 64 64,?_,I,⟨h.next,0,by rw[x],.inl rfl,o,wB _⟩,G,C,rfl⟩;obtain⟨_,z,_,_⟩:=Cb d.disk;rw[gS rfl];unfold pO;simp only[iN,wA,sT,sh,OF,reduceIte,cA0,Q,AM,AK,K,An,AX,AH,AN,AJ,AP,wC,z,R,Az,A8,A9,s,AV,H,BO,BN,xP,y,A1,P,Ai,Ac,q,r,w,A7,C0];simp only[wC]at q;simp only[q,sT,sh,OF,reduceIte,AV,r,w,A7,C0]
theorem sP(a:h.Wf)(d:Dk h bd bm bc n M c0 cs arm dn){i:Nat}(hi:i<n)(f:∀x∈cs,x.1≠i/\x.1<n){l:List Nat}{g1 g2 g3:O}(j:g1 e=.map (BY bc))(h2:g2 e=AI AT (i:Int))(k:g3 e=DR l):
  Fj ⟨IS,[.i .i64]⟩ g1 g2 g3 F e h=.ok AEU (h.put bc (.map (AEg c0 (cs++[(i,l)])) (wQ (c0+cs.length))))/\Fx (λb=>b=bc) h (h.put bc (.map (AEg c0 (cs++[(i,l)])) (wQ (c0+cs.length))))/\Dk (h.put bc (.map (AEg c0 (cs++[(i,l)])) (wQ (c0+cs.length)))) bd bm bc n M c0 (cs++[(i,l)]) arm dn:=by
 have o:=d.n1;have c:=(d.lt a).2.2;have m:Bi h bc=.ok (AEg c0 cs) (c0+cs.length):=by unfold Bi;rw[d.map];rfl
 have fx:Fx (λb=>b=bc) h (h.put bc (.map (AEg c0 (cs++[(i,l)])) (wQ (c0+cs.length)))):=Fx.put (S:=λb=>b=bc) a c rfl _;refine⟨?_,fx,⟨fx.row a d.disk d.bdc,fx.row a d.med d.bmc,d.len,d.byt,?_,d.big,d.n1⟩⟩
 ·show AEi (g2 e) (λkey=>AEi (g3 e) λv=>Mh ⟨IS,[.i .i64]⟩ (g1 e) key v h)=_
  rw[BR,BR,j,h2,k];unfold Mh;rw[ig (by omega)];simp only[m,TP cs c0 λx g=>⟨(f x g).1,by have:=(f x g).2;omega⟩,Vt];rw[EE a d.big.2.2 c];rfl
 ·rw[a.AE1 c,IT rfl,wD];rfl
theorem mQ{g:O}{a:Addr}{c:Nat}(b:g e=.slice (BY a) 64 c):Si 64 g F e h=.ok (.pointer (BY a)) h:=by
 show(match g e with|.slice (BY a) d _=>bif wY 64 d then R.ok (.pointer (BY a)) h else .no|_=>.no)=_;rw[b];rfl
theorem Tt{m:Nat}(s:h.Wf)(d:Dk h bd bm bc n M c0 cs arm IS){k:Nat}(Q:Gk arm (k+1)){i:Nat}(hi:i<n)(R:∀x∈cs,x.1≠i/\x.1<n){u:vz}{l:List Nat}(q:h.VS (λb=>b≠bd) u (l.map bv))(p:l.length=64):
  ∃h',call AC (m+3) 120 [pt bd,AI AT (i:Int),u] h=.ok (AI AT 0) h'/\Fx (λb=>b=bd\/b=bc) h h'/\Dk h' bd bm bc n M c0 (cs++[(i,l)]) (AFj arm) IS:=by
 have U:=Ic (m:=m) d hi;have r:=q.vals.bl h;rw[p]at r;obtain⟨a,V,o,N⟩:=Xo (m:=m+1) s d Q;have H:=q.fx s o (λb a h2=>a h2);have K:iNe 0 0=IS:=CE rfl;have L:iNe ((64:Nat):Int) 64=IS:=CE rfl;rcases H with ⟨_,T⟩|⟨b,C,a0,P,D,B,_,E,A,z,_⟩
 ·have:=congrArg zo T
  rw[wF,p]at this;cases this
 rw[wF,p]at B A z;have t:=N.same (h':=a.marked) rfl;obtain⟨_,X,_,_⟩:=Cb t.disk;have G:a.marked.Row b P D:=E.same rfl;have Y:loadN 64 ⟨b,C,By⟩ a.marked=.ok (DR l) a.marked:=by rw[G.loadN A,z];rfl
 have I:∀(F:AES) (e:Env),J 2 e=u->Si 64 (J 2) F e a.marked=.ok (.pointer (BY ⟨b,C,By⟩)) a.marked:=λF e S=>mQ (S.trans B)
 have j:=λ(F:AES) (e:Env) (g1 g2 g3:O) (c:g1 e=.map (BY bc)) (f:g2 e=AI AT (i:Int)) (g:g3 e=DR l)=>sP (F:=F) o.wf.marked.quiet (t.same (h':=a.marked.quiet) rfl) hi R c f g
 obtain⟨_,y,w⟩:=j (call AC m) e0 (W (.map (BY bc))) (W (AI AT (i:Int))) (W (DR l)) rfl rfl rfl;have j:=λF e g1 g2 g3 c f g=>(j F e g1 g2 g3 c f g).1
 generalize a.marked.quiet.put bc (.map (AEg c0 (cs++[(i,l)])) (wQ (c0+cs.length)))=h2 at j y w;have Z:∀(F:AES) (e:Env),J 26 e=.map (BY bc)->J 1 e=AI AT (i:Int)->J 30 e=DR l->AZ .free (Fj ⟨IS,[.i .i64]⟩ (J 26) (J 1) (J 30)) F e a.marked=.ok AEU (a.marked.back h2):=λF e c f g=>BE (j F e _ _ _ c f g)
 refine⟨a.marked.back h2,?_,?_,w.same rfl⟩
 ·rw[WK rfl]
  unfold iD;simp only[iN,wA,sT,sh,OF,reduceIte,cA0,U,AM,AK,K,Aa,r,L,V,Ar,An,AX,AH,AN,AJ,AP,wC,X,I,Ai,Ac,Y,Z,lV0]
 ·exact(o.mono λi h=>.inl h).trans (((y.mono λi h=>.inr h).from (h:=a.marked) rfl rfl).same (h2:=a.marked.back h2) rfl rfl |>.from (h:=a) rfl rfl)
theorem eS:∀n:Nat,BX Km.zero n=(wR (64*n) 0).map bv
 |0=>rfl
 |n+1=>by
  show Km.zero++BX Km.zero n=_;rw[eS n,YN,<- w9,List.replicate_append_replicate]
  congr 2;omega
theorem sd:lK.zero=[.slice By 0 0,.map By,AI AT 0,.bool IS]:=by kernel_rfl
theorem iU{m:Nat}(f:h.Wf)(w:1<=n/\n<=65536):
  ∃h' bd bm bc,call AC (m+1) 25 [AI AT (n:Int)] h=.ok (.tuple ⟨[pt bd,AI AT 0]⟩) h'/\h.Ext h'/\Dk h' bd bm bc n (wR (64*n) 0) 0 [] (-1) IS/\h.next<=bd/\h.next<=bm/\h.next<=bc:=by
 have A:=f.big;have s:iLt (n:Int) 1=IS:=GR (by omega);have t:iGt (n:Int) 65536=IS:=GQ (by omega);have mk:∀(F:AES) (e:Env),J 0 e=AI AT (n:Int)->G0 64 Km.zero (J 0) (J 0) F e h=.ok (.slice (BY ⟨h.next,0,By⟩) n n) (h.AER 0 ((wR (64*n) 0).map bv)):=λF e k=>by
  show SY 64 Km.zero (Dj (J 0 e)) (Dj (J 0 e)) h=_;rw[k,DM];unfold SY;simp only;have g:wY n n=IN:=Am.2 (wB _);have i:wY (xW (wQ n) (wQ 64)) most=IN:=Am.2 (by show(n+1)*65<=1099511627776;omega);rw[g,i,eS];simp only[cond_true];rw[Cw f];rfl
 have c:=(Hp.Ext.refl f).AER 0 ((wR (64 * n) 0).map bv);have p:=Hp.Row.new f 0 ((wR (64 * n) 0).map bv);have y:(h.AER 0 ((wR (64 * n) 0).map bv)).next=h.next+1:=rfl;generalize h.AER 0 ((wR (64 * n) 0).map bv)=a at mk c p y;have mp:∀(F:AES) (e:Env),ZM F e a=.ok (.map (BY a.next)) (a.push (.map [] 0)):=λF e=>by
  unfold ZM;rw[Cv c.wf]
 have l:a.Ext (a.push (.map [] 0)):=(Hp.Ext.refl c.wf).push _;have o:(a.push (.map [] 0)).bl.get a.next=.map [] 0:=by rw[c.wf.AEr,IT rfl]
 have z:(a.push (.map [] 0)).next=a.next+1:=rfl;generalize a.push (.map [] 0)=b at mp l o z;have d:=c.trans l;have bl:∀(F:AES) (e:Env),J 11 e=.slice (BY ⟨h.next,0,By⟩) n n->J 12 e=.map (BY a.next)->BW lK.zero [(0,1,J 11),(1,1,J 12),(2,1,W (AI AT (-1)))] F e b=.ok (.agg ⟨dkL h.next a.next n (-1) IS⟩) b:=λF e g i=>by
  rw[Cx,sd,A3 (hk:=by rw[g];rfl),g,A3 (hk:=by rw[i];rfl),i,A3];simp only[show cellsOf (.slice (BY ⟨h.next,0,By⟩) n n)=[.slice (BY ⟨h.next,0,By⟩) n n]from rfl,show cellsOf (.map (BY a.next))=[.map (BY a.next)]from rfl,Gw,Cr,xM,wK,xD,over,AAw,AAZ,zK,xI,yS,wA,yn,if_true,Bw,reduceIte];rfl
 have r:∀(F:AES) (e:Env),J 13 e=.agg ⟨dkL h.next a.next n (-1) IS⟩->CT (J 13) F e b=.ok (pt b.next) (b.AER 0 (dkL h.next a.next n (-1) IS)):=λF e k=>by
  rw[EQ,k,EO d.wf];rfl
 have j:=(Hp.Ext.refl d.wf).AER 0 (dkL h.next a.next n (-1) IS);have q:=Hp.Row.new d.wf 0 (dkL h.next a.next n (-1) IS);generalize b.AER 0 (dkL h.next a.next n (-1) IS)=u at r j q;refine⟨u,b.next,h.next,a.next,?_,d.trans j,⟨q,(p.ext c.wf l).ext d.wf j,yI,λB x=>by rw[zb x];decide,?_,⟨by omega,by omega,by omega⟩,w⟩,by omega,wB _,by omega⟩
 ·rw[ng rfl]
  unfold d25;simp only[iN,wA,sT,sh,OF,reduceIte,gD,AM,AK,s,t,mk,mp,bl,r,A7,C0]
 ·rw[j.get _ (by omega),o];rfl
end
theorem VT.ext:∀(a b:VT),(∀j,a.has j↔b.has j)->(∀j,a.get j=b.get j)->a=b
 |.mt,.mt,_,_=>rfl
 |.mt,.nd v f g,c,_=>by
  have:=(c 0).2 (by unfold VT.has;trivial);unfold VT.has at this;exact this.elim
 |.nd v f g,.mt,c,_=>by
  have:=(c 0).1 (by unfold VT.has;trivial);unfold VT.has at this;exact this.elim
 |.nd v f g,.nd o i k,c,h=>by
  have l:v=o:=h 0;have e:∀j,(2*j) % 2=0/\2*j/2=j:=λj=>by omega
  have d:∀j,¬(2*j+1) % 2=0/\(2*j+1)/2=j:=λj=>by omega
  have m:f=i:=VT.ext f i (λj=>by
   have:=c (2*j+1);rw[VT.AEe,VT.AEe,IT (e j).1,IT (e j).1,(e j).2]at this;exact this) (λj=>by
   have:=h (2*j+1);rw[VT.AEb,VT.AEb,IT (e j).1,IT (e j).1,(e j).2]at this;exact this)
  have n:g=k:=VT.ext g k (λj=>by
   have:=c (2*j+1+1);rw[VT.AEe,VT.AEe,If (d j).1,If (d j).1,(d j).2]at this;exact this) (λj=>by
   have:=h (2*j+1+1);rw[VT.AEb,VT.AEb,If (d j).1,If (d j).1,(d j).2]at this;exact this)
  rw[l,m,n]
theorem VT.AF0:∀(t:VT) (i:Nat) (x:vz) (e:VT),t.set i x=BY e->t.has i->∀j,e.has j->t.has j
 |.mt,i,x,e,_,c,_,_=>by unfold VT.has at c;exact c.elim
 |.nd v h k,0,x,e,a,_,j,b=>by
  have a:BY (VT.nd x h k)=BY e:=a;cases a;cases j with
  |zero=>unfold VT.has;trivial
  |succ g=>rw[VT.AEe]at b ⊢;exact b
 |.nd v h k,g+1,x,e,a,c,j,b=>by
  rw[VT.AEw]at a;rw[VT.AEe]at c;by_cases n:g % 2=0
  ·rw[IT n]at a c
   cases d:h.set (g/2) x with
   |none=>rw[d]at a;cases a
   |some l=>
    rw[d]at a;cases a;cases j with
    |zero=>unfold VT.has;trivial
    |succ m=>
     rw[VT.AEe]at b ⊢;by_cases f:m % 2=0
     ·rw[IT f]at b ⊢;exact VT.AF0 h _ x l d c _ b
     ·rw[If f]at b ⊢;exact b
  ·rw[If n]at a c
   cases d:k.set (g/2) x with
   |none=>rw[d]at a;cases a
   |some l=>
    rw[d]at a;cases a;cases j with
    |zero=>unfold VT.has;trivial
    |succ m=>
     rw[VT.AEe]at b ⊢;by_cases f:m % 2=0
     ·rw[IT f]at b ⊢;exact b
     ·rw[If f]at b ⊢;exact VT.AF0 k _ x l d c _ b
theorem L2:∀(vs:List vz) (t:VT) (i:Nat),(∀j,j<i+vs.length->t.has j)->∃a,Bt t i vs=BY a/\(∀j,a.has j↔t.has j)/\∀j,a.get j=if i<=j/\j<i+vs.length then vs.getD (j - i) AEU else t.get j
 |[],t,i,b=>⟨t,rfl,λ_=>Iff.rfl,λj=>by rw[If (by simp only[xD];omega)]⟩
 |v::vs,t,i,b=>by
  simp only[wK]at b;have d:∀j,j<i->t.has j:=λj e=>b j (by omega)
  have h:=VT.AFA (x:=v) d;have g:∀j,(t.lay i v).has j↔t.has j:=λj=>⟨VT.AF0 t i v _ h (b i (by omega)) j,λe=>VT.AFd d j (.inr e)⟩
  obtain⟨a,k,l,m⟩:=L2 vs (t.lay i v) (i+1) λj e=>(g j).2 (b j (by omega))
  refine⟨a,?_,λj=>(l j).trans (g j),λj=>?_⟩
  ·show(match t.set i v with|some a=>Bt a (wQ i) vs|none=>By)=_
   rw[h];exact k
  ·rw[m j,VT.AFV d]
   simp only[wK];by_cases f:i+1<=j/\j<i+1+vs.length
   ·rw[IT f,IT (by omega),show j - i=(j - (i+1))+1 by omega];rfl
   ·rw[If f]
    by_cases c:j=i
    ·rw[IT c,IT (by omega),c,Nat.sub_self];rfl
    ·rw[If c,If (by omega)]
section
variable {F:AES}{e:Env}{h r:Hp}{k:Walk}{body:C}{b:Nat}
theorem Pj{b c:Nat}{r a:Hp}{tr:Rds}:Yk b c r a tr=IN↔bh b c r a:=by
 unfold Yk;split
 ·rename_i h _;exact⟨λ_=>h,λ_=>rfl⟩
 ·rename_i h _;exact⟨λe=>(by cases e),λe=>absurd e h⟩
theorem Qw{f:Ent->Bool}:∀{l:List Ent},(∀x∈l,f x=IN)->Qv f l=IN
 |[],_=>rfl
 |x::l,h=>by
  show(bif f x then Qv f l else IS)=IN;rw[h x wJ,Qw λb a=>h b (wI _ a)];rfl
theorem JT{fin:Hp->Rds->Bool}:∀(n:Nat) (h:Hp) (tr:Rds),Lp k body F e b fin n h tr=IN->∃p,Ua k body F e b n h tr=BY p/\fin p.1 p.2=IN
 |0,h,tr,a=>by cases a
 |n+1,h,tr,a=>by
  unfold Lp Ok at a;unfold Ua Ok;cases d:Ei (h.bl.get b)with
  |no=>rw[d]at a;cases a
  |cur _ _ _=>rw[d]at a;cases a
  |pick _ _ _ _=>rw[d]at a;cases a
  |ok g w seen u=>
   rw[d]at a;cases g with
   |none=>cases a
   |some g=>
    simp only at a ⊢;cases m:Bi h g with
    |no=>rw[m]at a;cases a
    |ok l c=>
     rw[m]at a;simp only at a ⊢;cases i:wU c w with
     |false=>rw[i]at a;cases a
     |true=>
      cases j:wU c u with
      |false=>rw[i,j]at a;cases a
      |true=>
       cases r:Fl c 0 l with
       |false=>rw[i,j,r]at a;cases a
       |true=>
        rw[i,j,r]at a;simp only[cond_true]at a ⊢;cases o:AE2 seen l with
        |nil=>rw[o]at a;exact⟨_,rfl,a⟩
        |cons s x=>
         rw[o]at a;have f:=Mo a s wJ;simp only;cases q:PO k body F e b g c seen h s with
         |none=>rw[q]at f;cases f
         |some t=>
          rw[q]at f;exact JT n t _ f
theorem UO(l:h.Wf)(S:PV k body F e h b r)(x:h.next<=r.next):
  ∃h',GL k body F e h b=.exit k.out (Env.set k.more (.bool IS) (C6 e k.ws)) h'/\h'.Wf/\h'.next=r.next/\(∀i,i<h.next->i≠b->h'.bl.get i=r.bl.get i)/\h'.mark=h.mark/\h'.low=min h.low r.low:=by
 obtain⟨o,n,m⟩:=JT _ _ _ S.2;obtain⟨q,s,y,t⟩:=Pj.1 m;have u:=l.big;unfold GL;split
 case h_2=>rename_i a _;exact absurd ⟨r,S⟩ a
 rename_i a _;have d:=ABg a;generalize AB7 a=c at d;obtain⟨p,g,j⟩:=JT _ _ _ d.2;obtain rfl:p=o:=by rw[n]at g;exact(Option.some.inj g).symm
 obtain⟨t1,t2,t3,t4⟩:=Pj.1 j;refine⟨_,rfl,⟨?_,d.1,λi f=>?_⟩,t1.symm.trans q,λi f w=>?_,rfl,(BV _ _).trans (by rw[t2,<- s])⟩
 ·show 256<=c.next;omega
 ·have f:c.next<=i:=f
  show c.bl.get i=_;rw[t4,IT (by omega)]
 ·show c.bl.get i=_
  rw[t4,t]
end
def F7(M:List Nat)(k:Nat)(l:List Nat):List Nat:=M.take (64*k)++l++M.drop (64*k+64)
def FU:List Nat->List (Nat×List Nat)->List Nat
 |M,[]=>M
 |M,a::b=>FU (F7 M a.1 a.2) b
def AFo(cs:List (Nat×List Nat)):Prop:=∀(a b:Nat) (c d:Nat×List Nat),cs[a]? =BY c->cs[b]? =BY d->c.1=d.1->a=b
def AFG(n:Nat)(cs:List (Nat×List Nat)):Prop:=∀a∈cs,a.1<n/\a.2.length=64/\∀b∈a.2,b<256
theorem C1{M l:List Nat}{n k:Nat}(a:M.length=64*n)(hk:k<n)(b:l.length=64):(F7 M k l).length=64*n:=by
 unfold F7;rw[wD,wD,wu,xT];omega
theorem Xv{M l:List Nat}{k:Nat}(a:∀x∈M,x<256)(b:∀x∈l,x<256):∀x∈F7 M k l,x<256:=λx hx=>by
 rcases wd.1 hx with hx|hx
 ·rcases wd.1 hx with hx|hx
  ·exact a x (xk hx)
  ·exact b x hx
 ·exact a x (yx hx)
theorem Db{M l:List Nat}{n k p:Nat}(d:M.length=64*n)(hk:k<n)(c:l.length=64):(F7 M k l).getD p 0=if p/64=k then l.getD (p % 64) 0 else M.getD p 0:=by
 unfold F7;have a:(M.take (64*k)).length=64*k:=by rw[wu];omega
 simp only[wG];by_cases b:p/64=k
 ·rw[IT b,wa,wi (by omega),wX (by omega),a,show p - 64*k=p % 64 by omega]
 ·rw[If b]
  rcases wh p (64*k)with hp|hp
  ·rw[wa,wX (by omega),yY,IT hp]
  ·rw[wi (by rw[wD];omega),AAV,wD,a,c]
   congr 2;omega
theorem Fq:∀{cs:List (Nat×List Nat)} {M:List Nat} {n:Nat},M.length=64*n->AFG n cs->(FU M cs).length=64*n
 |[],_,_,a,_=>a
 |y::cs,M,n,a,b=>Fq (cs:=cs) (C1 a (b y wJ).1 (b y wJ).2.1) λd c=>b d (wI _ c)
theorem SN:∀{cs:List (Nat×List Nat)} {M:List Nat} {n:Nat},(∀x∈M,x<256)->AFG n cs->∀x∈FU M cs,x<256
 |[],_,_,a,_=>a
 |y::cs,M,n,a,b=>SN (cs:=cs) (n:=n) (Xv a (b y wJ).2.2) λd c=>b d (wI _ c)
theorem AFo.tail{y:Nat×List Nat}{cs:List (Nat×List Nat)}(h:AFo (y::cs)):AFo cs/\∀z∈cs,z.1≠y.1:=⟨λa k b c e f g=>by
 have:=h (a+1) (k+1) b c (by rw[xh];exact e) (by rw[xh];exact f) g;omega,λz j d=>by
 obtain⟨a,i⟩:=zM.1 j;have:=h (a+1) 0 z y (by rw[xh];exact i) rfl d;omega⟩
theorem Iv:∀{cs:List (Nat×List Nat)} {M:List Nat} {n p:Nat},M.length=64*n->AFG n cs->(∀y∈cs,p/64≠y.1)->(FU M cs).getD p 0=M.getD p 0
 |[],_,_,_,_,_,_=>rfl
 |y::cs,M,n,p,e,f,g=>by
  obtain⟨c,d,h⟩:=f y wJ;show(FU (F7 M y.1 y.2) cs).getD p 0=_;rw[Iv (cs:=cs) (C1 e c d) (λb a=>f b (wI _ a)) λb a=>g b (wI _ a),Db e c d,If (g y wJ)]
theorem SM:∀{cs:List (Nat×List Nat)} {M:List Nat} {n:Nat},M.length=64*n->AFG n cs->AFo cs->∀y∈cs,∀q,q<64->(FU M cs).getD (64*y.1+q) 0=y.2.getD q 0
 |[],_,_,_,_,_,_,a,_,_=>by cases a
 |z::cs,M,n,e,f,g,y,a,q,h=>by
  obtain⟨c,d,k⟩:=f z wJ;obtain⟨i,j⟩:=g.tail;show(FU (F7 M z.1 z.2) cs).getD _ 0=_;rcases wS.1 a with rfl|a
  ·rw[Iv (cs:=cs) (C1 e c d) (λz b=>f z (wI _ b)) (λz b=>by have:=j z b;omega),Db e c d,IT (by omega),show(64*y.1+q) % 64=q by omega]
  ·exact SM (C1 e c d) (λz b=>f z (wI _ b)) i y a q h
def AFN(T0:VT)(done:List (Nat×List Nat))(T:VT):Prop:=(∀d,T.has d↔T0.has d)/\(∀a∈done,∀c,c<64->T.get (64*a.1+c)=bv (a.2.getD c 0))/\∀b,(∀a∈done,b/64≠a.1)->T.get b=T0.get b
theorem AFN.nil(T:VT):AFN T [] T:=⟨λ_=>Iff.rfl,λb a=>(by cases a),λ_ _=>rfl⟩
theorem AFN.step{T0 T:VT}{done:List (Nat×List Nat)}{k s:Nat}{l:List Nat}(h:AFN T0 done T)(o:∀j,j<s->T0.has j)(hk:64*k+64<=s)(p:l.length=64)(n:∀y∈done,y.1≠k):∃c,Bt T (64*k) (l.map bv)=BY c/\AFN T0 (done++[(k,l)]) c:=by
 have e:(l.map bv).length=64:=by rw[wF,p]
 obtain⟨c,i,m,d⟩:=L2 (l.map bv) T (64*k) λj t=>(h.1 j).2 (o j (by omega))
 refine⟨c,i,λj=>(m j).trans (h.1 j),λy a b q=>?_,λg f=>?_⟩
 ·rw[d,e]
  rcases wd.1 a with a|a
  ·rw[If (by have:=n y a;omega)]
   exact h.2.1 y a b q
  ·obtain rfl:=wP.1 a
   have r:64*k+b - 64*k=b:=by omega
   rw[IT ⟨Nat.le_add_right _ _,by show 64*k+b<_;omega⟩];show(l.map bv).getD (64*k+b - 64*k) AEU=bv (l.getD b 0);rw[r,wG,xc,wG,wE (by omega)];rfl
 ·have:=f (k,l) (wz _ (wP.2 rfl))
  rw[d,e,If (by show ¬ _;have:g/64≠k:=this;omega)];exact h.2.2 g λy a=>f y (xF _ a)
theorem AFN.uniq{T0 T g:VT}{a b:List (Nat×List Nat)}(h:AFN T0 a T)(h':AFN T0 b g)(k:∀y,y∈a↔y∈b):T=g:=by
 refine VT.ext _ _ (λl=>(h.1 l).trans (h'.1 l).symm) λc=>?_
 by_cases f:∃y∈a,c/64=y.1
 ·obtain⟨y,d,e⟩:=f
  have i:=h.2.1 y d (c % 64) (by omega);have j:=h'.2.1 y ((k y).1 d) (c % 64) (by omega);rw[show 64*y.1+c % 64=c by omega]at i j;rw[i,j]
 ·rw[h.2.2 c λy d e=>f ⟨y,d,e⟩,h'.2.2 c λy d e=>f ⟨y,(k y).2 d,e⟩]
theorem AFN.all{T0:VT}{n:Nat}(g:∀j,j<64*n->T0.has j):∀(cs done:List (Nat×List Nat)) (T:VT),AFN T0 done T->AFG n cs->AFo cs->(∀y∈cs,∀z∈done,z.1≠y.1)->∃h,AFN T0 (done++cs) h
 |[],done,T,c,_,_,_=>⟨T,by rw[wT];exact c⟩
 |y::cs,done,T,c,e,p,f=>by
  obtain⟨t,i,u⟩:=e y wJ;obtain⟨q,r⟩:=p.tail;obtain⟨T1,_,o⟩:=c.step g (k:=y.1) (l:=y.2) (by omega) i (f y wJ);obtain⟨T2,d⟩:=AFN.all g cs (done++[(y.1,y.2)]) T1 o (λz b=>e z (wI _ b)) q λz b s a=>by
   rcases wd.1 a with a|a
   ·exact f z (wI _ b) s a
   ·obtain rfl:=wP.1 a
    exact λm=>r z b m.symm
  exact⟨T2,by rw[wa]at d;exact d⟩
theorem AFN.is{T0 T:VT}{M:List Nat}{n:Nat}{cs:List (Nat×List Nat)}(h:AFN T0 cs T)(r:T0.Is (M.map bv))(e:M.length=64*n)(f:AFG n cs)(p:AFo cs):T.Is ((FU M cs).map bv):=λa m=>by
 rw[wF,Fq e f]at m;have o:=r a (by rw[wF];omega);refine⟨(h.1 a).2 o.1,?_⟩;have j:∀d:List Nat,a<d.length->(d.map bv).getD a AEU=bv (d.getD a 0):=λd q=>by
  rw[wG,xc,wG,wE q];rfl
 rw[j _ (by rw[Fq e f];exact m)];by_cases i:∃b∈cs,a/64=b.1
 ·obtain⟨b,c,g⟩:=i
  have k:=h.2.1 b c (a % 64) (by omega);have l:=SM e f p b c (a % 64) (by omega);rw[show 64*b.1+a % 64=a by omega]at k l;rw[k,l]
 ·rw[h.2.2 a λb c g=>i ⟨b,c,g⟩,Iv e f λb c g=>i ⟨b,c,g⟩,o.2,j _ (by omega)]
theorem Jx:∀(cs:List (Nat×List Nat)) (c:Nat),(AEg c cs).length=cs.length
 |[],_=>rfl
 |x::cs,c=>by show(AEg (c+1) cs).length+1=_;rw[Jx cs];rfl
theorem RO:∀{cs:List (Nat×List Nat)} {c:Nat} {x:Ent},x∈AEg c cs->∃(i:Nat) (y:Nat×List Nat),cs[i]? =BY y/\x=⟨AI AT (y.1:Int),DR y.2,c+i⟩
 |[],_,_,h=>by cases h
 |y::cs,c,x,h=>by
  rcases wS.1 h with h|h
  ·exact⟨0,y,rfl,h⟩
  ·obtain⟨i,d,a,b⟩:=RO h
   exact⟨i+1,d,by rw[xh];exact a,by rw[b,ADo,ACa 1]⟩
theorem Ip:∀{cs:List (Nat×List Nat)} {c i:Nat} {y:Nat×List Nat},cs[i]? =BY y->Gq (c+i) (AEg c cs)=BY ⟨AI AT (y.1:Int),DR y.2,c+i⟩
 |[],_,_,_,a=>by cases a
 |z::cs,c,0,y,a=>by
  have a:BY z=BY y:=a;cases a;show(bif wU c (c+0)then BY (⟨AI AT (z.1:Int),DR z.2,c⟩:Ent)else Gq (c+0) (AEg (c+1) cs))=_;rw[xy,yG];rfl
 |z::cs,c,i+1,y,a=>by
  rw[xh]at a;show(bif wU c (c+(i+1))then BY (⟨AI AT (z.1:Int),DR z.2,c⟩:Ent)else Gq (c+(i+1)) (AEg (c+1) cs))=_;have:wU c (c+(i+1))=IS:=by
   cases b:wU c (c+(i+1))
   ·rfl
   ·have:=Ax.1 b;omega
  rw[this,show c+(i+1)=c+1+i by omega];exact Ip a
theorem L1:∀{cs:List (Nat×List Nat)} {c lo clk:Nat},lo<=c->c+cs.length<=clk->Fl clk lo (AEg c cs)=IN
 |[],_,_,_,_,_=>rfl
 |x::cs,c,lo,clk,a,b=>by
  rw[wK]at b;show(bif wY lo c then(bif Nat.blt c clk then Fl clk (wQ c) (AEg (c+1) cs)else IS)else IS)=IN;rw[Am.2 a,BM.2 (by omega)];exact L1 (wB _) (by omega)
theorem GU{n:Nat}:∀{l:List Nat},GG n l=IN↔n∈l
 |[]=>⟨λa=>(by cases a),λa=>(by cases a)⟩
 |x::l=>by
  show(bif wU x n then IN else GG n l)=IN↔_;cases a:wU x n with
  |true=>exact⟨λ_=>by rw[Ax.1 a];exact wJ,λ_=>rfl⟩
  |false=>
   refine Iff.trans (GU (l:=l)) ⟨λb=>wI _ b,λb=>?_⟩;rcases wS.1 b with b|b
   ·rw[b,yG]at a;cases a
   ·exact b
theorem Nx{seen:List Nat}:∀{es:List Ent} {x:Ent},x∈AE2 seen es->x∈es/\x.born∉seen
 |[],_,h=>by cases h
 |y::es,x,h=>by
  have h:x∈(bif GG y.born seen then AE2 seen es else y::AE2 seen es):=h;cases b:GG y.born seen with
  |true=>
   rw[b]at h;obtain⟨a,c⟩:=Nx (es:=es) h;exact⟨wI _ a,c⟩
  |false=>
   rw[b]at h;rcases wS.1 h with h|h
   ·subst h
    exact⟨wJ,λa=>by rw[GU.2 a]at b;cases b⟩
   ·obtain⟨a,c⟩:=Nx (es:=es) h
    exact⟨wI _ a,c⟩
theorem PE{seen:List Nat}{s:Nat}:∀{cs:List (Nat×List Nat)} {c:Nat},s<c->AE2 (seen++[s]) (AEg c cs)=AE2 seen (AEg c cs)
 |[],_,_=>rfl
 |x::cs,c,a=>by
  show(bif GG c (seen++[s])then AE2 (seen++[s]) (AEg (c+1) cs)else _::AE2 (seen++[s]) (AEg (c+1) cs))=(bif GG c seen then AE2 seen (AEg (c+1) cs)else _::AE2 seen (AEg (c+1) cs));rw[PE (cs:=cs) (by omega)];have:GG c (seen++[s])=GG c seen:=by
   rw[yW,GU,GU,wd,wP];exact⟨λb=>b.elim (λa=>a) λb=>by omega,.inl⟩
  rw[this]
theorem TF{seen:List Nat}{i:Nat}:∀{cs:List (Nat×List Nat)} {c:Nat},i<cs.length->c+i∉seen->(AE2 (seen++[c+i]) (AEg c cs)).length+1=(AE2 seen (AEg c cs)).length
 |[],_,b,_=>by cases b
 |x::cs,c,b,d=>by
  show(bif GG c (seen++[c+i])then AE2 (seen++[c+i]) (AEg (c+1) cs)else _::AE2 (seen++[c+i]) (AEg (c+1) cs)).length+1=(bif GG c seen then AE2 seen (AEg (c+1) cs)else _::AE2 seen (AEg (c+1) cs)).length;cases i with
  |zero=>
   simp only[xy]at d ⊢;have a:GG c seen=IS:=by
    cases e:GG c seen
    ·rfl
    ·exact absurd (GU.1 e) d
   have g:GG c (seen++[c])=IN:=GU.2 (wz _ (wP.2 rfl));rw[a,g,PE (cs:=cs) (Nat.lt_succ_self c)];rfl
  |succ i=>
   have a:GG c (seen++[c+(i+1)])=GG c seen:=by
    rw[yW,GU,GU,wd,wP];exact⟨λa=>a.elim (λb=>b) λa=>by omega,.inl⟩
   have e:c+(i+1)=c+1+i:=by omega
   rw[e]at d a ⊢;have f:=TF (seen:=seen) (i:=i) (cs:=cs) (c:=c+1) (by simp only[wK]at b;omega) d;rw[a];cases GG c seen with
   |true=>exact f
   |false=>exact congrArg (· +1) f
theorem Lf:∀(es:List Ent),AE2 [] es=es
 |[]=>rfl
 |x::es=>by
  show x::AE2 [] es=_;rw[Lf es]
def fB:C:=(G 22 (Hq (J 21))
(G 23 (AW 0 (J 22))
(Bj 23
(Ab 1 (G 24 (Jc (J 21))
(G 25 (AW 0 (J 24))
(G 26 (AW 1 (J 24))
(G 6 (Bc 64 Jk)
(G 5 (Af 25)
(cDo (Ad 64 (J 6) (J 26))
(B4 (G 28 (Bg (J 0))
(G 29 (AE 0 (J 28))
(G 30 (AO (J 29))
(G 32 (BK 64 (J 6))
(G 33 (CF 64 (J 30) (J 5))
(cDo (AZ .free (Ad 64 (J 33) (J 32)))
Aq))))))))))))))
(CD 0))))
def fK:Walk:=⟨21,22,23,0,[22,23,24,25,26,6,5,27,28,29,30,31,32,33],[]⟩
theorem lx:fW=Jo fK fB:=rfl
theorem tK:fS=BJ (Ab 0 fW) fE:=rfl
theorem Wl:pf=RJ:=rfl
section
variable {F:AES}{e:Env}{g g1:Hp}{it bd bm bc n k:Nat}{l:List Nat}{T:VT}{arm:Int}{dn:Bool}
theorem VU{q:Hp}{s a off:Nat}{vs:List vz}{b:VT}(e:q.Wf)(g:q.bl.get bm=.cells T s a)(d:Bt T off vs=BY b)(i:off+vs.length<=s)(f:Bd vs=IN)(c:256<=bm)(h:bm<q.next){K:Hp->R}:C3 ⟨bm,off,By⟩ vs q K=K (q.put bm (.cells b s a)):=by
 have j:rowOf q bm=.ok T s a:=by unfold rowOf;rw[g];rfl
 unfold C3;simp only[j,yH];rw[Bf,Am.2 i,f];simp only[cond_true,d];rw[EE e c h]
theorem RY(j:g1.Wf)(s0:J 0 e=pt bd)(r:J 21 e=pt it)
  (E:∀e,J 21 e=pt it->Hq (J 21) F e g=.ok (.tuple ⟨[.bool IN,AI AT (k:Int),DR l]⟩) g1)
  (en:∀e,J 21 e=pt it->Jc (J 21) F e g1=.ok (.tuple ⟨[AI AT (k:Int),DR l]⟩) g1)
  (D:g1.Row bd 0 (dkL bm bc n arm dn))(R:g1.bl.get bm=.cells T (64*n) 0){a:VT}(hs:Bt T (64*k) (l.map bv)=BY a)(hk:k<n)(Y:l.length=64)(I:256<=bm)(U:bm<g1.next):
  ∃c d,fB F e g=.norm c d/\J 0 c=pt bd/\J 21 c=pt it/\d.Wf/\d.next=g1.next+1/\d.bl.get bm=.cells a (64*n) 0/\(∀i,i<g1.next->i≠bm->d.bl.get i=g1.bl.get i)/\d.low=min (min g1.low g1.next) bm/\d.high=max (max g1.high g1.next) bm:=by
 have O:=j.big;have y:(l.map bv).length=64:=by rw[wF,Y]
 have s:=λ(F:AES) (e:Env)=>BU (F:=F) (e:=e) j (n:=64) (t:=Jk)
 have h:=Hp.Row.alloc j YP (by rw[wF,yI]);have m:g1.Ext (g1.push (.cells Jk 64 0)):=(Hp.Ext.refl j).push _;have C:(g1.push (.cells Jk 64 0)).next=g1.next+1:=rfl;have A:(g1.push (.cells Jk 64 0)).low=g1.low:=rfl;have w:(g1.push (.cells Jk 64 0)).high=g1.high:=rfl;generalize g1.push (.cells Jk 64 0)=g2 at s h m C A w;have hz:((wR 64 0).map bv).length=64:=by rw[wF,yI]
 have H:AEa 64 (pt g1.next) (DR l) g2=.ok AEU (g2.wr g1.next 0 (l.map bv)):=h.AEa (n:=64) (off:=0) m.wf O (v:=DR l) y (by show 0+(l.map bv).length<=_;omega) (C8 _);have f:=h.AEy m (wB _) (off:=0) (vs:=l.map bv) (by omega);have o:=h.AEf m.wf (off:=0) (vs:=l.map bv) (by omega);rw[FF (by omega)]at o;have p:(g2.wr g1.next 0 (l.map bv)).next=g1.next+1:=(h.AE7 (by omega)).trans C;obtain⟨_,_,u,_⟩:=h.AFf (off:=0) (vs:=l.map bv) (by omega);have B:(g2.wr g1.next 0 (l.map bv)).low=min g1.low g1.next:=by
  rw[u];show B9 g2.low g1.next=_;rw[BV,A]
 have x:(g2.wr g1.next 0 (l.map bv)).high=max g1.high g1.next:=by
  rw[u];show Cu g2.high g1.next=_;rw[Bz,w]
 generalize g2.wr g1.next 0 (l.map bv)=g3 at H f o p B x;have M:g3.marked.Row bd 0 (dkL bm bc n arm dn):=(D.ext j f).same rfl;obtain⟨l0,_,_,_⟩:=Cb M;have N:g3.marked.Row g1.next 0 (l.map bv):=o.same rfl;have ld:loadN 64 ⟨g1.next,0,By⟩ g3.marked=.ok (DR l) g3.marked:=by
  rw[N.loadN (by omega),xa,yU (by omega)];rfl
 have z:AFM 64 (.slice (BY ⟨bm,0,By⟩) n n) (AI AT (k:Int)) g3.marked=.ok (.pointer (BY ⟨bm,0+k*64,By⟩)) g3.marked:=DB hk;rw[wC,yR]at z;have S:g3.marked.quiet.bl.get bm=.cells T (64*n) 0:=by
  show g3.bl.get bm=_;rw[f.get bm U];exact R
 have sq:AEa 64 (.pointer (BY ⟨bm,64*k,By⟩)) (DR l) g3.marked.quiet=.ok AEU (g3.marked.quiet.put bm (.cells a (64*n) 0)):=by
  show(bif wU (DH (l.map bv)) 64 then C3 ⟨bm,64*k,By⟩ (l.map bv) g3.marked.quiet EU else .no)=_;rw[Bf,Ax.2 y,cond_true,VU f.wf.marked.quiet S hs (by omega) (C8 _) I (by show bm<g3.next;omega)];rfl
 have q1:∀(F:AES) (e:Env),J 33 e=.pointer (BY ⟨bm,64*k,By⟩)->J 32 e=DR l->AZ .free (Ad 64 (J 33) (J 32)) F e g3.marked=.ok AEU (g3.marked.back (g3.marked.quiet.put bm (.cells a (64*n) 0))):=λF e P Q=>by
  refine BE ?_;rw[AV,P,Q];exact sq
 have G:=f.wf.marked.quiet.AE1 (b:=bm) (show bm<g3.next by omega) (.cells a (64*n) 0);have q:=f.wf.marked.quiet.put (b:=bm) (show bm<g3.next by omega) (.cells a (64*n) 0);have L:(g3.marked.back (g3.marked.quiet.put bm (.cells a (64*n) 0))).low=min (min g1.low g1.next) bm:=by
  show B9 g3.low (B9 g3.next bm)=_;rw[BV,BV,B,p];omega
 have K:(g3.marked.back (g3.marked.quiet.put bm (.cells a (64*n) 0))).high=max (max g1.high g1.next) bm:=by
  show Cu g3.high (Cu 0 bm)=_;rw[Bz,Bz,x];omega
 have Z:∃c,fB F e g=.norm c (g3.marked.back (g3.marked.quiet.put bm (.cells a (64*n) 0)))/\J 0 c=pt bd/\J 21 c=pt it:=by
  unfold fB;have a0:=λe V=>E e V
  simp only[sT,sh,OF,reduceIte,E e r,Az,A8,A9,Cm,en,r,s,AV,H,Ar,An,s0,AX,AH,AN,AJ,AP,l0,Ai,Ac,ld,A1,z,q1];exact⟨_,rfl,by simp[AG,s0,r]⟩
 obtain⟨c,r1,r2,r3⟩:=Z;refine⟨c,_,r1,r2,r3,⟨q.big,q.has,q.fresh⟩,by show g3.next=_;exact p,?_,λi W X=>?_,L,K⟩
 ·show(g3.marked.quiet.put bm _).bl.get bm=_
  rw[G,IT rfl]
 ·show(g3.marked.quiet.put bm _).bl.get i=_
  rw[G,If X];exact f.get i W
end
section
variable {F:AES}{e:Env}{h g g1:Hp}{it bd bm bc n k c0:Nat}{l seen:List Nat}{T T0:VT}{cs:List (Nat×List Nat)}{arm:Int}{dn:Bool}
structure FlB (h:Hp)(it bd bm bc n c0:Nat)(cs:List (Nat×List Nat))(arm:Int)(dn:Bool)(T0:VT):Prop where
 wf:h.Wf
 nx:h.next=it+1
 itr:h.bl.get it=.iter (BY bc) (c0+cs.length) [] (c0+cs.length)
 disk:h.Row bd 0 (dkL bm bc n arm dn)
 med:h.bl.get bm=.cells T0 (64*n) 0
 has:∀j,j<64*n->T0.has j
 map:h.bl.get bc=.map (AEg c0 cs) (c0+cs.length)
 lt:bd<it/\bm<it/\bc<it
 ne:bd≠bm/\bc≠bm
 big:256<=bm/\256<=it
 sec:AFG n cs
 key:AFo cs
structure FlI (h:Hp)(it bm bc n c0:Nat)(cs:List (Nat×List Nat))(T0:VT)(seen:List Nat)(g:Hp):Prop where
 wf:g.Wf
 nx:g.next=h.next+seen.length
 lh:(seen=[]/\g.low=h.next/\g.high=0)\/(seen≠[]/\g.low=bm/\g.high+1=h.next+seen.length)
 itr:g.bl.get it=.iter (BY bc) (c0+cs.length) seen (c0+cs.length)
 old:∀i,i<h.next->i≠it->i≠bm->g.bl.get i=h.bl.get i
 med:∃(T:VT) (done:List (Nat×List Nat)),g.bl.get bm=.cells T (64*n) 0/\AFN T0 done T/\∀y,y∈done↔∃i:Nat,cs[i]? =BY y/\c0+i∈seen
 cnt:seen.length+(AE2 seen (AEg c0 cs)).length=cs.length
theorem NU{s:Nat}:∀l:List Nat,SO (l++[s])=BY s
 |[]=>rfl
 |[x]=>rfl
 |x::a::l=>NU (a::l)
theorem S7(s:Nat):∀l:List Nat,KV s l=l++[s]
 |[]=>rfl
 |x::l=>congrArg (x:: ·) (S7 s l)
theorem Ny{h g:Hp}{b c:Nat}{a:List vz}(r:h.Row b c a)(e:g.bl.get b=h.bl.get b):g.Row b c a:=by
 obtain⟨d,f,i⟩:=r;exact⟨d,e.trans f,i⟩
theorem dJ{g:Hp}{it:Nat}{v:R}(c:Gz ⟨it,0,By⟩ g=v){e:Env}(b:J 21 e=pt it):Hq (J 21) F e g=v:=by
 show(match EH (J 21 e)with|.ok a=>bif wU a.off 0 then Gz a g else .no|.no=>.no)=_;rw[b];exact c
theorem lw{g:Hp}{it:Nat}{v:R}(c:LJ ⟨it,0,By⟩ g=v){e:Env}(b:J 21 e=pt it):Jc (J 21) F e g=v:=by
 show(match EH (J 21 e)with|.ok a=>bif wU a.off 0 then LJ a g else .no|.no=>.no)=_;rw[b];exact c
theorem RN{g:Hp}{it i:Nat}{y:Nat×List Nat}(hi:cs[i]? =BY y){s0:Nat}(c:g.bl.get it=.iter (BY bc) s0 (seen++[c0+i]) (c0+cs.length))(d:g.bl.get bc=.map (AEg c0 cs) (c0+cs.length)):LJ ⟨it,0,By⟩ g=.ok (.tuple ⟨[AI AT (y.1:Int),DR y.2]⟩) g:=by
 have b:Ei (g.bl.get it)=.ok (BY bc) s0 (seen++[c0+i]) (c0+cs.length):=by rw[c];rfl
 have a:Bi g bc=.ok (AEg c0 cs) (c0+cs.length):=by unfold Bi;rw[d];rfl
 unfold LJ;simp only[b,NU];unfold Io;simp only[a,yG,cond_true,Ip hi]
theorem WV:J 0 (C6 e fK.ws)=J 0 e/\J 21 (C6 e fK.ws)=J 21 e:=by
 constructor
 ·simp[fK,C6,AG]
 ·simp[fK,C6,AG]
theorem ip(B:FlB h it bd bm bc n c0 cs arm dn T0)(I:FlI h it bm bc n c0 cs T0 seen g)(s0:J 0 e=pt bd)(a7:J 21 e=pt it){x:Ent}(hx:x∈AE2 seen (AEg c0 cs)):
  ∃t,PO fK fB F e it bc (c0+cs.length) seen g x=BY t/\FlI h it bm bc n c0 cs T0 (seen++[x.born]) t:=by
 obtain⟨a6,z⟩:=Nx hx;obtain⟨b,f,p,rfl⟩:=RO a6;have z:c0+b∉seen:=z;obtain⟨y1,S,y3⟩:=B.sec f (wO p);have a2:b<cs.length:=(wW.1 p).1;obtain⟨T,done,t1,t2,t3⟩:=I.med;have a3:∀s∈done,s.1≠f.1:=λs q o=>by
  obtain⟨a,r,i⟩:=(t3 s).1 q;have:=B.key a b s f r p o;rw[this]at i;exact z i
 obtain⟨V,hs,a5⟩:=t2.step B.has (k:=f.1) (l:=f.2) (by omega) S a3;have a4:=I.nx;have a8:=B.nx;have a9:=B.lt;have M:=B.ne;have U:=B.big;have E:it<g.next:=by omega
 have m:=I.wf.put E (.pick bc (c0+b) (c0+cs.length) (BY seen));have w:=I.wf.AE1 E (.pick bc (c0+b) (c0+cs.length) (BY seen));have Y:g.bl.set it (.pick bc (c0+b) (c0+cs.length) (BY seen))=BY (g.bl.lay it (.pick bc (c0+b) (c0+cs.length) (BY seen))):=BT.AFA λa d=>I.wf.has a (by omega)
 have N:(g.put it (.pick bc (c0+b) (c0+cs.length) (BY seen))).low=min g.low it:=BV _ _;have K:(g.put it (.pick bc (c0+b) (c0+cs.length) (BY seen))).high=max g.high it:=Bz _ _;have P:(g.put it (.pick bc (c0+b) (c0+cs.length) (BY seen))).next=g.next:=rfl;have H:(⟨g.next,B9 g.low it,Cu g.high it,g.mark,g.bl.lay it (.pick bc (c0+b) (c0+cs.length) (BY seen))⟩:Hp)=g.put it (.pick bc (c0+b) (c0+cs.length) (BY seen)):=rfl;generalize g.put it (.pick bc (c0+b) (c0+cs.length) (BY seen))=g0 at m w N K P H;have Z:g0.bl.set it (.iter (BY bc) (c0+cs.length) (seen++[c0+b]) (c0+cs.length))=BY (g0.bl.lay it (.iter (BY bc) (c0+cs.length) (seen++[c0+b]) (c0+cs.length))):=BT.AFA λa d=>m.has a (by omega)
 have j:∀a,(g0.bl.lay it (.iter (BY bc) (c0+cs.length) (seen++[c0+b]) (c0+cs.length))).get a=if a=it then .iter (BY bc) (c0+cs.length) (seen++[c0+b]) (c0+cs.length)else g0.bl.get a:=BT.AFV λa d=>m.has a (by omega)
 have G:(⟨g0.next,g0.low,g0.high,g0.mark,g0.bl.lay it (.iter (BY bc) (c0+cs.length) (seen++[c0+b]) (c0+cs.length))⟩:Hp).Wf:=⟨m.big,λa d=>BT.AFd (λa d=>m.has a (by omega)) a (.inr (m.has a d)),λa d=>by
  have d:g0.next<=a:=d;show(g0.bl.lay _ _).get a=_;rw[j,If (by omega)];exact m.fresh a d⟩
 have D:g0.bl.get bc=.map (AEg c0 cs) (c0+cs.length):=by rw[w,If (by omega),I.old bc (by omega) (by omega) M.2];exact B.map
 have Q:Gz ⟨it,0,By⟩ g0=.ok (.tuple ⟨[.bool IN,AI AT (f.1:Int),DR f.2]⟩) ⟨g0.next,g0.low,g0.high,g0.mark,g0.bl.lay it (.iter (BY bc) (c0+cs.length) (seen++[c0+b]) (c0+cs.length))⟩:=by
  have a1:Ei (g0.bl.get it)=.pick bc (c0+b) (c0+cs.length) (BY seen):=by rw[w,IT rfl];rfl
  have o:Bi g0 bc=.ok (AEg c0 cs) (c0+cs.length):=by unfold Bi;rw[D];rfl
  have hp:Np bc (c0+b) (c0+cs.length) (BY seen)=.iter (BY bc) (c0+cs.length) (seen++[c0+b]) (c0+cs.length):=by unfold Np;simp only[S7]
  unfold Gz;simp only[a1,o,Ip p,hp,Z]
 have O:(⟨g0.next,g0.low,g0.high,g0.mark,g0.bl.lay it (.iter (BY bc) (c0+cs.length) (seen++[c0+b]) (c0+cs.length))⟩:Hp).low=min g.low it:=N;have L:(⟨g0.next,g0.low,g0.high,g0.mark,g0.bl.lay it (.iter (BY bc) (c0+cs.length) (seen++[c0+b]) (c0+cs.length))⟩:Hp).high=max g.high it:=K;have A:(⟨g0.next,g0.low,g0.high,g0.mark,g0.bl.lay it (.iter (BY bc) (c0+cs.length) (seen++[c0+b]) (c0+cs.length))⟩:Hp).next=g.next:=P;have j:∀a,(⟨g0.next,g0.low,g0.high,g0.mark,g0.bl.lay it (.iter (BY bc) (c0+cs.length) (seen++[c0+b]) (c0+cs.length))⟩:Hp).bl.get a=if a=it then .iter (BY bc) (c0+cs.length) (seen++[c0+b]) (c0+cs.length)else g0.bl.get a:=j
 generalize (⟨g0.next,g0.low,g0.high,g0.mark,g0.bl.lay it (.iter (BY bc) (c0+cs.length) (seen++[c0+b]) (c0+cs.length))⟩:Hp)=g2 at G Q O L A j;have C:∀a,a≠it->g2.bl.get a=g.bl.get a:=λa d=>by rw[j,If d,w,If d]
 have a0:=RN (g:=g2) p (j it |>.trans (IT rfl)) (by rw[j,If (by omega)];exact D);obtain⟨W,X⟩:=WV (e:=e);obtain⟨e',g',r1,r2,r3,r4,r5,r6,R,r8,r9⟩:=RY (F:=F) (e:=C6 e fK.ws) (g:=g0) (g1:=g2) (it:=it) (bd:=bd) (bm:=bm) (bc:=bc) (n:=n) (k:=f.1) (l:=f.2) (T:=T) (arm:=arm) (dn:=dn) G (W.trans s0) (X.trans a7)
  (λe o=>dJ Q o) (λe o=>lw a0 o) (Ny B.disk (by rw[C bd (by omega),I.old bd (by omega) (by omega) M.1])) (by rw[C bm (by omega)];exact t1) hs y1 S U.1 (by omega)
 refine⟨g',?_,⟨r4,?_,.inr ⟨by simp,?_,?_⟩,?_,λa t u y=>?_,⟨V,done++[(f.1,f.2)],r6,a5,λs=>?_⟩,?_⟩⟩
 ·unfold PO
  show(match g.bl.set it (.pick bc (c0+b) (c0+cs.length) (BY seen))with|some bl=>(match fB F (C6 e fK.ws) {next:=g.next,low:=B9 g.low it,high:=Cu g.high it,mark:=g.mark,bl:=bl}with|.norm _ t=>BY t|_=>By)|none=>By)=_;rw[Y];simp only[H,r1]
 ·rw[r5,A,a4,wD];rfl
 ·rw[r8,O,A]
  rcases I.lh with ⟨_,u,_⟩|⟨_,u,_⟩<;>omega
 ·rw[r9,L,A,wD]
  show _=h.next+(seen.length+1);rcases I.lh with ⟨_,_,y⟩|⟨_,_,y⟩<;>omega
 ·rw[R it (by omega) (by omega),j,IT rfl]
 ·rw[R a (by omega) y,C a u];exact I.old a t u y
 ·constructor
  ·intro q
   rcases wd.1 q with q|q
   ·obtain⟨a,r,i⟩:=(t3 s).1 q
    exact⟨a,r,xF _ i⟩
   ·obtain rfl:=wP.1 q
    exact⟨b,p,wz _ (wP.2 rfl)⟩
  ·rintro⟨a,r,i⟩
   rcases wd.1 i with i|i
   ·exact xF _ ((t3 s).2 ⟨a,r,i⟩)
   ·have:c0+a=c0+b:=wP.1 i
    have:a=b:=by omega
    rw[this,p]at r;cases r;exact wz _ (wP.2 rfl)
 ·have:=TF (seen:=seen) (cs:=cs) (c:=c0) a2 z
  have u:=I.cnt;show(seen++[c0+b]).length+(AE2 (seen++[c0+b]) (AEg c0 cs)).length=_;rw[wD,xM];omega
def FlR(h:Hp)(it bm n:Nat)(cs:List (Nat×List Nat))(b:VT)(r:Hp):Prop:=r.next=h.next+cs.length/\r.low=bm/\r.high+1=h.next+cs.length/\∀a,r.bl.get a=if a=it\/h.next<=a then .dead else if a=bm then .cells b (64*n) 0 else h.bl.get a
theorem W9{r:Hp}{q:VT}(B:FlB h it bd bm bc n c0 cs arm dn T0)(w:AFN T0 cs q)(t:FlR h it bm n cs q r)(h0:cs≠[])(s0:J 0 e=pt bd)(x:J 21 e=pt it):∀(m:Nat) (seen:List Nat) (g:Hp) (tr:Rds),FlI h it bm bc n c0 cs T0 seen g->(AE2 seen (AEg c0 cs)).length<m->Lp fK fB F e it (Yk it h.next r) m g tr=IN
 |0,_,_,_,_,o=>absurd o (Nat.not_lt_zero _)
 |m+1,seen,g,tr,a,o=>by
  have D:Ei (g.bl.get it)=.ok (BY bc) (c0+cs.length) seen (c0+cs.length):=by rw[a.itr];rfl
  have Q:=B.lt;have O:=B.nx;have H:=a.nx;have E:g.bl.get bc=.map (AEg c0 cs) (c0+cs.length):=by rw[a.old bc (by omega) (by omega) B.ne.2];exact B.map
  have C:Bi g bc=.ok (AEg c0 cs) (c0+cs.length):=by unfold Bi;rw[E];rfl
  unfold Lp Ok;simp only[D,C,yG,cond_true,L1 (wl c0) (wB (c0+cs.length))];cases j:AE2 seen (AEg c0 cs)with
  |nil=>
   simp only;have f:=a.cnt;rw[j]at f;have f:seen.length=cs.length:=f;have P:0<cs.length:=by
    cases cs with
    |nil=>exact absurd rfl h0
    |cons _ _=>exact AAB _
   obtain⟨T,done,t1,t2,t3⟩:=a.med;have A:T=q:=t2.uniq w λp=>by
    rw[t3 p];constructor
    ·rintro⟨b,k,_⟩;exact wO k
    ·intro I
     obtain⟨b,k⟩:=zM.1 I;refine⟨b,k,?_⟩;apply AEP;intro G;have i:(⟨AI AT (p.1:Int),DR p.2,c0+b⟩:Ent)∈AEg c0 cs:=(LL (Ip k)).1;have:=Nw i G;rw[j]at this;cases this
   obtain⟨K,L,R,M⟩:=t;rcases a.lh with ⟨i,_,_⟩|⟨_,z,N⟩
   ·rw[i]at f
    have:0=cs.length:=f;omega
   refine Pj.2 ⟨by rw[H,K,f],by rw[L,BV,z];omega,by rw[Bz];omega,λb=>?_⟩;rw[M];by_cases d:b=it\/h.next<=b
   ·rw[IT d,IT d]
   ·rw[If d,If d]
    by_cases c:b=bm
    ·rw[IT c,c,t1,A]
    ·rw[If c,a.old b (by omega) (by omega) c]
  |cons p l=>
   simp only;rw[j]at o;refine Qw λS u=>?_
   rw[<- j]at u;obtain⟨i,y,s⟩:=ip (F:=F) (e:=e) B a s0 x u;rw[y];refine W9 B w t h0 s0 x m _ i _ s ?_;have d:=s.cnt;have c:=a.cnt;rw[j]at c;rw[wD,xM]at d;simp only[wK]at c o;omega
end
section
variable {F:AES}{e:Env}{h g g1:Hp}{it bd bm bc n k c0:Nat}{l seen:List Nat}{T T0:VT}{M:List Nat}{cs:List (Nat×List Nat)}{arm:Int}{dn:Bool}
def Lz:Nat->Hp->Hp
 |0,h=>h
 |k+1,h=>Lz k (h.push .dead)
theorem S6:∀(k:Nat) {h:Hp} (a:h.Wf),(Lz k h).Wf/\(Lz k h).next=h.next+k/\∀i,(Lz k h).bl.get i=h.bl.get i
 |0,h,a=>⟨a,rfl,λ_=>rfl⟩
 |k+1,h,a=>by
  obtain⟨c,d,e⟩:=S6 k (a.push .dead);refine⟨c,?_,λi=>?_⟩
  ·show(Lz k (h.push .dead)).next=_
   rw[d];show h.next+1+k=_;omega
  ·show(Lz k (h.push .dead)).bl.get i=_
   rw[e,a.AEr];by_cases b:i=h.next
   ·rw[IT b,a.fresh i (by omega)]
   ·rw[If b]
theorem qa(B:FlB h it bd bm bc n c0 cs arm dn T0)(h0:cs≠[])(a:VT):∃r,FlR h it bm n cs a r/\∀i,i<r.next->r.bl.has i:=by
 have o:=B.nx;have q:=B.lt;have d:=B.wf.put (b:=it) (by omega) .dead;have f:=B.wf.AE1 (b:=it) (by omega) .dead;have j:=d.put (b:=bm) (show bm<h.next by omega) (.cells a (64*n) 0);have g:=d.AE1 (b:=bm) (show bm<h.next by omega) (.cells a (64*n) 0);obtain⟨k,b,l⟩:=S6 cs.length j;have p:0<cs.length:=by
  cases cs with
  |nil=>exact absurd rfl h0
  |cons _ _=>exact AAB _
 refine⟨⟨h.next+cs.length,bm,h.next+cs.length - 1,0,(Lz cs.length ((h.put it .dead).put bm (.cells a (64*n) 0))).bl⟩,⟨rfl,rfl,by show h.next+cs.length - 1+1=_;omega,λi=>?_⟩,λi m=>k.has i (by rw[b];exact m)⟩;show(Lz cs.length ((h.put it .dead).put bm (.cells a (64*n) 0))).bl.get i=_;rw[l,g,f];by_cases c:i=it
 ·rw[If (by omega),IT c,IT (.inl c)]
 ·by_cases e:h.next<=i
  ·rw[If (by omega),If c,IT (.inr e)]
   exact B.wf.fresh i e
  ·rw[If (by omega:¬(i=it\/h.next<=i)),If c]
theorem io(B:FlB h it bd bm bc n c0 cs arm dn T0){y z:Nat×List Nat}{q:List (Nat×List Nat)}(m:cs=y::z::q)(O:cs.length<=60)(s0:J 0 e=pt bd)(r:J 21 e=pt it):
  ∃f h',fW F e h=.exit 0 f h'/\J 0 f=pt bd/\h'.Wf/\h.next<=h'.next/\(∀i,i<h.next->i≠it->i≠bm->h'.bl.get i=h.bl.get i)/\∃T,h'.bl.get bm=.cells T (64*n) 0/\AFN T0 cs T/\∀b,b<=h.low->b<=it->b<=bm->b<=h'.low:=by
 have P:=B.nx;have Q:=B.lt;have s:=B.big;have g:cs≠[]:=by rw[m];exact λh=>by cases h
 obtain⟨c,a⟩:=AFN.all B.has cs [] T0 (.nil T0) B.sec B.key λy _ z a=>by cases a
 have a:AFN T0 cs c:=a;obtain⟨N,l,t⟩:=qa B g c;have A:(⟨h.next,h.next,0,h.mark,h.bl⟩:Hp).Wf:=⟨B.wf.big,B.wf.has,B.wf.fresh⟩;have w:FlI h it bm bc n c0 cs T0 [] ⟨h.next,h.next,0,h.mark,h.bl⟩:=⟨A,rfl,.inl ⟨rfl,rfl,rfl⟩,B.itr,λ_ _ _ _=>rfl,⟨T0,[],B.med,.nil T0,λy=>⟨λh=>(by cases h),λ⟨_,_,h⟩=>by cases h⟩⟩,by rw[Lf,Jx];exact wC _⟩;have x:PV fK fB F e h it N:=⟨t,W9 B a l g s0 r 64 [] _ [] w (by rw[Lf,Jx];omega)⟩;obtain⟨R,S,U,p⟩:=l;obtain⟨h',C,D,E,d,_,G⟩:=UO B.wf x (by omega);have M:Ei (h.bl.get it)=.ok (BY bc) (c0+cs.length) [] (c0+cs.length):=by rw[B.itr];rfl
 have o:Bi h bc=.ok (AEg c0 cs) (c0+cs.length):=by unfold Bi;rw[B.map];rfl
 refine⟨Env.set 23 (.bool IS) (C6 e fK.ws),h',?_,?_,D,by rw[E];omega,λi j L k=>?_,c,?_,a,λb j _ k=>by rw[G];omega⟩
 ·rw[lx]
  unfold Jo;have u:J fK.it e=.pointer (BY ⟨it,0,By⟩):=r;have K:AEg c0 cs=⟨AI AT (y.1:Int),DR y.2,c0⟩::⟨AI AT (z.1:Int),DR z.2,c0+1⟩::AEg (c0+1+1) q:=by rw[m];rfl
  rw[K]at o;have H:wY 256 it=IN:=Am.2 s.2;simp only[u,M,o,yG,cond_true,H];exact C
 ·obtain⟨I,_⟩:=WV (e:=e)
  rw[AG (by decide) (by decide),If (by decide),I];exact s0
 ·rw[d i j L,p,If (by omega),If k]
 ·rw[d bm (by omega) (by omega),p,If (by omega),IT rfl]
theorem qZ(B:FlB h it bd bm bc n c0 cs arm dn T0){y:Nat×List Nat}(r:cs=[y])(s0:J 0 e=pt bd)(K:J 21 e=pt it):
  ∃f h',fW F e h=.exit 0 f h'/\J 0 f=pt bd/\h'.Wf/\h.next<=h'.next/\(∀i,i<h.next->i≠it->i≠bm->h'.bl.get i=h.bl.get i)/\∃T,h'.bl.get bm=.cells T (64*n) 0/\AFN T0 cs T/\∀j,j<=h.low->j<=it->j<=bm->j<=h'.low:=by
 have a3:=B.nx;have a5:=B.lt;have x:=B.big;have s:Ei (h.bl.get it)=.ok (BY bc) (c0+cs.length) [] (c0+cs.length):=by rw[B.itr];rfl
 have d:Bi h bc=.ok (AEg c0 cs) (c0+cs.length):=by unfold Bi;rw[B.map];rfl
 have E:cs[0]? =BY y:=by rw[r];rfl
 obtain⟨y1,L,y3⟩:=B.sec y (wO E);obtain⟨N,X,Y⟩:=(AFN.nil T0).step B.has (k:=y.1) (l:=y.2) (by omega) L λa6 hz=>by cases hz
 have u:AEg c0 cs=[⟨AI AT (y.1:Int),DR y.2,c0⟩]:=by rw[r];rfl
 have a4:cs.length=1:=by rw[r];rfl
 have w:Lx (c0+cs.length) [] [⟨AI AT (y.1:Int),DR y.2,c0⟩]=BY [⟨AI AT (y.1:Int),DR y.2,c0⟩]:=by
  show(bif Nat.blt c0 (c0+cs.length)then BY [_]else By)=_;rw[BM.2 (by omega)];rfl
 have A:=B.wf.put (b:=it) (by omega) (.iter (BY bc) (c0+cs.length) [c0] (c0+cs.length));have q:=B.wf.AE1 (b:=it) (by omega) (.iter (BY bc) (c0+cs.length) [c0] (c0+cs.length));have G:Gz ⟨it,0,By⟩ h=.ok (.tuple ⟨[.bool IN,AI AT (y.1:Int),DR y.2]⟩) (h.put it (.iter (BY bc) (c0+cs.length) [c0] (c0+cs.length))):=by
  unfold Gz;simp only[s,d,u,w,cond_false];have:KV c0 []=[c0]:=rfl;rw[this,EE B.wf x.2 (by omega)]
 have n2:(h.put it (.iter (BY bc) (c0+cs.length) [c0] (c0+cs.length))).next=h.next:=rfl;have a0:(h.put it (.iter (BY bc) (c0+cs.length) [c0] (c0+cs.length))).low=min h.low it:=BV _ _;generalize h.put it (.iter (BY bc) (c0+cs.length) [c0] (c0+cs.length))=g2 at A q G n2 a0;have p:∀a,a≠it->g2.bl.get a=h.bl.get a:=λa W=>by rw[q,If W]
 have R:=RN (g:=g2) (seen:=[]) (c0:=c0) (i:=0) E (by rw[q,IT rfl];rfl) (by rw[p bc (by omega)];exact B.map);obtain⟨f,c,r1,r2,r3,r4,r5,r6,H,r8,r9⟩:=RY (F:=F) (e:=e) (g:=h) (g1:=g2) (it:=it) (bd:=bd) (bm:=bm) (bc:=bc) (n:=n) (k:=y.1) (l:=y.2) (T:=T0) (arm:=arm) (dn:=dn) A s0 K
  (λe d=>dJ G d) (λe d=>lw R d) (Ny B.disk (p bd (by omega))) ((p bm (by omega)).trans B.med) X y1 L x.1 (by omega)
 have z:∀a,a<h.next->a≠it->a≠bm->c.bl.get a=h.bl.get a:=λa o C D=>by rw[H a (by omega) D,p a C]
 have a1:Gz ⟨it,0,By⟩ c=.ok (.tuple ⟨[.bool IS]⟩) c:=by
  have s:Ei (c.bl.get it)=.ok (BY bc) (c0+cs.length) [c0] (c0+cs.length):=by rw[H it (by omega) (by omega),q,IT rfl];rfl
  have d:Bi c bc=.ok (AEg c0 cs) (c0+cs.length):=by
   unfold Bi;rw[z bc (by omega) (by omega) B.ne.2,B.map];rfl
  have w:Lx (c0+cs.length) [c0] [⟨AI AT (y.1:Int),DR y.2,c0⟩]=BY []:=by
   show(bif (bif wU c0 c0 then IN else IS)then BY []else _)=_;rw[yG];rfl
  have Z:Fu (c0+cs.length) [⟨AI AT (y.1:Int),DR y.2,c0⟩]=IS:=by
   show(bif wY (c0+cs.length) c0 then IN else IS)=IS;have:wY (c0+cs.length) c0=IS:=by
    cases U:wY (c0+cs.length) c0
    ·rfl
    ·have:=Am.1 U;omega
   rw[this];rfl
  unfold Gz;simp only[s,d,u,w,Z,cond_false];rfl
 have V:∃m,fB F f c=.exit 0 m c/\J 0 m=pt bd:=by
  have nn:=dJ (F:=F) a1 r3;unfold fB;simp only[sT,sh,OF,reduceIte,nn,Az,A8];exact⟨_,rfl,by simp[AG,r2]⟩
 obtain⟨m,O,P⟩:=V;refine⟨m,c,?_,P,r4,by omega,z,N,r6,by rw[r];exact Y,λj o C D=>by rw[r8];omega⟩;rw[lx];unfold Jo;have M:J fK.it e=.pointer (BY ⟨it,0,By⟩):=K;rw[u]at d;simp only[M,s,d];refine Bb (I:=λi t o=>(i=0/\t=e/\o=h)\/(i=1/\t=f/\o=c)) (Q:=λa2=>a2=.exit 0 m c) 1 (by omega) (λi t o S=>?_) (.inl ⟨rfl,rfl,rfl⟩);rcases S with ⟨rfl,rfl,rfl⟩|⟨rfl,rfl,rfl⟩
 ·exact .inl ⟨by omega,f,c,r1,.inr ⟨rfl,rfl,rfl⟩⟩
 ·right
  rw[O];exact⟨rfl,rfl⟩
theorem Rh{m:Nat}(O:h.Wf)(d:Dk h bd bm bc n M c0 cs arm IS){k:Nat}(S:Gk arm (k+1))(L:AFo cs)(r:AFG n cs)(h0:cs≠[])(R:cs.length<=60):
  ∃h',call AC (m+3) 121 [pt bd] h=.ok (AI AT 0) h'/\Fx (λb=>b=bd\/b=bm\/b=bc) h h'/\Dk h' bd bm bc n (FU M cs) (c0+cs.length) [] (AFj arm) IS:=by
 have y:=Ic (m:=m) d (i:=0) (by have:=d.n1;omega);have y:call AC (m+2) 130 [pt bd,AI AT 0] h=.ok (AI AT 0) h:=y;obtain⟨a,Z,c,s⟩:=Xo (m:=m+1) O d S;have P:iNe 0 0=IS:=CE rfl;obtain⟨_,l1,_,_⟩:=Cb s.disk;have X:=s.lt c.wf;have rg:∀(F:AES) (e:Env),J 20 e=.map (BY bc)->LZ (J 20) F e a=.ok (pt a.next) (a.push (.iter (BY bc) (c0+cs.length) [] (c0+cs.length))):=λF e u=>by
  have w:Bi a bc=.ok (AEg c0 cs) (c0+cs.length):=by unfold Bi;rw[s.map];rfl
  unfold LZ;rw[u];simp only[w];rw[Cv c.wf];rfl
 have E:=c.wf.push (.iter (BY bc) (c0+cs.length) [] (c0+cs.length));have D:=c.wf.AEr (.iter (BY bc) (c0+cs.length) [] (c0+cs.length));have t:a.Ext (a.push (.iter (BY bc) (c0+cs.length) [] (c0+cs.length))):=(Hp.Ext.refl c.wf).push _;have N:(a.push (.iter (BY bc) (c0+cs.length) [] (c0+cs.length))).next=a.next+1:=rfl;generalize a.push (.iter (BY bc) (c0+cs.length) [] (c0+cs.length))=p at rg E D t N;have o:=s.ext c.wf t;obtain⟨T0,t1,t2⟩:=o.med;rw[wF,o.len]at t1;have C:FlB p a.next bd bm bc n c0 cs (AFj arm) IS T0:=⟨E,N,by rw[D,IT rfl],o.disk,t1,λY W=>(t2 Y (by rw[wF,o.len];exact W)).1,o.map,X,⟨d.bdm,λh=>d.bmc h.symm⟩,⟨d.big.2.1,c.wf.big⟩,r,L⟩;have sQ:∀(F:AES) (e:Env),J 0 e=pt bd->J 21 e=pt a.next->∃I h',fW F e p=.exit 0 I h'/\J 0 I=pt bd/\h'.Wf/\p.next<=h'.next/\(∀i,i<p.next->i≠a.next->i≠bm->h'.bl.get i=p.bl.get i)/\∃T,h'.bl.get bm=.cells T (64 * n) 0/\AFN T0 cs T/\∀j,j<=p.low->j<=a.next->j<=bm->j<=h'.low:=λF e g K=>by
  cases cs with
  |nil=>exact absurd rfl h0
  |cons a2 l=>
   cases l with
   |nil=>exact qZ C rfl g K
   |cons a3 l=>exact io C rfl R g K
 have a1:∃g,RJ (call AC (m+2)) (Ay e0 0 [pt bd]) h=fS (call AC (m+2)) g p/\J 0 g=pt bd/\J 21 g=pt a.next:=by
  unfold RJ;simp only[iN,wA,sT,sh,OF,reduceIte,cA0,y,Z,AM,AK,P,An,AX,AH,AN,AJ,AP,wC,l1,rg];exact⟨_,rfl,by simp[AG]⟩
 obtain⟨g,p1,p2,p3⟩:=a1;obtain⟨e3,f,w1,w2,A,w4,B,T,w6,w7,w8⟩:=sQ (call AC (m+2)) g p2 p3;have d3:f.Row bd 0 (dkL bm bc n (AFj arm) IS):=Ny o.disk (B bd (by omega) (by omega) d.bdm);have m3:f.bl.get bc=.map (AEg c0 cs) (c0+cs.length):=by rw[B bc (by omega) (by omega) (λh=>d.bmc h.symm)];exact o.map
 have r3:f.Row bm 0 ((FU M cs).map bv):=⟨T,by rw[w6,wF,Fq d.len r],w7.is t2 d.len r L⟩;obtain⟨_,l3,_,_⟩:=Cb d3;have H:∀(F:AES) (e:Env),J 37 e=.map (BY bc)->ED (J 37) F e f=.ok AEU (f.put bc (.map [] (c0+cs.length))):=λF e u=>by
  have w:Bi f bc=.ok (AEg c0 cs) (c0+cs.length):=by unfold Bi;rw[m3];rfl
  unfold ED;rw[u];simp only[w];rw[EE A d.big.2.2 (by omega)];rfl
 have G:=A.put (b:=bc) (by omega) (.map [] (c0+cs.length));have q:=A.AE1 (b:=bc) (by omega) (.map [] (c0+cs.length));have n4:(f.put bc (.map [] (c0+cs.length))).next=f.next:=rfl;have a0:(f.put bc (.map [] (c0+cs.length))).low=min f.low bc:=BV _ _;generalize f.put bc (.map [] (c0+cs.length))=Q at H G q n4 a0;refine⟨Q,?_,⟨by have:=c.next;omega,λi V x=>?_,G,λj q1 q2 z=>by
  have z1:=c.low j q1 q2 λb U=>z b (.inl U)
  have z2:=c.next;have z3:=t.low;have z4:=w8 j (by omega) (by omega) (z bm (.inr (.inl rfl)));have z5:=z bc (.inr (.inr rfl));omega⟩,⟨Ny d3 (by rw[q,If d.bdc]),Ny r3 (by rw[q,If d.bmc]),Fq d.len r,SN d.byt r,by rw[q,IT rfl];rfl,d.big,d.n1⟩⟩
 ·rw[WL rfl,Wl,p1,tK]
  simp only[BC,Aw,w1,A6,BA];unfold fE;simp only[sT,sh,OF,reduceIte,An,w2,AX,AH,AN,AJ,AP,wC,l3,H,lV0]
 ·have hn:=c.next
  rw[q,If (λe=>x (.inr (.inr e))),B i (by omega) (by omega) (λe=>x (.inr (.inl e))),t.get i (by omega),c.get i V (λe=>x (.inl e))]
end
structure Kt where
 a:Int
 b:Int
 c:Int
 s:Nat
 l:List Nat
 p:Nat
 u:vz
def AY(k:Kt):List vz:=[AI AT k.a,AI AT k.b,AI AT k.c,.int .u8 (k.s:Int),k.u,AI AT (k.p:Int)]
def ktV(k:Kt):vz:=.agg ⟨AY k⟩
def flK(ks:List Kt):List vz:=ks.flatMap AY
theorem Ca:∀ks:List Kt,(flK ks).length=6*ks.length
 |[]=>rfl
 |k::ks=>by
  show(AY k++flK ks).length=_;rw[wD,Ca ks,wK];show 6+_=_;omega
theorem J4(a b:List Kt):flK (a++b)=flK a++flK b:=List.flatMap_append
theorem Wy:∀(ks:List Kt) (i:Nat) (k:Kt),ks[i]? =BY k->((flK ks).drop (6*i)).take 6=AY k
 |[],i,k,a=>by cases a
 |x::ks,0,k,a=>by
  have a:BY x=BY k:=a;cases a;show((AY x++flK ks).drop 0).take 6=_;rw[xa];exact ADF rfl
 |x::ks,i+1,k,a=>by
  rw[xh]at a;show((AY x++flK ks).drop (6*(i+1))).take 6=_;have:6*(i+1)=(AY x).length+6*i:=by show _=6+_;omega
  rw[this,List.drop_length_add_append];exact Wy ks i k a
def Hp.KS(h:Hp)(S:Nat->Prop)(v:vz)(ks:List Kt):Prop:=(v=.slice By 0 0/\ks=[])\/∃b d c a,v=.slice (BY ⟨b,0,By⟩) ks.length d/\ks.length<=d/\h.Row b c a/\6*ks.length<=a.length/\a.take (6*ks.length)=flK ks/\(c=125\/c=0)/\S b
section
variable {h h':Hp}{S S':Nat->Prop}{v:vz}{ks:List Kt}
theorem Hp.KS.keep(o:h.KS S v ks)(hk:∀b c a,S b->h.Row b c a->h'.Row b c a):h'.KS S v ks:=by
 rcases o with d|⟨b,f,c,a,d,g,i,j,k,l,e⟩
 ·exact .inl d
 ·exact .inr ⟨b,f,c,a,d,g,hk _ _ _ e i,j,k,l,e⟩
theorem Hp.KS.ext(o:h.KS S v ks)(a:h.Wf)(x:h.Ext h'):h'.KS S v ks:=o.keep λ_ _ _ _ b=>b.ext a x
theorem Hp.KS.same(o:h.KS S v ks)(a:h'.bl=h.bl):h'.KS S v ks:=o.keep λ_ _ _ _ b=>b.same a
theorem Hp.KS.mono(o:h.KS S v ks)(m:∀b,S b->S' b):h.KS S' v ks:=by
 rcases o with a|⟨b,d,e,c,a,f,g,i,j,k,l⟩
 ·exact .inl a
 ·exact .inr ⟨b,d,e,c,a,f,g,i,j,k,m _ l⟩
theorem Hp.KS.len(o:h.KS S v ks)(g:Hp):AFB v g=.ok (AI AT (ks.length:Int)) g:=by
 rcases o with ⟨rfl,rfl⟩|⟨b,c,d,a,rfl,_⟩<;>rfl
theorem Hp.KS.at(o:h.KS S v ks){i:Nat}{k:Kt}(hi:ks[i]? =BY k):∃b,S b/\AFM 6 v (AI AT (i:Int)) h=.ok (.pointer (BY ⟨b,6*i,By⟩)) h/\loadN 6 ⟨b,6*i,By⟩ h=.ok (ktV k) h/\∀j w,(AY k)[j]? =BY w->AEV ⟨b,6*i+j,By⟩ h=.ok w h:=by
 have hil:=(wW.1 hi).1;rcases o with ⟨rfl,rfl⟩|⟨b,c,el,L,rfl,h2,h3,h4,h5,h6,h7⟩
 ·cases hi
 ·have hc:(L.drop (6*i)).take 6=AY k:=by
   have:=Wy ks i k hi;rw[<- h5,List.drop_take,AA0,yz (by omega)]at this;exact this
  refine⟨b,h7,?_,?_,λj w hj=>?_⟩
  ·have:=DB (h:=h) (n:=ks.length) (c:=c) (es:=6) (b:=b) (off:=0) (i:=i) (k:=.i64) hil
   rwa [wC,yR]at this
  ·rw[h3.loadN (by omega),hc];rfl
  ·have hj6:j<6:=(wW.1 hj).1
   rw[<- hc,yY,IT hj6,AAV]at hj;rw[h3.AEV (by omega),wG,hj];rfl
theorem Hp.KS.one(o:h.KS S v ks):cellsOf v=[v]/\oneCell v=IN/\known v=IN:=by
 rcases o with ⟨rfl,_⟩|⟨b,c,d,a,rfl,_⟩<;>exact⟨rfl,rfl,rfl⟩
end
def Hp.KW(h:Hp)(S:Nat->Prop)(v:vz)(ks:List Kt):Prop:=(v=.slice By 0 0/\ks=[])\/∃a,v=.slice (BY ⟨a,0,By⟩) ks.length ks.length/\h.Row a 125 (flK ks)/\S a
theorem Hp.KW.ks{h:Hp}{S:Nat->Prop}{v:vz}{ks:List Kt}(o:h.KW S v ks):h.KS S v ks:=by
 rcases o with a|⟨b,a,c,d⟩
 ·exact .inl a
 ·exact .inr ⟨b,_,_,_,a,wB _,c,by rw[Ca];omega,by rw[<- Ca,xz],.inl rfl,d⟩
theorem Hp.KS.ks{h:Hp}{S:Nat->Prop}{v:vz}{ks:List Kt}(o:h.KS S v ks):h.KS S v ks:=o
def Hp.WI(h:Hp)(S:Nat->Prop)(v:vz)(xs:List vz):Prop:=(v=.slice By 0 0/\xs=[])\/∃a b,v=.slice (BY ⟨a,0,By⟩) xs.length xs.length/\h.Row a b xs/\(b=4\/b=0)/\S a
theorem Hp.WI.keep{h h':Hp}{S:Nat->Prop}{v:vz}{xs:List vz}(o:h.WI S v xs)(hk:∀b a d,S b->h.Row b a d->h'.Row b a d):h'.WI S v xs:=by
 rcases o with c|⟨b,a,c,f,g,e⟩
 ·exact .inl c
 ·exact .inr ⟨b,a,c,hk _ _ _ e f,g,e⟩
theorem Hp.WI.vals{h:Hp}{S:Nat->Prop}{v:vz}{xs:List vz}(o:h.WI S v xs):h.AEs v xs:=by
 rcases o with a|⟨b,c,a,d,e,f⟩
 ·exact .inl a
 ·exact .inr ⟨b,0,_,c,xs,a,d,by omega,by rw[xa,xz]⟩
def AGt(h:Hp)(S:Nat->Prop)(k:Kt):Prop:=h.BS S k.u (k.l.map bv)/\(∀a∈k.l,a<256)/\k.l.length<=100/\(k.s=1\/k.s=2)/\AEh k.a k.b k.c k.s k.l.length=IN/\k.p<65536
def slL(bd e:Nat)(c b:vz)(a:Nat)(d:Bool):List vz:=[pt bd,pt e,AI AT 100,c,b,AI AT (a:Int),.bool d]
structure At where
 bs:Nat
 bd:Nat
 bm:Nat
 bc:Nat
 tb:Nat
 n:Nat
abbrev At.D(A:At):Nat->Prop:=λa=>a=A.bs\/a=A.bd\/a=A.bm\/a=A.bc
structure Sl (h:Hp)(A:At)(T M:List Nat)(c0:Nat)(arm:Int)(ks:List Kt)(fr:List Nat)(lv fv:vz)(bad:Nat)(ov:Bool):Prop where
 row:h.Row A.bs 0 (slL A.bd A.tb lv fv bad ov)
 dk:Dk h A.bd A.bm A.bc A.n M c0 [] arm IS
 tab:h.Row A.tb 0 (T.map wv)
 tok:AFD T
 ls:h.KS (λb=>¬A.D b) lv ks
 ko:∀k∈ks,AGt h (λb=>¬A.D b) k
 fs:h.WI (λb=>¬A.D b) fv (ints .i64 (fr.map xR))
 ne:A.bs≠A.bd/\A.bs≠A.bm/\A.bs≠A.bc/\¬A.D A.tb/\256<=A.bs
 le:ks.length<=1000/\fr.length<=1000/\bad<=1000/\∀p∈fr,3*p+3<=A.n
section
variable {F:AES}{e:Env}{h h':Hp}{A:At}{T M:List Nat}{c0 bad m:Nat}{arm:Int}{ks:List Kt}{fr:List Nat}{lv fv:vz}{ov:Bool}
theorem Sl.keep(s:Sl h A T M c0 arm ks fr lv fv bad ov)(a:∀b e d,h.Row b e d->h'.Row b e d)(i:h'.bl.get A.bc=h.bl.get A.bc):Sl h' A T M c0 arm ks fr lv fv bad ov:=
 ⟨a _ _ _ s.row,⟨a _ _ _ s.dk.disk,a _ _ _ s.dk.med,s.dk.len,s.dk.byt,i.trans s.dk.map,s.dk.big,s.dk.n1⟩,a _ _ _ s.tab,s.tok,s.ls.keep λ_ _ _ _ c=>a _ _ _ c,λg f=>⟨(s.ko g f).1.keep λ_ _ _ _ _ c=>a _ _ _ c,(s.ko g f).2⟩,s.fs.keep λ_ _ _ _ c=>a _ _ _ c,s.ne,s.le⟩
theorem Sl.ext(s:Sl h A T M c0 arm ks fr lv fv bad ov)(a:h.Wf)(x:h.Ext h'):Sl h' A T M c0 arm ks fr lv fv bad ov:=s.keep (λ_ _ _ b=>b.ext a x) (x.get _ (s.dk.lt a).2.2)
theorem Sl.same(s:Sl h A T M c0 arm ks fr lv fv bad ov)(a:h'.bl=h.bl):Sl h' A T M c0 arm ks fr lv fv bad ov:=s.keep (λ_ _ _ b=>b.same a) (by rw[a])
theorem BB{bs bd a:Nat}(R:h.Row bs 0 (slL bd a lv fv bad ov)):AEV ⟨bs,0,By⟩ h=.ok (pt bd) h/\AEV ⟨bs,1,By⟩ h=.ok (pt a) h/\AEV ⟨bs,2,By⟩ h=.ok (AI AT 100) h/\AEV ⟨bs,3,By⟩ h=.ok lv h/\AEV ⟨bs,4,By⟩ h=.ok fv h/\AEV ⟨bs,5,By⟩ h=.ok (AI AT (bad:Int)) h/\AEV ⟨bs,6,By⟩ h=.ok (.bool ov) h:=
 ⟨R.AEV (off:=0) (by show 0<7;omega),R.AEV (off:=1) (by show 1<7;omega),R.AEV (off:=2) (by show 2<7;omega),R.AEV (off:=3) (by show 3<7;omega),R.AEV (off:=4) (by show 4<7;omega),R.AEV (off:=5) (by show 5<7;omega),R.AEV (off:=6) (by show 6<7;omega)⟩
theorem tU{a b:Nat}(c:a*b<=1000000000):Ge Int.mul .i64 (AI AT (a:Int)) (AI AT (b:Int)) h=.ok (AI AT ((a*b:Nat):Int)) h:=by
 have:Int.mul (a:Int) (b:Int)=((a*b:Nat):Int):=(Int.natCast_mul a b).symm;rw[Co,this,Bl (by omega)]
theorem Vu{a b:Nat}(c:a+b<=1000000000):GF .i64 (AI AT (a:Int)) (AI AT (b:Int)) h=.ok (AI AT ((a+b:Nat):Int)) h:=by
 have:(a:Int)+(b:Int)=((a+b:Nat):Int):=by omega
 rw[FK,this,Bl (by omega)]
theorem PK:PJ 100=3:=by decide
theorem Mp{bs bd f:Nat}(R:h.Row bs 0 (slL bd f lv fv bad ov)){p:Nat}(g:p<=65536):call AC (m+2) 97 [pt bs,AI AT (p:Int)] h=.ok (AI AT ((p*3:Nat):Int)) h:=by
 obtain⟨_,_,e,_⟩:=BB R;have c:=X6 (n:=m) (h:=h) (z:=100);rw[PK]at c;have d:=tU (h:=h) (a:=p) (b:=3) (by omega);rw[ox rfl];unfold d97;simp only[iN,wA,sT,sh,OF,reduceIte,An,AX,AH,AN,wC,AJ,AP,e,cA0,c,B6,d,lV0]
theorem G4{f:OpF}{d:Qm}{v:vz}(a:h.Wf)(b:f F e h.quiet=.ok v h.quiet)(c:h.mark<=h.next):AZ d f F e h=.ok v (h.back h.quiet):=Cd b (.refl a.quiet) c
theorem gx{x y z:O}{b N k:Nat}(p:x e=.slice (BY ⟨b,0,By⟩) N N)(f:y e=AI AT (k:Int))(q:z e=AI AT (k:Int))(hk:k<=N):EL 5 1 x By (BY y) (BY z) F e h=.ok (.slice (BY ⟨b,0,By⟩) k k) h:=by
 have j:∀(i:Nat) (y:O) (a:Nat) (K:Nat->R),y e=AI AT (k:Int)->k<=a->Cy e (BY y) i a K=K k:=λi y a K f o=>by
  show(match Dj (y e)with|.ok d=>(bif wY d a then K d else .no)|.no=>.no)=_;rw[f,DM];simp only;rw[Am.2 o];rfl
 show(match x e with|.slice l d n=>Dr e d n By (BY y) (BY z) (λg c m=>Eh 5 1 l IN g c m h)|_=>.no)=_;rw[p];show Cy e (BY z) N N (λm=>Cy e (BY y) N m λc=>Cy e By 0 c λg=>Eh 5 1 (BY ⟨b,0,By⟩) IN g c m h)=_;rw[j _ _ _ _ q hk,j _ _ _ _ f (wB _)];show Bq (BY ⟨b,0,By⟩) 1 0 k k h=_;unfold Bq;simp only[Ae];cases k with
 |zero=>rfl
 |succ k=>rfl
theorem ax{x y z:O}(g:x e=.slice By 0 0)(i:y e=AI AT ((0:Nat):Int))(j:z e=AI AT ((0:Nat):Int)):EL 5 1 x By (BY y) (BY z) F e h=.ok (.slice By 0 0) h:=by
 show(match x e with|.slice c a d=>Dr e a d By (BY y) (BY z) (λk f m=>Eh 5 1 c IN k f m h)|_=>.no)=_;rw[g];show(match Dj (z e)with|.ok a=>(bif wY a 0 then(match Dj (y e)with|.ok b=>(bif wY b a then Bq By 1 0 b a h else .no)|.no=>.no)else .no)|.no=>.no)=_;rw[i,j];rfl
def dat(M:List Nat)(p k:Nat):List Nat:=(M.drop (64*(3*p+1))).take k
theorem bP{M:List Nat}{n p i:Nat}(a:M.length=64*n)(hi:3*p+1+i<n):dat M p (64*i)++sec M (3*p+1+i)=dat M p (64*(i+1)):=by
 unfold dat sec;have:M.drop (64*(3*p+1+i))=(M.drop (64*(3*p+1))).drop (64*i):=by rw[List.drop_drop];congr 1;omega
 rw[this,show 64*(i+1)=64*i+64 by omega,List.take_add]
theorem Jv{M:List Nat}{n p k:Nat}(a:M.length=64*n)(hk:64*(3*p+1)+k<=64*n):(dat M p k).length=k:=by
 unfold dat;rw[wu,xT];omega
theorem bO{M:List Nat}(a:∀x∈M,x<256)(p k:Nat):∀x∈dat M p k,x<256:=λx b=>a x (yx (xk b))
theorem eP:reS=BJ (Ab 0 (A4 reB)) reE:=rfl
theorem WY:pR=WZ:=rfl
theorem aG(u:h.Wf){bs bd bm bc tb n:Nat}(R:h.Row bs 0 (slL bd tb lv fv bad ov))(d:Dk h bd bm bc n M c0 [] arm IS){p k:Nat}(hp:3*p+3<=n)(hk:k<=128):
  ∃h' v,call AC (m+4) 110 [pt bs,AI AT (p:Int),AI AT (k:Int)] h=.ok (.tuple ⟨[v,AI AT 0]⟩) h'/\h.Ext h'/\h'.BS (λb=>h.next<=b) v ((dat M p k).map bv):=by
 have hn:=d.n1;have a7:∃j,WZ (call AC (m+3)) (Ay e0 0 [pt bs,AI AT (p:Int),AI AT (k:Int)]) h=reS (call AC (m+3)) j h/\J 0 j=pt bs/\J 1 j=AI AT (p:Int)/\J 2 j=AI AT (k:Int)/\J 8 j=.slice By 0 0/\J 9 j=AI AT ((0:Nat):Int):=by
  unfold WZ;simp only[iN,wA,sT,sh,OF,reduceIte];exact⟨_,rfl,by simp[AG]⟩
 obtain⟨j,T,s0,s1,s2,s8,s9⟩:=a7;have a8:∃g h' v i,A4 reB (call AC (m+3)) j h=.exit 0 g h'/\h.Ext h'/\h'.Own h.next 5 v ((dat M p (64*i)).map bv)/\k<=64*i/\i<=2/\J 8 g=v/\J 2 g=AI AT (k:Int):=by
  refine Bb (I:=λi g h'=>∃v,h.Ext h'/\h'.Own h.next 5 v ((dat M p (64*i)).map bv)/\J 0 g=pt bs/\J 1 g=AI AT (p:Int)/\J 2 g=AI AT (k:Int)/\J 8 g=v/\J 9 g=AI AT (i:Int)/\i<=2)
   (Q:=λa9=>∃g h' v i,a9=.exit 0 g h'/\h.Ext h'/\h'.Own h.next 5 v ((dat M p (64*i)).map bv)/\k<=64*i/\i<=2/\J 8 g=v/\J 2 g=AI AT (k:Int)) 2 (by omega) (λi g h' ⟨v,l,G,t0,t1,t2,t8,t9,hi⟩=>?_)
   ⟨_,.refl u,.inl ⟨rfl,rfl⟩,s0,s1,s2,s8,s9,by omega⟩
  have r:(dat M p (64*i)).length=64*i:=Jv d.len (by omega);have E:=G.vals.bl h';rw[r]at E;by_cases a4:64*i<k
  ·left
   have a0:i<2:=by omega
   have y:iLt ((64*i:Nat):Int) (k:Int)=IN:=Ec a4;have xm:=l.marked;have L:=(R.ext u xm);have a6:∀(S:Nat) (D:C) (F:AES) (e:Env),IU (.pointer (BY ⟨bs,S,By⟩)) D F e h'.marked=D F e h'.marked:=λS D F e=>DO (by
    show bs<h'.next;have:=R.lt u;have:=l.next;omega)
   obtain⟨l0,_⟩:=BB L;have k1:=Mp (m:=m+1) (L.same (h':=h'.marked.quiet) rfl) (p:=p) (by omega);have U:∀e:Env,J 0 e=pt bs->J 1 e=AI AT (p:Int)->AZ .weak (AU 97 [J 0,J 1]) (call AC (m+3)) e h'.marked=.ok (AI AT ((p*3:Nat):Int)) (h'.marked.back h'.marked.quiet):=λe j c=>by
    refine G4 l.wf.marked ?_ (wB _);rw[BG,AS,AS,Av,j,c];exact k1
   have H:h'.Ext (h'.marked.back h'.marked.quiet):=Hp.Ext.AFY (Hp.Ext.refl l.wf).marked (Hp.Ext.refl l.wf).marked.quiet;have n2:(h'.marked.back h'.marked.quiet).next=h'.next:=rfl;generalize h'.marked.back h'.marked.quiet=f at U H n2;have q:=l.trans H;have a1:=CL (h:=f) (i:=p * 3) (by omega);have a2:=Vu (h:=f) (a:=p * 3+1) (b:=i) (by omega);obtain⟨w,X,k2,y3,mk,n3,_⟩:=Xx (m:=m) q.quiet.wf ((d.ext u q).same (h':=f.quiet) rfl) (i:=p * 3+1+i) (by omega);have V:∀e:Env,J 22 e=pt bd->J 28 e=AI AT ((p * 3+1+i:Nat):Int)->AZ .free (AU 106 [J 22,J 28]) (call AC (m+3)) e f=.ok (.tuple ⟨[X,AI AT 0]⟩) (f.back w):=λe j c=>by
    refine BE ?_;rw[BG,AS,AS,Av,j,c];exact k2
   have K:f.Ext (f.back w):=.back y3;have P:Mk (f.back w) f.quiet.next X (sec M (p * 3+1+i)):=mk.same rfl;generalize f.back w=h4 at V K P;have Y:=q.trans K;have O:(sec M (p * 3+1+i)).length=64:=Ke d.len (by omega);obtain⟨A,W,k5,x5,o5,n5,b1⟩:=FG (eb:=1) (en:=5) (k:=h.next) Y (wB _) Y.next ((G.ext l.wf H).ext q.wf K) P.vals (by rw[wF,O];omega) (C8 _) (by rw[wF,wF,r,O];omega);rw[<- w9,show p * 3+1+i=3 * p+1+i by omega,bP d.len (by omega)]at o5;have c2:iNe 0 0=IS:=CE rfl;have a3:=CL (i:=i) (h:=A) (by omega);have B:∃c,reB (call AC (m+3)) g h'=.norm c A/\J 0 c=pt bs/\J 1 c=AI AT (p:Int)/\J 2 c=AI AT (k:Int)/\J 8 c=W/\J 9 c=AI AT ((i+1:Nat):Int):=by
    unfold reB;simp only[sT,sh,OF,reduceIte,Aa,t8,E,AM,AK,t2,y,Ar,An,t0,AX,AH,AN,wC,D7,a6,DL,AJ,AP,l0,U,t1,BL,a1,t9,a2,V,Az,A8,A9,c2,BD,k5,a3];exact⟨_,rfl,by simp[AG,t0,t1,t2]⟩
   obtain⟨c,s,o,t,r4,r5,r6⟩:=B;exact⟨a0,c,A,s,W,x5,o5,o,t,r4,r5,r6,by omega⟩
  ·right
   have y:iLt ((64*i:Nat):Int) (k:Int)=IS:=DC (by omega);have B:∃c,reB (call AC (m+3)) g h'=.exit 0 c h'/\J 8 c=v/\J 2 c=AI AT (k:Int):=by
    unfold reB;simp only[sT,sh,OF,reduceIte,Aa,t8,E,AM,AK,t2,y];exact⟨_,rfl,by simp[AG,t8,t2]⟩
   obtain⟨c,s,o,t⟩:=B;rw[s];exact⟨rfl,c,h',v,i,rfl,l,G,by omega,hi,o,t⟩
 obtain⟨c,f,v,i,s,q,o2,N,b2,o,t⟩:=a8;have r:(dat M p (64*i)).length=64*i:=Jv d.len (by omega);have a5:(dat M p (64*i)).take k=dat M p k:=by
  unfold dat;rw[AA0,yz N]
 have x:(dat M p k).length=k:=Jv d.len (by omega);rcases o2 with ⟨rfl,hx⟩|⟨b,rfl,Z,hb,b0⟩
 ·have h0:64*i=0:=by
   have:=congrArg zo hx;rw[wF,r]at this;exact this
  obtain rfl:k=0:=by omega
  have z:∀e:Env,J 8 e=.slice By 0 0->J 2 e=AI AT ((0:Nat):Int)->EL 5 1 (J 8) By (BY (J 2)) (BY (J 2)) (call AC (m+3)) e f=.ok (.slice By 0 0) f:=λe j c=>ax j c c
  refine⟨f,.slice By 0 0,?_,q,.inl ⟨rfl,?_⟩⟩
  ·rw[WE rfl,WY,T,eP]
   simp only[BC,Aw,s,A6,BA];unfold reE;simp only[sT,sh,OF,reduceIte,z,o,t,A7,C0]
  ·unfold dat;rfl
 ·rw[wF,r]at o
  have z:∀e:Env,J 8 e=.slice (BY ⟨b,0,By⟩) (64*i) (64*i)->J 2 e=AI AT (k:Int)->EL 5 1 (J 8) By (BY (J 2)) (BY (J 2)) (call AC (m+3)) e f=.ok (.slice (BY ⟨b,0,By⟩) k k) f:=λe j c=>gx j c c N
  refine⟨f,.slice (BY ⟨b,0,By⟩) k k,?_,q,.inr ⟨b,0,k,6,_,by rw[wF,x],by rw[wF,x];exact wB _,Z,by rw[wF,wF,x,r];omega,?_,hb,.inr rfl⟩⟩
  ·rw[WE rfl,WY,T,eP]
   simp only[BC,Aw,s,A6,BA];unfold reE;simp only[sT,sh,OF,reduceIte,z,o,t,A7,C0]
  ·rw[wF,x,xa,<- ABX,a5]
end
abbrev f86:vz:=.func (.func 108) ⟨[]⟩ ⟨[]⟩
theorem YU{n:Nat}{h:Hp}{c:Nat}:call AC (n+1) 108 [.int .u8 (c:Int)] h=.ok (.bool (iNe (c:Int) 0)) h:=by
 rw[gT rfl];unfold pP;simp only[iN,wA,sT,sh,OF,reduceIte,AM,AK,lV0]
theorem cI{n:Nat}{h:Hp}{u:vz}{l:List Nat}(s:h.AEs u (l.map bv))(F:l.length<=900000){e:Env}(s0:J 0 e=u)(s1:J 1 e=f86)(s7:J 7 e=AI AT (l.length:Int))(s8:J 8 e=AI AT ((0:Nat):Int)):
  (∃a,A4 ifB (call AC (n+1)) e h=.exit 0 a h/\∀x∈l,x=0)\/(∃a i,A4 ifB (call AC (n+1)) e h=.ret a h/\J 4 a=AI AT ((i:Nat):Int)/\∃x∈l,x≠0):=by
 refine Bb (I:=λi a d=>d=h/\J 0 a=u/\J 1 a=f86/\J 7 a=AI AT (l.length:Int)/\J 8 a=AI AT (i:Int)/\i<=l.length/\((∀x∈l,x=0)↔∀x∈l.drop i,x=0))
  (Q:=λx=>(∃a,x=.exit 0 a h/\∀x∈l,x=0)\/(∃a i,x=.ret a h/\J 4 a=AI AT ((i:Nat):Int)/\∃x∈l,x≠0)) l.length (by omega) (λi a d ⟨y,t0,t1,t7,t8,E,o⟩=>?_) ⟨rfl,s0,s1,s7,s8,wl _,by simp⟩
 subst y;by_cases f:i<l.length
 ·obtain⟨D,g1,g2⟩:=Jm s f
  have r:l.getD i 0∈l:=by
   rw[wG,wE f];exact List.getElem_mem f
  rw[Gn f]at o;generalize l.getD i 0=c at g2 o r;have m:=Ec f;have j:=YU (n:=n) (h:=d) (c:=c);by_cases p:c=0
  ·left
   subst p;have j:call AC (n+1) 108 [.int .u8 ((0:Nat):Int)] d=.ok (.bool IS) d:=j;have t:=CL (i:=i) (h:=d) (by omega);have g:∃b,ifB (call AC (n+1)) a d=.norm b d/\J 0 b=u/\J 1 b=f86/\J 7 b=AI AT (l.length:Int)/\J 8 b=AI AT ((i+1:Nat):Int):=by
    unfold ifB;simp only[sT,sh,OF,reduceIte,AM,AK,t8,t7,m,A1,t0,g1,AJ,g2,CN,t1,CJ,AS,Av,xI,wT,j,BL,t];exact⟨_,rfl,by simp[AG,t0,t1,t7]⟩
   obtain⟨b,k,q,A,B,C⟩:=g;refine⟨f,b,d,k,rfl,q,A,B,C,f,o.trans ?_⟩;simp
  ·right
   have w:iNe (c:Int) 0=IN:=by rw[H8];simpa using p
   rw[w]at j;have g:∃b,ifB (call AC (n+1)) a d=.ret b d/\J 4 b=AI AT (i:Int):=by
    unfold ifB;simp only[sT,sh,OF,reduceIte,AM,AK,t8,t7,m,A1,t0,g1,AJ,g2,CN,t1,CJ,AS,Av,xI,wT,j];exact⟨_,rfl,by simp[AG]⟩
   obtain⟨b,k,q⟩:=g;rw[k];exact⟨rfl,.inr ⟨b,i,rfl,q,c,r,p⟩⟩
 ·right
  have m:=DC (show l.length<=i by omega);have g:∃b,ifB (call AC (n+1)) a d=.exit 0 b d:=by
   unfold ifB;simp only[sT,sh,OF,reduceIte,AM,AK,t8,t7,m];exact⟨_,rfl⟩
  obtain⟨b,k⟩:=g;rw[k];refine⟨rfl,.inl ⟨b,rfl,o.2 ?_⟩⟩;rw[xV (by omega)];intro x z;cases z
theorem Tx{n:Nat}{h:Hp}{u:vz}{l:List Nat}(f:h.AEs u (l.map bv))(m:l.length<=900000):∃r:Bool,call AC (n+3) 107 [u,f86] h=.ok (.bool r) h/\(r=IN↔∃x∈l,x≠0):=by
 have j:=f.bl h;have t:∃a,OX (call AC (n+1)) (Ay e0 0 [u,f86]) h=ifS (call AC (n+1)) a h/\J 0 a=u/\J 1 a=f86/\J 7 a=AI AT (l.length:Int)/\J 8 a=AI AT ((0:Nat):Int):=by
  unfold OX;simp only[iN,wA,sT,sh,OF,reduceIte,Aa,j];exact⟨_,rfl,by simp[AG]⟩
 obtain⟨a,i,o,p,q,s⟩:=t;rcases cI (n:=n) f m o p q s with ⟨k,d,e⟩|⟨k,g,d,e,w⟩
 ·have c:call AC (n+2) 131 [u,f86] h=.ok (AI AT (-1)) h:=by
   rw[MM rfl,MO,i,Pw];simp only[BC,Aw,d,A6,BA];unfold ifE;simp only[sT,sh,OF,reduceIte,lV0]
  refine⟨IS,?_,by simp;exact e⟩;have b:iGe (-1) 0=IS:=E0 (by omega);rw[ML rfl];unfold Ye;simp only[iN,wA,sT,sh,OF,reduceIte,cA0,c,AM,AK,b,lV0]
 ·have c:call AC (n+2) 131 [u,f86] h=.ok (AI AT (g:Int)) h:=by
   rw[MM rfl,MO,i,Pw];simp only[BC,Aw,d,B7,Ce,lV0,e]
  refine⟨IN,?_,by simp only[true_iff];exact w⟩;have b:iGe (g:Int) 0=IN:=F0 (by omega);rw[ML rfl];unfold Ye;simp only[iN,wA,sT,sh,OF,reduceIte,cA0,c,AM,AK,b,lV0]
def K0:Kt:=⟨0,0,0,0,[],0,.slice By 0 0⟩
theorem fj:D4.zero=AY K0:=by kernel_rfl
theorem Fa:Bt .mt 0 (AY K0)=BY CR:=by kernel_rfl
section
variable {F:AES}{e:Env}{h g:Hp}{T M:List Nat}{c0 bad m:Nat}{arm:Int}{lv fv:vz}{ov:Bool}
theorem E6{h:Hp}{t u v w:vz}{l:List vz}:Gp 3 (.tuple ⟨t::u::v::w::l⟩) h=.ok w h:=rfl
theorem K4:BW D4.zero [] F e h=.ok (ktV K0) h:=by
 rw[Cx,Bw,fj];rfl
theorem V7{a b c:Int}{s p:Nat}{u:vz}{l:List Nat}{g1 g2:O}(d:g1 e=Bn a b c s u)(h2:g2 e=AI AT (p:Int)):BW D4.zero [(0,5,g1),(5,1,g2)] F e h=.ok (ktV ⟨a,b,c,s,l,p,u⟩) h:=by
 rw[Cx,fj,A3 (hk:=by rw[d];rfl),d,A3 (hk:=by rw[h2];rfl),h2,
  IT (show(cellsOf (Bn a b c s u)).length=5 from rfl),IT (show 0+5<=(AY K0).length by show 5<=6;omega),IT (show(cellsOf (AI AT (p:Int))).length=1 from rfl),IT (show 5+1<=(over (AY K0) 0 (cellsOf (Bn a b c s u))).length by show 6<=6;omega),Bw]
 rfl
theorem Ld(e:h.Wf)(x:h.Ext g){r:Nat}(i:h.next<=r){a:List vz}(R:g.Row r 0 a)(c:a.length=6){k:Kt}(j:oneCell k.u=IN):
  AEa 6 (pt r) (ktV k) g=.ok AEU (g.wr r 0 (AY k))/\loadN 6 ⟨r,0,By⟩ (g.wr r 0 (AY k))=.ok (ktV k) (g.wr r 0 (AY k))/\h.Ext (g.wr r 0 (AY k))/\(g.wr r 0 (AY k)).Row r 0 (AY k)/\(g.wr r 0 (AY k)).next=g.next:=by
 have d:256<=r:=by have:=e.big;omega
 have b:0+(AY k).length<=a.length:=by rw[c];show 0+6<=6;omega
 have f:Bd (AY k)=IN:=by
  show(bif oneCell k.u then IN else IS)=IN;rw[j];rfl
 have l:=R.AEa (n:=6) (off:=0) x.wf d (v:=ktV k) rfl b f;have wr:=R.AEf x.wf b;rw[FF (show a.length=(AY k).length from c)]at wr;exact⟨l,wr.loadN (off:=0) (n:=6) (by show 0+6<=6;omega),R.AEy x i b,wr,R.AE7 b⟩
def Hh(T M:List Nat)(p:Nat)(ns:List Nat):Prop:=L8 T (sec M (3*p)) ns/\at6 ns 4<=100/\CC T (dat M p (at6 ns 4))=at6 ns 5
theorem QG:lkB=Y4:=rfl
theorem qH:d69=Yh:=rfl
theorem vf{e:Env}{h:Hp}{d:Nat}{v:vz}{a b:Bool}{c:Int}(s4:J 4 e=pt d)(s5:J 5 e=.bool a)(s6:J 6 e=.bool b)(s7:J 7 e=AI AT c)(f:loadN 6 ⟨d,0,By⟩ h=.ok v h):IG [.cN (J 4) 6,.t (J 5),.t (J 6),.t (J 7)] (.ret e h)=.ok (.tuple ⟨[v,.bool a,.bool b,AI AT c]⟩) h:=by
 rw[A7,LM (v:=v) (by rw[s4,Ac];exact f),s5,s6,s7]
def mF(T M:List Nat)(p:Nat)(h h':Hp)(r:R):Prop:=
 (∃a b,Hh T M p a/\r=.ok (.tuple ⟨[ktV ⟨at6 a 1,at6 a 2,at6 a 3,at6 a 0,dat M p (at6 a 4),p,b⟩,.bool IN,.bool IS,AI AT 0]⟩) h'/\h'.BS (λc=>h.next<=c) b ((dat M p (at6 a 4)).map bv))\/
 ((¬ ∃a,Hh T M p a)/\∃bad:Bool,r=.ok (.tuple ⟨[ktV K0,.bool IS,.bool bad,AI AT 0]⟩) h'/\(bad=IN↔(∃d∈sec M (3*p),d≠0)\/∃a,L8 T (sec M (3*p)) a/\at6 a 4<=100))
theorem G1{T l a b:List Nat}(f:L8 T l a)(h2:L8 T l b):a=b:=by
 obtain⟨k,i,d,g,e,_⟩:=f;obtain⟨m,j,c,h,b3,_⟩:=h2;rw[d]at c;cases c;rw[e]at b3;cases b3;rfl
theorem Sy{T l ns:List Nat}(h:L8 T l ns):kB ns:=by
 obtain⟨_,_,_,_,_,a,_⟩:=h;exact kC.1 a
theorem XW(W:h.Wf){bs bd bm bc tb n:Nat}(R:h.Row bs 0 (slL bd tb lv fv bad ov))(Rt:h.Row tb 0 (T.map wv))(hT:AFD T)(d:Dk h bd bm bc n M c0 [] arm IS){p:Nat}(hp:3*p+3<=n):
  ∃h',h.Ext h'/\mF T M p h h' (call AC (m+5) 69 [pt bs,AI AT (p:Int)] h):=by
 have hn:=d.n1;have al:=λ(F:AES) (e:Env)=>BU (F:=F) (e:=e) W (n:=6) (t:=CR)
 have R4:=Hp.Row.alloc W Fa (show(AY K0).length=6 from rfl);have x1:h.Ext (h.push (.cells CR 6 0)):=(Hp.Ext.refl W).push _;have n1:(h.push (.cells CR 6 0)).next=h.next+1:=rfl;generalize h.push (.cells CR 6 0)=h1 at al R4 x1 n1;have xm:=x1.marked;have Rm:=R.ext W xm;have old:∀(off:Nat) (kk:C) (F:AES) (e:Env),IU (.pointer (BY ⟨bs,off,By⟩)) kk F e h1.marked=kk F e h1.marked:=λoff kk F e=>DO (by
  show bs<h1.next;have:=R.lt W;omega)
 obtain⟨l0,_⟩:=BB Rm;have k1:=Mp (m:=m+2) (Rm.same (h':=h1.marked.quiet) rfl) (p:=p) (by omega);have q1:∀e:Env,J 0 e=pt bs->J 1 e=AI AT (p:Int)->AZ .weak (AU 97 [J 0,J 1]) (call AC (m+4)) e h1.marked=.ok (AI AT ((p*3:Nat):Int)) (h1.marked.back h1.marked.quiet):=λe e1 e2=>by
  refine G4 x1.wf.marked ?_ (wB _);rw[BG,AS,AS,Av,e1,e2];exact k1
 have y2:h1.Ext (h1.marked.back h1.marked.quiet):=Hp.Ext.AFY (Hp.Ext.refl x1.wf).marked (Hp.Ext.refl x1.wf).marked.quiet;have n2:(h1.marked.back h1.marked.quiet).next=h1.next:=rfl;generalize h1.marked.back h1.marked.quiet=h2 at q1 y2 n2;have x2:=x1.trans y2;obtain⟨h3,v,k2,y3,mk,n3,_⟩:=Xx (m:=m+1) x2.quiet.wf ((d.ext W x2).same (h':=h2.quiet) rfl) (i:=p * 3) (by omega);have q2:∀e:Env,J 19 e=pt bd->J 22 e=AI AT ((p * 3:Nat):Int)->AZ .free (AU 106 [J 19,J 22]) (call AC (m+4)) e h2=.ok (.tuple ⟨[v,AI AT 0]⟩) (h2.back h3):=λe e1 e2=>by
  refine BE ?_;rw[BG,AS,AS,Av,e1,e2];exact k2
 have y4:h2.Ext (h2.back h3):=.back y3;have mk4:Mk (h2.back h3) h2.quiet.next v (sec M (p * 3)):=mk.same rfl;generalize h2.back h3=h4 at q2 y4 mk4;rw[yR p 3]at mk4;have x4:=x2.trans y4;have c0':iNe 0 0=IS:=CE rfl;have hsl:(sec M (3 * p)).length=64:=Ke d.len (by omega);have hsb:=ry d.byt (3 * p);obtain⟨r,k3,hr⟩:=Tx (n:=m+1) mk4.vals (by omega);obtain⟨_,l1,_⟩:=BB (R.ext W x4);obtain⟨h5,y5,hpar⟩:=eC (n:=m) x4.wf (Rt.ext W x4) hT mk4.vals mk4.cap hsb (by omega);have x5:=x4.trans y5;have al2:=λ(F:AES) (e:Env)=>BU (F:=F) (e:=e) x5.wf (n:=5) (t:=DT)
 have R11:=Hp.Row.alloc x5.wf Fm (show(A5 0 0 0 0 AEW).length=5 from rfl);have y6:h5.Ext (h5.push (.cells DT 5 0)):=(Hp.Ext.refl x5.wf).push _;have n6:(h5.push (.cells DT 5 0)).next=h5.next+1:=rfl;generalize h5.push (.cells DT 5 0)=h6 at al2 R11 y6 n6;have x6:=x5.trans y6;have hn5:=x5.next;have ALA:h.next+1<=h5.next:=by
  have:=((y2.trans y4).trans y5).next;omega
 have pre:∀(a b c:Int) (s many sum:Nat) (ok:Bool),call AC (m+4) 109 [pt tb,v] h4=.ok (.tuple ⟨[Bn a b c s AEW,AI AT (many:Int),.int .u32 (sum:Int),.bool ok]⟩) h5->
   ∃e1 h7,Yh (call AC (m+4)) (Ay e0 0 [pt bs,AI AT (p:Int)]) h=lkB (call AC (m+4)) e1 h7/\h.Ext h7/\h7.Row h5.next 0 (A5 a b c s AEW)/\h7.Row h.next 0 (AY K0)/\h5.next<h7.next/\J 0 e1=pt bs/\J 1 e1=AI AT (p:Int)/\J 4 e1=pt h.next/\J 10 e1=.bool (!r)/\J 11 e1=pt h5.next/\J 12 e1=AI AT (many:Int)/\J 13 e1=.int .u32 (sum:Int)/\J 14 e1=.bool ok:=λa b c s many sum ok hk=>by
  obtain⟨st,_,x7,R7,n7⟩:=MG x5.wf y6 (wB _) R11 rfl (a:=a) (b:=b) (c:=c) (s:=s) (u:=AEW) rfl;have R4':(h6.wr h5.next 0 (A5 a b c s AEW)).Row h.next 0 (AY K0):=((R4.ext x1.wf ((y2.trans y4).trans y5)).ext x5.wf x7);generalize h6.wr h5.next 0 (A5 a b c s AEW)=h7 at st x7 R7 n7 R4';have hrun:∃e1,Yh (call AC (m+4)) (Ay e0 0 [pt bs,AI AT (p:Int)]) h=lkB (call AC (m+4)) e1 h7/\J 0 e1=pt bs/\J 1 e1=AI AT (p:Int)/\J 4 e1=pt h.next/\J 10 e1=.bool (!r)/\J 11 e1=pt h5.next/\J 12 e1=AI AT (many:Int)/\J 13 e1=.int .u32 (sum:Int)/\J 14 e1=.bool ok:=by
   unfold Yh;simp only[iN,wA,sT,sh,OF,reduceIte,al,Ar,An,AX,AH,AN,wC,D7,old,DL,AJ,AP,l0,q1,q2,Az,A8,A9,Cm,E6,AM,AK,c0',cA0,k3,BO,BN,l1,hk,al2,AV,st];exact⟨_,rfl,by simp[AG]⟩
  obtain⟨e1,q⟩:=hrun;exact⟨e1,h7,q.1,x5.trans x7,R7,R4',by omega,q.2⟩
 have res:∀(hx g:Hp) (e1 e2:Env) (a b:Bool) (v:vz),Yh (call AC (m+4)) (Ay e0 0 [pt bs,AI AT (p:Int)]) h=lkB (call AC (m+4)) e1 hx->lkB (call AC (m+4)) e1 hx=.ret e2 g->J 4 e2=pt h.next->J 5 e2=.bool a->J 6 e2=.bool b->J 7 e2=AI AT 0->loadN 6 ⟨h.next,0,By⟩ g=.ok v g->
   call AC (m+5) 69 [pt bs,AI AT (p:Int)] h=.ok (.tuple ⟨[v,.bool a,.bool b,AI AT 0]⟩) g:=λhx g e1 e2 a b v i1 i2 t4 t5 t6 t7 hv=>by
  rw[oR rfl,qH,i1,i2];exact vf t4 t5 t6 t7 hv
 have K0u:oneCell K0.u=IN:=rfl;rcases hpar with ⟨ns,hP,hk⟩|⟨hP,hk⟩
 ·have AHy:=Sy hP
  obtain⟨e1,h7,p1,x7,R7,R47,AKI,s0,s1,s4,s10,s11,s12,s13,s14⟩:=pre _ _ _ _ (at6 ns 4) (at6 ns 5) IN hk;obtain⟨_,_,l2,_⟩:=BB (R.ext W x7);by_cases AGo:at6 ns 4<=100
  ·have c1:iGt (at6 ns 4:Int) 100=IS:=GQ (by omega)
   obtain⟨h8,u,k4,y8,vs8⟩:=aG (m:=m) x7.wf (R.ext W x7) (d.ext W x7) (p:=p) (k:=at6 ns 4) hp (by omega);have x8:=x7.trans y8;have R8:=R7.ext x7.wf y8;have u1:=vs8.vs.one;have ho4:4+(cellsOf u).length<=(A5 (at6 ns 1) (at6 ns 2) (at6 ns 3) (at6 ns 0) AEW).length:=by rw[u1.1];show 4+1<=5;omega
   have AEd:256<=h5.next:=by have:=W.big;omega
   have st8:AEa 1 (.pointer (BY ⟨h5.next,4,By⟩)) u h8=.ok AEU (h8.wr h5.next 4 (cellsOf u)):=R8.AEa (n:=1) (off:=4) x8.wf AEd (by rw[u1.1];rfl) ho4 (by
    rw[u1.1];show(bif oneCell u then IN else IS)=IN;rw[u1.2.1];rfl)
   have R9:=R8.AEf x8.wf ho4;have x9:=R8.AEy x8 (by omega) ho4;have n9:=R8.AE7 ho4;have R49:=R8.AFg x8.wf ho4 (R47.ext x7.wf y8) (by omega);have hkeep:∀b el L,b≠h5.next->h8.Row b el L->(h8.wr h5.next 4 (cellsOf u)).Row b el L:=λb el L hb r=>R8.AFg x8.wf ho4 r hb
   have hov:over (A5 (at6 ns 1) (at6 ns 2) (at6 ns 3) (at6 ns 0) AEW) 4 (cellsOf u)=A5 (at6 ns 1) (at6 ns 2) (at6 ns 3) (at6 ns 0) u:=by rw[u1.1];rfl
   rw[hov]at R9;have vs9:(h8.wr h5.next 4 (cellsOf u)).BS (λb=>h7.next<=b) u ((dat M p (at6 ns 4)).map bv):=vs8.keep λb el L hb _ r=>hkeep b el L (by omega) r
   generalize h8.wr h5.next 4 (cellsOf u)=h9 at st8 R9 x9 n9 R49 vs9;have x9m:=x9.marked;have R9m:h9.marked.Row h5.next 0 (A5 (at6 ns 1) (at6 ns 2) (at6 ns 3) (at6 ns 0) u):=R9.same rfl;obtain⟨_,_,_,_,lu,_⟩:=Br R9m;obtain⟨_,l1',_⟩:=BB (R.ext W x9m);have hdl:(dat M p (at6 ns 4)).length=at6 ns 4:=Jv d.len (by omega);obtain⟨hq,k5,hq2⟩:=fH (n:=m+3) (h:=h9.marked.quiet) ((Rt.ext W x9).same rfl) hT (vs9.vs.vals.same (h':=h9.marked.quiet) rfl) (bO d.byt p _) (by omega);have yq:h9.marked.quiet.Ext hq:=by
    rcases hq2 with rfl|rfl
    ·exact Hp.Ext.refl x9m.quiet.wf
    ·exact(Hp.Ext.refl x9m.quiet.wf).marked
   have nq:hq.next=h9.next:=by rcases hq2 with rfl|rfl<;>rfl
   have q5:∀e:Env,J 72 e=pt tb->J 74 e=u->AZ .free (AU 80 [J 72,J 74]) (call AC (m+4)) e h9.marked=.ok (.int .u32 ((CC T (dat M p (at6 ns 4)):Nat):Int)) (h9.marked.back hq):=λe e1 e2=>by
    refine BE ?_;rw[BG,AS,AS,Av,e1,e2];exact k5
   have y10:h9.marked.Ext (h9.marked.back hq):=.back yq;have n10:(h9.marked.back hq).next=h9.next:=nq;generalize h9.marked.back hq=h10 at q5 y10 n10;have x10:=x9m.trans y10;have R10:=R9m.ext x9m.wf y10;have AIY:h10.Row h.next 0 (AY K0):=(R49.same (h':=h9.marked) rfl).ext x9m.wf y10;have AKJ:h10.BS (λb=>h7.next<=b) u ((dat M p (at6 ns 4)).map bv):=(vs9.same (h':=h9.marked) rfl).ext x9m.wf y10;obtain⟨_,_,_,_,_,ln⟩:=Br R10;have AJL:at6 ns 0<=2:=AHy.1;by_cases AIZ:CC T (dat M p (at6 ns 4))=at6 ns 5
   ·have c2:iNe ((CC T (dat M p (at6 ns 4)):Nat):Int) ((at6 ns 5:Nat):Int)=IS:=CE (by rw[AIZ])
    have bd1:∀(F:AES) (e:Env),J 79 e=Bn (at6 ns 1) (at6 ns 2) (at6 ns 3) (at6 ns 0) u->J 1 e=AI AT (p:Int)->BW D4.zero [(0,5,J 79),(5,1,J 1)] F e h10=.ok (ktV ⟨at6 ns 1,at6 ns 2,at6 ns 3,at6 ns 0,dat M p (at6 ns 4),p,u⟩) h10:=λF e e1 e2=>V7 e1 e2
    obtain⟨w1,w2,w3,w4,w5⟩:=Ld W x10 (wB _) AIY rfl (k:=⟨at6 ns 1,at6 ns 2,at6 ns 3,at6 ns 0,dat M p (at6 ns 4),p,u⟩) u1.2.1;have AKK:∀b el L,b≠h.next->h10.Row b el L->(h10.wr h.next 0 (AY ⟨at6 ns 1,at6 ns 2,at6 ns 3,at6 ns 0,dat M p (at6 ns 4),p,u⟩)).Row b el L:=λb el L hb r=>AIY.AFg x10.wf (by show 0+6<=6;omega) r hb
    have AJM:(h10.wr h.next 0 (AY ⟨at6 ns 1,at6 ns 2,at6 ns 3,at6 ns 0,dat M p (at6 ns 4),p,u⟩)).BS (λb=>h7.next<=b) u ((dat M p (at6 ns 4)).map bv):=AKJ.keep λb el L hb _ r=>AKK b el L (by have:=x7.next;omega) r
    generalize h10.wr h.next 0 (AY ⟨at6 ns 1,at6 ns 2,at6 ns 3,at6 ns 0,dat M p (at6 ns 4),p,u⟩)=h11 at w1 w2 w3 w4 w5 AJM;have hrun:∃e2,lkB (call AC (m+4)) e1 h7=.ret e2 h11/\J 4 e2=pt h.next/\J 5 e2=.bool IN/\J 6 e2=.bool IS/\J 7 e2=AI AT 0:=by
     rw[QG];unfold Y4 lkC;simp only[sT,sh,OF,reduceIte,gD,BO,BN,s14,xK,s12,s0,An,AX,AH,AN,wC,AJ,AP,l2,AM,AK,c1,cA0,s1,k4,Az,A8,A9,s11,AV,st8,c0',Ar,l1',lu,q5,s13,c2,Ai,Ac,ln,bd1,s4,w1];exact⟨_,rfl,by simp[AG,s4]⟩
    obtain⟨e2,i2,t4,t5,t6,t7⟩:=hrun;exact⟨h11,w3,.inl ⟨ns,u,⟨hP,AGo,AIZ⟩,res h7 h11 e1 e2 IN IS _ p1 i2 t4 t5 t6 t7 w2,AJM.mono λb hb=>wy x7.next hb⟩⟩
   ·have c2:iNe ((CC T (dat M p (at6 ns 4)):Nat):Int) ((at6 ns 5:Nat):Int)=IN:=De (by omega)
    obtain⟨w1,w2,w3,w4,w5⟩:=Ld W x10 (wB _) AIY rfl (k:=K0) K0u;generalize h10.wr h.next 0 (AY K0)=h11 at w1 w2 w3 w4 w5;have hrun:∃e2,lkB (call AC (m+4)) e1 h7=.ret e2 h11/\J 4 e2=pt h.next/\J 5 e2=.bool IS/\J 6 e2=.bool IN/\J 7 e2=AI AT 0:=by
     rw[QG];unfold Y4 lkC;simp only[sT,sh,OF,reduceIte,gD,BO,BN,s14,xK,s12,s0,An,AX,AH,AN,wC,AJ,AP,l2,AM,AK,c1,cA0,s1,k4,Az,A8,A9,s11,AV,st8,c0',Ar,l1',lu,q5,s13,c2,K4,s4,w1];exact⟨_,rfl,by simp[AG,s4]⟩
    obtain⟨e2,i2,t4,t5,t6,t7⟩:=hrun;refine⟨h11,w3,.inr ⟨?_,IN,res h7 h11 e1 e2 IS IN _ p1 i2 t4 t5 t6 t7 w2,⟨λ_=>.inr ⟨ns,hP,AGo⟩,λ_=>rfl⟩⟩⟩;rintro⟨ns',a1,a2,a3⟩;obtain rfl:=G1 hP a1;exact AIZ a3
  ·have c1:iGt (at6 ns 4:Int) 100=IN:=Hm (by omega)
   obtain⟨w1,w2,w3,w4,w5⟩:=Ld W x7 (wB _) R47 rfl (k:=K0) K0u;generalize h7.wr h.next 0 (AY K0)=h11 at w1 w2 w3 w4 w5;have hrun:∃e2,lkB (call AC (m+4)) e1 h7=.ret e2 h11/\J 4 e2=pt h.next/\J 5 e2=.bool IS/\J 6 e2=.bool r/\J 7 e2=AI AT 0:=by
    rw[QG];unfold Y4;simp only[sT,sh,OF,reduceIte,gD,BO,BN,s14,xK,s12,s0,An,AX,AH,AN,wC,AJ,AP,l2,AM,AK,c1,K4,s10,ADv,s4,AV,w1];exact⟨_,rfl,by simp[AG,s4]⟩
   obtain⟨e2,i2,t4,t5,t6,t7⟩:=hrun;refine⟨h11,w3,.inr ⟨?_,r,res h7 h11 e1 e2 IS r _ p1 i2 t4 t5 t6 t7 w2,hr.trans ⟨.inl,?_⟩⟩⟩
   ·rintro⟨ns',a1,a2,a3⟩
    obtain rfl:=G1 hP a1;exact AGo a2
   ·rintro (h1|⟨ns',a1,a2⟩)
    ·exact h1
    ·obtain rfl:=G1 hP a1
     exact absurd a2 AGo
 ·obtain⟨e1,h7,p1,x7,R7,R47,AKI,s0,s1,s4,s10,s11,s12,s13,s14⟩:=pre 0 0 0 0 0 0 IS hk
  obtain⟨w1,w2,w3,w4,w5⟩:=Ld W x7 (wB _) R47 rfl (k:=K0) K0u;generalize h7.wr h.next 0 (AY K0)=h11 at w1 w2 w3 w4 w5;have hrun:∃e2,lkB (call AC (m+4)) e1 h7=.ret e2 h11/\J 4 e2=pt h.next/\J 5 e2=.bool IS/\J 6 e2=.bool r/\J 7 e2=AI AT 0:=by
   rw[QG];unfold Y4;simp only[sT,sh,OF,reduceIte,gD,BO,BN,s14,xP,K4,s10,ADv,s4,AV,w1];exact⟨_,rfl,by simp[AG,s4]⟩
  obtain⟨e2,i2,t4,t5,t6,t7⟩:=hrun;refine⟨h11,w3,.inr ⟨λ⟨ns',a1,_⟩=>hP ⟨ns',a1⟩,r,res h7 h11 e1 e2 IS r _ p1 i2 t4 t5 t6 t7 w2,hr.trans ⟨.inl,?_⟩⟩⟩;rintro (h1|⟨ns',a1,_⟩)
  ·exact h1
  ·exact absurd ⟨ns',a1⟩ hP
end
theorem EC{h:Hp}{b b' c d:Nat}{e f:List vz}(r:h.Row b c e)(l:h.Row b' d f)(k:c≠d):b≠b':=λj=>by
 subst j;obtain⟨_,g,_⟩:=r;obtain⟨_,a,_⟩:=l;rw[g]at a;injection a with _ _ i
 exact k i
def Hp.Cl(h:Hp)(S:Nat->Prop)(en:Nat)(v:vz)(xs:List vz):Prop:=(v=AEW/\xs=[])\/∃a b,v=.slice (BY ⟨a,0,By⟩) xs.length xs.length/\h.Row a b xs/\(b=en+1\/b=0/\xs=[])/\S a/\256<=a
section
variable {F:AES}{e:Env}{h h0 h':Hp}{S:Nat->Prop}{en:Nat}{v u:vz}{xs:List vz}
theorem Hp.Cl.vs(o:h.Cl S en v xs):h.VS S v xs:=by
 rcases o with a|⟨b,c,a,d,f,e,g⟩
 ·exact .inl a
 ·exact .inr ⟨b,0,_,c,xs,a,wB _,d,by omega,by rw[xa,xz],e⟩
theorem FC{es eb b n:Nat}{cs:List vz}(i:h0.Ext h)(r:h.Row b 0 [])(w:∀k:List vz->R,BP h es u n k=k cs)(s:lenV u=.ok n)(x:cs.length=n*es)(y:0<n)(p:Bd cs=IN)(t:(n+1)*(eb+1)<=1099511627776):
  ∃h',DX es eb en (.slice (BY ⟨b,0,By⟩) 0 0) u h=.ok (.slice (BY ⟨h.next,0,By⟩) n n) h'/\h0.Ext h'/\h'.Row h.next (en+1) cs/\h'.next=h.next+1/\h.Ext h'/\h'.mark=h.mark/\h'.low=h.low/\h'.high=h.high:=by
 have c:=i.wf;obtain⟨g,a,q⟩:=r.rowOf;obtain⟨f,o,d⟩:=EG cs g [] 0 q (.inr rfl);have d:f.Is cs:=by simpa using d
 refine⟨h.push (.cells f cs.length (en+1)),?_,i.push _,⟨f,by rw[c.AEr,IT rfl],d⟩,rfl,(Hp.Ext.refl c).push _,rfl,rfl,rfl⟩;unfold DX DY;simp only[s,w,Ae,yH,wC];have j:wY n 0=IS:=by
  cases e:wY n 0
  ·rfl
  ·have:=Am.1 e;omega
 have l:wY (xW (wQ n) (wQ eb)) JZ=IN:=Am.2 (HP t);rw[j];simp only[l,cond_true,p];unfold Gv;have a:rowOf h b=.ok g 0 0:=a;have m:wU 0 (xW 0 es)=IN:=Ax.2 (zX es).symm;simp only[a,m,o];unfold Ez;simp only[a,Bf,yH,wC];unfold CP;rw[Ae,Cv c];rfl
theorem IM{es eb b:Nat}(c:h.Wf)(a:256<=b)(r:h.Row b 0 [])(g:∀k:List vz->R,BP h es u 0 k=k [])(f:lenV u=.ok 0):
  DX es eb en (.slice (BY ⟨b,0,By⟩) 0 0) u h=.ok (.slice (BY ⟨b,0,By⟩) 0 0) (h.wr b 0 []):=by
 unfold DX DY;simp only[f,g,Ae,yH];have d:wY 0 0=IN:=rfl;have e0:0+0=0:=rfl;simp only[e0,d];have e:Fc ⟨b,0,By⟩ (xW 0 es)=⟨b,0,By⟩:=by
  rw[show xW 0 es=0 from zX es];rfl
 rw[e,r.store c a (by simp) rfl]
theorem Hp.Row.AGd{es b d off n c sl:Nat}{l:List vz}(r:h.Row b d l)(a:off+n*es<=l.length){k:List vz->R}:BP h es (.slice (BY ⟨b,off,By⟩) sl c) n k=k ((l.drop off).take (n*es)):=by
 obtain⟨i,f,g⟩:=r.rowOf;unfold BP;simp only[f];have e:xW n es=n*es:=rfl;rw[e];simp only[yH];rw[Am.2 a];simp only[cond_true,GO,wT,Is.AFr g off _ a]
theorem KG{t b:Nat}{k:TK}{g:O}{a:Addr}{n c:Nat}(hk:k=.slice b)(d:g e=.slice (BY a) n c):oEq k IS g (W (.slice By 0 0)) F e h=.ok (.bool IS) h:=by
 subst hk;show(match eqV (.slice b) (g e) (.slice By 0 0)with|some f=>okB (IS != f) h|none=>.no)=_;rw[d];exact Fd
theorem KH{t a:Nat}{k:TK}{g:O}(hk:k=.slice a)(b:g e=.slice By 0 0):oEq k IS g (W (.slice By 0 0)) F e h=.ok (.bool IN) h:=by
 subst hk;show(match eqV (.slice a) (g e) (.slice By 0 0)with|some c=>okB (IS != c) h|none=>.no)=_;rw[b];exact Fd
theorem LH{t:List vz}(a:h.Wf):Ap 0 (BX t 0) [] F e h=.ok (.slice (BY ⟨h.next,0,By⟩) 0 0) (h.AER 0 []):=by
 have:BX t 0=[]:=rfl;rw[this,CQ,Bw,Cw a];rfl
end
section
variable {h0 h:Hp}{u:vz}{es eb en:Nat}{cs vs:List vz}
theorem KF(b:h0.Ext h)(i:∀k:List vz->R,BP h es u 1 k=k vs)(f:lenV u=.ok 1)(j:vs.length=es)(e:Bd vs=IN)(g:2*(eb+1)<=70368744177664):
  ∃h',DX es eb en AEW u h=.ok (.slice (BY ⟨h.next,0,By⟩) 1 1) h'/\h0.Ext h'/\h'.Row h.next (en+1) vs/\h'.next=h.next+1/\(h'.mark=h.mark/\h'.low=h.low/\h'.high=h.high)/\h.Ext h':=by
 have a:=b.wf;obtain⟨t1,t2⟩:=IR vs;refine⟨h.push (.cells (ofL vs) vs.length (en+1)),?_,b.push _,⟨ofL vs,by rw[a.AEr,IT rfl],t2⟩,rfl,⟨rfl,rfl,rfl⟩,(Hp.Ext.refl a).push _⟩;unfold DX DY;simp only[f,i,Ae,yH,wC];have c:wY 1 0=IS:=rfl;have d:wY (xW (wQ 1) (wQ eb)) JZ=IN:=Am.2 g;simp only[c,d,cond_true,e];unfold Gv BP J7;simp only[xI,t1];unfold Ez;simp only[Bf];unfold CP;rw[Ae,Cv a];rfl
theorem Of{n b:Nat}(j:h0.Ext h)(E:∀k:List vz->R,BP h es u 1 k=k vs)(B:lenV u=.ok 1)(J:vs.length=es)(I:0<es)(w:Bd vs=IN)(r:h.Row b (en+1) cs)(A:cs.length=n*es)(x:h0.next<=b)(y:256<=b)(C:(n+2)*(eb+1)<=70368744177664):
  ∃h',DX es eb en (.slice (BY ⟨b,0,By⟩) n n) u h=.ok (.slice (BY ⟨h.next,0,By⟩) (n+1) (n+1)) h'/\h0.Ext h'/\h'.Row h.next (en+1) (cs++vs)/\h'.next=h.next+1/\(h'.mark=h.mark/\h'.low=B9 h.low b/\h'.high=Cu h.high b)/\∀b',b'<h.next->b'≠b->h'.bl.get b'=h.bl.get b':=by
 have a:=j.wf;obtain⟨m,i,z⟩:=r.rowOf;obtain⟨e,t,c⟩:=EG vs m cs cs.length z (.inr rfl);have c:e.Is (cs++vs):=by
  have g:cs.drop (cs.length+vs.length)=[]:=xV (by omega);rw[g]at c
  simpa using c
 have l:(cs++vs).length=cs.length+vs.length:=wD;have d:=r.lt a;have f:(h.put b .dead).Wf:=a.put d _;have G:h0.Ext (h.put b .dead):=j.put x d _;refine⟨(h.put b .dead).push (.cells e (cs.length+vs.length) (en+1)),?_,G.push _,⟨e,by
  have:=f.AEr (.cells e (cs.length+vs.length) (en+1)) h.next;rw[this,IT (show h.next=(h.put b .dead).next from rfl),l],c⟩,rfl,⟨rfl,rfl,rfl⟩,λb' H D=>?_⟩
 ·unfold DX DY
  simp only[B,E,Ae,yH];have o:wY (n+1) n=IS:=by
   cases g:wY (n+1) n
   ·rfl
   ·have:=Am.1 g;omega
  have p:wY (xW (wQ (n+1)) (wQ eb)) JZ=IN:=Am.2 C;rw[o];simp only[p,cond_true,w];unfold Gv;have q:wU cs.length (xW n es)=IN:=Ax.2 A;simp only[i,q,t];unfold Ez;have s:Lm 0 n es cs.length=IN:=by
   unfold Lm;cases n with
   |zero=>rfl
   |succ F=>exact Ax.2 (by show 0+(F+1)*es=cs.length;omega)
  simp only[i,Bf,yH,yG,cond_true,s];rw[EE a y d];unfold CP;rw[Ae,Cv f];rfl
 ·rw[f.AEr,If (by show b'≠h.next;omega),a.AE1 d,If D]
theorem J8{n b:Nat}(e:h0.Ext h)(D:∀k:List vz->R,BP h es u 1 k=k vs)(A:lenV u=.ok 1)(E:vs.length=es)(x:0<es)(p:Bd vs=IN)(r:h.Row b (en+1) cs)(z:cs.length=n*es)(q:h0.next<=b)(t:256<=b)(B:(n+2)*(eb+1)<=70368744177664):
  ∃h',DX es eb en (.slice (BY ⟨b,0,By⟩) n n) u h=.ok (.slice (BY ⟨h.next,0,By⟩) (n+1) (n+1)) h'/\h0.Ext h'/\h'.Row h.next (en+1) (cs++vs)/\h'.next=h.next+1/\(h'.mark=h.mark/\h'.low=B9 h.low b/\h'.high=Cu h.high b)/\∀b' c a,b'≠b->h.Row b' c a->h'.Row b' c a:=by
 obtain⟨h',f,g,i,j,l,m⟩:=Of e D A E x p r z q t B;refine⟨h',f,g,i,j,l,λb' c a C d=>?_⟩;have s:=d.lt e.wf;obtain⟨o,w,y⟩:=d;exact⟨o,(m b' s C).trans w,y⟩
end
theorem Q2{g:Hp}{a lo hi:Nat}(b:a<=lo)(h2:hi<=a):Hr (.ok a) g lo hi=IN:=by
 show(bif wY a lo then wY hi a else IS)=IN;rw[Am.2 b,Am.2 h2];rfl
theorem aZ{h0 h:Hp}{S:Nat->Prop}{eb en:Nat}{v w:vz}{xs:List vz}{bw:Nat}(j:h0.Ext h)(o:h.Cl S en v xs)(I:∀b,S b->h0.next<=b)(rw_:h.Row bw 0 [w])(L:oneCell w=IN)(N:xs.length<=1000000)(M:eb<=1000):
  ∃h' b',DX 1 eb en v (.slice (BY ⟨bw,0,By⟩) 1 1) h=.ok (.slice (BY ⟨b',0,By⟩) (xs.length+1) (xs.length+1)) h'/\h0.Ext h'/\h'.Row b' (en+1) (xs++[w])/\b'=h.next/\h'.next=h.next+1/\h'.mark=h.mark/\(∀b a c,¬S b->h.Row b a c->h'.Row b a c)/\(∀b a c,a≠en+1->h.Row b a c->h'.Row b a c)/\
   (h.low=h.next->h.high=0->∀g:Hp,g.next=h.next->Hr (AE0 v) g h'.low h'.high=IN):=by
 have A:∀B,BP h 1 (.slice (BY ⟨bw,0,By⟩) 1 1) 1 B=B [w]:=λB=>rw_.AGd (es:=1) (off:=0) (n:=1) (by show 0+1*1<=1;omega)
 have x:Bd [w]=IN:=by
  show(bif oneCell w then IN else IS)=IN;rw[L];rfl
 have z:(xs.length+2)*(eb+1)<=70368744177664:=by
  have:(xs.length+2)*(eb+1)<=1000002*1001:=Nat.mul_le_mul (by omega) (by omega);omega
 rcases o with ⟨rfl,rfl⟩|⟨b,a,rfl,f,J,C,D⟩
 ·obtain⟨e,k,l,m,p,⟨q,r,t⟩,d⟩:=KF (eb:=eb) (en:=en) j A rfl rfl x (by have:=z;simp only[xD]at this;omega)
  exact⟨e,h.next,k,l,m,rfl,p,q,λb a c _ f=>f.ext j.wf d,λb a c _ f=>f.ext j.wf d,λs u g y=>by
   show wY g.next e.low=IN;rw[r,s,y];exact Am.2 (wB _)⟩
 ·have O:=f.lt j.wf
  rcases J with rfl|⟨rfl,rfl⟩
  ·obtain⟨e,k,l,m,p,⟨q,r,t⟩,d⟩:=J8 (eb:=eb) (en:=en) (n:=xs.length) j A rfl rfl (by omega) x f (Nat.mul_one _).symm (I b C) D z
   refine⟨e,h.next,k,l,m,rfl,p,q,λb' a c K i=>d _ _ _ (λE=>K (E ▸ C)) i,λb' a c H i=>d _ _ _ (EC i f H) i,λs u g y=>?_⟩;have F:e.low=b:=by rw[r,s,BV];omega
   have G:e.high=b:=by rw[t,u,Bz];omega
   rw[F,G];exact Q2 (wB _) (wB _)
  ·obtain⟨e,k,l,m,p,d,q,r,t⟩:=FC (eb:=eb) (en:=en) (n:=1) j f A rfl rfl (by omega) x (by have:=z;simp only[xD]at this;omega)
   refine⟨e,h.next,k,l,m,rfl,p,q,λb' a c _ i=>i.ext j.wf d,λb' a c _ i=>i.ext j.wf d,λs u g y=>?_⟩;rw[r,t,s,u];show Hr (.ok b) g h.next 0=IN;exact Q2 (by omega) (wl _)
theorem Vy{h h':Hp}{F:AES}{e:Env}{x y:O}{eb en:Nat}{v u w:vz}(b:x e=v)(c:y e=u)(a:DX 1 eb en v u h.quiet=.ok w h')(hk:Hr (AE0 v) h h'.low h'.high=IN):Ja x (Bm 1 eb en x y) F e h=.ok w (h.back h'):=by
 show(match Bm 1 eb en x y F e h.quiet with|.ok v h'=>bif Hr (AE0 (x e)) h h'.low h'.high then DK h v h' else .no|.no=>.no)=_;rw[BD,b,c,a];show(bif Hr (AE0 v) h h'.low h'.high then DK h w h' else .no)=_;rw[hk];show DK h w h'=_;unfold DK;simp only[Ae];rfl
inductive AE9 where
 |w (i:Nat) (l:List Nat)
 |f
def BF:List Nat:=wR 64 0
def JF(h:Hp)(A:At)(S:Nat->Prop)(v:vz):AE9->Prop
 |.w g i=>(∃d b f j,v=.func (.func 126) ⟨[]⟩ ⟨[pt d,pt b,pt f]⟩/\h.Row d 0 [pt A.bs]/\h.Row b 0 [AI AT (g:Int)]/\h.Row f 0 [j]/\h.BS S j (i.map bv)/\S d/\S b/\S f)\/
  (∃c e a,v=.func (.func 119) ⟨[]⟩ ⟨[pt c,pt e]⟩/\h.Row c 0 [pt A.bs]/\h.Row e 0 [AI AT ((a:Nat):Int)]/\g=a*3/\a<=65536/\i=BF/\S c/\S e)
 |.f=>v=.func (.func 121) ⟨[pt A.bd]⟩ ⟨[]⟩
theorem Hp.BS.AFh{h h':Hp}{S f:Nat->Prop}{v:vz}{xs:List vz}(o:h.BS S v xs)(hk:∀b a c,S b->(a=0\/a=6)->h.Row b a c->h'.Row b a c/\f b):h'.BS f v xs:=by
 rcases o with d|⟨b,n,j,a,c,d,k,g,l,m,i,e⟩
 ·exact .inl d
 ·exact .inr ⟨b,n,j,a,c,d,k,(hk _ _ _ i e g).1,l,m,(hk _ _ _ i e g).2,e⟩
theorem JF.AFh{h h':Hp}{A:At}{S q:Nat->Prop}{v:vz}{d:AE9}(o:JF h A S v d)(r:∀b k j,S b->(k=0\/k=6)->h.Row b k j->h'.Row b k j/\q b):JF h' A q v d:=by
 cases d with
 |f=>exact o
 |w E F=>
  have a:=λb j s u=>r b 0 j s (.inl rfl) u
  rcases o with ⟨z,x,C,D,n,c,e,l,p,m,g,i⟩|⟨y,B,t,n,c,e,l,p,m,g,i⟩
  ·exact .inl ⟨z,x,C,D,n,(a _ _ m c).1,(a _ _ g e).1,(a _ _ i l).1,p.AFh r,(a _ _ m c).2,(a _ _ g e).2,(a _ _ i l).2⟩
  ·exact .inr ⟨y,B,t,n,(a _ _ g c).1,(a _ _ i e).1,l,p,m,(a _ _ g c).2,(a _ _ i e).2⟩
theorem bU{h:Hp}{A:At}{S:Nat->Prop}{v:vz}{d:AE9}(o:JF h A S v d):oneCell v=IN:=by
 cases d with
 |f=>have o:v=_:=o;rw[o];rfl
 |w b c=>rcases o with ⟨j,g,l,m,a,_⟩|⟨i,k,e,a,_⟩<;>rw[a]<;>rfl
abbrev Gd(h:Hp)(A:At)(v:vz)(d:AE9):Prop:=JF h A (λa=>¬A.D a) v d
def Dm(n:Nat):List (Nat×List Nat)->List AE9->Prop
 |_,[]=>True
 |cs,.w b c::a=>(∀d∈cs,d.1≠b)/\b<n/\c.length=64/\(∀d∈c,d<256)/\Dm n (cs++[(b,c)]) a
 |cs,.f::a=>cs≠[]/\cs.length<=60/\Dm n [] a
def Be:List Nat->List (Nat×List Nat)->List AE9->List Nat×List (Nat×List Nat)
 |M,a,[]=>(M,a)
 |M,a,.w c d::b=>Be M (a++[(c,d)]) b
 |M,a,.f::b=>Be (FU M a) [] b
structure Sc (h:Hp)(A:At)(T:List Nat)(ks:List Kt)(fr:List Nat)(lv fv:vz)(bad:Nat)(ov:Bool):Prop where
 row:h.Row A.bs 0 (slL A.bd A.tb lv fv bad ov)
 tab:h.Row A.tb 0 (T.map wv)
 tok:AFD T
 ls:h.KS (λb=>¬A.D b) lv ks
 ko:∀k∈ks,AGt h (λb=>¬A.D b) k
 fs:h.WI (λb=>¬A.D b) fv (ints .i64 (fr.map xR))
 ne:A.bs≠A.bd/\A.bs≠A.bm/\A.bs≠A.bc/\¬A.D A.tb/\256<=A.bs
 le:ks.length<=1000/\fr.length<=1000/\bad<=1000/\∀p∈fr,3*p+3<=A.n
section
variable {F:AES}{e:Env}{h h':Hp}{A:At}{T M:List Nat}{c0 bad m:Nat}{arm:Int}{ks:List Kt}{fr:List Nat}{lv fv:vz}{ov:Bool}
theorem Sl.sc(s:Sl h A T M c0 arm ks fr lv fv bad ov):Sc h A T ks fr lv fv bad ov:=⟨s.row,s.tab,s.tok,s.ls,s.ko,s.fs,s.ne,s.le⟩
theorem Sc.sl(s:Sc h A T ks fr lv fv bad ov)(d:Dk h A.bd A.bm A.bc A.n M c0 [] arm IS):Sl h A T M c0 arm ks fr lv fv bad ov:=⟨s.row,d,s.tab,s.tok,s.ls,s.ko,s.fs,s.ne,s.le⟩
theorem Sc.keep(s:Sc h A T ks fr lv fv bad ov)(c:∀b i g,b≠A.bd->b≠A.bm->b≠A.bc->h.Row b i g->h'.Row b i g):Sc h' A T ks fr lv fv bad ov:=by
 have nd:∀b,¬A.D b->b≠A.bd/\b≠A.bm/\b≠A.bc:=λb a=>⟨λe=>a (.inr (.inl e)),λe=>a (.inr (.inr (.inl e))),λe=>a (.inr (.inr (.inr e)))⟩
 have f:=nd _ s.ne.2.2.2.1;exact⟨c _ _ _ s.ne.1 s.ne.2.1 s.ne.2.2.1 s.row,c _ _ _ f.1 f.2.1 f.2.2 s.tab,s.tok,s.ls.keep λb _ _ a d=>c _ _ _ (nd b a).1 (nd b a).2.1 (nd b a).2.2 d,λk j=>⟨(s.ko k j).1.keep λb _ _ a _ d=>c _ _ _ (nd b a).1 (nd b a).2.1 (nd b a).2.2 d,(s.ko k j).2⟩,s.fs.keep λb _ _ a d=>c _ _ _ (nd b a).1 (nd b a).2.1 (nd b a).2.2 d,s.ne,s.le⟩
abbrev At.K(A:At):Nat->Prop:=λa=>a=A.bd\/a=A.bm\/a=A.bc
theorem Sc.fx(s:Sc h A T ks fr lv fv bad ov)(a:h.Wf)(x:Fx A.K h h'):Sc h' A T ks fr lv fv bad ov:=s.keep λd e c f g i b=>x.row a b (by rintro (h|h|h)<;>contradiction)
theorem Gd.keep{v:vz}{d:AE9}(o:Gd h A v d)(i:True)(f:∀b c a,¬A.D b->h.Row b c a->h'.Row b c a):Gd h' A v d:=o.AFh λb c a e _ g=>⟨f b c a e g,e⟩
theorem Uu{b:Nat}(h:¬A.D b):¬A.K b:=λa=>h (.inr a)
theorem Wp(b:h.Wf)(R:h.Row A.bs 0 (slL A.bd A.tb lv fv bad ov))(a4:¬A.K A.bs){cs:List (Nat×List Nat)}(d:Dk h A.bd A.bm A.bc A.n M c0 cs arm IS){k:Nat}(L:Gk arm (k+1)){v:vz}{i:Nat}{l:List Nat}(o:Gd h A v (.w i l))(hi:i<A.n)(O:∀x∈cs,x.1≠i/\x.1<A.n)(hl:l.length=64):
  ∃h',HD (call AC (m+4)) v [] h=.ok (AI AT 0) h'/\Fx A.K h h'/\Dk h' A.bd A.bm A.bc A.n M c0 (cs++[(i,l)]) (AFj arm) IS:=by
 rcases o with ⟨U,Q,X,u,rfl,h2,z,q,B,h6,h7,h8⟩|⟨G,V,p,rfl,h2,z,rfl,B,rfl,h7,h8⟩
 ·obtain⟨E,_⟩:=BB (R.same (h':=h.marked) rfl)
  have m3:AEV ⟨U,0,By⟩ h.marked=.ok (pt A.bs) h.marked:=(h2.same (h':=h.marked) rfl).AEV (off:=0) (by show 0<1;omega);have a0:AEV ⟨Q,0,By⟩ h.marked=.ok (AI AT (i:Int)) h.marked:=(z.same (h':=h.marked) rfl).AEV (off:=0) (by show 0<1;omega);have m9:AEV ⟨X,0,By⟩ h.marked=.ok u h.marked:=(q.same (h':=h.marked) rfl).AEV (off:=0) (by show 0<1;omega);obtain⟨w,D,f1,d1⟩:=Tt (m:=m) b.marked.quiet (d.same (h':=h.marked.quiet) rfl) L hi O ((B.vs.same (h':=h.marked.quiet) rfl).mono λK r e=>r (.inr (.inl e))) hl;have s:∀e:Env,J 7 e=pt A.bd->J 8 e=AI AT (i:Int)->J 9 e=u->AZ .free (AU 120 [J 7,J 8,J 9]) (call AC (m+3)) e h.marked=.ok (AI AT 0) (h.marked.back w):=λe j n t=>by
   refine BE ?_;rw[BG,AS,AS,AS,Av,j,n,t];exact D
  refine⟨h.marked.back w,?_,((f1.mono (T:=A.K) λK r=>r.elim .inl λh=>.inr (.inr h)).from (h:=h.marked) rfl rfl).same (h2:=h.marked.back w) rfl rfl |>.from (h:=h) rfl rfl,d1.same rfl⟩;rw[CJ];show call AC (m+3+1) 126 [pt U,pt Q,pt X] h=_;rw[WM rfl];unfold iE;simp only[iN,wA,sT,sh,OF,reduceIte,Ar,AJ,AP,m3,An,AX,AH,AN,wC,E,a0,m9,s,lV0]
 ·have m2:AEV ⟨G,0,By⟩ h.marked=.ok (pt A.bs) h.marked:=(h2.same (h':=h.marked) rfl).AEV (off:=0) (by show 0<1;omega)
  have m7:AEV ⟨V,0,By⟩ h.marked=.ok (AI AT (p:Int)) h.marked:=(z.same (h':=h.marked) rfl).AEV (off:=0) (by show 0<1;omega);obtain⟨E,_⟩:=BB (R.same (h':=h.marked) rfl);have o1:∀(off:Nat) (c:C) (F:AES) (e:Env),IU (.pointer (BY ⟨G,off,By⟩)) c F e h.marked=c F e h.marked:=λoff c F e=>DO (h2.lt b)
  have o2:∀(off:Nat) (c:C) (F:AES) (e:Env),IU (.pointer (BY ⟨A.bs,off,By⟩)) c F e h.marked=c F e h.marked:=λoff c F e=>DO (R.lt b)
  have D:=Mp (m:=m+1) (R.same (h':=h.marked.quiet) rfl) (p:=p) B;have s:∀e:Env,J 7 e=pt A.bs->J 8 e=AI AT (p:Int)->AZ .weak (AU 97 [J 7,J 8]) (call AC (m+3)) e h.marked=.ok (AI AT ((p*3:Nat):Int)) (h.marked.back h.marked.quiet):=λe j n=>by
   refine G4 b.marked ?_ (wB _);rw[BG,AS,AS,Av,j,n];exact D
  have g:h.Ext (h.marked.back h.marked.quiet):=Hp.Ext.AFY (Hp.Ext.refl b).marked (Hp.Ext.refl b).marked.quiet;have n2:(h.marked.back h.marked.quiet).next=h.next:=rfl;have Z:(h.marked.back h.marked.quiet).bl=h.bl:=rfl;have a1:(h.marked.back h.marked.quiet).mark=h.next:=rfl;generalize h.marked.back h.marked.quiet=a at s g n2 Z a1;have P:∀(F:AES) (e:Env),AZ .AEk (G0 1 ty5.zero (W (AI AT 64)) (W (AI AT 64))) F e a=.ok (.slice (BY ⟨a.next,0,By⟩) 64 64) (a.back (a.quiet.AER 0 (BF.map bv))):=λF e=>by
   have:=MV (F:=F) (e:=e) g.quiet.wf (x:=W (AI AT 64)) (y:=W (AI AT 64)) (N:=64) rfl rfl (by omega);have hz:wR 64 0=BF:=rfl;exact Cd this ((Hp.Ext.refl g.quiet.wf).AER _ _) (by omega)
  have Y:a.Ext (a.back (a.quiet.AER 0 (BF.map bv))):=.back ((Hp.Ext.refl g.wf.quiet).AER _ _);have I:(a.back (a.quiet.AER 0 (BF.map bv))).Row a.next 0 (BF.map bv):=(Hp.Row.new g.wf.quiet 0 (BF.map bv)).same rfl;have n3:(a.back (a.quiet.AER 0 (BF.map bv))).next=a.next+1:=rfl;generalize a.back (a.quiet.AER 0 (BF.map bv))=f at P Y I n3;have H:=g.trans Y;have a3:=(d.lt b).1;have a2:BF.length=64:=rfl;obtain⟨q,k4,f4,d4⟩:=Tt (m:=m) H.wf.quiet ((d.ext b H).same (h':=f.quiet) rfl) L hi O (u:=.slice (BY ⟨a.next,0,By⟩) 64 64) (l:=BF) (.inr ⟨a.next,0,64,0,_,rfl,wB _,I.same rfl,wB _,rfl,by omega⟩) rfl;have q4:∀e:Env,J 6 e=pt A.bd->J 9 e=AI AT ((p * 3:Nat):Int)->J 10 e=.slice (BY ⟨a.next,0,By⟩) 64 64->AZ .free (AU 120 [J 6,J 9,J 10]) (call AC (m+3)) e f=.ok (AI AT 0) (f.back q):=λe j n t=>by
   refine BE ?_;rw[BG,AS,AS,AS,Av,j,n,t];exact k4
  refine⟨f.back q,?_,(Fx.of (S:=A.K) H).trans (((f4.mono (T:=A.K) λK r=>r.elim .inl λh=>.inr (.inr h)).from (h:=f) rfl rfl).same (h2:=f.back q) rfl rfl),d4.same rfl⟩;rw[CJ];show call AC (m+3+1) 119 [pt G,pt V] h=_;rw[WJ rfl];unfold iC;simp only[iN,wA,sT,sh,OF,reduceIte,Ar,D7,o1,o2,DL,AJ,AP,m2,An,AX,AH,AN,wC,E,m7,s,P,q4,lV0]
theorem Zz:alS=BJ (Ab 0 (A4 alB)) alE:=rfl
theorem bN:d98=Yi:=rfl
theorem PG(M:List Nat)(cs:List (Nat×List Nat))(d:AE9)(ds:List AE9):Be M cs (d::ds)=Be (match d with|.w _ _=>M|.f=>FU M cs) (match d with|.w i l=>cs++[(i,l)]|.f=>[]) ds:=by cases d<;>rfl
theorem mL(W:h.Wf)(R:h.Row A.bs 0 (slL A.bd A.tb lv fv bad ov))(hne:¬A.K A.bs)(d:Dk h A.bd A.bm A.bc A.n M c0 [] arm IS){ds:List AE9}{vs:List vz}{dv:vz}(V:h.VS (λb=>¬A.D b) dv vs)(hlen:vs.length=ds.length)(hd:∀(i:Nat) (v:vz) (x:AE9),vs[i]? =BY v->ds[i]? =BY x->Gd h A v x)(hok:Dm A.n [] ds)(ha:Gk arm ds.length)(AGJ:ds.length<=100):
  ∃h' c1 AEv,call AC (m+5) 98 [pt A.bs,dv] h=.ok (AI AT 0) h'/\Fx A.K h h'/\Dk h' A.bd A.bm A.bc A.n (Be M [] ds).1 c1 (Be M [] ds).2 AEv IS/\AEv=(xx ds.length).foldl (λa _=>AFj a) arm:=by
 have Vl:=V.vals.len;have pre:∃e1,Yi (call AC (m+4)) (Ay e0 0 [pt A.bs,dv]) h=alS (call AC (m+4)) e1 h/\J 0 e1=pt A.bs/\J 8 e1=dv/\J 9 e1=AI AT (vs.length:Int)/\J 10 e1=AI AT ((0:Nat):Int):=by
  unfold Yi;simp only[iN,wA,sT,sh,OF,reduceIte,Aa,Vl];exact⟨_,rfl,by simp[AG]⟩
 obtain⟨e1,p1,s0,s8,s9,s10⟩:=pre;have run:∃e' h' c1 AEv,A4 alB (call AC (m+4)) e1 h=.exit 0 e' h'/\Fx A.K h h'/\Dk h' A.bd A.bm A.bc A.n (Be M [] ds).1 c1 (Be M [] ds).2 AEv IS/\AEv=(xx ds.length).foldl (λa _=>AFj a) arm:=by
  refine Bb (I:=λi e' h'=>∃(M':List Nat) (cs':List (Nat×List Nat)) (c1:Nat) (AEv:Int),Fx A.K h h'/\Dk h' A.bd A.bm A.bc A.n M' c1 cs' AEv IS/\AEv=(xx i).foldl (λa _=>AFj a) arm/\Gk AEv (ds.length - i)/\Dm A.n cs' (ds.drop i)/\Be M [] ds=Be M' cs' (ds.drop i)/\AFo cs'/\AFG A.n cs'/\i<=ds.length/\J 0 e'=pt A.bs/\J 8 e'=dv/\J 9 e'=AI AT (vs.length:Int)/\J 10 e'=AI AT (i:Int))
   (Q:=λx=>∃e' h' c1 AEv,x=.exit 0 e' h'/\Fx A.K h h'/\Dk h' A.bd A.bm A.bc A.n (Be M [] ds).1 c1 (Be M [] ds).2 AEv IS/\AEv=(xx ds.length).foldl (λa _=>AFj a) arm) ds.length (by omega) (λi e' h' ⟨M',cs',c1,AEv,x',d',ea,ha',ok',er,hK,hS,hi,t0,t8,t9,t10⟩=>?_)
   ⟨M,[],c0,arm,.refl W,d,rfl,by rw[Nat.sub_zero];exact ha,by rw[xa];exact hok,by rw[xa],λi j y z h=>(by cases h),λy hy=>(by cases hy),wl _,s0,s8,s9,s10⟩
  by_cases hlt:i<ds.length
  ·left
   have hiv:i<vs.length:=by omega
   have c1':iLt (i:Int) (vs.length:Int)=IN:=Ec hiv;have V':=V.fx W x' λb hb=>Uu hb
   obtain⟨a,g1,g2⟩:=V'.vals.at hiv;have hv:vs[i]? =BY (vs.getD i AEU):=by rw[wG,wE hiv];rfl
   have hx:ds[i]? =BY (ds[i]'hlt):=wE hlt;have dI:=(hd i _ _ hv hx).keep (h':=h') trivial λb el L hb r=>x'.row W r (Uu hb)
   generalize vs.getD i AEU=v at g2 dI;have AGe:ds.drop i=ds[i]'hlt::ds.drop (i+1):=yP hlt;rw[AGe]at ok' er;generalize ds[i]'hlt=x at dI ok' er;have hk:ds.length - i=(ds.length - (i+1))+1:=by omega
   rw[hk]at ha';have R':=x'.row W R hne;have step:∃h2 M2 cs2 c2,HD (call AC (m+4)) v [] h'=.ok (AI AT 0) h2/\Fx A.K h' h2/\Dk h2 A.bd A.bm A.bc A.n M2 c2 cs2 (AFj AEv) IS/\Dm A.n cs2 (ds.drop (i+1))/\Be M [] ds=Be M2 cs2 (ds.drop (i+1))/\AFo cs2/\AFG A.n cs2:=by
    cases x with
    |w j l=>
     obtain⟨o1,o2,o3,o4,o5⟩:=ok';obtain⟨h2,k2,f2,d2⟩:=Wp (m:=m) x'.wf R' hne d' ha' dI o2 (λy hy=>⟨o1 y hy,(hS y hy).1⟩) o3;refine⟨h2,M',cs'++[(j,l)],c1,k2,f2,d2,o5,er,λp q y z hp hq he=>?_,λy hy=>?_⟩
     ·rcases wh p cs'.length with hp1|hp1<;>rcases wh q cs'.length with hq1|hq1
      ·rw[wX hp1]at hp
       rw[wX hq1]at hq;exact hK p q y z hp hq he
      ·rw[wX hp1]at hp
       have hzm:=wO hq;rw[wi hq1]at hq;have hz:=wO hq;rw[wP.1 hz]at he;exact absurd he (o1 y (wO hp))
      ·rw[wX hq1]at hq
       rw[wi hp1]at hp;have hz:=wO hp;rw[wP.1 hz]at he;exact absurd he.symm (o1 z (wO hq))
      ·have h1:=(wW.1 hp).1
       have h2:=(wW.1 hq).1;rw[wD,xM]at h1 h2;omega
     ·rcases wd.1 hy with hy|hy
      ·exact hS y hy
      ·rw[wP.1 hy];exact⟨o2,o3,o4⟩
    |f=>
     obtain⟨o1,o2,o3⟩:=ok';obtain⟨h2,k2,f2,d2⟩:=Rh (m:=m+1) x'.wf d' ha' hK hS o1 o2;have dI:v=.func (.func 121) ⟨[pt A.bd]⟩ ⟨[]⟩:=dI;exact⟨h2,FU M' cs',[],_,by rw[dI,CJ];exact k2,f2,d2,o3,er,λi j y z h=>(by cases h),λy hy=>by cases hy⟩
   obtain⟨h2,M2,cs2,c2,k2,f2,d2,ok2,er2,hK2,hS2⟩:=step;have c0':iNe 0 0=IS:=CE rfl;have a3:=CL (i:=i) (h:=h2) (by omega);have hrun:∃e2,alB (call AC (m+4)) e' h'=.norm e2 h2/\J 0 e2=pt A.bs/\J 8 e2=dv/\J 9 e2=AI AT (vs.length:Int)/\J 10 e2=AI AT ((i+1:Nat):Int):=by
    unfold alB;simp only[sT,sh,OF,reduceIte,AM,AK,t10,t9,c1',A1,t8,g1,AJ,g2,CN,Av,k2,c0',BL,a3];exact⟨_,rfl,by simp[AG,t0,t8,t9]⟩
   obtain⟨e2,r1,r2,r3,r4,r5⟩:=hrun;exact⟨hlt,e2,h2,r1,M2,cs2,c2,AFj AEv,x'.trans f2,d2,by rw[yu,List.foldl_append,<- ea];rfl,ha'.one.1,ok2,er2,hK2,hS2,by omega,r2,r3,r4,r5⟩
  ·right
   have hie:i=ds.length:=by omega
   have c1':iLt (i:Int) (vs.length:Int)=IS:=DC (by omega);have hrun:∃e2,alB (call AC (m+4)) e' h'=.exit 0 e2 h':=by
    unfold alB;simp only[sT,sh,OF,reduceIte,AM,AK,t10,t9,c1'];exact⟨_,rfl⟩
   obtain⟨e2,r1⟩:=hrun;rw[r1];rw[hie,List.drop_length]at er;have er:Be M [] ds=(M',cs'):=er;rw[er];exact⟨rfl,e2,h',c1,AEv,rfl,x',d',by rw[ea,hie]⟩
 obtain⟨e2,h2,c1,AEv,r1,r2,r3,r4⟩:=run;refine⟨h2,c1,AEv,?_,r2,r3,r4⟩;rw[aW rfl,bN,p1,Zz];simp only[BC,Aw,r1,A6,BA];unfold alE;simp only[sT,sh,OF,reduceIte,lV0]
end
def C4(l:List Nat)(j:Nat):List Nat:=(l.drop (64*j)).take 64++wR (64 - ((l.drop (64*j)).take 64).length) 0
theorem Cf(l:List Nat)(j:Nat):(C4 l j).length=64:=by
 unfold C4;rw[wD,yI,wu];omega
theorem Js{l:List Nat}(h:∀x∈l,x<256)(j:Nat):∀x∈C4 l j,x<256:=λx hx=>by
 rcases wd.1 hx with hx|hx
 ·exact h x (yx (xk hx))
 ·rw[zb hx];decide
section
variable {F:AES}{e:Env}{h h':Hp}{A:At}{bad m:Nat}{lv fv:vz}{ov:Bool}
theorem Hp.AEs.AKL{v:vz}{l:List vz}(b:h.AEs v l){n:Nat}(d:n<=l.length)(k:List vz->R):BP h 1 v n k=k (l.take n):=by
 rcases b with ⟨a,c⟩|⟨b,m,g,i,f,a,c,j,e⟩
 ·subst a;subst c
  obtain rfl:n=0:=by simpa using d
  rfl
 ·rw[a,c.src (by omega),<- e,AA0,yz d]
theorem au(d:h.Wf){x y:O}{r:Nat}{w:vz}{l:List Nat}(c:256<=r)(i:x e=.slice (BY ⟨r,0,By⟩) 64 64)(j:y e=w)(b:h.AEs w (l.map bv))(R:h.Row r 0 (BF.map bv)):
  ∃v',KJ 1 x y F e h=.ok v' (h.wr r 0 ((l.take 64).map bv))/\over (BF.map bv) 0 ((l.take 64).map bv)=(C4 l 0).map bv:=by
 have k:(BF.map bv).length=64:=rfl;have f:B9 l.length 64<=(l.map bv).length:=by rw[wF,BV];omega
 have g:(l.map bv).take (B9 l.length 64)=(l.take 64).map bv:=by
  rw[<- ABX,BV]
  congr 1
  rcases Nat.le_total l.length 64 with a|a
  ·rw[yz a,xz,yU a]
  ·rw[Nat.min_eq_right a]
 refine⟨AI AT (B9 l.length 64:Nat),?_,?_⟩
 ·show RG 1 (x e) (y e) h=_
  rw[i,j];unfold RG;have lv:=b.lenV;rw[wF]at lv;simp only[lv,Ae,b.AKL f,g];rw[R.store d c (by rw[k,wF,wu];omega) (C8 _)];rfl
 ·unfold over C4
  rw[List.take_zero,xI,wC,w9,ABw,xa,wF,<- ADa]
  congr 2
  show AAZ _ (wR 64 0)=_;rw[List.drop_replicate]
theorem lX:Bt .mt 0 [.slice By 0 0]=BY vI:=by kernel_rfl
theorem fy:Bt .mt 0 [AI AT 0]=BY zt3:=by kernel_rfl
theorem Jr(b:h.Wf){t:VT}{z v:vz}(k:Bt .mt 0 [z]=BY t)(a:cellsOf v=[v])(j:oneCell v=IN):
  ∃h',(∀(F:AES) (e:Env),Bc 1 t F e h=.ok (pt h.next) (h.push (.cells t 1 0)))/\AEa 1 (pt h.next) v (h.push (.cells t 1 0))=.ok AEU h'/\h.Ext h'/\h'.Row h.next 0 [v]/\h'.next=h.next+1/\h'.mark=h.mark:=by
 have R:=Hp.Row.alloc b k (show [z].length=1 from rfl);have d:h.Ext (h.push (.cells t 1 0)):=(Hp.Ext.refl b).push _;have f:0+(cellsOf v).length<=[z].length:=by rw[a];exact wB _
 have g:=R.AEa (n:=1) (off:=0) d.wf b.big (v:=v) (by rw[a];rfl) f (by
  rw[a];show(bif oneCell v then IN else IS)=IN;rw[j];rfl)
 have wr:=R.AEf d.wf f;rw[FF (by rw[a];rfl),a]at wr;rw[a]at g;have c:0+[v].length<=[z].length:=wB _;obtain⟨_,_,i,_⟩:=R.AFf c;exact⟨_,λF e=>BU b,g,R.AEy d (wB _) c,wr,R.AE7 c,by rw[i];rfl⟩
theorem sY:BX Tk.zero 1=[.nilFunc]:=by kernel_rfl
theorem J5(c:h.Wf){g:O}{f:Nat}{a b:List vz}(d:g e=.func (.func f) ⟨a⟩ ⟨b⟩):Ap 1 (BX Tk.zero 1) [(0,1,g)] F e h=.ok (.slice (BY ⟨h.next,0,By⟩) 1 1) (h.AER 0 [.func (.func f) ⟨a⟩ ⟨b⟩]):=by
 rw[sY];exact I4 c d rfl rfl
theorem tH{i:Nat}(hi:i<=1000000):UU .i64 (AI AT ((64*i:Nat):Int)) (AI AT 64) h=.ok (AI AT (i:Int)) h:=by
 have:((64*i:Nat):Int).tdiv 64=(i:Int):=by
  show xR ((64*i)/64)=_;rw[Nat.mul_div_cancel_left _ (by decide)];rfl
 rw[MP (by omega),this,Bl (by omega)]
theorem sR:wrS=BJ (Ab 0 (A4 wrB)) wrE:=rfl
theorem qL:d96=iT:=rfl
def CS(h:Hp)(A:At)(k:Nat)(v:vz)(ds:List AE9):Prop:=∃vs,h.Own k 70 v vs/\vs.length=ds.length/\∀(b:Nat) (c:vz) (d:AE9),vs[b]? =BY c->ds[b]? =BY d->JF h A (λa=>¬A.D a/\¬AEu v a) c d
theorem jV{b k:Nat}(a:∀b,A.D b->b<k)(c:k<=b):¬A.D b:=λh=>by have:=a b h;omega
theorem CS.ext{k:Nat}{v:vz}{ds:List AE9}(o:CS h A k v ds)(a:h.Wf)(x:h.Ext h'):CS h' A k v ds:=by
 obtain⟨vs,c,b,d⟩:=o;exact⟨vs,c.ext a x,b,λi l m e f=>(d i l m e f).AFh λb p n g _ j=>⟨j.ext a x,g⟩⟩
theorem CS.same{k:Nat}{v:vz}{ds:List AE9}(o:CS h A k v ds)(b:h'.bl=h.bl):CS h' A k v ds:=by
 obtain⟨vs,c,a,d⟩:=o;exact⟨vs,c.same b,a,λi l m e f=>(d i l m e f).AFh λa p n g _ j=>⟨j.same b,g⟩⟩
theorem CS.snoc{h0:Hp}{k:Nat}{v w:vz}{ds:List AE9}{f:Nat}{a b:List vz}(s:h0.Ext h)(hk:h0.next<=k)(E:k<=h.next)(o:CS h A k v ds)(F:w=.func (.func f) ⟨a⟩ ⟨b⟩){d:AE9}(D:JF h A (λb=>¬A.D b/\¬AEu v b) w d)(M:ds.length<=1000):
  ∃h' v',DX 1 8 70 v (.slice (BY ⟨h.next,0,By⟩) 1 1) (h.AER 0 [w])=.ok v' h'/\h0.Ext h'/\CS h' A k v' (ds++[d])/\h.next<=h'.next/\(∀b c e,¬AEu v b->h.Row b c e->h'.Row b c e):=by
 obtain⟨vs,G,H,o3⟩:=o;have g:=s.wf;have J:=s.AER 0 [w];have n:=(Hp.Ext.refl g).AER 0 [w];have I:oneCell w=IN:=by rw[F];rfl
 obtain⟨h',v',t,x,y,z,p⟩:=FG (eb:=8) (en:=70) (k:=k) (u:=.slice (BY ⟨h.next,0,By⟩) 1 1) (ys:=[w]) J hk (Nat.le_succ_of_le E) (G.ext g n) (Nk g) (by simp) (by
  show(bif oneCell w then IN else IS)=IN;rw[I];rfl) (by simp only[xM];omega)
 have r:∀b c e,¬A.D b/\¬AEu v b->(c=0\/c=6)->h.Row b c e->h'.Row b c e/\(¬A.D b/\¬AEu v' b):=λb c e l _ m=>by
  have:=p b c e l.2 (m.ext g n);exact⟨this.1,l.1,this.2⟩
 refine⟨h',v',t,x,⟨vs++[w],y,by rw[wD,wD,H];rfl,λq L K i j=>?_⟩,by have:h'.next=h.next+1+1:=z;omega,λb c e l m=>(p b c e l (m.ext g n)).1⟩;rcases wh q vs.length with hi|hi
 ·rw[wX hi]at i
  rw[wX (by omega)]at j;exact(o3 q L K i j).AFh r
 ·rw[wi hi]at i
  rw[wi (by omega)]at j;have B:=wP.1 (wO i);have C:=wP.1 (wO j);rw[B,C];exact D.AFh r
theorem CS.app{h0:Hp}{k I:Nat}{v n:vz}{ds l:List AE9}(z:h0.Ext h)(hk:h0.next<=k)(G:k<=h.next)(o:CS h A k v ds)(J:CS h A I n l)(V:0<l.length)(U:ds.length+l.length<=1000):
  ∃h' v',DX 1 8 70 v n h=.ok v' h'/\h0.Ext h'/\CS h' A k v' (ds++l)/\h.next<=h'.next/\(∀b a c,(a=0\/a=6)->h.Row b a c->h'.Row b a c):=by
 obtain⟨vs,w,x,o3⟩:=o;obtain⟨q,L,M,y⟩:=J;have N:=z.wf;have K:∀p∈q,oneCell p=IN:=λp H=>by
  obtain⟨m,hi⟩:=zM.1 H;have T:=(wW.1 hi).1;exact bU (y m p _ hi (wE (by omega)))
 obtain⟨h',v',D,E,F,O,r⟩:=FG (eb:=8) (en:=70) (k:=k) (u:=n) (ys:=q) z hk G w L.vals (by omega) (QT K) (by omega);have t:∀b a c,(a=0\/a=6)->h.Row b a c->¬AEu v b:=λb a c i d ⟨X,W,Q,e⟩=>by
  rcases w with ⟨f,g⟩|⟨P,f,g,R,S⟩
  ·rw[f]at e;cases e
  ·rw[f]at e
   injection e with e _ _
   injection e with e
   injection e with e _ _
   rw[e]at g;exact EC d g (by omega) rfl
 have s:∀b a c,¬A.D b->(a=0\/a=6)->h.Row b a c->h'.Row b a c/\(¬A.D b/\¬AEu v' b):=λb a c j i d=>by
  have:=r b a c (t b a c i d) d;exact⟨this.1,j,this.2⟩
 refine⟨h',v',D,E,⟨vs++q,F,by rw[wD,wD,x,M],λm C B f g=>?_⟩,by omega,λb a c i d=>(r b a c (t b a c i d) d).1⟩;rcases wh m vs.length with hi|hi
 ·rw[wX hi]at f
  rw[wX (by omega)]at g;exact(o3 m C B f g).AFh λb a c j i d=>s b a c j.1 i d
 ·rw[wi hi]at f
  rw[wi (by omega),<- x]at g;exact(y _ C B f g).AFh λb a c j i d=>s b a c j.1 i d
theorem CS.ends{k:Nat}{v:vz}{ds:List AE9}(o:CS h A k v ds)(e:∀b,A.D b->b<k):∃vs,h.VS (λb=>¬A.D b) v vs/\vs.length=ds.length/\∀(i:Nat) (w:vz) (x:AE9),vs[i]? =BY w->ds[i]? =BY x->Gd h A w x:=by
 obtain⟨vs,g,j,o3⟩:=o;refine⟨vs,?_,j,λi w x a c=>(o3 i w x a c).AFh λb n m f _ l=>⟨l,f.1⟩⟩;rcases g with ⟨a,c⟩|⟨b,a,c,d,p⟩
 ·exact .inl ⟨a,c⟩
 ·exact .inr ⟨b,0,_,_,vs,a,wB _,c,by omega,by rw[xa,xz],jV e d⟩
theorem Lj(D:h.Wf)(R:h.Row A.bs 0 (slL A.bd A.tb lv fv bad ov))(hD:∀b,A.D b->b<h.next){sct:Nat}(hs:sct<=100000){u:vz}{l:List Nat}{ku:Nat}(a9:Mk h ku u l)(hl:l.length<=6400):
  ∃h' v,call AC (m+1) 96 [pt A.bs,AI AT (sct:Int),u] h=.ok v h'/\h.Ext h'/\CS h' A h.next v ((xx ((l.length+63)/64)).map (λj=>AE9.w (sct+j) (C4 l j))++[.f]):=by
 have bx:=λ(F:AES) (e:Env) (he:J 0 e=pt A.bs)=>(show CT (J 0) F e h=.ok (pt h.next) (h.AER 0 [pt A.bs])by rw[EQ,he,EO D];rfl)
 have H:=(Hp.Ext.refl D).AER 0 [pt A.bs];have R3:=Hp.Row.new D 0 [pt A.bs];have n1:(h.AER 0 [pt A.bs]).next=h.next+1:=rfl;generalize h.AER 0 [pt A.bs]=p at bx H R3 n1;have d2:¬A.D h.next:=jV hD (wB _);have c7:∃s,iT (call AC m) (Ay e0 0 [pt A.bs,AI AT (sct:Int),u]) h=wrS (call AC m) s p/\J 1 s=AI AT (sct:Int)/\J 2 s=u/\J 3 s=pt h.next/\J 7 s=.slice By 0 0/\J 8 s=AI AT ((64 * 0:Nat):Int):=by
  unfold iT;simp only[iN,wA,sT,sh,OF,reduceIte,bx];exact⟨_,rfl,by simp[AG]⟩
 obtain⟨s,p1,s1,s2,s3,s7,s8⟩:=c7;have c8:∃c h' v,A4 wrB (call AC m) s p=.exit 0 c h'/\h.Ext h'/\CS h' A p.next v ((xx ((l.length+63)/64)).map λj=>AE9.w (sct+j) (C4 l j))/\h'.Row h.next 0 [pt A.bs]/\p.next<=h'.next/\J 3 c=pt h.next/\J 7 c=v:=by
  refine Bb (I:=λi c h'=>∃v,h.Ext h'/\CS h' A p.next v ((xx i).map λj=>AE9.w (sct+j) (C4 l j))/\h'.Row h.next 0 [pt A.bs]/\p.next<=h'.next/\i<=(l.length+63)/64/\J 1 c=AI AT (sct:Int)/\J 2 c=u/\J 3 c=pt h.next/\J 7 c=v/\J 8 c=AI AT ((64*i:Nat):Int))
   (Q:=λx=>∃c h' v,x=.exit 0 c h'/\h.Ext h'/\CS h' A p.next v ((xx ((l.length+63)/64)).map λj=>AE9.w (sct+j) (C4 l j))/\h'.Row h.next 0 [pt A.bs]/\p.next<=h'.next/\J 3 c=pt h.next/\J 7 c=v) ((l.length+63)/64) (by omega) (λi c h' ⟨v,G,L,R',c3,hi,t1,t2,t3,t7,t8⟩=>?_)
   ⟨_,H,⟨[],.inl ⟨rfl,rfl⟩,rfl,λi w x h=>by cases h⟩,R3,wB _,wl _,s1,s2,s3,s7,s8⟩
  have Ul:=a9.vals.bl h';have t:=G.wf;by_cases c2:64*i<l.length
  ·left
   have Z:iLt ((64*i:Nat):Int) (l.length:Int)=IN:=Ec c2;have mk:∀(F:AES) (e:Env),G0 1 ty5.zero (W (AI AT 64)) (W (AI AT 64)) F e h'=.ok (.slice (BY ⟨h'.next,0,By⟩) 64 64) (h'.AER 0 (BF.map bv)):=λF e=>MV (F:=F) (e:=e) t (x:=W (AI AT 64)) (y:=W (AI AT 64)) (N:=64) rfl rfl (by omega)
   have U:=(Hp.Ext.refl t).AER 0 (BF.map bv);have Rz:=Hp.Row.new t 0 (BF.map bv);have n2:(h'.AER 0 (BF.map bv)).next=h'.next+1:=rfl;generalize h'.AER 0 (BF.map bv)=k at mk U Rz n2;obtain⟨n,al,st,y3,R9,n3,_⟩:=Jr U.wf lX (v:=.slice (BY ⟨h'.next,0,By⟩) 64 64) rfl rfl;have B:=U.trans y3;have b5:=Rz.ext U.wf y3;have x3:=G.trans B;have b4:n.marked.Row k.next 0 [.slice (BY ⟨h'.next,0,By⟩) 64 64]:=R9.same rfl;have l9:AEV ⟨k.next,0,By⟩ n.marked=.ok (.slice (BY ⟨h'.next,0,By⟩) 64 64) n.marked:=b4.AEV (off:=0) (by show 0<1;omega);obtain⟨w,ct,Vw⟩:=RI (((a9.ext D x3).same (h':=n.marked) rfl)) (m:=64 * i) (by omega);have a7:=t.big;have b6:∃q,(∀(F:AES) (e:Env),J 18 e=.slice (BY ⟨h'.next,0,By⟩) 64 64->J 21 e=w->∃T,AZ .free (KJ 1 (J 18) (J 21)) F e n.marked=.ok T q)/\h'.Ext q/\q.Row h'.next 0 ((C4 (l.drop (64 * i)) 0).map bv)/\q.Row k.next 0 [.slice (BY ⟨h'.next,0,By⟩) 64 64]/\n.next<=q.next:=by
    have C:n.marked.quiet.Row h'.next 0 (BF.map bv):=b5.same rfl;have O:0+(((l.drop (64*i)).take 64).map bv).length<=(BF.map bv).length:=by
     rw[wF,wu];show _<=64;omega
    have key:=λ(F:AES) (e:Env) (V:J 18 e=.slice (BY ⟨h'.next,0,By⟩) 64 64) (X:J 21 e=w)=>au (F:=F) (e:=e) (h:=n.marked.quiet) B.wf.marked.quiet a7 V X (Vw.same (h':=n.marked.quiet) rfl) C
    have wr:=C.AEf B.wf.marked.quiet O;have wx:=C.AEy (h0:=h') (B.marked.quiet) (wB _) O;have wo:=C.AFg B.wf.marked.quiet O (R9.same (h':=n.marked.quiet) rfl) (by omega);have wn:=C.AE7 O;have ho:over (BF.map bv) 0 (((l.drop (64*i)).take 64).map bv)=(C4 (l.drop (64*i)) 0).map bv:=by
     have hk:=au (F:=call AC m) (e:=Env.set 18 (.slice (BY ⟨h'.next,0,By⟩) 64 64) (Env.set 21 w e0)) (h:=n.marked.quiet) (x:=J 18) (y:=J 21) B.wf.marked.quiet a7 (by simp[AG]) (by simp[AG]) (Vw.same (h':=n.marked.quiet) rfl) C;obtain⟨_,_,k⟩:=hk;exact k
    rw[ho]at wr;generalize n.marked.quiet.wr h'.next 0 (((l.drop (64 * i)).take 64).map bv)=b0 at key wr wx wo wn;refine⟨n.marked.back b0,λF e V X=>?_,Hp.Ext.AFY B.marked wx,wr.same rfl,wo.same rfl,by show _<=b0.next;rw[wn];exact wB _⟩;obtain⟨T,k1,_⟩:=key F e V X;exact⟨T,BE k1⟩
   obtain⟨q,cp,K,Rc,b3,n4⟩:=b6;have x4:=G.trans K;have b8:=tH (h:=q) (i:=i) (by omega);have ad:=Vu (h:=q) (a:=sct) (b:=i) (by omega);obtain⟨h5,al5,c9,y5,b2,n5,_⟩:=Jr K.wf fy (v:=AI AT ((sct+i:Nat):Int)) rfl rfl;have a6:=K.trans y5;have x5:=G.trans a6;have b9:=(L.ext t a6);have a4:∀b,h'.next<=b->¬AEu v b:=λb hb r=>by
    obtain⟨vs,o1,_⟩:=L;rcases o1 with ⟨p,_⟩|⟨b',p,k,_⟩
    ·rw[p]at r;exact Gl r
    ·have:=k.lt t
     rw[p]at r;obtain⟨c6,nn,Y,o⟩:=r;injection o with o _ _
     injection o with o
     injection o with o _ _
     omega
   have c4:=H.next;have P:∀b,h.next<=b->¬A.D b:=λb hb=>jV hD hb
   have b1:¬AEu v h.next:=λr=>by
    obtain⟨vs,o1,_⟩:=L;rcases o1 with ⟨a0,_⟩|⟨b',a0,d0,d1,_⟩
    ·rw[a0]at r;exact Gl r
    ·rw[a0]at r
     obtain⟨c6,nn,Y,o⟩:=r;injection o with o _ _
     injection o with o
     injection o with o _ _
     omega
   have a8:=R'.ext t a6;have ds:JF h5 A (λb=>¬A.D b/\¬AEu v b) (.func (.func 126) ⟨[]⟩ ⟨[pt h.next,pt q.next,pt k.next]⟩) (.w (sct+i) (C4 l i)):=by
    refine .inl ⟨h.next,q.next,k.next,.slice (BY ⟨h'.next,0,By⟩) 64 64,rfl,a8,b2,b3.ext K.wf y5,.inr ⟨h'.next,0,64,0,_,by rw[wF,Cf],by rw[wF,Cf];exact wB _,Rc.ext K.wf y5,?_,?_,⟨P _ (by omega),a4 _ (wB _)⟩,.inl rfl⟩,⟨P _ (wB _),b1⟩,⟨P _ (by omega),a4 _ (by omega)⟩,⟨P _ (by omega),a4 _ (by omega)⟩⟩
    ·rw[wF,wF,Cf,Cf];exact wB _
    ·have:C4 (l.drop (64*i)) 0=C4 l i:=by unfold C4;rw[ABw,xa]
     rw[this,xa,xz]
   obtain⟨z,S,k6,x6,M,n6,c5⟩:=b9.snoc (f:=126) x5 (wy c4 (wB _)) (by omega) rfl ds (by rw[wF,AAT];omega);have er:(xx (i+1)).map (λj=>AE9.w (sct+j) (C4 l j))=(xx i).map (λj=>AE9.w (sct+j) (C4 l j))++[AE9.w (sct+i) (C4 l i)]:=by rw[yu,w9];rfl
   rw[<- er]at M;have fs:=λ(F:AES) (e:Env) (a:J 28 e=.func (.func 126) ⟨[]⟩ ⟨[pt h.next,pt q.next,pt k.next]⟩)=>J5 (F:=F) (e:=e) x5.wf a
   have a3:GF .i64 (AI AT ((64*i:Nat):Int)) (AI AT 64) z=.ok (AI AT ((64*(i+1):Nat):Int)) z:=by
    have:=Vu (h:=z) (a:=64*i) (b:=64) (by omega);rw[show 64*i+64=64*(i+1)by omega]at this;exact this
   have a5:∃g,wrB (call AC m) c h'=.norm g z/\J 1 g=AI AT (sct:Int)/\J 2 g=u/\J 3 g=pt h.next/\J 7 g=S/\J 8 g=AI AT ((64*(i+1):Nat):Int):=by
    obtain⟨T,cp⟩:=cp (call AC m) (Env.set 21 w (Env.set 18 (.slice (BY ⟨h'.next,0,By⟩) 64 64) (Env.set 9 (pt k.next) (Env.set 17 (.slice (BY ⟨h'.next,0,By⟩) 64 64) (Env.set 14 (.bool IN) (Env.set 13 (AI AT (l.length:Int)) c)))))) (by simp[AG]) (by simp[AG]);unfold wrB;simp only[sT,sh,OF,reduceIte,Aa,t2,Ul,AM,AK,t8,Z,mk,al,AV,st,Ar,AJ,AP,l9];rw[ct _ _ _ _ (by simp[AG,t2]) (by simp[AG,t8])];simp only[sT,sh,OF,reduceIte,cp,KK,t8,b8,BL,t1,ad,al5,AV,c9,DN,AS,Av,t3,fs,BD,t7,k6,a3];exact⟨_,rfl,by simp[AG,t1,t2,t3]⟩
   obtain⟨g,E,r2,r3,r4,r5,r6⟩:=a5;exact⟨by omega,g,z,E,S,x6,M,c5 _ _ _ b1 a8,by omega,by omega,r2,r3,r4,r5,r6⟩
  ·right
   have c0:i=(l.length+63)/64:=by omega
   have Z:iLt ((64*i:Nat):Int) (l.length:Int)=IS:=DC (by omega);have a5:∃g,wrB (call AC m) c h'=.exit 0 g h'/\J 3 g=pt h.next/\J 7 g=v:=by
    unfold wrB;simp only[sT,sh,OF,reduceIte,Aa,t2,Ul,AM,AK,t8,Z];exact⟨_,rfl,by simp[AG,t3,t7]⟩
   obtain⟨g,E,r2,r3⟩:=a5;rw[E];exact⟨rfl,g,h',v,rfl,G,by rw[<- c0];exact L,R',c3,r2,r3⟩
 obtain⟨g,k,v2,E,x2,b7,R2,n2,t3,t7⟩:=c8;have l3:AEV ⟨h.next,0,By⟩ k=.ok (pt A.bs) k:=R2.AEV (off:=0) (by show 0<1;omega);obtain⟨l0,_⟩:=BB (R.ext D x2);obtain⟨z,S,k6,x6,M,n6,_⟩:=b7.snoc (f:=121) (d:=.f) x2 H.next n2 (w:=.func (.func 121) ⟨[pt A.bd]⟩ ⟨[]⟩) rfl rfl (by rw[wF,AAT];omega);have fs:=λ(F:AES) (e:Env) (a:J 36 e=.func (.func 121) ⟨[pt A.bd]⟩ ⟨[]⟩)=>J5 (F:=F) (e:=e) x2.wf a
 refine⟨z,S,?_,x6,?_⟩
 ·rw[ot rfl,qL,p1,sR]
  simp only[BC,Aw,E,A6,BA];unfold wrE;simp only[sT,sh,OF,reduceIte,AJ,AP,t3,l3,An,AX,AH,AN,wC,l0,DN,AS,Av,fs,BD,t7,k6,lV0]
 ·obtain⟨vs,a,b,Y⟩:=M
  exact⟨vs,a.le H.next,b,Y⟩
end
section
variable {F:AES}{e:Env}{h h':Hp}{A:At}{T M:List Nat}{c0 bad:Nat}{arm:Int}{ks:List Kt}{fr:List Nat}{lv fv:vz}{ov:Bool}
theorem gn{x y:O}{K:C}{v:vz}{b r:Nat}(f:x e=v)(d:v=.slice By 0 0\/∃o n c,v=.slice (BY ⟨b,o,By⟩) n c)(g:y e=pt r)(a:v=.slice By 0 0\/r≠b):Ck x [y] K F e h=K F e h:=by
 unfold Ck;rw[f];rcases d with rfl|⟨o,n,c,rfl⟩
 ·rfl
 ·rcases a with a|a
  ·cases a
  ·show(bif DE b e [y]then K F e h else .no)=_
   have:DE b e [y]=IN:=by
    unfold DE;rw[g];show(bif wU r b then IS else DE b e [])=IN;have i:wU r b=IS:=by
     cases e:wU r b
     ·rfl
     ·exact absurd (Ax.1 e) a
    rw[i];rfl
   rw[this];rfl
theorem CS.atB{h0:Hp}{k bw:Nat}{v w:vz}{ds:List AE9}{f:Nat}{a b:List vz}(p:h0.Ext h)(hk:h0.next<=k)(b0:k<=h.next)(o:CS h A k v ds)(Q:w=.func (.func f) ⟨a⟩ ⟨b⟩)(E:h.Row bw 0 [w]){d:AE9}(P:JF h A (λb=>¬A.D b/\¬AEu v b) w d)(hl:ds.length<=1000):
  ∃h' v',(∀(F:AES) (e:Env) (x y:O),x e=v->y e=.slice (BY ⟨bw,0,By⟩) 1 1->Ja x (Bm 1 8 70 x y) F e h=.ok v' h')/\h0.Ext h'/\CS h' A k v' (ds++[d])/\h.next<=h'.next:=by
 obtain⟨vs,B,C,o3⟩:=o;have q:=p.wf;have U:oneCell w=IN:=by rw[Q];rfl
 have L:h.quiet.Cl (AEu v) 70 v vs:=by
  rcases B with ⟨c,i⟩|⟨b,c,i,N,t⟩
  ·exact .inl ⟨c,i⟩
  ·exact .inr ⟨b,_,c,i.same rfl,.inl rfl,⟨0,_,_,c⟩,t⟩
 have T:∀b,AEu v b->h0.next<=b:=λb n=>by
  obtain⟨b3,b2,a0,g⟩:=n;rcases B with ⟨c,i⟩|⟨Z,c,i,N,t⟩
  ·rw[c]at g;cases g
  ·rw[c]at g
   injection g with g _ _
   injection g with g
   injection g with g _ _
   omega
 obtain⟨m,b5,G,H,I,r,s,X,J,Y,K⟩:=aZ (eb:=8) (en:=70) p.quiet L T (E.same (h':=h.quiet) rfl) U (by rw[C];omega) (by omega);have b1:¬AEu (.slice (BY ⟨b5,0,By⟩) (vs.length+1) (vs.length+1)) b5->False:=λh=>h ⟨0,_,_,rfl⟩
 have r:b5=h.next:=r;have z:∀b j l,¬A.D b/\¬AEu v b->(j=0\/j=6)->h.Row b j l->(h.back m).Row b j l/\(¬A.D b/\¬AEu (.slice (BY ⟨b5,0,By⟩) (vs.length+1) (vs.length+1)) b):=λb j l n _ D=>⟨(J b j l n.2 (D.same rfl)).same rfl,n.1,MK (by have:=D.lt q;omega)⟩
 have s:m.next=h.next+1:=s;have W:=q.big;refine⟨h.back m,.slice (BY ⟨b5,0,By⟩) (vs.length+1) (vs.length+1),λF e x y R S=>Vy R S G (K rfl rfl h rfl),p.AFY H,⟨vs++[w],.inr ⟨b5,by rw[wD];rfl,I.same rfl,?_,by omega⟩,by rw[wD,wD,C];rfl,λu V y c i=>?_⟩,by show h.next<=m.next;omega⟩
 ·omega
 ·rcases wh u vs.length with hi|hi
  ·rw[wX hi]at c
   rw[wX (by omega)]at i;exact(o3 u V y c i).AFh z
  ·rw[wi hi]at c
   rw[wi (by omega)]at i;have g:=wP.1 (wO c);have M:=wP.1 (wO i);rw[g,M];exact P.AFh z
theorem sE:skS=BJ (Ab 0 (A4 skB)) skE:=rfl
theorem bG:d77=bH:=rfl
def Gj(M:List Nat)(ps:List Nat):List Nat:=FU M (ps.map λa=>(a*3,BF))
theorem TJ:∀(ps:List Nat) (M:List Nat) (cs:List (Nat×List Nat)),Be M cs (ps.map (λp=>AE9.w (p*3) BF)++[.f])=(FU M (cs++ps.map λp=>(p*3,BF)),[])
 |[],M,cs=>by rw[ADq,ADq,wT];rfl
 |p::ps,M,cs=>by
  show Be M (cs++[(p*3,BF)]) (ps.map (λp=>AE9.w (p*3) BF)++[.f])=_;rw[TJ ps,wa];rfl
theorem df{n:Nat}:∀(ps:List Nat) (cs:List (Nat×List Nat)),(cs≠[]\/ps≠[])->cs.length+ps.length<=60->(∀p∈ps,3*p+3<=n/\∀x∈cs,x.1≠p*3)->ps.Nodup->Dm n cs (ps.map (λp=>AE9.w (p*3) BF)++[.f])
 |[],cs,e,b,_,_=>⟨e.elim (λh=>h) λh=>absurd rfl h,by simpa using b,No⟩
 |p::ps,cs,e,b,c,f=>by
  obtain⟨j,g⟩:=c p wJ;rw[wK]at b;refine⟨g,by omega,rfl,λx hx=>by rw[zb hx];decide,df ps _ (.inl (by simp)) (by rw[wD];simp only[xM];omega) (λa d=>⟨(c a (wI _ d)).1,λx hx=>?_⟩) (yO.1 f).2⟩;rcases wd.1 hx with hx|hx
  ·exact(c a (wI _ d)).2 x hx
  ·rw[wP.1 hx]
   show p*3≠a*3;intro i;have:p=a:=by omega
   exact(yO.1 f).1 (this ▸ d)
theorem Sl.AG9(s:Sl h A T M c0 arm ks fr lv fv bad ov)(a:h.Wf):∀b,A.D b->b<h.next:=λb f=>by
 obtain⟨c,d,e⟩:=s.dk.lt a;rcases f with rfl|rfl|rfl|rfl
 ·exact s.row.lt a
 ·exact c
 ·exact d
 ·exact e
theorem Sl.nK(s:Sl h A T M c0 arm ks fr lv fv bad ov):¬A.K A.bs:=by
 obtain⟨a,b,c,_⟩:=s.ne;rintro (h|h|h)<;>contradiction
end
def F1(P:Kt->Bool):Nat->List Kt->Int
 |_,[]=> -1
 |i,a::b=>if P a=IN then(i:Int)else F1 P (i+1) b
theorem Pv(P:Kt->Bool):∀(l:List Kt) (i:Nat),(l.any P=IS/\F1 P i l= -1)\/(l.any P=IN/\∃j k,l[j]? =BY k/\P k=IN/\F1 P i l=((i+j:Nat):Int))
 |[],i=>.inl ⟨rfl,rfl⟩
 |k::l,i=>by
  unfold F1;by_cases a:P k=IN
  ·rw[IT a]
   exact .inr ⟨by rw[ABC,a];rfl,0,k,rfl,a,rfl⟩
  ·rw[If a]
   have f:P k=IS:=by simpa using a
   rcases Pv P l (i+1)with ⟨b,c⟩|⟨b,j,g,c,d,e⟩
   ·exact .inl ⟨by rw[ABC,f,b];rfl,c⟩
   ·exact .inr ⟨by rw[ABC,b,Bool.or_true],j+1,g,by rw[xh];exact c,d,by rw[e];congr 1;omega⟩
section
variable {F:AES}{e:Env}{h h':Hp}{S:Nat->Prop}{A:At}{bad m:Nat}{ks:List Kt}{v lv fv:vz}{ov:Bool}
theorem cX:kiS=BJ (Ab 0 (A4 kiB)) kiE:=rfl
theorem Wi:pY=Wj:=rfl
theorem QE{g:Nat}{caps:List vz}{P:Kt->Bool}(u:h.Wf)(K:h.KS S v ks)(T:ks.length<=100000)(C:∀h',h.Ext h'->∀k∈ks,∃w,call AC m g (ktV k::caps) h'=.ok (.bool (P k)) w/\h'.Ext w):
  ∃h',call AC (m+1) 117 [v,.func (.func g) ⟨[]⟩ ⟨caps⟩] h=.ok (AI AT (F1 P 0 ks)) h'/\h.Ext h':=by
 have F:=K.len h;have G:∃e,Wj (call AC m) (Ay e0 0 [v,.func (.func g) ⟨[]⟩ ⟨caps⟩]) h=kiS (call AC m) e h/\J 0 e=v/\J 1 e=.func (.func g) ⟨[]⟩ ⟨caps⟩/\J 7 e=AI AT (ks.length:Int)/\J 8 e=AI AT ((0:Nat):Int):=by
  unfold Wj;simp only[iN,wA,sT,sh,OF,reduceIte,Aa,F];exact⟨_,rfl,by simp[AG]⟩
 obtain⟨e,z,s0,s1,s7,s8⟩:=G;have N:(∃a h',A4 kiB (call AC m) e h=.exit 0 a h'/\h.Ext h'/\F1 P 0 ks= -1)\/(∃a h',A4 kiB (call AC m) e h=.ret a h'/\h.Ext h'/\J 4 a=AI AT (F1 P 0 ks)):=by
  refine Bb (I:=λi a h'=>h.Ext h'/\J 0 a=v/\J 1 a=.func (.func g) ⟨[]⟩ ⟨caps⟩/\J 7 a=AI AT (ks.length:Int)/\J 8 a=AI AT (i:Int)/\i<=ks.length/\F1 P 0 ks=F1 P i (ks.drop i))
   (Q:=λA=>(∃a h',A=.exit 0 a h'/\h.Ext h'/\F1 P 0 ks= -1)\/(∃a h',A=.ret a h'/\h.Ext h'/\J 4 a=AI AT (F1 P 0 ks))) ks.length (by omega) (λi a h' ⟨p,t0,t1,t7,t8,R,f⟩=>?_) ⟨.refl u,s0,s1,s7,s8,wl _,by rw[xa]⟩
  by_cases n:i<ks.length
  ·obtain⟨k,r⟩:∃k,ks[i]? =BY k:=⟨_,wE n⟩
   have D:ks.drop i=k::ks.drop (i+1):=by
    rw[yP n];rw[wE n]at r;rw[Option.some.inj r]
   rw[D]at f;have f:F1 P 0 ks=if P k=IN then(i:Int)else F1 P (i+1) (ks.drop (i+1)):=f
   have q:=Ec n;obtain⟨O,_,x,y,_⟩:=(K.ext u p).at r;obtain⟨c,t,l⟩:=C h' p k (wO r);by_cases s:P k=IN
   ·right
    rw[s]at t;rw[IT s]at f;have o:∃b,kiB (call AC m) a h'=.ret b c/\J 4 b=AI AT (i:Int):=by
     unfold kiB;simp only[sT,sh,OF,reduceIte,AM,AK,t8,t7,q,A1,t0,x,Ai,Ac,y,CN,t1,CJ,AS,Av,xI,zB,t];exact⟨_,rfl,by simp[AG]⟩
    obtain⟨b,d,j⟩:=o;rw[d];exact⟨rfl,.inr ⟨b,c,rfl,p.trans l,by rw[j,f]⟩⟩
   ·left
    have E:P k=IS:=by simpa using s
    rw[E]at t;rw[If s]at f;have B:=CL (i:=i) (h:=c) (by omega);have o:∃b,kiB (call AC m) a h'=.norm b c/\J 0 b=v/\J 1 b=.func (.func g) ⟨[]⟩ ⟨caps⟩/\J 7 b=AI AT (ks.length:Int)/\J 8 b=AI AT ((i+1:Nat):Int):=by
     unfold kiB;simp only[sT,sh,OF,reduceIte,AM,AK,t8,t7,q,A1,t0,x,Ai,Ac,y,CN,t1,CJ,AS,Av,xI,zB,t,BL,B];exact⟨_,rfl,by simp[AG,t0,t1,t7]⟩
    obtain⟨b,d,j,H,L,M⟩:=o;exact⟨n,b,c,d,p.trans l,j,H,L,M,by omega,f⟩
  ·right
   have q:=DC (show ks.length<=i by omega);have o:∃b,kiB (call AC m) a h'=.exit 0 b h':=by
    unfold kiB;simp only[sT,sh,OF,reduceIte,AM,AK,t8,t7,q];exact⟨_,rfl⟩
   obtain⟨b,d⟩:=o;rw[d];exact⟨rfl,.inl ⟨b,h',rfl,p,by rw[f,xV (by omega)];rfl⟩⟩
 rcases N with ⟨b,c,d,l,j⟩|⟨b,c,d,l,j⟩
 ·refine⟨c,?_,l⟩
  rw[WH rfl,Wi,z,cX,j];simp only[BC,Aw,d,A6,BA];unfold kiE;simp only[sT,sh,OF,reduceIte,lV0]
 ·refine⟨c,?_,l⟩
  rw[WH rfl,Wi,z,cX];simp only[BC,Aw,d,B7,Ce,lV0,j]
theorem QC{g:Nat}{caps:List vz}{P:Kt->Bool}(d:h.Wf)(K:h.KS S v ks)(i:ks.length<=100000)(f:∀h',h.Ext h'->∀k∈ks,∃c,call AC m g (ktV k::caps) h'=.ok (.bool (P k)) c/\h'.Ext c):
  ∃h',call AC (m+2) 74 [v,.func (.func g) ⟨[]⟩ ⟨caps⟩] h=.ok (.bool (ks.any P)) h'/\h.Ext h':=by
 obtain⟨a,j,l⟩:=QE d K i f;have e:iGe (F1 P 0 ks) 0=ks.any P:=by
  rcases Pv P ks 0 with ⟨b,a⟩|⟨b,n,k,_,_,a⟩
  ·rw[b,a];exact E0 (by omega)
  ·rw[b,a];exact F0 (by omega)
 refine⟨a,?_,l⟩;rw[oX rfl];unfold d74;simp only[iN,wA,sT,sh,OF,reduceIte,cA0,j,AM,AK,e,lV0]
theorem IF(a:h.Wf){k:Kt}{g:O}(b:g e=ktV k):CT g F e h=.ok (pt h.next) (h.AER 0 (AY k)):=by rw[EQ,b,EO a];rfl
theorem Bv{r:Nat}{k:Kt}(R:h.Row r 0 (AY k)):AEV ⟨r,0,By⟩ h=.ok (AI AT k.a) h/\AEV ⟨r,1,By⟩ h=.ok (AI AT k.b) h/\AEV ⟨r,2,By⟩ h=.ok (AI AT k.c) h/\AEV ⟨r,3,By⟩ h=.ok (.int .u8 (k.s:Int)) h/\AEV ⟨r,4,By⟩ h=.ok k.u h/\AEV ⟨r,5,By⟩ h=.ok (AI AT (k.p:Int)) h/\loadN 6 ⟨r,0,By⟩ h=.ok (ktV k) h/\loadN 5 ⟨r,0,By⟩ h=.ok (Bn k.a k.b k.c k.s k.u) h:=
 ⟨R.AEV (off:=0) (by show 0<6;omega),R.AEV (off:=1) (by show 1<6;omega),R.AEV (off:=2) (by show 2<6;omega),R.AEV (off:=3) (by show 3<6;omega),R.AEV (off:=4) (by show 4<6;omega),R.AEV (off:=5) (by show 5<6;omega),R.loadN (off:=0) (n:=6) (by show 0+6<=6;omega),R.loadN (off:=0) (n:=5) (by show 0+5<=6;omega)⟩
def BI(a b c:Int)(k:Kt):Bool:=decide (k.a=a) && decide (k.b=b) && decide (k.c=c)
def LW(a b:Int)(k:Kt):Bool:=decide (k.a=a) && decide (k.b=b) && decide (k.s=2)
theorem DP{r:Nat}{w:vz}(R:h.Row r 0 [w]):AEV ⟨r,0,By⟩ h=.ok w h:=R.AEV (off:=0) (by show 0<1;omega)
theorem qU(f:h.Wf){u w x:Nat}{a b c:Int}(y:h.Row u 0 [AI AT a])(z:h.Row w 0 [AI AT b])(A:h.Row x 0 [AI AT c])(k:Kt):
  ∃h',call AC (m+1) 124 [ktV k,pt u,pt w,pt x] h=.ok (.bool (BI a b c k)) h'/\h.Ext h':=by
 have i:=λ(F:AES) (e:Env) (D:J 0 e=ktV k)=>IF (F:=F) f D
 have g:=(Hp.Ext.refl f).AER 0 (AY k);have R:=Hp.Row.new f 0 (AY k);generalize h.AER 0 (AY k)=d at i g R;obtain⟨o,p,q,E,_,G,_⟩:=Bv R;have r:=DP (y.ext f g);have s:=DP (z.ext f g);have t:=DP (A.ext f g);refine⟨d,?_,g⟩;unfold BI;rw[gZ rfl];unfold ph;by_cases d:k.a=a
 ·have j:iEq k.a a=IN:=CZ d
  by_cases l:k.b=b
  ·have n:iEq k.b b=IN:=CZ l
   have B:iEq k.c c=decide (k.c=c):=by rw[Dh];by_cases C:k.c=c<;>simp[C]
   simp only[iN,wA,sT,sh,OF,reduceIte,gD,i,AH,AN,wC,AJ,AP,o,p,q,r,s,t,AM,AK,j,n,B,lV0];rw[decide_eq_true d,decide_eq_true l];rfl
  ·have n:iEq k.b b=IS:=B8 l
   simp only[iN,wA,sT,sh,OF,reduceIte,gD,i,AH,AN,wC,AJ,AP,o,p,q,r,s,t,AM,AK,j,n,lV0];rw[decide_eq_true d,decide_eq_false l];rfl
 ·have j:iEq k.a a=IS:=B8 d
  simp only[iN,wA,sT,sh,OF,reduceIte,gD,i,AH,AN,wC,AJ,AP,o,p,q,r,s,t,AM,AK,j,lV0];rw[decide_eq_false d];rfl
theorem qW(d:h.Wf){t u:Nat}{a b:Int}(w:h.Row t 0 [AI AT a])(x:h.Row u 0 [AI AT b])(k:Kt):
  ∃h',call AC (m+1) 145 [ktV k,pt t,pt u] h=.ok (.bool (LW a b k)) h'/\h.Ext h':=by
 have f:=λ(F:AES) (e:Env) (z:J 0 e=ktV k)=>IF (F:=F) d z
 have j:=(Hp.Ext.refl d).AER 0 (AY k);have R:=Hp.Row.new d 0 (AY k);generalize h.AER 0 (AY k)=c at f j R;obtain⟨n,o,A,p,_,B,_⟩:=Bv R;have q:=DP (w.ext d j);have r:=DP (x.ext d j);refine⟨c,?_,j⟩;unfold LW;rw[gi rfl];unfold py;by_cases c:k.a=a
 ·have g:iEq k.a a=IN:=CZ c
  by_cases i:k.b=b
  ·have l:iEq k.b b=IN:=CZ i
   have y:iEq (k.s:Int) 2=decide (k.s=2):=by
    by_cases s:k.s=2
    ·rw[decide_eq_true s];exact CZ (by omega)
    ·rw[decide_eq_false s];exact B8 (by omega)
   simp only[iN,wA,sT,sh,OF,reduceIte,gD,f,AH,AN,wC,AJ,AP,n,o,p,q,r,AM,AK,g,l,y,lV0];rw[decide_eq_true c,decide_eq_true i];rfl
  ·have l:iEq k.b b=IS:=B8 i
   simp only[iN,wA,sT,sh,OF,reduceIte,gD,f,AH,AN,wC,AJ,AP,n,o,p,q,r,AM,AK,g,l,lV0];rw[decide_eq_true c,decide_eq_false i];rfl
 ·have g:iEq k.a a=IS:=B8 c
  simp only[iN,wA,sT,sh,OF,reduceIte,gD,f,AH,AN,wC,AJ,AP,n,o,p,q,r,AM,AK,g,lV0];rw[decide_eq_false c];rfl
theorem It(a:h.Wf){z:Int}{g:O}(b:g e=AI AT z):CT g F e h=.ok (pt h.next) (h.AER 0 [AI AT z]):=by rw[EQ,b,EO a];rfl
theorem GN(j:h.Wf)(R:h.Row A.bs 0 (slL A.bd A.tb lv fv bad ov))(K:h.KS S lv ks)(x:ks.length<=100000)(a b c:Int):
  ∃h',call AC (m+3) 92 [pt A.bs,AI AT a,AI AT b,AI AT c] h=.ok (AI AT (F1 (BI a b c) 0 ks)) h'/\h.Ext h':=by
 have r:=λ(F:AES) (e:Env) (k:J 1 e=AI AT a)=>It (F:=F) j k
 have i:=(Hp.Ext.refl j).AER 0 [AI AT a];have o:=Hp.Row.new j 0 [AI AT a];generalize h.AER 0 [AI AT a]=t at r i o;have s:=λ(F:AES) (e:Env) (k:J 2 e=AI AT b)=>It (F:=F) i.wf k
 have f:=(Hp.Ext.refl i.wf).AER 0 [AI AT b];have p:=Hp.Row.new i.wf 0 [AI AT b];generalize t.AER 0 [AI AT b]=u at s f p;have b3:=λ(F:AES) (e:Env) (k:J 3 e=AI AT c)=>It (F:=F) f.wf k
 have n:=(Hp.Ext.refl f.wf).AER 0 [AI AT c];have q:=Hp.Row.new f.wf 0 [AI AT c];generalize u.AER 0 [AI AT c]=D at b3 n q;have d:=(i.trans f).trans n;obtain⟨_,_,_,B,_⟩:=BB (R.ext j d);obtain⟨w,z,C⟩:=QE (m:=m+1) (g:=124) (caps:=[pt h.next,pt t.next,pt u.next]) (P:=BI a b c) d.wf (K.ext j d) x λh' l y _=>qU l.wf ((o.ext i.wf (f.trans n)).ext d.wf l) ((p.ext f.wf n).ext d.wf l) (q.ext d.wf l) y
 refine⟨w,?_,d.trans C⟩;rw[oo rfl];unfold d92;simp only[iN,wA,sT,sh,OF,reduceIte,r,s,b3,An,AX,AH,AN,wC,AJ,AP,B,DN,AS,Av,BG,z,lV0]
theorem rU(f:h.Wf)(R:h.Row A.bs 0 (slL A.bd A.tb lv fv bad ov))(K:h.KS S lv ks)(s:ks.length<=100000)(a b:Int):
  ∃h',call AC (m+3) 125 [pt A.bs,AI AT a,AI AT b] h=.ok (AI AT (F1 (LW a b) 0 ks)) h'/\h.Ext h':=by
 have o:=λ(F:AES) (e:Env) (i:J 1 e=AI AT a)=>It (F:=F) f i
 have c:=(Hp.Ext.refl f).AER 0 [AI AT a];have l:=Hp.Row.new f 0 [AI AT a];generalize h.AER 0 [AI AT a]=q at o c l;have p:=λ(F:AES) (e:Env) (i:J 2 e=AI AT b)=>It (F:=F) c.wf i
 have k:=(Hp.Ext.refl c.wf).AER 0 [AI AT b];have n:=Hp.Row.new c.wf 0 [AI AT b];generalize q.AER 0 [AI AT b]=y at p k n;have d:=c.trans k;obtain⟨_,_,_,w,_⟩:=BB (R.ext f d);obtain⟨r,u,x⟩:=QE (m:=m+1) (g:=145) (caps:=[pt h.next,pt q.next]) (P:=LW a b) d.wf (K.ext f d) s λh' j t _=>qW j.wf ((l.ext c.wf k).ext d.wf j) (n.ext d.wf j) t
 refine⟨r,?_,d.trans x⟩;rw[ga rfl];unfold pi;simp only[iN,wA,sT,sh,OF,reduceIte,o,p,An,AX,AH,AN,wC,AJ,AP,w,DN,AS,Av,BG,u,lV0]
def Bp(a b c:Int)(ks:List Kt):Bool:=match ks.find? (LW a b)with
 |some d=>decide (c<=d.c)
 |none=>IS
theorem EB(P:Kt->Bool):∀(l:List Kt) (i:Nat),(l.find? P=By/\F1 P i l= -1)\/∃j k,l.find? P=BY k/\l[j]? =BY k/\F1 P i l=((i+j:Nat):Int)
 |[],i=>.inl ⟨rfl,rfl⟩
 |k::l,i=>by
  unfold F1;by_cases h:P k=IN
  ·rw[IT h]
   exact .inr ⟨0,k,by rw[List.find?_cons_of_pos h],rfl,rfl⟩
  ·rw[If h]
   rcases EB P l (i+1)with ⟨a,b⟩|⟨j,d,a,b,c⟩
   ·exact .inl ⟨by rw[zl h];exact a,b⟩
   ·exact .inr ⟨j+1,d,by rw[zl h];exact a,by rw[xh];exact b,by rw[c];congr 1;omega⟩
theorem G7(e:h.Wf)(R:h.Row A.bs 0 (slL A.bd A.tb lv fv bad ov))(K:h.KS S lv ks)(p:ks.length<=100000)(a b c:Int):
  ∃h',call AC (m+4) 94 [pt A.bs,AI AT a,AI AT b,AI AT c] h=.ok (.bool (Bp a b c ks)) h'/\h.Ext h':=by
 obtain⟨o,d,k⟩:=rU (m:=m) e R K p a b;refine⟨o,?_,k⟩;unfold Bp;rw[oq rfl];unfold d94;rcases EB (LW a b) ks 0 with ⟨g,i⟩|⟨r,j,g,i,n⟩
 ·rw[i]at d
  have f:iGe (-1) 0=IS:=E0 (by omega);simp only[iN,wA,sT,sh,OF,reduceIte,gD,cA0,d,AM,AK,f,lV0,g]
 ·rw[n,wC]at d
  have f:iGe (r:Int) 0=IN:=F0 (by omega);obtain⟨w,_,q,_,u⟩:=(K.ext e k).at i;have s:=u 2 (AI AT j.c) rfl;obtain⟨_,_,_,t,_⟩:=BB (R.ext e k);have l:iGe j.c c=decide (c<=j.c):=Pt _ _;simp only[iN,wA,sT,sh,OF,reduceIte,gD,cA0,d,AM,AK,f,An,AX,AH,AN,wC,xy,AJ,AP,t,A1,q,s,l,lV0,g]
end
def DF(a b:Int):Int:=if a<b then -1 else if b<a then 1 else 0
def orZ:List Int->Int
 |[]=>0
 |z::a=>if z=0 then orZ a else z
def HV(x y:Kt):Int:=orZ [DF x.a y.a,DF x.b y.b,DF x.c y.c,DF x.p y.p]
theorem Du{e:Env}{h:Hp}:FA [] e h=.ok AEU h:=rfl
section
variable {F:AES}{e:Env}{h h':Hp}{S:Nat->Prop}{m:Nat}{ks:List Kt}{v:vz}
theorem pG{a b:Int}:call AC (m+2) 114 [AI AT a,AI AT b] h=.ok (AI AT (DF a b)) h:=by
 have i:∀f:Int,call AC (m+1) 143 [AI AT f] h=.ok (.bool IS) h:=λf=>by
  have c:iNe f f=IS:=CE rfl;rw[WO rfl];unfold iH;simp only[iN,wA,sT,sh,OF,reduceIte,AM,AK,c,lV0]
 unfold DF;rw[gV rfl];unfold pV;by_cases d:a<b
 ·have c:iLt a b=IN:=JJ d
  rw[IT d];simp only[iN,wA,sT,sh,OF,reduceIte,cA0,i,AM,AK,c,lV0]
 ·have c:iLt a b=IS:=GR d
  rw[If d];by_cases e:b<a
  ·have g:iGt a b=IN:=Hm e
   rw[IT e];simp only[iN,wA,sT,sh,OF,reduceIte,cA0,i,AM,AK,c,g,lV0]
  ·have g:iGt a b=IS:=GQ e
   rw[If e];simp only[iN,wA,sT,sh,OF,reduceIte,cA0,i,AM,AK,c,g,lV0]
theorem du:orS=BJ (Ab 0 (A4 orB)) orE:=rfl
theorem Wc:pU=Wd:=rfl
theorem ud{zs:List Int}(r:h.AEs v (ints .i64 zs))(G:zs.length<=1000):call AC (m+1) 113 [v] h=.ok (AI AT (orZ zs)) h:=by
 have s:(ints .i64 zs).length=zs.length:=wF ..;have t:=r.len;rw[s]at t;have B:∃f,Wd (call AC m) (Ay e0 0 [v]) h=orS (call AC m) f h/\J 3 f=AI AT 0/\J 6 f=v/\J 7 f=AI AT (zs.length:Int)/\J 8 f=AI AT ((0:Nat):Int):=by
  unfold Wd;simp only[iN,wA,sT,sh,OF,reduceIte,Aa,t];exact⟨_,rfl,by simp[AG]⟩
 obtain⟨f,u,s3,s6,s7,s8⟩:=B;have E:(∃a,A4 orB (call AC m) f h=.exit 0 a h/\orZ zs=0/\J 3 a=AI AT 0)\/(∃a,A4 orB (call AC m) f h=.ret a h/\J 2 a=AI AT (orZ zs)):=by
  refine Bb (I:=λi a h'=>h'=h/\J 3 a=AI AT 0/\J 6 a=v/\J 7 a=AI AT (zs.length:Int)/\J 8 a=AI AT (i:Int)/\i<=zs.length/\orZ zs=orZ (zs.drop i))
   (Q:=λw=>(∃a,w=.exit 0 a h/\orZ zs=0/\J 3 a=AI AT 0)\/(∃a,w=.ret a h/\J 2 a=AI AT (orZ zs))) zs.length (by omega) (λi a h' ⟨A,t3,t6,t7,t8,F,g⟩=>?_) ⟨rfl,s3,s6,s7,s8,wl _,by rw[xa]⟩
  subst A;by_cases j:i<zs.length
  ·obtain⟨x,g1,g2⟩:=r.at (i:=i) (by rw[s];exact j)
   obtain⟨c,p⟩:∃c,zs[i]? =BY c:=⟨_,wE j⟩;have g2:Ho (.pointer (BY x)) h'=.ok (AI AT c) h':=by
    rw[g2];have:(ints .i64 zs).getD i AEU=AI AT c:=by
     rw[wG];simp[ints,p]
    rw[this]
   have z:zs.drop i=c::zs.drop (i+1):=by
    rw[yP j];rw[wE j]at p;rw[Option.some.inj p]
   rw[z]at g;have g:orZ zs=if c=0 then orZ (zs.drop (i+1))else c:=g
   have l:=Ec j;by_cases n:c=0
   ·left
    rw[IT n]at g;have o:iNe c 0=IS:=CE n;have y:=CL (i:=i) (h:=h') (by omega);have k:∃b,orB (call AC m) a h'=.norm b h'/\J 3 b=AI AT 0/\J 6 b=v/\J 7 b=AI AT (zs.length:Int)/\J 8 b=AI AT ((i+1:Nat):Int):=by
     unfold orB;simp only[sT,sh,OF,reduceIte,AM,AK,t8,t7,l,A1,t6,g1,AJ,g2,t3,o,BL,y];exact⟨_,rfl,by simp[AG,t3,t6,t7]⟩
    obtain⟨b,d,e,q,C,D⟩:=k;exact⟨j,b,h',d,rfl,e,q,C,D,by omega,g⟩
   ·right
    rw[If n]at g;have o:iNe c 0=IN:=De n;have k:∃b,orB (call AC m) a h'=.ret b h'/\J 2 b=AI AT c:=by
     unfold orB;simp only[sT,sh,OF,reduceIte,AM,AK,t8,t7,l,A1,t6,g1,AJ,g2,t3,o];exact⟨_,rfl,by simp[AG]⟩
    obtain⟨b,d,e⟩:=k;rw[d];exact⟨rfl,.inr ⟨b,rfl,by rw[e,g]⟩⟩
  ·right
   have l:=DC (show zs.length<=i by omega);have k:∃b,orB (call AC m) a h'=.exit 0 b h'/\J 3 b=AI AT 0:=by
    unfold orB;simp only[sT,sh,OF,reduceIte,AM,AK,t8,t7,l];exact⟨_,rfl,by simp[AG,t3]⟩
   obtain⟨b,d,e⟩:=k;rw[d];exact⟨rfl,.inl ⟨b,rfl,by rw[g,xV (by omega)];rfl,e⟩⟩
 rcases E with ⟨b,d,e,q⟩|⟨b,d,e⟩
 ·rw[WG rfl,Wc,u,du,e]
  simp only[BC,Aw,d,A6,BA];unfold orE;simp only[sT,sh,OF,reduceIte,q,lV0]
 ·rw[WG rfl,Wc,u,du]
  simp only[BC,Aw,d,B7,Ce,lV0,e]
theorem sW:BX ty3.zero 4=[AI AT 0,AI AT 0,AI AT 0,AI AT 0]:=by kernel_rfl
theorem Yp(j:h.Wf){g1 g2 g3 g4:O}{a b c d:Int}(f:g1 e=AI AT a)(h2:g2 e=AI AT b)(g:g3 e=AI AT c)(i:g4 e=AI AT d):
  Ap 4 (BX ty3.zero 4) [(0,1,g1),(1,1,g2),(2,1,g3),(3,1,g4)] F e h=.ok (.slice (BY ⟨h.next,0,By⟩) 4 4) (h.AER 0 (ints .i64 [a,b,c,d])):=by
 rw[CQ,sW,A3 (hk:=by rw[f];rfl),f,A3 (hk:=by rw[h2];rfl),h2,A3 (hk:=by rw[g];rfl),g,A3 (hk:=by rw[i];rfl),i];simp only[Cr,xM,wK,xD,over,AAw,AAZ,zK,xI,yS,wA,yn,if_true,Bw,reduceIte];rw[Cw j];rfl
theorem dw(g:h.Wf)(x y:Kt):∃h',call AC (m+3) 71 [ktV x,ktV y] h=.ok (AI AT (HV x y)) h'/\h.Ext h':=by
 have P:=λ(F:AES) (e:Env) (B:J 0 e=ktV x)=>IF (F:=F) g B
 have j:=(Hp.Ext.refl g).AER 0 (AY x);have M:=Hp.Row.new g 0 (AY x);have n1:(h.AER 0 (AY x)).next=h.next+1:=rfl;generalize h.AER 0 (AY x)=i at P j M n1;have Q:=λ(F:AES) (e:Env) (B:J 1 e=ktV y)=>IF (F:=F) j.wf B
 have L:=(Hp.Ext.refl j.wf).AER 0 (AY y);have N:=Hp.Row.new j.wf 0 (AY y);have n2:(i.AER 0 (AY y)).next=i.next+1:=rfl;generalize i.AER 0 (AY y)=d at Q L N n2;have f:=(j.trans L).marked;have l:d.marked.Row h.next 0 (AY x):=(M.ext j.wf L).same rfl;have n:d.marked.Row i.next 0 (AY y):=N.same rfl;have mk:d.marked.mark=d.next:=rfl;have nx:d.marked.next=d.next:=rfl;generalize a2:d.marked=g0 at f l n mk nx;have u:∀(a:Hp) (g:a.Wf) (q:a.mark<=a.next) (R:Qm) (G H:Nat) (w z:Int) (e:Env),J G e=AI AT w->J H e=AI AT z->AZ R (AU 114 [J G,J H]) (call AC (m+2)) e a=.ok (AI AT (DF w z)) (a.back a.quiet):=λa g q R G H w z e p A=>by
  refine G4 g ?_ q;rw[BG,AS,AS,Av,p,A];exact pG
 have o:∀a:Hp,a.Wf->a.Ext (a.back a.quiet)/\(a.back a.quiet).next=a.next/\(a.back a.quiet).mark=a.mark:=λa g=>⟨Hp.Ext.AFY (.refl g) (Hp.Ext.refl g).quiet,rfl,rfl⟩
 have I:∀(a:Hp) (q:a.mark=d.next) (K c:Nat) (b:C) (F:AES) (e:Env),K<d.next->IU (.pointer (BY ⟨K,c,By⟩)) b F e a=b F e a:=λa q K c b F e hr=>DO (by rw[q];exact hr)
 obtain⟨l0,_⟩:=Bv l;obtain⟨k0,_⟩:=Bv n;have w1:=u g0 f.wf (by omega) .weak 7 10 x.a y.a;obtain⟨k,v1,V⟩:=o g0 f.wf;generalize g0.back g0.quiet=g1 at w1 k v1 V;have S:=I g1 (V.trans mk);obtain⟨_,l1,_⟩:=Bv (l.ext f.wf k);obtain⟨_,k1,_⟩:=Bv (n.ext f.wf k);have w2:=u g1 k.wf (by omega) .weak 14 17 x.b y.b;obtain⟨Z,v2,u2⟩:=o g1 k.wf;generalize g1.back g1.quiet=g2 at w2 Z v2 u2;have r:=k.trans Z;have T:=I g2 (by omega);obtain⟨_,_,l2,_⟩:=Bv (l.ext f.wf r);obtain⟨_,_,k2,_⟩:=Bv (n.ext f.wf r);have W:=u g2 r.wf (by omega) .weak 21 24 x.c y.c;obtain⟨a0,v3,u3⟩:=o g2 r.wf;generalize g2.back g2.quiet=g3 at W a0 v3 u3;have s:=r.trans a0;have o3:=I g3 (by omega);obtain⟨_,_,_,_,_,l5,_⟩:=Bv (l.ext f.wf s);obtain⟨_,_,_,_,_,k5,_⟩:=Bv (n.ext f.wf s);have X:=u g3 s.wf (by omega) .free 27 29 x.p y.p;obtain⟨a1,v4,u4⟩:=o g3 s.wf;generalize g3.back g3.quiet=g4 at X a1 v4 u4;have t:=s.trans a1;have U:∀(F:AES) (e:Env),J 11 e=AI AT (DF x.a y.a)->J 18 e=AI AT (DF x.b y.b)->J 25 e=AI AT (DF x.c y.c)->J 30 e=AI AT (DF x.p y.p)->AZ .AEk (Ap 4 (BX ty3.zero 4) [(0,1,J 11),(1,1,J 18),(2,1,J 25),(3,1,J 30)]) F e g4=.ok (.slice (BY ⟨g4.next,0,By⟩) 4 4) (g4.back (g4.quiet.AER 0 (ints .i64 [DF x.a y.a,DF x.b y.b,DF x.c y.c,DF x.p y.p]))):=λF e p A e3 e4=>Cd (Yp t.wf.quiet p A e3 e4) ((Hp.Ext.refl t.wf.quiet).AER _ _) (by omega)
 have Y:g4.Ext (g4.back (g4.quiet.AER 0 (ints .i64 [DF x.a y.a,DF x.b y.b,DF x.c y.c,DF x.p y.p]))):=.back ((Hp.Ext.refl t.wf.quiet).AER _ _);have O:(g4.back (g4.quiet.AER 0 (ints .i64 [DF x.a y.a,DF x.b y.b,DF x.c y.c,DF x.p y.p]))).Row g4.next 0 (ints .i64 [DF x.a y.a,DF x.b y.b,DF x.c y.c,DF x.p y.p]):=(Hp.Row.new t.wf.quiet 0 (ints .i64 [DF x.a y.a,DF x.b y.b,DF x.c y.c,DF x.p y.p])).same rfl;generalize g4.back (g4.quiet.AER 0 (ints .i64 [DF x.a y.a,DF x.b y.b,DF x.c y.c,DF x.p y.p]))=g5 at U Y O;have z5:=t.trans Y;have k6:=ud (m:=m+1) (h:=g5.quiet) (v:=.slice (BY ⟨g4.next,0,By⟩) 4 4) (zs:=[DF x.a y.a,DF x.b y.b,DF x.c y.c,DF x.p y.p]) (.inr ⟨g4.next,0,4,0,_,rfl,O.same rfl,wB _,rfl⟩) (by show 4<=1000;omega);have q6:∀e:Env,J 31 e=.slice (BY ⟨g4.next,0,By⟩) 4 4->AZ .free (AU 113 [J 31]) (call AC (m+2)) e g5=.ok (AI AT (HV x y)) (g5.back g5.quiet):=λe p=>by
  refine BE ?_;rw[BG,AS,Av,p];exact k6
 refine⟨g5.back g5.quiet,?_,(f.trans z5).trans (o g5 z5.wf).1⟩;rw[oU rfl];unfold d71;have D:h.next<d.next:=by omega
 have E:i.next<d.next:=by omega
 have o11:=λc b F e=>S h.next c b F e D
 have o12:=λc b F e=>S i.next c b F e E
 have a3:=λc b F e=>T h.next c b F e D
 have a4:=λc b F e=>T i.next c b F e E
 have o31:=λc b F e=>o3 h.next c b F e D
 have o32:=λc b F e=>o3 i.next c b F e E
 simp only[iN,wA,sT,sh,OF,reduceIte,P,Q,Ar,a2,AH,AN,wC,xy,AJ,AP,l0,k0,w1,D7,o11,o12,DL,l1,k1,w2,a3,a4,l2,k2,W,o31,o32,l5,k5,X,U,q6,lV0]
theorem Y5{a:C}{i:Nat}{b:Env}(c:a F e h=.exit i b h'):A4 a F e h=.exit i b h':=by
 show iter a (8796093022207+1) F e h=_;unfold iter;rw[c]
theorem QA:jsB=Yv:=rfl
theorem Wn:pr=Wo:=rfl
theorem tN(u:h.Wf)(K:h.KS S v ks)(hl:ks.length<=1000)(L:∀(i:Nat) (x y:Kt),ks[i]? =BY x->ks[i+1]? =BY y->0<=HV y x):
  ∃h',call AC (m+4) 133 [v,AI AT 0,AI AT (ks.length:Int),.func (.func 71) ⟨[]⟩ ⟨[]⟩] h=.ok AEU h'/\h.Ext h':=by
 have Z:∀c:Env,J 0 c=v->J 1 c=AI AT 0->J 2 c=AI AT (ks.length:Int)->J 3 c=.func (.func 71) ⟨[]⟩ ⟨[]⟩->J 8 c=AI AT ((1:Nat):Int)->∃b h',A4 jsB (call AC (m+3)) c h=.exit 0 b h'/\h.Ext h':=λc s0 s1 s2 s3 s8=>by
  refine Bb (I:=λi b h'=>h.Ext h'/\J 0 b=v/\J 1 b=AI AT 0/\J 2 b=AI AT (ks.length:Int)/\J 3 b=.func (.func 71) ⟨[]⟩ ⟨[]⟩/\J 8 b=AI AT ((i+1:Nat):Int)) (Q:=λx=>∃b h',x=.exit 0 b h'/\h.Ext h') ks.length (by omega) (λi b h' ⟨C,t0,t1,t2,t3,t8⟩=>?_) ⟨.refl u,s0,s1,s2,s3,s8⟩;by_cases w:i+1<ks.length
  ·left
   have o:iLt ((i+1:Nat):Int) (ks.length:Int)=IN:=Ec w;have F:iGt ((i+1:Nat):Int) 0=IN:=Hm (by omega);obtain⟨y,A⟩:∃y,ks[i+1]? =BY y:=⟨_,wE w⟩;obtain⟨x,z⟩:∃x,ks[i]? =BY x:=⟨_,wE (by omega)⟩;have r:=C.marked;have t:=K.ext u r;obtain⟨a0,_,N,R,_⟩:=t.at A;obtain⟨b',_,O,T,_⟩:=t.at z;have n:Ge xO .i64 (AI AT ((i+1:Nat):Int)) (AI AT 1) h'.marked=.ok (AI AT (i:Int)) h'.marked:=by
    have:xO ((i+1:Nat):Int) 1=(i:Int):=by
     show((i+1:Nat):Int) - 1=_;omega
    rw[Co,this,Bl (by omega)]
   obtain⟨j,P,s⟩:=dw (m:=m) r.quiet.wf y x;have B:∀e:Env,J 22 e=.func (.func 71) ⟨[]⟩ ⟨[]⟩->J 26 e=ktV y->J 31 e=ktV x->AZ .free (ET (J 22) [J 26,J 31]) (call AC (m+3)) e h'.marked=.ok (AI AT (HV y x)) (h'.marked.back j):=λe c f a=>by
    refine BE ?_;rw[CN,AS,AS,Av,c,f,a];exact P
   have D:h'.marked.Ext (h'.marked.back j):=.back s;generalize h'.marked.back j=k at B D;have x3:=r.trans D;have G:iLt (HV y x) 0=IS:=GR (by have:=L i x y z A;omega);have E:GF .i64 (AI AT ((i+1:Nat):Int)) (AI AT 1) k=.ok (AI AT ((i+1+1:Nat):Int)) k:=CL (by omega);have M:∀e:Env,J 0 e=v->J 1 e=AI AT 0->J 3 e=.func (.func 71) ⟨[]⟩ ⟨[]⟩->J 9 e=AI AT ((i+1:Nat):Int)->∃f,jnB (call AC (m+3)) e h'=.exit 2 f k/\∀d,d=0\/d=1\/d=2\/d=3\/d=8->J d f=J d e:=λe t0 t1 t3 t9=>by
    unfold jnB Yu swB Aq;simp only[sT,sh,OF,reduceIte,gD,Ar,AM,AK,t9,t1,F,t3,t0,A1,N,O,Ai,Ac,R,T,B6,n,B,G];refine⟨_,rfl,λd H=>?_⟩;rcases H with rfl|rfl|rfl|rfl|rfl<;>simp only[AG,sh,OF,reduceIte]
   obtain⟨f,q,l⟩:=M (Env.set 9 (AI AT ((i+1:Nat):Int)) (Env.set 14 (.bool IN) b)) (by simp[AG,t0]) (by simp[AG,t1]) (by simp[AG,t3]) (by simp[AG]);have q:=Y5 q;have g0:=l 0 (by omega);have g1:=l 1 (by omega);have g2:=l 2 (by omega);have g3:=l 3 (by omega);have g8:=l 8 (by omega);simp only[AG,sh,OF,reduceIte,t0]at g0;simp only[AG,sh,OF,reduceIte,t1]at g1;simp only[AG,sh,OF,reduceIte,t2]at g2;simp only[AG,sh,OF,reduceIte,t3]at g3;simp only[AG,sh,OF,reduceIte,t8]at g8;have p:∃a,jsB (call AC (m+3)) b h'=.norm a k/\J 0 a=v/\J 1 a=AI AT 0/\J 2 a=AI AT (ks.length:Int)/\J 3 a=.func (.func 71) ⟨[]⟩ ⟨[]⟩/\J 8 a=AI AT ((i+1+1:Nat):Int):=by
    rw[QA];unfold Yv;simp only[sT,sh,OF,reduceIte,AM,AK,t8,t2,o,q,g8,BL,E];exact⟨_,rfl,by simp[AG,g0,g1,g2,g3]⟩
   obtain⟨a,g,U,V,W,X,Y⟩:=p;exact⟨by omega,a,k,g,x3,U,V,W,X,Y⟩
  ·right
   have o:iLt ((i+1:Nat):Int) (ks.length:Int)=IS:=DC (by omega);have p:∃a,jsB (call AC (m+3)) b h'=.exit 0 a h':=by
    rw[QA];unfold Yv;simp only[sT,sh,OF,reduceIte,AM,AK,t8,t2,o];exact⟨_,rfl⟩
   obtain⟨a,g⟩:=p;rw[g];exact⟨rfl,a,h',rfl,C⟩
 have n:GF .i64 (AI AT 0) (AI AT 1) h=.ok (AI AT ((1:Nat):Int)) h:=CL (i:=0) (by omega);obtain⟨f,j,g,s⟩:=Z (Env.set 8 (AI AT ((1:Nat):Int)) (Env.set 11 (AI AT ((1:Nat):Int)) (Ay e0 0 [v,AI AT 0,AI AT (ks.length:Int),.func (.func 71) ⟨[]⟩ ⟨[]⟩]))) (by simp only[iN,wA,AG,sh,OF,reduceIte]) (by simp only[iN,wA,AG,sh,OF,reduceIte]) (by simp only[iN,wA,AG,sh,OF,reduceIte]) (by simp only[iN,wA,AG,sh,OF,reduceIte]) (by simp[AG]);simp only[iN,wA]at g;refine⟨j,?_,s⟩;rw[WN rfl,Wn];unfold Wo;simp only[iN,wA,sT,sh,OF,reduceIte,BL,n,g,Dw,Du]
theorem Wa:pS=Wb:=rfl
theorem eE:pdB=kL:=rfl
theorem NW{a:C}{b:Env}(c:a F e h=.ret b h'):A4 a F e h=.ret b h':=by
 show iter a (8796093022207+1) F e h=_;unfold iter;rw[c]
theorem Z2{x y:O}{n:Nat}{s:ByteArray}(hx:x e=.string s)(hy:y e=.int .u8 (n:Int))(hn:n<s.data.toList.length):∃b:Nat,Jb x y F e h=.ok (.int .u8 (b:Int)) h/\b<256:=by
 have e1:Jb x y F e h=Kx (x e) (Dj (y e)) h:=rfl;have e2:nth s.data.toList n=BY (s.data.toList[n]'hn):=by rw[Gh,wE hn]
 refine⟨(s.data.toList[n]'hn).toNat,?_,UInt8.toNat_lt _⟩;rw[e1,hx,hy,DM];unfold Kx;simp only[e2];exact FE ..
theorem Pa{n:Nat}(c:n<256):∃k:Nat,call AC (m+2) 112 [.int .u64 (n:Int)] h=.ok (AI AT (k:Int)) h:=by
 have f:iGe (n:Int) 4294967296=IS:=E0 (by omega);have g:iGe (n:Int) 65536=IS:=E0 (by omega);have i:iGe (n:Int) 256=IS:=E0 (by omega);have o:Ds .u8 (.int .u64 (n:Int)) h=.ok (.int .u8 (n:Int)) h:=by rw[Cz,JC,zg c]
 have key:∃k:Nat,call AC (m+1) 142 [.int .u64 (n:Int)] h=.ok (AI AT (k:Int)) h:=by
  rw[gh rfl];unfold px;simp only[iN,wA,sT,sh,OF,reduceIte,AM,AK,f,g,i,CU,o];obtain⟨b,j,q⟩:=Z2 (F:=call AC m) (h:=h) (e:=Env.set 21 (.int .u8 (n:Int)) (Env.set 14 (.bool IS) (Env.set 8 (.bool IS) (Env.set 4 (.bool IS) (Env.set 2 (AI AT 0) (Env.set 0 (.int .u64 (n:Int)) e0)))))) (x:=(W (.string ⟨#[0,1,2,2,3,3,3,3,4,4,4,4,4,4,4,4,5,5,5,5,5,5,5,5,5,5,5,5,5,5,5,5,6,6,6,6,6,6,6,6,6,6,6,6,6,6,6,6,6,6,6,6,6,6,6,6,6,6,6,6,6,6,6,6,7,7,7,7,7,7,7,7,7,7,7,7,7,7,7,7,7,7,7,7,7,7,7,7,7,7,7,7,7,7,7,7,7,7,7,7,7,7,7,7,7,7,7,7,7,7,7,7,7,7,7,7,7,7,7,7,7,7,7,7,7,7,7,7,8,8,8,8,8,8,8,8,8,8,8,8,8,8,8,8,8,8,8,8,8,8,8,8,8,8,8,8,8,8,8,8,8,8,8,8,8,8,8,8,8,8,8,8,8,8,8,8,8,8,8,8,8,8,8,8,8,8,8,8,8,8,8,8,8,8,8,8,8,8,8,8,8,8,8,8,8,8,8,8,8,8,8,8,8,8,8,8,8,8,8,8,8,8,8,8,8,8,8,8,8,8,8,8,8,8,8,8,8,8,8,8,8,8,8,8,8,8,8,8,8,8,8,8,8,8,8,8]⟩))) (y:=J 21) (n:=n) rfl (by simp[AG]) (by
   refine Nat.lt_of_lt_of_eq c ?_
   kernel_rfl)
  rw[j];have p:Ds .i64 (.int .u8 (b:Int)) h=.ok (AI AT (b:Int)) h:=by rw[Cz,Bl (by omega)]
  have d:GF .i64 (AI AT 0) (AI AT (b:Int)) h=.ok (AI AT (b:Int)) h:=by
   have:=Vu (h:=h) (a:=0) (b:=b) (by omega);rw[wC]at this;exact this
  simp only[sT,sh,OF,reduceIte,CU,p,BL,d,lV0];exact⟨b,rfl⟩
 obtain⟨k,l⟩:=key;refine⟨k,?_⟩;rw[gU rfl];unfold pT;simp only[iN,wA,sT,sh,OF,reduceIte,cA0,l,lV0]
theorem kj(e:h.Wf)(K:h.KS S v ks)(t:ks.length<=12)(l:∀(i:Nat) (x y:Kt),ks[i]? =BY x->ks[i+1]? =BY y->0<=HV y x):
  ∃h',call AC (m+6) 70 [v,.func (.func 71) ⟨[]⟩ ⟨[]⟩] h=.ok AEU h'/\h.Ext h':=by
 have q:=K.len h;obtain⟨b,o,s⟩:=tN (m:=m) e K (by omega) l;obtain⟨d,p⟩:=Pa (m:=m+3) (h:=h) (n:=ks.length) (by omega);have j:Ds .u64 (AI AT (ks.length:Int)) h=.ok (.int .u64 (ks.length:Int)) h:=by rw[Cz,Eu (by omega)]
 have f:Ge xO .i64 (AI AT (ks.length:Int)) (AI AT 0) h=.ok (AI AT (ks.length:Int)) h:=by
  have:xO (ks.length:Int) 0=(ks.length:Int):=Int.sub_zero _;rw[Co,this,Bl (by omega)]
 have g:iLe (ks.length:Int) 12=IN:=Hn (by omega);have r:call AC (m+5) 111 [v,AI AT 0,AI AT (ks.length:Int),AI AT (d:Int),.func (.func 71) ⟨[]⟩ ⟨[]⟩] h=.ok AEU b:=by
  have k:∃c,pdB (call AC (m+4)) (Env.set 11 (.bool IN) (Env.set 10 (.bool IN) (Ay e0 0 [v,AI AT 0,AI AT (ks.length:Int),AI AT (d:Int),.func (.func 71) ⟨[]⟩ ⟨[]⟩]))) h=.ret c b:=by
   rw[eE];unfold kL;simp only[iN,wA,sT,sh,OF,reduceIte,B6,f,AM,AK,g,cA0,o];exact⟨_,rfl⟩
  obtain⟨c,a⟩:=k;have a:=NW a;simp only[iN,wA]at a;rw[WF rfl,Wa];unfold Wb;simp only[iN,wA,sT,sh,OF,reduceIte,a,A7,Du]
 refine⟨b,?_,s⟩;rw[aR rfl];unfold d70;simp only[iN,wA,sT,sh,OF,reduceIte,Aa,q,CU,j,cA0,p,r,Dw,Du]
end
theorem SH{k:we}{Z:List Int}:(ints k Z).length=Z.length:=wF ..
theorem i9{k:we}{Z:List Int}{i:Nat}(hi:i<Z.length):(ints k Z).getD i AEU=.int k (Z.getD i 0):=by
 unfold ints;rw[wG,xc,wG,wE hi];rfl
theorem Hp.AEs.int{h:Hp}{k:we}{u:vz}{Z:List Int}(b:h.AEs u (ints k Z)){i:Nat}(hi:i<Z.length):∃a,AFM 1 u (AI AT (i:Int)) h=.ok (.pointer (BY a)) h/\Ho (.pointer (BY a)) h=.ok (.int k (Z.getD i 0)) h:=by
 obtain⟨a,g1,g2⟩:=b.at (i:=i) (by rw[SH];exact hi);rw[i9 hi]at g2;exact⟨a,g1,g2⟩
theorem Hp.AEs.AKM{h:Hp}{k:we}{u:vz}{Z:List Int}(V:h.AEs u (ints k Z)):AFB u h=.ok (AI AT (Z.length:Int)) h:=by
 have:=V.len;rwa [SH]at this
def JW(x:Int):Nat->List Int->Int
 |_,[]=> -1
 |i,b::a=>if x=b then(i:Int)else JW x (i+1) a
theorem XN(x:Int):∀(zs:List Int) (i:Nat),(x∉zs/\JW x i zs= -1)\/(x∈zs/\∃k,k<zs.length/\JW x i zs=((i+k:Nat):Int)/\zs.getD k 0=x)
 |[],i=>.inl ⟨λa=>(by cases a),rfl⟩
 |z::f,i=>by
  unfold JW;by_cases a:x=z
  ·rw[IT a]
   exact .inr ⟨by rw[a];exact wJ,0,AAB _,rfl,a.symm⟩
  ·rw[If a]
   rcases XN x f (i+1)with ⟨b,c⟩|⟨b,k,c,d,e⟩
   ·refine .inl ⟨λhx=>?_,c⟩
    rcases wS.1 hx with hx|hx
    ·exact a hx
    ·exact b hx
   ·exact .inr ⟨wI _ b,k+1,Nat.succ_lt_succ c,by rw[d];congr 1;omega,e⟩
theorem i6(x:Int)(zs:List Int):(0<=JW x 0 zs)↔x∈zs:=by
 rcases XN x zs 0 with ⟨a,c⟩|⟨a,e,_,d,_⟩
 ·rw[c];exact⟨λb=>by omega,λb=>absurd b a⟩
 ·rw[d];exact⟨λ_=>a,λ_=>by omega⟩
theorem iz(x:Int)(zs:List Int):iGe (JW x 0 zs) 0=decide (x∈zs):=by
 rw[Pt,decide_eq_decide];exact i6 x zs
theorem rE:ixS=BJ (Ab 0 (A4 ixB)) ixE:=rfl
theorem iB:pZ=Wk:=rfl
theorem jB{F:AES}{h:Hp}{u:vz}{zs:List Int}{x:Int}(q:h.AEs u (ints .i64 zs))(C:zs.length<900000){e:Env}(s0:J 0 e=u)(s1:J 1 e=AI AT x)(s7:J 7 e=AI AT (zs.length:Int))(s8:J 8 e=AI AT 0):
  (∃b,A4 ixB F e h=.exit 0 b h/\JW x 0 zs= -1)\/(∃b,A4 ixB F e h=.ret b h/\J 4 b=AI AT (JW x 0 zs)):=by
 refine Bb (I:=λa b d=>d=h/\J 0 b=u/\J 1 b=AI AT x/\J 7 b=AI AT (zs.length:Int)/\J 8 b=AI AT (a:Int)/\a<=zs.length/\JW x 0 zs=JW x a (zs.drop a))
  (Q:=λp=>(∃b,p=.exit 0 b h/\JW x 0 zs= -1)\/(∃b,p=.ret b h/\J 4 b=AI AT (JW x 0 zs))) zs.length (by omega) (λa b d ⟨t,t0,t1,t7,t8,B,f⟩=>?_)
  ⟨rfl,s0,s1,s7,s8,wl _,rfl⟩
 subst t;by_cases g:a<zs.length
 ·obtain⟨A,g1,g2⟩:=q.int g
  have s:zs.drop a=zs.getD a 0::zs.drop (a+1):=by
   rw[yP g,wG,wE g];rfl
  rw[s]at f;generalize zs.getD a 0=m at g2 f;have f:JW x 0 zs=if x=m then(a:Int)else JW x (a+1) (zs.drop (a+1)):=f
  have k:iLt (a:Int) (zs.length:Int)=IN:=by rw[DG];simp;omega
  by_cases l:x=m
  ·right
   have n:iEq x m=IN:=by rw[Dh];simpa using l
   have i:∃c,ixB F b d=.ret c d/\J 4 c=AI AT (a:Int):=by
    unfold ixB;simp only[sT,sh,OF,reduceIte,AM,AK,t8,t7,k,A1,t0,g1,AJ,g2,t1,n];exact⟨_,rfl,by simp[AG]⟩
   obtain⟨c,j,o⟩:=i;rw[j];refine⟨rfl,.inr ⟨c,rfl,?_⟩⟩;rw[o,f,IT l]
  ·left
   have n:iEq x m=IS:=by rw[Dh];simpa using l
   have r:GF .i64 (AI AT (a:Int)) (AI AT 1) d=.ok (AI AT ((a+1:Nat):Int)) d:=by
    have:(a:Int)+1=((a+1:Nat):Int):=by omega
    rw[FK,this,Bl (by omega)]
   have i:∃c,ixB F b d=.norm c d/\J 0 c=u/\J 1 c=AI AT x/\J 7 c=AI AT (zs.length:Int)/\J 8 c=AI AT ((a+1:Nat):Int):=by
    unfold ixB;simp only[sT,sh,OF,reduceIte,AM,AK,t8,t7,k,A1,t0,g1,AJ,g2,t1,n,BL,r];exact⟨_,rfl,by simp[AG,t0,t1,t7]⟩
   obtain⟨c,j,o,w,y,z⟩:=i;rw[If l]at f;exact⟨g,c,d,j,rfl,o,w,y,z,g,f⟩
 ·right
  have k:iLt (a:Int) (zs.length:Int)=IS:=by rw[DG];simp;omega
  have i:∃c,ixB F b d=.exit 0 c d:=by
   unfold ixB;simp only[sT,sh,OF,reduceIte,AM,AK,t8,t7,k];exact⟨_,rfl⟩
  obtain⟨c,j⟩:=i;rw[j];refine⟨rfl,.inl ⟨c,rfl,?_⟩⟩;rw[f,xV (by omega)];rfl
theorem cK{n:Nat}{h:Hp}{u:vz}{zs:List Int}{x:Int}(d:h.AEs u (ints .i64 zs))(f:zs.length<900000):call AC (n+1) 118 [u,AI AT x] h=.ok (AI AT (JW x 0 zs)) h:=by
 have m:∃a,Wk (call AC n) (Ay e0 0 [u,AI AT x]) h=ixS (call AC n) a h/\J 0 a=u/\J 1 a=AI AT x/\J 7 a=AI AT (zs.length:Int)/\J 8 a=AI AT 0:=by
  unfold Wk;simp only[iN,wA,HF,HT,EM,HS,Gw,AG,sh,OF,reduceIte,Aa,d.AKM];exact⟨_,rfl,by simp[AG]⟩
 obtain⟨a,i,g,l,j,k⟩:=m;rw[gY rfl,iB,i,rE];rcases jB (F:=call AC n) d f g l j k with ⟨e,b,c⟩|⟨e,b,c⟩
 ·simp only[BC,Aw,b,A6,BA]
  unfold ixE;simp only[sT,sh,OF,reduceIte,lV0,c]
 ·simp only[BC,Aw,b,B7,Ce,lV0,c]
theorem RF{n:Nat}{h:Hp}{u:vz}{zs:List Int}{x:Int}(a:h.AEs u (ints .i64 zs))(b:zs.length<900000):call AC (n+2) 76 [u,AI AT x] h=.ok (.bool (decide (x∈zs))) h:=by
 have c:=cK (n:=n) (x:=x) a b;rw[oZ rfl];unfold d76;simp only[iN,wA,sT,sh,OF,reduceIte,cA0,c,AM,AK,iz,lV0]
section
variable {F:AES}{e:Env}{h h' h0:Hp}{S:Nat->Prop}{m k:Nat}{ks:List Kt}{v:vz}
def Hp.KO(h:Hp)(k:Nat)(v:vz)(ks:List Kt):Prop:=(v=.slice By 0 0/\ks=[])\/∃a,v=.slice (BY ⟨a,0,By⟩) ks.length ks.length/\h.Row a 125 (flK ks)/\k<=a/\256<=a
theorem Hp.KO.lst(o:h.KO k v ks):h.KS (λb=>k<=b) v ks:=by
 rcases o with a|⟨b,a,c,d,e⟩
 ·exact .inl a
 ·exact .inr ⟨b,_,_,_,a,wB _,c,by rw[Ca];omega,by rw[<- Ca,xz],.inl rfl,d⟩
theorem Hp.KO.keep(o:h.KO k v ks)(hk:∀b d c,AEu v b->h.Row b d c->h'.Row b d c):h'.KO k v ks:=by
 rcases o with a|⟨b,a,e,f,g⟩
 ·exact .inl a
 ·exact .inr ⟨b,a,hk b _ _ ⟨0,_,_,a⟩ e,f,g⟩
theorem Hp.KO.ext(o:h.KO k v ks)(a:h.Wf)(x:h.Ext h'):h'.KO k v ks:=o.keep λ_ _ _ _ b=>b.ext a x
theorem Hp.KO.same(o:h.KO k v ks)(a:h'.bl=h.bl):h'.KO k v ks:=o.keep λ_ _ _ _ b=>b.same a
theorem Hp.KO.blk(o:h.KO k v ks)(e:h.Wf){b:Nat}(f:AEu v b):k<=b/\b<h.next:=by
 obtain⟨n,m,i,a⟩:=f;rcases o with ⟨c,d⟩|⟨g,c,d,j,l⟩
 ·rw[c]at a;cases a
 ·have:=d.lt e
  rw[c]at a;injection a with a _ _
  injection a with a
  injection a with a _ _
  omega
theorem YO:BX D4.zero 1=AY K0:=by kernel_rfl
theorem NT(b:h.Wf){g:O}{x:Kt}(a:g e=ktV x):Ap 1 (BX D4.zero 1) [(0,6,g)] F e h=.ok (.slice (BY ⟨h.next,0,By⟩) 1 1) (h.AER 0 (AY x)):=by
 rw[YO,CQ,A3 (hk:=by rw[a];rfl),a,show cellsOf (ktV x)=AY x from rfl,IT (show(AY x).length=6 from rfl),IT (show 0+6<=(AY K0).length from wB _),Bw,Cw b];rfl
theorem HH{x:Kt}(a:oneCell x.u=IN):Bd (AY x)=IN:=by
 show(bif oneCell x.u then IN else IS)=IN;rw[a];rfl
theorem Ur(y:h0.Ext h)(hk:h0.next<=k)(H:k<=h.next)(o:h.KO k v ks){x:Kt}(D:oneCell x.u=IN)(I:ks.length<=100000):
  ∃h' v',DX 6 64 124 v (.slice (BY ⟨h.next,0,By⟩) 1 1) (h.AER 0 (AY x))=.ok v' h'/\h0.Ext h'/\h'.KO k v' (ks++[x])/\h.next<=h'.next/\∀b d c,¬AEu v b->h.Row b d c->h'.Row b d c:=by
 have a:=y.wf;have i:=y.AER 0 (AY x);have j:=(Hp.Ext.refl a).AER 0 (AY x);have s:=Hp.Row.new a 0 (AY x);have E:(h.AER 0 (AY x)).next=h.next+1:=rfl;have w:=o.ext a j;generalize h.AER 0 (AY x)=f at i j s E w;have u:∀K:List vz->R,BP f 6 (.slice (BY ⟨h.next,0,By⟩) 1 1) 1 K=K (AY x):=λK=>s.AGd (es:=6) (off:=0) (n:=1) (by show 0+1 * 6<=6;omega)
 have t:=HH D;rcases w with ⟨rfl,rfl⟩|⟨b,rfl,r,G,z⟩
 ·obtain⟨g,l,m,p,A,_,q⟩:=KF (eb:=64) (en:=124) i u rfl rfl t (by omega)
  refine⟨g,_,l,m,.inr ⟨f.next,rfl,?_,by omega,by have:=a.big;omega⟩,by omega,λb d c _ r=>(r.ext a j).ext i.wf q⟩;show g.Row f.next 125 (AY x++[]);rw[wT];exact p
 ·obtain⟨g,l,m,p,A,_,q⟩:=J8 (eb:=64) (en:=124) (n:=ks.length) i u rfl rfl (by omega) t r (by rw[Ca];omega) (by omega) z (by omega)
  refine⟨g,_,l,m,.inr ⟨f.next,by rw[wD];rfl,?_,by omega,by have:=a.big;omega⟩,by omega,λB d c C F=>q B d c (λe=>C ⟨0,ks.length,ks.length,by rw[e]⟩) (F.ext a j)⟩;rw[J4,show flK [x]=AY x from wT _];exact p
def Uf(x y:Kt):Prop:=y.a=x.a/\y.b=x.b/\y.p≠x.p/\y.s=2/\(x.c<y.c\/y.c=x.c/\x.s=1)
def uw(x y:Kt):Prop:=y.a=x.a/\y.b=x.b/\y.c=x.c/\y.s=x.s
theorem GP(a b:Int):(iEq a b=IN/\a=b)\/(iEq a b=IS/\a≠b):=by
 by_cases h:a=b
 ·exact .inl ⟨CZ h,h⟩
 ·exact .inr ⟨B8 h,h⟩
theorem qn:hiB=qo:=rfl
theorem iA:pW=We:=rfl
theorem qV(c:h.Wf){A:Nat}{x y:Kt}(B:h.Row A 0 (AY x))(G:¬uw x y):∃h',call AC (m+1) 116 [ktV y,pt A] h=.ok (.bool IS) h'/\h.Ext h':=by
 have a:=λ(F:AES) (e:Env) (E:J 0 e=ktV y)=>IF (F:=F) c E
 have s:=(Hp.Ext.refl c).AER 0 (AY y);have R:=Hp.Row.new c 0 (AY y);generalize h.AER 0 (AY y)=D at a s R;obtain⟨l,n,o,p,_,q,_⟩:=Bv R;obtain⟨f,g,i,j,_,k,_⟩:=Bv (B.ext c s);refine⟨D,?_,s⟩;rw[gX rfl];unfold pX;rcases GP y.a x.a with ⟨b,u⟩|⟨b,u⟩
 ·rcases GP y.b x.b with ⟨d,w⟩|⟨d,w⟩
  ·rcases GP y.c x.c with ⟨r,z⟩|⟨r,z⟩
   ·rcases GP (y.s:Int) (x.s:Int)with ⟨t,C⟩|⟨t,C⟩
    ·exact absurd ⟨u,w,z,by omega⟩ G
    ·simp only[iN,wA,sT,sh,OF,reduceIte,gD,a,AH,AN,wC,AJ,AP,l,n,o,p,q,f,g,i,j,k,AM,AK,b,d,r,t,lV0]
   ·simp only[iN,wA,sT,sh,OF,reduceIte,gD,a,AH,AN,wC,AJ,AP,l,n,o,p,q,f,g,i,j,k,AM,AK,b,d,r,lV0]
  ·simp only[iN,wA,sT,sh,OF,reduceIte,gD,a,AH,AN,wC,AJ,AP,l,n,o,p,q,f,g,i,j,k,AM,AK,b,d,lV0]
 ·simp only[iN,wA,sT,sh,OF,reduceIte,gD,a,AH,AN,wC,AJ,AP,l,n,o,p,q,f,g,i,j,k,AM,AK,b,lV0]
theorem mM{P:Kt->Bool}(h:∀k∈ks,P k=IS):ks.any P=IS:=by
 induction ks with
 |nil=>rfl
 |cons k d b=>rw[ABC,h k wJ,b λc a=>h c (wI _ a)];rfl
theorem rM(K:h.KS S v ks){i:Nat}(hi:i<ks.length):∃w,h.KS S w (ks.take i)/\∀(F:AES) (e:Env) (x y:O),x e=v->y e=AI AT (i:Int)->EL 124 6 x By (BY y) By F e h=.ok w h:=by
 rcases K with ⟨rfl,rfl⟩|⟨c,a,k,f,rfl,u,l,z,n,o,p⟩
 ·cases hi
 ·have b:(ks.take i).length=i:=by rw[wu];omega
  refine⟨.slice (BY ⟨c,0,By⟩) i a,.inr ⟨c,a,k,f,by rw[b],by rw[b];omega,l,by rw[b];omega,?_,o,p⟩,λF e x y r s=>?_⟩
  ·have j:flK (ks.take i)=(flK ks).take (6*i):=by
    conv=>rhs;rw[<- List.take_append_drop i ks,J4]
    rw[ADF (by rw[Ca,b])]
   rw[b,j,<- n,AA0,yz (by omega)]
  ·show(match x e with|.slice g d a=>Dr e d a By (BY y) By (λt q m=>Eh 124 6 g IS t q m h)|_=>.no)=_
   rw[r];show(match Dj (y e)with|.ok d=>(bif wY d a then Eh 124 6 (BY ⟨c,0,By⟩) IS 0 d a h else .no)|.no=>.no)=_;rw[s,DM];simp only;rw[Am.2 (show i<=a by omega)];show Bq (BY ⟨c,0,By⟩) 6 0 i a h=_;unfold Bq;simp only[Ae];cases a with
   |zero=>rfl
   |succ a=>rfl
theorem pI:coS=BJ (Ab 0 (A4 coB)) coE:=rfl
theorem qI:d72=iQ:=rfl
end
structure Kc where
 a:Int
 b:Int
 c:Int
 s:Nat
 l:List Nat
 p:Nat
def Kt.core(k:Kt):Kc:=⟨k.a,k.b,k.c,k.s,k.l,k.p⟩
def lkN(T M:List Nat)(p:Nat):Option (List Nat):=match yL (∃b,Hh T M p b)with
 |.isTrue a=>BY (AB7 a)
 |.isFalse _=>By
def Ej(T M:List Nat)(p:Nat):Bool:=match yL ((¬ ∃a,Hh T M p a)/\((∃b∈sec M (3*p),b≠0)\/∃a,L8 T (sec M (3*p)) a/\at6 a 4<=100))with
 |.isTrue _=>IN
 |.isFalse _=>IS
theorem SU{T M:List Nat}{p:Nat}{ns:List Nat}(h:Hh T M p ns):lkN T M p=BY ns:=by
 unfold lkN;split
 ·rename_i a _
  rw[G1 (ABg a).1 h.1]
 ·rename_i a _;exact absurd ⟨ns,h⟩ a
theorem ST{T M:List Nat}{p:Nat}(h:¬ ∃ns,Hh T M p ns):lkN T M p=By:=by
 unfold lkN;split
 ·rename_i a _;exact absurd a h
 ·rfl
theorem IH{T M:List Nat}{p:Nat}:Ej T M p=IN↔((¬ ∃ns,Hh T M p ns)/\((∃x∈sec M (3*p),x≠0)\/∃ns,L8 T (sec M (3*p)) ns/\at6 ns 4<=100)):=by
 unfold Ej;split
 ·rename_i b _;exact⟨λ_=>b,λ_=>rfl⟩
 ·rename_i b _;exact⟨λa=>(by cases a),λa=>absurd a b⟩
def Yw(M:List Nat)(p:Nat)(ns:List Nat):Kc:=⟨at6 ns 1,at6 ns 2,at6 ns 3,at6 ns 0,dat M p (at6 ns 4),p⟩
def kcs(T M:List Nat)(i:Nat):List Kc:=(xx i).filterMap λa=>(lkN T M a).map (Yw M a)
def AFl(T M:List Nat)(i:Nat):List Nat:=(xx i).filter (Ej T M)
def mrk(T M:List Nat)(i:Nat):List Nat:=(xx i).filter λa=>(lkN T M a).isSome || Ej T M a
theorem SJ(T M:List Nat)(i:Nat):kcs T M (i+1)=kcs T M i++(match lkN T M i with|some ns=>[Yw M i ns]|none=>[]):=by
 unfold kcs;rw[yu,List.filterMap_append];cases a:lkN T M i<;>simp[a]
theorem Kz(T M:List Nat)(i:Nat):AFl T M (i+1)=AFl T M i++(if Ej T M i=IN then [i]else []):=by
 unfold AFl;rw[yu,yk];cases a:Ej T M i<;>simp[a]
theorem NZ(T M:List Nat)(i:Nat):mrk T M (i+1)=mrk T M i++(if((lkN T M i).isSome || Ej T M i)=IN then [i]else []):=by
 unfold mrk;rw[yu,yk];cases a:((lkN T M i).isSome || Ej T M i)<;>simp[a]
theorem EF(i:Nat)(f:Nat->Bool):((xx i).filter f).length<=i:=by
 have:=List.length_filter_le f (xx i)
 rwa [AAT]at this
theorem IA(a b:List Nat):ints .i64 ((a++b).map xR)=ints .i64 (a.map xR)++ints .i64 (b.map xR):=by unfold ints;rw[w9,w9]
theorem sV:BX ty3.zero 1=[AI AT 0]:=by kernel_rfl
section
variable {F:AES}{e:Env}{h g g':Hp}{T M:List Nat}{bs r9 k1 bd bm bc tb n i m c0:Nat}{v mv:vz}{ks:List Kt}{arm:Int}
theorem FD(a:h.Wf){x:O}{z:Int}(b:x e=AI AT z):Ap 1 (BX ty3.zero 1) [(0,1,x)] F e h=.ok (.slice (BY ⟨h.next,0,By⟩) 1 1) (h.AER 0 [AI AT z]):=by
 rw[sV];exact I4 a b rfl rfl
theorem Hp.KO.nb{k b e:Nat}{f:List vz}(o:h.KO k v ks)(r:h.Row b e f)(g:e≠125):¬AEu v b:=λ⟨p,n,j,a⟩=>by
 rcases o with ⟨c,d⟩|⟨i,c,d,l,m⟩
 ·rw[c]at a;cases a
 ·rw[c]at a
  injection a with a _ _
  injection a with a
  injection a with a _ _
  rw[a]at d;exact EC r d g rfl
theorem Hp.Own.nb{k b e en:Nat}{xs f:List vz}(o:h.Own k en v xs)(r:h.Row b e f)(g:e≠en+1):¬AEu v b:=λ⟨p,n,j,a⟩=>by
 rcases o with ⟨c,d⟩|⟨i,c,d,l,m⟩
 ·rw[c]at a;cases a
 ·rw[c]at a
  injection a with a _ _
  injection a with a
  injection a with a _ _
  rw[a]at d;exact EC r d g rfl
structure O1 (h g:Hp)(T M:List Nat)(bs r9 k1 bd tb i:Nat)(v mv:vz)(ks:List Kt):Prop where
 x:h.Ext g
 row:g.Row bs 0 (slL bd tb AEW AEW (AFl T M i).length IS)
 rb:g.Row r9 0 [pt bs]
 ko:g.KO k1 v ks
 cs:ks.map Kt.core=kcs T M i
 ok:∀k∈ks,AGt g (λb=>r9<b) k
 ms:g.Own k1 3 mv (ints .i64 ((mrk T M i).map xR))
 le:k1<=g.next
theorem O1.ext(o:O1 h g T M bs r9 k1 bd tb i v mv ks)(x:g.Ext g'):O1 h g' T M bs r9 k1 bd tb i v mv ks:=
 have a:=o.x.wf
 ⟨o.x.trans x,o.row.ext a x,o.rb.ext a x,o.ko.ext a x,o.cs,λc b=>⟨(o.ok c b).1.ext a x,(o.ok c b).2⟩,o.ms.ext a x,wy o.le x.next⟩
theorem Xm:rl=BJ (Ab 1 (A4 ME)) rj:=rfl
theorem bD:d39=iL:=rfl
theorem rN(o:O1 h g T M bs r9 k1 bd tb i v mv ks):ks.length<=i:=by
 have h1:=congrArg zo o.cs;rw[wF]at h1;rw[h1];unfold kcs;have:=List.length_filterMap_le (λp=>(lkN T M p).map (Yw M p)) (xx i)
 rwa [AAT]at this
theorem dj(b0:h.Wf)(d:Dk h bd bm bc n M c0 [] arm IS)(Rt:h.Row tb 0 (T.map wv))(hT:AFD T)(o:O1 h g T M bs r9 k1 bd tb i v mv ks)(c6:h.next<=bs/\bs<r9/\r9<k1)(hi:i<n/3)
  (t8:J 9 e=pt r9)(t10:J 10 e=v)(t11:J 11 e=mv)(t51:J 51 e=AI AT ((n/3:Nat):Int))(t52:J 52 e=AI AT (i:Int)):
  ∃U g' v' y c8,ME (call AC (m+6)) e g=.norm U g'/\O1 h g' T M bs r9 k1 bd tb (i+1) v' y c8/\J 10 U=v'/\J 11 U=y/\J 52 U=AI AT ((i+1:Nat):Int)/\∀j,j=0\/j=1\/j=2\/j=8\/j=9\/j=51->J j U=J j e:=by
 have hn:=d.n1;have W1:=o.x.wf;have b3:h.next<=k1:=by omega
 have c1:iLt (i:Int) ((n/3:Nat):Int)=IN:=Ec hi;have l9:=DP o.rb;obtain⟨z,G,LK⟩:=XW (m:=m+1) W1 o.row (Rt.ext b0 o.x) hT (d.ext b0 o.x) (p:=i) (by omega);have al:=λ(F:AES) (e:Env)=>BU (F:=F) (e:=e) G.wf (n:=6) (t:=CR)
 have Ra:=Hp.Row.alloc G.wf Fa (show(AY K0).length=6 from rfl);have y2:z.Ext (z.push (.cells CR 6 0)):=(Hp.Ext.refl G.wf).push _;have n2:(z.push (.cells CR 6 0)).next=z.next+1:=rfl;generalize z.push (.cells CR 6 0)=P at al Ra y2 n2;have b1:iNe 0 0=IS:=CE rfl;have d2:=G.next;rcases LK with ⟨w,b4,E,hk,hu⟩|⟨E,c4,hk,a8⟩
 ·
  have Q:=SU E;have b5:=Sy E.1;have K:Ej T M i=IS:=by
   cases q:Ej T M i
   ·rfl
   ·exact absurd ⟨w,E⟩ (IH.1 q).1
  have u1:=hu.vs.one;obtain⟨L,_,N,S,n3⟩:=Ld G.wf y2 (wB _) Ra rfl (k:=⟨at6 w 1,at6 w 2,at6 w 3,at6 w 0,dat M i (at6 w 4),i,b4⟩) u1.2.1;generalize hX:(⟨at6 w 1,at6 w 2,at6 w 3,at6 w 0,dat M i (at6 w 4),i,b4⟩:Kt)=X at hk L N S n3;generalize P.wr z.next 0 (AY X)=s at L N S n3;have o3:=o.ext (G.trans N);have c5:X.u=b4:=by rw[<- hX]
  obtain⟨_,_,_,_,_,_,ld,_⟩:=Bv S;have sl:=λ(F:AES) (e:Env) (r:J 70 e=ktV X)=>NT (F:=F) o3.x.wf r
  obtain⟨u,v5,k5,R,q5,n5,V⟩:=Ur o3.x b3 o3.le o3.ko (x:=X) (by rw[c5];exact u1.2.1) (by have:=rN o;omega);have b2:∀a b c,b≠125->s.Row a b c->u.Row a b c:=λa b c r l=>V a b c (o3.ko.nb l r) l
  have b8:(dat M i (at6 w 4)).length=at6 w 4:=Jv d.len (by have:=E.2.1;omega);have b9:AGt u (λa=>r9<a) X:=by
   rw[<- hX];refine⟨((hu.ext G.wf N).mono λa q=>by have q:g.next<=a:=q;have:=o.le;omega).keep λa b c q r l=>b2 a b c (by omega) l,bO d.byt _ _,by rw[b8];exact E.2.1,?_,?_,by show i<65536;omega⟩
   ·obtain⟨_,_,_,I⟩:=b5
    unfold AEh at I;have:=of_decide_eq_true I;exact this.2.2.2.2.2.2.1
   ·obtain⟨_,_,_,I⟩:=b5
    unfold AEh at I ⊢;have:=of_decide_eq_true I;refine decide_eq_true ⟨this.1,this.2.1,this.2.2.1,this.2.2.2.1,this.2.2.2.2.1,this.2.2.2.2.2.1,this.2.2.2.2.2.2.1,?_⟩;show(dat M i (at6 w 4)).length<=65536;rw[b8];have:=E.2.1;omega
  have o5:O1 h u T M bs r9 k1 bd tb i v5 mv (ks++[X])->True:=λ_=>trivial
  have a6:u.Own k1 3 mv (ints .i64 ((mrk T M i).map xR)):=by
   rcases o3.ms with A|⟨a,A,W,Y,Z⟩
   ·exact .inl A
   ·exact .inr ⟨a,A,b2 a _ _ (by omega) W,Y,Z⟩
  obtain⟨D,a7,k6,x6,m6,n6,O⟩:∃g' y,DX 1 8 3 mv (.slice (BY ⟨u.next,0,By⟩) 1 1) (u.AER 0 [AI AT (i:Int)])=.ok y g'/\h.Ext g'/\g'.Own k1 3 y (ints .i64 ((mrk T M i++[i]).map xR))/\u.next<=g'.next/\(∀a b c,b≠4->u.Row a b c->g'.Row a b c):=by
   obtain⟨g',y,a1,a2,C,a4,a5⟩:=MY (eb:=8) (en:=3) (kd:=.i64) (n:=(i:Int)) R b3 (by have:=o3.le;omega) a6 (by
    have:=EF i (λp=>(lkN T M p).isSome || Ej T M p);have:(mrk T M i).length<=i:=this;have:(ints .i64 ((mrk T M i).map xR)).length<=i:=by unfold ints;rw[wF,wF];exact this
    omega)
   exact⟨g',y,a1,a2,by rw[IA];exact C,by omega,λa b c r l=>(a5 a b c (a6.nb l r) l).1⟩
  have H:∀a b c,b≠125->b≠4->s.Row a b c->D.Row a b c:=λa b c z P l=>O a b c P (b2 a b c z l)
  have is:=λ(F:AES) (e:Env) (r:J 12 e=AI AT (i:Int))=>FD (F:=F) R.wf r
  have C:=CL (i:=i) (h:=D) (by omega);have a0:∃f,ME (call AC (m+6)) e g=.norm f D/\J 10 f=v5/\J 11 f=a7/\J 52 f=AI AT ((i+1:Nat):Int)/\∀j,j=0\/j=1\/j=2\/j=8\/j=9\/j=51->J j f=J j e:=by
   unfold ME;simp only[sT,sh,OF,reduceIte,gD,AM,AK,t52,t51,c1,AJ,AP,t8,l9,cA0,hk,Az,A8,A9,Cm,E6,al,AV,L,b1,Ai,Ac,ld,sl,BD,t10,k5,is,t11,k6,BL,C];refine⟨_,rfl,by simp[AG],by simp[AG],by simp[AG],λj hj=>?_⟩;rcases hj with rfl|rfl|rfl|rfl|rfl|rfl<;>simp only[AG,sh,OF,reduceIte]
  obtain⟨f,r1,r2,r3,r4,r5⟩:=a0;refine⟨f,D,v5,a7,ks++[X],r1,⟨x6,?_,H _ _ _ (by omega) (by omega) o3.rb,q5.keep λa b c q l=>?_,?_,λk hk=>?_,?_,by have:=o3.le;omega⟩,r2,r3,r4,r5⟩
  ·rw[Kz,K,If (by decide),wT]
   exact H _ _ _ (by omega) (by omega) o3.row
  ·obtain⟨off,nn,d0,B⟩:=q
   rcases q5 with ⟨f,_⟩|⟨b',f,r',_⟩
   ·rw[f]at B;cases B
   ·rw[f]at B
    injection B with B _ _
    injection B with B
    injection B with B _ _
    rw[<- B]at l ⊢;refine O _ _ _ ?_ l;intro I;rw[I]at l;exact EC l r' (by omega) rfl
  ·rw[w9,o.cs,SJ,Q,<- hX];rfl
  ·rcases wd.1 hk with hk|hk
   ·exact⟨((o3.ok k hk).1.keep λa b c q r l=>H a b c (by omega) (by omega) l),(o3.ok k hk).2⟩
   ·rw[wP.1 hk]
    exact⟨b9.1.keep λa b c q r l=>O a b c (by omega) l,b9.2⟩
  ·rw[NZ,Q,IT (by rfl)];exact m6
 ·
  have Q:=ST E;obtain⟨L,_,N,S,n3⟩:=Ld G.wf y2 (wB _) Ra rfl (k:=K0) rfl;generalize P.wr z.next 0 (AY K0)=s at L N S n3;have o3:=o.ext (G.trans N);have b7:ks.map Kt.core=kcs T M (i+1):=by rw[SJ,Q,wT];exact o.cs
  cases b6:c4 with
  |false=>
   rw[b6]at hk a8;have K:Ej T M i=IS:=by
    cases q:Ej T M i
    ·rfl
    ·have:=a8.2 (IH.1 q).2;cases this
   have C:=CL (i:=i) (h:=s) (by omega);have a0:∃f,ME (call AC (m+6)) e g=.norm f s/\J 10 f=v/\J 11 f=mv/\J 52 f=AI AT ((i+1:Nat):Int)/\∀j,j=0\/j=1\/j=2\/j=8\/j=9\/j=51->J j f=J j e:=by
    unfold ME;simp only[sT,sh,OF,reduceIte,gD,AM,AK,t52,t51,c1,AJ,AP,t8,l9,cA0,hk,Az,A8,A9,Cm,E6,al,AV,L,b1,BL,C];refine⟨_,rfl,by simp[AG,t10],by simp[AG,t11],by simp[AG],λj hj=>?_⟩;rcases hj with rfl|rfl|rfl|rfl|rfl|rfl<;>simp only[AG,sh,OF,reduceIte]
   obtain⟨f,r1,r2,r3,r4,r5⟩:=a0;refine⟨f,s,v,mv,ks,r1,⟨o3.x,?_,o3.rb,o3.ko,b7,o3.ok,?_,o3.le⟩,r2,r3,r4,r5⟩
   ·rw[Kz,K,If (by decide),wT];exact o3.row
   ·rw[NZ,Q,K,If (by decide),wT];exact o3.ms
  |true=>
   rw[b6]at hk a8;have K:Ej T M i=IN:=IH.2 ⟨E,a8.1 rfl⟩;have c3:256<=bs:=by have:=b0.big;omega
   obtain⟨_,_,_,_,_,l5,_⟩:=BB o3.row;have d1:(AFl T M i).length<=i:=EF i _;have ad:GF .i64 (AI AT ((AFl T M i).length:Int)) (AI AT 1) s=.ok (AI AT (((AFl T M i).length+1:Nat):Int)) s:=CL (by omega);have c2:AEa 1 (.pointer (BY ⟨bs,5,By⟩)) (AI AT (((AFl T M i).length+1:Nat):Int)) s=.ok AEU (s.wr bs 5 [AI AT (((AFl T M i).length+1:Nat):Int)]):=o3.row.AEa (n:=1) (off:=5) o3.x.wf c3 (v:=AI AT (((AFl T M i).length+1:Nat):Int)) rfl (by show 5+1<=7;omega) rfl;have a9:5+[Value.int .i64 (((AFl T M i).length+1:Nat):Int)].length<=(slL bd tb AEW AEW (AFl T M i).length IS).length:=by show 5+1<=7;omega
   have R5:=o3.row.AEf o3.x.wf a9;have R:=o3.row.AEy o3.x c6.1 a9;have n5:=o3.row.AE7 a9;have V:∀a b c,a≠bs->s.Row a b c->(s.wr bs 5 [AI AT (((AFl T M i).length+1:Nat):Int)]).Row a b c:=λa b c q l=>o3.row.AFg o3.x.wf a9 l q
   have c7:over (slL bd tb AEW AEW (AFl T M i).length IS) 5 [AI AT (((AFl T M i).length+1:Nat):Int)]=slL bd tb AEW AEW ((AFl T M i).length+1) IS:=rfl;rw[c7]at R5;generalize s.wr bs 5 [AI AT (((AFl T M i).length+1:Nat):Int)]=u at c2 R5 R n5 V;have a6:u.Own k1 3 mv (ints .i64 ((mrk T M i).map xR)):=by
    rcases o3.ms with A|⟨a,A,W,Y,Z⟩
    ·exact .inl A
    ·exact .inr ⟨a,A,V a _ _ (by omega) W,Y,Z⟩
   obtain⟨D,a7,k6,x6,m6,n6,O⟩:∃g' y,DX 1 8 3 mv (.slice (BY ⟨u.next,0,By⟩) 1 1) (u.AER 0 [AI AT (i:Int)])=.ok y g'/\h.Ext g'/\g'.Own k1 3 y (ints .i64 ((mrk T M i++[i]).map xR))/\u.next<=g'.next/\(∀a b c,b≠4->u.Row a b c->g'.Row a b c):=by
    obtain⟨g',y,a1,a2,C,a4,a5⟩:=MY (eb:=8) (en:=3) (kd:=.i64) (n:=(i:Int)) R b3 (by have:=o3.le;omega) a6 (by
     have:=EF i (λp=>(lkN T M p).isSome || Ej T M p);have:(mrk T M i).length<=i:=this;have:(ints .i64 ((mrk T M i).map xR)).length<=i:=by unfold ints;rw[wF,wF];exact this
     omega)
    exact⟨g',y,a1,a2,by rw[IA];exact C,by omega,λa b c r l=>(a5 a b c (a6.nb l r) l).1⟩
   have H:∀a b c,a≠bs->b≠4->s.Row a b c->D.Row a b c:=λa b c z P l=>O a b c P (V a b c z l)
   have is:=λ(F:AES) (e:Env) (r:J 12 e=AI AT (i:Int))=>FD (F:=F) R.wf r
   have C:=CL (i:=i) (h:=D) (by omega);have c9:=DP o3.rb;have a0:∃f,ME (call AC (m+6)) e g=.norm f D/\J 10 f=v/\J 11 f=a7/\J 52 f=AI AT ((i+1:Nat):Int)/\∀j,j=0\/j=1\/j=2\/j=8\/j=9\/j=51->J j f=J j e:=by
    unfold ME;simp only[sT,sh,OF,reduceIte,gD,AM,AK,t52,t51,c1,AJ,AP,t8,l9,c9,cA0,hk,Az,A8,A9,Cm,E6,al,AV,L,b1,An,AX,AH,AN,wC,l5,BL,ad,c2,is,BD,t11,k6,C];refine⟨_,rfl,by simp[AG,t10],by simp[AG],by simp[AG],λj hj=>?_⟩;rcases hj with rfl|rfl|rfl|rfl|rfl|rfl<;>simp only[AG,sh,OF,reduceIte]
   obtain⟨f,r1,r2,r3,r4,r5⟩:=a0;refine⟨f,D,v,a7,ks,r1,⟨x6,?_,H _ _ _ (by omega) (by omega) o3.rb,?_,b7,λk hk=>⟨((o3.ok k hk).1.keep λa b c q r l=>H a b c (by have q:r9<a:=q;omega) (by omega) l),(o3.ok k hk).2⟩,?_,by have:=o3.le;omega⟩,r2,r3,r4,r5⟩
   ·rw[Kz,K,IT rfl,wD]
    exact O _ _ _ (by omega) R5
   ·rcases o3.ko with A|⟨a,A,W,Y,Z⟩
    ·exact .inl A
    ·exact .inr ⟨a,A,H a _ _ (by omega) (by omega) W,Y,Z⟩
   ·rw[NZ,Q,K,IT (show((By:Option (List Nat)).isSome || true)=IN from rfl)];exact m6
end
section
variable {F:AES}{e:Env}{h g g' h0:Hp}{bs r9 k1 bd tb n i m bad k:Nat}{v mv lv fv:vz}{ks:List Kt}{S:Nat->Prop}{ov:Bool}
theorem ND(i:g.Wf){a:List vz}(R:g.Row bs 0 a){off:Nat}(q:off<a.length)(o:256<=bs)(f:cellsOf v=[v])(h2:oneCell v=IN):
  ∃g',(∀(F:AES) (e:Env) (x y:O),x e=.pointer (BY ⟨bs,off,By⟩)->y e=v->AZ .free (Ad 1 x y) F e g=.ok AEU g')/\g'.Row bs 0 (over a off [v])/\g'.next=g.next/\g'.mark=g.mark/\Fx (λb=>b=bs) g g'/\∀h0:Hp,h0.Ext g->h0.next<=bs->h0.Ext g':=by
 have c:g.quiet.Row bs 0 a:=R.same rfl;have d:off+[v].length<=a.length:=q;have p:Bd [v]=IN:=by
  show(bif oneCell v then IN else IS)=IN;rw[h2];rfl
 have k:=c.AEa (n:=1) (off:=off) (v:=v) i.quiet o (by rw[f];rfl) (by rw[f];exact d) (by rw[f];exact p);rw[f]at k;have wr:=c.AEf i.quiet d;have fx:=Fx.wr (S:=λb=>b=bs) i.quiet c d rfl;have m:=λ(h0:Hp) (x:h0.Ext g.quiet) (j:h0.next<=bs)=>c.AEy x j d
 have l:=c.AE7 d;generalize g.quiet.wr bs off [v]=t at k wr fx m l;refine⟨g.back t,λF e x y r s=>BE (by rw[AV,r,s];exact k),wr.same rfl,l,rfl,(fx.from (h:=g) rfl rfl).same rfl rfl,λh0 x j=>x.AFY (m h0 x.quiet j)⟩
theorem D9(e:g.Wf){c:List vz}(R:g.Row bs 0 c){off:Nat}(k:off<c.length)(h:256<=bs)(d:cellsOf v=[v])(h2:oneCell v=IN):
  ∃g',AEa 1 (.pointer (BY ⟨bs,off,By⟩)) v g=.ok AEU g'/\g'.Row bs 0 (over c off [v])/\g'.next=g.next/\Fx (λb=>b=bs) g g'/\∀h0:Hp,h0.Ext g->h0.next<=bs->h0.Ext g':=by
 have a:off+[v].length<=c.length:=k;have i:Bd [v]=IN:=by
  show(bif oneCell v then IN else IS)=IN;rw[h2];rfl
 have f:=R.AEa (n:=1) (off:=off) (v:=v) e h (by rw[d];rfl) (by rw[d];exact a) (by rw[d];exact i);rw[d]at f;exact⟨_,f,R.AEf e a,R.AE7 a,Fx.wr (S:=λb=>b=bs) e R a rfl,λh0 l j=>R.AEy l j a⟩
theorem kJ(l:h0.Ext h)(hk:h0.next<=k)(R:k<=h.next){xs:List vz}(o:h.Own k 3 v xs){bw:Nat}{z:Int}(r:h.Row bw 0 [AI AT z])(G:xs.length<=1000000):
  ∃h' v',(∀(F:AES) (e:Env) (x y:O),x e=v->y e=.slice (BY ⟨bw,0,By⟩) 1 1->Ja x (Bm 1 8 3 x y) F e h=.ok v' h')/\h0.Ext h'/\h'.Own k 3 v' (xs++[AI AT z])/\h.next<h'.next/\h'.mark=h.mark/\(∀b g f,¬AEu v b->h.Row b g f->h'.Row b g f)/\(∀b,AEu v' b->b=h.next):=by
 have s:=l.wf;have D:h.quiet.Cl (AEu v) 3 v xs:=by
  rcases o with ⟨c,d⟩|⟨b,c,d,E,q⟩
  ·exact .inl ⟨c,d⟩
  ·exact .inr ⟨b,4,c,d.same rfl,.inl rfl,⟨0,_,_,c⟩,q⟩
 have J:∀b,AEu v b->h0.next<=b:=λb j=>by
  obtain⟨K,n,C,a⟩:=j;rcases o with ⟨c,d⟩|⟨Q,c,d,E,q⟩
  ·rw[c]at a;cases a
  ·rw[c]at a
   injection a with a _ _
   injection a with a
   injection a with a _ _
   omega
 obtain⟨i,b5,t,u,w,m,p,N,A,P,B⟩:=aZ (eb:=8) (en:=3) l.quiet D J (r.same (h':=h.quiet) rfl) rfl G (by omega);have m:b5=h.next:=m;have p:i.next=h.next+1:=p;have M:=s.big;refine⟨h.back i,.slice (BY ⟨b5,0,By⟩) (xs.length+1) (xs.length+1),λF e x y H I=>Vy H I t (B rfl rfl h rfl),l.AFY u,.inr ⟨b5,by rw[wD];rfl,w.same rfl,by omega,by omega⟩,by show h.next<i.next;omega,rfl,λb g f j L=>(A b g f j (L.same rfl)).same rfl,λb ⟨K,S,C,a⟩=>?_⟩;injection a with a _ _
 injection a with a
 injection a with a _ _
 omega
theorem qT(a:h.Wf){f:Nat}{p:Nat}(g:h.Row f 0 [AI AT (p:Int)])(x:Kt):∃h',call AC (m+1) 75 [ktV x,pt f] h=.ok (.bool (decide (x.p=p))) h'/\h.Ext h':=by
 have c:=λ(F:AES) (e:Env) (k:J 0 e=ktV x)=>IF (F:=F) a k
 have b:=(Hp.Ext.refl a).AER 0 (AY x);have R:=Hp.Row.new a 0 (AY x);generalize h.AER 0 (AY x)=j at c b R;obtain⟨_,_,_,_,_,l,_⟩:=Bv R;have n:=DP (g.ext a b);have i:iEq (x.p:Int) (p:Int)=decide (x.p=p):=by
  by_cases d:x.p=p
  ·rw[decide_eq_true d];exact CZ (by omega)
  ·rw[decide_eq_false d];exact B8 (by omega)
 refine⟨j,?_,b⟩;rw[oY rfl];unfold d75;simp only[iN,wA,sT,sh,OF,reduceIte,c,AH,AN,wC,AJ,AP,l,n,AM,AK,i,lV0]
theorem Ya(b:h.Wf)(R:h.Row bs 0 (slL bd tb lv fv bad ov))(i:h.Row r9 0 [pt bs])(K:h.KS S lv ks)(l:ks.length<=100000){p:Nat}:
  ∃h',call AC (m+4) 73 [AI AT (p:Int),pt r9] h=.ok (.bool (ks.any λx=>decide (x.p=p))) h'/\h.Ext h':=by
 have d:=λ(F:AES) (e:Env) (k:J 0 e=AI AT (p:Int))=>It (F:=F) b k
 have a:=(Hp.Ext.refl b).AER 0 [AI AT (p:Int)];have c:=Hp.Row.new b 0 [AI AT (p:Int)];generalize h.AER 0 [AI AT (p:Int)]=t at d a c;have q:=DP (i.ext b a);obtain⟨_,_,_,o,_⟩:=BB (R.ext b a);obtain⟨j,n,r⟩:=QC (m:=m+1) (g:=75) (caps:=[pt h.next]) (P:=λx=>decide (x.p=p)) a.wf (K.ext b a) l λg f s u=>qT (m:=m) f.wf (c.ext a.wf f) s
 refine⟨j,?_,a.trans r⟩;rw[oW rfl];unfold d73;simp only[iN,wA,sT,sh,OF,reduceIte,d,AJ,AP,q,An,AX,AH,AN,wC,o,DN,AS,Av,BG,n,lV0]
theorem Xn:rm=BJ (Ab 4 (A4 MF)) kF:=rfl
theorem Xk:rj=Xl:=rfl
def AFt(ks:List Kt)(i:Nat):List Nat:=(xx i).filter λa=> !(ks.any λb=>decide (b.p=a))
def AF7(ks:List Kt)(mk:List Nat)(i:Nat):List Nat:=(xx i).filter λa=> !(ks.any λb=>decide (b.p=a)) && decide (a∈mk)
theorem JV(ks:List Kt)(i:Nat):AFt ks (i+1)=AFt ks i++(if(ks.any λx=>decide (x.p=i))=IN then []else [i]):=by
 unfold AFt;rw[yu,yk];cases h:(ks.any λx=>decide (x.p=i))<;>simp[h]
theorem Lc(ks:List Kt)(mk:List Nat)(i:Nat):AF7 ks mk (i+1)=AF7 ks mk i++(if(ks.any λx=>decide (x.p=i))=IN then []else if i∈mk then [i]else []):=by
 unfold AF7;rw[yu,yk];cases h:(ks.any λx=>decide (x.p=i))<;>by_cases a:i∈mk<;>simp[h,a]
structure O2 (h g:Hp)(mk:List Nat)(bs r9 k1 bd tb i bad:Nat)(w mv fv ou:vz)(ks:List Kt):Prop where
 x:h.Ext g
 row:g.Row bs 0 (slL bd tb w fv bad IS)
 rb:g.Row r9 0 [pt bs]
 ko:g.KO k1 w ks
 ok:∀k∈ks,AGt g (λb=>r9<b) k
 fs:g.Own k1 3 fv (ints .i64 ((AFt ks i).map xR))
 os:g.Own k1 3 ou (ints .i64 ((AF7 ks mk i).map xR))
 ms:g.Own k1 3 mv (ints .i64 (mk.map xR))
 ap:∀b,(AEu fv b->¬AEu ou b/\¬AEu mv b)/\(AEu ou b->¬AEu mv b)
 le:k1<=g.next
theorem O2.ext{mk:List Nat}{w c:vz}(o:O2 h g mk bs r9 k1 bd tb i bad w mv fv c ks)(x:g.Ext g'):O2 h g' mk bs r9 k1 bd tb i bad w mv fv c ks:=
 have a:=o.x.wf
 ⟨o.x.trans x,o.row.ext a x,o.rb.ext a x,o.ko.ext a x,λk b=>⟨(o.ok k b).1.ext a x,(o.ok k b).2⟩,o.fs.ext a x,o.os.ext a x,o.ms.ext a x,o.ap,wy o.le x.next⟩
theorem Hp.Own.lt'{en:Nat}{xs:List vz}(o:h.Own k en v xs)(e:h.Wf){b:Nat}(f:AEu v b):b<h.next:=by
 obtain⟨m,n,i,a⟩:=f;rcases o with ⟨c,d⟩|⟨g,c,d,j,l⟩
 ·rw[c]at a;cases a
 ·have:=d.lt e
  rw[c]at a;injection a with a _ _
  injection a with a
  injection a with a _ _
  omega
theorem Hp.Own.rw_{en:Nat}{xs:List vz}(o:h.Own k en v xs){b:Nat}(e:AEu v b):h.Row b (en+1) xs:=by
 obtain⟨l,n,g,a⟩:=e;rcases o with ⟨c,d⟩|⟨f,c,d,i,j⟩
 ·rw[c]at a;cases a
 ·rw[c]at a
  injection a with a _ _
  injection a with a
  injection a with a _ _
  rw[<- a];exact d
theorem dp{mk:List Nat}{w D:vz}(b8:h.Wf)(o:O2 h g mk bs r9 k1 bd tb i bad w mv fv D ks)(c3:h.next<=bs/\bs<r9/\r9<k1){nn:Nat}(hi:i<nn)(d1:nn<=30000)(c9:ks.length<=30000)(d0:mk.length<=30000)
  (t9:J 9 e=pt r9)(t11:J 11 e=mv)(t17:J 17 e=.func (.func 73) ⟨[]⟩ ⟨[pt r9]⟩)(t18:J 18 e=D)(Td:J 102 e=AI AT (nn:Int))(Qi:J 103 e=AI AT (i:Int)):
  ∃Z g' c0 b4,MF (call AC (m+6)) e g=.norm Z g'/\O2 h g' mk bs r9 k1 bd tb (i+1) bad w mv c0 b4 ks/\J 18 Z=b4/\J 103 Z=AI AT ((i+1:Nat):Int)/\∀j,j=0\/j=1\/j=2\/j=9\/j=11\/j=17\/j=102->J j Z=J j e:=by
 have W1:=o.x.wf;have b0:h.next<=k1:=by omega
 have b6:256<=bs:=by have:=b8.big;omega
 have c1:iLt (i:Int) (nn:Int)=IN:=Ec hi;obtain⟨l,T,x1⟩:=Ya (m:=m+2) W1 o.row o.rb o.ko.lst (by omega) (p:=i);have u:=o.ext x1;cases E:(ks.any λx=>decide (x.p=i))with
 |true=>
  rw[E]at T;have P:=CL (i:=i) (h:=l) (by omega);have S:∃f,MF (call AC (m+6)) e g=.norm f l/\J 18 f=D/\J 103 f=AI AT ((i+1:Nat):Int)/\∀j,j=0\/j=1\/j=2\/j=9\/j=11\/j=17\/j=102->J j f=J j e:=by
   unfold MF;simp only[sT,sh,OF,reduceIte,AM,AK,Qi,Td,c1,CN,t17,CJ,AS,Av,xI,zB,T,BO,BN,xK,BL,P];refine⟨_,rfl,by simp[AG,t18],by simp[AG],λj Q=>?_⟩;rcases Q with rfl|rfl|rfl|rfl|rfl|rfl|rfl<;>simp only[AG,sh,OF,reduceIte]
  obtain⟨f,U,V,W,X⟩:=S;refine⟨f,l,fv,D,U,⟨u.x,u.row,u.rb,u.ko,u.ok,?_,?_,u.ms,u.ap,u.le⟩,V,W,X⟩
  ·rw[JV,E,IT rfl,wT];exact u.fs
  ·rw[Lc,E,IT rfl,wT];exact u.os
 |false=>
  rw[E]at T;have xm:=u.x.marked;have om:=u.ext (Hp.Ext.refl u.x.wf).marked;have lb:=DP om.rb;obtain⟨_,_,_,_,l4,_⟩:=BB om.row;have qs:∀(F:AES) (e:Env),J 19 e=AI AT (i:Int)->AZ .AEk (Ap 1 (BX ty3.zero 1) [(0,1,J 19)]) F e l.marked=.ok (.slice (BY ⟨l.next,0,By⟩) 1 1) (l.marked.back (l.marked.quiet.AER 0 [AI AT (i:Int)])):=λF e G=>Cd (FD xm.wf.quiet G) ((Hp.Ext.refl xm.wf.quiet).AER _ _) (wB _)
  have y2:l.marked.Ext (l.marked.back (l.marked.quiet.AER 0 [AI AT (i:Int)])):=.back ((Hp.Ext.refl xm.wf.quiet).AER _ _);have Rw:(l.marked.back (l.marked.quiet.AER 0 [AI AT (i:Int)])).Row l.next 0 [AI AT (i:Int)]:=(Hp.Row.new xm.wf.quiet 0 [AI AT (i:Int)]).same rfl;generalize l.marked.back (l.marked.quiet.AER 0 [AI AT (i:Int)])=L at qs y2 Rw;have c:=om.ext y2;have ck:∀(K:C) (F:AES) (e:Env),J 114 e=fv->J 9 e=pt r9->Ck (J 114) [J 9] K F e L=K F e L:=λK F e a1 a2=>by
   rcases c.fs with ⟨a,_⟩|⟨b',a,s,y,_⟩
   ·exact gn (b:=0) a1 (.inl a) a2 (.inl a)
   ·exact gn (b:=b') a1 (.inr ⟨_,_,_,a⟩) a2 (.inr (by omega))
  have c8:(AFt ks i).length<=i:=EF i _;have d2:(AF7 ks mk i).length<=i:=EF i _;obtain⟨h3,B,k3,x3,a9,n3,_,b2,c5⟩:=kJ c.x b0 c.le c.fs Rw (by unfold ints;rw[wF,wF];omega);have c7:B=B:=rfl;have b7:=b2 _ _ _ (c.fs.nb c.row (by omega)) c.row;have kE:cellsOf B=[B]/\oneCell B=IN:=by
   rcases a9 with ⟨l,_⟩|⟨b,l,_⟩<;>rw[l]<;>exact⟨rfl,rfl⟩
  obtain⟨t,k4,O,n4,_,c2,e4⟩:=ND x3.wf b7 (off:=4) (show 4<7 by omega) b6 kE.1 kE.2;have x4:=e4 h x3 c3.1;have b3:∀b r q,b≠bs->h3.Row b r q->t.Row b r q:=λb r q d A=>c2.row x3.wf A d
  have Y:∀b r q,b≠bs->¬AEu fv b->L.Row b r q->t.Row b r q:=λb r q l L A=>b3 b r q l (b2 b r q L A)
  have O:t.Row bs 0 (slL bd tb w B bad IS):=O;have ow:∀{a8:vz} {xs:List vz},L.Own k1 3 a8 xs->(∀b,AEu a8 b->¬AEu fv b)->t.Own k1 3 a8 xs:=λo hd=>by
   rcases o with a|⟨b,a,s,y,z⟩
   ·exact .inl a
   ·exact .inr ⟨b,a,Y b _ _ (by omega) (hd b ⟨0,_,_,a⟩) s,y,z⟩
  have a5:t.Own k1 3 B (ints .i64 ((AFt ks i).map xR)++[AI AT (i:Int)]):=by
   rcases a9 with a|⟨b,a,s,y,z⟩
   ·exact .inl a
   ·exact .inr ⟨b,a,b3 b _ _ (by omega) s,y,z⟩
  have N:=ow c.os λb d hf=>((c.ap b).1 hf).1 d
  have a4:=ow c.ms λb d hf=>((c.ap b).1 hf).2 d
  have b1:t.KO k1 w ks:=by
   rcases c.ko with a|⟨b,a,s,y,z⟩
   ·exact .inl a
   ·exact .inr ⟨b,a,Y b _ _ (by omega) (c.fs.nb s (by omega)) s,y,z⟩
  have a7:=Y _ _ _ (by omega) (c.fs.nb c.rb (by omega)) c.rb;have a6:∀k∈ks,AGt t (λb=>r9<b) k:=λk R=>⟨(c.ok k R).1.keep λb r q d G A=>Y b r q (by have d:r9<b:=d;omega) (c.fs.nb A (by omega)) A,(c.ok k R).2⟩
  have I:∀b,(AEu B b->¬AEu D b/\¬AEu mv b)/\(AEu D b->¬AEu mv b):=λb=>⟨λd=>by
   have e1:=c5 b d;exact⟨λh=>by have:=c.os.lt' c.x.wf h;omega,λh=>by have:=c.ms.lt' c.x.wf h;omega⟩,(c.ap b).2⟩
  have H:=RF (n:=m+4) (x:=(i:Int)) a4.vals (by rw[wF];omega);have c4:decide ((i:Int)∈mk.map xR)=decide (i∈mk):=by
   rw[decide_eq_decide,List.mem_map];constructor
   ·rintro⟨b9,ha,G⟩
    have:b9=i:=xR.inj G;rw[<- this];exact ha
   ·exact λh=>⟨i,h,rfl⟩
  rw[c4]at H;have H:call AC (m+6) 76 [mv,AI AT (i:Int)] t=.ok (.bool (decide (i∈mk))) t:=H;by_cases a0:i∈mk
  ·rw[decide_eq_true a0]at H
   have is:=λ(F:AES) (e:Env) (G:J 19 e=AI AT (i:Int))=>FD (F:=F) x4.wf G
   obtain⟨h6,b5,k6,x6,c6,n6,f6⟩:=MY (eb:=8) (en:=3) (kd:=.i64) (n:=(i:Int)) x4 b0 (by have:=c.le;omega) N (by unfold ints;rw[wF,wF];omega);have P:=CL (i:=i) (h:=h6) (by omega);have S:∃f,MF (call AC (m+6)) e g=.norm f h6/\J 18 f=b5/\J 103 f=AI AT ((i+1:Nat):Int)/\∀j,j=0\/j=1\/j=2\/j=9\/j=11\/j=17\/j=102->J j f=J j e:=by
    unfold MF;simp only[sT,sh,OF,reduceIte,AM,AK,Qi,Td,c1,CN,t17,CJ,AS,Av,xI,zB,T,BO,BN,xP,Ar,AJ,AP,t9,lb,An,AX,AH,AN,wC,l4,qs];rw[ck _ _ _ (by simp[AG]) (by simp[AG,t9])];simp only[sT,sh,OF,reduceIte];rw[k3 _ _ _ _ (by simp[AG]) (by simp[AG])];simp only[sT,sh,OF,reduceIte,An,AX,AH,AN,wC];rw[k4 _ _ _ _ (by simp[AG]) (by simp[AG])];simp only[sT,sh,OF,reduceIte,cA0,t11,H,is,BD,t18,k6,Qi,BL,P];refine⟨_,rfl,by simp[AG],by simp[AG],λj Q=>?_⟩;rcases Q with rfl|rfl|rfl|rfl|rfl|rfl|rfl<;>simp only[AG,sh,OF,reduceIte]
   obtain⟨f,U,V,W,X⟩:=S;have M:∀b r q,¬AEu D b->t.Row b r q->h6.Row b r q:=λb r q d A=>(f6 b r q d A).1
   refine⟨f,h6,B,b5,U,⟨x6,M _ _ _ (N.nb O (by omega)) O,M _ _ _ (N.nb a7 (by omega)) a7,?_,λk R=>⟨(a6 k R).1.keep λb r q d G A=>M b r q (N.nb A (by omega)) A,(a6 k R).2⟩,?_,?_,?_,λb=>⟨λd=>⟨λh=>?_,((I b).1 d).2⟩,λd hm=>?_⟩,by have:=c.le;omega⟩,V,W,X⟩
   ·rcases b1 with a|⟨b,a,s,y,z⟩
    ·exact .inl a
    ·exact .inr ⟨b,a,M b _ _ (N.nb s (by omega)) s,y,z⟩
   ·rw[JV,E,If (by decide),IA]
    rcases a5 with a|⟨b,a,s,y,z⟩
    ·exact .inl a
    ·exact .inr ⟨b,a,M b _ _ ((I b).1 ⟨0,_,_,a⟩).1 s,y,z⟩
   ·rw[Lc,E,If (by decide),IT a0,IA];exact c6
   ·rcases a4 with a|⟨b,a,s,y,z⟩
    ·exact .inl a
    ·exact .inr ⟨b,a,M b _ _ (λd=>(I b).2 d ⟨0,_,_,a⟩) s,y,z⟩
   ·exact(f6 b _ _ ((I b).1 d).1 (a5.rw_ d)).2 h
   ·exact(f6 b _ _ (λho=>(I b).2 ho hm) (a4.rw_ hm)).2 d
  ·rw[decide_eq_false a0]at H
   have P:=CL (i:=i) (h:=t) (by omega);have S:∃f,MF (call AC (m+6)) e g=.norm f t/\J 18 f=D/\J 103 f=AI AT ((i+1:Nat):Int)/\∀j,j=0\/j=1\/j=2\/j=9\/j=11\/j=17\/j=102->J j f=J j e:=by
    unfold MF;simp only[sT,sh,OF,reduceIte,AM,AK,Qi,Td,c1,CN,t17,CJ,AS,Av,xI,zB,T,BO,BN,xP,Ar,AJ,AP,t9,lb,An,AX,AH,AN,wC,l4,qs];rw[ck _ _ _ (by simp[AG]) (by simp[AG,t9])];simp only[sT,sh,OF,reduceIte];rw[k3 _ _ _ _ (by simp[AG]) (by simp[AG])];simp only[sT,sh,OF,reduceIte,An,AX,AH,AN,wC];rw[k4 _ _ _ _ (by simp[AG]) (by simp[AG])];simp only[sT,sh,OF,reduceIte,cA0,t11,H,Qi,BL,P];refine⟨_,rfl,by simp[AG,t18],by simp[AG],λj Q=>?_⟩;rcases Q with rfl|rfl|rfl|rfl|rfl|rfl|rfl<;>simp only[AG,sh,OF,reduceIte]
   obtain⟨f,U,V,W,X⟩:=S;refine⟨f,t,B,D,U,⟨x4,O,a7,b1,a6,?_,?_,a4,I,by have:=c.le;omega⟩,V,W,X⟩
   ·rw[JV,E,If (by decide),IA];exact a5
   ·rw[Lc,E,If (by decide),If a0,wT];exact N
end
theorem sZ:Th.zero=[.pointer By,.pointer By,AI AT 0,.slice By 0 0,.slice By 0 0,AI AT 0,.bool IS]:=by kernel_rfl
theorem lY:Bt .mt 0 [.pointer By]=BY vJ:=by kernel_rfl
section
variable {F:AES}{e:Env}{h:Hp}{n:Nat}
theorem gN{g1 g2 g3:O}{a b:Nat}(c:g1 e=pt a)(h2:g2 e=pt b)(d:g3 e=AI AT 100):BW Th.zero [(0,1,g1),(1,1,g2),(2,1,g3)] F e h=.ok (.agg ⟨slL a b AEW AEW 0 IS⟩) h:=by
 rw[Cx,sZ,A3 (hk:=by rw[c];rfl),c,A3 (hk:=by rw[h2];rfl),h2,A3 (hk:=by rw[d];rfl),d];simp only[show ∀a,cellsOf (pt a)=[pt a]from λ_=>rfl,Cr,xM,wK,xD,over,AAw,AAZ,zK,xI,yS,wA,yn,if_true,Bw,reduceIte];rfl
theorem vU{n:Nat}(a:n<=1000000):UU .i64 (AI AT (n:Int)) (AI AT 3) h=.ok (AI AT ((n/3:Nat):Int)) h:=by
 have:((n:Nat):Int).tdiv 3=((n/3:Nat):Int):=rfl;rw[MP (by omega),this,Bl (by omega)]
end
end
end Go.Proofs.YtldjiljipddebaaGreat
