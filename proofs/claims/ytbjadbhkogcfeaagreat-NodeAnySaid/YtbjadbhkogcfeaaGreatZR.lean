/-
  Part ZR of what Lawan stands on: printed by program, names and spaces cut.
-/
import Derived.Test.YtbjadbhkogcfeaaGreatZQ
open Go.Value renaming int→AI
open Go.IntKind renaming i64→AT
open Nat renaming reduceEqDiff→BY,reduceLT→By,reduceAdd→IT,le_refl→If,zero_add→sh,zero_le→uD,le_trans→uO,add_eq→vH,reduceLeDiff→vR,mul_one→wD
open Go renaming Value→IN
open List renaming length_append→No,length_map→OF,getElem?_eq_getElem→tW,length_cons→tZ,replicate→th,mem_of_getElem?→tq,mem_cons→uA,mem_singleton→uF,append_nil→uH,length_take→uL,nil_append→uN,mem_append→uP,length_nil→uR,length_singleton→uU,length_replicate→uh,range→vG,cons_append→vM,append_eq→vZ,mem_range→wI,drop→wT,take→wh,singleton_append→yD,length_range→yu,not_mem_nil→AAS,map→ABV
open Bool renaming and_eq_true→uB,not_true→uX,not_false→um
open Int renaming sub→uZ
set_option linter.unusedVariables false
set_option linter.unusedSimpArgs false
namespace Go.Proofs.YtbjadbhkogcfeaaGreat
noncomputable section
open Go
set_option maxRecDepth 100000
theorem oM:gaM=oN:=rfl
theorem St:d23=Ws:=rfl
section
variable {F:ABZ}{e:Env}{h h' h0 g:Hp}{T l B:List Nat}{m n k tb r r4 r9 r11 r12 most op:Nat}{lf sq a b c:Int}{u v w:IN}{s:Bool×Nat}
theorem TN(M:Mk h k w l){b:Nat}(hb:ABw w b):k<=b:=by
 obtain⟨b',el,h1,_,_,h4⟩:=M;obtain⟨o,q,c,h2⟩:=hb;rw[h1]at h2;injection h2 with h2
 injection h2 with h2
 injection h2 with h2
 omega
theorem fZ{b:Nat}:¬ ABw ABc b:=fun⟨_,_,_,hb⟩=>by cases hb
theorem Lp(R:h.Row r 0 (CJ lf sq op a b c w)):Iq 7 (pt r) h=.ok (CO lf sq op a b c w) h:=by
 rw[Aj];exact(B1 R).2.2.2.2.2.2.2
theorem Sb:BH NH.zero [] F e h=.ok (CO 0 0 0 0 0 0 ABc) h:=by
 rw[Cb,cS,Bg];rfl
theorem kA{g0 g1 g2 g3 g4 g5:O}(h0:g0 e=AI AT lf)(h1:g1 e=AI AT sq)(h2:g2 e=.int .u8 (op:Int))(h3:g3 e=AI AT a)(h4:g4 e=AI AT b)(h5:g5 e=AI AT c):
  BH NH.zero [(0,1,g0),(1,1,g1),(2,1,g2),(3,1,g3),(4,1,g4),(5,1,g5)] F e h=.ok (CO lf sq op a b c ABc) h:=by
 rw[Cb,cS,Ad (hk:=by rw[h0];rfl),h0,Ad (hk:=by rw[h1];rfl),h1,Ad (hk:=by rw[h2];rfl),h2,Ad (hk:=by rw[h3];rfl),h3,Ad (hk:=by rw[h4];rfl),h4,Ad (hk:=by rw[h5];rfl),h5];rfl
theorem LR{L:List IN}(W:h.Wf)(R:h.Row r 0 L)(hL:L.length=7)(ABj:256<=r)(hw:oneCell w=true):
  ∃ h',ABg 7 (pt r) (CO lf sq op a b c w) h=.ok ABd h'/\h'.Row r 0 (CJ lf sq op a b c w)/\Fx (fun b=>b=r) h h':=by
 have ho:0+(CJ lf sq op a b c w).length<=L.length:=by rw[hL];exact If _
 have st:=R.ABg (n:=7) (off:=0) W ABj (v:=CO lf sq op a b c w) rfl ho (by show(bif oneCell w then true else false)=true;rw[hw];rfl);have wr:=R.ABl W ho;rw[EJ (show L.length=(CJ lf sq op a b c w).length from hL)]at wr;exact⟨_,st,wr,Fx.wr W R ho rfl⟩
theorem ZN:(FZ B s).2.length<=B.length:=by
 unfold FZ;split
 ·exact uD _
 ·split
  ·rename_i L q hg
   unfold JX at hg;split at hg
   ·cases hg
   ·split at hg
    ·cases hg
     show(wh _ (wT _ B)).length<=_;rw[uL,List.length_drop];omega
    ·cases hg
  ·exact uD _
theorem iT(hu:DF T l=some B):B.length<=l.length:=by
 unfold DF at hu;split at hu
 ·cases hu
 ·split at hu
  ·cases hu
   rw[uL];omega
  ·cases hu
theorem Nv(W:h.Wf)(R:h.Row tb 0 (T.map wv))(hT:ACM T)(V:h.VR u l)(hC:GL u)(hb:∀ x∈l,x<256)(hl:l.length<=900000):
  ∃ h' lf sq op a b c w L,h.Ext h'/\call AC (n+5) 23 [pt tb,u] h=.ok (.tuple ⟨[CO lf sq op a b c w,AI AT (GM T l)]⟩) h'/\oneCell w=true/\
   (GM T l=0->DA lf sq op a b c (L:List Nat).length=true/\h'.VE w (L.map bv)/\(∀ x∈L,x<256)/\(op<256/\L.length<=l.length)/\∀ b,ABw w b->h.next<=b):=by
 have big:=W.big;have al4:=fun (F:ABZ) (e:Env)=>BL (F:=F) (e:=e) W (n:=7) (t:=LP)
 have R4:=Hp.Row.alloc W J2 (show(CJ 0 0 0 0 0 0 ABc).length=7 from rfl);have x1:h.Ext (h.push (.cells LP 7 0)):=(Hp.Ext.refl W).push _;have n1:(h.push (.cells LP 7 0)).next=h.next+1:=rfl;generalize h.push (.cells LP 7 0)=h1 at al4 R4 x1 n1;obtain⟨h2,y2,U⟩:=Xi (n:=n) x1.wf (R.ext W x1) hT (V.ext W x1) hC hb hl;have W2:=y2.wf;have x2:=x1.trans y2;have R42:=R4.ext x1.wf y2;have n2:=y2.next;rcases U with ⟨B,r9,r11,r12,k,v,hu,k1,D,d1,d2⟩|⟨hu,k1⟩
 ·have c0:iNe 0 0=false:=B5 rfl
  obtain⟨e1,p1,s4,s6,s7⟩:∃ e1,Ws (call AC (n+4)) (As e0 0 [pt tb,u]) h=gaM (call AC (n+4)) e1 h2/\J 4 e1=pt h.next/\J 6 e1=.func (.func 83) ⟨[]⟩ ⟨[pt r12,pt r9,pt r11]⟩/\J 7 e1=.func (.func 85) ⟨[]⟩ ⟨[pt r12,pt r9,pt r11]⟩:=by
   unfold Ws;simp only[iN,IT,sT,By,BY,reduceIte,al4,cA0,k1,Ao,Ax,A2,Bu,AK,AJ,c0];exact⟨_,rfl,by simp[AG]⟩
  obtain⟨g1,q1,f1,D1,b1⟩:=IE (n:=n+2) (most:=1099511627776) W2 D (If _);obtain⟨g2,q2,f2,D2,b2⟩:=IE (n:=n+2) (most:=1099511627776) f1.wf D1 (If _);obtain⟨g3,q3,f3,D3,b3⟩:=IE (n:=n+2) (most:=9) f2.wf D2 (by omega);obtain⟨g4,q4,f4,D4,b4⟩:=IE (n:=n+2) (most:=1099511627776) f3.wf D3 (If _);obtain⟨g5,q5,f5,D5,b5⟩:=IE (n:=n+2) (most:=255) f4.wf D4 (by omega);obtain⟨g6,q6,f6,D6,b6⟩:=IE (n:=n+2) (most:=1099511627776) f5.wf D5 (If _);have hE:GM T l=if(FZ B (nx B 1099511627776 (nx B 255 (nx B 1099511627776 (nx B 9 (nx B 1099511627776 (nx B 1099511627776 (IK B,1)).2).2).2).2).2).2).1 && DA (nx B 1099511627776 (IK B,1)).1 (nx B 1099511627776 (nx B 1099511627776 (IK B,1)).2).1 (nx B 9 (nx B 1099511627776 (nx B 1099511627776 (IK B,1)).2).2).1 (nx B 1099511627776 (nx B 9 (nx B 1099511627776 (nx B 1099511627776 (IK B,1)).2).2).2).1 (nx B 255 (nx B 1099511627776 (nx B 9 (nx B 1099511627776 (nx B 1099511627776 (IK B,1)).2).2).2).2).1 (nx B 1099511627776 (nx B 255 (nx B 1099511627776 (nx B 9 (nx B 1099511627776 (nx B 1099511627776 (IK B,1)).2).2).2).2).2).1 (FZ B (nx B 1099511627776 (nx B 255 (nx B 1099511627776 (nx B 9 (nx B 1099511627776 (nx B 1099511627776 (IK B,1)).2).2).2).2).2).2).2.length then 0 else 110:=by
   unfold GM;rw[hu];rfl
  generalize nx B 1099511627776 (IK B,1)=z1 at *;generalize nx B 1099511627776 z1.2=z2 at *;generalize nx B 9 z2.2=z3 at *;generalize nx B 1099511627776 z3.2=z4 at *;generalize nx B 255 z4.2=z5 at *;generalize nx B 1099511627776 z5.2=z6 at *;have q1:call AC (n+4) 83 [AI AT 1099511627776,pt r12,pt r9,pt r11] h2=.ok (AI AT (z1.1:Int)) g1:=q1;have q2:call AC (n+4) 83 [AI AT 1099511627776,pt r12,pt r9,pt r11] g1=.ok (AI AT (z2.1:Int)) g2:=q2;have q3:call AC (n+4) 83 [AI AT 9,pt r12,pt r9,pt r11] g2=.ok (AI AT (z3.1:Int)) g3:=q3;have q4:call AC (n+4) 83 [AI AT 1099511627776,pt r12,pt r9,pt r11] g3=.ok (AI AT (z4.1:Int)) g4:=q4;have q5:call AC (n+4) 83 [AI AT 255,pt r12,pt r9,pt r11] g4=.ok (AI AT (z5.1:Int)) g5:=q5;have q6:call AC (n+4) 83 [AI AT 1099511627776,pt r12,pt r9,pt r11] g5=.ok (AI AT (z6.1:Int)) g6:=q6;have f16:=((((f1.trans f2).trans f3).trans f4).trans f5).trans f6;have W6:=f16.wf;have x6:h.Ext g6:=Fx.xtF x2 f16 fun b hb=>by omega
  have R46:=f16.row W2 R42 (by omega);have cv:C3 .u8 (AI AT (z3.1:Int)) g3=.ok (.int .u8 (z3.1:Int)) g3:=by rw[B4,G9,Nat.mod_eq_of_lt (by omega)]
  have bd:=fun (F:ABZ) (e:Env) (e0:J 24 e=AI AT (z1.1:Int)) (e1:J 26 e=AI AT (z2.1:Int)) (e2:J 29 e=.int .u8 (z3.1:Int)) (e3:J 31 e=AI AT (z4.1:Int)) (e4:J 33 e=AI AT (z5.1:Int)) (e5:J 35 e=AI AT (z6.1:Int))=>kA (F:=F) (h:=g6) e0 e1 e2 e3 e4 e5
  obtain⟨g7,h7,al7,st7,y7,R7,d7⟩:=QD W6 J2 rfl (vs:=CJ z1.1 z2.1 z3.1 z4.1 z5.1 z6.1 ABc) rfl rfl;have st7:ABg 7 (pt g6.next) (CO z1.1 z2.1 z3.1 z4.1 z5.1 z6.1 ABc) g7=.ok ABd h7:=st7;obtain⟨h8,w,k8,y8,M8⟩:=nw (n:=n+1) y7.wf (D6.ext W6 y7);have k8:call AC (n+4) 85 [pt r12,pt r9,pt r11] h7=.ok (.tuple ⟨[w,.bool (FZ B z6.2).1]⟩) h8:=k8;have W8:=y8.wf;have y68:=y7.trans y8;have n6:=x6.next;have n16:=f16.next;have n7:=y7.next;obtain⟨w1,w2⟩:cellsOf w=[w]/\oneCell w=true:=by
   rcases M8 with ⟨b,el,rfl,_⟩|⟨rfl,_⟩<;>exact⟨rfl,rfl⟩
  obtain⟨h9,st9,R9,n9,f9,_⟩:=FI (v:=w) W8 (R7.ext y7.wf y8) (off:=6) (by show 6<7;omega) (by omega) w1 w2;have R9:h9.Row g6.next 0 (CJ z1.1 z2.1 z3.1 z4.1 z5.1 z6.1 w):=R9;have W9:=f9.wf;have x9:h.Ext h9:=Fx.xtF (x6.trans y68) f9 fun b hb=>by rw[hb];exact n6
  have R49:=f9.row W8 (R46.ext W6 y68) (by omega);obtain⟨_,_,_,_,_,_,_,lda⟩:=B1 R9;have V9:h9.VE w ((FZ B z6.2).2.map bv):=by
   rcases M8 with M|⟨rfl,hn⟩
   ·exact .inl (M.keep fun b el L hb r=>f9.row W8 r (by
     have:=TN M hb;omega)).vals
   ·rw[hn];exact .inl (.inl ⟨rfl,rfl⟩)
  obtain⟨h10,k10,y10⟩:=OO (m:=n+1) (ABs:=z1.1) (seq:=z2.1) (op:=z3.1) (a:=z4.1) (b:=z5.1) (c:=z6.1) W9 (by omega) (fun g=>V9.bl g);have k10:call AC (n+4) 32 [CO z1.1 z2.1 z3.1 z4.1 z5.1 z6.1 w] h9=.ok (.bool (DA z1.1 z2.1 z3.1 z4.1 z5.1 z6.1 (FZ B z6.2).2.length)) h10:=k10;obtain⟨e2,p2,t4,t9,t11⟩:∃ e2,gaM (call AC (n+4)) e1 h2=gaE (call AC (n+4)) e2 h9/\J 4 e2=pt h.next/\J 9 e2=pt g6.next/\J 11 e2=.bool (FZ B z6.2).1:=by
   rw[oM];unfold oN;simp only[sT,By,BY,reduceIte,Ck,DC,AU,A5,uN,yD,s6,s7,E6,q1,q2,q3,Bl,cv,q4,q5,q6,bd,al7,AW,st7,k8,Ao,Ax,A2,AH,AO,sh,st9];exact⟨_,rfl,by simp[AG,s4]⟩
  have ADs:∀ b,ABw w b->h7.next<=b:=fun b hb=>by
   rcases M8 with M|⟨rfl,_⟩
   ·exact TN M hb
   ·exact absurd hb fZ
  have b8:∀ x∈(FZ B z6.2).2,x<256:=fun x hx=>by
   unfold FZ at hx;split at hx
   ·cases hx
   ·split at hx
    ·rename_i L q hg
     unfold JX at hg;split at hg
     ·cases hg
     ·split at hg
      ·cases hg
       exact D.b8 x (List.mem_of_mem_drop (List.mem_of_mem_take hx))
      ·cases hg
    ·cases hx
  have bad:GM T l=110->(∃ e3 hh,gaE (call AC (n+4)) e2 h9=.ret e3 hh/\J 4 e3=pt h.next/\J 5 e3=AI AT 110/\h.Ext hh/\hh.Row h.next 0 (CJ 0 0 0 0 0 0 ABc))->∃ h' lf sq op a b c w L,h.Ext h'/\call AC (n+5) 23 [pt tb,u] h=.ok (.tuple ⟨[CO lf sq op a b c w,AI AT (GM T l)]⟩) h'/\oneCell w=true/\
   (GM T l=0->DA lf sq op a b c (L:List Nat).length=true/\h'.VE w (L.map bv)/\(∀ x∈L,x<256)/\(op<256/\L.length<=l.length)/\∀ b,ABw w b->h.next<=b):=fun he ⟨e3,hh,r1,r2,r3,r4,r5⟩=>by
   refine⟨hh,0,0,0,0,0,0,ABc,[],r4,?_,rfl,fun h0=>by rw[he]at h0;cases h0⟩;rw[Sf rfl,St,p1,p2,r1,Ay,Dv (v:=CO 0 0 0 0 0 0 ABc) (by rw[r2];exact Lp r5),r3,he]
  cases ho:(FZ B z6.2).1
  ·rw[ho]at t11 hE
   obtain⟨h11,ADj,R11,f11⟩:=LR (lf:=0) (sq:=0) (op:=0) (a:=0) (b:=0) (c:=0) (w:=ABc) W9 R49 rfl big rfl;have hrun:∃ e3,gaE (call AC (n+4)) e2 h9=.ret e3 h11/\J 4 e3=pt h.next/\J 5 e3=AI AT 110:=by
    unfold gaE;simp only[sT,By,BY,reduceIte,gD,BM,BK,t11,um,Sb,AW,t4,ADj];exact⟨_,rfl,by simp[AG,t4]⟩
   obtain⟨e3,r1,r2,r3⟩:=hrun;exact bad (by rw[hE];rfl) ⟨e3,h11,r1,r2,r3,Fx.xtF x9 f11 fun b hb=>by rw[hb];exact If _,R11⟩
  ·rw[ho]at t11 hE
   cases hr:DA z1.1 z2.1 z3.1 z4.1 z5.1 z6.1 (FZ B z6.2).2.length
   ·rw[hr]at k10 hE
    obtain⟨h11,ADj,R11,f11⟩:=LR (lf:=0) (sq:=0) (op:=0) (a:=0) (b:=0) (c:=0) (w:=ABc) y10.wf (R49.ext W9 y10) rfl big rfl;have hrun:∃ e3,gaE (call AC (n+4)) e2 h9=.ret e3 h11/\J 4 e3=pt h.next/\J 5 e3=AI AT 110:=by
     unfold gaE;simp only[sT,By,BY,reduceIte,gD,BM,BK,t11,uX,Ap,Aj,t9,lda,cA0,k10,um,Sb,AW,t4,ADj];exact⟨_,rfl,by simp[AG,t4]⟩
    obtain⟨e3,r1,r2,r3⟩:=hrun;exact bad (by rw[hE];rfl) ⟨e3,h11,r1,r2,r3,Fx.xtF (x9.trans y10) f11 fun b hb=>by rw[hb];exact If _,R11⟩
   ·rw[hr]at k10 hE
    have AHj:=(B1 (R9.ext W9 y10)).2.2.2.2.2.2.2;obtain⟨h11,ADj,R11,f11⟩:=LR (lf:=z1.1) (sq:=z2.1) (op:=z3.1) (a:=z4.1) (b:=z5.1) (c:=z6.1) (w:=w) y10.wf (R49.ext W9 y10) rfl big w2;have he:GM T l=0:=by rw[hE];rfl
    refine⟨h11,z1.1,z2.1,z3.1,z4.1,z5.1,z6.1,w,(FZ B z6.2).2,Fx.xtF (x9.trans y10) f11 (fun b hb=>by rw[hb];exact If _),?_,w2,fun _=>⟨hr,(V9.ext W9 y10).fx y10.wf f11 (fun b hb he=>by
     have:=ADs b hb;omega),b8,⟨by omega,uO ZN (iT hu)⟩,fun b hb=>by
     have:=ADs b hb;omega⟩⟩
    obtain⟨e3,r1,r2,r3⟩:∃ e3,gaE (call AC (n+4)) e2 h9=.ret e3 h11/\J 4 e3=pt h.next/\J 5 e3=AI AT 0:=by
     unfold gaE;simp only[sT,By,BY,reduceIte,gD,BM,BK,t11,uX,Ap,Aj,t9,lda,cA0,k10,AHj,AW,t4,ADj];exact⟨_,rfl,by simp[AG,t4]⟩
    rw[Sf rfl,St,p1,p2,r1,Ay,Dv (v:=CO z1.1 z2.1 z3.1 z4.1 z5.1 z6.1 w) (by rw[r2];exact Lp R11),r3,he]
 ·have hc:unC l≠0:=by
   unfold unC;split<;>omega
  have c0:iNe (unC l) 0=true:=EB hc;have he:GM T l=unC l:=by
   unfold GM;rw[hu]
  obtain⟨h11,ADj,R11,f11⟩:=LR (lf:=0) (sq:=0) (op:=0) (a:=0) (b:=0) (c:=0) (w:=ABc) W2 R42 rfl big rfl;refine⟨h11,0,0,0,0,0,0,ABc,[],Fx.xtF x2 f11 (fun b hb=>by rw[hb];exact If _),?_,rfl,fun h0=>absurd (he ▸ h0) hc⟩;obtain⟨e1,p1,s4,s5⟩:∃ e1,Ws (call AC (n+4)) (As e0 0 [pt tb,u]) h=.ret e1 h11/\J 4 e1=pt h.next/\J 5 e1=AI AT (unC l):=by
   unfold Ws;simp only[iN,IT,sT,By,BY,reduceIte,al4,cA0,k1,Ao,Ax,A2,Bu,AK,AJ,c0,Sb,AW,ADj];exact⟨_,rfl,by simp[AG]⟩
  rw[Sf rfl,St,p1,Ay,Dv (v:=CO 0 0 0 0 0 0 ABc) (by rw[s4];exact Lp R11),s5,he]
end
end
noncomputable section
open Go
set_option maxRecDepth 100000
def Hp.IS(h:Hp)(v:IN)(xs:List Kt):Prop:=(v=ABc/\xs=[])\/∃ b el,v=.slice (some ⟨b,0,none⟩) xs.length xs.length/\h.Row b el (flI xs)
def AC5(x:Kt):Prop:=nmQ x.a x.b x.c 1=true/\(x.s=1\/x.s=2)
theorem oz:iyS=BB (AY 0 (A4 iyB)) iyE:=rfl
theorem eA:ml=Uk:=rfl
section
variable {F:ABZ}{e:Env}{h h' g:Hp}{m n k r op i:Nat}{lf sq a b c z room:Int}{xs:List Kt}{x:Kt}{v iv bw:IN}{l:List Nat}
theorem Hp.IS.len(o:h.IS v xs)(g:Hp):AB2 v g=.ok (AI AT (xs.length:Int)) g:=by
 rcases o with ⟨rfl,rfl⟩|⟨b,el,rfl,_⟩<;>rfl
theorem Hp.IS.ext(o:h.IS v xs)(W:h.Wf)(y:h.Ext h'):h'.IS v xs:=o.imp id fun⟨b,el,h1,h2⟩=>⟨b,el,h1,h2.ext W y⟩
theorem Hp.IS.at(o:h.IS v xs)(hi:xs[i]? =some x):∃ b,ACN 4 v (AI AT (i:Int)) h=.ok (.pointer (some ⟨b,i*4,none⟩)) h/\loadN 4 ⟨b,i*4,none⟩ h=.ok (FE x) h:=by
 have hil:=(List.getElem?_eq_some_iff.1 hi).1;rcases o with ⟨rfl,rfl⟩|⟨b,el,rfl,h2⟩
 ·cases hi
 ·refine⟨b,?_,?_⟩
  ·have:=Ch (h:=h) (n:=xs.length) (c:=xs.length) (es:=4) (b:=b) (off:=0) (i:=i) (k:=.i64) hil
   rwa [sh]at this
  ·rw[h2.loadN (by rw[Oz];omega),Uv xs i x hi];rfl
theorem Hp.IL.is(o:h.IL k v xs):h.IS v xs:=o.imp id fun⟨b,h1,h2,_⟩=>⟨b,_,h1,h2⟩
theorem pP(R:h.Row r 0 (CA x)):h.IS (.slice (some ⟨r,0,none⟩) 1 1) [x]:=.inr ⟨r,0,rfl,by rw[show flI [x]=CA x from uH _];exact R⟩
theorem cL(W:h.Wf)(o:AC5 x):∃ h',call AC (m+3) 91 [FE x] h=.ok (.bool false) h'/\h.Ext h':=by
 have bx:=fun (F:ABZ) (e:Env) (he:J 0 e=FE x)=>(show CW (J 0) F e h=.ok (pt h.next) (h.ABY 0 (CA x))by rw[Dx,he,Dt W];rfl)
 have x1:=(Hp.Ext.refl W).ABY 0 (CA x);have R1:=Hp.Row.new W 0 (CA x);generalize h.ABY 0 (CA x)=h1 at bx x1 R1;have l0:ABa ⟨h.next,0,none⟩ h1=.ok (AI AT x.a) h1:=R1.ABa (off:=0) (by show 0<4;omega);have l1:ABa ⟨h.next,1,none⟩ h1=.ok (AI AT x.b) h1:=R1.ABa (off:=1) (by show 1<4;omega);have l2:ABa ⟨h.next,2,none⟩ h1=.ok (AI AT x.c) h1:=R1.ABa (off:=2) (by show 2<4;omega);have l3:ABa ⟨h.next,3,none⟩ h1=.ok (.int .u8 (x.s:Int)) h1:=R1.ABa (off:=3) (by show 3<4;omega);have k1:call AC (m+2) 56 [AI AT x.a,AI AT x.b,AI AT x.c,AI AT 1] h1=.ok (.bool true) h1:=by
  have:=jC (m:=m) (h:=h1) (a:=x.a) (b:=x.b) (c:=x.c) (least:=1);rw[o.1]at this;exact this
 refine⟨h1,?_,x1⟩;rw[ll rfl];unfold d91;rcases o.2 with hs|hs
 ·have c1:iNe (x.s:Int) 1=false:=B5 (by omega)
  simp only[iN,IT,sT,By,BY,reduceIte,gD,bx,AH,AO,sh,AN,AQ,l0,l1,l2,l3,cA0,E6,k1,BM,BK,uX,AK,AJ,c1,lV0]
 ·have c1:iNe (x.s:Int) 1=true:=EB (by omega)
  have c2:iNe (x.s:Int) 2=false:=B5 (by omega);simp only[iN,IT,sT,By,BY,reduceIte,gD,bx,AH,AO,sh,AN,AQ,l0,l1,l2,l3,cA0,E6,k1,BM,BK,uX,AK,AJ,c1,c2,lV0]
theorem X0(W:h.Wf)(o:h.IS v xs)(hx:∀ x∈xs,AC5 x)(hl:xs.length<=1000):∃ h',call AC (m+5) 90 [v,.func (.func 91) #[] #[]] h=.ok (.bool false) h'/\h.Ext h':=by
 have ln:=fun g=>o.len g
 obtain⟨e1,p1,s0,s1,s7,s8⟩:∃ e1,Uk (call AC (m+3)) (As e0 0 [v,.func (.func 91) #[] #[]]) h=iyS (call AC (m+3)) e1 h/\J 0 e1=v/\J 1 e1=.func (.func 91) #[] #[]/\J 7 e1=AI AT (xs.length:Int)/\J 8 e1=AI AT ((0:Nat):Int):=by
  unfold Uk;simp only[iN,IT,sT,By,BY,reduceIte,AX,ln];exact⟨_,rfl,by simp[AG]⟩
 have run:∃ e' h',A4 iyB (call AC (m+3)) e1 h=.exit 0 e' h'/\h.Ext h':=by
  refine Bb (I:=fun i e' h'=>h.Ext h'/\J 0 e'=v/\J 1 e'=.func (.func 91) #[] #[]/\J 7 e'=AI AT (xs.length:Int)/\J 8 e'=AI AT (i:Int)/\i<=xs.length) (Q:=fun x=>∃ e' h',x=.exit 0 e' h'/\h.Ext h') xs.length (by omega) (fun i e' h' ⟨x',t0,t1,t7,t8,hi⟩=>?_) ⟨.refl W,s0,s1,s7,s8,uD _⟩;by_cases hlt:i<xs.length
  ·left
   have c1:=EP hlt;obtain⟨x,hxi⟩:∃ x,xs[i]? =some x:=⟨_,tW hlt⟩;obtain⟨b,ix,ld⟩:=(o.ext W x').at hxi;obtain⟨h2,k2,y2⟩:=cL (m:=m) x'.wf (hx x (tq hxi));have a3:=Cd (i:=i) (h:=h2) (by omega);have ap:Ic (call AC (m+3)) (.func (.func 91) #[] #[]) [FE x] h'=.ok (.bool false) h2:=k2;obtain⟨e2,q1,q0,q2,q7,q8⟩:∃ e2,iyB (call AC (m+3)) e' h'=.norm e2 h2/\J 0 e2=v/\J 1 e2=.func (.func 91) #[] #[]/\J 7 e2=AI AT (xs.length:Int)/\J 8 e2=AI AT ((i+1:Nat):Int):=by
    unfold iyB;simp only[sT,By,BY,reduceIte,A9,An,Bt,A3,AK,AJ,t8,t7,c1,BA,t0,ix,Ap,Aj,ld,Ck,AU,A5,t1,ap,BR,a3];exact⟨_,rfl,by simp[AG,t0,t1,t7]⟩
   exact⟨hlt,e2,h2,q1,x'.trans y2,q0,q2,q7,q8,hlt⟩
  ·right
   have c1:=Cv (show xs.length<=i by omega);obtain⟨e2,q1⟩:∃ e2,iyB (call AC (m+3)) e' h'=.exit 0 e2 h':=by
    unfold iyB;simp only[sT,By,BY,reduceIte,AK,AJ,t8,t7,c1];exact⟨_,rfl⟩
   rw[q1];exact⟨rfl,e2,h',rfl,x'⟩
 obtain⟨e2,h2,r1,x2⟩:=run;have k7:call AC (m+4) 126 [v,.func (.func 91) #[] #[]] h=.ok (AI AT (-1)) h2:=by
  rw[dO rfl,eA,p1,oz];simp only[A9,An,r1,A8,A3];unfold iyE;simp only[sT,By,BY,reduceIte,lV0]
 have c1:iGe (-1) 0=false:=EK (by omega);refine⟨h2,?_,x2⟩;rw[li rfl];unfold d90;simp only[iN,IT,sT,By,BY,reduceIte,cA0,k7,AK,AJ,c1,lV0]
structure ADD (h:Hp)(lf sq:Int)(op:Nat)(z:Int)(iv bw:IN)(room:Int)(xs:List Kt)(l:List Nat):Prop where
 hd:hdQ lf sq op=true
 z0:0<=z/\z<=1000
 is:h.IS iv xs
 nx:xs.length<=50
 ok:∀ x∈xs,AC5 x
 V:h.ABy bw (l.map bv)
 nl:l.length<=65536
 rm:0<=room/\room<=65536
 no:z≠0->xs=[]/\l=[]
 i1:oneCell iv=true
 b1:oneCell bw=true
theorem Xl(W:h.Wf)(t:ADD h lf sq op z iv bw room xs l):∃ h',call AC (m+6) 54 [Bs lf sq op z iv bw room] h=.ok (.bool true) h'/\h.Ext h':=by
 have bx:=fun (F:ABZ) (e:Env) (he:J 0 e=Bs lf sq op z iv bw room)=>(show CW (J 0) F e h=.ok (pt h.next) (h.ABY 0 (DJ lf sq op z iv bw room))by rw[Dx,he,Dt W];rfl)
 have x1:=(Hp.Ext.refl W).ABY 0 (DJ lf sq op z iv bw room);have R1:=Hp.Row.new W 0 (DJ lf sq op z iv bw room);generalize h.ABY 0 (DJ lf sq op z iv bw room)=h1 at bx x1 R1;have l0:ABa ⟨h.next,0,none⟩ h1=.ok (AI AT lf) h1:=R1.ABa (off:=0) (by show 0<7;omega);have l1:ABa ⟨h.next,1,none⟩ h1=.ok (AI AT sq) h1:=R1.ABa (off:=1) (by show 1<7;omega);have l2:ABa ⟨h.next,2,none⟩ h1=.ok (.int .u8 (op:Int)) h1:=R1.ABa (off:=2) (by show 2<7;omega);obtain⟨l3,l4,l5,_⟩:=Dq R1;have k1:call AC (m+5) 55 [AI AT lf,AI AT sq,.int .u8 (op:Int)] h1=.ok (.bool true) h1:=by
  have:=jA (m:=m+3) (h:=h1) (ABs:=lf) (seq:=sq) (op:=op);rw[t.hd]at this;exact this
 have k2:call AC (m+5) 89 [AI AT z,AI AT 0,AI AT 1000] h1=.ok (.bool true) h1:=by
  have:=NP (m:=m+4) (h:=h1) (n:=z) (lo:=0) (hi:=1000);rw[show wiQ z 0 1000=true from decide_eq_true t.z0]at this;exact this
 have I1:=t.is.ext W x1;have ln:=fun g=>t.is.len g
 have c1:iLe (xs.length:Int) 50=true:=GW (by have:=t.nx;omega);obtain⟨h2,k3,y2⟩:=X0 (m:=m) x1.wf I1 t.ok (by have:=t.nx;omega);have x2:=x1.trans y2;have R2:=R1.ext x1.wf y2;have l6:ABa ⟨h.next,6,none⟩ h2=.ok (AI AT room) h2:=R2.ABa (off:=6) (by show 6<7;omega);obtain⟨m3,m4,m5,_⟩:=Dq R2;have lb:=(t.V.ext W x2).bl h2;have c2:iLe (l.length:Int) 65536=true:=GW (by have:=t.nl;omega);have k4:call AC (m+5) 89 [AI AT room,AI AT 0,AI AT 65536] h2=.ok (.bool true) h2:=by
  have:=NP (m:=m+4) (h:=h2) (n:=room) (lo:=0) (hi:=65536);rw[show wiQ room 0 65536=true from decide_eq_true t.rm]at this;exact this
 refine⟨h2,?_,x2⟩;rw[lD rfl];unfold d54;by_cases hz:z=0
 ·have c3:iEq z 0=true:=CU hz
  simp only[iN,IT,sT,By,BY,reduceIte,gD,bx,AH,AO,sh,AN,AQ,l0,l1,l2,cA0,E6,k1,l3,k2,l4,AX,ln,AK,AJ,c1,k3,BM,BK,um,m5,lb,c2,l6,k4,m3,c3,lV0]
 ·obtain⟨rfl,rfl⟩:=t.no hz
  have c3:iEq z 0=false:=B9 hz;have ln0:=fun g=>t.is.len g
  have a0:Fs .i64 (AI AT ((([]:List Kt).length:Nat):Int)) (AI AT ((([]:List Nat).length:Nat):Int)) h2=.ok (AI AT 0) h2:=by
   rw[EF];rfl
  have c4:iEq 0 0=true:=CU rfl;simp only[iN,IT,sT,By,BY,reduceIte,gD,bx,AH,AO,sh,AN,AQ,l0,l1,l2,cA0,E6,k1,l3,k2,l4,AX,ln,AK,AJ,c1,k3,BM,BK,um,m5,lb,c2,l6,k4,m3,c3,m4,BR,a0,c4,lV0]
end
end
noncomputable section
open Go
set_option maxRecDepth 100000
theorem pk:puS=BB (AY 0 (A4 puB)) puE:=rfl
theorem nS:d51=eK:=rfl
theorem mB:ccT=BB (AY 2 (A4 ccB)) ccE:=rfl
theorem lz:ccM=l7:=rfl
theorem mA:ccS=BB (AY 0 (A4 ccA)) ccM:=rfl
theorem nY:d88=eP:=rfl
def Iv(ns:List Nat):List IN:=ns.map fun (n:Nat)=>Value.int .i64 (n:Int)
theorem Wa:BO Ht.zero 2=[ABc,ABc]:=by kernel_rfl
section
variable {F:ABZ}{e:Env}{h h' h0 g:Hp}{m n k r i b N:Nat}{u v w u1 u2:IN}{l xs ns la lb:List Nat}
theorem bC(x0:h0.Ext h)(hk:h0.next<=k)(hk2:k<=h.next)(o:h.ACj k 5 v (xs.map bv))(hx:xs.length+10*ns.length<=900000)(h8:∀ x∈xs,x<256)(R:h.Row r 0 (Iv ns))(hr:¬ ABw v r)(hn:∀ z∈ns,z<=9223372036854775807):
  ∃ (h':Hp) (v':IN) (ys:List Nat),call AC (m+2) 51 [v,.slice (some ⟨r,0,none⟩) ns.length ns.length] h=.ok v' h'/\h0.Ext h'/\h'.ACj k 5 v' (ys.map bv)/\ys.length<=xs.length+10*ns.length/\(∀ x∈ys,x<256)/\h.next<=h'.next/\(∀ b el L,¬ ABw v b->h.Row b el L->h'.Row b el L/\¬ ABw v' b):=by
 have ln:AB2 (.slice (some ⟨r,0,none⟩) ns.length ns.length) h=.ok (AI AT (ns.length:Int)) h:=rfl;obtain⟨e1,p1,s0,s7,s8,s9⟩:∃ e1,eK (call AC (m+1)) (As e0 0 [v,.slice (some ⟨r,0,none⟩) ns.length ns.length]) h=puS (call AC (m+1)) e1 h/\J 0 e1=v/\J 7 e1=.slice (some ⟨r,0,none⟩) ns.length ns.length/\J 8 e1=AI AT (ns.length:Int)/\J 9 e1=AI AT ((0:Nat):Int):=by
  unfold eK;simp only[iN,IT,sT,By,BY,reduceIte,AX,ln];exact⟨_,rfl,by simp[AG]⟩
 have run:∃ (e':Env) (h':Hp) (v':IN) (ys:List Nat),A4 puB (call AC (m+1)) e1 h=.exit 0 e' h'/\J 0 e'=v'/\h0.Ext h'/\h'.ACj k 5 v' (ys.map bv)/\ys.length<=xs.length+10*ns.length/\(∀ x∈ys,x<256)/\h.next<=h'.next/\(∀ b el L,¬ ABw v b->h.Row b el L->h'.Row b el L/\¬ ABw v' b):=by
  refine Bb (I:=fun i e' h'=>∃ (v':IN) (ys:List Nat),J 0 e'=v'/\J 7 e'=.slice (some ⟨r,0,none⟩) ns.length ns.length/\J 8 e'=AI AT (ns.length:Int)/\J 9 e'=AI AT (i:Int)/\i<=ns.length/\h0.Ext h'/\h'.ACj k 5 v' (ys.map bv)/\ys.length<=xs.length+10*i/\(∀ x∈ys,x<256)/\h.next<=h'.next/\(∀ b el L,¬ ABw v b->h.Row b el L->h'.Row b el L/\¬ ABw v' b))
   (Q:=fun x=>∃ (e':Env) (h':Hp) (v':IN) (ys:List Nat),x=.exit 0 e' h'/\J 0 e'=v'/\h0.Ext h'/\h'.ACj k 5 v' (ys.map bv)/\ys.length<=xs.length+10*ns.length/\(∀ x∈ys,x<256)/\h.next<=h'.next/\(∀ b el L,¬ ABw v b->h.Row b el L->h'.Row b el L/\¬ ABw v' b)) ns.length (by omega) (fun i e' h' ⟨v',ys,t0,t7,t8,t9,hi,x',o',hy,hy8,hn',fr⟩=>?_)
   ⟨v,xs,s0,s7,s8,s9,uD _,x0,o,by omega,h8,If _,fun b el L hb r=>⟨r,hb⟩⟩
  by_cases hlt:i<ns.length
  ·left
   have c1:=EP hlt;have hz:ns[i]? =some ns[i]:=tW hlt;have hzn:=hn _ (List.getElem_mem hlt);have R':=(fr r 0 _ hr R).1;have ix:ACN 1 (.slice (some ⟨r,0,none⟩) ns.length ns.length) (AI AT (i:Int)) h'=.ok (.pointer (some ⟨r,i,none⟩)) h':=by
    have:=Ch (h:=h') (n:=ns.length) (c:=ns.length) (es:=1) (b:=r) (off:=0) (i:=i) (k:=.i64) hlt
    rwa [sh,wD]at this
   have ld:ABa ⟨r,i,none⟩ h'=.ok (AI AT (ns[i]:Int)) h':=by
    rw[R'.ABa (by unfold Iv;rw[OF];exact hlt)];unfold Iv;rw[List.getD_eq_getElem?_getD,List.getElem?_map,hz];rfl
   have cv:C3 .u64 (AI AT (ns[i]:Int)) h'=.ok (.int .u64 (ns[i]:Int)) h':=by rw[B4,DG (by omega)]
   obtain⟨h2,v2,k2,x2,o2,n2,fr2⟩:=NM (n:=m) x' hk (uO hk2 hn') o' (by omega) (N:=ns[i]) (by omega);have k2:call AC (m+1) 87 [v',.int .u64 (ns[i]:Int)] h'=.ok v2 h2:=k2;have a3:=Cd (i:=i) (h:=h2) (by omega);have AFN:=Gk (n:=ns[i]) (by omega);obtain⟨e2,q1,q0,q7,q8,q9⟩:∃ e2,puB (call AC (m+1)) e' h'=.norm e2 h2/\J 0 e2=v2/\J 7 e2=.slice (some ⟨r,0,none⟩) ns.length ns.length/\J 8 e2=AI AT (ns.length:Int)/\J 9 e2=AI AT ((i+1:Nat):Int):=by
    unfold puB;simp only[sT,By,BY,reduceIte,A9,An,Bt,A3,AK,AJ,t9,t8,c1,BA,t7,ix,AN,AQ,ld,Bl,cv,cA0,t0,k2,BR,a3];exact⟨_,rfl,by simp[AG,t7,t8]⟩
   refine⟨hlt,e2,h2,q1,v2,ys++Bx ns[i],q0,q7,q8,q9,hlt,x2,.inl o2,by rw[No];omega,fun x hx=>?_,uO hn' n2,fun b el L hb r=>?_⟩
   ·rcases uP.1 hx with h1|h1
    ·exact hy8 x h1
    ·exact NL _ x h1
   ·obtain⟨r1,r2⟩:=fr b el L hb r
    exact fr2 b el L r2 r1
  ·right
   have c1:=Cv (show ns.length<=i by omega);obtain⟨e2,q1,q0⟩:∃ e2,puB (call AC (m+1)) e' h'=.exit 0 e2 h'/\J 0 e2=v':=by
    unfold puB;simp only[sT,By,BY,reduceIte,AK,AJ,t9,t8,c1];exact⟨_,rfl,by simp[AG,t0]⟩
   rw[q1];exact⟨rfl,e2,h',v',ys,rfl,q0,x',o',by omega,hy8,hn',fr⟩
 obtain⟨e2,h2,v2,ys,r1,r0,q⟩:=run;refine⟨h2,v2,ys,?_,q⟩;rw[kz rfl,nS,p1,pk];simp only[A9,An,r1,A8,A3];unfold puE;simp only[sT,By,BY,reduceIte,r0,lV0]
theorem oo{L:List IN}(W:h.Wf)(ABj:256<=b)(R:h.Row b 6 L)(V:h.ABy u (l.map bv))(hn:n+l.length<=L.length):
  DN 1 1 5 (.slice (some ⟨b,0,none⟩) n L.length) u h=.ok (.slice (some ⟨b,0,none⟩) (n+l.length) L.length) (h.wr b n (l.map bv)):=by
 unfold DN DH;simp only[V.lenV,Am,vH,OF];rw[V.src (n:=l.length) (by rw[OF])];simp only[Ar.2 hn];have e2:Eh ⟨b,0,none⟩ (Nat.mul n 1)=⟨b,n,none⟩:=by
  rw[show Nat.mul n 1=n from wD n];cases n with
  |zero=>rfl
  |succ n=>show(⟨b,Nat.add 0 (Nat.succ n),none⟩:Addr)=_;rw[vH,sh]
 rw[e2,R.store W ABj (by rw[OF];exact hn) (DB l)]
theorem dq{x y:O}(hx:x e=ABc)(hy:y e=AI AT 0):Dd 5 1 x none (some y) none F e h=.ok ABc h:=by
 show(match x e with|.slice a n c=>DO e n c none (some y) none (fun l hh m=>EH 5 1 a false l hh m h)|_=>.no)=_;rw[hx];show Ci e (some y) 0 0 (fun hh=>Ci e none 0 hh fun l=>EH 5 1 none false l hh 0 h)=_;have hb:∀ K:Nat->R,Ci e (some y) 0 0 K=K 0:=fun K=>by
  show(match DS (y e)with|.ok n=>(bif Nat.ble n 0 then K n else .no)|.no=>.no)=_;rw[hy];rfl
 rw[hb];rfl
theorem e9(W:h.Wf)(hN:1<=N/\N<=900000):∃ h' b,call AC (m+1) 125 [ABc,AI AT (N:Int)] h=.ok (.slice (some ⟨b,0,none⟩) 0 N) h'/\h.Ext h'/\h'.Row b 6 ((th N 0).map bv)/\h.next<=b:=by
 obtain⟨h1,v1,a1,x1,o1,n1⟩:=OL (h0:=h) (k:=h.next) (n:=N) (.refl W) (If _) (If _) (xs:=[]) (v:=ABc) (.inl ⟨rfl,rfl⟩) (by omega) (by simp only[uR];omega);rw[uN]at o1;rcases o1 with ⟨_,hz⟩|⟨b,rfl,R,hb,_⟩
 ·have:=congrArg List.length hz
  rw[OF,uh]at this;simp at this;omega
 ·rw[OF,uh]at a1
  have az:=fun (F:ABZ) (e:Env) (hx:J 20 e=ABc) (hy:J 1 e=AI AT (N:Int))=>(K7 (F:=F) (h:=h) hx hy).trans a1
  have c0:iLt (N:Int) 0=false:=E5 (by omega);have cp:∀ (F:ABZ) (e:Env),J 0 e=ABc->Mi (J 0) F e h=.ok (AI AT 0) h:=fun F e he=>by
   unfold Mi;rw[he];rfl
  have ln:AB2 ABc h=.ok (AI AT 0) h:=rfl;have ln1:AB2 ABc h1=.ok (AI AT 0) h1:=rfl;have s1:FX uZ .i64 (AI AT 0) (AI AT 0) h=.ok (AI AT 0) h:=by rw[Ce];rfl
  have s2:FX uZ .i64 (AI AT (N:Int)) (AI AT 0) h=.ok (AI AT (N:Int)) h:=by
   have:uZ (N:Int) 0=(N:Int):=Int.sub_zero _;rw[Ce,this,Bc (by omega)]
  have c1:iGt (N:Int) 0=true:=Fc (by omega);have cn:=fun (F:ABZ) (e:Env) (hx:J 0 e=ABc) (hy:J 19 e=AI AT 0)=>dq (F:=F) (h:=h) hx hy
  have ch:=fun (F:ABZ) (e:Env) (hx:J 22 e=.slice (some ⟨b,0,none⟩) N N) (hy:J 24 e=AI AT 0)=>MA (F:=F) (h:=h1) (el:=5) (m:=0) hx hy (uD N)
  refine⟨h1,b,?_,x1,R,hb⟩;rw[dN rfl];unfold mj;simp only[iN,IT,sT,By,BY,reduceIte,A9,A3,AK,AJ,c0,cp,AX,ln,Bz,s1,s2,c1,cn,az,ln1,ch,lV0]
theorem Sr(W:h.Wf)(R:h.Row r 0 [u1,u2])(V1:h.ABy u1 (la.map bv))(V2:h.ABy u2 (lb.map bv))(hl:1<=la.length+lb.length/\la.length+lb.length<=900000):
  ∃ h' b,call AC (m+2) 88 [.slice (some ⟨r,0,none⟩) 2 2] h=.ok (.slice (some ⟨b,0,none⟩) (la.length+lb.length) (la.length+lb.length)) h'/\h.Ext h'/\h'.Row b 6 ((la++lb).map bv)/\h.next<=b:=by
 have big:=W.big;have ln:∀ g:Hp,AB2 (.slice (some ⟨r,0,none⟩) 2 2) g=.ok (AI AT ((2:Nat):Int)) g:=fun g=>rfl
 have ix:∀ (i:Nat) (g:Hp),i<2->ACN 1 (.slice (some ⟨r,0,none⟩) 2 2) (AI AT (i:Int)) g=.ok (.pointer (some ⟨r,i,none⟩)) g:=fun i g hi=>by
  have:=Ch (h:=g) (n:=2) (c:=2) (es:=1) (b:=r) (off:=0) (i:=i) (k:=.i64) hi
  rwa [sh,wD]at this
 have ld:∀ g:Hp,g.Row r 0 [u1,u2]->ABa ⟨r,0,none⟩ g=.ok u1 g/\ABa ⟨r,1,none⟩ g=.ok u2 g:=fun g Rg=>⟨Rg.ABa (off:=0) (by show 0<2;omega),Rg.ABa (off:=1) (by show 1<2;omega)⟩
 obtain⟨e1,p1,s0,s3,s9,s10,s11⟩:∃ e1,eP (call AC (m+1)) (As e0 0 [.slice (some ⟨r,0,none⟩) 2 2]) h=ccS (call AC (m+1)) e1 h/\J 0 e1=.slice (some ⟨r,0,none⟩) 2 2/\J 3 e1=AI AT ((0:Nat):Int)/\J 9 e1=.slice (some ⟨r,0,none⟩) 2 2/\J 10 e1=AI AT ((2:Nat):Int)/\J 11 e1=AI AT ((0:Nat):Int):=by
  unfold eP;simp only[iN,IT,sT,By,BY,reduceIte,AX,ln];exact⟨_,rfl,by simp[AG]⟩
 have AHk:∃ e',A4 ccA (call AC (m+1)) e1 h=.exit 0 e' h/\J 0 e'=.slice (some ⟨r,0,none⟩) 2 2/\J 3 e'=AI AT ((la.length+lb.length:Nat):Int):=by
  refine Bb (I:=fun i e' h'=>h'=h/\i<=2/\J 0 e'=.slice (some ⟨r,0,none⟩) 2 2/\J 9 e'=.slice (some ⟨r,0,none⟩) 2 2/\J 10 e'=AI AT ((2:Nat):Int)/\J 11 e'=AI AT (i:Int)/\J 3 e'=AI AT (((if i=0 then 0 else if i=1 then la.length else la.length+lb.length):Nat):Int))
   (Q:=fun x=>∃ e',x=.exit 0 e' h/\J 0 e'=.slice (some ⟨r,0,none⟩) 2 2/\J 3 e'=AI AT ((la.length+lb.length:Nat):Int)) 2 (by omega) (fun i e' h' ⟨hh,hi,t0,t9,t10,t11,t3⟩=>?_) ⟨rfl,by omega,s0,s9,s10,s11,s3⟩
  subst hh;by_cases hlt:i<2
  ·left
   have c1:iLt (i:Int) ((2:Nat):Int)=true:=EP hlt;have a3:=Cd (i:=i) (h:=h') (by omega);obtain⟨l0,l1⟩:=ld h' R;have step:∀ (u:IN) (c d:Nat),ABa ⟨r,i,none⟩ h'=.ok u h'->AB2 u h'=.ok (AI AT (d:Int)) h'->J 3 e'=AI AT (c:Int)->c+d<=900000->∃ e2,ccA (call AC (m+1)) e' h'=.norm e2 h'/\J 0 e2=.slice (some ⟨r,0,none⟩) 2 2/\J 9 e2=.slice (some ⟨r,0,none⟩) 2 2/\J 10 e2=AI AT ((2:Nat):Int)/\J 11 e2=AI AT ((i+1:Nat):Int)/\J 3 e2=AI AT ((c+d:Nat):Int):=fun u c d lu lv hc hcd=>by
    have a1:Fs .i64 (AI AT (c:Int)) (AI AT (d:Int)) h'=.ok (AI AT ((c+d:Nat):Int)) h':=by
     rw[EF,show(c:Int)+(d:Int)=((c+d:Nat):Int)by omega,Bc (by omega)]
    have c2:iLt ((c+d:Nat):Int) 0=false:=E5 (by omega);unfold ccA;simp only[sT,By,BY,reduceIte,A9,An,Bt,A3,AK,AJ,t11,t10,c1,BA,t9,ix i h' hlt,AN,AQ,lu,AX,lv,BR,hc,a1,c2,a3];exact⟨_,rfl,by simp[AG,t0,t9,t10]⟩
   have AEj:i=0\/i=1:=by omega
   rcases AEj with rfl|rfl
   ·obtain⟨e2,q1,q2,q3,q4,q5,q6⟩:=step u1 0 la.length l0 (V1.bl h') t3 (by omega)
    exact⟨hlt,e2,h',q1,rfl,by omega,q2,q3,q4,q5,by rw[q6,sh];rfl⟩
   ·obtain⟨e2,q1,q2,q3,q4,q5,q6⟩:=step u2 la.length lb.length l1 (V2.bl h') t3 (by omega)
    exact⟨hlt,e2,h',q1,rfl,by omega,q2,q3,q4,q5,q6⟩
  ·right
   obtain rfl:i=2:=by omega
   have c1:iLt ((2:Nat):Int) ((2:Nat):Int)=false:=Cv (If 2);obtain⟨e2,q1,q0,q3⟩:∃ e2,ccA (call AC (m+1)) e' h'=.exit 0 e2 h'/\J 0 e2=.slice (some ⟨r,0,none⟩) 2 2/\J 3 e2=AI AT ((la.length+lb.length:Nat):Int):=by
    unfold ccA;simp only[sT,By,BY,reduceIte,AK,AJ,t11,t10,c1];exact⟨_,rfl,by simp[AG,t0,t3]⟩
   rw[q1];exact⟨rfl,e2,rfl,q0,q3⟩
 obtain⟨e2,r1,u0,u3⟩:=AHk;obtain⟨h1,b,k1,x1,Rb,hb⟩:=e9 (m:=m) (N:=la.length+lb.length) W hl;have W1:=x1.wf;obtain⟨e3,p3,w6,w25,w26,w27⟩:∃ e3,ccM (call AC (m+1)) e2 h=ccT (call AC (m+1)) e3 h1/\J 6 e3=.slice (some ⟨b,0,none⟩) 0 (la.length+lb.length)/\J 25 e3=.slice (some ⟨r,0,none⟩) 2 2/\J 26 e3=AI AT ((2:Nat):Int)/\J 27 e3=AI AT ((0:Nat):Int):=by
  rw[lz];unfold l7;simp only[sT,By,BY,reduceIte,cA0,E6,u3,k1,u0,AX,ln];exact⟨_,rfl,by simp[AG]⟩
 have zl:((th (la.length+lb.length) 0).map bv).length=la.length+lb.length:=by rw[OF,uh]
 have hL0:∀ i,i<2->∃ (u:IN) (l:List Nat) (L':List IN),u=(if i=0 then u1 else u2)/\l=(if i=0 then la else lb)/\L'=over (if i=0 then(th (la.length+lb.length) 0).map bv else la.map bv++(th lb.length 0).map bv) (if i=0 then 0 else la.length) (l.map bv)/\L'=(if i=0 then la.map bv++(th lb.length 0).map bv else(la++lb).map bv):=fun i hi=>by
  have:i=0\/i=1:=by omega
  rcases this with rfl|rfl
  ·refine⟨_,_,_,rfl,rfl,rfl,?_⟩
   simp only[if_pos,over,List.take_zero,uN,OF,sh];rw[<- List.map_drop,List.drop_replicate,Nat.add_sub_cancel_left]
  ·refine⟨_,_,_,rfl,rfl,rfl,?_⟩
   simp only[if_neg (show ¬ (1:Nat)=0 by omega),over,OF];rw[List.take_left' (by rw[OF]),List.drop_of_length_le (by rw[No,OF,OF,uh];omega),uH,List.map_append]
 have AHl:∃ e' h',A4 ccB (call AC (m+1)) e3 h1=.exit 2 e' h'/\h.Ext h'/\h'.Row b 6 ((la++lb).map bv)/\J 6 e'=.slice (some ⟨b,0,none⟩) (la.length+lb.length) (la.length+lb.length):=by
  refine Bb (I:=fun i e' h'=>i<=2/\h.Ext h'/\J 25 e'=.slice (some ⟨r,0,none⟩) 2 2/\J 26 e'=AI AT ((2:Nat):Int)/\J 27 e'=AI AT (i:Int)/\J 6 e'=.slice (some ⟨b,0,none⟩) (if i=0 then 0 else if i=1 then la.length else la.length+lb.length) (la.length+lb.length)/\h'.Row b 6 (if i=0 then(th (la.length+lb.length) 0).map bv else if i=1 then la.map bv++(th lb.length 0).map bv else(la++lb).map bv))
   (Q:=fun x=>∃ e' h',x=.exit 2 e' h'/\h.Ext h'/\h'.Row b 6 ((la++lb).map bv)/\J 6 e'=.slice (some ⟨b,0,none⟩) (la.length+lb.length) (la.length+lb.length)) 2 (by omega) (fun i e' h' ⟨hi,x',t25,t26,t27,t6,R'⟩=>?_) ⟨by omega,x1,w25,w26,w27,w6,Rb⟩
  by_cases hlt:i<2
  ·left
   have W':=x'.wf;have c1:iLt (i:Int) ((2:Nat):Int)=true:=EP hlt;obtain⟨l0,l1⟩:=ld h' (R.ext W x');have AEj:i=0\/i=1:=by omega
   have step:∀ (u:IN) (l:List Nat) (c:Nat) (L:List IN),ABa ⟨r,i,none⟩ h'=.ok u h'->h'.ABy u (l.map bv)->L.length=la.length+lb.length->c+l.length<=L.length->h'.Row b 6 L->J 6 e'=.slice (some ⟨b,0,none⟩) c (la.length+lb.length)->∃ e2 h2,ccB (call AC (m+1)) e' h'=.norm e2 h2/\h.Ext h2/\h2.Row b 6 (over L c (l.map bv))/\J 25 e2=.slice (some ⟨r,0,none⟩) 2 2/\J 26 e2=AI AT ((2:Nat):Int)/\J 27 e2=AI AT ((i+1:Nat):Int)/\J 6 e2=.slice (some ⟨b,0,none⟩) (c+l.length) (la.length+lb.length):=fun u l c L lu V hL hc RL h6=>by
    have ap:=oo W' (by omega) RL V hc;rw[hL]at ap;have ho:c+(l.map bv).length<=L.length:=by rw[OF];exact hc
    have wr:=RL.ABl W' ho;have xw:=RL.AB3 x' hb ho;have a3:=Cd (i:=i) (h:=h'.wr b c (l.map bv)) (by omega);refine(show ∃ e2,ccB (call AC (m+1)) e' h'=.norm e2 (h'.wr b c (l.map bv))/\J 25 e2=.slice (some ⟨r,0,none⟩) 2 2/\J 26 e2=AI AT ((2:Nat):Int)/\J 27 e2=AI AT ((i+1:Nat):Int)/\J 6 e2=.slice (some ⟨b,0,none⟩) (c+l.length) (la.length+lb.length)from ?_).elim fun e2 ⟨q1,q2⟩=>⟨e2,_,q1,xw,wr,q2⟩
    unfold ccB;simp only[sT,By,BY,reduceIte,A9,An,Bt,A3,AK,AJ,t27,t26,c1,BA,t25,ix i h' hlt,AN,AQ,lu,BZ,h6,ap,BR,a3];exact⟨_,rfl,by simp[AG,t25,t26]⟩
   obtain⟨u,l,L',hu,hl',hL',hL2⟩:=hL0 i hlt;rcases AEj with rfl|rfl
   ·simp only[if_pos]at hu hl' hL' hL2 R' t6
    subst hu;subst hl';obtain⟨e4,h4,q1,q2,q3,q4,q5,q6,q7⟩:=step u l 0 _ l0 (V1.ext W x') zl (by rw[zl];omega) R' t6;refine⟨hlt,e4,h4,q1,by omega,q2,q4,q5,q6,by rw[q7,sh];rfl,?_⟩;rw[<- hL',hL2]at q3;exact q3
   ·have n1:¬ (1:Nat)=0:=by omega
    simp only[if_neg n1]at hu hl' hL' hL2 R' t6;subst hu;subst hl';have hz:(la.map bv++(th l.length 0).map bv).length=la.length+l.length:=by rw[No,OF,OF,uh]
    obtain⟨e4,h4,q1,q2,q3,q4,q5,q6,q7⟩:=step u l la.length _ l1 (V2.ext W x') hz (by rw[hz];exact If _) R' t6;refine⟨hlt,e4,h4,q1,by omega,q2,q4,q5,q6,q7,?_⟩;rw[<- hL',hL2]at q3;exact q3
  ·right
   obtain rfl:i=2:=by omega
   have c1:iLt ((2:Nat):Int) ((2:Nat):Int)=false:=Cv (If 2);obtain⟨e4,q1,q6⟩:∃ e4,ccB (call AC (m+1)) e' h'=.exit 2 e4 h'/\J 6 e4=.slice (some ⟨b,0,none⟩) (la.length+lb.length) (la.length+lb.length):=by
    unfold ccB;simp only[sT,By,BY,reduceIte,AK,AJ,t27,t26,c1];exact⟨_,rfl,by simp[AG,t6]⟩
   rw[q1];exact⟨rfl,e4,h',rfl,x',R',q6⟩
 obtain⟨e4,h4,r4,x4,R4,z6⟩:=AHl;refine⟨h4,b,?_,x4,R4,hb⟩;rw[lZ rfl,nY,p1,mA];simp only[A9,An,r1,A8,A3];rw[p3,mB];simp only[A9,An,r4,A8,A3];unfold ccE;simp only[sT,By,BY,reduceIte,z6,lV0]
theorem co(x0:h0.Ext h)(hk:h0.next<=k)(hk2:k<=h.next)(o:h.ACj k 5 v (xs.map bv))(hx:xs.length<=10000)(h8:∀ x∈xs,x<256)(W0:h0.Wf)(V:h0.ABy u (l.map bv))(hl:l.length<=65536)(hl8:∀ x∈l,x<256):
  ∃ (h':Hp) (w:IN) (ys:List Nat),call AC (m+3) 52 [v,u] h=.ok w h'/\h0.Ext h'/\h'.ABy w (ys.map bv)/\(∀ x∈ys,x<256)/\ys.length<=900000:=by
 have W:=x0.wf;have lu:=V.bl h;have cv:C3 .u64 (AI AT (l.length:Int)) h=.ok (.int .u64 (l.length:Int)) h:=by rw[B4,DG (by omega)]
 obtain⟨h1,v1,k1,x1,o1,n1,fr1⟩:=NM (n:=m+1) x0 hk hk2 o (by omega) (N:=l.length) (by omega);have k1:call AC (m+2) 87 [v,.int .u64 (l.length:Int)] h=.ok v1 h1:=k1;have W1:=x1.wf;have V1:=o1.vals;have Vu:=V.ext W0 x1;obtain⟨a1,a2,a3⟩:=Gm V1;obtain⟨b1,b2,b3⟩:=Gm Vu;have AFN:=Gk (n:=l.length) (by omega);have hpos:=OZ l.length;have sl:=fun (F:ABZ) (e:Env) (h9:J 9 e=v1) (h1':J 1 e=u)=>(show Ab 2 (BO Ht.zero 2) [(0,1,J 9),(1,1,J 1)] F e h1=.ok (.slice (some ⟨h1.next,0,none⟩) 2 2) (h1.ABY 0 [v1,u])by
  rw[Wa,Bq,Ad (hk:=by rw[h9];exact a1),h9,a2,Ad (hk:=by rw[h1'];exact b1),h1',b2];simp only[over,uU,tZ,uR,wh,wT,vZ,uN,vM,IT,vR,if_true,Bg,reduceIte];rw[CQ W1];rfl)
 have y2:=(Hp.Ext.refl W1).ABY 0 [v1,u];have R2:=Hp.Row.new W1 0 [v1,u];generalize h1.ABY 0 [v1,u]=h2 at sl y2 R2;obtain⟨h3,b,k3,x3,R3,_⟩:=Sr (m:=m) y2.wf R2 (V1.ext W1 y2) (Vu.ext W1 y2) (by rw[No];omega);refine⟨h3,.slice (some ⟨b,0,none⟩) ((xs++Bx l.length).length+l.length) ((xs++Bx l.length).length+l.length),(xs++Bx l.length)++l,?_,(x1.trans y2).trans x3,.inr ⟨b,0,_,6,_,by rw[OF,show(xs++Bx l.length++l).length=(xs++Bx l.length).length+l.length from No],R3,by omega,by rw[List.drop_zero,List.take_length]⟩,fun x hx=>?_,by rw[No,No];omega⟩
 ·rw[lB rfl]
  unfold d52;simp only[iN,IT,sT,By,BY,reduceIte,AX,lu,Bl,cv,cA0,k1,sl,k3,lV0]
 ·rcases uP.1 hx with h1|h1
  ·rcases uP.1 h1 with h1|h1
   ·exact h8 x h1
   ·exact NL _ x h1
  ·exact hl8 x h1
end
end
noncomputable section
open Go
set_option maxRecDepth 100000
theorem pY:ptK=BB (AY 1 ptB) ptI:=rfl
theorem bA:ptL=gn:=rfl
theorem ph:ptS=BB (AY 0 (A4 ptL)) ptE:=rfl
theorem pZ:ptM=pf:=rfl
theorem nR:d50=eJ:=rfl
theorem ic:BO ty3.zero 6=Iv [0,0,0,0,0,0]:=by kernel_rfl
theorem ib:BO ty3.zero 4=Iv [0,0,0,0]:=by kernel_rfl
section
variable {F:ABZ}{e:Env}{h h' hB g:Hp}{m n k r i b tb op:Nat}{lf sq z room:Int}{v w iv bw:IN}{l ys T:List Nat}{xs:List Kt}{x:Kt}
theorem Hp.ACj.ext{xs:List IN}(o:h.ACj k n v xs)(W:h.Wf)(y:h.Ext h'):h'.ACj k n v xs:=o.imp (fun o=>o.ext W y) fun⟨b,l,h1,h2,h3⟩=>⟨b,l,h1,h2,h3.ext W y⟩
theorem Hp.ACj.lt{xs:List IN}(o:h.ACj k n v xs)(W:h.Wf){b:Nat}(hb:ABw v b):b<h.next:=by
 obtain⟨o',q,c,h2⟩:=hb;rcases o with (⟨h1,_⟩|⟨b',h1,r,_⟩)|⟨b',l,_,h1,r⟩
 ·rw[h1]at h2;cases h2
 ·rw[h1]at h2
  injection h2 with h2
  injection h2 with h2
  injection h2 with h2
  rw[<- h2];exact r.lt W
 ·rw[h1]at h2
  injection h2 with h2
  injection h2 with h2
  injection h2 with h2
  rw[<- h2];exact r.lt W
theorem j9(W:h.Wf){g1 g2 g3 g4 g5 g6:O}{a b c d f i:Nat}(h1:g1 e=AI AT a)(h2:g2 e=AI AT b)(h3:g3 e=AI AT c)(h4:g4 e=AI AT d)(h5:g5 e=AI AT f)(h6:g6 e=AI AT i):
  Ab 6 (BO ty3.zero 6) [(0,1,g1),(1,1,g2),(2,1,g3),(3,1,g4),(4,1,g5),(5,1,g6)] F e h=.ok (.slice (some ⟨h.next,0,none⟩) 6 6) (h.ABY 0 (Iv [a,b,c,d,f,i])):=by
 rw[ic,Bq,Ad (hk:=by rw[h1];rfl),h1,Ad (hk:=by rw[h2];rfl),h2,Ad (hk:=by rw[h3];rfl),h3,Ad (hk:=by rw[h4];rfl),h4,Ad (hk:=by rw[h5];rfl),h5,Ad (hk:=by rw[h6];rfl),h6];simp only[Iv,ABV,CZ,uU,tZ,uR,over,wh,wT,vZ,uN,vM,IT,vR,if_true,Bg,reduceIte];rw[CQ W];rfl
theorem j8(W:h.Wf){g1 g2 g3 g4:O}{a b c d:Nat}(h1:g1 e=AI AT a)(h2:g2 e=AI AT b)(h3:g3 e=AI AT c)(h4:g4 e=AI AT d):
  Ab 4 (BO ty3.zero 4) [(0,1,g1),(1,1,g2),(2,1,g3),(3,1,g4)] F e h=.ok (.slice (some ⟨h.next,0,none⟩) 4 4) (h.ABY 0 (Iv [a,b,c,d])):=by
 rw[ib,Bq,Ad (hk:=by rw[h1];rfl),h1,Ad (hk:=by rw[h2];rfl),h2,Ad (hk:=by rw[h3];rfl),h3,Ad (hk:=by rw[h4];rfl),h4];simp only[Iv,ABV,CZ,uU,tZ,uR,over,wh,wT,vZ,uN,vM,IT,vR,if_true,Bg,reduceIte];rw[CQ W];rfl
theorem Iu{z:Int}(h:0<=z):∃ n:Nat,z=(n:Int):=Int.eq_ofNat_of_zero_le h
theorem Zf(o:AC5 x):∃ a b c:Nat,x.a=(a:Int)/\x.b=(b:Int)/\x.c=(c:Int)/\a<=1099511627776/\b<=254/\c<=1099511627776:=by
 have:=o.1;unfold nmQ wiQ at this;simp only[uB,decide_eq_true_eq]at this;obtain⟨a,ha⟩:=Iu this.1.1.1;obtain⟨b,hb⟩:=Iu this.1.2.1;obtain⟨c,hc⟩:=Iu (show 0<=x.c by omega);exact⟨a,b,c,ha,hb,hc,by omega,by omega,by omega⟩
theorem pi(W0:hB.Wf)(x0:hB.Ext h)(o:h.ACj hB.next 5 v (ys.map bv))(hy:ys.length<=8000)(h8:∀ x∈ys,x<256)(I:hB.IS iv xs)(hx:∀ x∈xs,AC5 x)(hi:xs[i]? =some x)(s6:J 6 e=v)(s30:J 30 e=iv)(s32:J 32 e=AI AT (i:Int)):
  ∃ (e':Env) (h':Hp) (v':IN) (ys':List Nat),ptB (call AC (m+2)) e h=.norm e' h'/\hB.Ext h'/\h'.ACj hB.next 5 v' (ys'.map bv)/\ys'.length<=ys.length+40/\(∀ x∈ys',x<256)/\J 6 e'=v'/\∀ j,j=0\/j=3\/j=30\/j=31\/j=32->J j e'=J j e:=by
 have W:=x0.wf;obtain⟨b,ix,ld⟩:=(I.ext W0 x0).at hi;obtain⟨a,bb,c,ha,hb,hc,la,lb,lc⟩:=Zf (hx x (tq hi));obtain⟨g1,h1,al,st,y1,R8,q1⟩:=Yg (n:=4) W Wc rfl (vs:=CA x) rfl rfl;have st:ABg 4 (pt h.next) (FE x) g1=.ok ABd h1:=st;have W1:=y1.wf;have l0:ABa ⟨h.next,0,none⟩ h1=.ok (AI AT (a:Int)) h1:=by rw[<- ha];exact R8.ABa (off:=0) (by show 0<4;omega)
 have l1:ABa ⟨h.next,1,none⟩ h1=.ok (AI AT (bb:Int)) h1:=by rw[<- hb];exact R8.ABa (off:=1) (by show 1<4;omega)
 have l2:ABa ⟨h.next,2,none⟩ h1=.ok (AI AT (c:Int)) h1:=by rw[<- hc];exact R8.ABa (off:=2) (by show 2<4;omega)
 have l3:ABa ⟨h.next,3,none⟩ h1=.ok (.int .u8 (x.s:Int)) h1:=R8.ABa (off:=3) (by show 3<4;omega);have hs:x.s<=2:=by have:=(hx x (tq hi)).2;omega
 have cv:C3 .i64 (.int .u8 (x.s:Int)) h1=.ok (AI AT (x.s:Int)) h1:=by rw[B4,Bc (by omega)]
 have sl:=fun (F:ABZ) (e:Env) (e1:J 38 e=AI AT (a:Int)) (e2:J 40 e=AI AT (bb:Int)) (e3:J 42 e=AI AT (c:Int)) (e4:J 45 e=AI AT (x.s:Int))=>j8 (F:=F) W1 e1 e2 e3 e4
 have y2:=(Hp.Ext.refl W1).ABY 0 (Iv [a,bb,c,x.s]);have R2:=Hp.Row.new W1 0 (Iv [a,bb,c,x.s]);generalize h1.ABY 0 (Iv [a,bb,c,x.s])=h2 at sl y2 R2;have y12:=y1.trans y2;have n1:=y1.next;have n0:=x0.next;obtain⟨h3,v3,ys3,k3,x3,o3,hl3,h83,_,_⟩:=bC (m:=m) (ns:=[a,bb,c,x.s]) (x0.trans y12) (If _) (by have:=y12.next;omega) (o.ext W y12) (by show ys.length+10 * 4<=900000;omega) h8 R2 (fun hb=>by
  have:=o.lt W hb;omega) (fun z hz=>by
   simp only[uA,AAS,or_false]at hz;omega)
 have k3:call AC (m+2) 51 [v,.slice (some ⟨h1.next,0,none⟩) 4 4] h2=.ok v3 h3:=k3;refine(show ∃ e',ptB (call AC (m+2)) e h=.norm e' h3/\J 6 e'=v3/\∀ j,j=0\/j=3\/j=30\/j=31\/j=32->J j e'=J j e from ?_).elim fun e' ⟨p1,p2,p3⟩=>⟨e',h3,v3,ys3,p1,x3,o3,hl3,h83,p2,p3⟩
 unfold ptB;simp only[sT,By,BY,reduceIte,BA,s30,s32,ix,Ap,Aj,ld,al,AW,st,AH,AO,sh,AN,AQ,l0,l1,l2,l3,Bl,cv,sl,cA0,s6,k3];refine⟨_,rfl,by simp[AG],fun j hj=>?_⟩;rcases hj with rfl|rfl|rfl|rfl|rfl<;>simp only[AG,By,BY,reduceIte]
theorem gp(W0:hB.Wf)(x0:hB.Ext h)(o:h.ACj hB.next 5 v (ys.map bv))(hy:ys.length<=1000)(h8:∀ x∈ys,x<256)(I:hB.IS iv xs)(hx:∀ x∈xs,AC5 x)(hn:xs.length<=50)(s6:J 6 e=v)(s30:J 30 e=iv)(s31:J 31 e=AI AT (xs.length:Int))(s32:J 32 e=AI AT ((0:Nat):Int)):
  ∃ (e':Env) (h':Hp) (v':IN) (ys':List Nat),A4 ptL (call AC (m+2)) e h=.exit 0 e' h'/\hB.Ext h'/\h'.ACj hB.next 5 v' (ys'.map bv)/\ys'.length<=8000/\(∀ x∈ys',x<256)/\J 6 e'=v'/\J 0 e'=J 0 e/\J 3 e'=J 3 e:=by
 refine Bb (I:=fun i e' h'=>∃ (v':IN) (ys':List Nat),i<=xs.length/\hB.Ext h'/\h'.ACj hB.next 5 v' (ys'.map bv)/\ys'.length<=1000+40*i/\(∀ x∈ys',x<256)/\J 6 e'=v'/\J 32 e'=AI AT (i:Int)/\∀ j,j=0\/j=3\/j=30\/j=31->J j e'=J j e)
  (Q:=fun q=>∃ (e':Env) (h':Hp) (v':IN) (ys':List Nat),q=.exit 0 e' h'/\hB.Ext h'/\h'.ACj hB.next 5 v' (ys'.map bv)/\ys'.length<=8000/\(∀ x∈ys',x<256)/\J 6 e'=v'/\J 0 e'=J 0 e/\J 3 e'=J 3 e) xs.length (by omega) (fun i e' h' ⟨v',ys',hi,x',o',hl,h8',t6,t32,tj⟩=>?_)
  ⟨v,ys,uD _,x0,o,by omega,h8,s6,s32,fun _ _=>rfl⟩
 have t31:=(tj 31 (by omega)).trans s31;by_cases hlt:i<xs.length
 ·left
  have c1:=EP hlt;obtain⟨x,hxi⟩:∃ x,xs[i]? =some x:=⟨_,tW hlt⟩;obtain⟨e1,p1,u6,u32,uj⟩:∃ e1,ptL (call AC (m+2)) e' h'=ptK (call AC (m+2)) e1 h'/\J 6 e1=v'/\J 32 e1=AI AT (i:Int)/\∀ j,j=0\/j=3\/j=30\/j=31->J j e1=J j e':=by
   rw[bA];unfold gn;simp only[sT,By,BY,reduceIte,AK,AJ,t32,t31,c1];refine⟨_,rfl,by simp[AG,t6],by simp[AG,t32],fun j hj=>?_⟩;rcases hj with rfl|rfl|rfl|rfl<;>simp only[AG,By,BY,reduceIte]
  obtain⟨e2,h2,v2,ys2,r1,x2,o2,hl2,h82,w6,wj⟩:=pi (m:=m) W0 x' o' (by omega) h8' I hx hxi u6 ((uj 30 (by omega)).trans ((tj 30 (by omega)).trans s30)) u32;have w32:=(wj 32 (by omega)).trans u32;have a3:=Cd (i:=i) (h:=h2) (by omega);obtain⟨e3,f1,f32,f6,fj⟩:∃ e3,ptI (call AC (m+2)) e2 h2=.norm e3 h2/\J 32 e3=AI AT ((i+1:Nat):Int)/\J 6 e3=v2/\∀ j,j=0\/j=3\/j=30\/j=31->J j e3=J j e2:=by
   unfold ptI;simp only[sT,By,BY,reduceIte,BR,w32,a3];refine⟨_,rfl,by simp[AG],by simp[AG,w6],fun j hj=>?_⟩;rcases hj with rfl|rfl|rfl|rfl<;>simp only[AG,By,BY,reduceIte]
  refine⟨hlt,e3,h2,?_,v2,ys2,hlt,x2,o2,by omega,h82,f6,f32,fun j hj=>(fj j hj).trans ((wj j (by omega)).trans ((uj j hj).trans (tj j hj)))⟩;rw[p1,pY];simp only[A9,An,r1,Bt,A3,f1]
 ·right
  have c1:=Cv (show xs.length<=i by omega);obtain⟨e1,p1,u6,u0,u3⟩:∃ e1,ptL (call AC (m+2)) e' h'=.exit 0 e1 h'/\J 6 e1=v'/\J 0 e1=J 0 e'/\J 3 e1=J 3 e':=by
   rw[bA];unfold gn;simp only[sT,By,BY,reduceIte,AK,AJ,t32,t31,c1];exact⟨_,rfl,by simp[AG,t6]⟩
  rw[p1];exact⟨rfl,e1,h',v',ys',rfl,x',o',by omega,h8',u6,u0.trans (tj 0 (by omega)),u3.trans (tj 3 (by omega))⟩
theorem Te(W:h.Wf)(R:h.Row tb 0 (T.map wv))(hT:ACM T)(t:ADD h lf sq op z iv bw room xs l)(hl8:∀ x∈l,x<256):
  ∃ h' w,call AC (m+7) 50 [pt tb,Bs lf sq op z iv bw room] h=.ok (.tuple ⟨[w,AI AT 0]⟩) h'/\h.Ext h':=by
 have hQ:=t.hd;unfold hdQ wiQ at hQ;simp only[uB,decide_eq_true_eq]at hQ;obtain⟨lf,rfl⟩:=Iu (show 0<=lf by omega);obtain⟨sq,rfl⟩:=Iu (show 0<=sq by omega);obtain⟨z,rfl⟩:=Iu t.z0.1;obtain⟨room,rfl⟩:=Iu t.rm.1;have bx:=fun (F:ABZ) (e:Env) (he:J 1 e=Bs lf sq op z iv bw room)=>(show CW (J 1) F e h=.ok (pt h.next) (h.ABY 0 (DJ lf sq op z iv bw room))by rw[Dx,he,Dt W];rfl)
 have x1:=(Hp.Ext.refl W).ABY 0 (DJ lf sq op z iv bw room);have R1:=Hp.Row.new W 0 (DJ lf sq op z iv bw room);generalize h.ABY 0 (DJ lf sq op z iv bw room)=h1 at bx x1 R1;have t1:ADD h1 lf sq op z iv bw room xs l:=⟨t.hd,t.z0,t.is.ext W x1,t.nx,t.ok,t.V.ext W x1,t.nl,t.rm,t.no,t.i1,t.b1⟩;obtain⟨h2,k2,y2⟩:=Xl (m:=m) x1.wf t1;have W2:=y2.wf;have x2:=x1.trans y2;have R2:=R1.ext x1.wf y2;have ld:loadN 7 ⟨h.next,0,none⟩ h1=.ok (Bs lf sq op z iv bw room) h1:=(Dq R1).2.2.2;obtain⟨e1,p1,s0,s3⟩:∃ e1,eJ (call AC (m+6)) (As e0 0 [pt tb,Bs lf sq op z iv bw room]) h=ptM (call AC (m+6)) e1 h2/\J 0 e1=pt tb/\J 3 e1=pt h.next:=by
  unfold eJ;simp only[iN,IT,sT,By,BY,reduceIte,bx,Ap,Aj,ld,cA0,k2,BM,BK,uX];exact⟨_,rfl,by simp[AG]⟩
 have s2:=fun (F:ABZ) (e:Env)=>(show Ab 1 (BO ty5.zero 1) [(0,1,kV (.int .u8 2))] F e h2=.ok (.slice (some ⟨h2.next,0,none⟩) 1 1) (h2.ABY 0 [bv 2])by rw[cT];exact Gb W2 rfl rfl rfl)
 have y3:=(Hp.Ext.refl W2).ABY 0 [bv 2];have R3:=Hp.Row.new W2 0 [bv 2];have n3:(h2.ABY 0 [bv 2]).next=h2.next+1:=rfl;generalize h2.ABY 0 [bv 2]=h3 at s2 y3 R3 n3;have W3:=y3.wf;have R23:=R2.ext W2 y3;have l0:ABa ⟨h.next,0,none⟩ h3=.ok (AI AT (lf:Int)) h3:=R23.ABa (off:=0) (by show 0<7;omega);have l1:ABa ⟨h.next,1,none⟩ h3=.ok (AI AT (sq:Int)) h3:=R23.ABa (off:=1) (by show 1<7;omega);have l2:ABa ⟨h.next,2,none⟩ h3=.ok (.int .u8 (op:Int)) h3:=R23.ABa (off:=2) (by show 2<7;omega);have l6:ABa ⟨h.next,6,none⟩ h3=.ok (AI AT (room:Int)) h3:=R23.ABa (off:=6) (by show 6<7;omega);obtain⟨l3,l4,_,_⟩:=Dq R23;have ln:=fun g=>t.is.len g
 have cv:C3 .i64 (.int .u8 (op:Int)) h3=.ok (AI AT (op:Int)) h3:=by rw[B4,Bc (by omega)]
 have sl:=fun (F:ABZ) (e:Env) (e1:J 14 e=AI AT (lf:Int)) (e2:J 16 e=AI AT (sq:Int)) (e3:J 19 e=AI AT (op:Int)) (e4:J 21 e=AI AT (z:Int)) (e5:J 23 e=AI AT (room:Int)) (e6:J 26 e=AI AT (xs.length:Int))=>j9 (F:=F) W3 e1 e2 e3 e4 e5 e6
 have y4:=(Hp.Ext.refl W3).ABY 0 (Iv [lf,sq,op,z,room,xs.length]);have R4:=Hp.Row.new W3 0 (Iv [lf,sq,op,z,room,xs.length]);generalize h3.ABY 0 (Iv [lf,sq,op,z,room,xs.length])=h4 at sl y4 R4;have y34:=y3.trans y4;have o4:h4.ACj h2.next 5 (.slice (some ⟨h2.next,0,none⟩) 1 1) ([2].map bv):=.inr ⟨h2.next,[2],rfl,rfl,R3.ext W3 y4⟩;obtain⟨h5,v5,ys5,k5,x5,o5,hl5,h85,_,_⟩:=bC (m:=m+4) (ns:=[lf,sq,op,z,room,xs.length]) y34 (If _) y34.next o4 (by show 1+10 * 6<=900000;omega) (fun x hx=>by rw[uF.1 hx];omega) R4 (fun⟨_,_,_,hb⟩=>by
  injection hb with hb
  injection hb with hb
  injection hb with hb
  omega) (fun q hq=>by
   have hz:=t.z0;have hr:=t.rm;have hn:=t.nx;simp only[uA,AAS,or_false]at hq;omega)
 have k5:call AC (m+6) 51 [.slice (some ⟨h2.next,0,none⟩) 1 1,.slice (some ⟨h3.next,0,none⟩) 6 6] h4=.ok v5 h5:=k5;have W5:=x5.wf;obtain⟨_,m4,_,_⟩:=Dq (R2.ext W2 x5);obtain⟨e2,p2,t0,t3,t6,t30,t31,t32⟩:∃ e2,ptM (call AC (m+6)) e1 h2=ptS (call AC (m+6)) e2 h5/\J 0 e2=pt tb/\J 3 e2=pt h.next/\J 6 e2=v5/\J 30 e2=iv/\J 31 e2=AI AT (xs.length:Int)/\J 32 e2=AI AT ((0:Nat):Int):=by
  rw[pZ];unfold pf;simp only[sT,By,BY,reduceIte,s2,AH,AO,sh,AN,AQ,s3,l0,l1,l2,Bl,cv,l3,l6,l4,AX,ln,sl,cA0,k5,m4];exact⟨_,rfl,by simp[AG,s0,s3]⟩
 have I2:=t1.is.ext x1.wf y2;obtain⟨e3,h6,v6,ys6,r6,x6,o6,hl6,h86,u6,u0,u3⟩:=gp (m:=m+4) W2 x5 o5 (by have:ys5.length<=1+10*6:=hl5;omega) h85 I2 t.ok t.nx t6 t30 t31 t32;have W6:=x6.wf;obtain⟨_,_,m5,_⟩:=Dq (R2.ext W2 x6);obtain⟨h7,w7,ys7,k7,x7,V7,h87,hl7⟩:=co (m:=m+3) x6 (If _) x6.next o6 (by omega) h86 W2 (t1.V.ext x1.wf y2) t.nl hl8;have k7:call AC (m+6) 52 [v6,bw] h6=.ok w7 h7:=k7;obtain⟨h8,w8,k8,x8,_⟩:=Pe (n:=m+4) x7.wf ((R.ext W x2).ext W2 x7) hT V7 h87 hl7;have k8:call AC (m+6) 22 [pt tb,w7] h7=.ok w8 h8:=k8;refine⟨h8,w8,?_,(x2.trans x7).trans x8⟩;rw[kv rfl,nR,p1,p2,ph];simp only[A9,An,r6,A8,A3];unfold ptE;simp only[sT,By,BY,reduceIte,AH,AO,sh,AN,AQ,u3,t3,m5,cA0,u6,k7,u0,t0,k8,Ay,CP]
end
end
noncomputable section
open Go
set_option maxRecDepth 100000
section
variable {op:Nat}{lf sq z room:Int}{iv bw:IN}
theorem br{lf sq:Int}(hi:oneCell iv=true)(hw:oneCell bw=true):BX (DJ lf sq op z iv bw room)=true:=by
 show(bif oneCell iv then(bif oneCell bw then true else false)else false)=true;rw[hi,hw];rfl
def kq(j:Nat):Prop:=j=4\/j=5\/j=9\/j=10
end
end
noncomputable section
open Go
set_option maxRecDepth 100000
theorem oR:haD=oS:=rfl
theorem Yv:d24=Yw:=rfl
section
variable {e:Env}{h h' g:Hp}{X:Nat->Prop}{A:At}{T M:List Nat}{m n k nb r op i:Nat}{ABs lf sq a b c z kd room:Int}{ks ks' xs:List Kt}{fr fr' l:List Nat}{u w iv bw:IN}{x:Kt}
theorem iF(s:Stp T ks fr kd a b c l z ks' fr'):0<=z/\z<=1000:=by
 rcases s with ⟨q,_⟩|⟨rfl,_⟩
 ·rcases q with ⟨_,e⟩|⟨_,e⟩|⟨_,e⟩|⟨_,_,e⟩|⟨_,_,_,_,_,e⟩
  ·unfold Gd at e
   split at e
   ·cases e;omega
   ·split at e
    ·split at e<;>cases e<;>omega
    ·split at e
     ·cases e;omega
     ·split at e<;>cases e<;>omega
  ·unfold IU at e
   split at e
   ·split at e
    ·cases e;omega
    ·split at e<;>cases e<;>omega
   ·split at e<;>cases e<;>omega
  ·unfold abE at e
   split at e
   ·cases e;omega
   ·split at e<;>cases e<;>omega
  ·omega
  ·omega
 ·omega
theorem V8(h:ABp x.a x.b x.c x.s n=true):AC5 x:=by
 unfold ABp at h;rw[decide_eq_true_eq]at h;refine⟨?_,by omega⟩;unfold nmQ wiQ;simp only[uB,decide_eq_true_eq];omega
theorem bE(q:Rdn T ks fr op a b c l i g z iv bw ks' fr')(hq:hdQ lf sq op=true)(rs:∀ x∈ks,ABp x.a x.b x.c x.s x.l.length=true/\x.l.length<=100)(b8:∀ x∈ks,∀ y∈x.l,y<256)(hn:ks.length<=49)(hr:0<=room/\room<=65536)(hi:oneCell iv=true)(hw:oneCell bw=true):
  ∃ xs l',ADD g lf sq op z iv bw room xs l'/\∀ x∈l',x<256:=by
 have fil:∀ P:Kt->Bool,(ks.filter P).length<=50/\∀ x∈ks.filter P,AC5 x:=fun P=>⟨uO (List.length_filter_le _ _) (by omega),fun x hx=>V8 (rs x (List.mem_filter.1 hx).1).1⟩
 have none:∀ z:Int,0<=z/\z<=1000->iv=ABc->bw=ABc->∃ xs l',ADD g lf sq op z iv bw room xs l'/\∀ x∈l',x<256:=fun z hz h1 h2=>⟨[],[],⟨hq,hz,.inl ⟨h1,rfl⟩,uD _,(fun x hx=>by cases hx),.inl ⟨h2,rfl⟩,uD _,hr,fun _=>⟨rfl,rfl⟩,hi,hw⟩,fun x hx=>by cases hx⟩
 rcases q with ⟨_,_,h1,h2,_,_,s⟩|⟨_,_,⟨_,rfl,h2,I⟩|⟨_,⟨_,rfl,h2,I⟩|⟨_,_,rfl,h1,h2⟩|⟨_,kx,hf,rfl,⟨r,rfl,R,_⟩,B⟩⟩⟩
 ·exact none z (iF s) h1 h2
 ·exact⟨_,[],⟨hq,by omega,I.is,(fil _).1,(fil _).2,.inl ⟨h2,rfl⟩,uD _,hr,fun h=>absurd rfl h,hi,hw⟩,fun x hx=>by cases hx⟩
 ·exact⟨_,[],⟨hq,by omega,I.is,(fil _).1,(fil _).2,.inl ⟨h2,rfl⟩,uD _,hr,fun h=>absurd rfl h,hi,hw⟩,fun x hx=>by cases hx⟩
 ·exact none 60 (by omega) h1 h2
 ·have hk:=List.mem_of_find?_eq_some hf
  exact⟨[kx],kx.l,⟨hq,by omega,pP R,by show 1<=50;omega,fun x hx=>by rw[uF.1 hx];exact V8 (rs kx hk).1,B.vs.vals,by have:=(rs kx hk).2;omega,hr,fun h=>absurd rfl h,hi,hw⟩,b8 kx hk⟩
theorem OP{n:Nat}(h:DA lf sq op a b c n=true):hdQ lf sq op=true:=by
 unfold DA at h;simp only[uB]at h;exact h.1.1
theorem ZE(W:h.Wf)(hA:A.n=24)(Rn:h.Row nb 0 (AB0 A.bd A.tb A.bs ABs))(U:UpX X h A T ks fr (k+40))(hX:∀ b,X b->b<h.next)(hXn:X nb)(hnD:¬ A.D nb)(hnt:A.tb≠nb)(ABj:256<=nb)(V:h.VE u (l.map bv))(hb:∀ x∈l,x<256)(hl:l.length<=1000)(huo:∀ b,ABw u b->b≠nb)(hop:op<256)(hr:DA lf sq op a b c l.length=true):
  ∃ z iv bw room h' ks' fr' ACz xs l',call AC (m+12) 11 [pt nb,CO lf sq op a b c u] h=.ok (.tuple ⟨[Bs lf sq op z iv bw room,AI AT 0]⟩) h'/\Fx (fun b=>A.D b\/b=nb) h h'/\h'.Row nb 0 (AB0 A.bd A.tb A.bs ACz)/\UpX X h' A T ks' fr' k/\ADD h' lf sq op z iv bw room xs l'/\∀ x∈l',x<256:=by
 obtain⟨⟨M,c0,arm,lv,fv,s,iv0,md,hc,ha⟩,hx⟩:=id U;have hln:=iv0.len;by_cases hlt:lf<ABs
 ·obtain⟨room,h2,k2,y2,hroom⟩:=nr (m:=m+8) W Rn U hX hop (fun g=>V.bl g) hr hlt
  exact⟨120,ABc,ABc,room,h2,ks,fr,ABs,[],[],k2,.of y2,Rn.ext W y2,(U.ext W y2).le (by omega),⟨OP hr,by omega,.inl ⟨rfl,rfl⟩,uD _,(fun x hx=>by cases hx),.inl ⟨rfl,rfl⟩,uD _,by omega,fun _=>⟨rfl,rfl⟩,rfl,rfl⟩,fun x hx=>by cases hx⟩
 ·obtain⟨z,iv,bw,room,h2,ks',fr',k2,f2,Rn2,U2,⟨_,hroom⟩,hi,hw,rd⟩:=nk (m:=m) (k:=k) W hA Rn U hX hXn hnD hnt ABj V hb hl huo hr (by omega)
  obtain⟨⟨_,_,_,_,_,_,iv2,_⟩,_⟩:=id U2;have AH0:=iv2.len;obtain⟨xs,l',t,b8⟩:=bE rd (OP hr) md.rs (fun x hx=>(s.ko x hx).2.1) (by omega) (room:=room) (by omega) hi hw;exact⟨z,iv,bw,room,h2,ks',fr',lf,xs,l',k2,f2,Rn2,U2,t,b8⟩
theorem XE(W:h.Wf)(hA:A.n=24)(Rn:h.Row nb 0 (AB0 A.bd A.tb A.bs ABs))(U:UpX X h A T ks fr (k+40))(hX:∀ b,X b->b<h.next)(hXn:X nb)(hnD:¬ A.D nb)(hnt:A.tb≠nb)(ABj:256<=nb)(V:h.VR u l)(hC:GL u)(hb:∀ x∈l,x<256)(hl:l.length<=1000):
  (GM T l≠0/\∃ h',call AC (m+13) 24 [pt nb,u] h=.ok (.tuple ⟨[ABc,AI AT (GM T l)]⟩) h'/\h.Ext h')\/
  (GM T l=0/\∃ w h' ks' fr' ACz,call AC (m+13) 24 [pt nb,u] h=.ok (.tuple ⟨[w,AI AT 0]⟩) h'/\Fx (fun b=>A.D b\/b=nb) h h'/\h'.Row nb 0 (AB0 A.bd A.tb A.bs ACz)/\UpX X h' A T ks' fr' k):=by
 have k1:call AC (m+12) 31 [pt nb] h=.ok (AI AT 0) h:=Z6 (m:=m+9) Rn U;obtain⟨Rt,hT,htD⟩:=U.tab;obtain⟨_,n1,_,_⟩:=CF Rn;have c0:iNe 0 0=false:=B5 rfl;obtain⟨h2,lf,sq,op,a,b,c,w,L,y2,k2,ow,hq⟩:=Nv (n:=m+7) W Rt hT V hC hb (by omega);have k2:call AC (m+12) 23 [pt A.tb,u] h=.ok (.tuple ⟨[CO lf sq op a b c w,AI AT (GM T l)]⟩) h2:=k2;have W2:=y2.wf;obtain⟨g3,h3,al3,st3,y3,R7,q3⟩:=QD W2 J2 rfl (vs:=CJ lf sq op a b c w) rfl (by show(bif oneCell w then true else false)=true;rw[ow];rfl);have st3:ABg 7 (pt h2.next) (CO lf sq op a b c w) g3=.ok ABd h3:=st3;have W3:=y3.wf;have y23:=y2.trans y3;by_cases hE:GM T l=0
 ·right
  refine⟨hE,?_⟩;obtain⟨hr,Vw,w8,⟨hop,hlen⟩,fresh⟩:=hq hE;rw[hE]at k2;obtain⟨_,_,_,_,_,_,_,lda⟩:=B1 R7;have hnl:=Rn.lt W;obtain⟨z,iv,bw,room,h4,ks',fr',ACz,xs,l',k4,f4,Rn4,U4,t4,b84⟩:=ZE (m:=m) (k:=k) W3 hA (Rn.ext W y23) (U.ext W y23) (fun b hb=>Nat.lt_of_lt_of_le (hX b hb) y23.next) hXn hnD hnt ABj (Vw.ext W2 y3) w8 (by omega) (fun b hb=>by
   have:=fresh b hb;omega) hop hr
  have W4:=f4.wf;obtain⟨g5,h5,al5,st5,y5,R9,q5⟩:=QD W4 Ew rfl (vs:=DJ lf sq op z iv bw room) rfl (br t4.i1 t4.b1);have st5:ABg 7 (pt h4.next) (Bs lf sq op z iv bw room) g5=.ok ABd h5:=st5;have W5:=y5.wf;have Rn5:=(Rn4.ext W4 y5).same (h':=h5.marked) rfl;have xm:=y5.marked;obtain⟨_,m1,_,_⟩:=CF Rn5;have ld9:loadN 7 ⟨h4.next,0,none⟩ h5.marked=.ok (Bs lf sq op z iv bw room) h5.marked:=(Dq (R9.same (h':=h5.marked) rfl)).2.2.2;obtain⟨Rt4,_,_⟩:=U4.tab;have yq:h4.Ext h5.marked.quiet:=xm.quiet;have t5:ADD h5.marked.quiet lf sq op z iv bw room xs l':=⟨t4.hd,t4.z0,t4.is.ext W4 yq,t4.nx,t4.ok,t4.V.ext W4 yq,t4.nl,t4.rm,t4.no,t4.i1,t4.b1⟩;obtain⟨h6,w6,k6,x6⟩:=Te (m:=m+5) yq.wf (Rt4.ext W4 yq) hT t5 b84;have k6:call AC (m+12) 50 [pt A.tb,Bs lf sq op z iv bw room] h5.marked.quiet=.ok (.tuple ⟨[w6,AI AT 0]⟩) h6:=k6;have q6:∀ e:Env,J 39 e=pt A.tb->J 40 e=Bs lf sq op z iv bw room->Aa .free (AS 50 [J 39,J 40]) (call AC (m+12)) e h5.marked=.ok (.tuple ⟨[w6,AI AT 0]⟩) (h5.marked.back h6):=fun e e1 e2=>by
   refine BF ?_;rw[BP,AU,AU,A5,e1,e2];exact k6
  have y7:h5.marked.Ext (h5.marked.back h6):=.back x6;generalize h5.marked.back h6=h7 at q6 y7;have y47:=xm.trans y7;refine⟨w6,h7,ks',fr',ACz,?_,((Fx.of y23).trans f4).trans (.of y47),Rn4.ext W4 y47,U4.ext W4 y47⟩;obtain⟨e1,p1,s0,s7⟩:∃ e1,Yw (call AC (m+12)) (As e0 0 [pt nb,u]) h=haD (call AC (m+12)) e1 h3/\J 0 e1=pt nb/\J 7 e1=pt h2.next:=by
   unfold Yw;simp only[iN,IT,sT,By,BY,reduceIte,cA0,k1,AK,AJ,c0,Au,Ai,AH,AO,sh,AN,AQ,n1,k2,Ao,Ax,A2,al3,AW,st3];exact⟨_,rfl,by simp[AG]⟩
  obtain⟨e2,p2,t0,t9⟩:∃ e2,haD (call AC (m+12)) e1 h3=haM (call AC (m+12)) e2 h5/\J 0 e2=pt nb/\J 9 e2=pt h4.next:=by
   rw[oR];unfold oS;simp only[sT,By,BY,reduceIte,Ap,Aj,s7,lda,cA0,s0,k4,Ao,Ax,A2,al5,AW,st5,AK,AJ,c0];exact⟨_,rfl,by simp[AG,s0]⟩
  rw[YX rfl,Yv,p1,p2];unfold haM;simp only[sT,By,BY,reduceIte,Az,Au,t0,Ai,AH,AO,sh,AN,AQ,m1,Ap,Aj,t9,ld9,q6,Ao,Ax,A2,Ay,CP]
 ·left
  have c1:iNe (GM T l) 0=true:=EB hE;refine⟨hE,h3,?_,y23⟩;rw[YX rfl,Yv];unfold Yw;simp only[iN,IT,sT,By,BY,reduceIte,cA0,k1,AK,AJ,c0,Au,Ai,AH,AO,sh,AN,AQ,n1,k2,Ao,Ax,A2,al3,AW,st3,c1,Ay,CP]
end
end
noncomputable section
open Go
set_option maxRecDepth 100000
structure Still (h0 hB:Hp)(A:At)(T:List Nat)(nb kw:Nat)(ABs:Int)(w:IN)(ks:List Kt)(fr:List Nat):Prop where
 W0:h0.Wf
 x0:h0.Ext hB
 U:UpX (fun b=>b=nb) hB A T ks fr 0
 Rn:hB.Row nb 0 (AB0 A.bd A.tb A.bs ABs)
 V:hB.AL kw w ks
 lf:0<=ABs/\ABs<=1099511627776
section

end
end
noncomputable section
open Go
set_option maxRecDepth 100000
section
variable {F:ABZ}{e:Env}{h g g':Hp}{T M:List Nat}{bs r9 k1 bd bm bc tb i m n c0 k p:Nat}{arm x:Int}{fv:IN}
theorem bV:call AC (m+6) 74 [ABc,.func (.func 75) ⟨[]⟩ ⟨[]⟩] h=.ok ABd h:=by
 have ln:AB2 ABc h=.ok (AI AT ((0:Nat):Int)) h:=rfl;have a0:Fs .i64 (AI AT 0) (AI AT 1) h=.ok (AI AT ((1:Nat):Int)) h:=Cd (i:=0) (by omega);have c0:iLt ((1:Nat):Int) ((0:Nat):Int)=false:=Cv (by omega);have k2:call AC (m+4) 136 [ABc,AI AT 0,AI AT ((0:Nat):Int),.func (.func 75) ⟨[]⟩ ⟨[]⟩] h=.ok ABd h:=by
  have hrun:∀ e:Env,J 8 e=AI AT ((1:Nat):Int)->J 2 e=AI AT ((0:Nat):Int)->∃ e3,jsB (call AC (m+3)) e h=.exit 0 e3 h:=fun e t8 t2=>by
   rw[TB];unfold Zl;simp only[sT,By,BY,reduceIte,AK,AJ,t8,t2,c0];exact⟨_,rfl⟩
  obtain⟨e2,r1⟩:=hrun (Env.set 8 (AI AT ((1:Nat):Int)) (Env.set 11 (AI AT ((1:Nat):Int)) (As e0 0 [ABc,AI AT 0,AI AT ((0:Nat):Int),.func (.func 75) ⟨[]⟩ ⟨[]⟩]))) (by simp[AG]) (by simp only[iN,IT,AG,By,BY,reduceIte]);have r1:=Ka r1;simp only[iN,IT]at r1;rw[UT rfl,Um];unfold Un;simp only[iN,IT,sT,By,BY,reduceIte,BR,a0,r1,Eo,EU]
 obtain⟨k,kb⟩:=Oh (m:=m+3) (h:=h) (n:=0) (by omega);have cv:C3 .u64 (AI AT ((0:Nat):Int)) h=.ok (.int .u64 ((0:Nat):Int)) h:=by rw[B4,DG (by omega)]
 have a1:FX uZ .i64 (AI AT ((0:Nat):Int)) (AI AT 0) h=.ok (AI AT ((0:Nat):Int)) h:=rfl;have c1:iLe ((0:Nat):Int) 12=true:=GW (by omega);have pd:call AC (m+5) 114 [ABc,AI AT 0,AI AT ((0:Nat):Int),AI AT (k:Int),.func (.func 75) ⟨[]⟩ ⟨[]⟩] h=.ok ABd h:=by
  have hb:∃ e2,pdB (call AC (m+4)) (Env.set 11 (.bool true) (Env.set 10 (.bool true) (As e0 0 [ABc,AI AT 0,AI AT ((0:Nat):Int),AI AT (k:Int),.func (.func 75) ⟨[]⟩ ⟨[]⟩]))) h=.ret e2 h:=by
   rw[ai];unfold gh;simp only[iN,IT,sT,By,BY,reduceIte,Bz,a1,AK,AJ,c1,cA0,k2];exact⟨_,rfl⟩
  obtain⟨e2,r1⟩:=hb;have r1:=Mb r1;simp only[iN,IT]at r1;rw[UQ rfl,Ub];unfold Uc;simp only[iN,IT,sT,By,BY,reduceIte,r1,Ay,EU]
 rw[Yb rfl];unfold d74;simp only[iN,IT,sT,By,BY,reduceIte,AX,ln,Bl,cv,cA0,kb,pd,Eo,EU]
theorem QI:call AC (m+4) 76 [ABc] h=.ok ABc h:=by
 have ln:AB2 ABc h=.ok (AI AT ((0:Nat):Int)) h:=rfl;have c1:=Cv (If 0);obtain⟨e1,p1,s3,s9,s10⟩:∃ e1,eN (call AC (m+3)) (As e0 0 [ABc]) h=coS (call AC (m+3)) e1 h/\J 3 e1=ABc/\J 9 e1=AI AT ((0:Nat):Int)/\J 10 e1=AI AT ((0:Nat):Int):=by
  unfold eN;simp only[iN,IT,sT,By,BY,reduceIte,AX,ln];exact⟨_,rfl,by simp[AG]⟩
 obtain⟨e2,r1,r2⟩:∃ e2,coB (call AC (m+3)) e1 h=.exit 0 e2 h/\J 3 e2=ABc:=by
  unfold coB;simp only[sT,By,BY,reduceIte,AK,AJ,s10,s9,c1];exact⟨_,rfl,by simp[AG,s3]⟩
 have r1:=Ka r1;rw[lU rfl,nW,p1,mL];simp only[A9,An,r1,A8,A3];unfold coE;simp only[sT,By,BY,reduceIte,r2,lV0]
theorem Oo:call AC (m+2) 80 [ABc,AI AT x] h=.ok (.bool false) h:=by
 have ln:AB2 ABc h=.ok (AI AT 0) h:=rfl;have c1:iLt 0 0=false:=E5 (by omega);have k1:call AC (m+1) 121 [ABc,AI AT x] h=.ok (AI AT (-1)) h:=by
  obtain⟨e1,p1,p7,p8⟩:∃ e1,Ui (call AC m) (As e0 0 [ABc,AI AT x]) h=ixS (call AC m) e1 h/\J 7 e1=AI AT 0/\J 8 e1=AI AT 0:=by
   unfold Ui;simp only[iN,IT,sT,By,BY,reduceIte,AX,ln];exact⟨_,rfl,by simp[AG]⟩
  obtain⟨e2,r1⟩:∃ e2,ixB (call AC m) e1 h=.exit 0 e2 h:=by
   unfold ixB;simp only[sT,By,BY,reduceIte,AK,AJ,p8,p7,c1];exact⟨_,rfl⟩
  have r1:=Ka r1;rw[dJ rfl,dz,p1,oy];simp only[A9,An,r1,A8,A3];unfold ixE;simp only[sT,By,BY,reduceIte,lV0]
 have c2:iGe (-1) 0=false:=EK (by omega);rw[lX rfl];unfold d80;simp only[iN,IT,sT,By,BY,reduceIte,cA0,k1,AK,AJ,c2,lV0]
theorem Ss(W:h.Wf)(R:h.Row bs 0 (slL bd tb ABc fv 0 false))(Rb:h.Row r9 0 [pt bs]):∃ h',call AC (m+4) 77 [AI AT (p:Int),pt r9] h=.ok (.bool false) h'/\h.Ext h':=by
 have b1:=fun (F:ABZ) (e:Env) (he:J 0 e=AI AT (p:Int))=>H8 (F:=F) W he
 have x1:=(Hp.Ext.refl W).ABY 0 [AI AT (p:Int)];generalize h.ABY 0 [AI AT (p:Int)]=h1 at b1 x1;have lb:=Dn (Rb.ext W x1);obtain⟨_,_,_,l3,_⟩:=BD (R.ext W x1);obtain⟨h2,k2,x2⟩:=fF (m:=m+1) (g:=79) (caps:=[pt h.next]) (P:=fun _=>false) (v:=ABc) (ks:=[]) (S:=fun _=>True) x1.wf (.inl ⟨rfl,rfl⟩) (uD _) fun g xg y hy=>by cases hy
 have k2:call AC (m+3) 78 [ABc,.func (.func 79) ⟨[]⟩ ⟨[pt h.next]⟩] h1=.ok (.bool false) h2:=k2;refine⟨h2,?_,x1.trans x2⟩;rw[lV rfl];unfold d77;simp only[iN,IT,sT,By,BY,reduceIte,b1,AN,AQ,lb,Au,Ai,AH,AO,sh,l3,Dj,AU,A5,BP,k2,lV0]
theorem aZ(W:g.Wf)(d:Dk g bd bm bc n M c0 [] arm false)(Rt:g.Row tb 0 (T.map wv))(hT:ACM T)(R:g.Row bs 0 (slL bd tb ABc ABc 0 false))(Rb:g.Row r9 0 [pt bs])(hn:n=24)(hz:∀ p,p<8->lkN T M p=none/\IX T M p=false)(hi:i<n/3)
  (t9:J 9 e=pt r9)(t51:J 51 e=AI AT ((n/3:Nat):Int))(t52:J 52 e=AI AT (i:Int)):
  ∃ e' g',RG (call AC (m+6)) e g=.norm e' g'/\g.Ext g'/\J 52 e'=AI AT ((i+1:Nat):Int)/\∀ j,j=2\/j=8\/j=9\/j=10\/j=11\/j=51->J j e'=J j e:=by
 obtain⟨z1,z2⟩:=hz i (by omega);have c1:iLt (i:Int) ((n/3:Nat):Int)=true:=EP hi;have l9:=Dn Rb;obtain⟨h1,x1,LK⟩:=VX (m:=m+1) W R Rt hT d (p:=i) (by omega);have al:=fun (F:ABZ) (e:Env)=>BL (F:=F) (e:=e) x1.wf (n:=6) (t:=Cr)
 have Ra:=Hp.Row.alloc x1.wf Fq (show(Af K0).length=6 from rfl);have y2:h1.Ext (h1.push (.cells Cr 6 0)):=(Hp.Ext.refl x1.wf).push _;generalize h1.push (.cells Cr 6 0)=h2 at al Ra y2;have c0':iNe 0 0=false:=B5 rfl;rcases LK with ⟨ns,u,hH,hk,hu⟩|⟨hH,bad,hk,AD5⟩
 ·rw[Qw hH]at z1
  cases z1
 ·obtain⟨st,_,y3,_,_⟩:=My x1.wf y2 (If _) Ra rfl (k:=K0) rfl
  generalize h2.wr h1.next 0 (Af K0)=h3 at st y3;cases bad with
  |true=>exact absurd (z2.symm.trans (MZ.2 ⟨hH,AD5.1 rfl⟩)) (by decide)
  |false=>
   have a3:=Cd (i:=i) (h:=h3) (by omega);refine(show ∃ e2,RG (call AC (m+6)) e g=.norm e2 h3/\J 52 e2=AI AT ((i+1:Nat):Int)/\∀ j,j=2\/j=8\/j=9\/j=10\/j=11\/j=51->J j e2=J j e from ?_).elim fun e2 ⟨r1,r2,r3⟩=>⟨e2,h3,r1,x1.trans y3,r2,r3⟩
   unfold RG;simp only[sT,By,BY,reduceIte,gD,AK,AJ,t52,t51,c1,AN,AQ,t9,l9,cA0,hk,Ao,Ax,A2,Bu,Gr,al,AW,st,c0',BR,a3];refine⟨_,rfl,by simp[AG],fun j hj=>?_⟩;rcases hj with rfl|rfl|rfl|rfl|rfl|rfl<;>simp only[AG,By,BY,reduceIte]
structure Z2 (h g:Hp)(bs r9 k1 bd tb i:Nat)(fv:IN):Prop where
 x:h.Ext g
 row:g.Row bs 0 (slL bd tb ABc fv 0 false)
 rb:g.Row r9 0 [pt bs]
 fs:g.Own k1 3 fv (ints .i64 ((vG i).map Int.ofNat))
 le:k1<=g.next
theorem Z2.ext(o:Z2 h g bs r9 k1 bd tb i fv)(x:g.Ext g'):Z2 h g' bs r9 k1 bd tb i fv:=
 have W:=o.x.wf
 ⟨o.x.trans x,o.row.ext W x,o.rb.ext W x,o.fs.ext W x,uO o.le x.next⟩
theorem aa(W:h.Wf)(o:Z2 h g bs r9 k1 bd tb i fv)(hbs:h.next<=bs/\bs<r9/\r9<k1)(hn:n=24)(hi:i<n/3)
  (t9:J 9 e=pt r9)(t11:J 11 e=ABc)(t17:J 17 e=.func (.func 77) ⟨[]⟩ ⟨[pt r9]⟩)(bi:J 102 e=AI AT ((n/3:Nat):Int))(Xu:J 103 e=AI AT (i:Int)):
  ∃ e' g' fv',RH (call AC (m+6)) e g=.norm e' g'/\Z2 h g' bs r9 k1 bd tb (i+1) fv'/\J 103 e'=AI AT ((i+1:Nat):Int)/\∀ j,j=9\/j=11\/j=17\/j=18\/j=102->J j e'=J j e:=by
 have W1:=o.x.wf;have hhk:h.next<=k1:=by omega
 have ABj:256<=bs:=by have:=W.big;omega
 have c1:iLt (i:Int) ((n/3:Nat):Int)=true:=EP hi;obtain⟨h1,k1c,x1⟩:=Ss (m:=m+2) (p:=i) W1 o.row o.rb;have o1:=o.ext x1;have xm:=o1.x.marked;have om:=o1.ext (Hp.Ext.refl o1.x.wf).marked;have lb:=Dn om.rb;obtain⟨_,_,_,_,l4,_⟩:=BD om.row;have qs:∀ (F:ABZ) (e:Env),J 19 e=AI AT (i:Int)->Aa .ABn (Ab 1 (BO ty3.zero 1) [(0,1,J 19)]) F e h1.marked=.ok (.slice (some ⟨h1.next,0,none⟩) 1 1) (h1.marked.back (h1.marked.quiet.ABY 0 [AI AT (i:Int)])):=fun F e he=>Cp (H9 xm.wf.quiet he) ((Hp.Ext.refl xm.wf.quiet).ABY _ _) (If _)
 have y2:h1.marked.Ext (h1.marked.back (h1.marked.quiet.ABY 0 [AI AT (i:Int)])):=.back ((Hp.Ext.refl xm.wf.quiet).ABY _ _);have Rw:(h1.marked.back (h1.marked.quiet.ABY 0 [AI AT (i:Int)])).Row h1.next 0 [AI AT (i:Int)]:=(Hp.Row.new xm.wf.quiet 0 [AI AT (i:Int)]).same rfl;generalize h1.marked.back (h1.marked.quiet.ABY 0 [AI AT (i:Int)])=h2 at qs y2 Rw;have o2:=om.ext y2;have ck:∀ (K:C) (F:ABZ) (e:Env),J 114 e=fv->J 9 e=pt r9->Cf (J 114) [J 9] K F e h2=K F e h2:=fun K F e a1 a2=>by
  rcases o2.fs with ⟨h1',_⟩|⟨b',h1',h2',h3',_⟩
  ·exact de (b:=0) a1 (.inl h1') a2 (.inl h1')
  ·exact de (b:=b') a1 (.inr ⟨_,_,_,h1'⟩) a2 (.inr (by omega))
 obtain⟨h3,fv3,k3,x3,fs3,n3,_,kp3,_⟩:=gd o2.x hhk o2.le o2.fs Rw (by unfold ints;rw[OF,OF,yu];omega);have AEg:=kp3 _ _ _ (o2.fs.nb o2.row (by omega)) o2.row;have rb3:=kp3 _ _ _ (o2.fs.nb o2.rb (by omega)) o2.rb;have gW:cellsOf fv3=[fv3]/\oneCell fv3=true:=by
  rcases fs3 with ⟨h1,_⟩|⟨b,h1,_⟩<;>rw[h1]<;>exact⟨rfl,rfl⟩
 obtain⟨h4,k4,AHm,n4,_,fx4,e4⟩:=MK x3.wf AEg (off:=4) (show 4<7 by omega) ABj gW.1 gW.2;have kp4:∀ b el L,b≠bs->h3.Row b el L->h4.Row b el L:=fun b el L hb r=>fx4.row x3.wf r hb
 have k5:=Oo (m:=m+4) (x:=(i:Int)) (h:=h4);have k5:call AC (m+6) 80 [ABc,AI AT (i:Int)] h4=.ok (.bool false) h4:=k5;have a3:=Cd (i:=i) (h:=h4) (by omega);have hrun:∃ e2,RH (call AC (m+6)) e g=.norm e2 h4/\J 103 e2=AI AT ((i+1:Nat):Int)/\∀ j,j=9\/j=11\/j=17\/j=18\/j=102->J j e2=J j e:=by
  unfold RH;simp only[sT,By,BY,reduceIte,AK,AJ,Xu,bi,c1,Ck,t17,DC,AU,A5,uN,yD,k1c,BM,BK,um,Az,AN,AQ,t9,lb,Au,Ai,AH,AO,sh,l4,qs];rw[ck _ _ _ (by simp[AG]) (by simp[AG,t9])];simp only[sT,By,BY,reduceIte];rw[k3 _ _ _ _ (by simp[AG]) (by simp[AG])];simp only[sT,By,BY,reduceIte,Au,Ai,AH,AO,sh];rw[k4 _ _ _ _ (by simp[AG]) (by simp[AG])];simp only[sT,By,BY,reduceIte,cA0,t11,k5,Xu,BR,a3];refine⟨_,rfl,by simp[AG],fun j hj=>?_⟩;rcases hj with rfl|rfl|rfl|rfl|rfl<;>simp only[AG,By,BY,reduceIte]
 obtain⟨e2,r1,r2,r3⟩:=hrun;refine⟨e2,h4,fv3,r1,⟨e4 h x3 hbs.1,AHm,kp4 _ _ _ (by omega) rb3,?_,by have:=o2.le;omega⟩,r2,r3⟩;rw[List.range_succ,Zh];rcases fs3 with h1'|⟨b,h1',h2',h3',h4'⟩
 ·exact .inl h1'
 ·exact .inr ⟨b,h1',kp4 b _ _ (by omega) h2',h3',h4'⟩
theorem aU(W:h.Wf)(d:Dk h bd bm bc n M c0 [] arm false)(Rt:h.Row tb 0 (T.map wv))(hT:ACM T)(hn:n=24)(hz:∀ p,p<8->lkN T M p=none/\IX T M p=false)(htb:tb≠bd/\tb≠bm/\tb≠bc)(ha:CI arm (k+60)):
  ∃ h' bs c1 AB7 fv,call AC (m+8) 47 [pt bd,pt tb,AI AT 100] h=.ok (.tuple ⟨[pt bs,AI AT 0]⟩) h'/\Fx (fun b=>b=bd\/b=bm\/b=bc) h h'/\Sl h' ⟨bs,bd,bm,bc,tb,n⟩ T M c1 AB7 [] (vG (n/3)) ABc fv 0 false/\h.next<=bs/\CI AB7 k:=by
 have big:=W.big;have s57:∀ (mm:Nat) (g:Hp),call AC (mm+1) 72 [AI AT 100] g=.ok (AI AT 3) g:=fun mm g=>by
  have:=WF (n:=mm) (h:=g) (z:=100);rw[OS]at this;exact this
 have AGX:=fun g=>s57 (m+6) g
 have k1:=iD (m:=m+5) d;have k2:=Uo (m:=m+5) d;have c1:iEq (n:Int) 0=false:=B9 (by omega);have c2:iEq 3 0=false:=B9 (by omega);have c3:iGt 3 (n:Int)=false:=E4 (by omega);have ne:∀ (F:ABZ) (e:Env),J 27 e=pt tb->oEq SL.k false (J 27) (kV (.pointer none)) F e h=.ok (.bool false) h:=fun F e he=>FM jG he
 have bl:∀ (F:ABZ) (e:Env),J 0 e=pt bd->J 1 e=pt tb->J 2 e=AI AT 100->BH SI.zero [(0,1,J 0),(1,1,J 1),(2,1,J 2)] F e h=.ok (.agg ⟨slL bd tb ABc ABc 0 false⟩) h:=fun F e a b c=>cu a b c
 have bx:∀ (F:ABZ) (e:Env),J 46 e=.agg ⟨slL bd tb ABc ABc 0 false⟩->CW (J 46) F e h=.ok (pt h.next) (h.ABY 0 (slL bd tb ABc ABc 0 false)):=fun F e he=>by rw[Dx,he,Dt W];rfl
 have x1:=(Hp.Ext.refl W).ABY 0 (slL bd tb ABc ABc 0 false);have R1:=Hp.Row.new W 0 (slL bd tb ABc ABc 0 false);have n1:(h.ABY 0 (slL bd tb ABc ABc 0 false)).next=h.next+1:=rfl;generalize h.ABY 0 (slL bd tb ABc ABc 0 false)=h1 at bx x1 R1 n1;obtain⟨h2,al,st,y2,R9,n2,_⟩:=JJ x1.wf io (v:=pt h.next) rfl rfl;have x2:=x1.trans y2;have dv:=fun g=>tA (h:=g) (n:=n) (by omega)
 obtain⟨e1,p1,s2,s8,s9,s10,s11,s51,s52⟩:∃ e1,eH (call AC (m+7)) (As e0 0 [pt bd,pt tb,AI AT 100]) h=pU (call AC (m+7)) e1 h2/\J 2 e1=AI AT 100/\J 8 e1=AI AT (n:Int)/\J 9 e1=pt h1.next/\J 10 e1=ABc/\J 11 e1=ABc/\J 51 e1=AI AT ((n/3:Nat):Int)/\J 52 e1=AI AT ((0:Nat):Int):=by
  unfold eH;simp only[iN,IT,sT,By,BY,reduceIte,gD,cA0,k1,AK,AJ,c1,ne,AGX,c2,c3,k2,bl,bx,al,AW,st,Ji,dv];exact⟨_,rfl,by simp[AG]⟩
 obtain⟨e2,g2,q1,x3,t10,t11,t2,t8,t9⟩:∃ e' g,A4 RG (call AC (m+7)) e1 h2=.exit 1 e' g/\h2.Ext g/\J 10 e'=ABc/\J 11 e'=ABc/\J 2 e'=AI AT 100/\J 8 e'=AI AT (n:Int)/\J 9 e'=pt h1.next:=by
  refine Bb (I:=fun i e' g=>h2.Ext g/\i<=n/3/\J 52 e'=AI AT (i:Int)/\∀ j,j=2\/j=8\/j=9\/j=10\/j=11\/j=51->J j e'=J j e1)
   (Q:=fun x=>∃ e' g,x=.exit 1 e' g/\h2.Ext g/\J 10 e'=ABc/\J 11 e'=ABc/\J 2 e'=AI AT 100/\J 8 e'=AI AT (n:Int)/\J 9 e'=pt h1.next) (n/3) (by omega) (fun i e' g ⟨x,hi,t52,tj⟩=>?_) ⟨.refl y2.wf,uD _,s52,fun _ _=>rfl⟩
  have t9:=(tj 9 (by omega)).trans s9;have t51:=(tj 51 (by omega)).trans s51;by_cases hlt:i<n/3
  ·left
   obtain⟨e2,g2,r1,y,r2,r3⟩:=aZ (m:=m+1) x.wf (d.ext W (x2.trans x)) (Rt.ext W (x2.trans x)) hT (R1.ext x1.wf (y2.trans x)) (R9.ext y2.wf x) hn hz hlt t9 t51 t52;exact⟨hlt,e2,g2,r1,x.trans y,hlt,r2,fun j hj=>(r3 j hj).trans (tj j hj)⟩
  ·right
   have c1:iLt (i:Int) ((n/3:Nat):Int)=false:=Cv (by omega);obtain⟨e2,r1,r2⟩:∃ e2,RG (call AC (m+7)) e' g=.exit 1 e2 g/\∀ j,j=2\/j=8\/j=9\/j=10\/j=11->J j e2=J j e':=by
    unfold RG;simp only[sT,By,BY,reduceIte,AK,AJ,t52,t51,c1];refine⟨_,rfl,fun j hj=>?_⟩;rcases hj with rfl|rfl|rfl|rfl|rfl<;>simp only[AG,By,BY,reduceIte]
   rw[r1];exact⟨rfl,e2,g,rfl,x,((r2 10 (by omega)).trans (tj 10 (by omega))).trans s10,((r2 11 (by omega)).trans (tj 11 (by omega))).trans s11,((r2 2 (by omega)).trans (tj 2 (by omega))).trans s2,((r2 8 (by omega)).trans (tj 8 (by omega))).trans s8,((r2 9 (by omega)).trans (tj 9 (by omega))).trans s9⟩
 have k3:call AC (m+7) 74 [ABc,.func (.func 75) ⟨[]⟩ ⟨[]⟩] g2=.ok ABd g2:=bV (m:=m+1);have xm:=x3.marked;have Rm:=R1.ext x1.wf (y2.trans xm);have lb:=Dn (R9.ext y2.wf xm);have old:∀ (kk:C) (F:ABZ) (e:Env),I5 (pt h1.next) kk F e g2.marked=kk F e g2.marked:=fun kk F e=>Dm (by
  show h1.next<g2.next;have:=x3.next;omega)
 have q5:∀ e:Env,J 10 e=ABc->Aa .weak (AS 76 [J 10]) (call AC (m+7)) e g2.marked=.ok ABc (g2.marked.back g2.marked.quiet):=fun e he=>by
  refine Cp ?_ (.refl xm.wf.quiet) (If _);rw[BP,AU,A5,he];exact QI (m:=m+3)
 have y5:g2.marked.Ext (g2.marked.back g2.marked.quiet):=.back (.refl xm.wf.quiet);generalize g2.marked.back g2.marked.quiet=g6 at q5 y5;have x6:=xm.trans y5;have x06:=x2.trans x6;obtain⟨g7,k7,AFo,n7,_,fx7,ex7⟩:=MK (v:=ABc) x06.wf (R1.ext x1.wf (y2.trans x6)) (off:=3) (show 3<7 by omega) big rfl rfl;have x7:=ex7 h x06 (If _);have AFo:g7.Row h.next 0 (slL bd tb ABc ABc 0 false):=AFo;have nx6:=x6.next;have hbs:h.next<=h.next/\h.next<h1.next/\h1.next<h2.next:=⟨If _,by omega,by omega⟩;have p0:Z2 h g7 h.next h1.next h2.next bd tb 0 ABc:=⟨x7,AFo,fx7.row x06.wf (R9.ext y2.wf x6) (by omega),.inl ⟨rfl,rfl⟩,by omega⟩;obtain⟨e3,p3,u9,u11,u17,u18,AHn,AHo⟩:∃ e3,Vq (call AC (m+7)) e2 g2=pV (call AC (m+7)) e3 g7/\J 9 e3=pt h1.next/\J 11 e3=ABc/\J 17 e3=.func (.func 77) ⟨[]⟩ ⟨[pt h1.next]⟩/\J 18 e3=ABc/\J 102 e3=AI AT ((n / 3:Nat):Int)/\J 103 e3=AI AT ((0:Nat):Int):=by
  unfold Vq;simp only[sT,By,BY,reduceIte,cA0,t10,k3,Az,EG,t9,old,DU,AN,AQ,lb,q5,Au,Ai,AH,AO,sh];rw[k7 _ _ _ _ (by simp[AG]) (by simp[AG])];simp only[sT,By,BY,reduceIte,cA0,Dj,t9,t2,AGX,t8,Ji,dv];exact⟨_,rfl,by simp[AG,t9,t11]⟩
 obtain⟨e4,g8,fv,q8,o8,v9,v18⟩:∃ e' g fv,A4 RH (call AC (m+7)) e3 g7=.exit 4 e' g/\Z2 h g h.next h1.next h2.next bd tb (n/3) fv/\J 9 e'=pt h1.next/\J 18 e'=ABc:=by
  refine Bb (I:=fun i e' g=>∃ fv,Z2 h g h.next h1.next h2.next bd tb i fv/\i<=n/3/\J 103 e'=AI AT (i:Int)/\∀ j,j=9\/j=11\/j=17\/j=18\/j=102->J j e'=J j e3)
   (Q:=fun x=>∃ e' g fv,x=.exit 4 e' g/\Z2 h g h.next h1.next h2.next bd tb (n/3) fv/\J 9 e'=pt h1.next/\J 18 e'=ABc) (n/3) (by omega) (fun i e' g ⟨fv,o,hi,Xu,tj⟩=>?_) ⟨_,p0,uD _,AHo,fun _ _=>rfl⟩
  have bi:=(tj 102 (by omega)).trans AHn;by_cases hlt:i<n/3
  ·left
   obtain⟨e2,g2,fv2,r1,o2,r2,r3⟩:=aa (m:=m+1) W o hbs hn hlt ((tj 9 (by omega)).trans u9) ((tj 11 (by omega)).trans u11) ((tj 17 (by omega)).trans u17) bi Xu;exact⟨hlt,e2,g2,r1,fv2,o2,hlt,r2,fun j hj=>(r3 j hj).trans (tj j hj)⟩
  ·right
   obtain rfl:i=n/3:=by omega
   have c1:iLt ((n/3:Nat):Int) ((n/3:Nat):Int)=false:=Cv (by omega);obtain⟨e2,r1,r2,r3⟩:∃ e2,RH (call AC (m+7)) e' g=.exit 4 e2 g/\J 9 e2=J 9 e'/\J 18 e2=J 18 e':=by
    unfold RH;simp only[sT,By,BY,reduceIte,AK,AJ,Xu,bi,c1];exact⟨_,rfl,by simp[AG]⟩
   rw[r1];exact⟨rfl,e2,g,fv,rfl,o,(r2.trans (tj 9 (by omega))).trans u9,(r3.trans (tj 18 (by omega))).trans u18⟩
 have W8:=o8.x.wf;have lt:=d.lt W;have nD:∀ b,h.next<b->¬ (⟨h.next,bd,bm,bc,tb,n⟩:At).D b:=fun b hb=>by
  rintro (h1|h1|h1|h1)
  ·have h1:b=h.next:=h1
   omega
  ·have h1:b=bd:=h1
   omega
  ·have h1:b=bm:=h1
   omega
  ·have h1:b=bc:=h1
   omega
 have AH1:=Rt.lt W;have sl:Sl g8 ⟨h.next,bd,bm,bc,tb,n⟩ T M c0 arm [] (vG (n/3)) ABc fv 0 false:=by
  refine⟨o8.row,d.ext W o8.x,Rt.ext W o8.x,hT,.inl ⟨rfl,rfl⟩,fun k hk=>(by cases hk),?_,⟨by show h.next≠bd;omega,by show h.next≠bm;omega,by show h.next≠bc;omega,?_,big⟩,⟨uD _,by rw[yu];omega,by omega,fun p hp=>?_⟩⟩
  ·rcases o8.fs with h1'|⟨b,h1',h2',h3',_⟩
   ·exact .inl h1'
   ·exact .inr ⟨b,4,h1',h2',.inl rfl,nD b (by omega)⟩
  ·rintro (h1|h1|h1|h1)
   ·have h1:tb=h.next:=h1
    omega
   ·exact htb.1 h1
   ·exact htb.2.1 h1
   ·exact htb.2.2 h1
  ·have:=wI.1 hp
   show 3*p+3<=n;omega
 obtain⟨g9,c9,ADi,k9,f9,s9',a9⟩:=Kn (m:=m+1) (k:=k) W8 sl (ps:=[]) (pv:=ABc) (.inl ⟨rfl,rfl⟩) (fun p hp=>by cases hp) List.nodup_nil (uD _) (ha.le (by show 0+1+k<=k+60;omega));have lb8:=Dn o8.rb;have c0':iNe 0 0=false:=B5 rfl;have lb9:=Dn (f9.row W8 o8.rb (by
  rintro (q|q|q)
  ·have q:h1.next=bd:=q
   omega
  ·have q:h1.next=bm:=q
   omega
  ·have q:h1.next=bc:=q
   omega))
 have k9:call AC (m+7) 81 [pt h.next,ABc] g8=.ok (AI AT 0) g9:=k9;refine⟨g9,h.next,c9,ADi,fv,?_,(Fx.of o8.x).trans f9,s9',If _,a9⟩;rw[km rfl,nP,p1,gY];simp only[A9,An,q1,A8,A3];rw[gX,p3,gZ];simp only[A9,An,q8,A8,A3];unfold pT;simp only[sT,By,BY,reduceIte,AN,AQ,v9,lb8,cA0,v18,k9,AK,AJ,c0',lb9,Ay,CP]
end
end
noncomputable section
open Go
set_option maxRecDepth 100000
section
variable {h:Hp}{T:List Nat}{m k tb:Nat}
theorem Ta(W:h.Wf)(Rt:h.Row tb 0 (T.map wv))(hT:ACM T):
  ∃ h' bs bd bm bc nb,call AC (m+10) 9 [pt tb] h=.ok (.tuple ⟨[pt bd,pt nb,.bool true]⟩) h'/\h.Ext h'/\UpX (fun b=>b=nb) h' ⟨bs,bd,bm,bc,tb,24⟩ T [] [0,1,2,3,4,5,6,7] k/\h'.Row nb 0 (AB0 bd tb bs 0)/\(∀ b,At.D ⟨bs,bd,bm,bc,tb,24⟩ b->h.next<=b/\b<nb)/\h.next<=nb:=by
 obtain⟨h1,bd,bm,bc,k1,x1,d,l1,l2,l3⟩:=eT (m:=m+8) (n:=24) W (by omega);have htb:=Rt.lt W;have d:Dk h1 bd bm bc 24 Zx 0 [] (-1) false:=d;have md:Med T Zx [] [0,1,2,3,4,5,6,7]:=rE;obtain⟨h2,bs,c1,AB7,fv,k2,f2,s2,l4,ha⟩:=aU (m:=m) (k:=k) x1.wf d (Rt.ext W x1) hT rfl (fun p hp=>ZK (T:=T) md.len (show 3*p<3*8 by omega) (md.bl p (wI.2 hp))) ⟨by omega,by omega,by omega⟩ (sx _);have s2:Sl h2 ⟨bs,bd,bm,bc,tb,24⟩ T Zx c1 AB7 [] [0,1,2,3,4,5,6,7] ABc fv 0 false:=s2;have k2:call AC (m+8) 47 [pt bd,pt tb,AI AT 100] h1=.ok (.tuple ⟨[pt bs,AI AT 0]⟩) h2:=k2;have k1:call AC (m+9) 30 [AI AT 24] h=.ok (.tuple ⟨[pt bd,AI AT 0]⟩) h1:=k1;have x2:h.Ext h2:=Fx.AHd x1 f2 fun b hb=>by rcases hb with rfl|rfl|rfl<;>assumption
 have W2:=x2.wf;have hn1:=x1.next;have c0:iEq 0 0=true:=CU rfl;have c00:iNe 0 0=false:=B5 rfl;have y3:=(Hp.Ext.refl W2).ABY 0 (AB0 bd tb bs 0);have R3:=Hp.Row.new W2 0 (AB0 bd tb bs 0);have k3:call AC (m+9) 21 [pt bd,pt tb,AI AT 100] h1=.ok (.tuple ⟨[pt h2.next,AI AT 0]⟩) (h2.ABY 0 (AB0 bd tb bs 0)):=by
  have bn:=fun (F:ABZ) (e:Env) (e1:J 0 e=pt bd) (e2:J 1 e=pt tb) (e3:J 8 e=pt bs)=>kC (F:=F) (h:=h2) e1 e2 e3
  have bx:=fun (F:ABZ) (e:Env) (he:J 23 e=.agg ⟨AB0 bd tb bs 0⟩)=>(show CW (J 23) F e h2=.ok (pt h2.next) (h2.ABY 0 (AB0 bd tb bs 0))by rw[Dx,he,Dt W2];rfl)
  rw[kO rfl];unfold d21;simp only[iN,IT,sT,By,BY,reduceIte,cA0,k2,Ao,Ax,A2,AK,AJ,c00,bn,bx,Ay,CP]
 have D2:=s2.AD7 W2;have s3:=s2.ext W2 y3;refine⟨_,bs,bd,bm,bc,h2.next,?_,x2.trans y3,⟨⟨Zx,c1,AB7,ABc,fv,s3,tC,rE,fun x hx=>(by cases hx),ha⟩,fun x hx=>(by cases hx)⟩,R3,fun b hb=>⟨?_,D2 b hb⟩,x2.next⟩
 ·rw[qr rfl]
  unfold d9;simp only[iN,IT,sT,By,BY,reduceIte,gD,cA0,k1,Ao,Ax,A2,k3,AK,AJ,c0,Ay,EV]
 ·rcases hb with h1|h1|h1|h1<;>rw[h1]
  ·exact uO hn1 l4
  ·exact l1
  ·exact l2
  ·exact l3
end
end
end Go.Proofs.YtbjadbhkogcfeaaGreat
