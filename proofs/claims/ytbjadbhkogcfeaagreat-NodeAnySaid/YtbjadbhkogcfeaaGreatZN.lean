/-
  Part ZN of what Lawan stands on: printed by program, names and spaces cut.
-/
import Derived.Test.YtbjadbhkogcfeaaGreatZM
open Go.Value renaming int→AI
open Go.IntKind renaming i64→AT
open Nat renaming reduceEqDiff→BY,reduceLT→By,reduceAdd→IT,le_refl→If,zero_add→sh,zero_le→uD,le_trans→uO,eq_zero_or_pos→ug,add_zero→vS,lt_irrefl→yr
open Go renaming Value→IN
open List renaming length_append→No,length_map→OF,length_cons→tZ,mem_cons_of_mem→td,mem_cons_self→te,mem_of_getElem?→tq,mem_cons→uA,append_assoc→uC,mem_singleton→uF,append_nil→uH,length_take→uL,mem_append→uP,mem_append_right→uY,length_drop→ua,map_append→ud,mem_append_left→uf,drop_zero→uv,drop_of_length_le→vC,take_length→vF,range→vG,eq_nil_of_length_eq_zero→vJ,take_append_drop→va,map_eq_nil_iff→yE
open Bool renaming not_true→uX
open Int renaming sub→uZ,ofNat→vW
set_option linter.unusedVariables false
set_option linter.unusedSimpArgs false
namespace Go.Proofs.YtbjadbhkogcfeaaGreat
noncomputable section
open Go
set_option maxRecDepth 100000
theorem WH{α:Type}(P:List α):P=[]\/∃ P' y,P=P'++[y]:=by
 rcases h:P.reverse with _|⟨y,r⟩
 ·exact .inl (List.reverse_eq_nil_iff.1 h)
 ·refine .inr ⟨r.reverse,y,?_⟩
  rw[<- List.reverse_reverse P,h,List.reverse_cons]
section
variable {e:Env}{h h':Hp}{bl n c m:Nat}{ks:List Kt}{Z:List IN}
theorem Zg(W:h.Wf){A B:List Kt}{x:Kt}(Rw:h.Row bl 124 (flK (A++x::B)++Z))(ABj:256<=bl)(hn:n=(A++x::B).length)(hc:n<=c)(hl:n<=1000)(hu:∀ k∈A++x::B,oneCell k.u=true)
  (s0:J 0 e=.slice (some ⟨bl,0,none⟩) n c)(s1:J 1 e=AI AT 0)(s3:J 3 e=.func (.func 75) ⟨[]⟩ ⟨[]⟩)(s9:J 9 e=AI AT (A.length:Int)):
  ∃ e' h',A4 jnB (call AC (m+3)) e h=.exit 2 e' h'/\Fx (fun b=>b=bl) h h'/\h'.Row bl 124 (flK (Io A x++B)++Z)/\∀ j,j=0\/j=1\/j=2\/j=3\/j=8->J j e'=J j e:=by
 have hln:(A++x::B).length=A.length+1+B.length:=by rw[No,tZ];omega
 refine Bb (I:=fun i e' g=>∃ P Q,A=P++Q/\P.length+i=A.length/\Fx (fun b=>b=bl) h g/\g.Row bl 124 (flK (P++x::(Q++B))++Z)/\(∀ y∈Q,Ki x y<0)/\J 9 e'=AI AT (P.length:Int)/\∀ j,j=0\/j=1\/j=2\/j=3\/j=8->J j e'=J j e)
  (Q:=fun r=>∃ e' h',r=.exit 2 e' h'/\Fx (fun b=>b=bl) h h'/\h'.Row bl 124 (flK (Io A x++B)++Z)/\∀ j,j=0\/j=1\/j=2\/j=3\/j=8->J j e'=J j e) (A.length+1) (by omega) (fun i e' g ⟨P,Q,hA,hP,fx,R,hQ,t9,ts⟩=>?_) ⟨A,[],by rw[uH],rfl,.refl W,Rw,fun y hy=>(by cases hy),s9,fun _ _=>rfl⟩
 have W':=fx.wf;have t0:=(ts 0 (by omega)).trans s0;have t1:=(ts 1 (by omega)).trans s1;have t3:=(ts 3 (by omega)).trans s3;rcases WH P with rfl|⟨P',y,rfl⟩
 ·right
  have c1:iGt ((([]:List Kt).length:Nat):Int) 0=false:=E4 (by decide);have hrun:∃ e2,jnB (call AC (m+3)) e' g=.exit 2 e2 g.marked/\∀ j,j=0\/j=1\/j=2\/j=3\/j=8->J j e2=J j e':=by
   rw[TA];unfold Zk;simp only[sT,By,BY,reduceIte,gD,Az,AK,AJ,t9,t1,c1];refine⟨_,rfl,fun j hj=>?_⟩;rcases hj with rfl|rfl|rfl|rfl|rfl<;>simp only[AG,By,BY,reduceIte]
  obtain⟨e2,r1,r2⟩:=hrun;rw[r1];refine⟨rfl,e2,_,rfl,fx.same rfl rfl,?_,fun j hj=>(r2 j hj).trans (ts j hj)⟩;have:=VN (x:=x) (P:=[]) (Q:=Q) hQ (.inl rfl);rw[hA,this];have e5:([]++x::Q)++B=[]++x::(Q++B):=rfl;rw[e5];exact R.same rfl
 ·have lP:(P'++[y]).length=P'.length+1:=by simp
  rw[lP]at hP t9;have lA:A.length=P'.length+1+Q.length:=by rw[hA,No,lP]
  have eR:(P'++[y])++x::(Q++B)=P'++y::x::(Q++B):=by simp
  rw[eR]at R;have lL:(P'++y::x::(Q++B)).length=n:=by
   rw[hn,hln,lA];simp only[No,tZ];omega
  have ux:oneCell x.u=true:=hu x (uY _ te);have uy:oneCell y.u=true:=hu y (uf _ (by rw[hA];exact uf _ (uY _ te)));have K:=Pc (n:=n) (c:=c) (R.same (h':=g.marked) rfl) lL.symm (by omega);obtain⟨b,hb,ix,ld,_⟩:=K.at (i:=P'.length+1) (k:=x) Jg;obtain⟨b',hb',iy,ldy,_⟩:=K.at (i:=P'.length) (k:=y) F7;have c1:iGt ((P'.length+1:Nat):Int) 0=true:=Fc (by omega);have a1:∀ g:Hp,FX uZ .i64 (AI AT ((P'.length+1:Nat):Int)) (AI AT 1) g=.ok (AI AT (P'.length:Int)) g:=fun g=>by
   have:uZ ((P'.length+1:Nat):Int) 1=(P'.length:Int):=by
    show((P'.length+1:Nat):Int) - 1=_;omega
   rw[Ce,this,Bc (by omega)]
  obtain⟨h2,k2,x2⟩:=pW (m:=m) W'.marked.quiet x y;have q2:∀ e:Env,J 22 e=.func (.func 75) ⟨[]⟩ ⟨[]⟩->J 26 e=ktV x->J 31 e=ktV y->Aa .free (C9 (J 22) [J 26,J 31]) (call AC (m+3)) e g.marked=.ok (AI AT (Ki x y)) (g.marked.back h2):=fun e e1 e2 e3=>by
   refine BF ?_;rw[Ck,AU,AU,A5,e1,e2,e3];exact k2
  have y2:g.Ext (g.marked.back h2):=(Hp.Ext.refl W').marked.trans (.back x2);generalize g.marked.back h2=h3 at q2 y2;have R3:=R.ext W' y2;by_cases hc:Ki x y<0
  ·left
   have c2:iLt (Ki x y) 0=true:=HZ hc;have sw:∀ e2:Env,J 0 e2=.slice (some ⟨bl,0,none⟩) n c->J 9 e2=AI AT ((P'.length+1:Nat):Int)->∃ e3 h4,swB (call AC (m+3)) e2 h3=.norm e3 h4/\Fx (fun b=>b=bl) h3 h4/\h4.Row bl 124 (flK (P'++x::y::(Q++B))++Z)/\∀ j,j=0\/j=1\/j=2\/j=3\/j=8\/j=9->J j e3=J j e2:=fun e2 a b=>iI y2.wf rfl R3 ABj lL.symm (by omega) (by omega) ux uy a b
   have hrun:∃ e3 h4,jnB (call AC (m+3)) e' g=.norm e3 h4/\Fx (fun b=>b=bl) h3 h4/\h4.Row bl 124 (flK (P'++x::y::(Q++B))++Z)/\J 9 e3=AI AT (P'.length:Int)/\∀ j,j=0\/j=1\/j=2\/j=3\/j=8->J j e3=J j e':=by
    rw[TA];unfold Zk;simp only[sT,By,BY,reduceIte,gD,Az,AK,AJ,t9,t1,c1,t3,t0,BA,ix,Ap,Aj,ld,Bz,a1,iy,ldy,q2,c2,A9,An];obtain⟨e3,h4,r1,f4,R4,r2⟩:=sw (Env.set 34 (.bool true) (Env.set 33 (.bool true) (Env.set 32 (AI AT (Ki x y)) (Env.set 31 (ktV y) (Env.set 30 (.pointer (some ⟨b',6*P'.length,none⟩)) (Env.set 29 (AI AT (P'.length:Int)) (Env.set 28 (AI AT ((P'.length+1:Nat):Int)) (Env.set 27 (.slice (some ⟨bl,0,none⟩) n c) (Env.set 26 (ktV x) (Env.set 25 (.pointer (some ⟨b,6*(P'.length+1),none⟩)) (Env.set 24 (AI AT ((P'.length+1:Nat):Int)) (Env.set 23 (.slice (some ⟨bl,0,none⟩) n c) (Env.set 22 (.func (.func 75) ⟨[]⟩ ⟨[]⟩) (Env.set 20 (.bool true) e')))))))))))))) (by simp[AG,t0]) (by simp[AG,t9]);have u9:J 9 e3=AI AT ((P'.length+1:Nat):Int):=(r2 9 (by omega)).trans (by simp[AG,t9]);rw[r1];simp only[Bt,A3,sT,By,BY,reduceIte,Bz,u9,a1];refine⟨_,_,rfl,f4,R4,by simp[AG],fun j hj=>?_⟩;have:=r2 j (by omega);rcases hj with rfl|rfl|rfl|rfl|rfl<;>simp only[AG,By,BY,reduceIte]at this ⊢<;>exact this
   obtain⟨e3,h4,r1,f4,R4,r9,r2⟩:=hrun;refine⟨by omega,e3,h4,r1,P',y::Q,by rw[hA];simp,by omega,(fx.trans (.of y2)).trans f4,R4,fun z hz=>?_,r9,fun j hj=>(r2 j hj).trans (ts j hj)⟩;rcases uA.1 hz with rfl|hz
   ·exact hc
   ·exact hQ z hz
  ·right
   have c2:iLt (Ki x y) 0=false:=E5 (by omega);have hrun:∃ e3,jnB (call AC (m+3)) e' g=.exit 2 e3 h3/\∀ j,j=0\/j=1\/j=2\/j=3\/j=8->J j e3=J j e':=by
    rw[TA];unfold Zk;simp only[sT,By,BY,reduceIte,gD,Az,AK,AJ,t9,t1,c1,t3,t0,BA,ix,Ap,Aj,ld,Bz,a1,iy,ldy,q2,c2];refine⟨_,rfl,fun j hj=>?_⟩;rcases hj with rfl|rfl|rfl|rfl|rfl<;>simp only[AG,By,BY,reduceIte]
   obtain⟨e3,r1,r2⟩:=hrun;rw[r1];refine⟨rfl,e3,h3,rfl,fx.trans (.of y2),?_,fun j hj=>(r2 j hj).trans (ts j hj)⟩;rw[hA,VN hQ (.inr ⟨P',y,rfl,hc⟩),uC,uC];exact R3
theorem aX(W:h.Wf){ks:List Kt}(Rw:h.Row bl 124 (flK ks++Z))(ABj:256<=bl)(hn:n=ks.length)(hc:n<=c)(hl:n<=1000)(hu:∀ k∈ks,oneCell k.u=true):
  ∃ h',call AC (m+4) 136 [.slice (some ⟨bl,0,none⟩) n c,AI AT 0,AI AT (n:Int),.func (.func 75) ⟨[]⟩ ⟨[]⟩] h=.ok ABd h'/\Fx (fun b=>b=bl) h h'/\h'.Row bl 124 (flK (srt (ks.take 1) (ks.drop 1))++Z):=by
 have run:∀ e1:Env,J 0 e1=.slice (some ⟨bl,0,none⟩) n c->J 1 e1=AI AT 0->J 2 e1=AI AT (n:Int)->J 3 e1=.func (.func 75) ⟨[]⟩ ⟨[]⟩->J 8 e1=AI AT ((1:Nat):Int)->∃ e' h',A4 jsB (call AC (m+3)) e1 h=.exit 0 e' h'/\Fx (fun b=>b=bl) h h'/\h'.Row bl 124 (flK (srt (ks.take 1) (ks.drop 1))++Z):=fun e1 s0 s1 s2 s3 s8=>by
  refine Bb (I:=fun i e' g=>∃ A B,A.length+B.length=ks.length/\(A.length=i+1\/(B=[]/\A.length<=i+1))/\srt A B=srt (ks.take 1) (ks.drop 1)/\(∀ k∈A++B,oneCell k.u=true)/\Fx (fun b=>b=bl) h g/\g.Row bl 124 (flK (A++B)++Z)/\J 0 e'=.slice (some ⟨bl,0,none⟩) n c/\J 1 e'=AI AT 0/\J 2 e'=AI AT (n:Int)/\J 3 e'=.func (.func 75) ⟨[]⟩ ⟨[]⟩/\J 8 e'=AI AT ((i+1:Nat):Int))
   (Q:=fun x=>∃ e' h',x=.exit 0 e' h'/\Fx (fun b=>b=bl) h h'/\h'.Row bl 124 (flK (srt (ks.take 1) (ks.drop 1))++Z)) n (by omega) (fun i e' g ⟨A,B,hAB,hAi,hsr,hu',fx,R,t0,t1,t2,t3,t8⟩=>?_) ⟨ks.take 1,ks.drop 1,by rw[uL,ua];omega,?_,rfl,by rw[va];exact hu,.refl W,by rw[va];exact Rw,s0,s1,s2,s3,s8⟩
  ·have W':=fx.wf
   cases B with
   |nil=>
    right;have hA:A.length=n:=by simp only[List.length_nil]at hAB;omega
    have c1:iLt ((i+1:Nat):Int) (n:Int)=false:=Cv (by omega);have hrun:∃ e3,jsB (call AC (m+3)) e' g=.exit 0 e3 g:=by
     rw[TB];unfold Zl;simp only[sT,By,BY,reduceIte,AK,AJ,t8,t2,c1];exact⟨_,rfl⟩
    obtain⟨e3,r1⟩:=hrun;rw[r1];refine⟨rfl,e3,g,rfl,fx,?_⟩;rw[<- hsr];rw[uH]at R;exact R
   |cons x B=>
    left;rw[tZ]at hAB;have hA:A.length=i+1:=by
     rcases hAi with h1|⟨h1,_⟩
     ·exact h1
     ·cases h1
    have c1:iLt ((i+1:Nat):Int) (n:Int)=true:=EP (by omega);obtain⟨e2,h2,i1,f2,R2,i2⟩:=Zg (m:=m) (e:=Env.set 9 (AI AT ((i+1:Nat):Int)) (Env.set 14 (.bool true) e')) W' R ABj (by rw[No,tZ];omega) hc hl hu' (by simp[AG,t0]) (by simp[AG,t1]) (by simp[AG,t3]) (by simp only[AG,By,BY,reduceIte,hA]);have g0:=i2 0 (by omega);have g1:=i2 1 (by omega);have g2:=i2 2 (by omega);have g3:=i2 3 (by omega);have g8:=i2 8 (by omega);simp only[AG,By,BY,reduceIte,t0]at g0;simp only[AG,By,BY,reduceIte,t1]at g1;simp only[AG,By,BY,reduceIte,t2]at g2;simp only[AG,By,BY,reduceIte,t3]at g3;simp only[AG,By,BY,reduceIte,t8]at g8;have a3:Fs .i64 (AI AT ((i+1:Nat):Int)) (AI AT 1) h2=.ok (AI AT ((i+1+1:Nat):Int)) h2:=Cd (by omega);have hrun:∃ e3,jsB (call AC (m+3)) e' g=.norm e3 h2/\J 0 e3=.slice (some ⟨bl,0,none⟩) n c/\J 1 e3=AI AT 0/\J 2 e3=AI AT (n:Int)/\J 3 e3=.func (.func 75) ⟨[]⟩ ⟨[]⟩/\J 8 e3=AI AT ((i+1+1:Nat):Int):=by
     rw[TB];unfold Zl;simp only[sT,By,BY,reduceIte,AK,AJ,t8,t2,c1,i1,g8,BR,a3];exact⟨_,rfl,by simp[AG,g0,g1,g2,g3]⟩
    obtain⟨e3,r1,r2,r3,r4,r5,r6⟩:=hrun;refine⟨by omega,e3,h2,r1,Io A x,B,by rw[MT];omega,.inl (by rw[MT];omega),hsr,fun k hk=>?_,fx.trans f2,R2,r2,r3,r4,r5,r6⟩;rcases uP.1 hk with h1|h1
    ·rcases Qn.1 h1 with rfl|h1
     ·exact hu' _ (uY _ te)
     ·exact hu' k (uf _ h1)
    ·exact hu' k (uY _ (td _ h1))
  ·cases ks with
   |nil=>exact .inr ⟨rfl,uD _⟩
   |cons k ks=>exact .inl rfl
 have a1:Fs .i64 (AI AT 0) (AI AT 1) h=.ok (AI AT ((1:Nat):Int)) h:=Cd (i:=0) (by omega);obtain⟨e2,h2,r1,x2⟩:=run (Env.set 8 (AI AT ((1:Nat):Int)) (Env.set 11 (AI AT ((1:Nat):Int)) (As e0 0 [.slice (some ⟨bl,0,none⟩) n c,AI AT 0,AI AT (n:Int),.func (.func 75) ⟨[]⟩ ⟨[]⟩]))) (by simp only[iN,IT,AG,By,BY,reduceIte]) (by simp only[iN,IT,AG,By,BY,reduceIte]) (by simp only[iN,IT,AG,By,BY,reduceIte]) (by simp only[iN,IT,AG,By,BY,reduceIte]) (by simp[AG]);simp only[iN,IT]at r1;refine⟨h2,?_,x2⟩;rw[UT rfl,Um];unfold Un;simp only[iN,IT,sT,By,BY,reduceIte,BR,a1,r1,Eo,EU]
def GB(ks:List Kt):List Kt:=srt (ks.take 1) (ks.drop 1)
theorem bX(W:h.Wf){ks:List Kt}(Rw:h.Row bl 124 (flK ks++Z))(ABj:256<=bl)(hn:n=ks.length)(hc:n<=c)(hl:n<=12)(hu:∀ k∈ks,oneCell k.u=true):
  ∃ h',call AC (m+6) 74 [.slice (some ⟨bl,0,none⟩) n c,.func (.func 75) ⟨[]⟩ ⟨[]⟩] h=.ok ABd h'/\Fx (fun b=>b=bl) h h'/\h'.Row bl 124 (flK (GB ks)++Z):=by
 obtain⟨h2,k2,x2,R2⟩:=aX (m:=m) W Rw ABj hn hc (by omega) hu;obtain⟨k,kb⟩:=Oh (m:=m+3) (h:=h) (n:=n) (by omega);have cv:C3 .u64 (AI AT (n:Int)) h=.ok (.int .u64 (n:Int)) h:=by rw[B4,DG (by omega)]
 have a1:FX uZ .i64 (AI AT (n:Int)) (AI AT 0) h=.ok (AI AT (n:Int)) h:=by
  have:uZ (n:Int) 0=(n:Int):=Int.sub_zero _;rw[Ce,this,Bc (by omega)]
 have c1:iLe (n:Int) 12=true:=GW (by omega);have pd:call AC (m+5) 114 [.slice (some ⟨bl,0,none⟩) n c,AI AT 0,AI AT (n:Int),AI AT (k:Int),.func (.func 75) ⟨[]⟩ ⟨[]⟩] h=.ok ABd h2:=by
  have hb:∃ e2,pdB (call AC (m+4)) (Env.set 11 (.bool true) (Env.set 10 (.bool true) (As e0 0 [.slice (some ⟨bl,0,none⟩) n c,AI AT 0,AI AT (n:Int),AI AT (k:Int),.func (.func 75) ⟨[]⟩ ⟨[]⟩]))) h=.ret e2 h2:=by
   rw[ai];unfold gh;simp only[iN,IT,sT,By,BY,reduceIte,Bz,a1,AK,AJ,c1,cA0,k2];exact⟨_,rfl⟩
  obtain⟨e2,r1⟩:=hb;have r1:=Mb r1;simp only[iN,IT]at r1;rw[UQ rfl,Ub];unfold Uc;simp only[iN,IT,sT,By,BY,reduceIte,r1,Ay,EU]
 refine⟨h2,?_,x2,R2⟩;rw[Yb rfl];unfold d74;simp only[iN,IT,sT,By,BY,reduceIte,AX,EC,Bl,cv,cA0,kb,pd,Eo,EU]
end
end
noncomputable section
open Go
set_option maxRecDepth 100000
theorem au:prB=gm:=rfl
theorem Ik:d58=NR:=rfl
section
variable {F:ABZ}{e:Env}{h h' h0:Hp}{S:Nat->Prop}{A:At}{T M:List Nat}{c0 bad m k p:Nat}{arm:Int}{ks:List Kt}{fr:List Nat}{v lv fv:IN}{ov:Bool}
def VcI(h:Hp)(k:Nat)(v:IN)(l:List Nat):Prop:=(v=ABc/\l=[])\/Mk h k v l
theorem VcI.vals{k:Nat}{v:IN}{l:List Nat}(o:VcI h k v l):h.ABy v (l.map bv):=by
 rcases o with ⟨h1,h2⟩|o
 ·exact .inl ⟨h1,by rw[h2];rfl⟩
 ·exact o.vals
theorem VcI.ext{k:Nat}{v:IN}{l:List Nat}(o:VcI h k v l)(W:h.Wf)(x:h.Ext h'):VcI h' k v l:=by
 rcases o with o|o
 ·exact .inl o
 ·exact .inr (o.ext W x)
theorem VcI.same{k:Nat}{v:IN}{l:List Nat}(o:VcI h k v l)(hb:h'.bl=h.bl):VcI h' k v l:=by
 rcases o with o|o
 ·exact .inl o
 ·exact .inr (o.same hb)
theorem VcI.one{k:Nat}{v:IN}{l:List Nat}(o:VcI h k v l):cellsOf v=[v]/\oneCell v=true/\known v=true:=by
 rcases o with ⟨h1,_⟩|⟨b,el,h1,_⟩<;>rw[h1]<;>exact⟨rfl,rfl,rfl⟩
def Hp.VE(h:Hp)(u:IN)(xs:List IN):Prop:=h.ABy u xs\/((∃ r,u=.chan (some r))/\xs=[])
theorem Hp.VE.bl{u:IN}{l:List Nat}(V:h.VE u (l.map bv))(g:Hp):AB2 u g=.ok (AI AT (l.length:Int)) g:=by
 rcases V with V|⟨⟨r,rfl⟩,h2⟩
 ·exact V.bl g
 ·rw[yE.1 h2];rfl
theorem Hp.VE.ext{u:IN}{xs:List IN}(V:h.VE u xs)(W:h.Wf)(x:h.Ext h'):h'.VE u xs:=V.imp (fun V=>V.ext W x) id
theorem Hp.VE.same{u:IN}{xs:List IN}(V:h.VE u xs)(hb:h'.bl=h.bl):h'.VE u xs:=V.imp (fun V=>V.same hb) id
theorem Hp.VE.vals{u:IN}{xs:List IN}(V:h.VE u xs)(hl:0<xs.length):h.ABy u xs:=by
 rcases V with V|⟨_,h2⟩
 ·exact V
 ·rw[h2]at hl;cases hl
theorem Ni{n:Nat}(W:h.Wf){u:IN}{l:List Nat}(V:h.VE u (l.map bv))(hl:l.length<=900000):∃ h' v,call AC (n+1) 93 [u] h=.ok v h'/\h.Ext h'/\VcI h' h.next v l:=by
 rcases V with V|⟨⟨r,rfl⟩,h2⟩
 case inr=>
  obtain rfl:=yE.1 h2;have x1:=(Hp.Ext.refl W).ABY 0 [];have R:=Hp.Row.new W 0 [];have es:=fun (e:Env) (t:List IN)=>KI (F:=call AC n) (e:=e) (t:=t) W
  generalize h.ABY 0 []=g at x1 R es;have ne:∀ e:Env,J 0 e=.chan (some r)->oEq Ht.k false (J 0) (kV (.slice none 0 0)) (call AC n) e h=.ok (.bool false) h:=fun e he=>by
   rw[cC];show(match eqV (.slice 5) (J 0 e) (.slice none 0 0)with|some r=>okB (false != r) h|none=>.no)=_;rw[he];exact Ff
  have big:=W.big;have ap:DN 1 1 5 (.slice (some ⟨h.next,0,none⟩) 0 0) (.chan (some r)) g=.ok (.slice (some ⟨h.next,0,none⟩) 0 0) (g.wr h.next 0 []):=Hh x1.wf big R (fun k=>rfl) rfl;have R2:=R.ABl x1.wf (off:=0) (vs:=[]) (If _);refine⟨_,.slice (some ⟨h.next,0,none⟩) 0 0,?_,R.AB3 x1 (If _) (off:=0) (vs:=[]) (If _),.inr ⟨h.next,0,rfl,.inl rfl,R2,If _⟩⟩;rw[Ig rfl];unfold d93;simp only[iN,IT,sT,By,BY,reduceIte,ne,es,BZ,ap,lV0]
 have V0:=V;rcases V with ⟨rfl,h2⟩|⟨b,off,c,el,L,h1,_⟩
 ·have ne:∀ e:Env,J 0 e=.slice none 0 0->oEq Ht.k false (J 0) (kV (.slice none 0 0)) (call AC n) e h=.ok (.bool true) h:=fun e he=>Jf (t:=0) cC he
  refine⟨h,ABc,?_,.refl W,.inl ⟨rfl,yE.1 h2⟩⟩;rw[Ig rfl];unfold d93;simp only[iN,IT,sT,By,BY,reduceIte,ne,lV0]
 ·rw[OF]at h1
  rw[h1]at V0 ⊢;obtain⟨h',v,a,b,c⟩:=L8 (n:=n) W V0 hl;exact⟨h',v,a,b,.inr c⟩
theorem Hp.KN.same{k:Nat}{v:IN}{ks:List Kt}(o:h.KN k v ks)(hb:h'.bl=h.bl):h'.KN k v ks:=by
 rcases o with o|⟨h1,b,h2,h3,h4⟩
 ·exact .inl (o.same hb)
 ·exact .inr ⟨h1,b,h2,h3.same hb,h4⟩
theorem fH(x0:h0.Ext h)(hk:h0.next<=k)(hk2:k<=h.next)(o:h.KN k v ks){x:Kt}(hu:oneCell x.u=true)(hl:ks.length<=100000):
  ∃ h' v',DN 6 64 123 v (.slice (some ⟨h.next,0,none⟩) 1 1) (h.ABY 0 (Af x))=.ok v' h'/\h0.Ext h'/\h'.KO k v' (ks++[x])/\h.next<=h'.next:=by
 rcases o with o|⟨rfl,b,rfl,r,hb,ABj⟩
 ·obtain⟨h',v',a1,a2,a3,a4,_⟩:=o7 x0 hk hk2 o hu hl
  exact⟨h',v',a1,a2,a3,a4⟩
 ·have W:=x0.wf
  have x1:=x0.ABY 0 (Af x);have y1:=(Hp.Ext.refl W).ABY 0 (Af x);have Rw:=Hp.Row.new W 0 (Af x);have n1:(h.ABY 0 (Af x)).next=h.next+1:=rfl;have r1:=r.ext W y1;generalize h.ABY 0 (Af x)=h1 at x1 y1 Rw n1 r1;have hs:∀ K:List IN->R,BI h1 6 (.slice (some ⟨h.next,0,none⟩) 1 1) 1 K=K (Af x):=fun K=>Rw.ADZ (es:=6) (off:=0) (n:=1) (by show 0+1 * 6<=6;omega)
  obtain⟨h5,a1,a2,a3,a4,_⟩:=En (eb:=64) (en:=123) x1 r1 hs rfl rfl (by omega) (Gq hu) (by omega);refine⟨h5,_,a1,a2,.inr ⟨h1.next,rfl,?_,by omega,by have:=W.big;omega⟩,by omega⟩;show h5.Row h1.next 124 (Af x++[]);rw[uH];exact a3
theorem Fx.fresh{S:Nat->Prop}{h h1 h2:Hp}{b:Nat}(a:Fx S h h1)(x:Fx (fun i=>i=b) h1 h2)(hb:h.next<=b):Fx S h h2:=
 ⟨uO a.next x.next,fun i hi hs=>by
  have:=a.next;rw[x.get i (by omega) (by omega),a.get i hi hs],x.wf,fun L q1 q2 q3=>x.low L (a.low L q1 q2 q3) (uO q2 a.next) fun i hi=>by rw[hi];omega⟩
theorem WL{z:Kt}:∀ {B A:List Kt},z∈srt A B↔z∈A\/z∈B
 |[],A=>by simp[srt]
 |x::B,A=>by
  show z∈srt (Io A x) B↔_;rw[WL,Qn,uA];constructor
  ·rintro ((h|h)|h)
   ·exact .inr (.inl h)
   ·exact .inl h
   ·exact .inr (.inr h)
  ·rintro (h|h|h)
   ·exact .inl (.inr h)
   ·exact .inl (.inl h)
   ·exact .inr h
theorem WK:∀ (B A:List Kt),(srt A B).length=A.length+B.length
 |[],A=>rfl
 |x::B,A=>by
  show(srt (Io A x) B).length=_;rw[WK,MT,tZ];omega
theorem Km{z:Kt}{ks:List Kt}:z∈GB ks↔z∈ks:=by
 unfold GB;rw[WL,<- uP,va]
theorem OT(ks:List Kt):(GB ks).length=ks.length:=by
 unfold GB;rw[WK,uL,ua];omega
theorem Sl.lst{ks':List Kt}{bl:Nat}{L0:List IN}(s:Sl h A T M c0 arm ks fr lv fv bad ov)(W:h.Wf)(x:Fx (fun b=>b=bl) h h')(nbl:¬ A.D bl)(Rl:h.Row bl 124 L0)(ls:h'.KS (fun b=>¬ A.D b) lv ks')(hm:∀ k∈ks',k∈ks)(hn:ks'.length=ks.length):Sl h' A T M c0 arm ks' fr lv fv bad ov:=by
 have kp:∀ b el L,b≠bl->h.Row b el L->h'.Row b el L:=fun b el L hb r=>x.row W r hb
 have nb:∀ b el L,(el=0\/el=6\/el=4)->h.Row b el L->b≠bl:=fun b el L he r=>FJ r Rl (by omega)
 refine⟨kp _ _ _ (nb _ _ _ (.inl rfl) s.row) s.row,s.dk.fr W x (nb _ _ _ (.inl rfl) s.dk.disk) (nb _ _ _ (.inl rfl) s.dk.med) (fun h=>(Jo Rl s.dk.map) h.symm),kp _ _ _ (nb _ _ _ (.inl rfl) s.tab) s.tab,s.tok,ls,fun y hy=>⟨(s.ko y (hm y hy)).1.keep fun b el L hb he r=>kp b el L (nb b el L (by omega) r) r,(s.ko y (hm y hy)).2⟩,?_,s.ne,by rw[hn];exact s.le⟩;rcases s.fs with h1|⟨b,el,h1,h2,h3,h4⟩
 ·exact .inl h1
 ·exact .inr ⟨b,el,h1,kp _ _ _ (nb b el _ (by omega) h2) h2,h3,h4⟩
theorem ay(W:h.Wf)(s:Sl h A T M c0 arm ks (p::fr) lv fv bad false){a b c:Int}{l:List Nat}{u:IN}(V:h.VE u (l.map bv))(hb:∀ x∈l,x<256)(hl:l.length<=100)
  (hr:ABp a b c 1 l.length=true)(hf:ks.any (Bp a b c)=false)(hst:Cc a b c ks=false)(hkl:ks.length<=10)(ha:CI arm (k+10)):
  ∃ h' c1 AB7 lv' fv' k',call AC (m+8) 58 [pt A.bs,AI AT a,AI AT b,AI AT c,u] h=.ok (AI AT 0) h'/\Fx A.D h h'/\
   Sl h' A T (EA T M p l (AB1 T a b c 1 l)) c1 AB7 (GB (ks++[k'])) fr lv' fv' bad false/\k'.core=⟨a,b,c,1,l,p⟩/\CI AB7 k/\∀ b,ABw k'.u b->h.next<=b:=by
 have big:=W.big;have hD:=s.AD7 W;have hp3:3*p+3<=A.n:=s.le.2.2.2 p te;have hn:=s.dk.n1;have hH:=GV (T:=T) hr;have hHb:=MP (T:=T) (a:=a) (b:=b) (c:=c) (s:=1) (l:=l);have c00:iNe 0 0=false:=B5 rfl;have k0:=NO (m:=m+6) s.row;obtain⟨h1,vc,k1,x1,mk1⟩:=Ni (n:=m+6) W V (by omega);have oc:=mk1.one;have bl:=fun (F:ABZ) (e:Env) (e1:J 1 e=AI AT a) (e2:J 2 e=AI AT b) (e3:J 3 e=AI AT c) (e4:J 28 e=vc)=>QA (F:=F) (h:=h1) (g1:=J 1) (g2:=J 2) (g3:=J 3) (g5:=J 28) e1 e2 e3 e4 oc.1 oc.2.2
 have al:=fun (F:ABZ) (e:Env)=>BL (F:=F) (e:=e) x1.wf (n:=5) (t:=DL)
 have Ra:=Hp.Row.alloc x1.wf FQ (show(A7 0 0 0 0 ABc).length=5 from rfl);have y2:h1.Ext (h1.push (.cells DL 5 0)):=(Hp.Ext.refl x1.wf).push _;have n2:(h1.push (.cells DL 5 0)).next=h1.next+1:=rfl;generalize h1.push (.cells DL 5 0)=h2 at al Ra y2 n2;obtain⟨st,_,y3,R12,n3⟩:=LN x1.wf y2 (If _) Ra rfl (a:=a) (b:=b) (c:=c) (s:=1) (u:=vc) oc.2.1;generalize h2.wr h1.next 0 (A7 a b c 1 vc)=h3 at st y3 R12 n3;have x3:=x1.trans y3;obtain⟨_,_,_,_,_,ADq⟩:=Br R12;have lnc:∀ g,AB2 vc g=.ok (AI AT (l.length:Int)) g:=fun g=>mk1.vals.bl g
 have k4:=Jn (n:=m+6) x3.wf (a:=a) (b:=b) (c:=c) (s:=1) (u:=vc) lnc;rw[hr]at k4;have y4:=(Hp.Ext.refl x3.wf).ABY 0 (A7 a b c 1 vc);generalize h3.ABY 0 (A7 a b c 1 vc)=h4 at k4 y4;have x4:=x3.trans y4;have lnu:∀ g:Hp,AB2 u g=.ok (AI AT (l.length:Int)) g:=fun g=>V.bl g
 obtain⟨_,_,l2,_⟩:=BD (s.row.ext W x4);have c1:iGt (l.length:Int) 100=false:=E4 (by omega);have s4:=s.ext W x4;obtain⟨h5,k5,x5⟩:=F0 (m:=m+4) x4.wf s4.row s4.ls.ks (by omega) a b c;have hidx:Fd (Bp a b c) 0 ks= -1:=by
  rcases O9 (Bp a b c) ks 0 with ⟨_,h2⟩|⟨h1,_⟩
  ·exact h2
  ·rw[hf]at h1;cases h1
 rw[hidx]at k5;have c2:iGe (-1) 0=false:=EK (by omega);have x45:=x4.trans x5;have s5:=s.ext W x45;obtain⟨h6,k6,x6⟩:=Gh (m:=m+3) x45.wf s5.row s5.ls.ks (by omega) a b c;rw[hst]at k6;have x46:=x45.trans x6;have s6:=s.ext W x46;obtain⟨_,l1,_,_,l4,_⟩:=BD s6.row;have hil:(ints .i64 ((p::fr).map vW)).length=fr.length+1:=by unfold ints;rw[OF,OF];rfl
 have lnf:=s6.fs.vals.len;rw[hil]at lnf;have c3:iEq ((fr.length+1:Nat):Int) 0=false:=B9 (by omega);obtain⟨af,g1,g2⟩:=s6.fs.vals.at (i:=0) (by rw[hil];omega);have g1:ACN 1 fv (AI AT 0) h6=.ok (.pointer (some af)) h6:=g1;have g2:IY (.pointer (some af)) h6=.ok (AI AT (p:Int)) h6:=g2;have pre:∃ e1,NR (call AC (m+7)) (As e0 0 [pt A.bs,AI AT a,AI AT b,AI AT c,u]) h=prB (call AC (m+7)) e1 h6/\J 0 e1=pt A.bs/\J 4 e1=u/\J 12 e1=pt h1.next/\J 14 e1=AI AT (p:Int):=by
  unfold NR;simp only[iN,IT,sT,By,BY,reduceIte,gD,cA0,k0,AK,AJ,c00,k1,bl,al,AW,st,Ap,Aj,ADq,k4,BM,BK,uX,AX,lnu,Au,Ai,AH,AO,sh,AN,AQ,l2,c1,k5,c2,k6,l4,lnf,c3];rw[BA];simp only[sT,By,BY,reduceIte,g1,AN,g2];exact⟨_,rfl,by simp[AG]⟩
 obtain⟨e1,p1,t0,t4,t12,t14⟩:=pre;have x6m:=x46.marked;have AG8:h6.marked.Row h1.next 0 (A7 a b c 1 vc):=(((R12.ext x3.wf y4).ext x4.wf x5).ext x45.wf x6).same rfl;obtain⟨_,_,_,_,_,AEd⟩:=Br AG8;obtain⟨_,l1m,_⟩:=BD (s.row.ext W x6m);have mkm:VcI h6.marked h.next vc l:=((mk1.ext x1.wf y3).ext x3.wf ((y4.trans x5).trans x6)).same rfl;obtain⟨h7,x7,hd⟩:=VF (n:=m+4) x6m.quiet.wf ((s.tab.ext W x6m).same (h':=h6.marked.quiet) rfl) s.tok (a:=a) (b:=b) (c:=c) (s:=1) ((mkm.vals).same (h':=h6.marked.quiet) rfl) hb (by omega) (by omega);rcases hd with ⟨_,vh,k7,mkh⟩|⟨hrf,_⟩
 case inr=>rw[hr]at hrf;cases hrf
 have q7:∀ e:Env,J 83 e=pt A.tb->J 84 e=Bn a b c 1 vc->Aa .free (AS 98 [J 83,J 84]) (call AC (m+7)) e h6.marked=.ok (.tuple ⟨[vh,AI AT 0]⟩) (h6.marked.back h7):=fun e e1 e2=>by
  refine BF ?_;rw[BP,AU,AU,A5,e1,e2];exact k7
 have y8:h6.Ext (h6.marked.back h7):=(Hp.Ext.refl x46.wf).marked.trans (.back x7);have AGG:Mk (h6.marked.back h7) h6.next vh (AB1 T a b c 1 l):=mkh.same rfl;generalize h6.marked.back h7=h8 at q7 y8 AGG;have x8:=x46.trans y8;have AEu:∀ g:Hp,h6.Ext g->g.Row h1.next 0 (A7 a b c 1 vc):=fun g x=>((((R12.ext x3.wf y4).ext x4.wf x5).ext x45.wf x6)).ext x46.wf x
 have AFZ:∃ e2 h11 dv1 ds1,prB (call AC (m+7)) e1 h6=prC (call AC (m+7)) e2 h11/\J 0 e2=pt A.bs/\J 12 e2=pt h1.next/\J 14 e2=AI AT (p:Int)/\J 15 e2=vh/\J 17 e2=dv1/\h8.Ext h11/\CS h11 A h8.next dv1 ds1/\((l≠[]/\ds1=J0 p l)\/(l=[]/\ds1=[])):=by
  rcases ug l.length with hz|hz
  ·have hl0:l=[]:=vJ hz
   have c4:iGt (l.length:Int) 0=false:=E4 (by omega);have hrun:∃ e2,prB (call AC (m+7)) e1 h6=prC (call AC (m+7)) e2 h8/\J 0 e2=pt A.bs/\J 12 e2=pt h1.next/\J 14 e2=AI AT (p:Int)/\J 15 e2=vh/\J 17 e2=ABc:=by
    rw[au];unfold gm;simp only[sT,By,BY,reduceIte,Az,Au,t0,Ai,AH,AO,sh,AN,AQ,l1m,Ap,Aj,t12,AEd,q7,Ao,Ax,A2,AX,t4,lnu,AK,AJ,c4];exact⟨_,rfl,by simp[AG,t0,t12,t14]⟩
   obtain⟨e2,r1,u0,u12,u14,u15,u17⟩:=hrun;exact⟨e2,h8,ABc,[],r1,u0,u12,u14,u15,u17,.refl x8.wf,⟨[],.inl ⟨rfl,rfl⟩,rfl,fun i w x hw _=>by cases hw⟩,.inr ⟨hl0,rfl⟩⟩
  ·have c4:iGt (l.length:Int) 0=true:=Fc (by omega)
   have AG9:Mk h1 h.next vc l:=by
    rcases mk1 with ⟨_,h2⟩|h2
    ·rw[h2]at hz;exact absurd hz (yr 0)
    ·exact h2
   have x8m:=x8.marked;have s8m:=s.ext W x8m;have k9:=Nc (m:=m+5) (s8m.row.same (h':=h8.marked.quiet) rfl) (p:=p) (by omega);have q9:∀ e:Env,J 0 e=pt A.bs->J 14 e=AI AT (p:Int)->Aa .weak (AS 100 [J 0,J 14]) (call AC (m+7)) e h8.marked=.ok (AI AT ((p*3:Nat):Int)) (h8.marked.back h8.marked.quiet):=fun e e1 e2=>by
    refine Hn x8m.wf ?_ (If _);rw[BP,AU,AU,A5,e1,e2];exact k9
   have y9:h8.Ext (h8.marked.back h8.marked.quiet):=Hp.Ext.ACe (Hp.Ext.refl x8.wf).marked (Hp.Ext.refl x8.wf).marked.quiet;have n9:(h8.marked.back h8.marked.quiet).next=h8.next:=rfl;have m9:(h8.marked.back h8.marked.quiet).mark=h8.next:=rfl;generalize h8.marked.back h8.marked.quiet=h9 at q9 y9 n9 m9;have x9:=x8.trans y9;have ad:=Cd (h:=h9) (i:=p * 3) (by omega);obtain⟨_,_,_,_,AHA,_⟩:=Br (AEu h9 (y8.trans y9));have AHB:h1.next<h9.mark:=by
    rw[m9];have:=(AEu h8 y8).lt x8.wf;exact this
   have AHC:∀ (off:Nat) (kk:C) (F:ABZ) (e:Env),I5 (.pointer (some ⟨h1.next,off,none⟩)) kk F e h9=kk F e h9:=fun off kk F e=>Dm AHB
   have s9:=s.ext W x9;have mk9:Mk h9 h.next vc l:=(((AG9.ext x1.wf y3).ext x3.wf ((y4.trans x5).trans x6)).ext x46.wf (y8.trans y9));obtain⟨h10,dv1,k10,x10,D1⟩:=Kq (m:=m+6) x9.wf.quiet (s9.row.same (h':=h9.quiet) rfl) (fun b hb=>by have:=hD b hb;have:=x9.next;show b<h9.next;omega) (sct:=p*3+1) (by omega) (mk9.same (h':=h9.quiet) rfl) (by omega);have q10:∀ e:Env,J 0 e=pt A.bs->J 95 e=AI AT ((p*3+1:Nat):Int)->J 97 e=vc->Aa .free (AS 99 [J 0,J 95,J 97]) (call AC (m+7)) e h9=.ok dv1 (h9.back h10):=fun e e1 e2 e3=>by
    refine BF ?_;rw[BP,AU,AU,AU,A5,e1,e2,e3];exact k10
   have y11:h9.Ext (h9.back h10):=.back x10;have D11:CS (h9.back h10) A h9.next dv1 (J0 p l):=D1.same rfl;generalize h9.back h10=h11 at q10 y11 D11;have hrun:∃ e2,prB (call AC (m+7)) e1 h6=prC (call AC (m+7)) e2 h11/\J 0 e2=pt A.bs/\J 12 e2=pt h1.next/\J 14 e2=AI AT (p:Int)/\J 15 e2=vh/\J 17 e2=dv1:=by
    rw[au];unfold gm;simp only[sT,By,BY,reduceIte,Az,Au,t0,Ai,AH,AO,sh,AN,AQ,l1m,Ap,Aj,t12,AEd,q7,Ao,Ax,A2,AX,t4,lnu,AK,AJ,c4,q9,t14,BR,ad,EG,AHC,DU,AHA,q10];exact⟨_,rfl,by simp[AG,t0,t12,t14]⟩
   obtain⟨e2,r1,u0,u12,u14,u15,u17⟩:=hrun;exact⟨e2,h11,dv1,J0 p l,r1,u0,u12,u14,u15,u17,y9.trans y11,by rw[<- n9];exact D11,.inl ⟨fun h=>by rw[h]at hz;exact absurd hz (yr 0),rfl⟩⟩
 obtain⟨e2,h11,dv1,ds1,r1,u0,u12,u14,u15,u17,AEJ,D11,hds⟩:=AFZ;have x11:=x8.trans AEJ;have s11:=s.ext W x11;have hd3:ds1.length<=3:=by
  rcases hds with ⟨_,rfl⟩|⟨_,rfl⟩
  ·unfold J0
   rw[No,OF,List.length_range];show _+1<=3;omega
  ·exact uD _
 have k11:=Nc (m:=m+5) s11.row (p:=p) (by omega);have AFa:Mk h11 h6.next vh (AB1 T a b c 1 l):=(AGG.ext x8.wf AEJ);obtain⟨h12,dv2,k12,x12,D2⟩:=Kq (m:=m+6) x11.wf s11.row (fun b hb=>by have:=hD b hb;have:=x11.next;omega) (sct:=p*3) (by omega) AFa (by omega);rw[hH,show(vG ((64+63)/64)).map (fun j=>ACQ.w (p*3+j) (C7 (AB1 T a b c 1 l) j))++[.f]=GF p (C7 (AB1 T a b c 1 l) 0)from rfl,QE hH]at D2;have AHD:=x11.trans x12;obtain⟨h13,dv3,k13,x13,D3,n13,AGH⟩:=CS.app AHD (by have:=x8.next;omega) (by have:=AEJ.next;have:=x12.next;omega) (D11.ext x11.wf x12) D2 (by show 0<2;omega) (by
  show _+2<=1000;omega)
 have s13:=s.ext W x13;obtain⟨vs,w1,w2,w3⟩:=D3.ends fun b hb=>by have:=hD b hb;have:=x8.next;omega
 have hdl:(ds1++GF p (AB1 T a b c 1 l)).length<=6:=by
  rw[No];show _+2<=6;omega
 have hok:FL A.n [] (ds1++GF p (AB1 T a b c 1 l)):=by
  rcases hds with ⟨h0,rfl⟩|⟨_,rfl⟩
  ·exact gV hp3 ⟨by rcases l with _|⟨_,_⟩;exact absurd rfl h0;exact Nat.succ_pos _,hl⟩ hb hH hHb
  ·exact Vo hp3 hH hHb
 obtain⟨h14,c14,AC4,k14,f14,d14,ea⟩:=SV (m:=m+2) x13.wf s13.row s.nK s13.dk w1 w2 w3 hok (ha.le (by omega)) (by omega);have hcs:(Gf M [] (ds1++GF p (AB1 T a b c 1 l))).2=[]:=by
  have:ds1++GF p (AB1 T a b c 1 l)=(ds1++[.w (p*3) (AB1 T a b c 1 l)])++[.f]:=by rw[uC];rfl
  rw[this];exact M4 _ _ _
 have hM:(Gf M [] (ds1++GF p (AB1 T a b c 1 l))).1=EA T M p l (AB1 T a b c 1 l):=by
  rcases hds with ⟨_,rfl⟩|⟨h0,rfl⟩
  ·rfl
  ·rw[h0];rfl
 rw[hcs,hM]at d14;have s14:Sl h14 A T (EA T M p l (AB1 T a b c 1 l)) c14 AC4 ks (p::fr) lv fv bad false:=(s13.sc.fx x13.wf f14).sl d14;have a14:CI AC4 k:=by rw[ea];exact HX _ k arm (ha.le (by omega))
 obtain⟨_,_,_,l3',l4',_⟩:=BD s14.row;obtain⟨wc,Vc,ct⟩:=dj (xs:=ints .i64 (fr.map vW)) (z:=AI AT (p:Int)) s14.fs;have hone:BX (ints .i64 (fr.map vW))=true:=HM .i64 _;obtain⟨h15,fv',k15,x15,AGI⟩:=mE (n:=m+6) f14.wf Vc hone (by have:=s.le.2.1;unfold ints;rw[OF,OF];rw[tZ]at this;omega);have s15:=s14.ext f14.wf x15;have onf:cellsOf fv'=[fv']/\oneCell fv'=true:=by
  rcases AGI with ⟨h1,_⟩|⟨b,el,h1,_⟩<;>rw[h1]<;>exact⟨rfl,rfl⟩
 obtain⟨h16,AHE,AD8,n16,f16,_⟩:=FI x15.wf s15.row (off:=4) (show 4<7 by omega) s.ne.2.2.2.2 onf.1 onf.2;have AEe:∀ b,A.D b->b<h14.next:=fun b hb=>by have:=hD b hb;have:=x13.next;have:=f14.next;omega
 have AD8:h16.Row A.bs 0 (slL A.bd A.tb lv fv' bad false):=AD8;have nbs:∀ b,¬ A.D b->b≠A.bs:=fun b hb h=>hb (.inl h)
 have s16:Sl h16 A T (EA T M p l (AB1 T a b c 1 l)) c14 AC4 ks fr lv fv' bad false:=s15.bsx x15.wf f16 AD8 (s15.ls.keep fun b el L hb r=>f16.row x15.wf r (nbs b hb)) (fun k hk=>⟨(s15.ko k hk).1.keep fun b el L hb _ r=>f16.row x15.wf r (nbs b hb),(s15.ko k hk).2⟩)
  (by
   rcases AGI with h1|⟨b,el,h1,h2,h3,h4⟩
   ·exact .inl h1
   ·have hb:¬ A.D b:=fun h=>by have:=AEe b h;omega
    exact .inr ⟨b,el,h1,f16.row x15.wf h2 (nbs b hb),h3,hb⟩) ⟨s.le.1,by have:=s.le.2.1;rw[tZ]at this;omega,s.le.2.2.1,fun q hq=>s.le.2.2.2 q (td _ hq)⟩
 have W16:=f16.wf;have AEv:=(Hp.Ext.refl W16).marked;have AGJ:=s16.ext W16 AEv;obtain⟨_,_,_,l3m,_⟩:=BD AGJ.row;obtain⟨h17,w17,k17,x17,AHF⟩:=UW (m:=m+6) AEv.quiet.wf ((AGJ.same (h':=h16.marked.quiet) rfl).ls) (fun k hk=>(s16.ko k hk).1.vs.one.2.1) (by omega);have q17:∀ e:Env,J 125 e=lv->Aa .weak (AS 103 [J 125]) (call AC (m+7)) e h16.marked=.ok w17 (h16.marked.back h17):=fun e he=>by
  refine Cp ?_ x17 (If _);rw[BP,AU,A5,he];exact k17
 have y18:h16.Ext (h16.marked.back h17):=Hp.Ext.ACe AEv (AEv.quiet.trans x17);have AGK:(h16.marked.back h17).KN h16.next w17 ks:=AHF.same rfl;have m18:(h16.marked.back h17).mark=h16.next:=rfl;generalize h16.marked.back h17=h18 at q17 y18 AGK m18;have AGL:h1.next<h6.next:=(AEu h6 (.refl x46.wf)).lt x46.wf;have hl6:h6.next<=h13.next:=by
  have a1:=y8.next;have a2:=AEJ.next;have a4:=x12.next;omega
 have AGM:¬ A.D h1.next:=fun h=>by have:=hD _ h;have:=x1.next;omega
 have AHG:=AGH _ _ _ (.inl rfl) (AEu h12 ((y8.trans AEJ).trans x12));have AHH:=Z0 AGM;have AFb:=f14.row x13.wf AHG AHH;have AEf:=f16.row x15.wf (AFb.ext f14.wf x15) (nbs _ AGM);obtain⟨_,_,_,_,_,AHI⟩:=Br (AEf.ext W16 y18);have AFc:∀ (off:Nat) (kk:C) (F:ABZ) (e:Env),I5 (.pointer (some ⟨h1.next,off,none⟩)) kk F e h18=kk F e h18:=fun off kk F e=>Dm (by
  rw[m18];exact AEf.lt W16)
 generalize hk':(⟨a,b,c,1,l,p,vc⟩:Kt)=k';have AHJ:∀ (F:ABZ) (e:Env),J 127 e=Bn a b c 1 vc->J 14 e=AI AT (p:Int)->BH Dr.zero [(0,5,J 127),(5,1,J 14)] F e h18=.ok (ktV k') h18:=fun F e e1 e2=>by rw[<- hk'];exact UL e1 e2
 have hku:k'.u=vc:=by rw[<- hk']
 have qs:∀ (F:ABZ) (e:Env),J 129 e=ktV k'->Aa .ABn (Ab 1 (BO Dr.zero 1) [(0,6,J 129)]) F e h18=.ok (.slice (some ⟨h18.next,0,none⟩) 1 1) (h18.back (h18.quiet.ABY 0 (Af k'))):=fun F e he=>Cp (Zr y18.wf.quiet he) ((Hp.Ext.refl y18.wf.quiet).ABY _ _) (by rw[m18];exact y18.next)
 have AGN:=y18.next;have xX:h16.Ext (⟨h18.next,h18.next+1,0,h18.mark,h18.bl⟩:Hp):=⟨AGN,y18.get,by show _<=h18.next+1;omega,⟨y18.wf.big,y18.wf.has,y18.wf.fresh⟩⟩;obtain⟨h20,lv',k20,x20,AHK,n20⟩:=fH (k:=h16.next) xX (If _) AGN (AGK.same (h':=⟨h18.next,h18.next+1,0,h18.mark,h18.bl⟩) rfl) (x:=k') (by rw[hku];exact oc.2.1) (by omega);have q20:∀ (F:ABZ) (e:Env),J 126 e=w17->J 130 e=.slice (some ⟨h18.next,0,none⟩) 1 1->Aa .free (Bk 6 64 123 (J 126) (J 130)) F e (h18.back (h18.quiet.ABY 0 (Af k')))=.ok lv' ((h18.back (h18.quiet.ABY 0 (Af k'))).back h20):=fun F e e1 e2=>by
  refine BF ?_;rw[BZ,e1,e2];exact k20
 have y21:h16.Ext ((h18.back (h18.quiet.ABY 0 (Af k'))).back h20):=Hp.Ext.ACe (Hp.Ext.ACe y18 (y18.quiet.ABY _ _)) x20;have AEK:((h18.back (h18.quiet.ABY 0 (Af k'))).back h20).KO h16.next lv' (ks++[k']):=AHK.same rfl;generalize h18.back (h18.quiet.ABY 0 (Af k'))=h19 at qs q20 y21 AEK;generalize h19.back h20=h21 at q20 y21 AEK;have s21:=s16.ext W16 y21;have onl:cellsOf lv'=[lv']/\oneCell lv'=true:=⟨AEK.lst.one.1,AEK.lst.one.2.1⟩;obtain⟨h22,AHL,AD9,n22,_,f22,_⟩:=MK y21.wf s21.row (off:=3) (show 3<7 by omega) s.ne.2.2.2.2 onl.1 onl.2;have AD9:h22.Row A.bs 0 (slL A.bd A.tb lv' fv' bad false):=AD9;have AEA:∀ b,A.D b->b<h16.next:=fun b hb=>by have:=AEe b hb;have:=x15.next;have:=f16.next;omega
 have AGO:h22.KO h16.next lv' (ks++[k']):=AEK.keep fun b el L hb r=>f22.row y21.wf r (fun h=>by
  have:=(AEK.blk y21.wf hb).1;have:=AEA A.bs (.inl rfl);omega)
 have bsv:h22.BS (fun b=>¬ A.D b) vc (l.map bv):=by
  have AHM:=(((mk1.ext x1.wf y3).ext x3.wf ((y4.trans x5).trans x6)).ext x46.wf (y8.trans AEJ)).ext x11.wf x12;rcases AHM with ⟨e1,e2⟩|⟨bq,eq,e1,e2,e3,e4⟩
  ·exact .inl ⟨e1,by rw[e2];rfl⟩
  ·have hb':¬ A.D bq:=fun h=>by have:=hD _ h;omega
   have r13:=AGH _ _ _ e2 e3;have r16:=f16.row x15.wf ((f14.row x13.wf r13 (Z0 hb')).ext f14.wf x15) (nbs _ hb');exact .inr ⟨bq,0,l.length,eq,_,by rw[OF];exact e1,by rw[OF];exact If _,f22.row y21.wf (r16.ext W16 y21) (nbs _ hb'),by omega,by rw[uv,vF],hb',e2⟩
 have s22:Sl h22 A T (EA T M p l (AB1 T a b c 1 l)) c14 AC4 (ks++[k']) fr lv' fv' bad false:=s21.bsx y21.wf f22 AD9 (by
   refine Hp.KW.ks ?_;rcases AGO with ⟨h1,h2⟩|⟨b,h1,h2,h3,_⟩
   ·exact .inl ⟨h1,h2⟩
   ·exact .inr ⟨b,h1,h2,fun h=>by have:=AEA b h;omega⟩) (fun x hx=>by
   rcases uP.1 hx with hx|hx
   ·exact⟨(s21.ko x hx).1.keep fun b el L hb _ r=>f22.row y21.wf r (nbs b hb),(s21.ko x hx).2⟩
   ·rw[uF.1 hx,<- hk']
    exact⟨bsv,hb,hl,.inl rfl,hr,by show p<65536;omega⟩)
  (s21.fs.keep fun b el L hb r=>f22.row y21.wf r (nbs b hb)) ⟨by rw[No];show ks.length+1<=1000;omega,s16.le.2.1,s16.le.2.2.1,s16.le.2.2.2⟩
 have ADB:k'.core=⟨a,b,c,1,l,p⟩:=by rw[<- hk'];rfl
 obtain⟨_,_,_,l3z,_⟩:=BD s22.row;obtain⟨bl,hlw,Rl,hbk,ADO⟩:∃ bl,lv'=.slice (some ⟨bl,0,none⟩) (ks++[k']).length (ks++[k']).length/\h22.Row bl 124 (flK (ks++[k']))/\h16.next<=bl/\256<=bl:=by
  rcases AGO with ⟨_,h2⟩|h2
  ·have:=congrArg List.length h2
   simp at this
  ·exact h2
 have nbl:¬ A.D bl:=fun h=>by have:=AEA bl h;omega
 obtain⟨h23,k23,f23,R23⟩:=bX (m:=m+1) (Z:=[]) (n:=(ks++[k']).length) (c:=(ks++[k']).length) f22.wf (by rw[uH];exact Rl) ADO rfl (If _) (by rw[No];show ks.length+1<=12;omega) fun k hk=>(s22.ko k hk).1.vs.one.2.1
 rw[<- hlw]at k23;have s23:Sl h23 A T (EA T M p l (AB1 T a b c 1 l)) c14 AC4 (GB (ks++[k'])) fr lv' fv' bad false:=s22.lst f22.wf f23 nbl Rl (by
  rw[hlw,<- OT];exact(Pc R23 rfl (If _)).mono fun b hb=>by rw[show b=bl from hb];exact nbl) (fun k hk=>(Km).1 hk) (OT _)
 have fx:Fx A.D h h23:=by
  have e1:Fx A.D h h13:=.of x13;have e2:Fx A.D h13 h14:=f14.mono fun b hb=>.inr hb
  have e3:Fx A.D h14 h15:=.of x15;have e4:Fx A.D h15 h16:=f16.mono fun b hb=>.inl hb
  have e5:Fx A.D h16 h21:=.of y21;have e6:Fx A.D h21 h22:=f22.mono fun b hb=>.inl hb
  have e7:=((((e1.trans e2).trans e3).trans e4).trans e5).trans e6;have a1:=x13.next;have a2:=f14.next;have a3:=x15.next;have a4:=f16.next;exact e7.fresh f23 (by omega)
 refine⟨h23,c14,AC4,lv',fv',k',?_,fx,s23,ADB,a14,fun b hb=>?_⟩;rotate_left
 ·rw[hku]at hb
  obtain⟨o,n,c,e⟩:=hb;rcases mk1 with ⟨e1,_⟩|⟨bq,eq,e1,_,_,e4⟩
  ·rw[e1]at e;cases e
  ·rw[e1]at e
   injection e with e
   injection e with e
   injection e with e
   omega
 rw[Ie rfl,Ik,p1,r1];unfold prC;have AHN:call AC (m+7) 100 [pt A.bs,AI AT (p:Int)] h11=.ok (AI AT ((p*3:Nat):Int)) h11:=k11;have AHO:call AC (m+7) 99 [pt A.bs,AI AT ((p*3:Nat):Int),vh] h11=.ok dv2 h12:=k12;have AFd:call AC (m+7) 101 [pt A.bs,dv3] h13=.ok (AI AT 0) h14:=k14;have AHP:call AC (m+7) 102 [wc] h14=.ok fv' h15:=k15;have AHQ:call AC (m+7) 74 [lv',.func (.func 75) ⟨[]⟩ ⟨[]⟩] h22=.ok ABd h23:=k23;simp only[sT,By,BY,reduceIte,cA0,u0,u14,AHN,u15,AHO,BZ,u17,k13,AFd,AK,AJ,c00,Au,Ai,AH,AO,sh,AN,AQ,l4'];rw[ct _ _ _ (by simp[AG])];simp only[sT,By,BY,reduceIte,cA0,u0,AHP,Au,Ai,AH,AO,sh,AW,AHE,Az,AN,AQ,l3m,q17,u12,EG,AFc,DU,Ap,Aj,AHI,u14,AHJ,qs,q20];rw[AHL _ _ _ _ (by simp[AG]) (by simp[AG])];simp only[sT,By,BY,reduceIte,u0,Au,Ai,AH,AO,sh,AN,AQ,l3z,cA0,AHQ,lV0]
end
end
noncomputable section
open Go
set_option maxRecDepth 100000
theorem mH:cmS=BB (AY 1 (A4 cmL)) cmE:=rfl
theorem mF:cmB=mG:=rfl
theorem MB:d59=Oq:=rfl
section
variable {F:ABZ}{e:Env}{h h':Hp}{S:Nat->Prop}{A:At}{T M:List Nat}{c0 bad m k p:Nat}{arm:Int}{ks:List Kt}{fr:List Nat}{v lv fv:IN}
theorem Yo(W:h.Wf)(s:Sl h A T M c0 arm ks fr lv fv bad false){j:Nat}{kx:Kt}(hj:ks[j]? =some kx)(hs1:kx.s=1){a b c:Int}(hf:Fd (Bp a b c) 0 ks=(j:Int))(ACk:kx.a=a/\kx.b=b/\kx.c=c)(hst:Cc a b c ks=false)(hp3:3*kx.p+3<=A.n)(hkl:ks.length<=1000)(ha:CI arm (k+5)):
  ∃ h' c1 AB7 lv' e2,Oq (call AC (m+7)) (As e0 0 [pt A.bs,AI AT a,AI AT b,AI AT c]) h=cmS (call AC (m+7)) e2 h'/\J 0 e2=pt A.bs/\J 1 e2=AI AT a/\J 2 e2=AI AT b/\J 3 e2=AI AT c/\J 15 e2=ABc/\J 16 e2=AI AT ((0:Nat):Int)/\Fx A.D h h'/\
   Sl h' A T (HF M kx.p (AB1 T a b c 2 kx.l)) c1 AB7 (ks.set j {kx with s:=2}) fr lv' fv bad false/\CI AB7 k:=by
 have big:=W.big;have hD:=s.AD7 W;have hn:=s.dk.n1;have hjl:=(List.getElem?_eq_some_iff.1 hj).1;have hkm:=tq hj;obtain⟨o1,o2,o3,o4,o5,o6⟩:=s.ko kx hkm;obtain⟨rfl,rfl,rfl⟩:=ACk;have oc:=o1.vs.one;have c00:iNe 0 0=false:=B5 rfl;have k0:=NO (m:=m+6) s.row;obtain⟨h1,k1,x1⟩:=F0 (m:=m+4) W s.row s.ls.ks (by omega) kx.a kx.b kx.c;rw[hf]at k1;have c1:iGe (j:Int) 0=true:=F2 (by omega);have s1:=s.ext W x1;obtain⟨_,_,_,l3,_⟩:=BD s1.row;obtain⟨bb,_,ix,ld,lde⟩:=s1.ls.ks.at hj;have lst:=lde 3 (.int .u8 (kx.s:Int)) rfl;have c2:iEq (kx.s:Int) 2=false:=B9 (by omega);obtain⟨h2,k2,x2⟩:=Gh (m:=m+3) x1.wf s1.row s1.ls.ks (by omega) kx.a kx.b kx.c;rw[hst]at k2;have x12:=x1.trans x2;have s2:=s.ext W x12;have c3:iLt (j:Int) 0=false:=E5 (by omega);obtain⟨_,_,_,l3',_⟩:=BD s2.row;obtain⟨bb2,_,ix2,ld2,_⟩:=s2.ls.ks.at hj;have al:=fun (F:ABZ) (e:Env)=>BL (F:=F) (e:=e) x12.wf (n:=6) (t:=Cr)
 have Ra:=Hp.Row.alloc x12.wf Fq (show(Af K0).length=6 from rfl);have y3:h2.Ext (h2.push (.cells Cr 6 0)):=(Hp.Ext.refl x12.wf).push _;have n3:(h2.push (.cells Cr 6 0)).next=h2.next+1:=rfl;generalize h2.push (.cells Cr 6 0)=h3 at al Ra y3 n3;obtain⟨st,_,y4,R11,n4⟩:=My x12.wf y3 (If _) Ra rfl (k:=kx) oc.2.1;generalize h3.wr h2.next 0 (Af kx)=h4 at st y4 R11 n4;have ABj:256<=h2.next:=by have:=x12.next;omega
 obtain⟨h5,st5,R5,n5,f5,e5⟩:=FI y4.wf R11 (off:=3) (show 3<6 by omega) ABj (v:=.int .u8 2) rfl rfl;have y5:=e5 h2 y4 (If _);generalize hkx:({kx with s:=2}:Kt)=X;have R5:h5.Row h2.next 0 (Af X):=by rw[<- hkx];exact R5
 have x5:=x12.trans y5;have pre:∃ e1,Oq (call AC (m+7)) (As e0 0 [pt A.bs,AI AT kx.a,AI AT kx.b,AI AT kx.c]) h=cmB (call AC (m+7)) e1 h5/\J 0 e1=pt A.bs/\J 1 e1=AI AT kx.a/\J 2 e1=AI AT kx.b/\J 3 e1=AI AT kx.c/\J 10 e1=AI AT (j:Int)/\J 11 e1=pt h2.next:=by
  unfold Oq;simp only[iN,IT,sT,By,BY,reduceIte,gD,cA0,k0,AK,AJ,c00,k1,c1,Au,Ai,AH,AO,sh,vS,AN,AQ,l3,BA,ix,lst,c2,k2,c3,l3',ix2,Ap,Aj,ld2,al,AW,st,st5];exact⟨_,rfl,by simp[AG]⟩
 obtain⟨e1,p1,t0,t1,t2,t3,t10,t11⟩:=pre;have x5m:=x5.marked;have s5m:=s.ext W x5m;have R5m:h5.marked.Row h2.next 0 (Af X):=R5.same rfl;obtain⟨_,_,_,_,_,_,_,ld5⟩:=CV R5m;obtain⟨_,l1m,_⟩:=BD s5m.row;have hX:X.a=kx.a/\X.b=kx.b/\X.c=kx.c/\X.s=2/\X.u=kx.u/\X.l=kx.l/\X.p=kx.p:=by rw[<- hkx];exact⟨rfl,rfl,rfl,rfl,rfl,rfl,rfl⟩
 obtain⟨e6a,e6b,e6c,e6s,e6u,e6l,e6p⟩:=hX;rw[e6a,e6b,e6c,e6s,e6u]at ld5;have bsu:=(s5m.ko kx hkm).1;have hr2:ABp kx.a kx.b kx.c 2 kx.l.length=true:=by
  obtain⟨g1,g2,g3,g4,g5,g6,g7,g8⟩:=EN o5;exact decide_eq_true ⟨g1,g2,g3,g4,g5,g6,.inr rfl,g8⟩
 have hH:=GV (T:=T) hr2;have hHb:=MP (T:=T) (a:=kx.a) (b:=kx.b) (c:=kx.c) (s:=2) (l:=kx.l);obtain⟨h6,x6,hd⟩:=VF (n:=m+4) x5m.quiet.wf ((s5m.tab).same (h':=h5.marked.quiet) rfl) s.tok (a:=kx.a) (b:=kx.b) (c:=kx.c) (s:=2) (bsu.vs.vals.same (h':=h5.marked.quiet) rfl) o2 (by omega) (by omega);rcases hd with ⟨_,vh,k6,mkh⟩|⟨hrf,_⟩
 case inr=>rw[hr2]at hrf;cases hrf
 have q6:∀ e:Env,J 65 e=pt A.tb->J 67 e=Bn kx.a kx.b kx.c 2 kx.u->Aa .free (AS 98 [J 65,J 67]) (call AC (m+7)) e h5.marked=.ok (.tuple ⟨[vh,AI AT 0]⟩) (h5.marked.back h6):=fun e e1 e2=>by
  refine BF ?_;rw[BP,AU,AU,A5,e1,e2];exact k6
 have y7:h5.Ext (h5.marked.back h6):=(Hp.Ext.refl x5.wf).marked.trans (.back x6);have mk7:Mk (h5.marked.back h6) h5.next vh (AB1 T kx.a kx.b kx.c 2 kx.l):=mkh.same rfl;generalize h5.marked.back h6=h7 at q6 y7 mk7;have x7:=x5.trans y7;have s7:=s.ext W x7;obtain⟨_,_,_,_,_,lp7,_⟩:=CV (R5.ext x5.wf y7);rw[e6p]at lp7;have k7:=Nc (m:=m+5) s7.row (p:=kx.p) (by omega);obtain⟨h8,dv,k8,x8,D8⟩:=Kq (m:=m+6) x7.wf s7.row (fun b hb=>by have:=hD b hb;have:=x7.next;omega) (sct:=kx.p * 3) (by omega) mk7 (by omega);rw[hH,show(vG ((64+63) / 64)).map (fun j=>ACQ.w (kx.p * 3+j) (C7 (AB1 T kx.a kx.b kx.c 2 kx.l) j))++[.f]=GF kx.p (C7 (AB1 T kx.a kx.b kx.c 2 kx.l) 0)from rfl,QE hH]at D8;have x8':=x7.trans x8;have s8:=s.ext W x8';obtain⟨vs,w1,w2,w3⟩:=D8.ends fun b hb=>by have:=hD b hb;have:=x7.next;omega
 obtain⟨h9,c9,ADi,k9,f9,d9,ea⟩:=SV (m:=m+2) x8'.wf s8.row s.nK s8.dk w1 w2 w3 (Vo hp3 hH hHb) (ha.le (by show 2<=_;omega)) (by show 2<=100;omega);have d9:Dk h9 A.bd A.bm A.bc A.n (HF M kx.p (AB1 T kx.a kx.b kx.c 2 kx.l)) c9 [] ADi false:=d9;have s9:Sl h9 A T (HF M kx.p (AB1 T kx.a kx.b kx.c 2 kx.l)) c9 ADi ks fr lv fv bad false:=(s8.sc.fx x8'.wf f9).sl d9;have a9:CI ADi k:=by rw[ea];exact HX _ k arm (ha.le (by show 2+k<=_;omega))
 have AGP:¬ A.D h2.next:=fun h=>by have:=hD _ h;have:=x12.next;omega
 have R9:=f9.row x8'.wf ((R5.ext x5.wf y7).ext x7.wf x8) (Z0 AGP);obtain⟨_,_,_,l39,_⟩:=BD s9.row;have hu:∀ k∈ks,oneCell k.u=true:=fun k hk=>(s9.ko k hk).1.vs.one.2.1
 obtain⟨h10,w10,k10,x10,AEw⟩:=So (m:=m+6) f9.wf s9.ls hu (fun h=>by rw[h]at hjl;cases hjl) (by omega);have s10:=s9.ext f9.wf x10;obtain⟨h11,ADj,AEB,n11,f11,_⟩:=FI x10.wf s10.row (off:=3) (show 3<7 by omega) s.ne.2.2.2.2 (v:=w10) AEw.lst.one.1 AEw.lst.one.2.1;have AEB:h11.Row A.bs 0 (slL A.bd A.tb w10 fv bad false):=AEB;have nbs:∀ b,¬ A.D b->b≠A.bs:=fun b hb h=>hb (.inl h)
 have AFe:∀ b,A.D b->b<h9.next:=fun b hb=>by have:=hD b hb;have:=x8'.next;have:=f9.next;omega
 have AGQ:h11.KO h9.next w10 ks:=AEw.keep fun b el L hb r=>f11.row x10.wf r (fun h=>by
  have:=(AEw.blk x10.wf hb).1;have:=AFe A.bs (.inl rfl);omega)
 have s11:Sl h11 A T (HF M kx.p (AB1 T kx.a kx.b kx.c 2 kx.l)) c9 ADi ks fr w10 fv bad false:=s10.bsx x10.wf f11 AEB (by
   refine Hp.KW.ks ?_;rcases AGQ with ⟨h1,h2⟩|⟨b,h1,h2,h3,_⟩
   ·exact .inl ⟨h1,h2⟩
   ·exact .inr ⟨b,h1,h2,fun h=>by have:=AFe b h;omega⟩) (fun x hx=>⟨(s10.ko x hx).1.keep fun b el L hb _ r=>f11.row x10.wf r (nbs b hb),(s10.ko x hx).2⟩) (s10.fs.keep fun b el L hb r=>f11.row x10.wf r (nbs b hb)) s10.le
 have AFf:=f11.row x10.wf (R9.ext f9.wf x10) (nbs _ AGP);have W11:=f11.wf;have xm:=(Hp.Ext.refl W11).marked;have AHR:=s11.ext W11 xm;obtain⟨_,_,_,l3m,_⟩:=BD AHR.row;obtain⟨_,_,_,_,_,_,AHS,_⟩:=CV (AFf.same (h':=h11.marked) rfl);rcases AGQ with ⟨_,AFP⟩|⟨bl,hw,Rl,hbk,ADO⟩
 ·rw[AFP]at hjl;cases hjl
 have ixl:ACN 6 w10 (AI AT (j:Int)) h11.marked=.ok (.pointer (some ⟨bl,6*j,none⟩)) h11.marked:=by
  rw[hw];have:=Ch (h:=h11.marked) (n:=ks.length) (c:=ks.length) (es:=6) (b:=bl) (off:=0) (i:=j) (k:=.i64) hjl
  rwa [sh,Nat.mul_comm]at this
 have Rq:h11.marked.quiet.Row bl 124 (flK ks):=Rl.same rfl;have hXu:oneCell X.u=true:=by rw[e6u];exact oc.2.1
 have hoo:6*j+(Af X).length<=(flK ks).length:=by rw[Cj];show 6*j+6<=_;omega
 have stq:=Rq.ABg (n:=6) (off:=6 * j) (v:=ktV X) xm.wf.quiet ADO rfl hoo (Gq hXu);have wrq:=Rq.ABl xm.wf.quiet hoo;rw[O0 ks j X hjl]at wrq;have fxq:=Fx.wr (S:=fun b=>b=bl) xm.wf.quiet Rq hoo rfl;have stq:ABg 6 (.pointer (some ⟨bl,6 * j,none⟩)) (ktV X) h11.marked.quiet=.ok ABd (h11.marked.quiet.wr bl (6 * j) (Af X)):=stq;generalize h11.marked.quiet.wr bl (6 * j) (Af X)=q at stq wrq fxq;have q12:∀ (F:ABZ) (e:Env),J 97 e=.pointer (some ⟨bl,6 * j,none⟩)->J 96 e=ktV X->Aa .free (Ac 6 (J 97) (J 96)) F e h11.marked=.ok ABd (h11.marked.back q):=fun F e e1 e2=>BF (by rw[AW,e1,e2];exact stq)
 have f12:Fx (fun b=>b=bl) h11 (h11.marked.back q):=((fxq.from (h:=h11.marked) rfl rfl).same (h2:=h11.marked.back q) rfl rfl).from (h:=h11) rfl rfl;have AGR:(h11.marked.back q).Row bl 124 (flK (ks.set j X)):=wrq.same rfl;generalize h11.marked.back q=h12 at q12 f12 AGR;have nbl:¬ A.D bl:=fun h=>by have:=AFe bl h;omega
 have hsl:(ks.set j X).length=ks.length:=List.length_set;have AEx:∀ b el L,b≠bl->h11.Row b el L->h12.Row b el L:=fun b el L hb r=>f12.row W11 r hb
 have AEL:∀ b el L,(el=0\/el=6\/el=4)->h11.Row b el L->b≠bl:=fun b el L he r=>FJ r Rl (by omega)
 have s12:Sl h12 A T (HF M kx.p (AB1 T kx.a kx.b kx.c 2 kx.l)) c9 ADi (ks.set j X) fr w10 fv bad false:=by
  refine⟨AEx _ _ _ (AEL _ _ _ (.inl rfl) s11.row) s11.row,s11.dk.fr W11 f12 (AEL _ _ _ (.inl rfl) s11.dk.disk) (AEL _ _ _ (.inl rfl) s11.dk.med) (fun h=>(Jo Rl s11.dk.map) h.symm),AEx _ _ _ (AEL _ _ _ (.inl rfl) s11.tab) s11.tab,s.tok,Hp.KW.ks (.inr ⟨bl,by rw[hsl];exact hw,AGR,nbl⟩),fun x hx=>?_,?_,s.ne,by rw[hsl];exact s11.le⟩
  ·have kp:=fun (x:Kt) (hx:x∈ks)=>(s11.ko x hx).1.keep (h':=h12) fun b el L hb he r=>AEx b el L (AEL b el L (by omega) r) r
   rcases List.mem_or_eq_of_mem_set hx with h1|h1
   ·exact⟨kp x h1,(s11.ko x h1).2⟩
   ·rw[h1]
    have:=kp kx hkm;refine⟨?_,?_,?_,.inr e6s,?_,?_⟩
    ·rw[e6u,e6l];exact this
    ·rw[e6l];exact o2
    ·rw[e6l];exact o3
    ·rw[e6a,e6b,e6c,e6s,e6l];exact hr2
    ·rw[e6p];exact o6
  ·rcases s11.fs with h1|⟨b,el,h1,h2,h3,h4⟩
   ·exact .inl h1
   ·exact .inr ⟨b,el,h1,AEx _ _ _ (AEL b el _ (by omega) h2) h2,h3,h4⟩
 have mid:∃ e2,cmB (call AC (m+7)) e1 h5=cmS (call AC (m+7)) e2 h12/\J 0 e2=pt A.bs/\J 1 e2=AI AT kx.a/\J 2 e2=AI AT kx.b/\J 3 e2=AI AT kx.c/\J 15 e2=ABc/\J 16 e2=AI AT ((0:Nat):Int):=by
  have k7':call AC (m+7) 100 [pt A.bs,AI AT (kx.p:Int)] h7=.ok (AI AT ((kx.p*3:Nat):Int)) h7:=k7;have k8':call AC (m+7) 99 [pt A.bs,AI AT ((kx.p*3:Nat):Int),vh] h7=.ok dv h8:=k8;have k9':call AC (m+7) 101 [pt A.bs,dv] h8=.ok (AI AT 0) h9:=k9;have AHT:call AC (m+7) 103 [lv] h9=.ok w10 h10:=k10;rw[mF];unfold mG;simp only[sT,By,BY,reduceIte,Az,Au,t0,Ai,AH,AO,sh,vS,AN,AQ,l1m,Ap,Aj,t11,ld5,q6,Ao,Ax,A2,lp7,cA0,k7',k8',k9',AK,AJ,c00,l39,AHT,AW,ADj,l3m,AHS,BA,t10,ixl,q12];exact⟨_,rfl,by simp[AG,t0,t1,t2,t3]⟩
 obtain⟨e2,r1,u0,u1,u2,u3,u15,u16⟩:=mid;have AEy:Fx A.D h h12:=by
  have e1:Fx A.D h h8:=.of x8';have e2:Fx A.D h8 h9:=f9.mono fun b hb=>.inr hb
  have e3:Fx A.D h9 h10:=.of x10;have e4:Fx A.D h10 h11:=f11.mono fun b hb=>.inl hb
  have e14:=((e1.trans e2).trans e3).trans e4;refine⟨uO e14.next f12.next,fun i hi hs=>?_,f12.wf,fun L q1 q2 q3=>f12.low L (e14.low L q1 q2 q3) (uO q2 e14.next) fun b hb=>by have:=x8'.next;have:=f9.next;omega⟩;rw[f12.get i (by have:=e14.next;omega) (fun h=>by have:=x8'.next;have:=f9.next;omega),e14.get i hi hs]
 exact⟨h12,c9,ADi,w10,e2,p1.trans r1,u0,u1,u2,u3,u15,u16,AEy,hkx ▸ s12,by rw[ea];exact HX _ _ arm (ha.le (by show 2+k<=_;omega))⟩
end
end
noncomputable section
open Go
set_option maxRecDepth 100000
theorem cA:Ht.k=.slice 5:=by kernel_rfl
theorem mD{n:Nat}{h:Hp}(W:h.Wf){u:IN}{xs:List IN}(V:h.ABy u xs)(ha:BX xs=true)(hl:xs.length<=1000000):
  ∃ h' v,call AC (n+1) 93 [u] h=.ok v h'/\h.Ext h'/\h'.Cl (fun b=>h.next<=b/\b<h'.next) 5 v xs:=by
 rcases V with ⟨rfl,rfl⟩|⟨b,off,c,el,L,h1,h2,h3,h4⟩
 ·have ne:∀ e:Env,J 0 e=.slice none 0 0->oEq Ht.k false (J 0) (kV (.slice none 0 0)) (call AC n) e h=.ok (.bool true) h:=fun e he=>Jf (t:=0) cA he
  refine⟨h,ABc,?_,.refl W,.inl ⟨rfl,rfl⟩⟩;rw[Ig rfl];unfold d93;simp only[iN,IT,sT,By,BY,reduceIte,ne,lV0]
 ·have V:h.ABy u xs:=.inr ⟨b,off,c,el,L,h1,h2,h3,h4⟩
  have x1:=(Hp.Ext.refl W).ABY 0 [];have R:=Hp.Row.new W 0 [];have es:=fun (e:Env) (t:List IN)=>KI (F:=call AC n) (e:=e) (t:=t) W
  have n1:(h.ABY 0 []).next=h.next+1:=rfl;generalize h.ABY 0 []=g at x1 R es n1;have ne:∀ e:Env,J 0 e=u->oEq Ht.k false (J 0) (kV (.slice none 0 0)) (call AC n) e h=.ok (.bool false) h:=fun e he=>Je (t:=0) cA (he.trans h1)
  have V1:=V.ext W x1;have big:=W.big;rcases ug xs.length with hz|hz
  ·obtain rfl:xs=[]:=vJ hz
   have ap:DN 1 1 5 (.slice (some ⟨h.next,0,none⟩) 0 0) u g=.ok (.slice (some ⟨h.next,0,none⟩) 0 0) (g.wr h.next 0 []):=Hh x1.wf big R (fun k=>V1.src rfl k) V1.lenV;have R2:=R.ABl x1.wf (off:=0) (vs:=[]) (If _);refine⟨_,.slice (some ⟨h.next,0,none⟩) 0 0,?_,R.AB3 x1 (If _) (off:=0) (vs:=[]) (If _),.inr ⟨h.next,0,rfl,R2,.inr ⟨rfl,rfl⟩,⟨If _,?_⟩,big⟩⟩
   ·rw[Ig rfl]
    unfold d93;simp only[iN,IT,sT,By,BY,reduceIte,ne,es,BZ,ap,lV0]
   ·have:=R.ACH (off:=0) (vs:=[]) (If _)
    omega
  ·obtain⟨h2,a1,a2,a3,a4,a5⟩:=En (eb:=1) (en:=5) x1 R (es:=1) (fun k=>V1.src rfl k) V1.lenV (by omega) hz ha (by omega)
   refine⟨h2,_,?_,a2,.inr ⟨g.next,5+1,rfl,a3,.inl rfl,⟨by omega,by omega⟩,by omega⟩⟩;rw[Ig rfl];unfold d93;simp only[iN,IT,sT,By,BY,reduceIte,ne,es,BZ,a1,lV0]
theorem ZQ:eqS=BB (AY 0 (A4 ebB)) eqE:=rfl
theorem Sv:d96=Y4:=rfl
section
variable {F:ABZ}{e:Env}{h h':Hp}{S:Nat->Prop}{A:At}{bad m k p:Nat}{ks:List Kt}{fr:List Nat}{v lv fv:IN}{ov:Bool}
theorem Nn(W:h.Wf){u v:IN}{a b:List Nat}(U:h.ABy u (a.map bv))(V:h.VE v (b.map bv))(hl:a.length<=900000):∃ h',call AC (m+1) 96 [u,v] h=.ok (.bool (decide (a=b))) h'/\h.Ext h':=by
 have Ul:=U.bl h;have Vl:=V.bl h;by_cases hab:a.length=b.length
 ·have c1:iNe (a.length:Int) (b.length:Int)=false:=by rw[Ha,hab];simp
  have pre:∃ e1,Y4 (call AC m) (As e0 0 [u,v]) h=eqS (call AC m) e1 h/\J 0 e1=u/\J 1 e1=v/\J 12 e1=AI AT (a.length:Int)/\J 13 e1=AI AT ((0:Nat):Int):=by
   unfold Y4;simp only[iN,IT,sT,By,BY,reduceIte,AX,Ul,Vl,AK,AJ,c1];exact⟨_,rfl,by simp[AG]⟩
  obtain⟨e1,p1,s0,s1,s12,s13⟩:=pre;have run:(∃ e' h',A4 ebB (call AC m) e1 h=.exit 0 e' h'/\h.Ext h'/\a=b)\/(∃ e' h',A4 ebB (call AC m) e1 h=.ret e' h'/\h.Ext h'/\a≠b/\J 4 e'=.bool false):=by
   refine Bb (I:=fun i e' h'=>h.Ext h'/\J 0 e'=u/\J 1 e'=v/\J 12 e'=AI AT (a.length:Int)/\J 13 e'=AI AT (i:Int)/\i<=a.length/\(a=b↔a.drop i=b.drop i))
    (Q:=fun x=>(∃ e' h',x=.exit 0 e' h'/\h.Ext h'/\a=b)\/(∃ e' h',x=.ret e' h'/\h.Ext h'/\a≠b/\J 4 e'=.bool false)) a.length (by omega) (fun i e' h' ⟨x',t0,t1,t12,t13,hi,hr⟩=>?_) ⟨.refl W,s0,s1,s12,s13,uD _,by simp⟩
   by_cases hlt:i<a.length
   ·have xm:=x'.marked
    obtain⟨p,g1,g2⟩:=JE (U.ext W xm) hlt;obtain⟨q,g3,g4⟩:=JE ((V.ext W xm).vals (by rw[OF];omega)) (i:=i) (by omega);rw[GO hlt,GO (l:=b) (by omega)]at hr;generalize a.getD i 0=c at g2 hr;generalize b.getD i 0=d at g4 hr;have c1:=EP hlt;by_cases hcd:c=d
    ·left
     subst hcd;have c2:iNe (c:Int) (c:Int)=false:=by rw[Ha];simp
     have a3:=Cd (i:=i) (h:=h'.marked) (by omega);have hrun:∃ e2,ebB (call AC m) e' h'=.norm e2 h'.marked/\J 0 e2=u/\J 1 e2=v/\J 12 e2=AI AT (a.length:Int)/\J 13 e2=AI AT ((i+1:Nat):Int):=by
      unfold ebB;simp only[sT,By,BY,reduceIte,AK,AJ,t13,t12,c1,Az,BA,t0,g1,AN,g2,t1,g3,g4,c2,BR,a3];exact⟨_,rfl,by simp[AG,t0,t1,t12]⟩
     obtain⟨e2,r1,r2,r3,r4,r5⟩:=hrun;refine⟨hlt,e2,h'.marked,r1,xm,r2,r3,r4,r5,hlt,hr.trans ?_⟩;simp
    ·right
     have c2:iNe (c:Int) (d:Int)=true:=by rw[Ha];simp;omega
     have hrun:∃ e2,ebB (call AC m) e' h'=.ret e2 h'.marked/\J 4 e2=.bool false:=by
      unfold ebB;simp only[sT,By,BY,reduceIte,AK,AJ,t13,t12,c1,Az,BA,t0,g1,AN,g2,t1,g3,g4,c2];exact⟨_,rfl,by simp[AG]⟩
     obtain⟨e2,r1,r2⟩:=hrun;rw[r1];refine⟨rfl,.inr ⟨e2,h'.marked,rfl,xm,fun h=>hcd ?_,r2⟩⟩;have:=hr.1 h;injection this
   ·right
    have c1:=Cv (show a.length<=i by omega);have hrun:∃ e2,ebB (call AC m) e' h'=.exit 0 e2 h':=by
     unfold ebB;simp only[sT,By,BY,reduceIte,AK,AJ,t13,t12,c1];exact⟨_,rfl⟩
    obtain⟨e2,r1⟩:=hrun;rw[r1];refine⟨rfl,.inl ⟨e2,h',rfl,x',hr.2 ?_⟩⟩;rw[vC (by omega),vC (by omega)]
  rcases run with ⟨e2,h2,r1,x2,r2⟩|⟨e2,h2,r1,x2,r2,r3⟩
  ·refine⟨h2,?_,x2⟩
   rw[Sm rfl,Sv,p1,ZQ,decide_eq_true r2];simp only[A9,An,r1,A8,A3];unfold eqE;simp only[sT,By,BY,reduceIte,lV0]
  ·refine⟨h2,?_,x2⟩
   rw[Sm rfl,Sv,p1,ZQ,decide_eq_false r2];simp only[A9,An,r1,CE,Cq,lV0,r3]
 ·have c1:iNe (a.length:Int) (b.length:Int)=true:=by rw[Ha];simp;omega
  refine⟨h,?_,.refl W⟩;rw[Sm rfl,Sv,decide_eq_false (fun h=>hab (by rw[h]))];unfold Y4;simp only[iN,IT,sT,By,BY,reduceIte,AX,Ul,Vl,AK,AJ,c1,lV0]
theorem ZR(W:h.Wf){u v:IN}{a b:List Nat}(U:h.ABy u (a.map bv))(V:h.ABy v (b.map bv))(hl:a.length<=900000):∃ h',call AC (m+1) 96 [u,v] h=.ok (.bool (decide (a=b))) h'/\h.Ext h':=Nn W U (.inl V) hl
theorem Da{e:Env}{h h':Hp}{g:O}{n:Nat}{v:IN}(hv:Iq n (g e) h=.ok v h'):El [.cN g n] e h=.ok v h:=by
 have h1:FN e h (.cN g n)=.ok v h':=hv;show(match FN e h (.cN g n)with|.ok v _=>ABm v fun v=>JS h [v]|.no=>.no)=_;rw[h1];simp only[BQ];rfl
theorem Dv{e:Env}{h:Hp}{g g1:O}{n:Nat}{v:IN}(hv:Iq n (g e) h=.ok v h):El [.cN g n,.t g1] e h=.ok (.tuple ⟨[v,g1 e]⟩) h:=by
 have h1:FN e h (.cN g n)=.ok v h:=hv;show(match FN e h (.cN g n)with|.ok v _=>ABm v fun v=>ABm (g1 e) (fun x=>JS h [v,x])|.no=>.no)=_;rw[h1];simp only[BQ];rfl
theorem Hp.Cl.bs0{h:Hp}{S:Nat->Prop}{v:IN}{xs:List IN}(o:h.Cl S 5 v xs):h.BS S v xs:=by
 rcases o with h1|⟨b,el,h1,h2,h3,h4,h5⟩
 ·exact .inl h1
 ·exact .inr ⟨b,0,_,el,xs,h1,If _,h2,by omega,by rw[uv,vF],h4,h3.elim (fun h=>.inr h) (fun h=>.inl h.1)⟩
theorem Vt(W:h.Wf){x:Kt}(U:h.ABy x.u (x.l.map bv))(hl:x.l.length<=1000):∃ h' v',call AC (m+2) 68 [ktV x] h=.ok (Bn x.a x.b x.c x.s v') h'/\h.Ext h'/\oneCell v'=true/\h'.BS (fun b=>h.next<=b) v' (x.l.map bv):=by
 have bx:=fun (F:ABZ) (e:Env) (he:J 0 e=ktV x)=>MX (F:=F) W he
 have x1:=(Hp.Ext.refl W).ABY 0 (Af x);have R1:=Hp.Row.new W 0 (Af x);have n1:(h.ABY 0 (Af x)).next=h.next+1:=rfl;generalize h.ABY 0 (Af x)=h1 at bx x1 R1 n1;have al:=fun (F:ABZ) (e:Env)=>BL (F:=F) (e:=e) x1.wf (n:=5) (t:=DL)
 have Ra:=Hp.Row.alloc x1.wf FQ (show(A7 0 0 0 0 ABc).length=5 from rfl);have y2:h1.Ext (h1.push (.cells DL 5 0)):=(Hp.Ext.refl x1.wf).push _;have n2:(h1.push (.cells DL 5 0)).next=h1.next+1:=rfl;generalize h1.push (.cells DL 5 0)=h2 at al Ra y2 n2;have x2:=x1.trans y2;have R2:=R1.ext x1.wf y2;obtain⟨_,_,_,_,l4,_⟩:=CV R2;obtain⟨h3,v',k3,y3,c3⟩:=mD (n:=m) x2.wf (U.ext W x2) (DB _) (by rw[OF];omega);have onv:cellsOf v'=[v']/\oneCell v'=true:=⟨c3.vs.one.1,c3.vs.one.2.1⟩;have R3:=R2.ext x2.wf y3;have Ra3:=Ra.ext y2.wf y3;have big:=W.big;obtain⟨h4,st4,R4,n4,f4,e4⟩:=FI y3.wf R3 (off:=4) (show 4<6 by omega) big onv.1 onv.2;have x3:=x2.trans y3;have x4:=e4 h x3 (If _);have R4:h4.Row h.next 0 (Af ⟨x.a,x.b,x.c,x.s,x.l,x.p,v'⟩):=R4;obtain⟨_,_,_,_,_,_,_,ld⟩:=CV R4;have Ra4:=f4.row y3.wf Ra3 (by omega);obtain⟨st5,ld5,x5,R5,n5⟩:=LN W x4 (by omega) Ra4 rfl (a:=x.a) (b:=x.b) (c:=x.c) (s:=x.s) (u:=v') onv.2;have f5:=Fx.wr (S:=fun b=>b=h1.next) f4.wf Ra4 (vs:=A7 x.a x.b x.c x.s v') (off:=0) (If _) rfl;generalize h4.wr h1.next 0 (A7 x.a x.b x.c x.s v')=h5 at st5 ld5 x5 R5 f5;have vs5:h5.BS (fun b=>h.next<=b) v' (x.l.map bv):=(c3.bs0.keep fun b el L hb _ r=>f5.row f4.wf (f4.row y3.wf r (by omega)) (by omega)).mono fun b hb=>by omega
 refine⟨h5,v',?_,x5,onv.2,vs5⟩;have k3:call AC (m+1) 93 [x.u] h2=.ok v' h3:=k3;have hrun:∃ e2,d68 (call AC (m+1)) (As e0 0 [ktV x]) h=.ret e2 h5/\J 2 e2=pt h1.next:=by
  unfold d68;simp only[iN,IT,sT,By,BY,reduceIte,bx,al,AH,AO,sh,vS,AN,AQ,l4,cA0,k3,AW,st4,Ap,Aj,ld,st5];exact⟨_,rfl,by simp[AG]⟩
 obtain⟨e2,r1,r2⟩:=hrun;rw[lO rfl,r1,Ay,Da (h':=h5) (v:=Bn x.a x.b x.c x.s v') (by rw[r2,Aj];exact ld5)]
theorem gk{g:O}{b:Nat}(hg:g e=pt b):oEq Hu.k false g (kV (.pointer none)) F e h=.ok (.bool false) h:=FM WT hg
theorem ey(W:h.Wf)(R:h.Row A.bs 0 (slL A.bd A.tb lv fv bad ov))(K:h.KS S lv ks)(hk:∀ k∈ks,h.ABy k.u (k.l.map bv)/\k.l.length<=1000)(hl:ks.length<=1000)(a b c:Int):
  ∃ h' v,call AC (m+5) 63 [pt A.bs,AI AT a,AI AT b,AI AT c] h=.ok (.tuple ⟨[v,.bool (ks.find? (Bp a b c)).isSome]⟩) h'/\h.Ext h'/\(cellsOf v).length=5/\BX (cellsOf v)=true/\∀ kx,ks.find? (Bp a b c)=some kx->∃ u,v=Bn kx.a kx.b kx.c kx.s u/\h'.BS (fun b=>h.next<=b) u (kx.l.map bv):=by
 have al:=fun (F:ABZ) (e:Env)=>BL (F:=F) (e:=e) W (n:=5) (t:=DL)
 have Ra:=Hp.Row.alloc W FQ (show(A7 0 0 0 0 ABc).length=5 from rfl);have x1:h.Ext (h.push (.cells DL 5 0)):=(Hp.Ext.refl W).push _;have n1:(h.push (.cells DL 5 0)).next=h.next+1:=rfl;generalize h.push (.cells DL 5 0)=h1 at al Ra x1 n1;obtain⟨h2,k2,y2⟩:=F0 (m:=m+1) x1.wf (R.ext W x1) (K.ext W x1) (by omega) a b c;have x2:=x1.trans y2;have p1:∀ (F:ABZ) (e:Env) (g:Hp),J 0 e=pt A.bs->oEq Hu.k false (J 0) (kV (.pointer none)) F e g=.ok (.bool false) g:=fun F e g he=>gk he
 have fin:∀ (e2:Env) (g:Hp) (v:IN) (t:Bool),d63 (call AC (m+4)) (As e0 0 [pt A.bs,AI AT a,AI AT b,AI AT c]) h=.ret e2 g->J 8 e2=pt h.next->J 9 e2=.bool t->loadN 5 ⟨h.next,0,none⟩ g=.ok v g->call AC (m+5) 63 [pt A.bs,AI AT a,AI AT b,AI AT c] h=.ok (.tuple ⟨[v,.bool t]⟩) g:=fun e2 g v t r1 r2 r3 hv=>by
  rw[lJ rfl,r1,Ay,Dv (v:=v) (by rw[r2,Aj];exact hv),r3]
 rcases Dw (Bp a b c) ks 0 with ⟨e1,e2⟩|⟨j,kx,e1,e2,e3⟩
 ·rw[e2]at k2
  have c1:iLt (-1) 0=true:=HZ (by omega);obtain⟨st,ld,x3,_,_⟩:=LN W x2 (If _) (Ra.ext x1.wf y2) rfl (a:=0) (b:=0) (c:=0) (s:=0) (u:=ABc) rfl;generalize h2.wr h.next 0 (A7 0 0 0 0 ABc)=h3 at st ld x3;have hrun:∃ e2,d63 (call AC (m+4)) (As e0 0 [pt A.bs,AI AT a,AI AT b,AI AT c]) h=.ret e2 h3/\J 8 e2=pt h.next/\J 9 e2=.bool false:=by
   unfold d63;simp only[iN,IT,sT,By,BY,reduceIte,al,p1,cA0,k2,AK,AJ,c1,Du,AW,st];exact⟨_,rfl,by simp[AG]⟩
  obtain⟨e2,r1,r2,r3⟩:=hrun;rw[e1];exact⟨h3,_,fin e2 h3 _ false r1 r2 r3 ld,x3,rfl,rfl,fun kx hk=>by cases hk⟩
 ·rw[e3,sh]at k2
  have c1:iLt (j:Int) 0=false:=E5 (by omega);obtain⟨_,_,_,l3,_⟩:=BD (R.ext W x2);obtain⟨bb,_,ix,ld6,_⟩:=(K.ext W x2).at e2;obtain⟨U,hul⟩:=hk kx (tq e2);obtain⟨h3,v',k3,y3,ov',vv'⟩:=Vt (m:=m+2) x2.wf (U.ext W x2) hul;have x3:=x2.trans y3;obtain⟨st,ld,x4,_,_⟩:=LN W x3 (If _) ((Ra.ext x1.wf y2).ext x2.wf y3) rfl (a:=kx.a) (b:=kx.b) (c:=kx.c) (s:=kx.s) (u:=v') ov';have f4:=Fx.wr (S:=fun b=>b=h.next) x3.wf ((Ra.ext x1.wf y2).ext x2.wf y3) (vs:=A7 kx.a kx.b kx.c kx.s v') (off:=0) (If _) rfl;generalize h3.wr h.next 0 (A7 kx.a kx.b kx.c kx.s v')=h4 at st ld x4 f4;have hrun:∃ e2,d63 (call AC (m+4)) (As e0 0 [pt A.bs,AI AT a,AI AT b,AI AT c]) h=.ret e2 h4/\J 8 e2=pt h.next/\J 9 e2=.bool true:=by
   unfold d63;simp only[iN,IT,sT,By,BY,reduceIte,al,p1,cA0,k2,AK,AJ,c1,Au,Ai,AH,AO,sh,AN,AQ,l3,BA,ix,Ap,Aj,ld6,k3,AW,st];exact⟨_,rfl,by simp[AG]⟩
  obtain⟨e2,r1,r2,r3⟩:=hrun;rw[e1];refine⟨h4,_,fin e2 h4 _ true r1 r2 r3 ld,x4,rfl,?_,fun k hk=>⟨v',by rw[<- Option.some.inj hk],by rw[<- Option.some.inj hk];exact(vv'.keep fun b el L hb _ r=>f4.row x3.wf r (by have:=y2.next;omega)).mono fun b hb=>uO x2.next hb⟩⟩;show(bif oneCell v' then true else false)=true;rw[ov'];rfl
theorem gz(R:h.Row A.bs 0 (slL A.bd A.tb lv fv bad ov))(V:h.ABy fv (ints .i64 (fr.map vW))):call AC (m+1) 57 [pt A.bs] h=.ok (AI AT (fr.length:Int)) h:=by
 obtain⟨_,_,_,_,l4,_⟩:=BD R;have p1:∀ (F:ABZ) (e:Env) (g:Hp),J 0 e=pt A.bs->oEq Hu.k false (J 0) (kV (.pointer none)) F e g=.ok (.bool false) g:=fun F e g he=>gk he
 have ln:=V.len;rw[show(ints .i64 (fr.map vW)).length=fr.length by unfold ints;rw[OF,OF]]at ln;rw[lG rfl];unfold d57;simp only[iN,IT,sT,By,BY,reduceIte,p1,Au,Ai,AH,AO,sh,AN,AQ,l4,AX,ln,lV0]
end
end
noncomputable section
open Go
set_option maxRecDepth 100000
section
variable {F:ABZ}{e:Env}{h h' h0:Hp}{S:Nat->Prop}{A:At}{T M:List Nat}{c0 bad m k p:Nat}{arm:Int}{ks:List Kt}{fr:List Nat}{v lv fv:IN}{ov:Bool}
def X9(T M:List Nat)(k:Kt):Prop:=∃ ns,HC T M k.p ns/\(at6 ns 1:Int)=k.a/\(at6 ns 2:Int)=k.b/\(at6 ns 3:Int)=k.c/\at6 ns 0=k.s/\dat M k.p (at6 ns 4)=k.l
theorem Yz:d64=Wu:=rfl
theorem bY(W:h.Wf)(s:Sl h A T M c0 arm ks fr lv fv bad ov){j:Nat}{kx:Kt}(hj:ks[j]? =some kx){a b c:Int}(hf:Fd (Bp a b c) 0 ks=(j:Int))(ACk:kx.a=a/\kx.b=b/\kx.c=c)(hp3:3*kx.p+3<=A.n):
  ∃ h' r,call AC (m+6) 64 [pt A.bs,AI AT a,AI AT b,AI AT c] h=.ok (.bool r) h'/\h.Ext h'/\(r=true↔X9 T M kx):=by
 obtain⟨rfl,rfl,rfl⟩:=ACk;have hkm:=tq hj;obtain⟨o1,o2,o3,o4,o5,o6⟩:=s.ko kx hkm;have p1:∀ (F:ABZ) (e:Env) (g:Hp),J 0 e=pt A.bs->oEq Hu.k false (J 0) (kV (.pointer none)) F e g=.ok (.bool false) g:=fun F e g he=>gk he
 obtain⟨h1,k1,x1⟩:=F0 (m:=m+2) W s.row s.ls.ks (by have:=s.le.1;omega) kx.a kx.b kx.c;rw[hf]at k1;have c1:iLt (j:Int) 0=false:=E5 (by omega);have s1:=s.ext W x1;obtain⟨_,_,_,l3,_⟩:=BD s1.row;obtain⟨bb,_,ix,_,lde⟩:=s1.ls.ks.at hj;have lp:=lde 5 (AI AT (kx.p:Int)) rfl;obtain⟨h2,x2,LK⟩:=VX (m:=m) x1.wf s1.row s1.tab s.tok s1.dk hp3;have x12:=x1.trans x2;have al:=fun (F:ABZ) (e:Env)=>BL (F:=F) (e:=e) x12.wf (n:=6) (t:=Cr)
 have Ra:=Hp.Row.alloc x12.wf Fq (show(Af K0).length=6 from rfl);have y3:h2.Ext (h2.push (.cells Cr 6 0)):=(Hp.Ext.refl x12.wf).push _;have n3:(h2.push (.cells Cr 6 0)).next=h2.next+1:=rfl;generalize h2.push (.cells Cr 6 0)=h3 at al Ra y3 n3;have c00:iEq 0 0=true:=CU rfl;rcases LK with ⟨ns,u,hH,hk,hu⟩|⟨hH,bd,hk,AD5⟩
 ·generalize hX:(⟨at6 ns 1,at6 ns 2,at6 ns 3,at6 ns 0,dat M kx.p (at6 ns 4),kx.p,u⟩:Kt)=X at hk
  have hXu:X.u=u:=by rw[<- hX]
  obtain⟨st,_,y4,R10,n4⟩:=My x12.wf y3 (If _) Ra rfl (k:=X) (by rw[hXu];exact hu.vs.one.2.1);generalize h3.wr h2.next 0 (Af X)=h4 at st y4 R10 n4;have x4:=x12.trans y4;have x4m:=x4.marked;have s4:=s.ext W x4m;obtain⟨m0,m1,m2,m3,m4,_⟩:=CV (R10.same (h':=h4.marked) rfl);obtain⟨_,_,_,l34,_⟩:=BD s4.row;obtain⟨bb4,_,ix4,_,AGS⟩:=s4.ls.ks.at hj;have ls4:=AGS 3 (.int .u8 (kx.s:Int)) rfl;have lu4:=AGS 4 kx.u rfl;have hns:∀ ns',HC T M kx.p ns'->ns'=ns:=fun ns' h=>Gc h.1 hH.1
  have hXf:X.a=at6 ns 1/\X.b=at6 ns 2/\X.c=at6 ns 3/\X.s=at6 ns 0:=by rw[<- hX];exact⟨rfl,rfl,rfl,rfl⟩
  obtain⟨f1,f2,f3,f4⟩:=hXf;rw[f1]at m0;rw[f2]at m1;rw[f3]at m2;rw[f4]at m3;rw[hXu]at m4;have pre:∃ e1,Wu (call AC (m+5)) (As e0 0 [pt A.bs,AI AT kx.a,AI AT kx.b,AI AT kx.c]) h=sdT (call AC (m+5)) e1 h4/\J 0 e1=pt A.bs/\J 1 e1=AI AT kx.a/\J 2 e1=AI AT kx.b/\J 3 e1=AI AT kx.c/\J 9 e1=AI AT (j:Int)/\J 10 e1=pt h2.next/\J 11 e1=.bool true/\J 13 e1=AI AT 0:=by
   unfold Wu;simp only[iN,IT,sT,By,BY,reduceIte,p1,cA0,k1,AK,AJ,c1,Au,Ai,AH,AO,sh,AN,AQ,l3,BA,ix,lp,hk,Ao,Ax,A2,Bu,Gr,al,AW,st];exact⟨_,rfl,by simp[AG]⟩
  obtain⟨e1,q1,t0,t1,t2,t3,t9,t10,t11,t13⟩:=pre;have fin:∀ (e2:Env) (g:Hp) (t:Bool),sdT (call AC (m+5)) e1 h4=.ret e2 g->J 8 e2=.bool t->call AC (m+6) 64 [pt A.bs,AI AT kx.a,AI AT kx.b,AI AT kx.c] h=.ok (.bool t) g:=fun e2 g t r1 r2=>by
   rw[Ya rfl,Yz,q1,r1];simp only[lV0,r2]
  by_cases g1:(at6 ns 1:Int)=kx.a
  ·have d1:iEq (at6 ns 1:Int) kx.a=true:=CU g1
   by_cases g2:(at6 ns 2:Int)=kx.b
   ·have d2:iEq (at6 ns 2:Int) kx.b=true:=CU g2
    by_cases g3:(at6 ns 3:Int)=kx.c
    ·have d3:iEq (at6 ns 3:Int) kx.c=true:=CU g3
     by_cases g4:at6 ns 0=kx.s
     ·have d4:iEq (at6 ns 0:Int) (kx.s:Int)=true:=CU (by omega)
      have hlen:(dat M kx.p (at6 ns 4)).length<=900000:=by
       unfold dat;rw[uL];have:=hH.2.1;omega
      obtain⟨h5,k5,x5⟩:=ZR (m:=m+4) x4m.quiet.wf ((hu.vs.vals.ext x12.wf y4).same (h':=h4.marked.quiet) rfl) ((s4.ko kx hkm).1.vs.vals.same (h':=h4.marked.quiet) rfl) hlen;have q5:∀ e:Env,J 82 e=u->J 91 e=kx.u->Aa .free (AS 96 [J 82,J 91]) (call AC (m+5)) e h4.marked=.ok (.bool (decide (dat M kx.p (at6 ns 4)=kx.l))) (h4.marked.back h5):=fun e e1 e2=>by
       refine BF ?_;rw[BP,AU,AU,A5,e1,e2];exact k5
      have hrun:∃ e2,sdT (call AC (m+5)) e1 h4=.ret e2 (h4.marked.back h5)/\J 8 e2=.bool (decide (dat M kx.p (at6 ns 4)=kx.l)):=by
       unfold sdT;simp only[sT,By,BY,reduceIte,gD,Az,AK,AJ,t13,c00,t11,t10,AH,AO,sh,vS,AN,AQ,m0,m1,m2,m3,m4,t1,t2,t3,d1,d2,d3,t0,Au,Ai,l34,t9,BA,ix4,ls4,d4,lu4,q5];exact⟨_,rfl,by simp[AG]⟩
      obtain⟨e2,r1,r2⟩:=hrun;refine⟨_,_,fin e2 _ _ r1 r2,x4m.trans (.back x5),?_⟩;rw[decide_eq_true_eq];constructor
      ·exact fun h=>⟨ns,hH,g1,g2,g3,g4,h⟩
      ·rintro⟨ns',a1,_,_,_,_,a6⟩
       rw[hns ns' a1]at a6;exact a6
     ·have d4:iEq (at6 ns 0:Int) (kx.s:Int)=false:=B9 (by omega)
      have hrun:∃ e2,sdT (call AC (m+5)) e1 h4=.ret e2 h4.marked/\J 8 e2=.bool false:=by
       unfold sdT;simp only[sT,By,BY,reduceIte,gD,Az,AK,AJ,t13,c00,t11,t10,AH,AO,sh,vS,AN,AQ,m0,m1,m2,m3,m4,t1,t2,t3,d1,d2,d3,t0,Au,Ai,l34,t9,BA,ix4,ls4,d4];exact⟨_,rfl,by simp[AG]⟩
      obtain⟨e2,r1,r2⟩:=hrun;refine⟨_,_,fin e2 _ _ r1 r2,x4m,⟨fun h=>(by cases h),?_⟩⟩;rintro⟨ns',a1,_,_,_,a5,_⟩;rw[hns ns' a1]at a5;exact absurd a5 g4
    ·have d3:iEq (at6 ns 3:Int) kx.c=false:=B9 g3
     have hrun:∃ e2,sdT (call AC (m+5)) e1 h4=.ret e2 h4.marked/\J 8 e2=.bool false:=by
      unfold sdT;simp only[sT,By,BY,reduceIte,gD,Az,AK,AJ,t13,c00,t11,t10,AH,AO,sh,vS,AN,AQ,m0,m1,m2,t1,t2,t3,d1,d2,d3];exact⟨_,rfl,by simp[AG]⟩
     obtain⟨e2,r1,r2⟩:=hrun;refine⟨_,_,fin e2 _ _ r1 r2,x4m,⟨fun h=>(by cases h),?_⟩⟩;rintro⟨ns',a1,_,_,a4,_,_⟩;rw[hns ns' a1]at a4;exact absurd a4 g3
   ·have d2:iEq (at6 ns 2:Int) kx.b=false:=B9 g2
    have hrun:∃ e2,sdT (call AC (m+5)) e1 h4=.ret e2 h4.marked/\J 8 e2=.bool false:=by
     unfold sdT;simp only[sT,By,BY,reduceIte,gD,Az,AK,AJ,t13,c00,t11,t10,AH,AO,sh,vS,AN,AQ,m0,m1,t1,t2,d1,d2];exact⟨_,rfl,by simp[AG]⟩
    obtain⟨e2,r1,r2⟩:=hrun;refine⟨_,_,fin e2 _ _ r1 r2,x4m,⟨fun h=>(by cases h),?_⟩⟩;rintro⟨ns',a1,_,a3,_⟩;rw[hns ns' a1]at a3;exact absurd a3 g2
  ·have d1:iEq (at6 ns 1:Int) kx.a=false:=B9 g1
   have hrun:∃ e2,sdT (call AC (m+5)) e1 h4=.ret e2 h4.marked/\J 8 e2=.bool false:=by
    unfold sdT;simp only[sT,By,BY,reduceIte,gD,Az,AK,AJ,t13,c00,t11,t10,AH,AO,sh,vS,AN,AQ,m0,t1,d1];exact⟨_,rfl,by simp[AG]⟩
   obtain⟨e2,r1,r2⟩:=hrun;refine⟨_,_,fin e2 _ _ r1 r2,x4m,⟨fun h=>(by cases h),?_⟩⟩;rintro⟨ns',a1,a2,_⟩;rw[hns ns' a1]at a2;exact absurd a2 g1
 ·obtain⟨st,_,y4,R10,n4⟩:=My x12.wf y3 (If _) Ra rfl (k:=K0) rfl
  generalize h3.wr h2.next 0 (Af K0)=h4 at st y4 R10 n4;have x4m:=(x12.trans y4).marked;have hrun:∃ e2,Wu (call AC (m+5)) (As e0 0 [pt A.bs,AI AT kx.a,AI AT kx.b,AI AT kx.c]) h=.ret e2 h4.marked/\J 8 e2=.bool false:=by
   unfold Wu sdT;simp only[iN,IT,sT,By,BY,reduceIte,gD,p1,cA0,k1,AK,AJ,c1,Au,Ai,AH,AO,sh,AN,AQ,l3,BA,ix,lp,hk,Ao,Ax,A2,Bu,Gr,al,AW,st,Az,c00];exact⟨_,rfl,by simp[AG]⟩
  obtain⟨e2,r1,r2⟩:=hrun;refine⟨h4.marked,false,?_,x4m,⟨fun h=>(by cases h),fun⟨ns',a1,_⟩=>absurd ⟨ns',a1⟩ hH⟩⟩;rw[Ya rfl,Yz,r1];simp only[lV0,r2]
theorem jJ:aaS=BB (AY 0 (A4 aaB)) aaE:=rfl
theorem nO:d40=eG:=rfl
theorem ie:BO IO.zero 1=A7 0 0 0 0 ABc:=by kernel_rfl
theorem bT(W:h.Wf){g:O}{a b c:Int}{s:Nat}{u:IN}(hg:g e=Bn a b c s u):Ab 1 (BO IO.zero 1) [(0,5,g)] F e h=.ok (.slice (some ⟨h.next,0,none⟩) 1 1) (h.ABY 0 (A7 a b c s u)):=by
 rw[ie,Bq,Ad (hk:=by rw[hg];rfl),hg,show cellsOf (Bn a b c s u)=A7 a b c s u from rfl,if_pos (show(A7 a b c s u).length=5 from rfl),if_pos (show 0+5<=(A7 0 0 0 0 ABc).length from If _),Bg,CQ W];rfl
def KE(k:Kt):List IN:=A7 k.a k.b k.c k.s k.u
def flS(L:List Kt):List IN:=L.flatMap KE
theorem O4:∀ L:List Kt,(flS L).length=L.length*5
 |[]=>rfl
 |k::l=>by
  show(KE k++flS l).length=_;rw[No,O4 l,tZ];show 5+l.length*5=_;omega
theorem eh(a b:List Kt):flS (a++b)=flS a++flS b:=List.flatMap_append
def Hp.AL(h:Hp)(k:Nat)(v:IN)(ks:List Kt):Prop:=(v=ABc/\ks=[])\/∃ b L,v=.slice (some ⟨b,0,none⟩) ks.length ks.length/\h.Row b 56 (flS L)/\L.map Kt.core=ks.map Kt.core/\k<=b/\∀ x∈L,h.BS (fun b=>k<=b) x.u (x.l.map bv)
theorem UH(W:h.Wf)(Rs:h.Row A.bs 0 (slL A.bd A.tb lv fv bad ov))(K:h.KS S lv ks)(hk:∀ k∈ks,h.ABy k.u (k.l.map bv)/\k.l.length<=1000/\oneCell k.u=true)(hl:ks.length<=1000):
  ∃ h' v,call AC (m+4) 40 [pt A.bs] h=.ok v h'/\h.Ext h'/\h'.AL h.next v ks:=by
 have p1:∀ (F:ABZ) (e:Env) (g:Hp),J 0 e=pt A.bs->oEq Hu.k false (J 0) (kV (.pointer none)) F e g=.ok (.bool false) g:=fun F e g he=>gk he
 obtain⟨_,_,_,l3,_⟩:=BD Rs;have ln:=K.len h;have pre:∃ e1,eG (call AC (m+3)) (As e0 0 [pt A.bs]) h=aaS (call AC (m+3)) e1 h/\J 3 e1=ABc/\J 11 e1=lv/\J 12 e1=AI AT (ks.length:Int)/\J 13 e1=AI AT ((0:Nat):Int):=by
  unfold eG;simp only[iN,IT,sT,By,BY,reduceIte,p1,Au,Ai,AH,AO,sh,AN,AQ,l3,AX,ln];exact⟨_,rfl,by simp[AG]⟩
 obtain⟨e1,q1,s3,s11,s12,s13⟩:=pre;have run:∃ e' h' v,A4 aaB (call AC (m+3)) e1 h=.exit 0 e' h'/\h.Ext h'/\J 3 e'=v/\h'.AL h.next v ks:=by
  refine Bb (I:=fun i e' h'=>∃ v,h.Ext h'/\J 3 e'=v/\J 11 e'=lv/\J 12 e'=AI AT (ks.length:Int)/\J 13 e'=AI AT (i:Int)/\i<=ks.length/\h'.AL h.next v (ks.take i))
   (Q:=fun x=>∃ e' h' v,x=.exit 0 e' h'/\h.Ext h'/\J 3 e'=v/\h'.AL h.next v ks) ks.length (by omega) (fun i e' h' ⟨v,x',t3,t11,t12,t13,hi,hv⟩=>?_) ⟨_,.refl W,s3,s11,s12,s13,uD _,.inl ⟨rfl,rfl⟩⟩
  have W':=x'.wf;by_cases hlt:i<ks.length
  ·left
   have c1:=EP hlt;obtain⟨x,hx⟩:∃ x,ks[i]? =some x:=⟨_,List.getElem?_eq_getElem hlt⟩;obtain⟨U,ul,ou⟩:=hk x (tq hx);obtain⟨bb,_,ix,ld,_⟩:=(K.ext W x').at hx;have al:=fun (F:ABZ) (e:Env)=>BL (F:=F) (e:=e) W' (n:=6) (t:=Cr)
   have Ra:=Hp.Row.alloc W' Fq (show(Af K0).length=6 from rfl);have y1:h'.Ext (h'.push (.cells Cr 6 0)):=(Hp.Ext.refl W').push _;generalize h'.push (.cells Cr 6 0)=h1 at al Ra y1;obtain⟨st,ld2,y2,R5,n2⟩:=My W' y1 (If _) Ra rfl (k:=x) ou;generalize h1.wr h'.next 0 (Af x)=h2 at st ld2 y2 R5 n2;have x2:=x'.trans y2;obtain⟨h3,v',k3,y3,ov',vv'⟩:=Vt (m:=m+1) x2.wf (U.ext W x2) ul;have x3:=x2.trans y3;have sl:=fun (F:ABZ) (e:Env) (he:J 19 e=Bn x.a x.b x.c x.s v')=>bT (F:=F) x3.wf he
   have x4:=x3.ABY 0 (A7 x.a x.b x.c x.s v');have y4:=(Hp.Ext.refl x3.wf).ABY 0 (A7 x.a x.b x.c x.s v');have Rw:=Hp.Row.new x3.wf 0 (A7 x.a x.b x.c x.s v');generalize h3.ABY 0 (A7 x.a x.b x.c x.s v')=h4 at sl x4 y4 Rw;have hs:∀ K:List IN->R,BI h4 5 (.slice (some ⟨h3.next,0,none⟩) 1 1) 1 K=K (A7 x.a x.b x.c x.s v'):=fun K=>Rw.ADZ (es:=5) (off:=0) (n:=1) (by show 0+1 * 5<=5;omega)
   have ha:BX (A7 x.a x.b x.c x.s v')=true:=by
    show(bif oneCell v' then true else false)=true;rw[ov'];rfl
   have big:=W.big;have htk:ks.take (i+1)=ks.take i++[x]:=by rw[List.take_add_one,hx];rfl
   have hil:(ks.take i).length=i:=by rw[uL];omega
   have vn:h4.BS (fun b=>h.next<=b) v' (x.l.map bv):=(vv'.ext x3.wf y4).mono fun b hb=>by have:=x2.next;omega
   have app:∃ h5 b5 L5,DN 5 56 55 v (.slice (some ⟨h3.next,0,none⟩) 1 1) h4=.ok (.slice (some ⟨b5,0,none⟩) (i+1) (i+1)) h5/\h.Ext h5/\h5.Row b5 56 (flS L5)/\L5.map Kt.core=(ks.take (i+1)).map Kt.core/\h.next<=b5/\∀ y∈L5,h5.BS (fun b=>h.next<=b) y.u (y.l.map bv):=by
    rcases hv with ⟨hv,h0⟩|⟨b,L,hv,r,hL,hb,hvs⟩
    ·have h0:i=0:=by rw[h0]at hil;exact hil.symm
     obtain⟨h5,a1,a2,a3,a4,_,a6⟩:=Jd (eb:=56) (en:=55) x4 hs rfl rfl ha (by omega);exact⟨h5,_,[{x with u:=v'}],by rw[hv,h0];exact a1,a2,a3,by rw[htk,h0];rfl,x4.next,fun y hy=>by rw[uF.1 hy];exact vn.ext x4.wf a6⟩
    ·rw[hil]at hv
     have hLl:L.length=i:=by rw[<- OF (f:=Kt.core),hL,OF,hil]
     have r4:=((r.ext W' y2).ext x2.wf y3).ext x3.wf y4;obtain⟨h5,a1,a2,a3,_,_,a6⟩:=JZ (eb:=56) (en:=55) (n:=i) x4 hs rfl rfl (by omega) ha r4 (by rw[O4,hLl]) hb (by omega) (by omega);refine⟨h5,_,L++[{x with u:=v'}],by rw[hv];exact a1,a2,by rw[eh];exact a3,by rw[htk,ud,ud,hL];rfl,x4.next,fun y hy=>?_⟩;have kp:∀ y:Kt,h4.BS (fun b=>h.next<=b) y.u (y.l.map bv)->h5.BS (fun b=>h.next<=b) y.u (y.l.map bv):=fun y o=>by
      rcases o with h1|⟨b6,off,c,el,L6,q1,q2,q3,q4,q5,q6,q7⟩
      ·exact .inl h1
      ·exact .inr ⟨b6,off,c,el,L6,q1,q2,a6 b6 el L6 (FJ q3 r4 (by omega)) q3,q4,q5,q6,q7⟩
     rcases uP.1 hy with h1|h1
     ·exact kp y ((((hvs y h1).ext W' y2).ext x2.wf y3).ext x3.wf y4)
     ·rw[uF.1 h1];exact kp _ vn
   obtain⟨h5,b5,L5,k5,x5,R5',hL5,hb5,AHU⟩:=app;have a3:=Cd (i:=i) (h:=h5) (by omega);have hrun:∃ e2,aaB (call AC (m+3)) e' h'=.norm e2 h5/\J 3 e2=.slice (some ⟨b5,0,none⟩) (i+1) (i+1)/\J 11 e2=lv/\J 12 e2=AI AT (ks.length:Int)/\J 13 e2=AI AT ((i+1:Nat):Int):=by
    unfold aaB;simp only[sT,By,BY,reduceIte,AK,AJ,t13,t12,c1,BA,t11,ix,Ap,Aj,ld,al,AW,st,ld2,cA0,k3,sl,BZ,t3,k5,BR,a3];exact⟨_,rfl,by simp[AG,t11,t12]⟩
   obtain⟨e2,r1,r2,r3,r4,r5⟩:=hrun;exact⟨hlt,e2,h5,r1,_,x5,r2,r3,r4,r5,by omega,.inr ⟨b5,L5,by rw[htk,No,hil];rfl,R5',hL5,hb5,AHU⟩⟩
  ·right
   have hie:i=ks.length:=by omega
   have c1:=Cv (show ks.length<=i by omega);have hrun:∃ e2,aaB (call AC (m+3)) e' h'=.exit 0 e2 h'/\J 3 e2=v:=by
    unfold aaB;simp only[sT,By,BY,reduceIte,AK,AJ,t13,t12,c1];exact⟨_,rfl,by simp[AG,t3]⟩
   obtain⟨e2,r1,r2⟩:=hrun;rw[r1];rw[hie,vF]at hv;exact⟨rfl,e2,h',v,rfl,x',r2,hv⟩
 obtain⟨e2,h2,v,r1,x2,r2,hv⟩:=run;have key:call AC (m+4) 40 [pt A.bs] h=.ok v h2:=by
  rw[kZ rfl,nO,q1,jJ];simp only[A9,An,r1,A8,A3];unfold aaE;simp only[sT,By,BY,reduceIte,r2,lV0]
 exact⟨h2,v,key,x2,hv⟩
end
end
noncomputable section
open Go
set_option maxRecDepth 100000
def Gd(ks:List Kt)(n:Nat)(a b c:Int)(l:List Nat):Option Int:=
 if ABp a b c 1 l.length=false\/100<l.length then some 2
 else match ks.find? (Bp a b c)with
  |some k=>if k.l=l then some 0 else some 60
  |none=>if Cc a b c ks=true then some 61 else if n=0 then some 62 else none
section
variable {F:ABZ}{e:Env}{h h':Hp}{A:At}{T M:List Nat}{c0 bad m k p:Nat}{arm:Int}{ks:List Kt}{fr:List Nat}{lv fv:IN}
theorem ax(W:h.Wf)(s:Sl h A T M c0 arm ks fr lv fv bad false){a b c:Int}{l:List Nat}{u:IN}(V:h.VE u (l.map bv))(hl:l.length<=1000){z:Int}(hz:Gd ks fr.length a b c l=some z):
  ∃ h',call AC (m+8) 58 [pt A.bs,AI AT a,AI AT b,AI AT c,u] h=.ok (AI AT z) h'/\h.Ext h':=by
 have hkl:=s.le.1;have c00:iNe 0 0=false:=B5 rfl;have k0:=NO (m:=m+6) s.row;obtain⟨h1,vc,k1,x1,mk1⟩:=Ni (n:=m+6) W V (by omega);have oc:=mk1.one;have bl:=fun (F:ABZ) (e:Env) (e1:J 1 e=AI AT a) (e2:J 2 e=AI AT b) (e3:J 3 e=AI AT c) (e4:J 28 e=vc)=>QA (F:=F) (h:=h1) (g1:=J 1) (g2:=J 2) (g3:=J 3) (g5:=J 28) e1 e2 e3 e4 oc.1 oc.2.2
 have al:=fun (F:ABZ) (e:Env)=>BL (F:=F) (e:=e) x1.wf (n:=5) (t:=DL)
 have Ra:=Hp.Row.alloc x1.wf FQ (show(A7 0 0 0 0 ABc).length=5 from rfl);have y2:h1.Ext (h1.push (.cells DL 5 0)):=(Hp.Ext.refl x1.wf).push _;generalize h1.push (.cells DL 5 0)=h2 at al Ra y2;obtain⟨st,_,y3,R12,n3⟩:=LN x1.wf y2 (If _) Ra rfl (a:=a) (b:=b) (c:=c) (s:=1) (u:=vc) oc.2.1;generalize h2.wr h1.next 0 (A7 a b c 1 vc)=h3 at st y3 R12 n3;have x3:=x1.trans y3;obtain⟨_,_,_,_,_,ADq⟩:=Br R12;have lnc:∀ g,AB2 vc g=.ok (AI AT (l.length:Int)) g:=fun g=>mk1.vals.bl g
 have k4:=Jn (n:=m+6) x3.wf (a:=a) (b:=b) (c:=c) (s:=1) (u:=vc) lnc;have y4:=(Hp.Ext.refl x3.wf).ABY 0 (A7 a b c 1 vc);generalize h3.ABY 0 (A7 a b c 1 vc)=h4 at k4 y4;have x4:=x3.trans y4;have lnu:∀ g:Hp,AB2 u g=.ok (AI AT (l.length:Int)) g:=fun g=>V.bl g
 obtain⟨_,_,l2,_⟩:=BD (s.row.ext W x4);have s4:=s.ext W x4;unfold Gd at hz;by_cases hr:ABp a b c 1 l.length=false
 ·rw[if_pos (.inl hr)]at hz
  cases hz;rw[hr]at k4;refine⟨h4,?_,x4⟩;rw[Ie rfl,Ik];unfold NR;simp only[iN,IT,sT,By,BY,reduceIte,gD,cA0,k0,AK,AJ,c00,k1,bl,al,AW,st,Ap,Aj,ADq,k4,BM,BK,Bool.not_false,lV0]
 ·have hr':ABp a b c 1 l.length=true:=by
   cases hq:ABp a b c 1 l.length
   ·exact absurd hq hr
   ·rfl
  rw[hr']at k4;by_cases ADp:100<l.length
  ·rw[if_pos (.inr ADp)]at hz
   cases hz;have c1:iGt (l.length:Int) 100=true:=Fc (by omega);refine⟨h4,?_,x4⟩;rw[Ie rfl,Ik];unfold NR;simp only[iN,IT,sT,By,BY,reduceIte,gD,cA0,k0,AK,AJ,c00,k1,bl,al,AW,st,Ap,Aj,ADq,k4,BM,BK,uX,AX,lnu,Au,Ai,AH,AO,sh,AN,AQ,l2,c1,lV0]
  ·rw[if_neg (by
    rintro (h|h)
    ·exact hr h
    ·exact ADp h)]at hz
   have c1:iGt (l.length:Int) 100=false:=E4 (by omega);obtain⟨h5,k5,x5⟩:=F0 (m:=m+4) x4.wf s4.row s4.ls.ks (by omega) a b c;have x45:=x4.trans x5;have s5:=s.ext W x45;rcases Dw (Bp a b c) ks 0 with ⟨e1,e2⟩|⟨j,kx,e1,e2,e3⟩
   ·rw[e2]at k5
    rw[e1]at hz;simp only at hz;have c2:iGe (-1) 0=false:=EK (by omega);obtain⟨h6,k6,x6⟩:=Gh (m:=m+3) x45.wf s5.row s5.ls.ks (by omega) a b c;have x46:=x45.trans x6;have s6:=s.ext W x46;cases hst:Cc a b c ks with
    |true=>
     rw[hst]at k6 hz;cases hz;refine⟨h6,?_,x46⟩;rw[Ie rfl,Ik];unfold NR;simp only[iN,IT,sT,By,BY,reduceIte,gD,cA0,k0,AK,AJ,c00,k1,bl,al,AW,st,Ap,Aj,ADq,k4,BM,BK,uX,AX,lnu,Au,Ai,AH,AO,sh,AN,AQ,l2,c1,k5,c2,k6,A9,An,CE,Cq,lV0]
    |false=>
     rw[hst]at k6 hz;rw[if_neg (by decide)]at hz;by_cases hf:fr.length=0
     ·rw[if_pos hf]at hz
      cases hz;obtain⟨_,_,_,_,l4,_⟩:=BD s6.row;have lnf:=s6.fs.vals.len;have hil:(ints .i64 (fr.map vW)).length=fr.length:=by unfold ints;rw[OF,OF]
      rw[hil,hf]at lnf;have c3:iEq ((0:Nat):Int) 0=true:=CU rfl;refine⟨h6,?_,x46⟩;rw[Ie rfl,Ik];unfold NR;simp only[iN,IT,sT,By,BY,reduceIte,gD,cA0,k0,AK,AJ,c00,k1,bl,al,AW,st,Ap,Aj,ADq,k4,BM,BK,uX,AX,lnu,Au,Ai,AH,AO,sh,AN,AQ,l2,c1,k5,c2,k6,l4,lnf,c3,A9,An,CE,Cq,lV0]
     ·rw[if_neg hf]at hz;cases hz
   ·rw[e3,sh]at k5
    rw[e1]at hz;simp only at hz;have c2:iGe (j:Int) 0=true:=F2 (by omega);obtain⟨_,_,_,l3,_⟩:=BD s5.row;obtain⟨bb,_,ix,_,lde⟩:=s5.ls.ks.at e2;have lu:=lde 4 kx.u rfl;have hkm:=tq e2;obtain⟨h6,k6,x6⟩:=Nn (m:=m+6) x45.wf ((s5.ko kx hkm).1.vs.vals) (V.ext W x45) (by have:=(s5.ko kx hkm).2.2.1;omega);have k6:call AC (m+7) 96 [kx.u,u] h5=.ok (.bool (decide (kx.l=l))) h6:=k6;refine⟨h6,?_,x45.trans x6⟩;by_cases hkl:kx.l=l
    ·rw[if_pos hkl]at hz
     cases hz;rw[decide_eq_true hkl]at k6;rw[Ie rfl,Ik];unfold NR;simp only[iN,IT,sT,By,BY,reduceIte,gD,cA0,k0,AK,AJ,c00,k1,bl,al,AW,st,Ap,Aj,ADq,k4,BM,BK,uX,AX,lnu,Au,Ai,AH,AO,sh,AN,AQ,l2,c1,k5,c2,l3,BA,ix,lu,vS,k6,lV0]
    ·rw[if_neg hkl]at hz
     cases hz;rw[decide_eq_false hkl]at k6;rw[Ie rfl,Ik];unfold NR;simp only[iN,IT,sT,By,BY,reduceIte,gD,cA0,k0,AK,AJ,c00,k1,bl,al,AW,st,Ap,Aj,ADq,k4,BM,BK,uX,AX,lnu,Au,Ai,AH,AO,sh,AN,AQ,l2,c1,k5,c2,l3,BA,ix,lu,vS,k6,lV0]
theorem av(W:h.Wf)(s:Sl h A T M c0 arm ks fr lv fv bad false){a b c:Int}{l:List Nat}{u:IN}(V:h.VE u (l.map bv))(hb:∀ x∈l,x<256)(hl:l.length<=1000)(hkl:ks.length<=10)(ha:CI arm (k+10)):
  (∃ z h',Gd ks fr.length a b c l=some z/\call AC (m+8) 58 [pt A.bs,AI AT a,AI AT b,AI AT c,u] h=.ok (AI AT z) h'/\h.Ext h')\/
  (Gd ks fr.length a b c l=none/\∃ p fr2 h' c1 AB7 lv' fv' k',fr=p::fr2/\call AC (m+8) 58 [pt A.bs,AI AT a,AI AT b,AI AT c,u] h=.ok (AI AT 0) h'/\Fx A.D h h'/\
   Sl h' A T (EA T M p l (AB1 T a b c 1 l)) c1 AB7 (GB (ks++[k'])) fr2 lv' fv' bad false/\k'.core=⟨a,b,c,1,l,p⟩/\CI AB7 k/\∀ b,ABw k'.u b->h.next<=b):=by
 cases hz:Gd ks fr.length a b c l with
 |some z=>
  obtain⟨h',k1,x1⟩:=ax (m:=m) W s V hl hz;exact .inl ⟨z,h',rfl,k1,x1⟩
 |none=>
  right;unfold Gd at hz;split at hz
  ·cases hz
  rename_i hn;have hr:ABp a b c 1 l.length=true:=by
   cases hq:ABp a b c 1 l.length
   ·exact absurd (.inl hq) hn
   ·rfl
  have ADp:l.length<=100:=Nat.le_of_not_lt fun h=>hn (.inr h)
  split at hz
  ·split at hz<;>cases hz
  rename_i hfd;split at hz
  ·cases hz
  rename_i hst;split at hz
  ·cases hz
  rename_i hf0;cases fr with
  |nil=>exact absurd rfl hf0
  |cons p fr2=>
   have AEr:ks.any (Bp a b c)=false:=by
    rw[List.any_eq_false];intro x hx;exact List.find?_eq_none.1 hfd x hx
   have ADr:Cc a b c ks=false:=by
    cases hq:Cc a b c ks
    ·rfl
    ·exact absurd hq hst
   obtain⟨h',c1,AB7,lv',fv',k',q1,q2,q3,q4,q5,q6⟩:=ay (m:=m) W s V hb ADp hr AEr ADr hkl ha;exact⟨rfl,p,fr2,h',c1,AB7,lv',fv',k',rfl,q1,q2,q3,q4,q5,q6⟩
end
end
noncomputable section
open Go
set_option maxRecDepth 100000
theorem dD:BU 107 [] mR:=BV (by kernel_rfl) rfl
theorem dT:BU 132 [] mw:=BV (by kernel_rfl) rfl
theorem dZ:BU 149 [] nH:=BV (by kernel_rfl) rfl
theorem da:BU 155 [.t (J 4)] nI:=BV (by kernel_rfl) rfl
end
end Go.Proofs.YtbjadbhkogcfeaaGreat
