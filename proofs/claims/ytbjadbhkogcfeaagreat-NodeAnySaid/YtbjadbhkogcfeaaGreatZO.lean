/-
  Part ZO of what Lawan stands on: printed by program, names and spaces cut.
-/
import Derived.Test.YtbjadbhkogcfeaaGreatZN
open Go.Value renaming int→AI
open Go.IntKind renaming i64→AT
open Nat renaming reduceEqDiff→BY,reduceLT→By,reduceAdd→IT,le_refl→If,zero_add→sh,succ→tk,zero_le→uD,le_trans→uO,eq_zero_or_pos→ug,mul→ur,add_zero→vS,mul_comm→wP,min_le_right→wg,one_pos→ABL,le_min→ABS
open Go renaming Value→IN
open List renaming length_append→No,length_map→OF,getElem?_eq_getElem→tW,getD_eq_getElem?_getD→tY,length_cons→tZ,mem_cons_of_mem→td,mem_cons_self→te,replicate→th,mem_of_getElem?→tq,mem_cons→uA,append_assoc→uC,mem_singleton→uF,append_nil→uH,getElem?_eq_some_iff→uK,length_take→uL,nil_append→uN,mem_append→uP,length_nil→uR,mem_append_right→uY,length_drop→ua,map_append→ud,mem_append_left→uf,getElem?_map→uq,mem_filter→ut,drop_zero→uv,take_length→vF,eq_nil_of_length_eq_zero→vJ,mem_map→vL,take_append_drop→va,length_filter_le→vd,filter_cons_of_pos→vp,filter_cons_of_neg→vq,drop_eq_getElem_cons→vr,reverse_append→wL,reverse_perm→wR,nodup_cons→wi,drop_length_add_append→wm,length_reverse→xG,perm_middle→xR,nodup_append→xT,map_cons→xU,map_set→xa,length→xc,drop_length→xe,find?_some→yF,filter_nil→yG,reverse_reverse→yM,find?_eq_none→yO,mem_nil_iff→zD,take_left→zf,perm_append_comm→zg,filter_sublist→zw,take_add_one→AAI,reverse_cons→AAJ,foldl_append→AAL,ext_getElem→AAV
open Bool renaming and_eq_true→uB
open Int renaming sub→uZ
open Go.Value renaming int→ue,slice→yh
open Option renaming map_some→vN
open List.Pairwise renaming sublist→yc
open List.Perm renaming trans→zk
set_option linter.unusedVariables false
set_option linter.unusedSimpArgs false
namespace Go.Proofs.YtbjadbhkogcfeaaGreat
noncomputable section
open Go
set_option maxRecDepth 100000
def PE(x:Nat):List Nat->List Nat
 |[]=>[x]
 |y::r=>if x<y then y::PE x r else x::y::r
def NT(A:List Nat)(x:Nat):List Nat:=(PE x A.reverse).reverse
def ba:List Nat->List Nat->List Nat
 |A,[]=>A
 |A,x::B=>ba (NT A x) B
def Ef(l:List Nat):List Nat:=ba (l.take 1) (l.drop 1)
theorem KU(x y:Nat)(r:List Nat):PE x (y::r)=if x<y then y::PE x r else x::y::r:=rfl
theorem N7(x:Nat):∀ l:List Nat,(PE x l).Perm (x::l)
 |[]=>.refl _
 |y::r=>by
  rw[KU];split
  ·exact((N7 x r).cons y).trans (.swap x y r)
  ·exact .refl _
theorem N3(A:List Nat)(x:Nat):(NT A x).Perm (x::A):=by
 unfold NT;exact(wR _).trans ((N7 x _).trans ((wR A).cons x))
theorem OU:∀ (B A:List Nat),(ba A B).Perm (A++B)
 |[],A=>by
  rw[uH];exact .refl _
 |x::B,A=>by
  show(ba (NT A x) B).Perm _;exact(OU B _).trans (((N3 A x).append_right B).trans xR.symm)
theorem G6(l:List Nat):(Ef l).Perm l:=by
 unfold Ef;have:=OU (l.drop 1) (l.take 1)
 rwa [va]at this
theorem N6{x:Nat}:∀ {R Q:List Nat},(∀ y∈R,x<y)->PE x (R++Q)=R++PE x Q
 |[],Q,_=>rfl
 |y::R,Q,h=>by
  rw[List.cons_append,KU,if_pos (h y te),N6 fun z hz=>h z (td _ hz)];rfl
theorem VM{x:Nat}{P Q:List Nat}(hQ:∀ y∈Q,x<y)(hP:P=[]\/∃ P' y,P=P'++[y]/\¬ x<y):NT (P++Q) x=P++x::Q:=by
 unfold NT;rw[wL,N6 fun y hy=>hQ y (List.mem_reverse.1 hy)];have e:PE x P.reverse=x::P.reverse:=by
  rcases hP with rfl|⟨P',y,rfl,hy⟩
  ·rfl
  ·rw[wL]
   show PE x (y::P'.reverse)=_;rw[KU,if_neg hy];rfl
 rw[e,wL,AAJ,yM,yM,uC];rfl
def iv(l:List Nat):List IN:=ints .i64 (l.map Int.ofNat)
theorem EX(l:List Nat):(iv l).length=l.length:=by unfold iv ints;rw[OF,OF]
theorem rC{l:List Nat}{j x:Nat}(h:l[j]? =some x):(iv l)[j]? =some (AI AT (x:Int)):=by
 unfold iv ints;rw[uq,uq,h];rfl
theorem gb{L:List IN}{j:Nat}{v:IN}(hj:j<L.length):over L j [v]=L.set j v:=by
 unfold over;rw[List.set_eq_take_append_cons_drop,if_pos hj,uC];rfl
theorem ox{l:List Nat}{j x:Nat}:(iv l).set j (AI AT (x:Int))=iv (l.set j x):=by
 unfold iv ints;rw[xa,xa];rfl
section
variable {F:ABZ}{e:Env}{h h':Hp}{S:Nat->Prop}{bl el n c m:Nat}{l:List Nat}{Z:List IN}
theorem LZ(R:h.Row bl el (iv l++Z)){j x:Nat}(hj:l[j]? =some x):ABa ⟨bl,j,none⟩ h=.ok (AI AT (x:Int)) h:=by
 have hl:=(uK.1 hj).1;rw[R.ABa (off:=j) (by rw[No,EX];omega),tY,List.getElem?_append_left (by rw[EX];exact hl),rC hj];rfl
theorem PI{j:Nat}(hj:j<n):ACN 1 (.slice (some ⟨bl,0,none⟩) n c) (AI AT (j:Int)) h=.ok (.pointer (some ⟨bl,j,none⟩)) h:=by
 have:=Ch (h:=h) (n:=n) (c:=c) (es:=1) (b:=bl) (off:=0) (i:=j) (k:=.i64) hj
 rwa [sh,Nat.mul_one]at this
theorem Zj(W:h.Wf)(R:h.Row bl el (iv l++Z))(ABj:256<=bl){j:Nat}(hj:j<l.length)(x:Nat):
  ∃ h',(∀ (F:ABZ) (e:Env) (g g':O),g e=.pointer (some ⟨bl,j,none⟩)->g' e=AI AT (x:Int)->Aa .free (Ac 1 g g') F e h=.ok ABd h')/\Fx (fun b=>b=bl) h h'/\h'.Row bl el (iv (l.set j x)++Z)/\h'.next=h.next/\h'.mark=h.mark:=by
 have Rq:h.quiet.Row bl el (iv l++Z):=R.same rfl;have AFY:j+[ue .i64 (x:Int)].length<=(iv l).length:=by rw[EX];exact hj
 have hoo:j+[ue .i64 (x:Int)].length<=(iv l++Z).length:=by rw[No];omega
 have st:=Rq.ABg (n:=1) (off:=j) (v:=AI AT (x:Int)) W.quiet ABj rfl (by rw[CZ];exact hoo) rfl;rw[CZ]at st;have wr:=Rq.ABl W.quiet hoo;rw[OK AFY,gb (by rw[EX];exact hj),ox]at wr;have fx:=Fx.wr (S:=fun b=>b=bl) W.quiet Rq hoo rfl;have wn:=Rq.ACH hoo;generalize h.quiet.wr bl j [ue .i64 (x:Int)]=q at st wr fx wn;exact⟨h.back q,fun F e g g' e1 e2=>BF (by rw[AW,e1,e2];exact st),(fx.from (h:=h) rfl rfl).same rfl rfl,wr.same rfl,wn,rfl⟩
theorem fN{x y:Nat}:call AC (m+2) 155 [AI AT (x:Int),AI AT (y:Int)] h=.ok (.bool (decide (x<y))) h:=by
 have n1:∀ z:Int,call AC (m+1) 146 [AI AT z] h=.ok (.bool false) h:=fun z=>by
  have c1:iNe z z=false:=B5 rfl;rw[UU rfl];unfold eC;simp only[iN,IT,sT,By,BY,reduceIte,AK,AJ,c1,lV0]
 have c2:iLt (x:Int) (y:Int)=decide (x<y):=by
  rw[DR];by_cases hxy:x<y
  ·rw[decide_eq_true hxy,decide_eq_true (by omega)]
  ·rw[decide_eq_false hxy,decide_eq_false (by omega)]
 rw[da rfl];unfold nI;simp only[iN,IT,sT,By,BY,reduceIte,gD,cA0,n1,AK,AJ,c2,lV0]
theorem TO:nnB=Z3:=rfl
theorem Z4:noB=fa:=rfl
theorem eD:nH=Yu:=rfl
theorem Tm{i:Nat}{g:Hp}(hi:i<=1000000):FX uZ .i64 (AI AT ((i+1:Nat):Int)) (AI AT 1) g=.ok (AI AT (i:Int)) g:=by
 have:uZ ((i+1:Nat):Int) 1=(i:Int):=by
  show((i+1:Nat):Int) - 1=_;omega
 rw[Ce,this,Bc (by omega)]
theorem bh(W:h.Wf){P R:List Nat}{x y:Nat}(hl0:l=P++y::x::R)(Rw:h.Row bl el (iv l++Z))(ABj:256<=bl)(hn:n=l.length)(hl:l.length<=100000)
  (s0:J 0 e=.slice (some ⟨bl,0,none⟩) n c)(s7:J 7 e=AI AT ((P.length+1:Nat):Int)):
  ∃ e' h',nwB F e h=.norm e' h'/\Fx (fun b=>b=bl) h h'/\h'.Row bl el (iv (P++x::y::R)++Z)/\∀ j,j=0\/j=1\/j=2\/j=6\/j=7->J j e'=J j e:=by
 have lk:l.length=P.length+1+1+R.length:=by rw[hl0,No,tZ,tZ];omega
 have Rm:h.marked.Row bl el (iv l++Z):=Rw.same rfl;have ld:=LZ Rm (j:=P.length+1) (x:=x) (by rw[hl0];exact Jg);have ldy:=LZ Rm (j:=P.length) (x:=y) (by rw[hl0];exact F7);have ix:=fun g:Hp=>PI (h:=g) (bl:=bl) (n:=n) (c:=c) (j:=P.length+1) (by omega)
 have iy:=fun g:Hp=>PI (h:=g) (bl:=bl) (n:=n) (c:=c) (j:=P.length) (by omega)
 have a1:=fun g:Hp=>Tm (g:=g) (i:=P.length) (by omega)
 obtain⟨h1,q1,f1,R1,n1,mk1⟩:=Zj (j:=P.length+1) W.marked Rm ABj (by omega) y;have e1:l.set (P.length+1) y=P++y::y::R:=by
  rw[hl0,show P++y::x::R=(P++[y])++x::R by simp,show P.length+1=(P++[y]).length by simp,Js];simp
 rw[e1]at R1;obtain⟨h2,q2,f2,R2,n2,mk2⟩:=Zj (j:=P.length) f1.wf R1 ABj (by rw[No];simp) x;rw[Js]at R2;have fm:Fx (fun b=>b=bl) h h1:=f1.from (h:=h) rfl rfl;have q1':∀ (F:ABZ) (e:Env),J 47 e=.pointer (some ⟨bl,P.length+1,none⟩)->J 42 e=AI AT (y:Int)->Aa .free (Ac 1 (J 47) (J 42)) F e h.marked=.ok ABd h1:=fun F e a b=>q1 F e _ _ a b
 have q2':∀ (F:ABZ) (e:Env),J 48 e=.pointer (some ⟨bl,P.length,none⟩)->J 46 e=AI AT (x:Int)->Aa .free (Ac 1 (J 48) (J 46)) F e h1=.ok ABd h2:=fun F e a b=>q2 F e _ _ a b
 have hrun:∃ e',nwB F e h=.norm e' h2/\∀ j,j=0\/j=1\/j=2\/j=6\/j=7->J j e'=J j e:=by
  unfold nwB;simp only[sT,By,BY,reduceIte,Az,Bz,s7,a1,BA,s0,iy,AN,AQ,ldy,ix,ld,q1',q2'];refine⟨_,rfl,fun j hj=>?_⟩;rcases hj with rfl|rfl|rfl|rfl|rfl<;>simp only[AG,By,BY,reduceIte]
 obtain⟨e',r1,r2⟩:=hrun;exact⟨e',h2,r1,fm.trans f2,R2,r2⟩
theorem XF(W:h.Wf){A B:List Nat}{x:Nat}(Rw:h.Row bl el (iv (A++x::B)++Z))(ABj:256<=bl)(hn:n=(A++x::B).length)(hl:n<=1000)
  (s0:J 0 e=.slice (some ⟨bl,0,none⟩) n c)(s1:J 1 e=AI AT 0)(s7:J 7 e=AI AT (A.length:Int)):
  ∃ e' h',A4 nnB (call AC (m+3)) e h=.exit 2 e' h'/\Fx (fun b=>b=bl) h h'/\h'.Row bl el (iv (NT A x++B)++Z)/\∀ j,j=0\/j=1\/j=2\/j=6->J j e'=J j e:=by
 have hln:(A++x::B).length=A.length+1+B.length:=by rw[No,tZ];omega
 refine Bb (I:=fun i e' g=>∃ P Q,A=P++Q/\P.length+i=A.length/\Fx (fun b=>b=bl) h g/\g.Row bl el (iv (P++x::(Q++B))++Z)/\(∀ y∈Q,x<y)/\J 7 e'=AI AT (P.length:Int)/\∀ j,j=0\/j=1\/j=2\/j=6->J j e'=J j e)
  (Q:=fun r=>∃ e' h',r=.exit 2 e' h'/\Fx (fun b=>b=bl) h h'/\h'.Row bl el (iv (NT A x++B)++Z)/\∀ j,j=0\/j=1\/j=2\/j=6->J j e'=J j e) (A.length+1) (by omega) (fun i e' g ⟨P,Q,hA,hP,fx,R,hQ,t7,ts⟩=>?_) ⟨A,[],by rw[uH],rfl,.refl W,Rw,fun y hy=>(by cases hy),s7,fun _ _=>rfl⟩
 have W':=fx.wf;have t0:=(ts 0 (by omega)).trans s0;have t1:=(ts 1 (by omega)).trans s1;rcases WH P with rfl|⟨P',y,rfl⟩
 ·right
  have c1:iGt ((([]:List Nat).length:Nat):Int) 0=false:=E4 (by decide);have hrun:∃ e2,nnB (call AC (m+3)) e' g=.exit 2 e2 g.marked/\∀ j,j=0\/j=1\/j=2\/j=6->J j e2=J j e':=by
   rw[TO];unfold Z3;simp only[sT,By,BY,reduceIte,gD,Az,AK,AJ,t7,t1,c1];refine⟨_,rfl,fun j hj=>?_⟩;rcases hj with rfl|rfl|rfl|rfl<;>simp only[AG,By,BY,reduceIte]
  obtain⟨e2,r1,r2⟩:=hrun;rw[r1];refine⟨rfl,e2,_,rfl,fx.same rfl rfl,?_,fun j hj=>(r2 j hj).trans (ts j hj)⟩;have:=VM (x:=x) (P:=[]) (Q:=Q) hQ (.inl rfl);rw[hA,this];have e5:([]++x::Q)++B=[]++x::(Q++B):=rfl;rw[e5];exact R.same rfl
 ·have lP:(P'++[y]).length=P'.length+1:=by simp
  rw[lP]at hP t7;have lA:A.length=P'.length+1+Q.length:=by rw[hA,No,lP]
  have eR:(P'++[y])++x::(Q++B)=P'++y::x::(Q++B):=by simp
  rw[eR]at R;have lL:(P'++y::x::(Q++B)).length=n:=by
   rw[hn,hln,lA];simp only[No,tZ];omega
  have Rm:g.marked.Row bl el (iv (P'++y::x::(Q++B))++Z):=R.same rfl;have ld:=LZ Rm (j:=P'.length+1) (x:=x) Jg;have ldy:=LZ Rm (j:=P'.length) (x:=y) F7;have ix:=fun g:Hp=>PI (h:=g) (bl:=bl) (n:=n) (c:=c) (j:=P'.length+1) (by omega)
  have iy:=fun g:Hp=>PI (h:=g) (bl:=bl) (n:=n) (c:=c) (j:=P'.length) (by omega)
  have c1:iGt ((P'.length+1:Nat):Int) 0=true:=Fc (by omega);have a1:=fun g:Hp=>Tm (g:=g) (i:=P'.length) (by omega)
  have k2:=fN (m:=m+1) (h:=g.marked.quiet) (x:=x) (y:=y);have q2:∀ e:Env,J 23 e=AI AT (x:Int)->J 28 e=AI AT (y:Int)->Aa .free (AS 155 [J 23,J 28]) (call AC (m+3)) e g.marked=.ok (.bool (decide (x<y))) (g.marked.back g.marked.quiet):=fun e e1 e2=>by
   refine BF ?_;rw[BP,AU,AU,A5,e1,e2];exact k2
  have y2:g.Ext (g.marked.back g.marked.quiet):=(Hp.Ext.refl W').marked.trans (.back (.refl W'.marked.quiet));generalize g.marked.back g.marked.quiet=h3 at q2 y2;have R3:=R.ext W' y2;by_cases hc:x<y
  ·left
   rw[decide_eq_true hc]at q2;have sw:∀ e2:Env,J 0 e2=.slice (some ⟨bl,0,none⟩) n c->J 7 e2=AI AT ((P'.length+1:Nat):Int)->∃ e3 h4,nwB (call AC (m+3)) e2 h3=.norm e3 h4/\Fx (fun b=>b=bl) h3 h4/\h4.Row bl el (iv (P'++x::y::(Q++B))++Z)/\∀ j,j=0\/j=1\/j=2\/j=6\/j=7->J j e3=J j e2:=fun e2 a b=>bh y2.wf rfl R3 ABj lL.symm (by omega) a b
   have hrun:∃ e3 h4,nnB (call AC (m+3)) e' g=.norm e3 h4/\Fx (fun b=>b=bl) h3 h4/\h4.Row bl el (iv (P'++x::y::(Q++B))++Z)/\J 7 e3=AI AT (P'.length:Int)/\∀ j,j=0\/j=1\/j=2\/j=6->J j e3=J j e':=by
    rw[TO];unfold Z3;simp only[sT,By,BY,reduceIte,gD,Az,AK,AJ,t7,t1,c1,t0,BA,ix,AN,AQ,ld,Bz,a1,iy,ldy,q2,A9,An];obtain⟨e3,h4,r1,f4,R4,r2⟩:=sw (Env.set 30 (.bool true) (Env.set 29 (.bool true) (Env.set 28 (AI AT (y:Int)) (Env.set 27 (.pointer (some ⟨bl,P'.length,none⟩)) (Env.set 26 (AI AT (P'.length:Int)) (Env.set 25 (AI AT ((P'.length+1:Nat):Int)) (Env.set 24 (.slice (some ⟨bl,0,none⟩) n c) (Env.set 23 (AI AT (x:Int)) (Env.set 22 (.pointer (some ⟨bl,P'.length+1,none⟩)) (Env.set 21 (AI AT ((P'.length+1:Nat):Int)) (Env.set 20 (.slice (some ⟨bl,0,none⟩) n c) (Env.set 18 (.bool true) e')))))))))))) (by simp[AG,t0]) (by simp[AG,t7]);have u7:J 7 e3=AI AT ((P'.length+1:Nat):Int):=(r2 7 (by omega)).trans (by simp[AG,t7]);rw[r1];simp only[Bt,A3,sT,By,BY,reduceIte,Bz,u7,a1];refine⟨_,_,rfl,f4,R4,by simp[AG],fun j hj=>?_⟩;have:=r2 j (by omega);rcases hj with rfl|rfl|rfl|rfl<;>simp only[AG,By,BY,reduceIte]at this ⊢<;>exact this
   obtain⟨e3,h4,r1,f4,R4,r7,r2⟩:=hrun;refine⟨by omega,e3,h4,r1,P',y::Q,by rw[hA];simp,by omega,(fx.trans (.of y2)).trans f4,R4,fun z hz=>?_,r7,fun j hj=>(r2 j hj).trans (ts j hj)⟩;rcases uA.1 hz with rfl|hz
   ·exact hc
   ·exact hQ z hz
  ·right
   rw[decide_eq_false hc]at q2;have hrun:∃ e3,nnB (call AC (m+3)) e' g=.exit 2 e3 h3/\∀ j,j=0\/j=1\/j=2\/j=6->J j e3=J j e':=by
    rw[TO];unfold Z3;simp only[sT,By,BY,reduceIte,gD,Az,AK,AJ,t7,t1,c1,t0,BA,ix,AN,AQ,ld,Bz,a1,iy,ldy,q2];refine⟨_,rfl,fun j hj=>?_⟩;rcases hj with rfl|rfl|rfl|rfl<;>simp only[AG,By,BY,reduceIte]
   obtain⟨e3,r1,r2⟩:=hrun;rw[r1];refine⟨rfl,e3,h3,rfl,fx.trans (.of y2),?_,fun j hj=>(r2 j hj).trans (ts j hj)⟩;rw[hA,VM hQ (.inr ⟨P',y,rfl,hc⟩),uC,uC];exact R3
theorem Xg(W:h.Wf){l:List Nat}(Rw:h.Row bl el (iv l++Z))(ABj:256<=bl)(hn:n=l.length)(hl:n<=1000):
  ∃ h',call AC (m+4) 149 [.slice (some ⟨bl,0,none⟩) n c,AI AT 0,AI AT (n:Int)] h=.ok ABd h'/\Fx (fun b=>b=bl) h h'/\h'.Row bl el (iv (Ef l)++Z):=by
 have run:∀ e1:Env,J 0 e1=.slice (some ⟨bl,0,none⟩) n c->J 1 e1=AI AT 0->J 2 e1=AI AT (n:Int)->J 6 e1=AI AT ((1:Nat):Int)->∃ e' h',A4 noB (call AC (m+3)) e1 h=.exit 0 e' h'/\Fx (fun b=>b=bl) h h'/\h'.Row bl el (iv (Ef l)++Z):=fun e1 s0 s1 s2 s6=>by
  refine Bb (I:=fun i e' g=>∃ A B,A.length+B.length=l.length/\(A.length=i+1\/(B=[]/\A.length<=i+1))/\ba A B=Ef l/\Fx (fun b=>b=bl) h g/\g.Row bl el (iv (A++B)++Z)/\J 0 e'=.slice (some ⟨bl,0,none⟩) n c/\J 1 e'=AI AT 0/\J 2 e'=AI AT (n:Int)/\J 6 e'=AI AT ((i+1:Nat):Int))
   (Q:=fun x=>∃ e' h',x=.exit 0 e' h'/\Fx (fun b=>b=bl) h h'/\h'.Row bl el (iv (Ef l)++Z)) n (by omega) (fun i e' g ⟨A,B,hAB,hAi,hsr,fx,R,t0,t1,t2,t6⟩=>?_) ⟨l.take 1,l.drop 1,by rw[uL,ua];omega,?_,rfl,.refl W,by rw[va];exact Rw,s0,s1,s2,s6⟩
  ·have W':=fx.wf
   cases B with
   |nil=>
    right;have hA:A.length=n:=by simp only[uR]at hAB;omega
    have c1:iLt ((i+1:Nat):Int) (n:Int)=false:=Cv (by omega);have hrun:∃ e3,noB (call AC (m+3)) e' g=.exit 0 e3 g:=by
     rw[Z4];unfold fa;simp only[sT,By,BY,reduceIte,AK,AJ,t6,t2,c1];exact⟨_,rfl⟩
    obtain⟨e3,r1⟩:=hrun;rw[r1];refine⟨rfl,e3,g,rfl,fx,?_⟩;rw[<- hsr];rw[uH]at R;exact R
   |cons x B=>
    left;rw[tZ]at hAB;have hA:A.length=i+1:=by
     rcases hAi with h1|⟨h1,_⟩
     ·exact h1
     ·cases h1
    have c1:iLt ((i+1:Nat):Int) (n:Int)=true:=EP (by omega);obtain⟨e2,h2,i1,f2,R2,i2⟩:=XF (m:=m) (e:=Env.set 7 (AI AT ((i+1:Nat):Int)) (Env.set 12 (.bool true) e')) W' R ABj (by rw[No,tZ];omega) hl (by simp only[AG,By,BY,reduceIte];exact t0) (by simp only[AG,By,BY,reduceIte];exact t1) (by simp only[AG,By,BY,reduceIte,hA]);have g0:=i2 0 (by omega);have g1:=i2 1 (by omega);have g2:=i2 2 (by omega);have g6:=i2 6 (by omega);simp only[AG,By,BY,reduceIte,t0]at g0;simp only[AG,By,BY,reduceIte,t1]at g1;simp only[AG,By,BY,reduceIte,t2]at g2;simp only[AG,By,BY,reduceIte,t6]at g6;have a3:Fs .i64 (AI AT ((i+1:Nat):Int)) (AI AT 1) h2=.ok (AI AT ((i+1+1:Nat):Int)) h2:=Cd (by omega);have hrun:∃ e3,noB (call AC (m+3)) e' g=.norm e3 h2/\J 0 e3=.slice (some ⟨bl,0,none⟩) n c/\J 1 e3=AI AT 0/\J 2 e3=AI AT (n:Int)/\J 6 e3=AI AT ((i+1+1:Nat):Int):=by
     rw[Z4];unfold fa;simp only[sT,By,BY,reduceIte,AK,AJ,t6,t2,c1,i1,g6,BR,a3];exact⟨_,rfl,by simp only[AG,By,BY,reduceIte];exact g0,by simp only[AG,By,BY,reduceIte];exact g1,by simp only[AG,By,BY,reduceIte];exact g2,by simp[AG]⟩
    obtain⟨e3,r1,r2,r3,r4,r5⟩:=hrun;have il:(NT A x).length=A.length+1:=(N3 A x).length_eq;exact⟨by omega,e3,h2,r1,NT A x,B,by omega,.inl (by omega),hsr,fx.trans f2,R2,r2,r3,r4,r5⟩
  ·cases l with
   |nil=>exact .inr ⟨rfl,uD _⟩
   |cons k l=>exact .inl rfl
 have a1:Fs .i64 (AI AT 0) (AI AT 1) h=.ok (AI AT ((1:Nat):Int)) h:=Cd (i:=0) (by omega);obtain⟨e2,h2,r1,x2⟩:=run (Env.set 6 (AI AT ((1:Nat):Int)) (Env.set 9 (AI AT ((1:Nat):Int)) (As e0 0 [.slice (some ⟨bl,0,none⟩) n c,AI AT 0,AI AT (n:Int)]))) (by simp only[iN,IT,AG,By,BY,reduceIte]) (by simp only[iN,IT,AG,By,BY,reduceIte]) (by simp only[iN,IT,AG,By,BY,reduceIte]) (by simp[AG]);simp only[iN,IT]at r1;refine⟨h2,?_,x2⟩;rw[dZ rfl,eD];unfold Yu;simp only[iN,IT,sT,By,BY,reduceIte,BR,a1,r1,Eo,EU]
theorem eB:mw=Yt:=rfl
theorem pK:npB=pL:=rfl
theorem bW(W:h.Wf){l:List Nat}(Rw:h.Row bl el (iv l++Z))(ABj:256<=bl)(hn:n=l.length)(hl:n<=12):
  ∃ h',call AC (m+6) 107 [.slice (some ⟨bl,0,none⟩) n c] h=.ok ABd h'/\Fx (fun b=>b=bl) h h'/\h'.Row bl el (iv (Ef l)++Z):=by
 obtain⟨h2,k2,x2,R2⟩:=Xg (m:=m) (c:=c) W Rw ABj hn (by omega);obtain⟨k,kb⟩:=Oh (m:=m+3) (h:=h) (n:=n) (by omega);have cv:C3 .u64 (AI AT (n:Int)) h=.ok (.int .u64 (n:Int)) h:=by rw[B4,DG (by omega)]
 have a1:FX uZ .i64 (AI AT (n:Int)) (AI AT 0) h=.ok (AI AT (n:Int)) h:=by
  have:uZ (n:Int) 0=(n:Int):=Int.sub_zero _;rw[Ce,this,Bc (by omega)]
 have c1:iLe (n:Int) 12=true:=GW (by omega);have pd:call AC (m+5) 132 [.slice (some ⟨bl,0,none⟩) n c,AI AT 0,AI AT (n:Int),AI AT (k:Int)] h=.ok ABd h2:=by
  have hb:∃ e2,npB (call AC (m+4)) (Env.set 9 (.bool true) (Env.set 8 (.bool true) (As e0 0 [.slice (some ⟨bl,0,none⟩) n c,AI AT 0,AI AT (n:Int),AI AT (k:Int)]))) h=.ret e2 h2:=by
   rw[pK];unfold pL;simp only[iN,IT,sT,By,BY,reduceIte,Bz,a1,AK,AJ,c1,cA0,k2];exact⟨_,rfl⟩
  obtain⟨e2,r1⟩:=hb;have r1:=Mb r1;simp only[iN,IT]at r1;rw[dT rfl,eB];unfold Yt;simp only[iN,IT,sT,By,BY,reduceIte,r1,Ay,EU]
 refine⟨h2,?_,x2,R2⟩;rw[dD rfl];unfold mR;simp only[iN,IT,sT,By,BY,reduceIte,AX,EC,Bl,cv,cA0,kb,pd,Eo,EU]
end
end
noncomputable section
open Go
set_option maxRecDepth 100000
theorem YA{b n:Nat}:Eh ⟨b,0,none⟩ n=⟨b,n,none⟩:=by
 cases n with
 |zero=>rfl
 |succ m=>
  show(⟨b,0+(m+1),none⟩:Addr)=_;rw[sh]
theorem Sn(x:Kt):(Af x).length=6:=rfl
theorem ef{ks:List Kt}(hu:∀ k∈ks,oneCell k.u=true):BX (flK ks)=true:=by
 induction ks with
 |nil=>rfl
 |cons k l ih=>
  refine PW fun x hx=>?_
  obtain⟨y,hy,hxy⟩:=List.mem_flatMap.1 hx;have huy:=hu y hy;have hxy:x∈[ue .i64 y.a,AI AT y.b,AI AT y.c,.int .u8 (y.s:Int),y.u,AI AT (y.p:Int)]:=hxy;simp only[uA,zD,or_false]at hxy;rcases hxy with rfl|rfl|rfl|rfl|rfl|rfl
  all_goals first|exact huy|rfl
section
variable {F:ABZ}{e:Env}{h h':Hp}{S:Nat->Prop}{m k n bl:Nat}{v:IN}
theorem FY{x:O}{d N i:Nat}{K:Nat->R}(hx:x e=AI AT (i:Int))(hi:i<=N):Ci e (some x) d N K=K i:=by
 show(match DS (x e)with|.ok n=>(bif Nat.ble n N then K n else .no)|.no=>.no)=_;rw[hx,Db];simp only;rw[Ar.2 hi];rfl
theorem Hr{b lo hi c:Nat}(hc:lo<c):Bv (some ⟨b,0,none⟩) 6 lo hi c h=.ok (.slice (some ⟨b,6*lo,none⟩) (hi - lo) (c - lo)) h:=by
 unfold Bv;simp only[Am];have e1:Nat.beq c lo=false:=by
  cases hb:Nat.beq c lo
  ·rfl
  ·have:=Nat.eq_of_beq_eq_true hb;omega
 rw[e1];simp only;cases lo with
 |zero=>rfl
 |succ i=>
  have e2:ur (i+1) 6=tk (6*i+5):=by
   show(i+1)*6=_;omega
  rw[e2];have e3:Nat.add 0 (tk (6*i+5))=6*(i+1):=by
   show 0+(6*i+5+1)=_;omega
  simp only[e3];rfl
theorem Ut{L:List IN}(R:h.Row bl 124 L):Ez 123 (some ⟨bl,0,none⟩) h=true:=by
 obtain⟨cc,hcc,_⟩:=R.rowOf;unfold Ez;simp only[hcc];rfl
theorem du{lo hi c:Nat}{L:List IN}(R:h.Row bl 124 L)(hc:lo<c):EH 123 6 (some ⟨bl,0,none⟩) false lo hi c h=.ok (.slice (some ⟨bl,6*lo,none⟩) (hi - lo) (c - lo)) h:=by
 cases lo with
 |zero=>exact Hr hc
 |succ l=>
  show(bif Ez 123 (some ⟨bl,0,none⟩) h then Bv (some ⟨bl,0,none⟩) 6 (l+1) hi c h else .no)=_;rw[Ut R];exact Hr hc
theorem Ww{P Q:List Kt}{x:Kt}(W:h.Wf)(R:h.Row bl 124 (flK (P++x::Q)))(ABj:256<=bl)(hn:n=(P++x::Q).length)(hl:n<=100000)(hu:∀ k∈P++x::Q,oneCell k.u=true):
  ∃ h',call AC (m+1) 130 [.slice (some ⟨bl,0,none⟩) n n,AI AT (P.length:Int),AI AT ((P.length+1:Nat):Int)] h=.ok (.slice (some ⟨bl,0,none⟩) (n - 1) n) h'/\Fx (fun b=>b=bl) h h'/\h'.Row bl 124 (flK (P++Q)++Af K0):=by
 have hn':n=P.length+1+Q.length:=by rw[hn,No,tZ];omega
 have lf:(flK (P++x::Q)).length=6*n:=by rw[Cj,hn]
 have AHV:∀ (F:ABZ) (e:Env),J 0 e=.slice (some ⟨bl,0,none⟩) n n->J 1 e=AI AT (P.length:Int)->J 2 e=AI AT ((P.length+1:Nat):Int)->J 12 e=AI AT (n:Int)->∃ v,Dd 123 6 (J 0) (some (J 1)) (some (J 2)) (some (J 12)) F e h=.ok v h:=fun F e e0 e1 e2 e3=>by
  show ∃ v,(match J 0 e with|.slice a n c=>DO e n c (some (J 1)) (some (J 2)) (some (J 12)) (fun l hh m=>EH 123 6 a true l hh m h)|_=>.no)=.ok v h;rw[e0];show ∃ v,Ci e (some (J 12)) n n (fun m=>Ci e (some (J 2)) n m fun hh=>Ci e (some (J 1)) 0 hh fun l=>EH 123 6 (some ⟨bl,0,none⟩) true l hh m h)=.ok v h;rw[FY e3 (If _),FY e2 (by omega),FY e1 (by omega)];exact⟨_,Hr (by omega)⟩
 have AHW:∀ (F:ABZ) (e:Env) (h:Hp),J 0 e=.slice (some ⟨bl,0,none⟩) n n->J 1 e=AI AT (P.length:Int)->Dd 123 6 (J 0) none (some (J 1)) none F e h=.ok (.slice (some ⟨bl,0,none⟩) P.length n) h:=fun F e h e0 e1=>by
  show(match J 0 e with|.slice a n c=>DO e n c none (some (J 1)) none (fun l hh m=>EH 123 6 a false l hh m h)|_=>.no)=_;rw[e0];show Ci e (some (J 1)) n n (fun hh=>EH 123 6 (some ⟨bl,0,none⟩) false 0 hh n h)=_;rw[FY e1 (by omega)];exact Hr (lo:=0) (by omega)
 have xm:=(Hp.Ext.refl W).marked;have Rm:h.marked.Row bl 124 (flK (P++x::Q)):=R.same rfl;have Rq:h.marked.quiet.Row bl 124 (flK (P++x::Q)):=R.same rfl;have AD6:((flK (P++x::Q)).drop (6*(P.length+1))).take (Q.length*6)=flK Q:=by
  have e1:flK (P++x::Q)=flK (P++[x])++flK Q:=by rw[<- LY];simp
  have e2:6*(P.length+1)=(flK (P++[x])).length:=by rw[Cj,No];rfl
  rw[e1,e2,List.drop_left,List.take_of_length_le (by rw[Cj];omega)]
 obtain⟨src,AHX,hsrc,hlen⟩:∃ src,(∀ (F:ABZ) (e:Env),J 0 e=.slice (some ⟨bl,0,none⟩) n n->J 2 e=AI AT ((P.length+1:Nat):Int)->Dd 123 6 (J 0) (some (J 2)) none none F e h.marked=.ok src h.marked)/\(∀ K:List IN->Go.Proofs.YtbjadbhkogcfeaaGreat.R,BI h.marked.quiet 6 src Q.length K=K (flK Q))/\lenV src=.ok Q.length:=by
  have key:∀ (F:ABZ) (e:Env),J 0 e=.slice (some ⟨bl,0,none⟩) n n->J 2 e=AI AT ((P.length+1:Nat):Int)->Dd 123 6 (J 0) (some (J 2)) none none F e h.marked=Bv (some ⟨bl,0,none⟩) 6 (P.length+1) n n h.marked:=fun F e e0 e2=>by
   show(match J 0 e with|.slice a n c=>DO e n c (some (J 2)) none none (fun l hh m=>EH 123 6 a false l hh m h.marked)|_=>.no)=_;rw[e0];show Ci e (some (J 2)) 0 n (fun l=>EH 123 6 (some ⟨bl,0,none⟩) false l n n h.marked)=_;rw[FY e2 (by omega)];show(bif Ez 123 (some ⟨bl,0,none⟩) h.marked then Bv (some ⟨bl,0,none⟩) 6 (P.length+1) n n h.marked else .no)=_;rw[Ut Rm];rfl
  rcases ug Q.length with hq|hq
  ·obtain rfl:Q=[]:=vJ hq
   have hnp:n=P.length+1:=by rw[hn'];rfl
   refine⟨.slice (some ⟨bl,0,none⟩) 0 0,fun F e e0 e2=>?_,fun K=>?_,rfl⟩
   ·rw[key F e e0 e2,hnp]
    unfold Bv;simp only[Am,Nat.beq_refl];have:Nat.sub (P.length+1) (P.length+1)=0:=Nat.sub_self _;rw[this]
   ·have:=Rq.ADZ (es:=6) (off:=0) (n:=0) (sl:=0) (c:=0) (k:=K) (by omega)
    exact this
  ·refine⟨.slice (some ⟨bl,6*(P.length+1),none⟩) Q.length Q.length,fun F e e0 e2=>?_,fun K=>?_,rfl⟩
   ·rw[key F e e0 e2,Hr (by omega),show n - (P.length+1)=Q.length by omega]
   ·have:=Rq.ADZ (es:=6) (off:=6*(P.length+1)) (n:=Q.length) (sl:=Q.length) (c:=Q.length) (k:=K) (by rw[lf];omega)
    rw[this,AD6]
 have hoQ:BX (flK Q)=true:=ef fun k hk=>hu k (uY _ (td _ hk))
 have hoo:6*P.length+(flK Q).length<=(flK (P++x::Q)).length:=by rw[lf,Cj];omega
 have ap:DN 6 64 123 (.slice (some ⟨bl,0,none⟩) P.length n) src h.marked.quiet=.ok (.slice (some ⟨bl,0,none⟩) (n - 1) n) (h.marked.quiet.wr bl (6*P.length) (flK Q)):=by
  unfold DN DH;simp only[hlen,hsrc,Am,Nat.add_eq];rw[Ar.2 (show P.length+Q.length<=n by omega)];simp only;have e2:Eh ⟨bl,0,none⟩ (ur P.length 6)=⟨bl,6*P.length,none⟩:=by
   have:ur P.length 6=6*P.length:=wP _ _;rw[this,YA]
  rw[e2,Rq.store xm.wf.quiet ABj hoo hoQ,show P.length+Q.length=n - 1 by omega]
 have wr:=Rq.ABl xm.wf.quiet hoo;have fx:=Fx.wr (S:=fun b=>b=bl) xm.wf.quiet Rq hoo rfl;generalize h.marked.quiet.wr bl (6 * P.length) (flK Q)=q at ap wr fx;obtain⟨Z,hZ,hov⟩:∃ Z:List IN,Z.length=6/\over (flK (P++x::Q)) (6 * P.length) (flK Q)=flK (P++Q)++Z:=by
  refine⟨(flK (x::Q)).drop (6*Q.length),by rw[ua,Cj,tZ];omega,?_⟩;unfold over;have e1:flK (P++x::Q)=flK P++flK (x::Q):=LY _ _;have e2:6*P.length=(flK P).length:=(Cj P).symm;have e3:(flK Q).length=6*Q.length:=Cj Q;rw[e3,e1,e2,zf,wm,LY]
 rw[hov]at wr;have q1:∀ (F:ABZ) (e:Env),J 22 e=.slice (some ⟨bl,0,none⟩) P.length n->J 25 e=src->Aa .free (Bk 6 64 123 (J 22) (J 25)) F e h.marked=.ok (.slice (some ⟨bl,0,none⟩) (n - 1) n) (h.marked.back q):=fun F e e1 e2=>by
  refine BF ?_;rw[BZ,e1,e2];exact ap
 have f1:Fx (fun b=>b=bl) h (h.marked.back q):=((fx.from (h:=h.marked) rfl rfl).same (h2:=h.marked.back q) rfl rfl).from (h:=h) rfl rfl;have R1:(h.marked.back q).Row bl 124 (flK (P++Q)++Z):=wr.same rfl;generalize h.marked.back q=h1 at q1 f1 R1;have lPQ:(flK (P++Q)).length=6 * (n - 1):=by rw[Cj,No];omega
 have AHY:∀ (F:ABZ) (e:Env),J 0 e=.slice (some ⟨bl,0,none⟩) (n - 1) n->J 29 e=AI AT ((n - 1:Nat):Int)->J 7 e=AI AT (n:Int)->Dd 123 6 (J 0) (some (J 29)) (some (J 7)) none F e h1=.ok (.slice (some ⟨bl,6*(n - 1),none⟩) 1 1) h1:=fun F e e0 e1 e2=>by
  show(match J 0 e with|.slice a n c=>DO e n c (some (J 29)) (some (J 7)) none (fun l hh m=>EH 123 6 a false l hh m h1)|_=>.no)=_;rw[e0];show Ci e (some (J 7)) (n - 1) n (fun hh=>Ci e (some (J 29)) 0 hh fun l=>EH 123 6 (some ⟨bl,0,none⟩) false l hh n h1)=_;rw[FY e2 (If _),FY e1 (by omega),du R1 (by omega),show n - (n - 1)=1 by omega]
 have AFg:6*(n - 1)+(Af K0).length<=(flK (P++Q)++Z).length:=by rw[No,lPQ,hZ];exact If _
 have cl:∀ (F:ABZ) (e:Env),J 31 e=.slice (some ⟨bl,6*(n - 1),none⟩) 1 1->Mj Dr.zero (J 31) F e h1=.ok ABd (h1.wr bl (6*(n - 1)) (Af K0)):=fun F e e1=>by
  show(match J 31 e with|.slice none _ _=>EI h1|.slice (some a) n _=>(match n with| 0=>EI h1|tk k=>C6 a (BO Dr.zero (tk k)) h1 EI)|_=>.no)=_;rw[e1];show C6 ⟨bl,6*(n - 1),none⟩ (BO Dr.zero 1) h1 EI=_;rw[Wb,R1.store f1.wf ABj AFg rfl];rfl
 have wr2:=R1.ABl f1.wf AFg;have fx2:=Fx.wr (S:=fun b=>b=bl) f1.wf R1 AFg rfl;have AHZ:over (flK (P++Q)++Z) (6*(n - 1)) (Af K0)=flK (P++Q)++Af K0:=by
  unfold over;rw[<- lPQ,zf,wm,Sn,List.drop_of_length_le (by omega),uH]
 rw[AHZ]at wr2;generalize h1.wr bl (6 * (n - 1)) (Af K0)=h2 at cl wr2 fx2;refine⟨h2,?_,f1.trans fx2,wr2⟩;have c1:iEq (P.length:Int) ((P.length+1:Nat):Int)=false:=B9 (by omega);rw[dS rfl];unfold mu;simp only[iN,IT,sT,By,BY,reduceIte,AX,EC];obtain⟨v,hv⟩:=AHV (call AC m) (Env.set 12 (AI AT (n:Int)) (Env.set 6 (.slice none 0 0) (Env.set 2 (AI AT ((P.length+1:Nat):Int)) (Env.set 1 (AI AT (P.length:Int)) (Env.set 0 (.slice (some ⟨bl,0,none⟩) n n) e0))))) (by simp[AG]) (by simp[AG]) (by simp[AG]) (by simp[AG]);rw[hv];simp only[sT,By,BY,reduceIte,AK,AJ,c1,AX,EC,Az,AHW,AHX,q1,AHY,cl,lV0]
end
end
noncomputable section
open Go
set_option maxRecDepth 100000
theorem Fx.xt{S:Nat->Prop}{h h':Hp}(x:Fx S h h')(hs:∀ b,S b->h.next<=b):h.Ext h':=⟨x.next,fun i hi=>x.get i hi fun s=>by have:=hs i s;omega,x.low _ (Nat.min_le_left _ _) (wg _ _) fun b hb=>uO (wg _ _) (hs b hb),x.wf⟩
theorem Fx.xtF{S:Nat->Prop}{h0 h h':Hp}(x0:h0.Ext h)(x:Fx S h h')(hs:∀ b,S b->h0.next<=b):h0.Ext h':=Fx.xt (S:=S) ((Fx.of x0).trans x) hs
theorem Zi(a b:List Nat):iv (a++b)=iv a++iv b:=by unfold iv ints;rw[ud,ud]
section
variable {F:ABZ}{e:Env}{h h':Hp}{A:At}{T M:List Nat}{c0 bad m k p n bl:Nat}{arm:Int}{fr:List Nat}{v lv fv:IN}
theorem mC{n z:Nat}(W:h.Wf){u:IN}{xs:List Nat}(V:h.ABy u (iv xs))(hl:xs.length<=1000):
  ∃ h1 w h2 b,call AC (n+1) 102 [u] h=.ok w h1/\h.Ext h1/\DN 1 8 3 w (.slice (some ⟨h1.next,0,none⟩) 1 1) (h1.ABY 0 [AI AT (z:Int)])=.ok (.slice (some ⟨b,0,none⟩) (xs.length+1) (xs.length+1)) h2/\h.Ext h2/\h2.Row b 4 (iv (xs++[z]))/\h.next<=b:=by
 have ha:BX (iv xs)=true:=HM .i64 _;have fin:∀ (h1:Hp) (w:IN),h.Ext h1->(h1.Own h.next 3 w (iv xs)\/(xs=[]/\∃ b,w=.slice (some ⟨b,0,none⟩) 0 0/\h1.Row b 0 []))->∃ h2 b,DN 1 8 3 w (.slice (some ⟨h1.next,0,none⟩) 1 1) (h1.ABY 0 [AI AT (z:Int)])=.ok (.slice (some ⟨b,0,none⟩) (xs.length+1) (xs.length+1)) h2/\h.Ext h2/\h2.Row b 4 (iv (xs++[z]))/\h.next<=b:=fun h1 w x1 o=>by
  have y2:=(Hp.Ext.refl x1.wf).ABY 0 [ue .i64 (z:Int)];have Rw:=Hp.Row.new x1.wf 0 [ue .i64 (z:Int)];have hlt:h1.next<(h1.ABY 0 [ue .i64 (z:Int)]).next:=Nat.lt_succ_self _;generalize h1.ABY 0 [ue .i64 (z:Int)]=g at y2 Rw hlt;have x2:=x1.trans y2;have Vz:g.ABy (.slice (some ⟨h1.next,0,none⟩) 1 1) [AI AT (z:Int)]:=.inr ⟨h1.next,0,1,0,_,rfl,Rw,If _,rfl⟩;rcases o with o|⟨rfl,b,rfl,r⟩
  ·obtain⟨h2,v',a1,a2,a3,a4,_⟩:=Er (eb:=8) (en:=3) (k:=h.next) x2 (If _) (by have:=x1.next;omega) (o.ext x1.wf y2) Vz (ABL) rfl (by rw[EX];show(xs.length+1+1)*9<=_;omega)
   rcases a3 with ⟨_,h2'⟩|⟨b,h1',h2',h3',h4'⟩
   ·have:=congrArg xc h2'
    simp at this
   ·have e1:(iv xs++[ue .i64 (z:Int)]).length=xs.length+1:=by rw[No,EX];rfl
    rw[e1]at h1';subst h1';exact⟨h2,b,a1,a2,by rw[Zi];exact h2',h3'⟩
  ·have hs:∀ K:List IN->Go.Proofs.YtbjadbhkogcfeaaGreat.R,BI g 1 (.slice (some ⟨h1.next,0,none⟩) 1 1) 1 K=K [AI AT (z:Int)]:=fun K=>Rw.ADZ (es:=1) (off:=0) (n:=1) (If _)
   obtain⟨h2,a1,a2,a3,a4,_⟩:=En (eb:=8) (en:=3) x2 (r.ext x1.wf y2) hs rfl rfl (by omega) rfl (by omega);exact⟨h2,g.next,a1,a2,a3,by have:=x2.next;omega⟩
 rcases V with ⟨rfl,hx⟩|⟨b,off,c,el,L,h1,h2,h3,h4⟩
 ·have hx0:xs=[]:=by
   have:=congrArg xc hx;rw[EX]at this;exact vJ this
  have ne:∀ e:Env,J 0 e=.slice none 0 0->oEq Tq.k false (J 0) (kV (.slice none 0 0)) (call AC n) e h=.ok (.bool true) h:=fun e he=>Jf (t:=0) WU he
  have k1:call AC (n+1) 102 [.slice none 0 0] h=.ok ABc h:=by
   rw[H0 rfl];unfold QK;simp only[iN,IT,sT,By,BY,reduceIte,ne,lV0]
  obtain⟨h2,b,q1,q2,q3,q4⟩:=fin h ABc (.refl W) (.inl (.inl ⟨rfl,hx⟩));exact⟨h,ABc,h2,b,k1,.refl W,q1,q2,q3,q4⟩
 ·have V:h.ABy u (iv xs):=.inr ⟨b,off,c,el,L,h1,h2,h3,h4⟩
  have x1:=(Hp.Ext.refl W).ABY 0 [];have R:=Hp.Row.new W 0 [];have es:=fun (e:Env) (t:List IN)=>KI (F:=call AC n) (e:=e) (t:=t) W
  have n1:(h.ABY 0 []).next=h.next+1:=rfl;generalize h.ABY 0 []=g at x1 R es n1;have ne:∀ e:Env,J 0 e=u->oEq Tq.k false (J 0) (kV (.slice none 0 0)) (call AC n) e h=.ok (.bool false) h:=fun e he=>Je (t:=0) WU (he.trans h1)
  have V1:=V.ext W x1;have big:=W.big;rcases ug xs.length with hz|hz
  ·obtain rfl:xs=[]:=vJ hz
   have ap:DN 1 8 3 (.slice (some ⟨h.next,0,none⟩) 0 0) u g=.ok (.slice (some ⟨h.next,0,none⟩) 0 0) (g.wr h.next 0 []):=Hh x1.wf big R (fun k=>V1.src rfl k) V1.lenV;have R2:=R.ABl x1.wf (off:=0) (vs:=[]) (If _);have x2:=R.AB3 x1 (If _) (off:=0) (vs:=[]) (If _);have k1:call AC (n+1) 102 [u] h=.ok (.slice (some ⟨h.next,0,none⟩) 0 0) (g.wr h.next 0 []):=by
    rw[H0 rfl];unfold QK;simp only[iN,IT,sT,By,BY,reduceIte,ne,es,BZ,ap,lV0]
   obtain⟨h2,b,q1,q2,q3,q4⟩:=fin _ (.slice (some ⟨h.next,0,none⟩) 0 0) x2 (.inr ⟨rfl,h.next,rfl,R2⟩);exact⟨_,_,h2,b,k1,x2,q1,q2,q3,q4⟩
  ·have hlv:=V1.lenV
   rw[EX]at hlv;obtain⟨h2,a1,a2,a3,a4,a5⟩:=En (eb:=8) (en:=3) (n:=xs.length) x1 R (es:=1) (fun k=>by have:=V1.src rfl k;rwa [EX]at this) hlv (by rw[EX];omega) hz ha (by omega);have k1:call AC (n+1) 102 [u] h=.ok (.slice (some ⟨g.next,0,none⟩) xs.length xs.length) h2:=by
    rw[H0 rfl];unfold QK;simp only[iN,IT,sT,By,BY,reduceIte,ne,es,BZ,a1,lV0]
   obtain⟨h3,b,q1,q2,q3,q4⟩:=fin h2 (.slice (some ⟨g.next,0,none⟩) xs.length xs.length) a2 (.inl (.inr ⟨g.next,by rw[EX],a3,by omega,by omega⟩));exact⟨h2,_,h3,b,k1,a2,q1,q2,q3,q4⟩
theorem VC{P Q:List Kt}{x:Kt}(W:h.Wf)(s:Sl h A T M c0 arm (P++x::Q) fr lv fv bad false)(hkl:(P++x::Q).length<=100)(hfl:fr.length<=11)(hp3:3*x.p+3<=A.n):
  ∃ h' lv' fv',call AC (m+7) 104 [pt A.bs,AI AT (P.length:Int)] h=.ok (AI AT (x.p:Int)) h'/\Fx (fun b=>b=A.bs) h h'/\Sl h' A T M c0 arm (P++Q) (Ef (fr++[x.p])) lv' fv' bad false/\∀ b,ABw fv' b->h.next<=b:=by
 have hD:=s.AD7 W;have hu:∀ k∈P++x::Q,oneCell k.u=true:=fun k hk=>(s.ko k hk).1.vs.one.2.1
 obtain⟨_,_,_,l3,_⟩:=BD s.row;obtain⟨b0,_,ix,_,lde⟩:=s.ls.at (i:=P.length) (k:=x) F7;have lp:=lde 5 (AI AT (x.p:Int)) rfl;obtain⟨h1,w,k1,x1,ko⟩:=UW (m:=m+5) W s.ls hu (by omega);obtain⟨bl,hw,Rb,hbl,ABj⟩:∃ bl,w=.slice (some ⟨bl,0,none⟩) (P++x::Q).length (P++x::Q).length/\h1.Row bl 124 (flK (P++x::Q))/\h.next<=bl/\256<=bl:=by
  rcases ko with (⟨_,h2⟩|h2)|⟨h2,_⟩
  ·have:=congrArg xc h2
   simp at this
  ·exact h2
  ·have:=congrArg xc h2
   simp at this
 subst hw;obtain⟨h2,k2,f2,R2⟩:=Ww (m:=m+5) x1.wf Rb ABj rfl (by omega) hu;have x2:h.Ext h2:=Fx.xtF x1 f2 fun b hb=>by rw[hb];exact hbl
 have s2:=s.ext W x2;have nD:∀ b,h.next<=b->¬ A.D b:=fun b hb hd=>by have:=hD b hd;omega
 have nbs:∀ b,¬ A.D b->b≠A.bs:=fun b hb h=>hb (.inl h)
 have lPQ:(P++x::Q).length=(P++Q).length+1:=by simp only[No,tZ];omega
 generalize AFh:(yh (some ⟨bl,0,none⟩) ((P++x::Q).length - 1) (P++x::Q).length)=lv' at k2;obtain⟨h3,st3,AEg,n3,f3,_⟩:=FI (v:=lv') x2.wf s2.row (off:=3) (show 3<7 by omega) s.ne.2.2.2.2 (by rw[<- AFh];rfl) (by rw[<- AFh];rfl);have AEg:h3.Row A.bs 0 (slL A.bd A.tb lv' fv bad false):=AEg;have s3:Sl h3 A T M c0 arm (P++Q) fr lv' fv bad false:=s2.bsx x2.wf f3 AEg (by
   rw[<- AFh];exact(Pc (n:=(P++x::Q).length - 1) (c:=(P++x::Q).length) (f3.row x2.wf R2 (nbs _ (nD _ hbl))) (by omega) (by omega)).mono fun b hb=>by rw[show b=bl from hb];exact nD _ hbl)
  (fun k hk=>by
   have hk':k∈P++x::Q:=by
    rcases uP.1 hk with h1|h1
    ·exact uf _ h1
    ·exact uY _ (td _ h1)
   exact⟨(s2.ko k hk').1.keep fun b el L hb _ r=>f3.row x2.wf r (nbs b hb),(s2.ko k hk').2⟩)
  (s2.fs.keep fun b el L hb r=>f3.row x2.wf r (nbs b hb)) ⟨by have:=s.le.1;omega,s.le.2⟩
 obtain⟨_,_,_,_,l4,_⟩:=BD s3.row;obtain⟨h4,w4,h5,b5,k4,x4,a5,x5,R5,hb5⟩:=mC (n:=m+5) (z:=x.p) f3.wf (xs:=fr) s3.fs.vals (by omega);have bs:=fun (F:ABZ) (e:Env) (he:J 5 e=AI AT (x.p:Int))=>H9 (F:=F) x4.wf he
 have s5:=s3.ext f3.wf x5;generalize AEM:(yh (some ⟨b5,0,none⟩) (fr.length+1) (fr.length+1))=fv' at a5;obtain⟨h6,st6,AFi,n6,f6,_⟩:=FI (v:=fv') x5.wf s5.row (off:=4) (show 4<7 by omega) s.ne.2.2.2.2 (by rw[<- AEM];rfl) (by rw[<- AEM];rfl);have AFi:h6.Row A.bs 0 (slL A.bd A.tb lv' fv' bad false):=AFi;have AGT:h.next<=b5:=by have:=x2.next;have:=f3.next;omega
 have nb5:=nD _ AGT;have R6:=f6.row x5.wf R5 (nbs _ nb5);have AFj:256<=b5:=by have:=W.big;omega
 have lfa:(iv (fr++[x.p])).length=fr.length+1:=by rw[EX,No];rfl
 have hfree:∀ q∈fr++[x.p],3*q+3<=A.n:=fun q hq=>by
  rcases uP.1 hq with h1|h1
  ·exact s.le.2.2.2 q h1
  ·rw[uF.1 h1];exact hp3
 have s6:Sl h6 A T M c0 arm (P++Q) (fr++[x.p]) lv' fv' bad false:=s5.bsx x5.wf f6 AFi (s5.ls.keep fun b el L hb r=>f6.row x5.wf r (nbs b hb)) (fun k hk=>⟨(s5.ko k hk).1.keep fun b el L hb _ r=>f6.row x5.wf r (nbs b hb),(s5.ko k hk).2⟩)
  (by
   rw[<- AEM];refine .inr ⟨b5,4,?_,R6,.inl rfl,nb5⟩;show _=yh _ (iv (fr++[x.p])).length (iv (fr++[x.p])).length;rw[lfa]) ⟨s5.le.1,by rw[No];show fr.length+1<=1000;omega,s5.le.2.2.1,hfree⟩
 obtain⟨_,_,_,_,l46,_⟩:=BD s6.row;obtain⟨h7,k7,f7,R7⟩:=bW (m:=m) (Z:=[]) (n:=fr.length+1) (c:=fr.length+1) f6.wf (by rw[uH];exact R6) AFj (by rw[No];rfl) (by omega);rw[uH]at R7;rw[AEM]at k7;have pm:=G6 (fr++[x.p]);have kp:∀ b el L,b≠b5->h6.Row b el L->h7.Row b el L:=fun b el L hb r=>f7.row f6.wf r hb
 have nbb:∀ b el L,(el=0\/el=6\/el=124)->h6.Row b el L->b≠b5:=fun b el L he r=>FJ r R6 (by omega)
 have s7:Sl h7 A T M c0 arm (P++Q) (Ef (fr++[x.p])) lv' fv' bad false:=by
  refine⟨kp _ _ _ (nbb _ _ _ (.inl rfl) s6.row) s6.row,s6.dk.fr f6.wf f7 (nbb _ _ _ (.inl rfl) s6.dk.disk) (nbb _ _ _ (.inl rfl) s6.dk.med) (fun h=>(Jo R6 s6.dk.map) h.symm),kp _ _ _ (nbb _ _ _ (.inl rfl) s6.tab) s6.tab,s.tok,?_,fun y hy=>⟨(s6.ko y hy).1.keep fun b el L hb he r=>kp b el L (nbb b el L (by omega) r) r,(s6.ko y hy).2⟩,?_,s.ne,?_⟩
  ·rcases s6.ls with h1|⟨b,c,el,L,q1,q2,q3,q4,q5,q6,q7⟩
   ·exact .inl h1
   ·exact .inr ⟨b,c,el,L,q1,q2,kp _ _ _ (nbb b el _ (by omega) q3) q3,q4,q5,q6,q7⟩
  ·rw[<- AEM]
   refine .inr ⟨b5,4,?_,R7,.inl rfl,nb5⟩;show _=yh _ (iv (Ef (fr++[x.p]))).length (iv (Ef (fr++[x.p]))).length;rw[EX,pm.length_eq,No];rfl
  ·exact⟨s6.le.1,by rw[pm.length_eq];exact s6.le.2.1,s6.le.2.2.1,fun q hq=>hfree q (pm.mem_iff.1 hq)⟩
 have fx:Fx (fun b=>b=A.bs) h h7:=by
  have e1:Fx (fun b=>b=A.bs) h h2:=.of x2;have e2:=((e1.trans f3).trans (.of x5)).trans f6;exact e2.fresh f7 AGT
 refine⟨h7,lv',fv',?_,fx,s7,fun b hb=>by
  obtain⟨off,n,c,e1⟩:=hb;rw[<- AEM]at e1;injection e1 with e1 _ _
  injection e1 with e1
  injection e1 with e1 _ _
  omega⟩
 have a1:=Cd (i:=P.length) (h:=h1) (by have:=lPQ;simp only[No]at hkl;omega);have k1':call AC (m+6) 103 [lv] h=.ok (.slice (some ⟨bl,0,none⟩) (P++x::Q).length (P++x::Q).length) h1:=k1;have k2':call AC (m+6) 130 [.slice (some ⟨bl,0,none⟩) (P++x::Q).length (P++x::Q).length,AI AT (P.length:Int),AI AT ((P.length+1:Nat):Int)] h1=.ok lv' h2:=k2;have k4':call AC (m+6) 102 [fv] h3=.ok w4 h4:=k4;have k7':call AC (m+6) 107 [fv'] h6=.ok ABd h7:=k7;rw[dB rfl];unfold mP;simp only[iN,IT,sT,By,BY,reduceIte,Au,Ai,AH,AO,sh,AN,AQ,l3,BA,ix,lp,cA0,k1',BR,a1,k2',AW,st3,l4,k4',bs,BZ,a5,st6,l46,k7',lV0]
theorem aW{P Q:List Kt}{x:Kt}(W:h.Wf)(s:Sl h A T M c0 arm (P++x::Q) fr lv fv bad false)(hkl:(P++x::Q).length<=100)(hfl:fr.length<=11)(hp3:3*x.p+3<=A.n)(ha:CI arm (k+2)):
  ∃ h' c1 AB7 lv' fv',call AC (m+8) 105 [pt A.bs,AI AT (P.length:Int)] h=.ok (AI AT 0) h'/\Fx A.D h h'/\Sl h' A T (Hs M [x.p]) c1 AB7 (P++Q) (Ef (fr++[x.p])) lv' fv' bad false/\CI AB7 k:=by
 obtain⟨_,_,_,l3,_⟩:=BD s.row;obtain⟨b0,_,ix,_,lde⟩:=s.ls.at (i:=P.length) (k:=x) F7;have lp:=lde 5 (AI AT (x.p:Int)) rfl;have bs:=fun (F:ABZ) (e:Env) (he:J 14 e=AI AT (x.p:Int))=>H9 (F:=F) W he
 have y1:=(Hp.Ext.refl W).ABY 0 [ue .i64 (x.p:Int)];have Rw:=Hp.Row.new W 0 [ue .i64 (x.p:Int)];generalize h.ABY 0 [ue .i64 (x.p:Int)]=h1 at bs y1 Rw;have s1:=s.ext W y1;obtain⟨h2,c1,AEh,k2,f2,s2,a2⟩:=Kn (m:=m+1) (k:=k) y1.wf s1 (ps:=[x.p]) (pv:=.slice (some ⟨h.next,0,none⟩) 1 1) (.inr ⟨h.next,0,1,0,_,rfl,Rw,If _,rfl⟩) (fun p hp=>by rw[uF.1 hp];exact hp3) (by simp) (by show 1<=50;omega) (ha.le (by show 1+1+k<=k+2;omega));obtain⟨h3,lv',fv',k3,f3,s3,_⟩:=VC (m:=m) f2.wf s2 hkl hfl hp3;have c00:iNe 0 0=false:=B5 rfl;have k2':call AC (m+7) 81 [pt A.bs,.slice (some ⟨h.next,0,none⟩) 1 1] h1=.ok (AI AT 0) h2:=k2;refine⟨h3,c1,AEh,lv',fv',?_,((Fx.of y1).trans (f2.mono fun b hb=>.inr hb)).trans (f3.mono fun b hb=>.inl hb),s3,a2⟩;rw[dC rfl];unfold mQ;simp only[iN,IT,sT,By,BY,reduceIte,Au,Ai,AH,AO,sh,AN,AQ,l3,BA,ix,lp,bs,cA0,k2',AK,AJ,c00,k3,lV0]
end
end
noncomputable section
open Go
set_option maxRecDepth 100000
def IU(ks:List Kt)(a b c:Int):Option Int:=match ks.find? (Bp a b c)with
 |some k=>if k.s=2 then some 0 else if Cc a b c ks=true then some 61 else none
 |none=>if Cc a b c ks=true then some 61 else some 60
def elB(a b c:Int)(k:Kt):Bool:=decide (k.a=a) && decide (k.b=b) && decide (k.c<c)
def frE(fr:List Nat)(out:List Kt):List Nat:=out.foldl (fun f x=>Ef (f++[x.p])) fr
theorem Qd(fr:List Nat)(out:List Kt)(x:Kt):frE fr (out++[x])=Ef (frE fr out++[x.p]):=by unfold frE;rw[AAL];rfl
theorem JW:∀ (out:List Kt) (fr:List Nat),(frE fr out).Perm (fr++out.map (·.p))
 |[],fr=>by rw[List.map_nil,uH];exact .refl _
 |x::out,fr=>by
  show(frE (Ef (fr++[x.p])) out).Perm _;have:=JW out (Ef (fr++[x.p]));refine this.trans (((G6 _).append_right _).trans ?_);rw[uC];exact .refl _
theorem Uz(fr:List Nat)(out:List Kt):(frE fr out).length=fr.length+out.length:=by rw[(JW out fr).length_eq,No,OF]
theorem MH{α:Type}(P:α->Bool)(l:List α)(x:α):(l++[x]).filter P=if P x=true then l.filter P++[x]else l.filter P:=by
 rw[List.filter_append];cases h:P x
 ·rw[if_neg (by decide),vq (by rw[h];decide),yG,uH]
 ·rw[if_pos rfl,vp h,yG]
theorem Fx.drop{S:Nat->Prop}{h h':Hp}(x:Fx (fun b=>S b\/h.next<=b) h h'):Fx S h h':=⟨x.next,fun i hi hs=>x.get i hi (fun h1=>h1.elim hs (fun h2=>by omega)),x.wf,fun L q1 q2 q3=>x.low L q1 q2 fun b hb=>hb.elim (q3 b) (fun h2=>by omega)⟩
theorem Hp.WI.blk{h:Hp}{S:Nat->Prop}{v:IN}{xs:List IN}(o:h.WI S v xs){b:Nat}(hb:ABw v b):∃ el L,h.Row b el L:=by
 obtain⟨_,_,_,e⟩:=hb;rcases o with ⟨h1,_⟩|⟨b',el,h1,h2,_⟩
 ·rw[h1]at e;cases e
 ·rw[h1]at e
  injection e with e _ _
  injection e with e
  injection e with e _ _
  exact⟨el,_,e ▸ h2⟩
section
variable {F:ABZ}{e:Env}{h h':Hp}{S:Nat->Prop}{A:At}{T M:List Nat}{c0 bad m k p n bl:Nat}{arm:Int}{ks:List Kt}{fr:List Nat}{v lv fv:IN}{ov:Bool}
theorem Hp.Own.fx{en:Nat}{xs:List IN}(o:h.Own k en v xs)(W:h.Wf)(x:Fx S h h')(hs:∀ b,k<=b->¬ S b):h'.Own k en v xs:=by
 rcases o with h1|⟨b,h1,h2,h3,h4⟩
 ·exact .inl h1
 ·exact .inr ⟨b,h1,x.row W h2 (hs b h3),h3,h4⟩
theorem Hp.Own.AHa{en:Nat}{xs:List IN}(o:h.Own k en v xs)(W:h.Wf){b:Nat}(hb:ABw v b):b<h.next:=by
 obtain⟨_,_,_,e⟩:=hb;rcases o with ⟨h1,_⟩|⟨b',h1,h2,_⟩
 ·rw[h1]at e;cases e
 ·rw[h1]at e
  injection e with e _ _
  injection e with e
  injection e with e _ _
  exact e ▸ h2.lt W
theorem Sl.app{w:IN}{xs:List IN}(s:Sl h A T M c0 arm ks fr lv fv bad ov)(o:h.Own k 3 w xs)(hr:∀ b el L,¬ ABw w b->h.Row b el L->h'.Row b el L)(hm:h'.bl.get A.bc=h.bl.get A.bc)(hf:∀ b,ABw fv b->¬ ABw w b):Sl h' A T M c0 arm ks fr lv fv bad ov:=by
 have nb:∀ b el L,(el=0\/el=6\/el=124)->h.Row b el L->¬ ABw w b:=fun b el L he r hb=>by
  obtain⟨_,_,_,e⟩:=hb;rcases o with ⟨h1,_⟩|⟨b',h1,h2,_⟩
  ·rw[h1]at e;cases e
  ·rw[h1]at e
   injection e with e _ _
   injection e with e
   injection e with e _ _
   exact FJ r h2 (by omega) e.symm
 refine⟨hr _ _ _ (nb _ _ _ (.inl rfl) s.row) s.row,⟨hr _ _ _ (nb _ _ _ (.inl rfl) s.dk.disk) s.dk.disk,hr _ _ _ (nb _ _ _ (.inl rfl) s.dk.med) s.dk.med,s.dk.len,s.dk.byt,hm.trans s.dk.map,s.dk.big,s.dk.n1⟩,hr _ _ _ (nb _ _ _ (.inl rfl) s.tab) s.tab,s.tok,?_,fun y hy=>⟨(s.ko y hy).1.keep fun b el L hb he r=>hr b el L (nb b el L (by omega) r) r,(s.ko y hy).2⟩,?_,s.ne,s.le⟩
 ·rcases s.ls with h1|⟨b,c,el,L,q1,q2,q3,q4,q5,q6,q7⟩
  ·exact .inl h1
  ·exact .inr ⟨b,c,el,L,q1,q2,hr _ _ _ (nb b el _ (by omega) q3) q3,q4,q5,q6,q7⟩
 ·rcases s.fs with h1|⟨b,el,h1,h2,h3,h4⟩
  ·exact .inl h1
  ·exact .inr ⟨b,el,h1,hr _ _ _ (hf b ⟨_,_,_,h1⟩) h2,h3,h4⟩
theorem gc(W:h.Wf){z:Nat}{xs:List Nat}(hk:k<=h.next)(o:h.Own k 3 v (iv xs))(hl:xs.length<=1000):
  ∃ h2 v',DN 1 8 3 v (.slice (some ⟨h.next,0,none⟩) 1 1) (h.ABY 0 [AI AT (z:Int)])=.ok v' h2/\Fx (fun b=>k<=b) h h2/\h2.Own k 3 v' (iv (xs++[z]))/\∀ b el L,¬ ABw v b->h.Row b el L->h2.Row b el L/\¬ ABw v' b:=by
 have y2:=(Hp.Ext.refl W).ABY 0 [ue .i64 (z:Int)];have Rw:=Hp.Row.new W 0 [ue .i64 (z:Int)];have n2:(h.ABY 0 [ue .i64 (z:Int)]).next=h.next+1:=rfl;generalize h.ABY 0 [ue .i64 (z:Int)]=g at y2 Rw n2;have Vz:g.ABy (.slice (some ⟨h.next,0,none⟩) 1 1) [AI AT (z:Int)]:=.inr ⟨h.next,0,1,0,_,rfl,Rw,If _,rfl⟩;have x0:Hp.Ext {g with next:=k,low:=min g.low k} g:=⟨by show k<=g.next;omega,fun _ _=>rfl,by show min (min g.low k) k<=g.low;omega,y2.wf⟩;obtain⟨h2,v',a1,a2,a3,a4,a5⟩:=Er (eb:=8) (en:=3) (k:=k) x0 (If _) (by omega) (o.ext W y2) Vz ABL rfl (by rw[EX];show(xs.length+1+1) * 9<=_;omega);have f2:Fx (fun b=>k<=b) g h2:=⟨by omega,fun i hi hs=>a2.get i (by show i<k;omega),a2.wf,fun L q1 q2 q3=>uO (ABS.2 ⟨ABS.2 ⟨q1,q3 k (If _)⟩,q3 k (If _)⟩) a2.low⟩;refine⟨h2,v',a1,(Fx.of y2).trans f2,by rw[Zi];exact a3,fun b el L hb r=>?_⟩;exact a5 b el L hb (r.ext W y2)
theorem Yk{a b c:Int}(W:h.Wf)(s:Sl h A T M c0 arm ks fr lv fv bad false)(hkl:fr.length+ks.length<=11)(hp3:∀ k∈ks,3*k.p+3<=A.n)(s0:J 0 e=pt A.bs)(s1:J 1 e=AI AT a)(s2:J 2 e=AI AT b)(s3:J 3 e=AI AT c)(s15:J 15 e=ABc)(s16:J 16 e=AI AT ((0:Nat):Int)):
  ∃ e' h' lv' fv' w,A4 cmL (call AC (m+7)) e h=.exit 1 e' h'/\Fx (fun b=>b=A.bs) h h'/\J 0 e'=pt A.bs/\J 15 e'=w/\h'.Own h.next 3 w (iv ((ks.filter (elB a b c)).map (·.p)))/\
   Sl h' A T M c0 arm (ks.filter fun k=> !elB a b c k) (frE fr (ks.filter (elB a b c))) lv' fv' bad false:=by
 have hD:=s.AD7 W;have hbs:=hD A.bs (.inl rfl);refine Bb (I:=fun i e' h'=>∃ lv' fv' w,Fx (fun b=>b=A.bs\/h.next<=b) h h'/\J 0 e'=pt A.bs/\J 1 e'=AI AT a/\J 2 e'=AI AT b/\J 3 e'=AI AT c/\J 15 e'=w/\J 16 e'=AI AT ((((ks.take i).filter fun k=> !elB a b c k).length:Nat):Int)/\i<=ks.length/\h'.Own h.next 3 w (iv (((ks.take i).filter (elB a b c)).map (·.p)))/\
   Sl h' A T M c0 arm ((ks.take i).filter (fun k=> !elB a b c k)++ks.drop i) (frE fr ((ks.take i).filter (elB a b c))) lv' fv' bad false/\∀ b,ABw fv' b->¬ ABw w b)
  (Q:=fun x=>∃ e' h' lv' fv' w,x=.exit 1 e' h'/\Fx (fun b=>b=A.bs) h h'/\J 0 e'=pt A.bs/\J 15 e'=w/\h'.Own h.next 3 w (iv ((ks.filter (elB a b c)).map (·.p)))/\
   Sl h' A T M c0 arm (ks.filter fun k=> !elB a b c k) (frE fr (ks.filter (elB a b c))) lv' fv' bad false) ks.length (by omega) (fun i e' h' ⟨lv',fv',w,fx,t0,t1,t2,t3,t15,t16,hi,ow,sl,hf⟩=>?_) ⟨lv,fv,ABc,.refl W,s0,s1,s2,s3,s15,s16,uD _,.inl ⟨rfl,rfl⟩,s,fun b _ h=>JD h⟩
 have W':=fx.wf;obtain⟨_,_,_,l3,_⟩:=BD sl.row;have ln:=sl.ls.len h';have hfl:=Uz fr ((ks.take i).filter (elB a b c));have hf1:((ks.take i).filter (elB a b c)).length<=(ks.take i).length:=vd _ _;have hf2:((ks.take i).filter (fun k=> !elB a b c k)).length<=(ks.take i).length:=vd _ _;rw[uL,Nat.min_eq_left hi]at hf1 hf2;by_cases hlt:i<ks.length
 ·left
  obtain⟨x,hx⟩:∃ x,ks[i]? =some x:=⟨_,tW hlt⟩;have hxm:=tq hx;have htk:ks.take (i+1)=ks.take i++[x]:=by rw[AAI,hx];rfl
  have hdr:ks.drop i=x::ks.drop (i+1):=by
   rw[vr hlt];rw[tW hlt]at hx;injection hx with hx
   rw[hx]
  have hfN:=MH (fun k=> !elB a b c k) (ks.take i) x;have hfY:=MH (elB a b c) (ks.take i) x;rw[<- htk]at hfN hfY;generalize hP:(ks.take i).filter (fun k=> !elB a b c k)=P at *;generalize hO:(ks.take i).filter (elB a b c)=O at *;rw[hdr]at sl ln;have hPl:(P++x::ks.drop (i+1)).length=P.length+1+(ks.length - (i+1)):=by rw[No,tZ,ua];omega
  have c1:iLt (P.length:Int) ((P++x::ks.drop (i+1)).length:Int)=true:=EP (by omega);obtain⟨b',_,ix,ld,_⟩:=sl.ls.at (i:=P.length) (k:=x) F7;have al:=fun (F:ABZ) (e:Env)=>BL (F:=F) (e:=e) W' (n:=6) (t:=Cr)
  have Ra:=Hp.Row.alloc W' Fq (show(Af K0).length=6 from rfl);have y1:h'.Ext (h'.push (.cells Cr 6 0)):=(Hp.Ext.refl W').push _;generalize h'.push (.cells Cr 6 0)=h1 at al Ra y1;have hu:=(sl.ko x (uY _ te)).1.vs.one.2.1;obtain⟨st,_,y2,R5,n2⟩:=My W' y1 (If _) Ra rfl (k:=x) hu;generalize h1.wr h'.next 0 (Af x)=h2 at st y2 R5 n2;obtain⟨m0,m1,m2,_⟩:=CV R5;have sl2:=sl.ext W' y2;cases hel:elB a b c x with
  |false=>
   have a3:=Cd (i:=P.length) (h:=h2) (by omega);rw[if_pos (by rw[hel];rfl)]at hfN;rw[if_neg (by rw[hel];decide)]at hfY;have hrun:∃ e2,cmL (call AC (m+7)) e' h'=.norm e2 h2/\J 0 e2=pt A.bs/\J 1 e2=AI AT a/\J 2 e2=AI AT b/\J 3 e2=AI AT c/\J 15 e2=w/\J 16 e2=AI AT ((P.length+1:Nat):Int):=by
    unfold cmL;by_cases h1:x.a=a
    ·have d1:iEq x.a a=true:=CU h1
     by_cases h2:x.b=b
     ·have d2:iEq x.b b=true:=CU h2
      have d3:iLt x.c c=false:=E5 (fun h3=>by
       unfold elB at hel;rw[decide_eq_true h1,decide_eq_true h2,decide_eq_true h3]at hel;cases hel)
      simp only[sT,By,BY,reduceIte,gD,Au,t0,Ai,AH,AO,sh,AN,AQ,l3,AX,ln,AK,AJ,t16,c1,BA,ix,Ap,Aj,ld,al,AW,st,m0,m1,m2,t1,t2,t3,d1,d2,d3,BR,a3];exact⟨_,rfl,by simp[AG,t0,t1,t2,t3,t15]⟩
     ·have d2:iEq x.b b=false:=B9 h2
      simp only[sT,By,BY,reduceIte,gD,Au,t0,Ai,AH,AO,sh,AN,AQ,l3,AX,ln,AK,AJ,t16,c1,BA,ix,Ap,Aj,ld,al,AW,st,m0,m1,m2,t1,t2,t3,d1,d2,BR,a3];exact⟨_,rfl,by simp[AG,t0,t1,t2,t3,t15]⟩
    ·have d1:iEq x.a a=false:=B9 h1
     simp only[sT,By,BY,reduceIte,gD,Au,t0,Ai,AH,AO,sh,AN,AQ,l3,AX,ln,AK,AJ,t16,c1,BA,ix,Ap,Aj,ld,al,AW,st,m0,m1,m2,t1,t2,t3,d1,BR,a3];exact⟨_,rfl,by simp[AG,t0,t1,t2,t3,t15]⟩
   obtain⟨e2,r1,r2,r3,r4,r5,r6,r7⟩:=hrun;refine⟨hlt,e2,h2,r1,lv',fv',w,fx.trans (.of y2),r2,r3,r4,r5,r6,?_,hlt,?_,?_,hf⟩
   ·rw[hfN,r7,No];rfl
   ·rw[hfY];exact ow.ext W' y2
   ·rw[hfN,hfY,uC];exact sl2
  |true=>
   rw[if_neg (by rw[hel];decide)]at hfN;rw[if_pos hel]at hfY;have hxx:x.a=a/\x.b=b/\x.c<c:=by
    unfold elB at hel;rw[uB,uB]at hel;exact⟨of_decide_eq_true hel.1.1,of_decide_eq_true hel.1.2,of_decide_eq_true hel.2⟩
   have d1:iEq x.a a=true:=CU hxx.1;have d2:iEq x.b b=true:=CU hxx.2.1;have d3:iLt x.c c=true:=HZ hxx.2.2;obtain⟨h3,lv3,fv3,k3,f3,s3',hfr⟩:=VC (m:=m) y2.wf sl2 (by omega) (by omega) (hp3 x hxm);have ow3:h3.Own h.next 3 w (iv (O.map (·.p))):=(ow.ext W' y2).fx y2.wf f3 fun b hb h1=>by omega
   have n3:h.next<=h3.next:=by have:=fx.next;have:=y2.next;have:=f3.next;omega
   obtain⟨h5,w',k5,f5,ow5,kp5⟩:=gc (z:=x.p) f3.wf n3 ow3 (by rw[OF];omega);have bs:=fun (F:ABZ) (e:Env) (he:J 134 e=AI AT (x.p:Int))=>H9 (F:=F) f3.wf he
   have hm5:h5.bl.get A.bc=h3.bl.get A.bc:=f5.get _ ((s3'.dk.lt f3.wf).2.2) (fun h1=>by
    have:=hD A.bc (.inr (.inr (.inr rfl)));omega)
   have hf3:∀ b,ABw fv3 b->¬ ABw w b:=fun b hb h1=>by
    have:=hfr b hb;have:=ow.AHa W' h1;have:=y2.next;omega
   have s5:=s3'.app ow3 (fun b el L hb r=>(kp5 b el L hb r).1) hm5 hf3;have hf5:∀ b,ABw fv3 b->¬ ABw w' b:=fun b hb=>by
    obtain⟨el,L,r⟩:=s3'.fs.blk hb;exact(kp5 b el L (hf3 b hb) r).2
   have a3:=fun (g:Hp)=>Cd (i:=P.length) (h:=g) (by omega)
   have k3':call AC (m+7) 104 [pt A.bs,AI AT (P.length:Int)] h2=.ok (AI AT (x.p:Int)) h3:=k3;have hrun:∃ e2,cmL (call AC (m+7)) e' h'=.norm e2 h5/\J 0 e2=pt A.bs/\J 1 e2=AI AT a/\J 2 e2=AI AT b/\J 3 e2=AI AT c/\J 15 e2=w'/\J 16 e2=AI AT (P.length:Int):=by
    unfold cmL;simp only[sT,By,BY,reduceIte,gD,Au,t0,Ai,AH,AO,sh,AN,AQ,l3,AX,ln,AK,AJ,t16,c1,BA,ix,Ap,Aj,ld,al,AW,st,m0,m1,m2,t1,t2,t3,d1,d2,d3,cA0,k3',bs,BZ,t15,k5];exact⟨_,rfl,by simp[AG,t0,t1,t2,t3,t16]⟩
   obtain⟨e2,r1,r2,r3,r4,r5,r6,r7⟩:=hrun;refine⟨hlt,e2,h5,r1,lv3,fv3,w',?_,r2,r3,r4,r5,r6,?_,hlt,?_,?_,hf5⟩
   ·exact((fx.trans (.of y2)).trans (f3.mono fun b hb=>.inl hb)).trans (f5.mono fun b hb=>.inr hb)
   ·rw[hfN];exact r7
   ·rw[hfY,ud];exact ow5
   ·rw[hfN,hfY,Qd];exact s5
 ·right
  have hie:i=ks.length:=by omega
  subst hie;rw[vF]at *;rw[xe,uH]at sl ln;have c1:iLt (((ks.filter fun k=> !elB a b c k).length:Nat):Int) (((ks.filter fun k=> !elB a b c k).length:Nat):Int)=false:=Cv (If _);have hrun:∃ e2,cmL (call AC (m+7)) e' h'=.exit 1 e2 h'/\J 0 e2=pt A.bs/\J 15 e2=w:=by
   unfold cmL;simp only[sT,By,BY,reduceIte,Au,t0,Ai,AH,AO,sh,AN,AQ,l3,AX,ln,AK,AJ,t16,c1];exact⟨_,rfl,by simp[AG,t0,t15]⟩
  obtain⟨e2,r1,r2,r3⟩:=hrun;rw[r1];exact⟨rfl,e2,h',lv',fv',w,rfl,fx.drop,r2,r3,ow,sl⟩
end
end
noncomputable section
open Go
set_option maxRecDepth 100000
theorem M9{α:Type}{l:List α}{j:Nat}{x:α}(h:l[j]? =some x):l.set j x=l:=by
 obtain⟨hj,rfl⟩:=uK.1 h;exact List.set_getElem_self hj
theorem PN{α:Type}{l:List α}{j:Nat}{x:α}(h:l[j]? =some x):l=l.take j++x::l.drop (j+1)/\(l.take j).length=j:=by
 obtain⟨hj,rfl⟩:=uK.1 h;refine⟨?_,by rw[uL];omega⟩;rw[<- vr hj,va]
theorem H7{a b c:Int}{k:Kt}(h:Bp a b c k=true):k.a=a/\k.b=b/\k.c=c:=by
 unfold Bp at h;rw[uB,uB]at h;exact⟨of_decide_eq_true h.1.1,of_decide_eq_true h.1.2,of_decide_eq_true h.2⟩
theorem sM{i:Nat}{g:Hp}(hi:i<=1000000):FX uZ .i64 (AI AT (i:Int)) (AI AT 1) g=.ok (AI AT ((i:Int) - 1)) g:=by
 cases i with
 |zero=>rw[Ce];rfl
 |succ n=>rw[Tm (by omega),show((n+1:Nat):Int) - 1=(n:Int)by omega]
theorem nt:dpS=BB (AY 0 (A4 dpL)) dpE:=rfl
theorem nU:d67=eM:=rfl
section
variable {F:ABZ}{e:Env}{h h':Hp}{A:At}{T M:List Nat}{c0 bad m k p n:Nat}{arm:Int}{ks:List Kt}{fr:List Nat}{lv fv:IN}
theorem Ym(W:h.Wf)(s:Sl h A T M c0 arm ks fr lv fv bad false){a b c z:Int}(hz:IU ks a b c=some z):
  ∃ h',call AC (m+8) 59 [pt A.bs,AI AT a,AI AT b,AI AT c] h=.ok (AI AT z) h'/\h.Ext h':=by
 have hkl:=s.le.1;have c00:iNe 0 0=false:=B5 rfl;have k0:=NO (m:=m+6) s.row;obtain⟨h1,k1,x1⟩:=F0 (m:=m+4) W s.row s.ls.ks (by omega) a b c;have s1:=s.ext W x1;obtain⟨_,_,_,l3,_⟩:=BD s1.row;obtain⟨h2,k2,x2⟩:=Gh (m:=m+3) x1.wf s1.row s1.ls.ks (by omega) a b c;have x12:=x1.trans x2;unfold IU at hz;rcases Dw (Bp a b c) ks 0 with ⟨e1,e2⟩|⟨j,kx,e1,e2,e3⟩
 ·rw[e1]at hz
  rw[e2]at k1;have c1:iGe (-1) 0=false:=EK (by omega);have c2:iLt (-1) 0=true:=HZ (by omega);simp only at hz;cases hst:Cc a b c ks with
  |true=>
   rw[hst]at hz k2;rw[if_pos rfl]at hz;cases hz;refine⟨h2,?_,x12⟩;rw[Lx rfl,MB];unfold Oq;simp only[iN,IT,sT,By,BY,reduceIte,gD,cA0,k0,AK,AJ,c00,k1,c1,k2,lV0]
  |false=>
   rw[hst]at hz k2;rw[if_neg (by decide)]at hz;cases hz;refine⟨h2,?_,x12⟩;rw[Lx rfl,MB];unfold Oq;simp only[iN,IT,sT,By,BY,reduceIte,gD,cA0,k0,AK,AJ,c00,k1,c1,k2,c2,lV0]
 ·rw[e1]at hz
  rw[e3,sh]at k1;have hjl:=(uK.1 e2).1;have hkm:=tq e2;have c1:iGe (j:Int) 0=true:=F2 (by omega);have c3:iLt (j:Int) 0=false:=E5 (by omega);obtain⟨bb,_,ix,ld,lde⟩:=s1.ls.ks.at e2;have lst:=lde 3 (.int .u8 (kx.s:Int)) rfl;simp only at hz;by_cases hs2:kx.s=2
  ·rw[if_pos hs2]at hz
   cases hz;have c2:iEq (kx.s:Int) 2=true:=CU (by omega);refine⟨h1,?_,x1⟩;rw[Lx rfl,MB];unfold Oq;simp only[iN,IT,sT,By,BY,reduceIte,gD,cA0,k0,AK,AJ,c00,k1,c1,Au,Ai,AH,AO,sh,vS,AN,AQ,l3,BA,ix,lst,c2,lV0]
  ·rw[if_neg hs2]at hz
   have c2:iEq (kx.s:Int) 2=false:=B9 (by omega);cases hst:Cc a b c ks with
   |true=>
    rw[hst]at hz k2;rw[if_pos rfl]at hz;cases hz;refine⟨h2,?_,x12⟩;rw[Lx rfl,MB];unfold Oq;simp only[iN,IT,sT,By,BY,reduceIte,gD,cA0,k0,AK,AJ,c00,k1,c1,Au,Ai,AH,AO,sh,vS,AN,AQ,l3,BA,ix,lst,c2,k2,lV0]
   |false=>
    rw[hst]at hz;rw[if_neg (by decide)]at hz;cases hz
theorem Yl(W:h.Wf)(s:Sl h A T M c0 arm ks fr lv fv bad false){a b c:Int}(hkl:fr.length+ks.length<=11)(hp3:∀ k∈ks,3*k.p+3<=A.n)(hnd:(ks.map (·.p)).Nodup)(ha:CI arm (k+20)):
  (∃ z h',IU ks a b c=some z/\call AC (m+8) 59 [pt A.bs,AI AT a,AI AT b,AI AT c] h=.ok (AI AT z) h'/\h.Ext h')\/
  (IU ks a b c=none/\∃ j kx h' c1 AB7 lv' fv',ks[j]? =some kx/\(kx.a=a/\kx.b=b/\kx.c=c)/\kx.s=1/\ks.find? (Bp a b c)=some kx/\Cc a b c ks=false/\call AC (m+8) 59 [pt A.bs,AI AT a,AI AT b,AI AT c] h=.ok (AI AT 0) h'/\Fx A.D h h'/\
   Sl h' A T (Hs (HF M kx.p (AB1 T a b c 2 kx.l)) (((ks.set j {kx with s:=2}).filter (elB a b c)).map (·.p))) c1 AB7 ((ks.set j {kx with s:=2}).filter fun k=> !elB a b c k) (frE fr ((ks.set j {kx with s:=2}).filter (elB a b c))) lv' fv' bad false/\CI AB7 k):=by
 cases hz:IU ks a b c with
 |some z=>
  obtain⟨h',k1,x1⟩:=Ym (m:=m) W s hz;exact .inl ⟨z,h',rfl,k1,x1⟩
 |none=>
  right;unfold IU at hz;rcases Dw (Bp a b c) ks 0 with ⟨e1,e2⟩|⟨j,kx,e1,e2,e3⟩
  ·rw[e1]at hz
   simp only at hz;split at hz<;>cases hz
  rw[e1]at hz;simp only at hz;split at hz
  ·cases hz
  rename_i hs2;split at hz
  ·cases hz
  rename_i hst;have ADr:Cc a b c ks=false:=by
   cases hq:Cc a b c ks
   ·rfl
   ·exact absurd hq hst
  have hkm:=tq e2;have hs1:kx.s=1:=(s.ko kx hkm).2.2.2.1.resolve_right hs2;have ACk:=H7 (yF e1);rw[sh]at e3;obtain⟨h12,c9,ADi,w10,e2',r1,u0,u1,u2,u3,u15,u16,AEy,s12,a9⟩:=Yo (m:=m) (k:=k+15) W s e2 hs1 e3 ACk ADr (hp3 kx hkm) s.le.1 (ha.le (by omega));have sm:(ks.set j {kx with s:=2}).map (·.p)=ks.map (·.p):=by
   rw[xa];exact M9 (by rw[uq,e2];rfl)
  have AGU:∀ x∈ks.set j {kx with s:=2},3*x.p+3<=A.n:=fun x hx=>by
   rcases List.mem_or_eq_of_mem_set hx with h1|h1
   ·exact hp3 x h1
   ·rw[h1];exact hp3 kx hkm
  have hsl:(ks.set j {kx with s:=2}).length=ks.length:=List.length_set;generalize hX:ks.set j {kx with s:=2}=ksX at *;obtain⟨e3',h13,lv3,fv3,w,r2,f13,v0,v15,ow,s13⟩:=Yk (m:=m) (a:=a) (b:=b) (c:=c) AEy.wf s12 (by omega) AGU u0 u1 u2 u3 u15 u16;have hfl:(ksX.filter (elB a b c)).length<=ksX.length:=vd _ _;have hos:((ksX.filter (elB a b c)).map (·.p)).Nodup:=yc (zw.map _) (sm ▸ hnd);have hol:((ksX.filter (elB a b c)).map (·.p)).length<=11:=by rw[OF];omega
  obtain⟨h14,c14,AC4,k14,f14,s14,a14⟩:=Kn (m:=m+1) (k:=k) f13.wf s13 (ps:=(ksX.filter (elB a b c)).map fun x:Kt=>x.p) (pv:=w) ow.vals (fun p hp=>by
   obtain⟨x,hx,rfl⟩:=vL.1 hp;exact AGU x ((ut.1 hx).1)) hos (by omega) (a9.le (by omega))
  have AFd:call AC (m+7) 81 [pt A.bs,w] h13=.ok (AI AT 0) h14:=k14;refine⟨rfl,j,kx,h14,c14,AC4,lv3,fv3,e2,ACk,hs1,e1,ADr,?_,(AEy.trans (f13.mono fun b hb=>.inl hb)).trans (f14.mono fun b hb=>.inr hb),by rw[hX];exact s14,a14⟩;rw[Lx rfl,MB,r1,mH];simp only[A9,An,r2,A8,A3];unfold cmE;simp only[sT,By,BY,reduceIte,cA0,v0,v15,AFd,lV0]
def abE(ks:List Kt)(a b c:Int):Option Int:=if Cc a b c ks=true then some 61 else match ks.find? (Bp a b c)with
 |some _=>none
 |none=>some 0
theorem jK(W:h.Wf)(s:Sl h A T M c0 arm ks fr lv fv bad false){a b c z:Int}(hz:abE ks a b c=some z):
  ∃ h',call AC (m+9) 60 [pt A.bs,AI AT a,AI AT b,AI AT c] h=.ok (AI AT z) h'/\h.Ext h':=by
 have AHb:=s.le.1;have c00:iNe 0 0=false:=B5 rfl;have k0:=NO (m:=m+7) s.row;obtain⟨h1,k1,x1⟩:=F0 (m:=m+5) W s.row s.ls.ks (by omega) a b c;have s1:=s.ext W x1;obtain⟨h2,k2,x2⟩:=Gh (m:=m+4) x1.wf s1.row s1.ls.ks (by omega) a b c;have x12:=x1.trans x2;unfold abE at hz;cases hst:Cc a b c ks with
 |true=>
  rw[hst]at k2 hz;rw[if_pos rfl]at hz;cases hz;refine⟨h2,?_,x12⟩;rw[Si rfl];unfold d60;simp only[iN,IT,sT,By,BY,reduceIte,gD,cA0,k0,AK,AJ,c00,k1,k2,lV0]
 |false=>
  rw[hst]at k2 hz;rw[if_neg (by decide)]at hz;rcases Dw (Bp a b c) ks 0 with ⟨e1,e2⟩|⟨j,kx,e1,e2,e3⟩
  ·rw[e2]at k1
   rw[e1]at hz;cases hz;have c2:iLt (-1) 0=true:=HZ (by omega);refine⟨h2,?_,x12⟩;rw[Si rfl];unfold d60;simp only[iN,IT,sT,By,BY,reduceIte,gD,cA0,k0,AK,AJ,c00,k1,k2,c2,lV0]
  ·rw[e1]at hz
   cases hz
theorem We(W:h.Wf)(s:Sl h A T M c0 arm ks fr lv fv bad false){a b c:Int}(hkl:fr.length+ks.length<=11)(hp3:∀ k∈ks,3*k.p+3<=A.n)(ha:CI arm (k+2)):
  (∃ z h',abE ks a b c=some z/\call AC (m+9) 60 [pt A.bs,AI AT a,AI AT b,AI AT c] h=.ok (AI AT z) h'/\h.Ext h')\/
  (abE ks a b c=none/\∃ j kx h' c1 AB7 lv' fv',ks[j]? =some kx/\(kx.a=a/\kx.b=b/\kx.c=c)/\ks.find? (Bp a b c)=some kx/\Cc a b c ks=false/\call AC (m+9) 60 [pt A.bs,AI AT a,AI AT b,AI AT c] h=.ok (AI AT 0) h'/\Fx A.D h h'/\
   Sl h' A T (Hs M [kx.p]) c1 AB7 (ks.take j++ks.drop (j+1)) (Ef (fr++[kx.p])) lv' fv' bad false/\CI AB7 k):=by
 cases hz:abE ks a b c with
 |some z=>
  obtain⟨h',k1,x1⟩:=jK (m:=m) W s hz;exact .inl ⟨z,h',rfl,k1,x1⟩
 |none=>
  have AHb:=s.le.1;have c00:iNe 0 0=false:=B5 rfl;have k0:=NO (m:=m+7) s.row;obtain⟨h1,k1,x1⟩:=F0 (m:=m+5) W s.row s.ls.ks (by omega) a b c;have s1:=s.ext W x1;obtain⟨h2,k2,x2⟩:=Gh (m:=m+4) x1.wf s1.row s1.ls.ks (by omega) a b c;have x12:=x1.trans x2;unfold abE at hz;cases hst:Cc a b c ks with
  |true=>
   rw[hst]at hz;rw[if_pos rfl]at hz;cases hz
  |false=>
   rw[hst]at k2 hz;rw[if_neg (by decide)]at hz;rcases Dw (Bp a b c) ks 0 with ⟨e1,e2⟩|⟨j,kx,e1,e2,e3⟩
   ·rw[e1]at hz
    cases hz
   ·rw[e3,sh]at k1
    have c2:iLt (j:Int) 0=false:=E5 (by omega);have hkm:=tq e2;have ACk:=H7 (yF e1);obtain⟨q1,q2⟩:=PN e2;have s2:=s.ext W x12;have s2':Sl h2 A T M c0 arm (ks.take j++kx::ks.drop (j+1)) fr lv fv bad false:=by rw[<- q1];exact s2
    obtain⟨h3,c1,AB7,lv',fv',k3,f3,s3,a3⟩:=aW (m:=m) (k:=k) x12.wf s2' (by rw[<- q1];omega) (by omega) (hp3 kx hkm) ha;rw[q2]at k3;have k3':call AC (m+8) 105 [pt A.bs,AI AT (j:Int)] h2=.ok (AI AT 0) h3:=k3;refine .inr ⟨rfl,j,kx,h3,c1,AB7,lv',fv',e2,ACk,e1,rfl,?_,(Fx.of x12).trans f3,s3,a3⟩;rw[Si rfl];unfold d60;simp only[iN,IT,sT,By,BY,reduceIte,gD,cA0,k0,AK,AJ,c00,k1,k2,c2,k3',lV0]
def drB(a b c:Int)(k:Kt):Bool:=decide (k.a=a) && decide (k.b=b) && decide (k.c<=c)
def IV(M:List Nat)(out:List Kt):List Nat:=out.foldl (fun M x=>Hs M [x.p]) M
theorem Sx(M:List Nat)(out:List Kt)(x:Kt):IV M (out++[x])=Hs (IV M out) [x.p]:=by unfold IV;rw[AAL];rfl
def drO(a b c:Int)(ks:List Kt):List Kt:=(ks.filter (drB a b c)).reverse
theorem ZF(a b c:Int)(x:Kt)(ks:List Kt):drO a b c (x::ks)=if drB a b c x=true then drO a b c ks++[x]else drO a b c ks:=by
 unfold drO;cases h:drB a b c x
 ·rw[if_neg (by decide),vq (by rw[h];decide)]
 ·rw[if_pos rfl,vp h,AAJ]
theorem eV(a b c:Int)(x:Kt)(ks:List Kt):(drO a b c (ks++[x])).length=(drO a b c ks).length+if drB a b c x=true then 1 else 0:=by
 unfold drO;rw[xG,xG,MH];split
 ·rw[No];rfl
 ·rfl
theorem Wx{a b c:Int}(W:h.Wf)(s:Sl h A T M c0 arm ks fr lv fv bad false)(hkl:fr.length+ks.length<=11)(hp3:∀ k∈ks,3*k.p+3<=A.n)(ha:CI arm (k+2*(drO a b c ks).length))(s0:J 0 e=pt A.bs)(s1:J 1 e=AI AT a)(s2:J 2 e=AI AT b)(s3:J 3 e=AI AT c)(s10:J 10 e=AI AT ((ks.length:Int) - 1)):
  ∃ e' h' c1 AB7 lv' fv',A4 dpL (call AC (m+8)) e h=.exit 0 e' h'/\Fx A.D h h'/\Sl h' A T (IV M (drO a b c ks)) c1 AB7 (ks.filter fun k=> !drB a b c k) (frE fr (drO a b c ks)) lv' fv' bad false/\CI AB7 k:=by
 refine Bb (I:=fun t e' h'=>∃ i c1 AB7 lv' fv',i+t=ks.length/\Fx A.D h h'/\J 0 e'=pt A.bs/\J 1 e'=AI AT a/\J 2 e'=AI AT b/\J 3 e'=AI AT c/\J 10 e'=AI AT ((i:Int) - 1)/\
   Sl h' A T (IV M (drO a b c (ks.drop i))) c1 AB7 (ks.take i++(ks.drop i).filter fun k=> !drB a b c k) (frE fr (drO a b c (ks.drop i))) lv' fv' bad false/\CI AB7 (k+2*(drO a b c (ks.take i)).length))
  (Q:=fun x=>∃ e' h' c1 AB7 lv' fv',x=.exit 0 e' h'/\Fx A.D h h'/\Sl h' A T (IV M (drO a b c ks)) c1 AB7 (ks.filter fun k=> !drB a b c k) (frE fr (drO a b c ks)) lv' fv' bad false/\CI AB7 k) ks.length (by omega) (fun t e' h' ⟨i,c1,AEh,lv',fv',hit,fx,t0,t1,t2,t3,t10,sl,am⟩=>?_) ⟨ks.length,c0,arm,lv,fv,rfl,.refl W,s0,s1,s2,s3,s10,by rw[vF,xe,yG,uH];exact s,by rw[vF];exact ha⟩
 have W':=fx.wf;cases i with
 |zero=>
  right;rw[List.take_zero,uN,uv]at sl;have c2:iGe (((0:Nat):Int) - 1) 0=false:=EK (by omega);obtain⟨e2,r1⟩:∃ e2,dpL (call AC (m+8)) e' h'=.exit 0 e2 h':=by
   unfold dpL;simp only[sT,By,BY,reduceIte,AK,AJ,t10,c2];exact⟨_,rfl⟩
  rw[r1];exact⟨rfl,e2,h',c1,AEh,lv',fv',rfl,fx,sl,am.le (Nat.le_add_right _ _)⟩
 |succ i=>
  left;have hlt:i<ks.length:=by omega
  obtain⟨x,hx⟩:∃ x,ks[i]? =some x:=⟨_,tW hlt⟩;have hxm:=tq hx;have htk:ks.take (i+1)=ks.take i++[x]:=by rw[AAI,hx];rfl
  have hdr:ks.drop i=x::ks.drop (i+1):=by
   rw[vr hlt];rw[tW hlt]at hx;injection hx with hx
   rw[hx]
  have hdl:=eV a b c x (ks.take i);rw[<- htk]at hdl;have hPl:(ks.take i).length=i:=by rw[uL];omega
  have hdo:=ZF a b c x (ks.drop (i+1));rw[<- hdr]at hdo;have hol:(drO a b c (ks.drop (i+1))).length<=ks.length - (i+1):=by
   unfold drO;rw[xG,<- ua];exact vd _ _
  have hRl:((ks.drop (i+1)).filter fun k=> !drB a b c k).length<=ks.length - (i+1):=by
   rw[<- ua];exact vd _ _
  have hfi:(ks.drop i).filter (fun k=> !drB a b c k)=if drB a b c x=true then(ks.drop (i+1)).filter (fun k=> !drB a b c k)else x::(ks.drop (i+1)).filter (fun k=> !drB a b c k):=by
   rw[hdr];cases h:drB a b c x
   ·rw[if_neg (by decide),vp (by rw[h];rfl)]
   ·rw[if_pos rfl,vq (by rw[h];decide)]
  generalize hP:ks.take i=P at *;generalize hR:(ks.drop (i+1)).filter (fun k=> !drB a b c k)=R at *;generalize hO:drO a b c (ks.drop (i+1))=O at *;rw[htk,uC]at sl;have sl:Sl h' A T (IV M O) c1 AEh (P++x::R) (frE fr O) lv' fv' bad false:=sl;have hle:(P++x::R).length=i+1+R.length:=by rw[No,tZ,hPl];omega
  obtain⟨_,_,_,l3,_⟩:=BD sl.row;have t10:J 10 e'=AI AT (i:Int):=by rw[t10,show((i+1:Nat):Int) - 1=(i:Int)by omega]
  have c2:iGe (i:Int) 0=true:=F2 (by omega);obtain⟨b',_,ix,ld,_⟩:=sl.ls.at (i:=P.length) (k:=x) F7;rw[hPl]at ix ld;have al:=fun (F:ABZ) (e:Env)=>BL (F:=F) (e:=e) W' (n:=6) (t:=Cr)
  have Ra:=Hp.Row.alloc W' Fq (show(Af K0).length=6 from rfl);have y1:h'.Ext (h'.push (.cells Cr 6 0)):=(Hp.Ext.refl W').push _;generalize h'.push (.cells Cr 6 0)=h1 at al Ra y1;have hu:=(sl.ko x (uY _ te)).1.vs.one.2.1;obtain⟨st,_,y2,R5,n2⟩:=My W' y1 (If _) Ra rfl (k:=x) hu;generalize h1.wr h'.next 0 (Af x)=h2 at st y2 R5 n2;obtain⟨m0,m1,m2,_⟩:=CV R5;have sl2:=sl.ext W' y2;have sb:=fun (g:Hp)=>sM (i:=i) (g:=g) (by omega)
  cases hel:drB a b c x with
  |false=>
   rw[if_neg (by rw[hel];decide)]at hdo hfi;have hrun:∃ e2,dpL (call AC (m+8)) e' h'=.norm e2 h2/\J 0 e2=pt A.bs/\J 1 e2=AI AT a/\J 2 e2=AI AT b/\J 3 e2=AI AT c/\J 10 e2=AI AT ((i:Int) - 1):=by
    unfold dpL;by_cases h1:x.a=a
    ·have d1:iEq x.a a=true:=CU h1
     by_cases h2:x.b=b
     ·have d2:iEq x.b b=true:=CU h2
      have d3:iLe x.c c=false:=K2 (fun h3=>by
       unfold drB at hel;rw[decide_eq_true h1,decide_eq_true h2,decide_eq_true h3]at hel;cases hel)
      simp only[sT,By,BY,reduceIte,gD,Au,t0,Ai,AH,AO,sh,AN,AQ,l3,AK,AJ,t10,c2,BA,ix,Ap,Aj,ld,al,AW,st,m0,m1,m2,t1,t2,t3,d1,d2,d3,Bz,sb];exact⟨_,rfl,by simp[AG,t0,t1,t2,t3]⟩
     ·have d2:iEq x.b b=false:=B9 h2
      simp only[sT,By,BY,reduceIte,gD,Au,t0,Ai,AH,AO,sh,AN,AQ,l3,AK,AJ,t10,c2,BA,ix,Ap,Aj,ld,al,AW,st,m0,m1,m2,t1,t2,t3,d1,d2,Bz,sb];exact⟨_,rfl,by simp[AG,t0,t1,t2,t3]⟩
    ·have d1:iEq x.a a=false:=B9 h1
     simp only[sT,By,BY,reduceIte,gD,Au,t0,Ai,AH,AO,sh,AN,AQ,l3,AK,AJ,t10,c2,BA,ix,Ap,Aj,ld,al,AW,st,m0,m1,m2,t1,t2,t3,d1,Bz,sb];exact⟨_,rfl,by simp[AG,t0,t1,t2,t3]⟩
   obtain⟨e2,r1,r2,r3,r4,r5,r6⟩:=hrun;refine⟨by omega,e2,h2,r1,i,c1,AEh,lv',fv',by omega,fx.trans (.of y2),r2,r3,r4,r5,r6,?_,am.le (by rw[hdl,hP];omega)⟩;rw[hdo,hfi,hP];exact sl2
  |true=>
   rw[if_pos hel]at hdo hfi;have hxx:x.a=a/\x.b=b/\x.c<=c:=by
    unfold drB at hel;rw[uB,uB]at hel;exact⟨of_decide_eq_true hel.1.1,of_decide_eq_true hel.1.2,of_decide_eq_true hel.2⟩
   have d1:iEq x.a a=true:=CU hxx.1;have d2:iEq x.b b=true:=CU hxx.2.1;have d3:iLe x.c c=true:=GW hxx.2.2;have c00:iNe 0 0=false:=B5 rfl;have hfl:=Uz fr O;obtain⟨h3,c3,AHc,lv3,fv3,k3,f3,s3',a3⟩:=aW (m:=m) (k:=k+2*(drO a b c P).length) y2.wf sl2 (by omega) (by omega) (hp3 x hxm) (am.le (by rw[hdl,if_pos hel];omega));rw[hPl]at k3;have k3':call AC (m+8) 105 [pt A.bs,AI AT (i:Int)] h2=.ok (AI AT 0) h3:=k3;have hrun:∃ e2,dpL (call AC (m+8)) e' h'=.norm e2 h3/\J 0 e2=pt A.bs/\J 1 e2=AI AT a/\J 2 e2=AI AT b/\J 3 e2=AI AT c/\J 10 e2=AI AT ((i:Int) - 1):=by
    unfold dpL;simp only[sT,By,BY,reduceIte,gD,Au,t0,Ai,AH,AO,sh,AN,AQ,l3,AK,AJ,t10,c2,BA,ix,Ap,Aj,ld,al,AW,st,m0,m1,m2,t1,t2,t3,d1,d2,d3,cA0,k3',c00,Bz,sb];exact⟨_,rfl,by simp[AG,t0,t1,t2,t3]⟩
   obtain⟨e2,r1,r2,r3,r4,r5,r6⟩:=hrun;refine⟨by omega,e2,h3,r1,i,c3,AHc,lv3,fv3,by omega,(fx.trans (.of y2)).trans f3,r2,r3,r4,r5,r6,?_,by rw[hP];exact a3⟩;rw[hdo,hfi,hP,Sx,Qd];exact s3'
theorem ZH(W:h.Wf)(s:Sl h A T M c0 arm ks fr lv fv bad false)(a b c:Int)(hkl:fr.length+ks.length<=11)(hp3:∀ k∈ks,3*k.p+3<=A.n)(ha:CI arm (k+2*(drO a b c ks).length)):
  ∃ h' c1 AB7 lv' fv',call AC (m+9) 67 [pt A.bs,AI AT a,AI AT b,AI AT c] h=.ok (AI AT 0) h'/\Fx A.D h h'/\Sl h' A T (IV M (drO a b c ks)) c1 AB7 (ks.filter fun k=> !drB a b c k) (frE fr (drO a b c ks)) lv' fv' bad false/\CI AB7 k:=by
 have c00:iNe 0 0=false:=B5 rfl;have k0:=NO (m:=m+7) s.row;obtain⟨_,_,_,l3,_⟩:=BD s.row;have ln:=s.ls.len h;have sb:=sM (i:=ks.length) (g:=h) (by omega);have pre:∃ e1,eM (call AC (m+8)) (As e0 0 [pt A.bs,AI AT a,AI AT b,AI AT c]) h=dpS (call AC (m+8)) e1 h/\J 0 e1=pt A.bs/\J 1 e1=AI AT a/\J 2 e1=AI AT b/\J 3 e1=AI AT c/\J 10 e1=AI AT ((ks.length:Int) - 1):=by
  unfold eM;simp only[iN,IT,sT,By,BY,reduceIte,gD,cA0,k0,AK,AJ,c00,Au,Ai,AH,AO,sh,AN,AQ,l3,AX,ln,Bz,sb];exact⟨_,rfl,by simp[AG]⟩
 obtain⟨e1,p1,t0,t1,t2,t3,t10⟩:=pre;obtain⟨e2,h2,c1,AB7,lv',fv',r2,f2,s2,a2⟩:=Wx (m:=m) (k:=k) W s hkl hp3 ha t0 t1 t2 t3 t10;refine⟨h2,c1,AB7,lv',fv',?_,f2,s2,a2⟩;rw[lN rfl,nU,p1,nt];simp only[A9,An,r2,A8,A3];unfold dpE;simp only[sT,By,BY,reduceIte,lV0]
end
end
noncomputable section
open Go
set_option maxRecDepth 100000
theorem Ux:∀ (ks:List Kt) (i:Nat) (k:Kt),ks[i]? =some k->((flS ks).drop (5*i)).take 5=KE k
 |[],i,k,h=>by cases h
 |x::ks,0,k,h=>by
  have h:some x=some k:=h;cases h;show((KE x++flS ks).drop 0).take 5=_;rw[uv];exact List.take_left' rfl
 |x::ks,i+1,k,h=>by
  rw[List.getElem?_cons_succ]at h;show((KE x++flS ks).drop (5*(i+1))).take 5=_;have:5*(i+1)=(KE x).length+5*i:=by show _=5+_;omega
  rw[this,wm];exact Ux ks i k h
section
variable {F:ABZ}{e:Env}{h h':Hp}{A:At}{bad m k n:Nat}{ks:List Kt}{v lv fv w:IN}{ov:Bool}
theorem Gm{h:Hp}{u:IN}{xs:List IN}(V:h.ABy u xs):known u=true/\cellsOf u=[u]/\oneCell u=true:=by
 rcases V with ⟨rfl,rfl⟩|⟨b,off,c,el,L,rfl,_⟩<;>exact⟨rfl,rfl,rfl⟩
theorem Ro{h:Hp}{b el el':Nat}{L L':List IN}(r:h.Row b el L)(r':h.Row b el' L'):L=L':=by
 obtain⟨c,hc,hl⟩:=r;obtain⟨c',hc',hl'⟩:=r';rw[hc]at hc';injection hc' with e1 e2 e3
 subst e1;refine AAV e2 fun i h1 h2=>?_
 have a1:=(hl i h1).2;have a2:=(hl' i h2).2;rw[a1,tY,tY,tW h1,tW h2]at a2;exact a2
theorem Hp.AL.len(o:h.AL k v ks)(g:Hp):AB2 v g=.ok (AI AT (ks.length:Int)) g:=by
 rcases o with ⟨rfl,rfl⟩|⟨b,L,rfl,_⟩<;>rfl
theorem Hp.AL.keep(o:h.AL k v ks)(hk:∀ b el L,k<=b->h.Row b el L->h'.Row b el L):h'.AL k v ks:=by
 rcases o with h1|⟨b,L,h1,h2,h3,h4,h5⟩
 ·exact .inl h1
 ·exact .inr ⟨b,L,h1,hk _ _ _ h4 h2,h3,h4,fun x hx=>(h5 x hx).keep fun b el L hb _ r=>hk b el L hb r⟩
theorem Hp.AL.ext(o:h.AL k v ks)(W:h.Wf)(x:h.Ext h'):h'.AL k v ks:=o.keep fun b el L _ r=>r.ext W x
theorem Hp.AL.at(o:h.AL k v ks){i:Nat}{x:Kt}(hi:ks[i]? =some x):∃ b u,ACN 5 v (AI AT (i:Int)) h=.ok (.pointer (some ⟨b,5*i,none⟩)) h/\loadN 5 ⟨b,5*i,none⟩ h=.ok (Bn x.a x.b x.c x.s u) h/\h.ABy u (x.l.map bv):=by
 have hil:=(uK.1 hi).1;rcases o with ⟨rfl,rfl⟩|⟨b,L,rfl,h2,h3,h4,h5⟩
 ·cases hi
 ·have hLl:L.length=ks.length:=by rw[<- OF (f:=Kt.core),h3,OF]
  obtain⟨y,hy⟩:∃ y,L[i]? =some y:=⟨_,tW (by omega)⟩;have hc:=Ux L i y hy;have hyx:y.core=x.core:=by
   have h6:=congrArg (fun l=>l[i]?) h3;simp only[uq,hy,hi,vN]at h6;injection h6
  have e1:y.a=x.a:=congrArg Kc.a hyx;have e2:y.b=x.b:=congrArg Kc.b hyx;have e3:y.c=x.c:=congrArg Kc.c hyx;have e4:y.s=x.s:=congrArg Kc.s hyx;have e5:y.l=x.l:=congrArg Kc.l hyx;refine⟨b,y.u,?_,?_,?_⟩
  ·have:=Ch (h:=h) (n:=ks.length) (c:=ks.length) (es:=5) (b:=b) (off:=0) (i:=i) (k:=.i64) hil
   rwa [sh,wP]at this
  ·rw[h2.loadN (by rw[O4,hLl];omega),hc,<- e1,<- e2,<- e3,<- e4];rfl
  ·rw[<- e5];exact(h5 y (tq hy)).vs.vals
theorem NB(W:h.Wf){g:O}{a b c:Int}{s:Nat}{u:IN}(hg:g e=Bn a b c s u):CW g F e h=.ok (pt h.next) (h.ABY 0 (A7 a b c s u)):=by rw[Dx,hg,Dt W];rfl
theorem bN(W:h.Wf){a b c:Int}{s:Nat}{u w:IN}{l:List Nat}(U:h.ABy u (l.map bv))(V:h.ABy w (l.map bv))(hl:∀ x∈l,x<256):
  ∃ h',call AC (m+2) 41 [Bn a b c s u,Bn a b c s w] h=.ok (.bool true) h'/\h.Ext h':=by
 have b1:=fun (F:ABZ) (e:Env) (he:J 0 e=Bn a b c s u)=>NB (F:=F) W he
 have x1:=(Hp.Ext.refl W).ABY 0 (A7 a b c s u);have R1:=Hp.Row.new W 0 (A7 a b c s u);generalize h.ABY 0 (A7 a b c s u)=h1 at b1 x1 R1;have b2:=fun (F:ABZ) (e:Env) (he:J 1 e=Bn a b c s w)=>NB (F:=F) x1.wf he
 have y2:=(Hp.Ext.refl x1.wf).ABY 0 (A7 a b c s w);have R2:=Hp.Row.new x1.wf 0 (A7 a b c s w);generalize h1.ABY 0 (A7 a b c s w)=h2 at b2 y2 R2;have x2:=x1.trans y2;obtain⟨l0,l1,l2,l3,l4,_⟩:=Br (R1.ext x1.wf y2);obtain⟨m0,m1,m2,m3,m4,_⟩:=Br R2;have ca:∀ z:Int,iEq z z=true:=fun z=>CU rfl
 have k1:=sJ (n:=m) (U.ext W x2) (V.ext W x2) hl hl;rw[decide_eq_true rfl]at k1;refine⟨h2,?_,x2⟩;rw[kh rfl];unfold d41;simp only[iN,IT,sT,By,BY,reduceIte,gD,b1,b2,AH,AO,sh,AN,AQ,l0,l1,l2,l3,l4,m0,m1,m2,m3,m4,AK,AJ,ca,cA0,k1,lV0]
theorem qE:smS=BB (AY 0 (A4 smL)) smE:=rfl
theorem nJ:d15=eE:=rfl
theorem hU{ks':List Kt}{k':Nat}(W:h.Wf)(V:h.AL k v ks)(V':h.AL k' w ks')(hc:ks.map Kt.core=ks'.map Kt.core)(hb:∀ x∈ks,∀ y∈x.l,y<256)(hl:ks.length<=1000):
  ∃ h',call AC (m+3) 15 [v,w] h=.ok (.bool true) h'/\h.Ext h':=by
 have hll:ks.length=ks'.length:=by rw[<- OF (f:=Kt.core),hc,OF]
 have ln:=V.len h;have ln':=V'.len h;have c00:iNe (ks.length:Int) (ks'.length:Int)=false:=B5 (by rw[hll]);have pre:∃ e1,eE (call AC (m+2)) (As e0 0 [v,w]) h=smS (call AC (m+2)) e1 h/\J 0 e1=v/\J 1 e1=w/\J 5 e1=AI AT ((0:Nat):Int):=by
  unfold eE;simp only[iN,IT,sT,By,BY,reduceIte,AX,ln,ln',AK,AJ,c00];exact⟨_,rfl,by simp[AG]⟩
 obtain⟨e1,p1,t0,t1,t5⟩:=pre;have run:∃ e2 h2,A4 smL (call AC (m+2)) e1 h=.exit 0 e2 h2/\h.Ext h2:=by
  refine Bb (I:=fun i e' h'=>h.Ext h'/\J 0 e'=v/\J 1 e'=w/\J 5 e'=AI AT (i:Int)/\i<=ks.length)
   (Q:=fun x=>∃ e2 h2,x=.exit 0 e2 h2/\h.Ext h2) ks.length (by omega) (fun i e' h' ⟨x',u0,u1,u5,hi⟩=>?_) ⟨.refl W,t0,t1,t5,uD _⟩
  have W':=x'.wf;have ln:=V.len h';by_cases hlt:i<ks.length
  ·left
   have c1:=EP hlt;obtain⟨x,hx⟩:∃ x,ks[i]? =some x:=⟨_,tW hlt⟩;obtain⟨y,hy⟩:∃ y,ks'[i]? =some y:=⟨_,tW (by omega)⟩;have hyx:x.core=y.core:=by
    have h6:=congrArg (fun l=>l[i]?) hc;simp only[uq,hy,hx,vN]at h6;injection h6
   have e1:x.a=y.a:=congrArg Kc.a hyx;have e2:x.b=y.b:=congrArg Kc.b hyx;have e3:x.c=y.c:=congrArg Kc.c hyx;have e4:x.s=y.s:=congrArg Kc.s hyx;have e5:x.l=y.l:=congrArg Kc.l hyx;have xm:=x'.marked;obtain⟨b1,u,ix1,ld1,U⟩:=(V.ext W xm).at hx;obtain⟨b2,u',ix2,ld2,U'⟩:=(V'.ext W xm).at hy;rw[<- e1,<- e2,<- e3,<- e4]at ld2;rw[<- e5]at U';obtain⟨g,k6,x6⟩:=bN (m:=m) (a:=x.a) (b:=x.b) (c:=x.c) (s:=x.s) xm.quiet.wf (U.same (h':=h'.marked.quiet) rfl) (U'.same (h':=h'.marked.quiet) rfl) (hb x (tq hx));have q6:∀ e:Env,J 20 e=Bn x.a x.b x.c x.s u->J 24 e=Bn x.a x.b x.c x.s u'->Aa .free (AS 41 [J 20,J 24]) (call AC (m+2)) e h'.marked=.ok (.bool true) (h'.marked.back g):=fun e e1 e2=>by
    refine BF ?_;rw[BP,AU,AU,A5,e1,e2];exact k6
   have y7:h'.Ext (h'.marked.back g):=(Hp.Ext.refl W').marked.trans (.back x6);generalize h'.marked.back g=h7 at q6 y7;have a3:=Cd (i:=i) (h:=h7) (by omega);have hrun:∃ e2,smL (call AC (m+2)) e' h'=.norm e2 h7/\J 0 e2=v/\J 1 e2=w/\J 5 e2=AI AT ((i+1:Nat):Int):=by
    unfold smL;simp only[sT,By,BY,reduceIte,AX,u0,ln,AK,AJ,u5,c1,Az,BA,ix1,Ap,Aj,ld1,u1,ix2,ld2,q6,BM,BK,Bool.not_true,BR,a3];exact⟨_,rfl,by simp[AG,u0,u1]⟩
   obtain⟨e2,r1,r2,r3,r4⟩:=hrun;exact⟨hlt,e2,h7,r1,x'.trans y7,r2,r3,r4,hlt⟩
  ·right
   have c1:=Cv (show ks.length<=i by omega);obtain⟨e2,r1⟩:∃ e2,smL (call AC (m+2)) e' h'=.exit 0 e2 h':=by
    unfold smL;simp only[sT,By,BY,reduceIte,AX,u0,ln,AK,AJ,u5,c1];exact⟨_,rfl⟩
   rw[r1];exact⟨rfl,e2,h',rfl,x'⟩
 obtain⟨e2,h2,r1,x2⟩:=run;refine⟨h2,?_,x2⟩;rw[kL rfl,nJ,p1,qE];simp only[A9,An,r1,A8,A3];unfold smE;simp only[sT,By,BY,reduceIte,lV0]
theorem gq{k:TK}{t:Nat}{a:Addr}{g:O}(hk:k=.ptr t)(hg:g e=.pointer (some a)):oEq k true g (kV (.pointer none)) F e h=.ok (.bool true) h:=by
 subst hk;show(match eqV (.ptr t) (g e) (.pointer none)with|some r=>okB (true != r) h|none=>.no)=_;rw[hg];exact Ff
theorem Vs(R:h.Row A.bs 0 (slL A.bd A.tb lv fv bad ov)):call AC (m+1) 53 [pt A.bs] h=.ok (.bool ov) h:=by
 obtain⟨_,_,_,_,_,_,l6⟩:=BD R;have p1:∀ (F:ABZ) (e:Env) (g:Hp),J 0 e=pt A.bs->oEq Hu.k true (J 0) (kV (.pointer none)) F e g=.ok (.bool true) g:=fun F e g he=>gq WT he
 rw[lC rfl];unfold d53;simp only[iN,IT,sT,By,BY,reduceIte,gD,p1,Au,Ai,AH,AO,sh,AN,AQ,l6,lV0]
end
end
noncomputable section
open Go
set_option maxRecDepth 100000
def opL(kd a b c n:Int)(u w:IN):List IN:=[AI AT kd,AI AT a,AI AT b,AI AT c,AI AT n,u,w]
def opV(kd a b c n:Int)(u w:IN):IN:=.agg ⟨opL kd a b c n u w⟩
def S9(kd:Int):Prop:=kd=1\/kd=2\/kd=3\/kd=4
def iq(ks:List Kt)(n:Nat)(kd a b c:Int)(l:List Nat)(z:Int):Prop:=
 (S9 kd/\Gd ks n a b c l=some z)\/((kd=5\/kd=6)/\IU ks a b c=some z)\/(kd=7/\abE ks a b c=some z)\/(kd=8/\drO a b c ks=[]/\z=0)\/(¬ S9 kd/\kd≠5/\kd≠6/\kd≠7/\kd≠8/\z=0)
def ST(T M:List Nat)(ks:List Kt)(fr:List Nat)(kd a b c:Int)(l M':List Nat)(ks':List Kt)(fr':List Nat):Prop:=
 (S9 kd/\Gd ks fr.length a b c l=none/\∃ p k',fr=p::fr'/\ks'=GB (ks++[k'])/\k'.core=⟨a,b,c,1,l,p⟩/\M'=EA T M p l (AB1 T a b c 1 l))\/
 ((kd=5\/kd=6)/\∃ j kx,ks[j]? =some kx/\(kx.a=a/\kx.b=b/\kx.c=c)/\Cc a b c ks=false/\ks'=((ks.set j {kx with s:=2}).filter fun k=> !elB a b c k)/\fr'=frE fr ((ks.set j {kx with s:=2}).filter (elB a b c))/\M'=Hs (HF M kx.p (AB1 T a b c 2 kx.l)) (((ks.set j {kx with s:=2}).filter (elB a b c)).map (·.p)))\/
 (kd=7/\∃ j kx,ks[j]? =some kx/\(kx.a=a/\kx.b=b/\kx.c=c)/\Cc a b c ks=false/\ks'=ks.take j++ks.drop (j+1)/\fr'=Ef (fr++[kx.p])/\M'=Hs M [kx.p])\/
 (kd=8/\ks'=(ks.filter fun k=> !drB a b c k)/\fr'=frE fr (drO a b c ks)/\M'=IV M (drO a b c ks))
section

end
end
noncomputable section
open Go
set_option maxRecDepth 100000
theorem XG:∀ (A:List Kt) (x:Kt),(Io A x).Perm (x::A):=fun A x=>by
 unfold Io;refine(wR _).trans ?_;have:∀ l:List Kt,(In x l).Perm (x::l):=fun l=>by
  induction l with
  |nil=>exact .refl _
  |cons y r ih=>
   rw[N4];split
   ·exact(ih.cons y).trans (.swap x y r)
   ·exact .refl _
 exact(this _).trans ((wR A).cons x)
theorem SD:∀ (B A:List Kt),(srt A B).Perm (A++B)
 |[],A=>by
  rw[uH];exact .refl _
 |x::B,A=>by
  show(srt (Io A x) B).Perm _;exact(SD B _).trans (((XG A x).append_right B).trans xR.symm)
theorem Tk(l:List Kt):(GB l).Perm l:=by
 unfold GB;have:=SD (l.drop 1) (l.take 1)
 rwa [va]at this
def Kt.key(k:Kt):Int×Int×Int:=(k.a,k.b,k.c)
def Kt.plc(k:Kt):Nat:=k.p
structure ACy (np:Nat)(ks:List Kt)(fr:List Nat):Prop where
 key:(ks.map Kt.key).Nodup
 plc:(ks.map Kt.plc++fr).Perm (List.range np)
abbrev so(ks:List Kt)(fr:List Nat):Prop:=ACy 8 ks fr
section
variable {T M M':List Nat}{ks ks':List Kt}{fr fr':List Nat}{kd a b c:Int}{l:List Nat}{np:Nat}
theorem ACy.len(i:ACy np ks fr):ks.length+fr.length=np:=by
 have:=i.plc.length_eq;rw[No,OF,List.length_range]at this;exact this
theorem ACy.lt(i:ACy np ks fr):∀ k∈ks,3*k.p+3<=3*np:=fun k hk=>by
 have h1:k.p∈ks.map Kt.plc++fr:=uf _ (vL.2 ⟨k,hk,rfl⟩);have h2:=List.mem_range.1 (i.plc.mem_iff.1 h1);omega
theorem ACy.nd(i:ACy np ks fr):(ks.map Kt.plc).Nodup:=(xT.1 (i.plc.nodup_iff.2 List.nodup_range)).1
theorem Ga{α β:Type}{f:α->β}:∀ {l:List α},(l.map f).Nodup->∀ {x y:α},x∈l->y∈l->f x=f y->x=y
 |[],_,x,y,hx,_,_=>by cases hx
 |w::l,h,x,y,hx,hy,hf=>by
  rw[xU,wi]at h;rcases uA.1 hx with h1|h1
  ·rcases uA.1 hy with h2|h2
   ·rw[h1,h2]
   ·exact absurd (vL.2 ⟨y,h2,by rw[<- hf,h1]⟩) h.1
  ·rcases uA.1 hy with h2|h2
   ·exact absurd (vL.2 ⟨x,h1,by rw[hf,h2]⟩) h.1
   ·exact Ga h.2 h1 h2 hf
theorem QU{x:Kt}(h:Bp a b c x=true):x.key=(a,b,c):=by
 obtain⟨rfl,rfl,rfl⟩:=H7 h;rfl
theorem Np{x:Kt}(h:x.key=(a,b,c)):Bp a b c x=true:=by
 unfold Kt.key at h;injection h with h1 h2
 injection h2 with h2 h3
 unfold Bp;rw[decide_eq_true h1,decide_eq_true h2,decide_eq_true h3];rfl
theorem QV(hn:(ks.map Kt.key).Nodup){x:Kt}(hx:x∈ks)(hk:x.key=(a,b,c)):ks.find? (Bp a b c)=some x:=by
 cases h:ks.find? (Bp a b c)with
 |none=>exact absurd (Np hk) (yO.1 h x hx)
 |some y=>rw[Ga hn (List.mem_of_find?_eq_some h) hx ((QU (yF h)).trans hk.symm)]
theorem KK(P:Kt->Bool):∀ l:List Kt,(l.filter P++l.filter fun k=> !P k).Perm l
 |[]=>.refl _
 |x::l=>by
  cases h:P x
  ·rw[vq (by rw[h];decide),vp (by rw[h];rfl)]
   exact xR.trans ((KK P l).cons x)
  ·rw[vp h,vq (by rw[h];decide)]
   exact(KK P l).cons x
theorem ACy.cut(i:ACy np ks fr)(P:Kt->Bool){out:List Kt}(ho:out.Perm (ks.filter P)):ACy np (ks.filter fun k=> !P k) (frE fr out):=by
 refine⟨yc (zw.map _) i.key,?_⟩;have h1:(frE fr out).Perm (fr++(ks.filter P).map Kt.plc):=(JW out fr).trans ((ho.map Kt.plc).append_left fr);have h2:((ks.filter fun k=> !P k).map Kt.plc++(fr++(ks.filter P).map Kt.plc)).Perm (ks.map Kt.plc++fr):=by
  rw[<- uC];refine(zg).trans ?_;rw[<- uC,<- ud];exact((KK P ks).map Kt.plc).append_right fr
 exact(h1.append_left _).trans (h2.trans i.plc)
theorem ACy.set(i:ACy np ks fr){j:Nat}{x y:Kt}(hj:ks[j]? =some x)(h1:y.key=x.key)(h2:y.p=x.p):ACy np (ks.set j y) fr:=by
 have e1:(ks.set j y).map Kt.key=ks.map Kt.key:=by rw[xa,h1];exact M9 (by rw[uq,hj];rfl)
 have e2:(ks.set j y).map Kt.plc=ks.map Kt.plc:=by
  rw[xa,show y.plc=x.plc from h2];exact M9 (by rw[uq,hj];rfl)
 exact⟨e1 ▸ i.key,e2 ▸ i.plc⟩
theorem ZS{P Q:List Kt}(p:Kt->Bool):(P++Q).find? p=(P.find? p).or (Q.find? p):=List.find?_append
theorem Jw(i:ACy np ks fr)(t:ST T M ks fr kd a b c l M' ks' fr'):ACy np ks' fr'/\iq ks' fr'.length kd a b c l 0:=by
 rcases t with ⟨hk,hz,p,k',rfl,rfl,hc,_⟩|⟨hk,j,kx,hj,ACk,_,rfl,rfl,_⟩|⟨rfl,j,kx,hj,ACk,hst,rfl,rfl,_⟩|⟨rfl,rfl,rfl,_⟩
 ·unfold Gd at hz
  split at hz
  ·cases hz
  rename_i hn;split at hz
  ·split at hz<;>cases hz
  rename_i hfd;have ek:k'.key=(a,b,c):=by
   show(k'.core.a,k'.core.b,k'.core.c)=_;rw[hc]
  have ep:k'.p=p:=congrArg Kc.p hc;have el:k'.l=l:=congrArg Kc.l hc;have pm:=Tk (ks++[k']);have kn:((ks++[k']).map Kt.key).Nodup:=by
   rw[ud,xT];refine⟨i.key,wi.2 ⟨List.not_mem_nil,List.nodup_nil⟩,fun x hx y hy hxy=>?_⟩;rw[uF.1 hy]at hxy;obtain⟨w,hw,rfl⟩:=vL.1 hx;exact absurd (Np (hxy.trans ek)) (yO.1 hfd w hw)
  have kn':((GB (ks++[k'])).map Kt.key).Nodup:=(pm.map Kt.key).nodup_iff.2 kn;refine⟨⟨kn',?_⟩,.inl ⟨hk,?_⟩⟩
  ·refine((pm.map Kt.plc).append_right fr').trans (zk ?_ i.plc)
   rw[ud,uC];show(ks.map Kt.plc++([k'.p]++fr')).Perm _;rw[ep];exact .refl _
  ·unfold Gd
   rw[if_neg hn,QV kn' (pm.mem_iff.2 (uY _ (uF.2 rfl))) ek];simp only;rw[if_pos el]
 ·have kk:({kx with s:=2}:Kt).key=(a,b,c):=by obtain⟨rfl,rfl,rfl⟩:=ACk;rfl
  have i2:=i.set (y:={kx with s:=2}) hj rfl rfl;have hX:({kx with s:=2}:Kt)∈ks.set j {kx with s:=2}:=List.mem_set (uK.1 hj).1 _;generalize ks.set j {kx with s:=2}=ksX at i2 hX;have i3:=i2.cut (elB a b c) (out:=ksX.filter (elB a b c)) (.refl _);refine⟨i3,.inr (.inl ⟨hk,?_⟩)⟩;have hel:elB a b c {kx with s:=2}=false:=by
   obtain⟨rfl,rfl,rfl⟩:=ACk;unfold elB;rw[decide_eq_false (Int.lt_irrefl _),Bool.and_false]
  unfold IU;rw[QV i3.key (ut.2 ⟨hX,by rw[hel];rfl⟩) kk];exact if_pos rfl
 ·obtain⟨AC6,hPl⟩:=PN hj
  have kk:kx.key=(a,b,c):=by obtain⟨rfl,rfl,rfl⟩:=ACk;rfl
  generalize ks.take j=P at *;generalize ks.drop (j+1)=Q at *;subst AC6;have pm:(P++kx::Q).Perm (kx::(P++Q)):=xR;have kn:((kx::(P++Q)).map Kt.key).Nodup:=(pm.map Kt.key).nodup_iff.1 i.key;rw[xU,wi]at kn;refine⟨⟨kn.2,?_⟩,.inr (.inr (.inl ⟨rfl,?_⟩))⟩
  ·refine((G6 (fr++[kx.p])).append_left _).trans (zk ?_ i.plc)
   rw[<- uC];refine zg.trans ?_;show(kx.plc::((P++Q).map Kt.plc++fr)).Perm _;exact((pm.map Kt.plc).symm).append_right fr
  ·have hne:(P++Q).find? (Bp a b c)=none:=yO.2 fun x hx hf=>kn.1 (vL.2 ⟨x,hx,(QU hf).trans kk.symm⟩)
   have ADr:Cc a b c (P++Q)=false:=by
    unfold Cc at hst ⊢;rw[ZS]at hst ⊢;cases hP:P.find? (Iw a b)with
    |some y=>
     rw[hP]at hst;exact hst
    |none=>
     rw[hP]at hst;rw[Option.none_or]at hst ⊢;cases hx:Iw a b kx
     ·rw[List.find?_cons_of_neg (by rw[hx];decide)]at hst
      exact hst
     ·rw[List.find?_cons_of_pos hx]at hst
      simp only at hst;have:=of_decide_eq_false hst;exact absurd (Int.le_of_eq ACk.2.2.symm) this
   unfold abE;rw[ADr,hne,if_neg (by decide)]
 ·have i3:=i.cut (drB a b c) (out:=drO a b c ks) (wR _)
  refine⟨i3,.inr (.inr (.inr (.inl ⟨rfl,?_,rfl⟩)))⟩;unfold drO;rw[List.filter_filter,List.filter_eq_nil_iff.2 (fun x _=>by cases drB a b c x<;>decide)];rfl
end
end
noncomputable section
open Go
set_option maxRecDepth 100000
theorem JP{l l':List Nat}(hl:l.length=l'.length)(h:∀ i,i<l.length->l.getD i 0=l'.getD i 0):l=l':=by
 refine AAV hl fun i h1 h2=>?_
 have:=h i h1;rw[tY,tY,tW h1,tW h2]at this;exact this
theorem KT{l:List Nat}{n i:Nat}(h:i<n):(l.take n).getD i 0=l.getD i 0:=by
 rw[tY,tY,List.getElem?_take,if_pos h]
theorem KR{l:List Nat}{n i:Nat}:(l.drop n).getD i 0=l.getD (n+i) 0:=by
 rw[tY,tY,List.getElem?_drop]
theorem Vx:∀ (k:Nat) (l:List Nat) (p:Nat) (ns:List Nat) (q:Nat),rdN k l p=some (ns,q)->ns.length=k
 |0,l,p,ns,q,h=>by cases h;rfl
 |k+1,l,p,ns,q,h=>by
  rw[RW]at h;cases hu:FP 0 0 (l.drop p)with
  |none=>rw[hu]at h;cases h
  |some vj=>
   obtain⟨v,j⟩:=vj;rw[hu]at h;simp only at h;by_cases hv:v<=1099511627776
   ·rw[if_pos hv]at h
    cases hr:rdN k l (p+j)with
    |none=>rw[hr]at h;cases h
    |some y=>
     obtain⟨vs,q'⟩:=y;rw[hr]at h;cases h;rw[tZ,Vx k l (p+j) vs _ hr]
   ·rw[if_neg hv]at h;cases h
theorem ae{T:List Nat}{a b c:Int}{s:Nat}{l:List Nat}(h:ABp a b c s l.length=true):LF T (AB1 T a b c s l) (CN a.toNat b.toNat c.toNat s l.length (CG T l)):=by
 obtain⟨h1,h2,h3,h4,h5,h6,h7,h8⟩:=EN h;have hst:=IJ T l;refine(RN MP).2 ?_;have hle:∀ v∈CN a.toNat b.toNat c.toNat s l.length (CG T l),v<=1099511627776:=fun v hv=>by
  unfold CN at hv;simp only[uA,zD,or_false]at hv;omega
 have e0:at6 (CN a.toNat b.toNat c.toNat s l.length (CG T l)) 0=s:=rfl;have e1:at6 (CN a.toNat b.toNat c.toNat s l.length (CG T l)) 1=a.toNat:=rfl;have e2:at6 (CN a.toNat b.toNat c.toNat s l.length (CG T l)) 2=b.toNat:=rfl;have e3:at6 (CN a.toNat b.toNat c.toNat s l.length (CG T l)) 3=c.toNat:=rfl;have e4:at6 (CN a.toNat b.toNat c.toNat s l.length (CG T l)) 4=l.length:=rfl;have e5:at6 (CN a.toNat b.toNat c.toNat s l.length (CG T l)) 5=CG T l:=rfl;have hr:=Ld (CN a.toNat b.toNat c.toNat s l.length (CG T l)) [] (th (60 - (B6 (CN a.toNat b.toNat c.toNat s l.length (CG T l))).length) 0++G7 (CG T (LJ (CN a.toNat b.toNat c.toNat s l.length (CG T l))))) hle;refine⟨(B6 (CN a.toNat b.toNat c.toNat s l.length (CG T l))).length,?_,⟨by rw[e0];omega,by rw[e4];omega,by rw[e5];omega,?_⟩,rfl⟩
 ·have hx:AB1 T a b c s l=B6 (CN a.toNat b.toNat c.toNat s l.length (CG T l))++(th (60 - (B6 (CN a.toNat b.toNat c.toNat s l.length (CG T l))).length) 0++G7 (CG T (LJ (CN a.toNat b.toNat c.toNat s l.length (CG T l))))):=by
   unfold AB1 Ec;rw[<- uC];rfl
  rw[hx];simp only[uN,uR,sh]at hr;exact hr
 ·rw[e0,e1,e2,e3]
  exact decide_eq_true ⟨by omega,by omega,by omega,by omega,by omega,by omega,h7,by omega⟩
theorem RO{T:List Nat}{ns:List Nat}{l:List Nat}(hl:l.length=64)(hz:∀ x∈l,x=0):¬ LF T l ns:=fun h=>by
 have hlt:∀ x∈l,x<256:=fun x hx=>by rw[hz x hx];decide
 obtain⟨q,h1,h2,h3⟩:=(RN hlt).1 h;have hlen:=Vx _ _ _ _ _ h1;obtain⟨_,_,_,h4⟩:=h2;have hs:=(EN h4).2.2.2.2.2.2.1;cases ns with
 |nil=>cases hlen
 |cons n ns=>
  have hn:n=1\/n=2:=hs;have hu:Bx n=[n]:=by
   unfold Bx;rw[dif_pos (by omega)]
  have:n∈l:=by
   rw[<- h3];unfold Ec LJ PY;refine uf _ (uf _ ?_);rw[FC,hu];exact uf _ te
  have:=hz n this;omega
end
end Go.Proofs.YtbjadbhkogcfeaaGreat
